/-
  Contracts: plans: why one has no schema, by the document.
  Plans: the document's schema is the program's.
  Contracts: the first questions.
  What is built is right.
  What is built: the whole.
  Nothing is left here.
  Contracts: two lists that are one.
  A plan's nodes hang on the plan alone.
  Nothing is left here.
  Contracts: any plan has its nodes, or none.
-/
import Derived.Test.YtgkkoeodinlffaaPartH
import Derived.Test.YtgkkoeodinlffaaPartG
section
set_option linter.unusedVariables false
set_option linter.unusedSimpArgs false
namespace Go.Proofs
open Go.Flat
set_option maxRecDepth 100000
set_option linter.unusedSimpArgs false
set_option linter.unusedVariables false
attribute [local simp] Bool.and_assoc Bool.or_assoc evalG evalX efD skF guardG guardL isCall stepL evalOp ev evs lk tmpsL app AV.ok fresh vv putCells insV ins del putL place Go.Flat.look fillC fillR getCells loadF storeF binF scalarBin intBin strBin isShift shiftBin unF lenF maxF minF rowsF appendF builtinF idxF natOf sliceP sliceF optEv Flat.cut overwrite toPV toPVs constAV scalarC scalarCs AV.cells TI.isAgg allSome andAll scalarEq buildable Go.Flat.lim retQ resL resAll resOne PartOf noTmp closedIn refs refs.refsL isSomeV hasB ids leA leA.leL renA renA.renL callB refsAll backL dropIds renS LiesAt injB ownB freshB memN locId insAll leA_refl leL_refl okS frzS frzA frzA.frzL evalD feet fine updCells cellsFrom memP footRf footWf noTmpU updIds opOps opIds idsA footR footW guardTs opTs dstTs callR callW renLoc renC inBlockQ thenQ Value.oneCell' IntKind.bits IntKind.signed PV.up toPH toPHs

attribute [local simp] Pl.row_eq Pl.av
theorem spec126 (S : List (List Int)) (hS8 : all8 S) : ∀ p : Pl, p.gd → p.bnd → ∀ A : List (List Int), all8 A → A.length + p.hgt ≤ 1000 → Flat.Sp Try.prog 126 [p.av, .p (.ps (S.map srow)), .p (.ps (A.map srow))] [] (.tup [.p (.ps ((schR S p A).1.map trow)), vv (.int .i64 (schR S p A).2)]) [] := by
  refine Pl.ind fun k m kids ex cols wth agg rds ih hg hb A hA hl => ?_
  rw [Pl.gd] at hg
  rw [Pl.bnd] at hb
  rw [Pl.hgt] at hl
  obtain ⟨hf, -, hgl⟩ := hg
  obtain ⟨b1, b2, b3, b4, hbl⟩ := hb
  exact spec126_step S A hS8 hA (by omega) k m kids ex cols wth agg rds hf b1 b2 b3 b4 fun x hx A2 h8 hl2 => ih x hx (Pl.gdL_mem hgl x hx) (Pl.bndL_mem hbl x hx) A2 h8 (by have := Pl.hgtL_mem hx; omega)
def infP (S : List (List Int)) (p : Pl) : List Int × Int :=
  if checkSch S != 0 then ([], checkSch S) else if checkP p != 0 then ([], checkP p)
  else if (schR S p []).2 != 0 then ([], (schR S p []).2) else ((schR S p []).1, 0)

theorem spec68_a (S : List (List Int)) (hs : S.length ≤ Flat.lim) (hl : ∀ s ∈ S, s.length ≤ Flat.lim) (k m : Int) (kids : List Pl) (ex : List E) (cols wth : List Int) (agg rds : Int) (hb : (Pl.mk k m kids ex cols wth agg rds).bnd) (h0 : (checkSch S != 0) = true) : Flat.Sp Try.prog 68 [(Pl.mk k m kids ex cols wth agg rds).av, .p (.ps (S.map srow))] [] (.tup [.p (.ps ((infP S (Pl.mk k m kids ex cols wth agg rds)).1.map trow)), vv (.int .i64 (infP S (Pl.mk k m kids ex cols wth agg rds)).2)]) [] := by
  refine sk Try.func68 ?_
  intro F G hn hG
  have h0e : (checkSch S == 0) = false := by simpa using h0
  have hfin : (infP S (Pl.mk k m kids ex cols wth agg rds)) = ([], checkSch S) := by unfold infP; rw [if_pos h0]
  refine sq ?_
  refine rg 1000 ?_
  refine pr [1, 3, 4, 29] ?_
  refine sq ?_
  refine rc 2000 ?_
  refine oc id (spec124 S hs hl) ?_
  refine oe 2100 ?_
  refine on ?_
  refine pr [1, 3, 4, 8, 10, 29] ?_
  refine sq ?_
  refine sq ?_
  refine rg 3000 ?_
  refine pr [1, 3, 4, 8, 11, 29] ?_
  refine ce ?_
  refine k_skip ?_
  refine sq ?_
  refine sq ?_
  refine rg 5000 ?_
  refine pr [1, 3, 4, 8, 15, 29] ?_
  refine ct ?_
  refine sq ?_
  refine rg 6000 ?_
  refine pr [1, 3, 4, 8, 17, 29] ?_
  refine k_ret ?_
  show retQ _ _ _ _ _ _ _
  simp [*]

attribute [local simp] trow in
theorem spec68_b (S : List (List Int)) (hs : S.length ≤ Flat.lim) (hl : ∀ s ∈ S, s.length ≤ Flat.lim) (k m : Int) (kids : List Pl) (ex : List E) (cols wth : List Int) (agg rds : Int) (hb : (Pl.mk k m kids ex cols wth agg rds).bnd) (h0 : (checkSch S != 0) = false) (hsp : (checkP (Pl.mk k m kids ex cols wth agg rds) != 0) = false → Flat.Sp Try.prog 126 [(Pl.mk k m kids ex cols wth agg rds).av, .p (.ps (S.map srow)), .p (.ps [])] [] (.tup [.p (.ps ((schR S (Pl.mk k m kids ex cols wth agg rds) []).1.map trow)), vv (.int .i64 (schR S (Pl.mk k m kids ex cols wth agg rds) []).2)]) []) (h8 : (checkP (Pl.mk k m kids ex cols wth agg rds) != 0) = false → (schR S (Pl.mk k m kids ex cols wth agg rds) []).1.length ≤ 8) : Flat.Sp Try.prog 68 [(Pl.mk k m kids ex cols wth agg rds).av, .p (.ps (S.map srow))] [] (.tup [.p (.ps ((infP S (Pl.mk k m kids ex cols wth agg rds)).1.map trow)), vv (.int .i64 (infP S (Pl.mk k m kids ex cols wth agg rds)).2)]) [] := by
  refine sk Try.func68 ?_
  intro F G hn hG
  have h0e : checkSch S = 0 := by simpa using h0
  have hfin0 : (infP S (Pl.mk k m kids ex cols wth agg rds)) = if checkP (Pl.mk k m kids ex cols wth agg rds) != 0 then ([], checkP (Pl.mk k m kids ex cols wth agg rds)) else if (schR S (Pl.mk k m kids ex cols wth agg rds) []).2 != 0 then ([], (schR S (Pl.mk k m kids ex cols wth agg rds) []).2) else ((schR S (Pl.mk k m kids ex cols wth agg rds) []).1, 0) := by unfold infP; rw [if_neg (by rw [h0]; decide)]
  refine sq ?_
  refine rg 1000 ?_
  refine pr [1, 3, 4, 29] ?_
  refine sq ?_
  refine rc 2000 ?_
  refine oc id ((h0e ▸ spec124 S hs hl : Flat.Sp Try.prog 124 [.p (.ps (S.map srow))] [] (vv (.int .i64 0)) [])) ?_
  refine oe 2100 ?_
  refine on ?_
  refine pr [1, 3, 4, 8, 10, 29] ?_
  refine sq ?_
  refine sq ?_
  refine rg 3000 ?_
  refine pr [1, 3, 4, 8, 11, 29] ?_
  refine ct ?_
  refine rc 4000 ?_
  refine oc id (spec125 k m kids ex cols wth agg rds hb) ?_
  refine oe 4100 ?_
  refine on ?_
  refine pr [1, 3, 4, 8, 14, 29] ?_
  refine sq ?_
  refine sq ?_
  refine rg 5000 ?_
  refine pr [1, 3, 4, 8, 15, 29] ?_
  refine cd ?_ ?_
  · intro h15_1
    have hfin : (infP S (Pl.mk k m kids ex cols wth agg rds)) = ([], checkP (Pl.mk k m kids ex cols wth agg rds)) := by rw [hfin0]; exact if_pos h15_1
    clear hfin0
    refine sq ?_
    refine rg 6000 ?_
    refine pr [1, 3, 4, 8, 17, 29] ?_
    refine k_ret ?_
    show retQ _ _ _ _ _ _ _
    simp [*]
  · intro h15_1
    have hfin1 : (infP S (Pl.mk k m kids ex cols wth agg rds)) = if (schR S (Pl.mk k m kids ex cols wth agg rds) []).2 != 0 then ([], (schR S (Pl.mk k m kids ex cols wth agg rds) []).2) else ((schR S (Pl.mk k m kids ex cols wth agg rds) []).1, 0) := by rw [hfin0]; exact if_neg (by rw [h15_1]; decide)
    have h8b := h8 h15_1
    have hl0 : (schR S (Pl.mk k m kids ex cols wth agg rds) []).1.length ≤ 140737488355328 := by omega
    have hl1 : (schR S (Pl.mk k m kids ex cols wth agg rds) []).1.length * 1 ≤ 140737488355328 := by omega
    have htk : ((schR S (Pl.mk k m kids ex cols wth agg rds) []).1.map trow).take (schR S (Pl.mk k m kids ex cols wth agg rds) []).1.length = (schR S (Pl.mk k m kids ex cols wth agg rds) []).1.map trow := List.take_of_length_le (by simp)
    have htl : (schR S (Pl.mk k m kids ex cols wth agg rds) []).1.take (schR S (Pl.mk k m kids ex cols wth agg rds) []).1.length = (schR S (Pl.mk k m kids ex cols wth agg rds) []).1 := List.take_length
    clear hfin0 h8
    refine k_skip ?_
    refine sq ?_
    refine rc 7000 ?_
    refine oc id ((hsp (by assumption))) ?_
    refine oe 7100 ?_
    refine on ?_
    refine pr [4, 8, 23, 29] ?_
    refine sq ?_
    refine sq ?_
    refine rg 8000 ?_
    refine pr [4, 8, 24, 29] ?_
    refine cd ?_ ?_
    · intro h24_2
      have hfin : (infP S (Pl.mk k m kids ex cols wth agg rds)) = ([], (schR S (Pl.mk k m kids ex cols wth agg rds) []).2) := by rw [hfin1]; exact if_pos h24_2
      clear hfin1
      refine sq ?_
      refine rg 9000 ?_
      refine pr [4, 6, 7, 8, 26, 29] ?_
      refine k_ret ?_
      show retQ _ _ _ _ _ _ _
      simp [*]
    · intro h24_2
      have hfin : (infP S (Pl.mk k m kids ex cols wth agg rds)) = ((schR S (Pl.mk k m kids ex cols wth agg rds) []).1, 0) := by rw [hfin1]; exact if_neg (by rw [h24_2]; decide)
      clear hfin1
      refine k_skip ?_
      refine sq ?_
      refine rg 10000 ?_
      refine pr [4, 6] ?_
      refine fz 10002 ?_
      refine k_ret ?_
      show retQ _ _ _ _ _ _ _
      simp [*]

theorem spec68 (S : List (List Int)) (hs : S.length ≤ Flat.lim) (hl : ∀ s ∈ S, s.length ≤ Flat.lim) (p : Pl) (hb : p.bnd) : Flat.Sp Try.prog 68 [p.av, .p (.ps (S.map srow))] [] (.tup [.p (.ps ((infP S p).1.map trow)), vv (.int .i64 (infP S p).2)]) [] := by
  obtain ⟨k, m, kids, ex, cols, wth, agg, rds⟩ := p
  cases h0 : checkSch S != 0 with
  | true => exact spec68_a S hs hl k m kids ex cols wth agg rds hb h0
  | false =>
    have hS8 : all8 S := (checkSch_ok (by simpa using h0)).2
    have h8 := schR_len hS8 (.mk k m kids ex cols wth agg rds) [] (by intro s hs; simp at hs)
    refine spec68_b S hs hl k m kids ex cols wth agg rds hb h0 (fun hc => ?_) (fun _ => h8)
    have hg := Pl.good_gd _ 1 (checkP_good (by simpa using hc))
    have := spec126 S hS8 _ hg.1 hb [] (by intro s hs; simp at hs) (by simp only [List.length_nil]; omega)
    simpa using this

end Go.Proofs
end
section
set_option linter.unusedVariables false
set_option linter.unusedSimpArgs false
namespace Go.Proofs
open Go.Flat
set_option linter.unusedSimpArgs false
set_option linter.unusedVariables false
theorem atF_stick {ts : List Int} : ∀ (cols : List Int) (r : List Int × Int), r.2 ≠ 0 → cols.foldl (atF ts) r = r
  | [], r, _ => rfl
  | c :: q, r, h => by
    have h1 : atF ts r c = r := by
      unfold atF
      simp only [unlessF_stick h]
      rw [if_neg (by simpa using h)]
    rw [List.foldl_cons, h1]
    exact atF_stick q r h
theorem atF_ok {ts : List Int} : ∀ (cols acc : List Int), cols.any (atB ts) = false → cols.foldl (atF ts) (acc, 0) = (acc ++ cols.map (atV ts), 0)
  | [], acc, _ => by simp
  | c :: q, acc, h => by
    rw [List.any_cons, Bool.or_eq_false_iff] at h
    have hb : (decide (0 ≤ c) && decide (c < ts.length)) = true := by
      have := h.1
      simp only [atB, offN, Bool.or_eq_false_iff, decide_eq_false_iff_not] at this
      simp; omega
    have h1 : atF ts (acc, 0) c = (acc ++ [atV ts c], 0) := by
      unfold atF
      simp only [hb]
      rfl
    rw [List.foldl_cons, h1, atF_ok q _ h.2]
    simp
theorem atF_bad {ts : List Int} : ∀ (cols acc : List Int), cols.any (atB ts) = true → (cols.foldl (atF ts) (acc, 0)).2 = 1
  | [], acc, h => by simp at h
  | c :: q, acc, h => by
    rw [List.any_cons] at h
    cases hb : atB ts c with
    | false =>
      rw [hb, Bool.false_or] at h
      have h1 : atF ts (acc, 0) c = (acc ++ [atV ts c], 0) := by simpa using atF_ok [c] acc (by simp [hb])
      rw [List.foldl_cons, h1]
      exact atF_bad q _ h
    | true =>
      have hb2 : (decide (0 ≤ c) && decide (c < ts.length)) = false := by
        simp only [atB, offN, Bool.or_eq_true, decide_eq_true_eq] at hb
        rw [Bool.eq_false_iff]
        simp; omega
      have h1 : atF ts (acc, 0) c = (acc, 1) := by
        unfold atF
        simp only [hb2]
        rfl
      rw [List.foldl_cons, h1, atF_stick q _ (by simp)]
theorem atL_stick {ts : List Int} (cols : List Int) {w : Int} (h : w ≠ 0) : atL ts cols w = ([], w) := atF_stick cols _ h
theorem atL_q (ts cols : List Int) : ((atQ ts cols).2 = true → atL ts cols 0 = ((atQ ts cols).1, 0)) ∧ ((atQ ts cols).2 = false → (atL ts cols 0).2 = 1) := by
  unfold atQ
  cases h : cols.any (atB ts) with
  | true => exact ⟨fun g => by simp at g, fun _ => atF_bad cols [] h⟩
  | false => exact ⟨fun _ => by simpa [atL] using atF_ok cols [] h, fun g => by simp at g⟩
theorem exs_stick {ts : List Int} : ∀ (ex : List E) {w : Int}, w ≠ 0 → ex.foldl (exsF ts) w = w
  | [], w, _ => rfl
  | e :: r, w, h => by rw [List.foldl_cons, show exsF ts w e = w from unlessF_stick h]; exact exs_stick r h
theorem exQ_exsW {ts : List Int} : ∀ (ex : List E) (acc : List Int), (exsW ts ex 0 = 0 → exQ ts ex acc = (acc ++ ex.map (fun e => (inferE ts e).1), 0)) ∧ (exsW ts ex 0 ≠ 0 → (exQ ts ex acc).2 = exsW ts ex 0)
  | [], acc => by simp [exsW, exQ]
  | e :: r, acc => by
    have hc : exsW ts (e :: r) 0 = r.foldl (exsF ts) (inferE ts e).2 := by
      unfold exsW
      rw [List.foldl_cons]
      congr 1
      unfold exsF unlessF
      by_cases h : (inferE ts e).2 = 0 <;> simp [h]
    rw [hc, exQ, infQ_eq]
    by_cases h : (inferE ts e).2 = 0
    · obtain ⟨g1, g2⟩ := exQ_exsW r (acc ++ [(inferE ts e).1])
      rw [h, if_neg (by simp)]
      exact ⟨fun h2 => by rw [g1 h2]; simp, g2⟩
    · rw [exs_stick r h, if_pos (by simpa using h)]
      exact ⟨fun g => absurd g h, fun _ => rfl⟩
theorem fit_eq (l : List Int) : (fitQ l).2 = unlessF 0 (decide ((l.length : Int) ≤ 8)) 2 ∧ ((fitQ l).2 = 0 → (fitQ l).1 = l) := by
  unfold fitQ unlessF
  by_cases h : (8 : Int) < l.length
  · have h2 : ¬ ((l.length : Int) ≤ 8) := by omega
    simp [h, h2]
  · have h2 : (l.length : Int) ≤ 8 := by omega
    simp [h, h2]
/-- Two schemas, or why there is none, are one. -/
def Eqv (a b : List Int × Int) : Prop := a.2 = b.2 ∧ (a.2 = 0 → a.1 = b.1)
def capF (r : List Int × Int) : List Int × Int := (r.1, unlessF r.2 (decide ((r.1.length : Int) ≤ 8)) 2)
theorem capF_err {r : List Int × Int} {x : List Int} (h : r.2 ≠ 0) : Eqv (x, r.2) (capF r) := ⟨(unlessF_stick h).symm, fun g => absurd g h⟩
theorem capF_fit (l : List Int) : Eqv (fitQ l) (capF (l, 0)) := fit_eq l
theorem capF_ok {l : List Int} (h : l.length ≤ 8) (w : Int) : Eqv (l, w) (capF (l, w)) := by
  refine ⟨?_, fun _ => rfl⟩
  show w = unlessF w (decide ((l.length : Int) ≤ 8)) 2
  rw [show decide ((l.length : Int) ≤ 8) = true by simp; omega]
  simp [unlessF]
theorem fn3 {a : List Int} {ex : List E} : Eqv (if (exQ a ex []).2 != 0 then ([], (exQ a ex []).2) else fitQ (exQ a ex []).1) (capF (ex.map (fun e => (inferE a e).1), exsW a ex 0)) := by
  obtain ⟨g1, g2⟩ := exQ_exsW (ts := a) ex []
  by_cases h : exsW a ex 0 = 0
  · rw [g1 h, h]
    exact capF_fit _
  · rw [g2 h, if_pos (by simpa using h)]
    exact capF_err (r := (_, exsW a ex 0)) h
theorem fn4 {a : List Int} (ha : a.length ≤ 8) {ex : List E} : Eqv (a, filQ a ex) (capF (a, unlessF (exsW a ex 0) ((ex.map (fun e => (inferE a e).1)).getD 0 0 == 1) 11)) := by
  obtain ⟨g1, g2⟩ := exQ_exsW (ts := a) ex []
  have hq : filQ a ex = unlessF (exsW a ex 0) ((ex.map (fun e => (inferE a e).1)).getD 0 0 == 1) 11 := by
    unfold filQ
    by_cases h : exsW a ex 0 = 0
    · rw [g1 h, h]
      simp only [List.nil_append, unlessF]
      rfl
    · rw [g2 h, unlessF_stick h]
      rw [if_neg (by simp [h])]
  rw [hq]
  exact capF_ok ha _
theorem fn7 {a b cols wth : List Int} : Eqv (joinQ cols wth a b) (capF (a ++ b, unlessF (atL b wth (atL a cols 0).2).2 ((atL a cols 0).1 == (atL b wth (atL a cols 0).2).1) 11)) := by
  obtain ⟨p1, p2⟩ := atL_q a cols
  obtain ⟨q1, q2⟩ := atL_q b wth
  unfold joinQ
  cases h1 : (atQ a cols).2 with
  | false =>
    rw [p2 h1, atL_stick wth (by simp)]
    simp only [Bool.not_false, Bool.true_or, if_true]
    rw [unlessF_stick (by simp)]
    exact capF_err (r := (_, 1)) (by simp)
  | true =>
    rw [p1 h1]
    simp only
    cases h2 : (atQ b wth).2 with
    | false =>
      rw [q2 h2]
      simp only [Bool.not_false, Bool.not_true, Bool.or_true, if_true]
      rw [unlessF_stick (by simp)]
      exact capF_err (r := (_, 1)) (by simp)
    | true =>
      rw [q1 h2]
      simp only [Bool.not_true, Bool.or_false, Bool.false_eq_true, if_false]
      cases h3 : (atQ a cols).1 == (atQ b wth).1 with
      | false => exact capF_err (r := (_, 11)) (by simp)
      | true => exact capF_fit _
theorem fn8 {a cols : List Int} {m agg : Int} (ha : a.length ≤ 8) : Eqv (redQ a cols m agg) (capF (redR a cols m agg 0)) := by
  obtain ⟨p1, p2⟩ := atL_q a cols
  obtain ⟨q1, q2⟩ := atL_q a [m]
  have e1 : ∀ {l : List Int}, Eqv ([], 1) (capF (l, 1)) := fun {l} => capF_err (r := (l, 1)) (by simp)
  unfold redQ redOk redOut redR
  simp only
  by_cases h1 : (agg == 1) = true
  · have h5 : ¬ ((agg == 5) = true) := by simp at h1 ⊢; omega
    have h2 : (agg == 2) = false := by simp at h1 ⊢; omega
    rw [if_pos h1, if_neg h5, if_pos h1, if_neg h5, if_pos h1, h2]
    cases hc : (atQ a cols).2 with
    | false => rw [p2 hc]; exact e1
    | true => rw [p1 hc]; exact capF_fit _
  · simp only [if_neg h1]
    by_cases h5 : (agg == 5) = true
    · have h2 : (agg == 2) = false := by simp at h5 ⊢; omega
      simp only [if_pos h5, h2]
      cases hc : (atQ a cols).2 with
      | false =>
        rw [p2 hc, unlessF_stick (by simp)]
        exact e1
      | true =>
        rw [p1 hc]
        simp only [Bool.true_and]
        cases hm : decide (1 ≤ m) && decide (m ≤ 8) with
        | false => exact e1
        | true => exact capF_fit _
    · simp only [if_neg h5]
      cases hc : (atQ a cols).2 with
      | false =>
        rw [p2 hc, atL_stick [m] (by simp)]
        rw [unlessF_stick (by simp)]
        exact e1
      | true =>
        rw [p1 hc]
        simp only
        cases hm : (atQ a [m]).2 with
        | false =>
          rw [q2 hm, unlessF_stick (by simp)]
          exact e1
        | true =>
          rw [q1 hm]
          have ho := atQ_one hm
          rw [ho]
          simp only [Bool.and_self, Bool.not_true, Bool.false_eq_true, if_false]
          by_cases h2 : (agg == 2) = true
          · cases h3 : atV a m == 1 with
            | true =>
              have hb : ((agg == 2) && (([atV a m] : List Int).getD 0 0 != 1)) = false := by
                rw [show ([atV a m] : List Int).getD 0 0 = atV a m from rfl]
                simp at h3; simp [h3]
              have hb2 : ((agg != 2) || ([atV a m] == [(1 : Int)])) = true := by simp at h3; simp [h3]
              rw [hb, hb2]
              exact capF_fit _
            | false =>
              have hb : ((agg == 2) && (([atV a m] : List Int).getD 0 0 != 1)) = true := by
                rw [show ([atV a m] : List Int).getD 0 0 = atV a m from rfl]
                simp at h3 h2; simp [h3, h2]
              have hb2 : ((agg != 2) || ([atV a m] == [(1 : Int)])) = false := by simp at h3 h2; simp [h3, h2]
              rw [hb, hb2]
              exact capF_err (r := (_, 11)) (by simp)
          · have h2f : (agg == 2) = false := by simpa using h2
            have hb2 : ((agg != 2) || ([atV a m] == [(1 : Int)])) = true := by simp at h2f; simp [h2f]
            rw [h2f, hb2]
            exact capF_fit _
theorem fnQ_finJ {k m : Int} {ex : List E} {cols wth : List Int} {agg : Int} {l : List (List Int)} (ha : (l.getD 0 []).length ≤ 8) : Eqv (fnQ k m ex cols wth agg l) (finJ k m ex cols wth agg l 0) := by
  show Eqv _ (capF (finR k m ex cols wth agg l 0))
  unfold fnQ finR
  split
  · exact fn3
  · split
    · exact fn4 ha
    · split
      · exact fn7
      · split
        · exact fn8 ha
        · have hn : (l.any fun s => !(s == l.getD 0 [])) = l.any (nqS (l.getD 0 [])) := rfl
          rw [hn]
          cases h : l.any (nqS (l.getD 0 [])) with
          | true => exact capF_err (r := (_, 11)) (by simp)
          | false => exact capF_ok ha 0
/- A plan whose numbers are such. -/
mutual
def Pl.rng : Pl → Prop
  | .mk _ m kids _ _ _ _ _ => (-9223372036854775808 ≤ m ∧ m ≤ 9223372036854775807) ∧ Pl.rngL kids
def Pl.rngL : List Pl → Prop
  | [] => True
  | x :: r => x.rng ∧ Pl.rngL r
end
theorem Pl.rngL_mem : ∀ {l : List Pl}, Pl.rngL l → ∀ x ∈ l, x.rng
  | [], _, x, h => by simp at h
  | e :: r, h, x, hx => by
    simp only [Pl.rngL] at h
    rcases List.mem_cons.1 hx with rfl | hx
    · exact h.1
    · exact Pl.rngL_mem h.2 x hx
theorem Pl.rngL_of : ∀ {l : List Pl}, (∀ x ∈ l, x.rng) → Pl.rngL l
  | [], _ => by simp [Pl.rngL]
  | e :: r, h => by
    rw [Pl.rngL]
    exact ⟨h e (by simp), Pl.rngL_of fun x hx => h x (by simp [hx])⟩
def JEq (S : List (List Int)) (x : Pl) : Prop := ∀ (A : List (List Int)) (nd : Nat) (A' : List (List Int)), all8 A → A.length + x.hgt ≤ 1000 → nd ≤ A'.length → A'.take nd = A → Eqv (schR S x A) ((jdg S x nd 0 A').1, (jdg S x nd 0 A').2.1)
theorem take_of_stk {A B : List (List Int)} {nd : Nat} (h : Stk A B nd) (hn : nd ≤ A.length) : nd ≤ B.length ∧ B.take nd = A.take nd := ⟨Nat.le_trans hn h.1, h.2⟩
theorem schL_jdgL {S : List (List Int)} {k : Int} (hk : (k == 10) = false) {l : List Pl} (ih : ∀ x ∈ l, JEq S x) : ∀ (A : List (List Int)) (nd : Nat) (A' acc : List (List Int)), all8 A → (∀ x ∈ l, A.length + x.hgt ≤ 1000) → nd ≤ A'.length → A'.take nd = A →
    ((jdgL S l nd 0 A').2.1 = 0 → schL S l k A acc = (acc ++ (jdgL S l nd 0 A').1, 0)) ∧ ((jdgL S l nd 0 A').2.1 ≠ 0 → (schL S l k A acc).2 = (jdgL S l nd 0 A').2.1) := by
  induction l with
  | nil => intro A nd A' acc _ _ _ _; simp [jdgL, schL]
  | cons x r hr =>
    intro A nd A' acc h8 hh hnd hta
    have hi : inA k A acc = A := by unfold inA; rw [hk]; rfl
    obtain ⟨e1, e2⟩ := ih x (by simp) A nd A' h8 (hh x (by simp)) hnd hta
    simp only at e1 e2
    rw [jdgL, schL, hi]
    simp only
    by_cases h : (schR S x A).2 = 0
    · rw [← e1, h, if_neg (by simp), e2 h]
      obtain ⟨t1, t2⟩ := take_of_stk (jdg_stk S x nd 0 A' hnd) hnd
      obtain ⟨g1, g2⟩ := hr (fun y hy => ih y (by simp [hy])) A nd (jdg S x nd 0 A').2.2 (acc ++ [(jdg S x nd 0 A').1]) h8 (fun y hy => hh y (by simp [hy])) t1 (t2.trans hta)
      exact ⟨fun h2 => by rw [g1 h2]; simp, g2⟩
    · rw [← e1, jdgL_stick (fun y _ => jdg_stick S y) _ _ _ h, if_pos (by simpa using h)]
      exact ⟨fun g => absurd g h, fun _ => rfl⟩
theorem schL_jdgI {S : List (List Int)} (hS : all8 S) {x y : Pl} (hx : JEq S x) (hy : JEq S y) (A : List (List Int)) (nd : Nat) (A' : List (List Int)) (h8 : all8 A) (hhx : A.length + x.hgt ≤ 1000) (hhy : A.length + 1 + y.hgt ≤ 1000) (hnd : nd ≤ A'.length) (hta : A'.take nd = A) :
    ((jdgI S [x, y] nd 0 A').2.1 = 0 → schL S [x, y] 10 A [] = ((jdgI S [x, y] nd 0 A').1, 0)) ∧ ((jdgI S [x, y] nd 0 A').2.1 ≠ 0 → (schL S [x, y] 10 A []).2 = (jdgI S [x, y] nd 0 A').2.1) := by
  have hi : inA 10 A [] = A := rfl
  obtain ⟨e1, e2⟩ := hx A nd A' h8 hhx hnd hta
  simp only at e1 e2
  rw [jdgI, schL, hi]
  simp only
  by_cases h : (schR S x A).2 = 0
  · rw [← e1, h, if_neg (by simp), e2 h]
    obtain ⟨t1, t2⟩ := take_of_stk (jdg_stk S x nd 0 A' hnd) hnd
    have hl8 : (jdg S x nd 0 A').1.length ≤ 8 := e2 h ▸ schR_len hS x A h8
    have hi2 : inA 10 A ([] ++ [(jdg S x nd 0 A').1]) = A ++ [(jdg S x nd 0 A').1] := rfl
    have hp := pushA_len (jdg S x nd 0 A').1 t1
    have hq := pushA_take1 (jdg S x nd 0 A').1 t1
    rw [t2, hta] at hq
    obtain ⟨f1, f2⟩ := hy (A ++ [(jdg S x nd 0 A').1]) (nd + 1) (pushA (jdg S x nd 0 A').2.2 nd (jdg S x nd 0 A').1) (all8_snoc h8 hl8) (by simpa using hhy) (by rw [hp]; omega) hq
    simp only at f1 f2
    rw [jdgL, schL, hi2]
    simp only [jdgL]
    by_cases h3 : (schR S y (A ++ [(jdg S x nd 0 A').1])).2 = 0
    · rw [← f1, h3, if_neg (by simp), f2 h3, schL]
      exact ⟨fun _ => rfl, fun g => absurd rfl g⟩
    · rw [← f1, if_pos (by simpa using h3)]
      exact ⟨fun g => absurd g h3, fun _ => rfl⟩
  · rw [← e1, jdgL_stick (fun y _ => jdg_stick S y) _ _ _ h, if_pos (by simpa using h)]
    exact ⟨fun g => absurd g h, fun _ => rfl⟩
theorem varI_in {nd : Nat} {m : Int} (h0 : 0 ≤ m) (h1 : m ≤ 9223372036854775807) (hn : nd ≤ 1000) : varI nd m = (nd : Int) - 1 - m := by
  unfold varI
  rw [w64_in (n := (nd : Int) - 1) (by omega) (by omega), w64_in (by omega) (by omega)]
theorem schR_jdg {S : List (List Int)} (hS : all8 S) : ∀ p : Pl, p.gd → p.rng → JEq S p := by
  refine Pl.ind fun k m kids ex cols wth agg rds ih hg hr => ?_
  rw [Pl.gd] at hg
  rw [Pl.rng] at hr
  obtain ⟨hf, -, hgl⟩ := hg
  obtain ⟨hm, hrl⟩ := hr
  intro A nd A' h8 hh hnd hta
  rw [Pl.hgt] at hh
  have hlen : A.length = nd := by rw [← hta]; simp; omega
  rw [schR, jdg]
  by_cases h1 : (k == 1) = true
  · rw [if_pos h1, if_pos h1]
    unfold oneR oneW
    rw [show offI m S = offN m S.length from rfl]
    cases h : offN m S.length with
    | true => exact ⟨rfl, fun g => by simp at g⟩
    | false => exact ⟨rfl, fun _ => rfl⟩
  · rw [if_neg h1, if_neg h1]
    by_cases h2 : (k == 2) = true
    · rw [if_pos h2, if_pos h2, hta]
      by_cases hm0 : m < 0
      · have ho : offN m A.length = true := by simp [offN, hm0]
        have hd : decide (m < 0) = true := by simp [hm0]
        rw [ho, hd]
        exact ⟨rfl, fun g => by simp at g⟩
      · have hd : decide (m < 0) = false := by simp [hm0]
        rw [hd, varI_in (by omega) hm.2 (by omega)]
        unfold oneR oneW
        have hoo : offI ((nd : Int) - 1 - m) A = offN m A.length := by
          rw [Bool.eq_iff_iff]
          simp only [offI, offN, Bool.or_eq_true, decide_eq_true_eq]
          omega
        rw [hoo]
        cases h : offN m A.length with
        | true => exact ⟨rfl, fun g => by simp at g⟩
        | false =>
          have hoff := h
          simp only [offN, Bool.or_eq_false_iff, decide_eq_false_iff_not] at hoff
          have hx : ((nd : Int) - 1 - m).toNat = A.length - 1 - m.toNat := by omega
          rw [hx]
          exact ⟨rfl, fun _ => rfl⟩
    · rw [if_neg h2, if_neg h2]
      have h1f : (k == 1) = false := by simpa using h1
      have h2f : (k == 2) = false := by simpa using h2
      have ih' : ∀ x ∈ kids, JEq S x := fun x hx => ih x hx (Pl.gdL_mem hgl x hx) (Pl.rngL_mem hrl x hx)
      have hk : ((jdgK S k kids nd 0 A').2.1 = 0 → schL S kids k A [] = ((jdgK S k kids nd 0 A').1, 0)) ∧ ((jdgK S k kids nd 0 A').2.1 ≠ 0 → (schL S kids k A []).2 = (jdgK S k kids nd 0 A').2.1) := by
        unfold jdgK
        by_cases h10 : (k == 10) = true
        · rw [if_pos h10]
          have hk2 : kids.length = 2 := by
            have h10' : k = 10 := by simpa using h10
            rcases kinds (formed_shape hf).1 with h | h | h | h
            · omega
            · omega
            · omega
            · exact h.2.2.2.2.2.2.2 h10
          obtain ⟨x, y, rfl⟩ := two_pl hk2
          have h10' : k = 10 := by simpa using h10
          subst h10'
          have hx := Pl.hgtL_mem (show x ∈ [x, y] by simp)
          have hy := Pl.hgtL_mem (show y ∈ [x, y] by simp)
          exact schL_jdgI hS (ih' x (by simp)) (ih' y (by simp)) A nd A' h8 (by omega) (by omega) hnd hta
        · rw [if_neg h10]
          have := schL_jdgL (S := S) (k := k) (by simpa using h10) ih' A nd A' [] h8 (fun x hx => by have := Pl.hgtL_mem hx; omega) hnd hta
          simpa using this
      have hjk : (if (k == 10) = true then jdgI S kids nd 0 A' else jdgL S kids nd 0 A') = jdgK S k kids nd 0 A' := rfl
      rw [hjk]
      simp only
      by_cases hw : (jdgK S k kids nd 0 A').2.1 = 0
      · rw [hk.1 hw, hw, if_neg (by simp), if_neg (by simp)]
        refine fnQ_finJ ?_
        have := schL_len (S := S) (l := kids) (k := k) (fun x _ => schR_len hS x) h8 [] (by intro s hs; simp at hs)
        rw [hk.1 hw] at this
        exact all8_getD this 0
      · rw [if_pos (by rw [hk.2 hw]; simpa using hw), if_pos (by simpa using hw), hk.2 hw]
        exact ⟨rfl, fun g => absurd g hw⟩
theorem infP_why {S : List (List Int)} {p : Pl} (hr : p.rng) : (infP S p).2 = (inferP S p).2 := by
  unfold infP inferP
  split
  · rfl
  · rename_i h1
    split
    · rfl
    · rename_i h2
      have hS8 : all8 S := (checkSch_ok (by simpa using h1)).2
      have hg := Pl.good_gd p 1 (checkP_good (by simpa using h2))
      obtain ⟨e1, e2⟩ := schR_jdg hS8 p hg.1 hr [] 0 [] (by intro s hs; simp at hs) (by simp only [List.length_nil]; omega) (by simp) (by simp)
      simp only at e1
      rw [e1]
      split <;> rfl
end Go.Proofs
end
section
set_option linter.unusedVariables false
set_option linter.unusedSimpArgs false
namespace Go.Proofs
open Go.Flat
set_option maxRecDepth 100000
set_option linter.unusedSimpArgs false
set_option linter.unusedVariables false
attribute [local simp] Bool.and_assoc Bool.or_assoc evalG evalX efD skF guardG guardL isCall stepL evalOp ev evs lk tmpsL app AV.ok fresh vv putCells insV ins del putL place Go.Flat.look fillC fillR getCells loadF storeF binF scalarBin intBin strBin isShift shiftBin unF lenF maxF minF rowsF appendF builtinF idxF natOf sliceP sliceF optEv Flat.cut overwrite toPV toPVs constAV scalarC scalarCs AV.cells TI.isAgg allSome andAll scalarEq buildable Go.Flat.lim retQ resL resAll resOne PartOf noTmp closedIn refs refs.refsL isSomeV hasB ids leA leA.leL renA renA.renL callB refsAll backL dropIds renS LiesAt injB ownB freshB memN locId insAll leA_refl leL_refl okS frzS frzA frzA.frzL evalD feet fine updCells cellsFrom memP footRf footWf noTmpU updIds opOps opIds idsA footR footW guardTs opTs dstTs callR callW renLoc renC inBlockQ thenQ Value.oneCell' IntKind.bits IntKind.signed PV.up toPH toPHs

def l14S : List (List Int) := [[1]]
def l14a : Pl := .mk 6 0 [.mk 1 0 [] [] [] [] 0 0] [] [] [] 0 0
def l14b : Pl := .mk 1 1 [] [] [] [] 0 0
def l14c : Pl := .mk 10 0 [.mk 1 0 [] [] [] [] 0 0, .mk 2 0 [] [] [] [] 0 0] [] [] [] 0 2
def l14m : List Nd := [⟨5, .zero, 0, 0, 0, [], []⟩, ⟨3, .zero, 0, 0, 2, [⟨2, 0⟩], [⟨1, 1⟩]⟩, ⟨4, .zero, 0, 0, 2, [⟨0, 0⟩], []⟩, ⟨2, .zero, 0, 0, 0, [⟨1, 0⟩], []⟩]
theorem l14_1 : (inferP l14S l14a).2 = 0 := by decide +kernel
theorem l14_2 : (inferP l14S l14b).2 = 1 := by decide +kernel
theorem l14_3 : (inferP l14S l14c).2 = 0 := by decide +kernel
theorem l14_a : bldG l14S l14a = ([⟨5, .zero, 0, 0, 0, [], []⟩, ⟨1, .mk 6 0 [] [] [] [] 0 0, 0, 0, 0, [⟨0, 0⟩], []⟩, ⟨2, .zero, 0, 0, 0, [⟨1, 0⟩], []⟩], 0) := by
  unfold bldG; rw [if_neg (by rw [l14_1]; decide)]; rfl
theorem l14_b : bldG l14S l14b = ([], 1) := by
  unfold bldG; rw [if_pos (by rw [l14_2]; decide), l14_2]
theorem l14_c : bldG l14S l14c = (l14m, 0) := by
  unfold bldG; rw [if_neg (by rw [l14_3]; decide)]; rfl
theorem l14_4 : boundG l14m = 12 := by decide +kernel
theorem l14_5 : checkG [] = 4 := by decide +kernel
theorem l14m_bnd : ∀ x ∈ l14m, x.bnd := by
  intro x hx
  simp only [l14m, List.mem_cons, List.not_mem_nil, or_false] at hx
  rcases hx with rfl | rfl | rfl | rfl <;> simp [Nd.bnd, Pl.zero, Flat.lim]
@[simp] theorem eqPrt (a b c d : Int) : eqT (tyOf Try.prog) 8 77 (.agg [.p (.v (.int .i64 a)), .p (.v (.int .i64 b))]) (.agg [.p (.v (.int .i64 c)), .p (.v (.int .i64 d))]) = some ((a == c) && (b == d)) := by
  simp [eqT, eqCut, andAll]
attribute [local simp] Pl.row_eq Pl.av

attribute [local simp] l14S l14a l14b l14c l14m srow trow Nd.row Pl.zero prow in
set_option maxHeartbeats 2000000 in
theorem spec36  : Flat.Sp Try.prog 36 [] [] (vv (.bool true)) [] := by
  refine sk Try.func36 ?_
  intro F G hn hG
  have f1 : Flat.Sp Try.prog 34 [l14a.av, .p (.ps (l14S.map srow))] [] (.tup [.p (.ps ((bldG l14S l14a).1.map Nd.row)), vv (.int .i64 (bldG l14S l14a).2)]) [] := spec34 l14a (by simp [l14a, Pl.bnd, Pl.bndL, Bnd]) (by simp [l14a, Pl.size, Pl.sizeL]) l14S
  rw [l14_a] at f1
  have f2 : Flat.Sp Try.prog 34 [l14b.av, .p (.ps (l14S.map srow))] [] (.tup [.p (.ps ((bldG l14S l14b).1.map Nd.row)), vv (.int .i64 (bldG l14S l14b).2)]) [] := spec34 l14b (by simp [l14b, Pl.bnd, Pl.bndL, Bnd]) (by simp [l14b, Pl.size, Pl.sizeL]) l14S
  rw [l14_b] at f2
  have f3 : Flat.Sp Try.prog 34 [l14c.av, .p (.ps (l14S.map srow))] [] (.tup [.p (.ps ((bldG l14S l14c).1.map Nd.row)), vv (.int .i64 (bldG l14S l14c).2)]) [] := spec34 l14c (by simp [l14c, Pl.bnd, Pl.bndL, Bnd]) (by simp [l14c, Pl.size, Pl.sizeL]) l14S
  rw [l14_c] at f3
  have f4 := spec40 l14m l14m_bnd
  rw [l14_4] at f4
  have f5 := spec38 [] (by simp)
  rw [l14_5] at f5
  refine sq ?_
  refine rg 1000 ?_
  refine pr [0, 4, 5, 113] ?_
  refine sq ?_
  refine rg 2000 ?_
  refine pr [0, 4, 5, 8, 10, 113] ?_
  refine sq ?_
  refine rc 3000 ?_
  refine oc id (f1) ?_
  refine oe 3100 ?_
  refine on ?_
  refine pr [0, 4, 5, 8, 18, 113] ?_
  refine sq ?_
  refine rc 4000 ?_
  refine oc id (f2) ?_
  refine oe 4100 ?_
  refine on ?_
  refine pr [0, 4, 5, 8, 24, 113] ?_
  refine sq ?_
  refine rc 5000 ?_
  refine oc id (f3) ?_
  refine oe 5100 ?_
  refine on ?_
  refine pr [0, 1, 2, 4, 5, 8, 33, 113] ?_
  refine sq ?_
  refine rc 6000 ?_
  iterate 3 (first | refine gp 6250 ?_ | refine os ?_ | refine gt 6250 ?_)
  refine oe 6300 ?_
  iterate 5 (first | refine gp 6750 ?_ | refine os ?_ | refine gt 6750 ?_)
  refine oe 6800 ?_
  iterate 6 (first | refine gp 7350 ?_ | refine os ?_ | refine gt 7350 ?_)
  refine oe 7400 ?_
  iterate 6 (first | refine gp 7950 ?_ | refine os ?_ | refine gt 7950 ?_)
  refine oe 8000 ?_
  iterate 8 (first | refine gp 8750 ?_ | refine os ?_ | refine gt 8750 ?_)
  refine oe 8800 ?_
  iterate 2 (first | refine gp 8950 ?_ | refine os ?_ | refine gt 8950 ?_)
  refine oe 9000 ?_
  iterate 2 (first | refine gp 9150 ?_ | refine os ?_ | refine gt 9150 ?_)
  refine oe 9200 ?_
  iterate 3 (first | refine gp 9450 ?_ | refine os ?_ | refine gt 9450 ?_)
  refine oe 9500 ?_
  iterate 6 (first | refine gp 10050 ?_ | refine os ?_ | refine gt 10050 ?_)
  refine oe 10100 ?_
  iterate 8 (first | refine gp 10850 ?_ | refine os ?_ | refine gt 10850 ?_)
  refine oe 10900 ?_
  first | refine gp 10950 ?_ | refine os ?_ | refine gt 10950 ?_
  refine oc id (f4) ?_
  first | refine gp 11150 ?_ | refine os ?_ | refine gt 11150 ?_
  refine oe 11200 ?_
  refine oc id (f5) ?_
  first | refine gp 11350 ?_ | refine os ?_ | refine gt 11350 ?_
  refine oe 11400 ?_
  refine on ?_
  refine pr [0, 1] ?_
  refine k_ret ?_
  show retQ _ _ _ _ _ _ _
  simp [*]

end Go.Proofs
end
section
set_option linter.unusedVariables false
set_option linter.unusedSimpArgs false
namespace Go.Proofs
open Go.Flat
set_option linter.unusedSimpArgs false
set_option linter.unusedVariables false
/-- Two nodes that differ in what goes back of them alone. -/
def Nd.like (x y : Nd) : Prop := y.k = x.k ∧ y.pl = x.pl ∧ y.n = x.n ∧ y.loop = x.loop ∧ y.rds = x.rds ∧ y.to = x.to
theorem Nd.like_refl (x : Nd) : x.like x := ⟨rfl, rfl, rfl, rfl, rfl, rfl⟩
theorem Nd.like_trans {x y z : Nd} (h : x.like y) (k : y.like z) : x.like z :=
  ⟨k.1.trans h.1, k.2.1.trans h.2.1, k.2.2.1.trans h.2.2.1, k.2.2.2.1.trans h.2.2.2.1, k.2.2.2.2.1.trans h.2.2.2.2.1, k.2.2.2.2.2.trans h.2.2.2.2.2⟩
def Kp (ns ns' : List Nd) : Prop := ∀ (i : Nat) (x : Nd), ns[i]? = some x → ∃ y, ns'[i]? = some y ∧ x.like y
theorem Kp.refl (ns : List Nd) : Kp ns ns := fun i x h => ⟨x, h, x.like_refl⟩
theorem Kp.trans {a b c : List Nd} (h : Kp a b) (k : Kp b c) : Kp a c := fun i x hx => by
  obtain ⟨y, hy, l1⟩ := h i x hx
  obtain ⟨z, hz, l2⟩ := k i y hy
  exact ⟨z, hz, Nd.like_trans l1 l2⟩
theorem Kp.app (a b : List Nd) : Kp a (a ++ b) := fun i x hx => ⟨x, by rw [List.getElem?_append_left (List.getElem?_eq_some_iff.1 hx).1]; exact hx, x.like_refl⟩
theorem pushB_at (ns : List Nd) (j i : Nat) (to : Prt) : (pushB ns j to)[i]? = if j = i then (ns[i]?).map fun x => goB x to else ns[i]? := by
  simp only [pushB, List.getElem?_modify]
  split
  · rename_i h; subst h; cases ns[j]? <;> simp
  · rename_i h; cases ns[i]? <;> simp [h]
theorem Kp.push (ns : List Nd) (j : Nat) (to : Prt) : Kp ns (pushB ns j to) := fun i x hx => by
  rw [pushB_at]
  split
  · rw [hx]; exact ⟨_, rfl, rfl, rfl, rfl, rfl, rfl, rfl⟩
  · exact ⟨x, hx, x.like_refl⟩
theorem like_reached {x y : Nd} (h : x.like y) (b : Int) : y.reached b = x.reached b := by
  obtain ⟨xk, xp, xn, xl, xr, xt, xb⟩ := x
  obtain ⟨yk, yp, yn, yl, yr, yt, yb⟩ := y
  obtain ⟨h1, h2, -⟩ := h
  simp only at h1 h2
  rw [h1, h2]
  cases xp
  rfl
/-- A port that goes to a node. -/
def PortOK (ns : List Nd) (q : Prt) : Prop := 0 ≤ q.a ∧ ∃ y, ns[q.a.toNat]? = some y ∧ y.reached q.b = true
theorem PortOK.kp {ns ns' : List Nd} {q : Prt} (h : PortOK ns q) (k : Kp ns ns') : PortOK ns' q := by
  obtain ⟨h0, y, hy, hr⟩ := h
  obtain ⟨z, hz, l⟩ := k _ _ hy
  exact ⟨h0, z, hz, by rw [like_reached l]; exact hr⟩
theorem PortOK.lt {ns : List Nd} {q : Prt} (h : PortOK ns q) : q.a < ns.length := by
  obtain ⟨h0, y, hy, _⟩ := h
  have := (List.getElem?_eq_some_iff.1 hy).1
  omega
/-- Right, whatever goes back of it. -/
def Nd.right0 (x : Nd) : Bool := match x with
  | ⟨xk, .mk pk pn pq pe pc pw pa pg, xn, xl, xr, _, _⟩ => rightN xk xn xl xr 0 (zeroP pk pn pq.length pe.length pc.length pw.length pa pg) (madeP pk pn pq.length pe pc pw pa pg)
theorem like_right0 {x y : Nd} (h : x.like y) : y.right0 = x.right0 := by
  obtain ⟨xk, xp, xn, xl, xr, xt, xb⟩ := x
  obtain ⟨yk, yp, yn, yl, yr, yt, yb⟩ := y
  obtain ⟨h1, h2, h3, h4, h5, -⟩ := h
  simp only at h1 h2 h3 h4 h5
  rw [h1, h2, h3, h4, h5]
  cases xp
  rfl
theorem right_of0 {x : Nd} (h : x.right0 = true) (hb : x.back = [] ∨ x.k = 3) : x.right = true := by
  obtain ⟨xk, ⟨pk, pn, pq, pe, pc, pw, pa, pg⟩, xn, xl, xr, xt, xb⟩ := x
  simp only [Nd.right0, Nd.right] at h ⊢
  rcases hb with hb | hb
  · simp only at hb; subst hb; exact h
  · simp only at hb; subst hb; exact h
/-- A node but the last one. -/
structure NodeOK (ns : List Nd) (i : Nat) (x : Nd) : Prop where
  kind : x.k = 1 ∨ x.k = 2 ∨ x.k = 3 ∨ x.k = 4
  r0 : x.right0 = true
  pb : x.pl.bnd
  to : ∃ t, x.to = [t] ∧ PortOK ns t ∧ ((x.k ≠ 3 ∧ t.a < i ∧ (x.k = 4 → t.a + 1 < i)) ∨ (x.k = 3 ∧ t.a = i + 1 ∧ ∃ y, ns[i + 1]? = some y ∧ y.k = 4))
theorem NodeOK.kp {ns ns' : List Nd} {i : Nat} {x y : Nd} (h : NodeOK ns i x) (k : Kp ns ns') (l : x.like y) : NodeOK ns' i y := by
  obtain ⟨h1, h2, h3, t, h4, h5, h6⟩ := h
  refine ⟨by rw [l.1]; exact h1, by rw [like_right0 l]; exact h2, by rw [l.2.1]; exact h3, t, by rw [l.2.2.2.2.2]; exact h4, h5.kp k, ?_⟩
  rw [l.1]
  rcases h6 with h6 | ⟨h6, h7, z, hz, hk⟩
  · exact .inl h6
  · obtain ⟨u, hu, l2⟩ := k _ _ hz
    exact .inr ⟨h6, h7, u, hu, by rw [l2.1]; exact hk⟩
structure NInv (ns : List Nd) : Prop where
  zero : ∃ x, ns[0]? = some x ∧ x.k = 5 ∧ x.to = [] ∧ x.right0 = true ∧ x.pl.bnd
  node : ∀ (i : Nat) (x : Nd), ns[i]? = some x → i ≠ 0 → NodeOK ns i x
  back : ∀ (i : Nat) (x : Nd), ns[i]? = some x → ∀ q ∈ x.back, x.k = 3 ∧ (i : Int) ≤ q.a ∧ PortOK ns q
theorem NInv.pos {ns : List Nd} (h : NInv ns) : 0 < ns.length := by
  obtain ⟨x, hx, _⟩ := h.zero
  exact (List.getElem?_eq_some_iff.1 hx).1
theorem NInv.app {ns l : List Nd} (h : NInv ns) (hl : ∀ j x, l[j]? = some x → NodeOK (ns ++ l) (ns.length + j) x ∧ x.back = []) : NInv (ns ++ l) := by
  have k := Kp.app ns l
  have hp := h.pos
  refine ⟨?_, fun i x hx hi => ?_, fun i x hx q hq => ?_⟩
  · obtain ⟨x, hx, hr⟩ := h.zero
    exact ⟨x, by rw [List.getElem?_append_left hp]; exact hx, hr⟩
  · by_cases hlt : i < ns.length
    · rw [List.getElem?_append_left hlt] at hx
      exact (h.node i x hx hi).kp k x.like_refl
    · rw [List.getElem?_append_right (by omega)] at hx
      have := (hl _ x hx).1
      rwa [show ns.length + (i - ns.length) = i by omega] at this
  · by_cases hlt : i < ns.length
    · rw [List.getElem?_append_left hlt] at hx
      obtain ⟨h1, h2, h3⟩ := h.back i x hx q hq
      exact ⟨h1, h2, h3.kp k⟩
    · rw [List.getElem?_append_right (by omega)] at hx
      rw [(hl _ x hx).2] at hq
      simp at hq
theorem NInv.push {ns : List Nd} {j : Nat} {to : Prt} (h : NInv ns) {y : Nd} (hj : ns[j]? = some y) (hk : y.k = 3) (ha : (j : Int) ≤ to.a) (hp : PortOK ns to) : NInv (pushB ns j to) := by
  have k := Kp.push ns j to
  refine ⟨?_, fun i x hx hi => ?_, fun i x hx q hq => ?_⟩
  · obtain ⟨x, hx, hr1, hr2, hr3, hr4⟩ := h.zero
    obtain ⟨z, hz, l⟩ := k 0 x hx
    exact ⟨z, hz, by rw [l.1]; exact hr1, by rw [l.2.2.2.2.2]; exact hr2, by rw [like_right0 l]; exact hr3, by rw [l.2.1]; exact hr4⟩
  · rw [pushB_at] at hx
    split at hx
    · obtain ⟨z, hz, rfl⟩ := Option.map_eq_some_iff.1 hx
      exact (h.node i z hz hi).kp k ⟨rfl, rfl, rfl, rfl, rfl, rfl⟩
    · exact (h.node i x hx hi).kp k x.like_refl
  · rw [pushB_at] at hx
    split at hx
    · rename_i e
      subst e
      obtain ⟨z, hz, rfl⟩ := Option.map_eq_some_iff.1 hx
      rw [hj] at hz
      simp only [Option.some.injEq] at hz
      subst hz
      simp only [goB, List.mem_append, List.mem_singleton] at hq
      rcases hq with hq | rfl
      · obtain ⟨h1, h2, h3⟩ := h.back j y hj q hq
        exact ⟨h1, h2, h3.kp k⟩
      · exact ⟨hk, ha, hp.kp k⟩
    · obtain ⟨h1, h2, h3⟩ := h.back i x hx q hq
      exact ⟨h1, h2, h3.kp k⟩

/-! ### right nodes -/
theorem zero_bnd : Pl.zero.bnd := by simp [Pl.zero, Pl.bnd, Pl.bndL]
theorem formed_nk {k m : Int} {nk : Nat} {ex : List E} {cols wth : List Int} {agg rds : Int} (h : formedP k m nk ex cols wth agg rds = true) (h1 : (k == 1) = false) (h2 : (k == 2) = false) (h10 : (k == 10) = false) :
    formedP k m (if k == 7 then 2 else 1) ex cols wth agg rds = true ∧ (k == 7 → nk = 2) := by
  have hkk := formed_kids h
  have e : okP1 k (if k == 7 then 2 else 1) = okP1 k nk ∧ ((k == 7) = true → nk = 2) := by
    unfold okP1 manyP at hkk ⊢
    simp only [Bool.and_eq_true] at hkk
    obtain ⟨a1, a2, a3⟩ := hkk
    have a3' := a3
    rw [h1, h2, h10] at a3
    simp only [Bool.or_self, Bool.false_eq_true, if_false, Bool.or_false] at a3
    rw [a1, a2, a3', h1, h2, h10]
    by_cases h7 : (k == 7) = true
    · rw [h7] at a3 ⊢
      simp at a3 ⊢
      omega
    · have h7' : (k == 7) = false := by simpa using h7
      rw [h7'] at a3 ⊢
      simp at a3 ⊢
  refine ⟨?_, fun h7 => e.2 (by simpa using h7)⟩
  have e2 : okP2 k m (if k == 7 then 2 else 1) ex cols wth agg rds = okP2 k m nk ex cols wth agg rds := by unfold okP2; rw [e.1]
  unfold formedP at h ⊢
  rw [e2]
  exact h
theorem made_of {k m : Int} {kids : List Pl} {ex : List E} {cols wth : List Int} {agg rds : Int} (h : formedP k m kids.length ex cols wth agg rds = true) (he : ∀ e ∈ ex, checkE e = 0) (h1 : (k == 1) = false) (h2 : (k == 2) = false) (h10 : (k == 10) = false) :
    madeP k m 0 ex cols wth agg rds = true := by
  have hf := (formed_nk h h1 h2 h10).1
  have hn : noneK k = false := by simp [noneK, h1, h2, h10]
  unfold madeP
  rw [hn]
  simp only [Nat.lt_irrefl, decide_false, Bool.or_self, Bool.false_eq_true, if_false, beq_iff_eq]
  have hsrc : srcP0.gd := by
    rw [srcP0, Pl.gd]
    exact ⟨by decide, by simp, by simp [Pl.gdL]⟩
  have key : ∀ l : List Pl, (l = [srcP0, srcP0] ∨ l = [srcP0]) → formedP k m l.length ex cols wth agg rds = true → checkP (.mk k m l ex cols wth agg rds) = 0 := by
    intro l hl hfl
    have hsz : Pl.sizeL l ≤ 2 ∧ Pl.hgtL l ≤ 1 ∧ Pl.gdL l := by
      rcases hl with rfl | rfl
      · exact ⟨by simp [Pl.sizeL, srcP0, Pl.size], by simp [Pl.hgtL, srcP0, Pl.hgt], by simp [Pl.gdL, hsrc]⟩
      · exact ⟨by simp [Pl.sizeL, srcP0, Pl.size], by simp [Pl.hgtL, srcP0, Pl.hgt], by simp [Pl.gdL, hsrc]⟩
    have hlp : Pl.lpL k 0 l = 0 := by
      rcases hl with rfl | rfl <;> simp [Pl.lpL, morN, h10, srcP0, Pl.lp]
    refine (checkP_iff (by rw [Pl.size]; omega)).2 ⟨?_, by rw [Pl.size]; omega, by rw [Pl.hgt]; omega, by rw [Pl.lp, hlp]; omega⟩
    rw [Pl.gd]
    exact ⟨hfl, he, hsz.2.2⟩
  by_cases h7 : (k == 7) = true
  · rw [if_pos (by simpa using h7)]
    rw [if_pos h7] at hf
    exact key _ (.inl rfl) hf
  · rw [if_neg (by simpa using h7)]
    rw [if_neg h7] at hf
    exact key _ (.inr rfl) hf
theorem zeroP_zero : zeroP 0 0 ([] : List Pl).length ([] : List E).length ([] : List Int).length ([] : List Int).length 0 0 = true := by decide

theorem getElem?_snoc {α : Type} (l : List α) (x : α) : (l ++ [x])[l.length]? = some x := by rw [List.getElem?_append_right (Nat.le_refl _)]; simp
/-- What a plan's building keeps. -/
structure Step (s t : BR) (p c : Nat) : Prop where
  inv : NInv t.1
  kp : Kp s.1 t.1
  len : t.1.length = s.1.length + p + c
/-- What the loops around must be. -/
def Ard (s : BR) (nd : Nat) (m : Int) : Prop := ∀ a ∈ s.2.take nd, 0 ≤ a ∧ a ≤ m ∧ ∃ y, s.1[a.toNat]? = some y ∧ y.k = 3
theorem Ard.kp {s t : BR} {nd : Nat} {m m' : Int} (h : Ard s nd m) (k : Kp s.1 t.1) (ht : t.2.take nd = s.2.take nd) (hm : m ≤ m') : Ard t nd m' := by
  intro a ha
  rw [ht] at ha
  obtain ⟨h1, h2, y, hy, hk⟩ := h a ha
  obtain ⟨z, hz, l⟩ := k _ _ hy
  exact ⟨h1, by omega, z, hz, by rw [l.1]; exact hk⟩
def BInv (p : Pl) : Prop := ∀ (to : Prt) (nd : Nat) (s : BR), p.vok nd → nd ≤ s.2.length → NInv s.1 → PortOK s.1 to → Ard s nd to.a → Step s (bld p to nd s) p.cn p.cl
theorem bldL_inv : ∀ (l : List Pl) (j : Bool) (a i nd : Nat) (s : BR), (∀ x ∈ l, BInv x) → Pl.vokL l nd → nd ≤ s.2.length → NInv s.1 → (∀ q, q < i + l.length → i ≤ q → PortOK s.1 ⟨(a : Int), if j then (q : Int) else 0⟩) → Ard s nd a →
    Step s (bldL l j a i nd s) (Pl.cnL l) (Pl.clL l)
  | [], j, a, i, nd, s, ih, hv, hd, hn, hp, hA => by rw [bldL]; exact ⟨hn, Kp.refl _, by simp [Pl.cnL, Pl.clL]⟩
  | x :: r, j, a, i, nd, s, ih, hv, hd, hn, hp, hA => by
    rw [Pl.vokL] at hv
    rw [bldL, Pl.cnL, Pl.clL]
    have h1 := ih x (by simp) ⟨(a : Int), if j then (i : Int) else 0⟩ nd s hv.1 hd hn (hp i (by simp) (Nat.le_refl _)) hA
    have hg := bld_gw x ⟨(a : Int), if j then (i : Int) else 0⟩ nd s hv.1 hd
    have h2 := bldL_inv r j a (i + 1) nd _ (fun y hy => ih y (by simp [hy])) hv.2 (Nat.le_trans hd hg.aln) h1.inv (fun q h1q h2q => (hp q (by simp only [List.length_cons]; omega) (by omega)).kp h1.kp) (hA.kp h1.kp hg.take (Int.le_refl _))
    exact ⟨h2.inv, h1.kp.trans h2.kp, by rw [h2.len, h1.len]; omega⟩
theorem bld_inv : ∀ p : Pl, p.gd → p.bnd → p.sok 8 → BInv p := by
  refine Pl.ind fun k m kids ex cols wth agg rds ih hg hb hs to nd s hv hd hn hp hA => ?_
  rw [Pl.gd] at hg
  rw [Pl.bnd] at hb
  rw [Pl.sok] at hs
  obtain ⟨hf, he, hgl⟩ := hg
  have hsl : ∀ x ∈ kids, x.sok 8 := by
    have : ∀ l : List Pl, Pl.sokL l 8 → ∀ x ∈ l, x.sok 8 := by
      intro l
      induction l with
      | nil => intro _ x hx; simp at hx
      | cons y r ihr =>
        intro h x hx
        rw [Pl.sokL] at h
        rcases List.mem_cons.1 hx with rfl | hx
        · exact h.1
        · exact ihr h.2 x hx
    exact this kids hs.2
  have ih' : ∀ x ∈ kids, BInv x := fun x hx => ih x hx (Pl.gdL_mem hgl x hx) (Pl.bndL_mem hb.2.2.2.2 x hx) (hsl x hx)
  have hv0 := hv
  rw [Pl.vok] at hv
  rw [bld, Pl.cn, Pl.cl]
  obtain ⟨ns, A⟩ := s
  simp only at hn hp hd
  have hlt := hp.lt
  have hpos := hn.pos
  by_cases h1 : (k == 1) = true
  · obtain rfl : k = 1 := by simpa using h1
    have hkids : kids = [] := by
      have := formed_kids hf
      simpa [okP1, manyP] using this
    subst hkids
    have hm := hs.1 rfl
    rw [if_pos h1]
    refine ⟨hn.app fun j x hj => ?_, Kp.app _ _, by simp [Pl.cnL, Pl.clL]⟩
    match j, hj with
    | 0, hj =>
      simp at hj
      subst hj
      refine ⟨⟨.inr (.inl rfl), ?_, zero_bnd, to, rfl, hp.kp (Kp.app _ _), .inl ⟨by simp [leafN], by simpa using hlt, by simp [leafN]⟩⟩, rfl⟩
      simp only [leafN, Pl.zero, Nd.right0, rightN, zeroP_zero]
      simp
      omega
    | j + 1, hj => simp at hj
  · rw [if_neg h1]
    have h1' : (k == 1) = false := by simpa using h1
    by_cases h2 : (k == 2) = true
    · obtain rfl : k = 2 := by simpa using h2
      have hkids : kids = [] := by
        have := formed_kids hf
        simpa [okP1, manyP] using this
      subst hkids
      rw [if_pos h2]
      obtain ⟨hv1, hv2⟩ := hv.1 rfl
      obtain ⟨j, hj⟩ := Int.eq_ofNat_of_zero_le hv1
      have hjn : j < nd := by rw [hj] at hv2; omega
      have hjA : j < A.length := by omega
      have hgA : A[j]? = some A[j] := by simp [hjA]
      have hmem : A[j] ∈ A.take nd := List.mem_iff_getElem?.2 ⟨j, by rw [List.getElem?_take, if_pos hjn]; exact hgA⟩
      obtain ⟨ha0, ha1, y, hy, hk⟩ := hA _ hmem
      have hvj : varJ A nd m = (A[j]).toNat := by
        unfold varJ
        rw [hj]
        simp only [Int.ofNat_eq_natCast, Int.toNat_natCast, List.getD_eq_getElem?_getD, hgA, Option.getD_some]
      simp only at hy
      simp only [hvj]
      exact ⟨hn.push hy hk (by omega) hp, Kp.push _ _ _, by simp [Pl.cnL, Pl.clL]⟩
    · rw [if_neg h2]
      have h2' : (k == 2) = false := by simpa using h2
      by_cases h10 : (k == 10) = true
      · rw [if_pos h10]
        have h2l := formed_two hf h10
        obtain ⟨-, hvI⟩ := hv
        rw [if_pos h10] at hvI
        obtain ⟨hn1, hvI⟩ := hvI
        obtain rfl : k = 10 := by simpa using h10
        have hrd : 1 ≤ rds ∧ rds ≤ 16 := by
          unfold formedP at hf
          simp at hf
          omega
        match kids, h2l, hvI, ih' with
        | [x, y], _, hvI, ih' =>
        simp only [Pl.vokI, Pl.vokL] at hvI
        obtain ⟨hvx, hvy, -⟩ := hvI
        have hl0 : ns ++ [loopN nd rds ns.length] ++ [leaveN nd rds to] = ns ++ [loopN nd rds ns.length, leaveN nd rds to] := by simp
        have hi0 : NInv (ns ++ [loopN nd rds ns.length] ++ [leaveN nd rds to]) := by
          rw [hl0]
          refine hn.app fun j z hj => ?_
          have r0 : ∀ q : Int, (q = 3 ∨ q = 4) → ∀ t b, Nd.right0 ⟨q, .zero, 0, (nd : Int), rds, t, b⟩ = true := by
            intro q hq t b
            simp only [Pl.zero, Nd.right0, rightN, zeroP_zero]
            rcases hq with rfl | rfl <;> simp <;> omega
          match j, hj with
          | 0, hj =>
            simp at hj
            subst hj
            refine ⟨⟨.inr (.inr (.inl rfl)), r0 3 (.inl rfl) _ _, zero_bnd, ⟨(ns.length : Int) + 1, 0⟩, rfl, ⟨by simp only; omega, leaveN nd rds to, ?_, ?_⟩, .inr ⟨rfl, by simp, leaveN nd rds to, ?_, rfl⟩⟩, rfl⟩
            · rw [show ((⟨(ns.length : Int) + 1, 0⟩ : Prt).a).toNat = ns.length + 1 by simp only; omega, List.getElem?_append_right (by omega)]
              simp
            · simp [leaveN, Nd.reached]
            · rw [List.getElem?_append_right (by omega)]; simp
          | 1, hj =>
            simp at hj
            subst hj
            exact ⟨⟨.inr (.inr (.inr rfl)), r0 4 (.inr rfl) _ _, zero_bnd, to, rfl, hp.kp (Kp.app _ _), .inl ⟨by simp [leaveN], by omega, fun _ => by omega⟩⟩, rfl⟩
          | j + 2, hj => simp at hj
        have hk0 : Kp ns (ns ++ [loopN nd rds ns.length] ++ [leaveN nd rds to]) := by rw [hl0]; exact Kp.app _ _
        have hat : (ns ++ [loopN nd rds ns.length] ++ [leaveN nd rds to])[ns.length]? = some (loopN nd rds ns.length) := by
          rw [hl0, List.getElem?_append_right (Nat.le_refl _)]; simp
        have hport : ∀ b : Int, (b = 0 ∨ b = 1) → PortOK (ns ++ [loopN nd rds ns.length] ++ [leaveN nd rds to]) ⟨(ns.length : Int), b⟩ := by
          intro b hb
          refine ⟨by simp, loopN nd rds ns.length, by simp, ?_⟩
          rcases hb with rfl | rfl <;> simp [loopN, Nd.reached, Nd.two, Pl.zero, twoN]
        have hA0 : Ard (ns ++ [loopN nd rds ns.length] ++ [leaveN nd rds to], A) nd ns.length := Ard.kp (s := (ns, A)) hA hk0 rfl (by omega)
        have hx := ih' x (by simp) ⟨(ns.length : Int), 0⟩ nd _ hvx hd hi0 (hport 0 (.inl rfl)) hA0
        have hgx := bld_gw x ⟨(ns.length : Int), 0⟩ nd (ns ++ [loopN nd rds ns.length] ++ [leaveN nd rds to], A) hvx hd
        have hbI : bldI [x, y] ns.length nd (ns ++ [loopN nd rds ns.length] ++ [leaveN nd rds to], A) = bld y ⟨(ns.length : Int), 1⟩ (nd + 1) ((bld x ⟨(ns.length : Int), 0⟩ nd (ns ++ [loopN nd rds ns.length] ++ [leaveN nd rds to], A)).1, pushG (bld x ⟨(ns.length : Int), 0⟩ nd (ns ++ [loopN nd rds ns.length] ++ [leaveN nd rds to], A)).2 nd ns.length) := by
          simp only [bldI, bldL, if_true]
          rfl
        simp only [hbI]
        generalize bld x ⟨(ns.length : Int), 0⟩ nd (ns ++ [loopN nd rds ns.length] ++ [leaveN nd rds to], A) = b1 at hx hgx ⊢
        obtain ⟨ns2, A2⟩ := b1
        have hd2 := Nat.le_trans hd hgx.aln
        simp only at hd2
        have hpl := pushG_len (ns.length : Int) hd2
        have hy := ih' y (by simp) ⟨(ns.length : Int), 1⟩ (nd + 1) (ns2, pushG A2 nd ns.length) hvy (by simp only [hpl]; omega) hx.inv ((hport 1 (.inr rfl)).kp hx.kp) (by
          intro a ha
          simp only at ha ⊢
          rw [take_pushG' _ hd2] at ha
          rcases List.mem_append.1 ha with ha | ha
          · exact Ard.kp hA0 hx.kp hgx.take (Int.le_refl _) a ha
          · simp only [List.mem_singleton] at ha
            subst ha
            obtain ⟨z, hz, l⟩ := hx.kp _ _ hat
            exact ⟨by omega, by omega, z, by simpa using hz, by rw [l.1]; rfl⟩)
        refine ⟨hy.inv, hk0.trans (hx.kp.trans hy.kp), ?_⟩
        have e1 := hx.len
        have e2 := hy.len
        simp only [List.length_append, List.length_cons, List.length_nil] at e1 e2 ⊢
        rw [e2, e1]
        simp [Pl.cnL, Pl.clL]
        omega
      · rw [if_neg h10]
        have h10' : (k == 10) = false := by simpa using h10
        obtain ⟨-, hvL⟩ := hv
        rw [if_neg h10] at hvL
        have hi0 : NInv (ns ++ [planN (.mk k m [] ex cols wth agg rds) to]) := by
          refine hn.app fun j x hj => ?_
          match j, hj with
          | 0, hj =>
            simp at hj
            subst hj
            refine ⟨⟨.inl rfl, ?_, ?_, to, rfl, hp.kp (Kp.app _ _), .inl ⟨by simp [planN], by simpa using hlt, by simp [planN]⟩⟩, rfl⟩
            · have := made_of hf he h1' h2' h10'
              simp [planN, Nd.right0, rightN, this]
            · rw [planN, Pl.bnd]
              exact ⟨by simp, hb.2.1, hb.2.2.1, hb.2.2.2.1, by simp [Pl.bndL]⟩
          | j + 1, hj => simp at hj
        have hat := getElem?_snoc ns (planN (.mk k m [] ex cols wth agg rds) to)
        have h7n := (formed_nk hf h1' h2' h10').2
        have hL := bldL_inv kids (k == 7) ns.length 0 nd (ns ++ [planN (.mk k m [] ex cols wth agg rds) to], A) ih' hvL hd hi0 (fun q hq _ => by
          refine ⟨by simp, planN (.mk k m [] ex cols wth agg rds) to, by simp, ?_⟩
          simp only [planN, Nd.reached, Nd.two, twoN]
          by_cases h7 : (k == 7) = true
          · have := h7n h7
            have hq2 : q = 0 ∨ q = 1 := by omega
            rw [h7]
            rcases hq2 with rfl | rfl <;> simp
          · rw [if_neg h7]
            simp) (Ard.kp (s := (ns, A)) hA (Kp.app _ _) rfl (by omega))
        refine ⟨hL.inv, (Kp.app _ _).trans hL.kp, ?_⟩
        have e1 := hL.len
        simp only [List.length_append, List.length_cons, List.length_nil] at e1
        rw [e1]
        simp [h2', h10']
        omega
end Go.Proofs
end
section
set_option linter.unusedVariables false
set_option linter.unusedSimpArgs false
namespace Go.Proofs
open Go.Flat
set_option linter.unusedSimpArgs false
set_option linter.unusedVariables false
theorem anyBad_none {ns : List Nd} : ∀ (l : List Nd) (i : Nat), (∀ j x, l[j]? = some x → badN ns (i + j) x = false) → anyBad ns l i = false
  | [], _, _ => rfl
  | x :: r, i, h => by
    have h00 := h 0 x (by simp)
    rw [Nat.add_zero] at h00
    rw [anyBad, h00, anyBad_none r (i + 1) fun j y hj => by
      have := h (j + 1) y (by simpa using hj)
      rwa [show i + 1 + j = i + (j + 1) by omega]]
    rfl
theorem r0_loop {x : Nd} (h : x.right0 = true) (hk : x.k = 3) : 1 ≤ x.rds ∧ x.rds ≤ 16 := by
  obtain ⟨xk, ⟨pk, pn, pq, pe, pc, pw, pa, pg⟩, xn, xl, xr, xt, xb⟩ := x
  simp only at hk
  subst hk
  simp [Nd.right0, rightN] at h
  exact ⟨h.2.2.1, h.2.2.2.1⟩
theorem bndF_ge {n : Int} {x : Nd} (h0 : 0 ≤ n) (h : x.k = 3 → 1 ≤ x.rds ∧ x.rds ≤ 16) : n ≤ bndF n x := by
  unfold bndF
  split
  · rename_i hc
    simp only [Bool.and_eq_true, beq_iff_eq, decide_eq_true_eq] at hc
    obtain ⟨h1, h2⟩ := h hc.1
    have e1 : IntKind.i64.wrap (x.rds + 1) = x.rds + 1 := w64_in (by omega) (by omega)
    have hub : n * (x.rds + 1) ≤ 1099511627776 * 17 := Int.mul_le_mul (by omega) (by omega) (by omega) (by omega)
    have hlb : n * 1 ≤ n * (x.rds + 1) := Int.mul_le_mul_of_nonneg_left (by omega) h0
    rw [e1, w64_in (by omega) (by omega)]
    omega
  · exact Int.le_refl _
theorem fold_ge : ∀ (l : List Nd) (n : Int), 0 ≤ n → (∀ x ∈ l, x.k = 3 → 1 ≤ x.rds ∧ x.rds ≤ 16) → n ≤ l.foldl bndF n
  | [], n, _, _ => Int.le_refl _
  | x :: r, n, h0, h => by
    have h1 := bndF_ge h0 (h x (by simp))
    exact Int.le_trans h1 (fold_ge r (bndF n x) (by omega) fun y hy => h y (by simp [hy]))
structure Built (ns : List Nd) (p : Pl) : Prop where
  inv : NInv ns
  len : ns.length = 1 + p.cn + p.cl
  small : ns.length ≤ 129
  bnd : ∀ x ∈ ns, x.bnd
  chk : checkG ns = 0
  far : (ns.length : Int) ≤ boundG ns
theorem ninv0 : NInv [outN] := by
  refine ⟨⟨outN, rfl, rfl, rfl, ?_, zero_bnd⟩, fun i x hx hi => ?_, fun i x hx q hq => ?_⟩
  · decide
  · match i, hx, hi with
    | 0, _, hi => exact absurd rfl hi
    | i + 1, hx, _ => simp at hx
  · match i, hx with
    | 0, hx => simp at hx; subst hx; simp [outN] at hq
    | i + 1, hx => simp at hx
theorem built {ss : List (List Int)} {p : Pl} (hb : p.bnd) (hs : p.size ≤ 2 ^ 40) (h : (bldG ss p).2 = 0) : Built (bldG ss p).1 p := by
  have h0 : (inferP ss p).2 = 0 := by
    unfold bldG at h
    split at h
    · exact h
    · rename_i hh; simpa using hh
  have he : bldG ss p = ((bld p ⟨0, 0⟩ 0 ([outN], [])).1, 0) := by unfold bldG; rw [if_neg (by rw [h0]; decide)]
  rw [he]
  obtain ⟨hf, hv, hk⟩ := infer_fine hs h0
  have hg := bld_gw p ⟨0, 0⟩ 0 ([outN], []) hv (by simp)
  have hst := bld_inv p hf.1 hb hk ⟨0, 0⟩ 0 ([outN], []) hv (by simp) ninv0 ⟨by simp, outN, rfl, by decide⟩ (by intro a ha; simp at ha)
  have hc := cn_le p
  have hz := hf.2.1
  have hlen := hst.len
  have hrm := hg.rm (d := 0) (rm0 (p := p) hz)
  have hi := hst.inv
  have hbk0 := hrm.back
  clear hrm hst hg
  simp only at hlen ⊢
  generalize (bld p ⟨0, 0⟩ 0 ([outN], [])).1 = ns at hi hlen hbk0
  simp only [List.length_cons, List.length_nil] at hlen
  have hsm : ns.length ≤ 129 := by omega
  have hbk : ∀ x ∈ ns, x.back.length ≤ 200 := fun x hx => by
    have := hbk0 x hx
    omega
  have hbd : ∀ x ∈ ns, x.bnd := by
    intro x hx
    obtain ⟨i, hi'⟩ := List.mem_iff_getElem?.1 hx
    have hbk' := hbk x hx
    have key : x.pl.bnd ∧ x.to.length ≤ 1 := by
      by_cases h0 : i = 0
      · subst h0
        obtain ⟨z, hz, _, h2, _, h4⟩ := hi.zero
        rw [hi'] at hz
        simp only [Option.some.injEq] at hz
        subst hz
        exact ⟨h4, by rw [h2]; simp⟩
      · have hn := hi.node i x hi' h0
        obtain ⟨t, ht, _⟩ := hn.to
        exact ⟨hn.pb, by rw [ht]; simp⟩
    obtain ⟨xk, ⟨pk, pn, pq, pe, pc, pw, pa, pg⟩, xn, xl, xr, xt, xb⟩ := x
    obtain ⟨k1, k2⟩ := key
    simp only at k1 k2 hbk'
    rw [Pl.bnd] at k1
    exact ⟨k1.1, k1.2.1, k1.2.2.1, k1.2.2.2.1, by simp only [Flat.lim]; omega, by simp only [Flat.lim]; omega⟩
  have hport : ∀ q, PortOK ns q → badR ns q = false := by
    intro q hq
    have hlt := hq.lt
    obtain ⟨hq0, y, hy, hr⟩ := hq
    unfold badR reachN
    rw [if_neg (by simp; omega), hy]
    simp [hr]
  have hchk : checkG ns = 0 := by
    unfold checkG
    have hpos := hi.pos
    rw [if_neg (by simp; exact ⟨by rintro rfl; simp at hpos, by omega⟩), anyBad_none]
    · rfl
    · intro j x hj
      rw [Nat.zero_add]
      have hback : x.back.any (badR ns) = false := by
        rw [List.any_eq_false]
        intro q hq
        rw [hport q (hi.back j x hj q hq).2.2]
        decide
      by_cases h0 : j = 0
      · subst h0
        obtain ⟨z, hz, h1, h2, h3, h4⟩ := hi.zero
        rw [hj] at hz
        simp only [Option.some.injEq] at hz
        subst hz
        have hb0 : x.back = [] := by
          cases hq : x.back with
          | nil => rfl
          | cons q r =>
            have := (hi.back 0 x hj q (by rw [hq]; simp)).1
            rw [h1] at this
            exact absurd this (by decide)
        unfold badN
        rw [right_of0 h3 (.inl hb0), hback, h2, h1]
        rfl
      · have hn := hi.node j x hj h0
        obtain ⟨t, ht, hp, _⟩ := hn.to
        have hb0 : x.back = [] ∨ x.k = 3 := by
          cases hq : x.back with
          | nil => exact .inl rfl
          | cons q r => exact .inr (hi.back j x hj q (by rw [hq]; simp)).1
        have hk5 : (x.k == 5) = false := by
          rcases hn.kind with h | h | h | h <;> rw [h] <;> rfl
        have hj0 : ((j : Int) == 0) = false := by
          rw [beq_eq_false_iff_ne]; omega
        unfold badN
        rw [right_of0 hn.r0 hb0, hback, ht, hk5, hj0]
        simp [hport t hp]
  refine ⟨hi, by omega, hsm, hbd, hchk, ?_⟩
  unfold boundG
  rw [if_neg (by rw [hchk]; decide)]
  refine fold_ge ns _ (by omega) fun x hx hk3 => ?_
  obtain ⟨i, hi'⟩ := List.mem_iff_getElem?.1 hx
  by_cases h0 : i = 0
  · subst h0
    obtain ⟨z, hz, h1, _⟩ := hi.zero
    rw [hi'] at hz
    simp only [Option.some.injEq] at hz
    subst hz
    rw [h1] at hk3
    exact absurd hk3 (by decide)
  · exact r0_loop (hi.node i x hi' h0).r0 hk3
theorem built_err {ss : List (List Int)} {p : Pl} (h : (bldG ss p).2 ≠ 0) : (bldG ss p).1 = [] := by
  unfold bldG at h ⊢
  split at h
  · rename_i hh; rw [if_pos hh]
  · exact absurd rfl h
end Go.Proofs
end
section
set_option linter.unusedVariables false
set_option linter.unusedSimpArgs false

end
section
set_option linter.unusedVariables false
set_option linter.unusedSimpArgs false
namespace Go.Proofs
open Go.Flat
set_option maxRecDepth 100000
set_option linter.unusedSimpArgs false
set_option linter.unusedVariables false
attribute [local simp] Bool.and_assoc Bool.or_assoc evalG evalX efD skF guardG guardL isCall stepL evalOp ev evs lk tmpsL app AV.ok fresh vv putCells insV ins del putL place Go.Flat.look fillC fillR getCells loadF storeF binF scalarBin intBin strBin isShift shiftBin unF lenF maxF minF rowsF appendF builtinF idxF natOf sliceP sliceF optEv Flat.cut overwrite toPV toPVs constAV scalarC scalarCs AV.cells TI.isAgg allSome andAll scalarEq buildable Go.Flat.lim retQ resL resAll resOne PartOf noTmp closedIn refs refs.refsL isSomeV hasB ids leA leA.leL renA renA.renL callB refsAll backL dropIds renS LiesAt injB ownB freshB memN locId insAll leA_refl leL_refl okS frzS frzA frzA.frzL evalD feet fine updCells cellsFrom memP footRf footWf noTmpU updIds opOps opIds idsA footR footW guardTs opTs dstTs callR callW renLoc renC inBlockQ thenQ Value.oneCell' IntKind.bits IntKind.signed PV.up toPH toPHs

attribute [local simp] Pl.av E.av
@[simp] theorem eqB_self (c : Val) : Val.eqB c c = true := by simp [Val.eqB]

attribute [local simp] irow in
theorem spec128 (ps : List Int) (hl : ps.length ≤ Flat.lim) : Flat.Sp Try.prog 128 [.p (.ps (ps.map irow)), .p (.ps (ps.map irow))] [] (vv (.bool true)) [] := by
  refine sk Try.func128 ?_
  intro F G hn hG
  refine sq ?_
  refine rg 1000 ?_
  refine pr [0, 2, 4, 26] ?_
  refine sq ?_
  refine sq ?_
  refine rg 2000 ?_
  refine pr [0, 2, 4, 6, 10, 26] ?_
  refine ce ?_
  refine k_skip ?_
  refine sq ?_
  refine sq ?_
  refine rg 4000 ?_
  refine pr [0, 2, 4, 6, 12, 26] ?_
  refine k_block ?_
  refine k_loop (fun n l => ∃ i, i + n = ps.length ∧ (True) ∧ l = [(.tmp 0, .av (.p (.ps (ps.map irow)))), (.tmp 1, .av (.p (.ps (ps.map irow)))), (.tmp 12, .av (vv (.int .i64 ps.length))), (.tmp 13, .av (vv (.int .i64 i)))]) (ps.length) hG ⟨_, ⟨by simp, by simp, by simp⟩, 0, by simp, trivial, rfl⟩ ?_
  rintro n _ ⟨i, hin, hfa, rfl⟩
  refine sq ?_
  refine rg 5000 ?_
  refine pr [0, 2, 4, 6, 12, 26] ?_
  refine sq ?_
  refine cd ?_ ?_
  · intro h14_1
    have hlt : i < ps.length := by simpa using h14_1
    obtain ⟨x, hxe⟩ : ∃ x, ps[i] = x := ⟨_, rfl⟩
    have hx : ps[i]? = some x := by simp [hlt, hxe]
    have hw := wrap_succ (show i < Flat.lim by omega)
    refine k_skip ?_
    refine sq ?_
    refine k_block ?_
    refine sq ?_
    refine rg 6000 ?_
    refine pr [0, 2, 4, 6, 12, 26] ?_
    refine sq ?_
    refine dr ?_
    refine de 7000 ?_
    refine dn ?_
    refine pr [0, 2, 4, 6, 12, 26] ?_
    refine ce ?_
    refine k_skip ?_
    refine k_nil ?_
    show AK _ _ _ _ _ _
    refine rg 9000 ?_
    refine k_nil ?_
    refine ⟨n - 1, by omega, _, ⟨?_, ?_, ?_⟩, i + 1, by omega, trivial, rfl⟩ <;> simp [*]
  · intro h14_1
    have hge : ps.length ≤ i := by simpa using h14_1
    refine k_exit ?_
    show AK _ _ _ _ _ _
    refine sq ?_
    refine rg 10000 ?_
    refine pr [4, 5] ?_
    refine k_ret ?_
    show retQ _ _ _ _ _ _ _
    simp [*]

attribute [local simp] prow in
theorem spec71 (ps : List Prt) (hl : ps.length ≤ Flat.lim) : Flat.Sp Try.prog 71 [.p (.ps (ps.map prow)), .p (.ps (ps.map prow))] [] (vv (.bool true)) [] := by
  refine sk Try.func71 ?_
  intro F G hn hG
  refine sq ?_
  refine rg 1000 ?_
  refine pr [0, 2, 4, 26] ?_
  refine sq ?_
  refine sq ?_
  refine rg 2000 ?_
  refine pr [0, 2, 4, 6, 10, 26] ?_
  refine ce ?_
  refine k_skip ?_
  refine sq ?_
  refine sq ?_
  refine rg 4000 ?_
  refine pr [0, 2, 4, 6, 12, 26] ?_
  refine k_block ?_
  refine k_loop (fun n l => ∃ i, i + n = ps.length ∧ (True) ∧ l = [(.tmp 0, .av (.p (.ps (ps.map prow)))), (.tmp 1, .av (.p (.ps (ps.map prow)))), (.tmp 12, .av (vv (.int .i64 ps.length))), (.tmp 13, .av (vv (.int .i64 i)))]) (ps.length) hG ⟨_, ⟨by simp, by simp, by simp⟩, 0, by simp, trivial, rfl⟩ ?_
  rintro n _ ⟨i, hin, hfa, rfl⟩
  refine sq ?_
  refine rg 5000 ?_
  refine pr [0, 2, 4, 6, 12, 26] ?_
  refine sq ?_
  refine cd ?_ ?_
  · intro h14_1
    have hlt : i < ps.length := by simpa using h14_1
    obtain ⟨x, hxe⟩ : ∃ x, ps[i] = x := ⟨_, rfl⟩
    have hx : ps[i]? = some x := by simp [hlt, hxe]
    have hw := wrap_succ (show i < Flat.lim by omega)
    refine k_skip ?_
    refine sq ?_
    refine k_block ?_
    refine sq ?_
    refine rg 6000 ?_
    refine pr [0, 2, 4, 6, 12, 26] ?_
    refine sq ?_
    refine dr ?_
    refine de 7000 ?_
    refine dn ?_
    refine pr [0, 2, 4, 6, 12, 26] ?_
    refine ce ?_
    refine k_skip ?_
    refine k_nil ?_
    show AK _ _ _ _ _ _
    refine rg 9000 ?_
    refine k_nil ?_
    refine ⟨n - 1, by omega, _, ⟨?_, ?_, ?_⟩, i + 1, by omega, trivial, rfl⟩ <;> simp [*]
  · intro h14_1
    have hge : ps.length ≤ i := by simpa using h14_1
    refine k_exit ?_
    show AK _ _ _ _ _ _
    refine sq ?_
    refine rg 10000 ?_
    refine pr [4, 5] ?_
    refine k_ret ?_
    show retQ _ _ _ _ _ _ _
    simp [*]

theorem spec129_step (eo ec : Int) (ev : Val) (ek : List E) (hb : ek.length ≤ 3) (ih : ∀ x ∈ ek, Flat.Sp Try.prog 129 [x.av, x.av] [] (vv (.bool true)) []) : Flat.Sp Try.prog 129 [(E.mk eo ec ev ek).av, (E.mk eo ec ev ek).av] [] (vv (.bool true)) [] := by
  refine sk Try.func129 ?_
  intro F G hn hG
  have hbl : ek.length ≤ Flat.lim := by simp only [Flat.lim]; omega
  refine sq ?_
  refine rg 1000 ?_
  refine pr [2, 53] ?_
  refine sq ?_
  refine sq ?_
  refine rc 2000 ?_
  iterate 5 (first | refine gp 2450 ?_ | refine os ?_ | refine gt 2450 ?_)
  refine oe 2500 ?_
  iterate 5 (first | refine gp 2950 ?_ | refine os ?_ | refine gt 2950 ?_)
  refine oe 3000 ?_
  iterate 7 (first | refine gp 3650 ?_ | refine os ?_ | refine gt 3650 ?_)
  refine oe 3700 ?_
  refine on ?_
  refine pr [2, 6, 33, 53] ?_
  refine ce ?_
  refine k_skip ?_
  refine sq ?_
  refine sq ?_
  refine rg 4000 ?_
  refine pr [2, 6, 36, 53] ?_
  refine k_block ?_
  refine k_loop (fun n l => ∃ i, i + n = ek.length ∧ (True) ∧ l = [(.tmp 2, .av (.ptr 1000 0)), (.tmp 3, .av (.ptr 1001 0)), (.tmp 36, .av (vv (.int .i64 ek.length))), (.tmp 37, .av (vv (.int .i64 i))), (.var 1000, .n 6), (.cell 1000 0, .av (vv (.int .u8 eo))), (.cell 1000 1, .av (vv (.int .i64 ec))), (.cell 1000 2, .av (vv (.bool ev.t))), (.cell 1000 3, .av (vv (.int .i64 ev.n))), (.cell 1000 4, .av (vv (.string ev.s))), (.cell 1000 5, .av (.p (.ps (ek.map E.row)))), (.var 1001, .n 6), (.cell 1001 0, .av (vv (.int .u8 eo))), (.cell 1001 1, .av (vv (.int .i64 ec))), (.cell 1001 2, .av (vv (.bool ev.t))), (.cell 1001 3, .av (vv (.int .i64 ev.n))), (.cell 1001 4, .av (vv (.string ev.s))), (.cell 1001 5, .av (.p (.ps (ek.map E.row))))]) (ek.length) hG ⟨_, ⟨by simp, by simp, by simp⟩, 0, by simp, trivial, rfl⟩ ?_
  rintro n _ ⟨i, hin, hfa, rfl⟩
  refine sq ?_
  refine rg 5000 ?_
  refine pr [2, 6, 36, 53] ?_
  refine sq ?_
  refine cd ?_ ?_
  · intro h38_1
    have hlt : i < ek.length := by simpa using h38_1
    obtain ⟨x, hxe⟩ : ∃ x, ek[i] = x := ⟨_, rfl⟩
    have hx : ek[i]? = some x := by simp [hlt, hxe]
    have hw := wrap_succ (show i < Flat.lim by omega)
    have hx2 := ih x (List.mem_of_getElem? hx)
    obtain ⟨xo, xc, xv, xk⟩ := x
    refine k_skip ?_
    refine sq ?_
    refine k_block ?_
    refine sq ?_
    refine rg 6000 ?_
    refine pr [2, 6, 36, 53] ?_
    refine sq ?_
    refine dr ?_
    refine de 7000 ?_ (h := by simp [*, E.row_eq]; exact is_rfl _)
    refine dc id ((show Flat.Sp Try.prog 129 [(E.mk xo xc xv xk).av, (E.mk xo xc xv xk).av] [] (vv (.bool true)) [] from hx2)) ?_ (hg := by simp [*, E.row_eq]) (hf := by simp [*, E.row_eq]; exact is_rfl _) (hx := by simp [*, E.row_eq]; exact is_rfl _) (hargs := by simp [*, E.row_eq]) (hB := by simp [*, E.row_eq]) (hL := by simp [*, E.row_eq]) (hd := by simp [*, E.row_eq]; exact is_rfl _)
    refine de 7100 ?_ (h := by simp [*, E.row_eq]; exact is_rfl _)
    refine dn ?_
    refine pr [2, 6, 36, 53] ?_
    refine ce ?_
    refine k_skip ?_
    refine k_nil ?_
    show AK _ _ _ _ _ _
    refine rg 9000 ?_
    refine k_nil ?_
    refine ⟨n - 1, by omega, _, ⟨?_, ?_, ?_⟩, i + 1, by omega, trivial, rfl⟩ <;> simp [*]
  · intro h38_1
    have hge : ek.length ≤ i := by simpa using h38_1
    refine k_exit ?_
    show AK _ _ _ _ _ _
    refine sq ?_
    refine rg 10000 ?_
    refine pr [4, 5] ?_
    refine k_ret ?_
    show retQ _ _ _ _ _ _ _
    simp [*]

theorem spec129 : ∀ e : E, e.good → Flat.Sp Try.prog 129 [e.av, e.av] [] (vv (.bool true)) [] := by
  refine E.ind fun o c v kids ih hg => ?_
  rw [E.good] at hg
  exact spec129_step o c v kids (okE_len hg.1) fun x hx => ih x hx (E.goodL_mem hg.2 x hx)

theorem spec70 (k m : Int) (ex : List E) (cols wth : List Int) (agg rds : Int) (hbe : ex.length ≤ Flat.lim) (hbc : cols.length ≤ Flat.lim) (hbw : wth.length ≤ Flat.lim) (hge : ∀ e ∈ ex, e.good) : Flat.Sp Try.prog 70 [(Pl.mk k m [] ex cols wth agg rds).av, (Pl.mk k m [] ex cols wth agg rds).av] [] (vv (.bool true)) [] := by
  refine sk Try.func70 ?_
  intro F G hn hG
  refine sq ?_
  refine rg 1000 ?_
  refine pr [2, 105] ?_
  refine sq ?_
  refine sq ?_
  refine rc 2000 ?_
  iterate 5 (first | refine gp 2450 ?_ | refine os ?_ | refine gt 2450 ?_)
  refine oe 2500 ?_
  iterate 7 (first | refine gp 3150 ?_ | refine os ?_ | refine gt 3150 ?_)
  refine oe 3200 ?_
  iterate 7 (first | refine gp 3850 ?_ | refine os ?_ | refine gt 3850 ?_)
  refine oe 3900 ?_
  iterate 4 (first | refine gp 4250 ?_ | refine os ?_ | refine gt 4250 ?_)
  refine oc id (spec128 cols hbc) ?_
  first | refine gp 4450 ?_ | refine os ?_ | refine gt 4450 ?_
  refine oe 4500 ?_
  iterate 4 (first | refine gp 4850 ?_ | refine os ?_ | refine gt 4850 ?_)
  refine oc id (spec128 wth hbw) ?_
  first | refine gp 5050 ?_ | refine os ?_ | refine gt 5050 ?_
  refine oe 5100 ?_
  iterate 5 (first | refine gp 5550 ?_ | refine os ?_ | refine gt 5550 ?_)
  refine oe 5600 ?_
  iterate 5 (first | refine gp 6050 ?_ | refine os ?_ | refine gt 6050 ?_)
  refine oe 6100 ?_
  refine on ?_
  refine pr [2, 7, 66, 105] ?_
  refine ce ?_
  refine k_skip ?_
  refine sq ?_
  refine sq ?_
  refine rg 4000 ?_
  refine pr [2, 7, 69, 105] ?_
  refine k_block ?_
  refine k_loop (fun n l => ∃ i, i + n = ex.length ∧ (True) ∧ l = [(.tmp 2, .av (.ptr 1000 0)), (.tmp 3, .av (.ptr 1001 0)), (.tmp 69, .av (vv (.int .i64 ex.length))), (.tmp 70, .av (vv (.int .i64 i))), (.var 1000, .n 8), (.cell 1000 0, .av (vv (.int .u8 k))), (.cell 1000 1, .av (vv (.int .i64 m))), (.cell 1000 2, .av (.p (.ps []))), (.cell 1000 3, .av (.p (.ps (ex.map E.row)))), (.cell 1000 4, .av (.p (.ps (cols.map irow)))), (.cell 1000 5, .av (.p (.ps (wth.map irow)))), (.cell 1000 6, .av (vv (.int .u8 agg))), (.cell 1000 7, .av (vv (.int .i64 rds))), (.var 1001, .n 8), (.cell 1001 0, .av (vv (.int .u8 k))), (.cell 1001 1, .av (vv (.int .i64 m))), (.cell 1001 2, .av (.p (.ps []))), (.cell 1001 3, .av (.p (.ps (ex.map E.row)))), (.cell 1001 4, .av (.p (.ps (cols.map irow)))), (.cell 1001 5, .av (.p (.ps (wth.map irow)))), (.cell 1001 6, .av (vv (.int .u8 agg))), (.cell 1001 7, .av (vv (.int .i64 rds)))]) (ex.length) hG ⟨_, ⟨by simp, by simp, by simp⟩, 0, by simp, trivial, rfl⟩ ?_
  rintro n _ ⟨i, hin, hfa, rfl⟩
  refine sq ?_
  refine rg 5000 ?_
  refine pr [2, 7, 69, 105] ?_
  refine sq ?_
  refine cd ?_ ?_
  · intro h71_1
    have hlt : i < ex.length := by simpa using h71_1
    obtain ⟨x, hxe⟩ : ∃ x, ex[i] = x := ⟨_, rfl⟩
    have hx : ex[i]? = some x := by simp [hlt, hxe]
    have hw := wrap_succ (show i < Flat.lim by omega)
    have hx2 := spec129 x (hge x (List.mem_of_getElem? hx))
    obtain ⟨xo, xc, xv, xk⟩ := x
    refine k_skip ?_
    refine sq ?_
    refine k_block ?_
    refine sq ?_
    refine rg 6000 ?_
    refine pr [2, 7, 69, 105] ?_
    refine sq ?_
    refine dr ?_
    refine de 7000 ?_ (h := by simp [*, E.row_eq]; exact is_rfl _)
    refine dc id ((show Flat.Sp Try.prog 129 [(E.mk xo xc xv xk).av, (E.mk xo xc xv xk).av] [] (vv (.bool true)) [] from hx2)) ?_ (hg := by simp [*, E.row_eq]) (hf := by simp [*, E.row_eq]; exact is_rfl _) (hx := by simp [*, E.row_eq]; exact is_rfl _) (hargs := by simp [*, E.row_eq]) (hB := by simp [*, E.row_eq]) (hL := by simp [*, E.row_eq]) (hd := by simp [*, E.row_eq]; exact is_rfl _)
    refine de 7100 ?_ (h := by simp [*, E.row_eq]; exact is_rfl _)
    refine dn ?_
    refine pr [2, 7, 69, 105] ?_
    refine ce ?_
    refine k_skip ?_
    refine k_nil ?_
    show AK _ _ _ _ _ _
    refine rg 9000 ?_
    refine k_nil ?_
    refine ⟨n - 1, by omega, _, ⟨?_, ?_, ?_⟩, i + 1, by omega, trivial, rfl⟩ <;> simp [*]
  · intro h71_1
    have hge : ex.length ≤ i := by simpa using h71_1
    refine k_exit ?_
    show AK _ _ _ _ _ _
    refine sq ?_
    refine sq ?_
    refine rg 10000 ?_
    refine pr [2, 5, 6, 7, 88, 105] ?_
    refine k_block ?_
    refine k_rounds 1 ?_
    show AK _ _ _ _ _ _
    refine sq ?_
    refine rg 11000 ?_
    refine pr [2, 5, 6, 7, 88, 105] ?_
    refine sq ?_
    refine ce ?_
    refine k_exit ?_
    show AK _ _ _ _ _ _
    refine sq ?_
    refine rg 16000 ?_
    refine pr [4, 5] ?_
    refine k_ret ?_
    show retQ _ _ _ _ _ _ _
    simp [*]

/-- A node's plan has no Kids, and right expressions. -/
def Nd.xg (x : Nd) : Prop := match x with
  | ⟨_, .mk _ _ pq pe _ _ _ _, _, _, _, _, _⟩ => pq = [] ∧ ∀ e ∈ pe, e.good

attribute [local simp] Nd.row Pl.row_eq in
set_option maxHeartbeats 1000000 in
theorem spec37 (ns : List Nd) (hnl : ns.length ≤ 200) (hb : ∀ x ∈ ns, x.bnd) (hg : ∀ x ∈ ns, x.xg) : Flat.Sp Try.prog 37 [.p (.ps (ns.map Nd.row)), .p (.ps (ns.map Nd.row))] [] (vv (.bool true)) [] := by
  refine sk Try.func37 ?_
  intro F G hn hG
  refine sq ?_
  refine rg 1000 ?_
  refine pr [0, 2, 4, 75] ?_
  refine sq ?_
  refine sq ?_
  refine rg 2000 ?_
  refine pr [0, 2, 4, 8, 12, 75] ?_
  refine ce ?_
  refine k_skip ?_
  refine sq ?_
  refine sq ?_
  refine rg 4000 ?_
  refine pr [1, 2, 4, 8, 13, 75] ?_
  refine k_block ?_
  refine k_loop (fun n l => ∃ i, i + n = ns.length ∧ (True) ∧ l = [(.tmp 1, .av (.p (.ps (ns.map Nd.row)))), (.tmp 13, .av (.p (.ps (ns.map Nd.row)))), (.tmp 14, .av (vv (.int .i64 ns.length))), (.tmp 15, .av (vv (.int .i64 i)))]) (ns.length) hG ⟨_, ⟨by simp, by simp, by simp⟩, 0, by simp, trivial, rfl⟩ ?_
  rintro n _ ⟨i, hin, hfa, rfl⟩
  refine sq ?_
  refine rg 5000 ?_
  refine pr [1, 2, 4, 8, 13, 75] ?_
  refine sq ?_
  refine cd ?_ ?_
  · intro h16_1
    have hlt : i < ns.length := by simpa using h16_1
    obtain ⟨x, hxe⟩ : ∃ x, ns[i] = x := ⟨_, rfl⟩
    have hx : ns[i]? = some x := by simp [hlt, hxe]
    have hw := wrap_succ (show i < Flat.lim by simp only [Flat.lim]; omega)
    have hbx := hb x (List.mem_of_getElem? hx)
    have hgx := hg x (List.mem_of_getElem? hx)
    obtain ⟨xk, ⟨pk, pn, pq, pe, pc, pw, pa, pg⟩, xn, xl, xr, xt, xb⟩ := x
    obtain ⟨b1, b2, b3, b4, b5, b6⟩ := hbx
    obtain ⟨g1, g2⟩ := hgx
    subst g1
    refine k_skip ?_
    refine sq ?_
    refine k_block ?_
    refine sq ?_
    refine rg 6000 ?_
    refine pr [1, 2, 4, 8, 13, 75] ?_
    refine sq ?_
    refine rg 7000 ?_
    refine pr [1, 2, 4, 8, 13, 75] ?_
    refine sq ?_
    refine rc 8000 ?_
    iterate 4 (first | refine gp 8350 ?_ | refine os ?_ | refine gt 8350 ?_)
    refine oc id (spec70 pk pn pe pc pw pa pg (Bnd_lim b2) (Bnd_lim b3) (Bnd_lim b4) g2) ?_
    first | refine gp 8550 ?_ | refine os ?_ | refine gt 8550 ?_
    refine oe 8600 ?_
    iterate 5 (first | refine gp 9050 ?_ | refine os ?_ | refine gt 9050 ?_)
    refine oe 9100 ?_
    iterate 5 (first | refine gp 9550 ?_ | refine os ?_ | refine gt 9550 ?_)
    refine oe 9600 ?_
    iterate 5 (first | refine gp 10050 ?_ | refine os ?_ | refine gt 10050 ?_)
    refine oe 10100 ?_
    iterate 4 (first | refine gp 10450 ?_ | refine os ?_ | refine gt 10450 ?_)
    refine oc id (spec71 xt b5) ?_
    first | refine gp 10650 ?_ | refine os ?_ | refine gt 10650 ?_
    refine oe 10700 ?_
    iterate 4 (first | refine gp 11050 ?_ | refine os ?_ | refine gt 11050 ?_)
    refine oc id (spec71 xb b6) ?_
    first | refine gp 11250 ?_ | refine os ?_ | refine gt 11250 ?_
    refine oe 11300 ?_
    refine on ?_
    refine pr [1, 2, 4, 8, 13, 75] ?_
    refine ce ?_
    refine k_skip ?_
    refine k_nil ?_
    show AK _ _ _ _ _ _
    refine rg 10000 ?_
    refine k_nil ?_
    refine ⟨n - 1, by omega, _, ⟨?_, ?_, ?_⟩, i + 1, by omega, trivial, rfl⟩ <;> simp [*]
  · intro h16_1
    have hge : ns.length ≤ i := by simpa using h16_1
    refine k_exit ?_
    show AK _ _ _ _ _ _
    refine sq ?_
    refine rg 11000 ?_
    refine pr [4, 5] ?_
    refine k_ret ?_
    show retQ _ _ _ _ _ _ _
    simp [*]

end Go.Proofs
end
section
set_option linter.unusedVariables false
set_option linter.unusedSimpArgs false
namespace Go.Proofs
open Go.Flat
set_option linter.unusedSimpArgs false
set_option linter.unusedVariables false
def XgP (p : Pl) : Prop := ∀ (to : Prt) (nd : Nat) (s : BR), (∀ x ∈ s.1, x.xg) → ∀ x ∈ (bld p to nd s).1, x.xg
theorem bldL_xg : ∀ (l : List Pl) (j : Bool) (a i nd : Nat) (s : BR), (∀ x ∈ l, XgP x) → (∀ x ∈ s.1, x.xg) → ∀ x ∈ (bldL l j a i nd s).1, x.xg
  | [], j, a, i, nd, s, _, hs => by rw [bldL]; exact hs
  | x :: r, j, a, i, nd, s, ih, hs => by
    rw [bldL]
    exact bldL_xg r j a (i + 1) nd _ (fun y hy => ih y (by simp [hy])) (ih x (by simp) _ nd s hs)
theorem zero_xg (k n lo rd : Int) (t b : List Prt) : Nd.xg ⟨k, .zero, n, lo, rd, t, b⟩ := ⟨rfl, by simp⟩
theorem bld_xg : ∀ p : Pl, p.gd → XgP p := by
  refine Pl.ind fun k m kids ex cols wth agg rds ih hg to nd s hs => ?_
  rw [Pl.gd] at hg
  have ih' : ∀ x ∈ kids, XgP x := fun x hx => ih x hx (Pl.gdL_mem hg.2.2 x hx)
  rw [bld]
  split
  · intro x hx
    rcases List.mem_append.1 hx with hx | hx
    · exact hs x hx
    · simp only [List.mem_singleton] at hx
      subst hx
      exact zero_xg ..
  · split
    · intro x hx
      obtain ⟨i, hi⟩ := List.mem_iff_getElem?.1 hx
      simp only [pushB_at] at hi
      split at hi
      · obtain ⟨y, hy, rfl⟩ := Option.map_eq_some_iff.1 hi
        have := hs y (List.mem_of_getElem? hy)
        obtain ⟨yk, ⟨qk, qn, qq, qe, qc, qw, qa, qg⟩, yn, yl, yr, yt, yb⟩ := y
        exact this
      · exact hs x (List.mem_of_getElem? hi)
    · split
      · have h0 : ∀ x ∈ s.1 ++ [loopN nd rds s.1.length] ++ [leaveN nd rds to], x.xg := by
          intro x hx
          simp only [List.append_assoc, List.mem_append, List.mem_cons, List.not_mem_nil, or_false] at hx
          rcases hx with hx | rfl | rfl
          · exact hs x hx
          · exact zero_xg ..
          · exact zero_xg ..
        cases kids with
        | nil => rw [bldI]; exact h0
        | cons y r =>
          rw [bldI]
          exact bldL_xg r true _ 1 (nd + 1) _ (fun z hz => ih' z (by simp [hz])) (ih' y (by simp) _ nd (_, s.2) h0)
      · refine bldL_xg kids _ _ 0 nd _ ih' ?_
        intro x hx
        simp only at hx
        rcases List.mem_append.1 hx with hx | hx
        · exact hs x hx
        · simp only [List.mem_singleton] at hx
          subst hx
          exact ⟨rfl, fun e he => checkE_good (hg.2.1 e he)⟩
theorem bldG_ok {ss : List (List Int)} {p : Pl} (h : (bldG ss p).2 = 0) : (bldG ss p).1 = (bld p ⟨0, 0⟩ 0 ([outN], [])).1 ∧ (inferP ss p).2 = 0 := by
  have h0 : (inferP ss p).2 = 0 := by
    unfold bldG at h
    split at h
    · exact h
    · rename_i hh; simpa using hh
  refine ⟨?_, h0⟩
  unfold bldG
  rw [if_neg (by rw [h0]; decide)]
theorem built_xg {ss : List (List Int)} {p : Pl} (hs : p.size ≤ 2 ^ 40) (h : (bldG ss p).2 = 0) : ∀ x ∈ (bldG ss p).1, x.xg := by
  obtain ⟨h1, h0⟩ := bldG_ok h
  rw [h1]
  exact bld_xg p (infer_fine hs h0).1.1 _ _ _ (by intro x hx; simp only [List.mem_singleton] at hx; subst hx; exact zero_xg ..)
theorem again {ss tt : List (List Int)} {p : Pl} (h : (bldG ss p).2 = 0) (k : (bldG tt p).2 = 0) : (bldG tt p).1 = (bldG ss p).1 := by
  rw [(bldG_ok h).1, (bldG_ok k).1]
end Go.Proofs
end
section
set_option linter.unusedVariables false
set_option linter.unusedSimpArgs false

end
section
set_option linter.unusedVariables false
set_option linter.unusedSimpArgs false
namespace Go.Proofs
open Go.Flat
set_option maxRecDepth 100000
set_option linter.unusedSimpArgs false
set_option linter.unusedVariables false
attribute [local simp] Bool.and_assoc Bool.or_assoc evalG evalX efD skF guardG guardL isCall stepL evalOp ev evs lk tmpsL app AV.ok fresh vv putCells insV ins del putL place Go.Flat.look fillC fillR getCells loadF storeF binF scalarBin intBin strBin isShift shiftBin unF lenF maxF minF rowsF appendF builtinF idxF natOf sliceP sliceF optEv Flat.cut overwrite toPV toPVs constAV scalarC scalarCs AV.cells TI.isAgg allSome andAll scalarEq buildable Go.Flat.lim retQ resL resAll resOne PartOf noTmp closedIn refs refs.refsL isSomeV hasB ids leA leA.leL renA renA.renL callB refsAll backL dropIds renS LiesAt injB ownB freshB memN locId insAll leA_refl leL_refl okS frzS frzA frzA.frzL evalD feet fine updCells cellsFrom memP footRf footWf noTmpU updIds opOps opIds idsA footR footW guardTs opTs dstTs callR callW renLoc renC inBlockQ thenQ Value.oneCell' IntKind.bits IntKind.signed PV.up toPH toPHs

attribute [local simp] Pl.av
attribute [local simp] outN Nd.row Pl.zero Pl.row_eq in
theorem spec35_mk (k m : Int) (kids : List Pl) (ex : List E) (cols wth : List Int) (agg rds : Int) (ss : List (List Int)) (tt : List Int) (er : Int) (ns : List Nd) (id0 : Nat) (hid : id0 < 4294967296) (r : List Nd × Int) (h68 : Flat.Sp Try.prog 68 [(Pl.mk k m kids ex cols wth agg rds).av, .p (.ps (ss.map srow))] [] (.tup [.p (.ps (tt.map trow)), vv (.int .i64 er)]) []) (h69 : (er != 0) = false → Flat.Sp Try.prog 69 [.psf [outN.row], (Pl.mk k m kids ex cols wth agg rds).av, .agg [vv (.int .i64 0), vv (.int .i64 0)], .p (.ps [])] [] (.sl id0 ns.length 0 ns.length) [(.arr id0, .arr 75 14 (ns.map Nd.row) 0)]) (hT : (er != 0) = true → r = ([], er)) (hF : (er != 0) = false → r = (ns, 0)) : Flat.Sp Try.prog 35 [(Pl.mk k m kids ex cols wth agg rds).av, .p (.ps (ss.map srow))] [] (.tup [.p (.ps (r.1.map Nd.row)), vv (.int .i64 r.2)]) [] := by
  refine sk Try.func35 ?_
  intro F G hn hG
  have htk : (ns.map Nd.row).take ns.length = ns.map Nd.row := List.take_of_length_le (by simp)
  refine sq ?_
  refine rg 1000 ?_
  refine pr [1, 3, 4, 6, 7, 22] ?_
  refine sq ?_
  refine rc 2000 ?_
  refine oc id (h68) ?_
  refine oe 2100 ?_
  refine on ?_
  refine pr [2, 3, 4, 6, 7, 8, 14, 22] ?_
  refine sq ?_
  refine sq ?_
  refine rg 3000 ?_
  refine pr [2, 3, 4, 6, 7, 8, 15, 22] ?_
  refine cd ?_ ?_
  · intro h15_1
    obtain rfl := hT h15_1
    refine sq ?_
    refine rg 4000 ?_
    refine pr [2, 3, 4, 6, 17, 22] ?_
    refine k_ret ?_
    show retQ _ _ _ _ _ _ _
    simp [*]
  · intro h15_1
    obtain rfl := hF h15_1
    have hsp := h69 h15_1
    refine k_skip ?_
    refine sq ?_
    refine rc 5000 ?_
    refine oc (fun _ => 5004) (hsp) ?_
    refine oe 5100 ?_
    refine on ?_
    refine pr [4, 6] ?_
    refine fz 5004 ?_
    refine k_ret ?_
    show retQ _ _ _ _ _ _ _
    simp [*]

theorem spec69z (p : Pl) (hb : p.bnd) (hg : p.gd) (hv : p.vok 0) (hs : p.size ≤ 64) : ∃ i, i < 4294967296 ∧ Flat.Sp Try.prog 69 [.psf [outN.row], p.av, .agg [vv (.int .i64 0), vv (.int .i64 0)], .p (.ps [])] [] (.sl i (bld p ⟨0, 0⟩ 0 ([outN], [])).1.length 0 (bld p ⟨0, 0⟩ 0 ([outN], [])).1.length) [(.arr i, .arr 75 14 ((bld p ⟨0, 0⟩ 0 ([outN], [])).1.map Nd.row) 0)] := by
  obtain ⟨k, m, kids, ex, cols, wth, agg, rds⟩ := p
  have h127 := spec127 k m kids ex cols wth agg rds (spec179 _ hg hb)
  have hrm : Rm ([outN], []) 0 (Pl.mk k m kids ex cols wth agg rds).size := rm0 hs
  rw [Pl.bnd] at hb
  rw [Pl.gd] at hg
  obtain ⟨hbk, hbe, hbc, hbw, hbl⟩ := hb
  obtain ⟨hf, hge, hgl⟩ := hg
  rw [Pl.size] at hrm
  have ih' : ∀ x ∈ kids, GSq x := fun x hx => spec69 x (Pl.bndL_mem hbl x hx) (Pl.gdL_mem hgl x hx)
  rw [Pl.vok] at hv
  rw [bld]
  by_cases h1 : (k == 1) = true
  · obtain rfl : k = 1 := by simpa using h1
    exact ⟨_, by decide, spec69_1z m kids ex cols wth agg rds⟩
  · rw [if_neg h1]
    by_cases h2 : (k == 2) = true
    · obtain rfl : k = 2 := by simpa using h2
      have := hv.1 rfl
      omega
    · rw [if_neg h2]
      by_cases h10 : (k == 10) = true
      · obtain rfl : k = 10 := by simpa using h10
        rw [if_pos h10]
        have h2l := formed_two hf h10
        obtain ⟨-, hvI⟩ := hv
        rw [if_pos h10] at hvI
        obtain ⟨hn1, hvI⟩ := hvI
        match kids, h2l, hvI, ih', hrm with
        | [x, y], _, hvI, ih', hrm =>
        simp only [Pl.vokI, Pl.vokL] at hvI
        simp only [Pl.sizeL] at hrm
        obtain ⟨hvx, hvy, -⟩ := hvI
        obtain ⟨ns2, hx, hy⟩ := spec69_two (ih' x (by simp)) (ih' y (by simp)) (rds := rds) (to := ⟨0, 0⟩) (by simp) (by simp) hn1 hrm hvx hvy
        obtain ⟨xk, xn, xq, xe, xc, xw, xa, xr⟩ := x
        obtain ⟨yk, yn, yq, ye, yc, yw, ya, yr⟩ := y
        exact ⟨_, by decide, spec69_10z ns2 _ xk xn xq xe xc xw xa xr yk yn yq ye yc yw ya yr m ex cols wth agg rds hx hy⟩
      · rw [if_neg h10]
        obtain ⟨-, hvL⟩ := hv
        rw [if_neg h10] at hvL
        exact ⟨_, by decide, spec69_dz k m kids ex cols wth agg rds (by simpa using h1) (by simpa using h2) (by simpa using h10) h127 (kids_few hrm.len) hvL hrm ih'⟩
theorem spec35 (p : Pl) (hb : p.bnd) (hr : p.rng) (hs : p.size ≤ 2 ^ 40) (ss : List (List Int)) (hss : ss.length ≤ Flat.lim) (hsi : ∀ s ∈ ss, s.length ≤ Flat.lim) : Flat.Sp Try.prog 35 [p.av, .p (.ps (ss.map srow))] [] (.tup [.p (.ps ((bldG ss p).1.map Nd.row)), vv (.int .i64 (bldG ss p).2)]) [] := by
  have h68 := spec68 ss hss hsi p hb
  rw [infP_why hr] at h68
  cases he : (inferP ss p).2 != 0 with
  | true =>
    obtain ⟨k, m, kids, ex, cols, wth, agg, rds⟩ := p
    refine spec35_mk k m kids ex cols wth agg rds ss _ _ [] 0 (by decide) _ h68 (fun h => by rw [he] at h; simp at h) (fun _ => ?_) (fun h => by rw [he] at h; simp at h)
    unfold bldG
    rw [if_pos he]
  | false =>
    have h0 : (inferP ss p).2 = 0 := by simpa using he
    obtain ⟨hfi, hvk, -⟩ := infer_fine hs h0
    obtain ⟨i, hi, h69⟩ := spec69z p hb hfi.1 hvk hfi.2.1
    obtain ⟨k, m, kids, ex, cols, wth, agg, rds⟩ := p
    refine spec35_mk k m kids ex cols wth agg rds ss _ _ _ i hi _ h68 (fun _ => h69) (fun h => by rw [he] at h; simp at h) (fun _ => ?_)
    unfold bldG
    rw [if_neg (by rw [he]; decide)]

theorem spec11 (k m : Int) (kids : List Pl) (ex : List E) (cols wth : List Int) (agg rds : Int) (ss : List (List Int)) (ns : List Nd) (er : Int) (h34 : Flat.Sp Try.prog 34 [(Pl.mk k m kids ex cols wth agg rds).av, .p (.ps (ss.map srow))] [] (.tup [.p (.ps (ns.map Nd.row)), vv (.int .i64 er)]) []) (h35 : Flat.Sp Try.prog 35 [(Pl.mk k m kids ex cols wth agg rds).av, .p (.ps (ss.map srow))] [] (.tup [.p (.ps (ns.map Nd.row)), vv (.int .i64 er)]) []) (e2 : ns.length ≤ 200) (e3 : ∀ x ∈ ns, x.bnd) (e4 : ∀ x ∈ ns, x.xg) : Flat.Sp Try.prog 11 [(Pl.mk k m kids ex cols wth agg rds).av, .p (.ps (ss.map srow))] [] (vv (.bool true)) [] := by
  refine sk Try.func11 ?_
  intro F G hn hG
  refine sq ?_
  refine rg 1000 ?_
  refine pr [1, 3, 4, 32] ?_
  refine sq ?_
  refine rc 2000 ?_
  refine oc id (h34) ?_
  refine oe 2100 ?_
  refine on ?_
  refine pr [1, 3, 4, 9, 15, 32] ?_
  refine sq ?_
  refine rc 3000 ?_
  refine oc id (h35) ?_
  refine oe 3100 ?_
  refine on ?_
  refine pr [4, 9, 21, 32] ?_
  refine sq ?_
  refine rc 4000 ?_
  refine oc id (spec36) ?_
  refine oe 4100 ?_
  iterate 2 (first | refine gp 4250 ?_ | refine os ?_ | refine gt 4250 ?_)
  refine og (fun hg => spec37 ns e2 e3 e4) ?_
  refine oe 4400 ?_
  iterate 3 (first | refine gp 4650 ?_ | refine os ?_ | refine gt 4650 ?_)
  refine oe 4700 ?_
  refine on ?_
  refine pr [4, 5] ?_
  refine k_ret ?_
  show retQ _ _ _ _ _ _ _
  simp [*]

theorem spec11r (k m : Int) (kids : List Pl) (ex : List E) (cols wth : List Int) (agg rds : Int) (hb : (Pl.mk k m kids ex cols wth agg rds).bnd) (hr : (Pl.mk k m kids ex cols wth agg rds).rng) (hsz : (Pl.mk k m kids ex cols wth agg rds).size ≤ 2 ^ 38) (ss : List (List Int)) (hss : ss.length ≤ 1048576) (hsi : ∀ s ∈ ss, s.length ≤ 1048576) : Flat.Sp Try.prog 11 [(Pl.mk k m kids ex cols wth agg rds).av, .p (.ps (ss.map srow))] [] (vv (.bool true)) [] := by
  have hs : (Pl.mk k m kids ex cols wth agg rds).size ≤ 2 ^ 40 := Nat.le_trans hsz (by decide)
  have h35 := spec35 _ hb hr hs ss (Nat.le_trans hss (by simp [Flat.lim])) (fun s h => Nat.le_trans (hsi s h) (by simp [Flat.lim]))
  have h34 := spec34 _ hb hs ss
  by_cases h : (bldG ss (Pl.mk k m kids ex cols wth agg rds)).2 = 0
  · have hB := built hb hs h
    exact spec11 k m kids ex cols wth agg rds ss _ _ h34 h35 (by have := hB.small; omega) hB.bnd (built_xg hs h)
  · have he := built_err h
    rw [he] at h34 h35
    exact spec11 k m kids ex cols wth agg rds ss [] _ h34 h35 (by simp) (by simp) (by simp)

end Go.Proofs
end
