/-
  What is built is right.
  What is built: the whole.
  Contracts: the laws of chapter 14.
-/
import Derived.Test.YtgkkoeodinlffaaPartG
section
set_option linter.unusedVariables false
set_option linter.unusedSimpArgs false
namespace Go.Proofs
open Go.Flat
set_option linter.unusedSimpArgs false
set_option linter.unusedVariables false
/-- Two nodes that differ in what goes back of them alone. -/
def Nd.like (x y : Nd) : Prop := y.k = x.k ∧ y.pl = x.pl ∧ y.n = x.n ∧ y.loop = x.loop ∧ y.rds = x.rds ∧ y.to = x.to
theorem Nd.like_refl (x : Nd) : x.like x := ⟨rfl, rfl, rfl, rfl, rfl, rfl⟩
theorem Nd.like_trans {x y z : Nd} (h : x.like y) (k : y.like z) : x.like z :=
  ⟨k.1.trans h.1, k.2.1.trans h.2.1, k.2.2.1.trans h.2.2.1, k.2.2.2.1.trans h.2.2.2.1, k.2.2.2.2.1.trans h.2.2.2.2.1, k.2.2.2.2.2.trans h.2.2.2.2.2⟩
def Kp (ns ns' : List Nd) : Prop := ∀ (i : Nat) (x : Nd), ns[i]? = some x → ∃ y, ns'[i]? = some y ∧ x.like y
theorem Kp.refl (ns : List Nd) : Kp ns ns := fun i x h => ⟨x, h, x.like_refl⟩
theorem Kp.trans {a b c : List Nd} (h : Kp a b) (k : Kp b c) : Kp a c := fun i x hx => by
  obtain ⟨y, hy, l1⟩ := h i x hx
  obtain ⟨z, hz, l2⟩ := k i y hy
  exact ⟨z, hz, Nd.like_trans l1 l2⟩
theorem Kp.app (a b : List Nd) : Kp a (a ++ b) := fun i x hx => ⟨x, by rw [List.getElem?_append_left (List.getElem?_eq_some_iff.1 hx).1]; exact hx, x.like_refl⟩
theorem pushB_at (ns : List Nd) (j i : Nat) (to : Prt) : (pushB ns j to)[i]? = if j = i then (ns[i]?).map fun x => goB x to else ns[i]? := by
  simp only [pushB, List.getElem?_modify]
  split
  · rename_i h; subst h; cases ns[j]? <;> simp
  · rename_i h; cases ns[i]? <;> simp [h]
theorem Kp.push (ns : List Nd) (j : Nat) (to : Prt) : Kp ns (pushB ns j to) := fun i x hx => by
  rw [pushB_at]
  split
  · rw [hx]; exact ⟨_, rfl, rfl, rfl, rfl, rfl, rfl, rfl⟩
  · exact ⟨x, hx, x.like_refl⟩
theorem like_reached {x y : Nd} (h : x.like y) (b : Int) : y.reached b = x.reached b := by
  obtain ⟨xk, xp, xn, xl, xr, xt, xb⟩ := x
  obtain ⟨yk, yp, yn, yl, yr, yt, yb⟩ := y
  obtain ⟨h1, h2, -⟩ := h
  simp only at h1 h2
  rw [h1, h2]
  cases xp
  rfl
/-- A port that goes to a node. -/
def PortOK (ns : List Nd) (q : Prt) : Prop := 0 ≤ q.a ∧ ∃ y, ns[q.a.toNat]? = some y ∧ y.reached q.b = true
theorem PortOK.kp {ns ns' : List Nd} {q : Prt} (h : PortOK ns q) (k : Kp ns ns') : PortOK ns' q := by
  obtain ⟨h0, y, hy, hr⟩ := h
  obtain ⟨z, hz, l⟩ := k _ _ hy
  exact ⟨h0, z, hz, by rw [like_reached l]; exact hr⟩
theorem PortOK.lt {ns : List Nd} {q : Prt} (h : PortOK ns q) : q.a < ns.length := by
  obtain ⟨h0, y, hy, _⟩ := h
  have := (List.getElem?_eq_some_iff.1 hy).1
  omega
/-- Right, whatever goes back of it. -/
def Nd.right0 (x : Nd) : Bool := match x with
  | ⟨xk, .mk pk pn pq pe pc pw pa pg, xn, xl, xr, _, _⟩ => rightN xk xn xl xr 0 (zeroP pk pn pq.length pe.length pc.length pw.length pa pg) (madeP pk pn pq.length pe pc pw pa pg)
theorem like_right0 {x y : Nd} (h : x.like y) : y.right0 = x.right0 := by
  obtain ⟨xk, xp, xn, xl, xr, xt, xb⟩ := x
  obtain ⟨yk, yp, yn, yl, yr, yt, yb⟩ := y
  obtain ⟨h1, h2, h3, h4, h5, -⟩ := h
  simp only at h1 h2 h3 h4 h5
  rw [h1, h2, h3, h4, h5]
  cases xp
  rfl
theorem right_of0 {x : Nd} (h : x.right0 = true) (hb : x.back = [] ∨ x.k = 3) : x.right = true := by
  obtain ⟨xk, ⟨pk, pn, pq, pe, pc, pw, pa, pg⟩, xn, xl, xr, xt, xb⟩ := x
  simp only [Nd.right0, Nd.right] at h ⊢
  rcases hb with hb | hb
  · simp only at hb; subst hb; exact h
  · simp only at hb; subst hb; exact h
/-- A node but the last one. -/
structure NodeOK (ns : List Nd) (i : Nat) (x : Nd) : Prop where
  kind : x.k = 1 ∨ x.k = 2 ∨ x.k = 3 ∨ x.k = 4
  r0 : x.right0 = true
  pb : x.pl.bnd
  to : ∃ t, x.to = [t] ∧ PortOK ns t ∧ ((x.k ≠ 3 ∧ t.a < i ∧ (x.k = 4 → t.a + 1 < i)) ∨ (x.k = 3 ∧ t.a = i + 1 ∧ ∃ y, ns[i + 1]? = some y ∧ y.k = 4))
theorem NodeOK.kp {ns ns' : List Nd} {i : Nat} {x y : Nd} (h : NodeOK ns i x) (k : Kp ns ns') (l : x.like y) : NodeOK ns' i y := by
  obtain ⟨h1, h2, h3, t, h4, h5, h6⟩ := h
  refine ⟨by rw [l.1]; exact h1, by rw [like_right0 l]; exact h2, by rw [l.2.1]; exact h3, t, by rw [l.2.2.2.2.2]; exact h4, h5.kp k, ?_⟩
  rw [l.1]
  rcases h6 with h6 | ⟨h6, h7, z, hz, hk⟩
  · exact .inl h6
  · obtain ⟨u, hu, l2⟩ := k _ _ hz
    exact .inr ⟨h6, h7, u, hu, by rw [l2.1]; exact hk⟩
structure NInv (ns : List Nd) : Prop where
  zero : ∃ x, ns[0]? = some x ∧ x.k = 5 ∧ x.to = [] ∧ x.right0 = true ∧ x.pl.bnd
  node : ∀ (i : Nat) (x : Nd), ns[i]? = some x → i ≠ 0 → NodeOK ns i x
  back : ∀ (i : Nat) (x : Nd), ns[i]? = some x → ∀ q ∈ x.back, x.k = 3 ∧ (i : Int) ≤ q.a ∧ PortOK ns q
theorem NInv.pos {ns : List Nd} (h : NInv ns) : 0 < ns.length := by
  obtain ⟨x, hx, _⟩ := h.zero
  exact (List.getElem?_eq_some_iff.1 hx).1
theorem NInv.app {ns l : List Nd} (h : NInv ns) (hl : ∀ j x, l[j]? = some x → NodeOK (ns ++ l) (ns.length + j) x ∧ x.back = []) : NInv (ns ++ l) := by
  have k := Kp.app ns l
  have hp := h.pos
  refine ⟨?_, fun i x hx hi => ?_, fun i x hx q hq => ?_⟩
  · obtain ⟨x, hx, hr⟩ := h.zero
    exact ⟨x, by rw [List.getElem?_append_left hp]; exact hx, hr⟩
  · by_cases hlt : i < ns.length
    · rw [List.getElem?_append_left hlt] at hx
      exact (h.node i x hx hi).kp k x.like_refl
    · rw [List.getElem?_append_right (by omega)] at hx
      have := (hl _ x hx).1
      rwa [show ns.length + (i - ns.length) = i by omega] at this
  · by_cases hlt : i < ns.length
    · rw [List.getElem?_append_left hlt] at hx
      obtain ⟨h1, h2, h3⟩ := h.back i x hx q hq
      exact ⟨h1, h2, h3.kp k⟩
    · rw [List.getElem?_append_right (by omega)] at hx
      rw [(hl _ x hx).2] at hq
      simp at hq
theorem NInv.push {ns : List Nd} {j : Nat} {to : Prt} (h : NInv ns) {y : Nd} (hj : ns[j]? = some y) (hk : y.k = 3) (ha : (j : Int) ≤ to.a) (hp : PortOK ns to) : NInv (pushB ns j to) := by
  have k := Kp.push ns j to
  refine ⟨?_, fun i x hx hi => ?_, fun i x hx q hq => ?_⟩
  · obtain ⟨x, hx, hr1, hr2, hr3, hr4⟩ := h.zero
    obtain ⟨z, hz, l⟩ := k 0 x hx
    exact ⟨z, hz, by rw [l.1]; exact hr1, by rw [l.2.2.2.2.2]; exact hr2, by rw [like_right0 l]; exact hr3, by rw [l.2.1]; exact hr4⟩
  · rw [pushB_at] at hx
    split at hx
    · obtain ⟨z, hz, rfl⟩ := Option.map_eq_some_iff.1 hx
      exact (h.node i z hz hi).kp k ⟨rfl, rfl, rfl, rfl, rfl, rfl⟩
    · exact (h.node i x hx hi).kp k x.like_refl
  · rw [pushB_at] at hx
    split at hx
    · rename_i e
      subst e
      obtain ⟨z, hz, rfl⟩ := Option.map_eq_some_iff.1 hx
      rw [hj] at hz
      simp only [Option.some.injEq] at hz
      subst hz
      simp only [goB, List.mem_append, List.mem_singleton] at hq
      rcases hq with hq | rfl
      · obtain ⟨h1, h2, h3⟩ := h.back j y hj q hq
        exact ⟨h1, h2, h3.kp k⟩
      · exact ⟨hk, ha, hp.kp k⟩
    · obtain ⟨h1, h2, h3⟩ := h.back i x hx q hq
      exact ⟨h1, h2, h3.kp k⟩

/-! ### right nodes -/
theorem zero_bnd : Pl.zero.bnd := by simp [Pl.zero, Pl.bnd, Pl.bndL]
theorem formed_nk {k m : Int} {nk : Nat} {ex : List E} {cols wth : List Int} {agg rds : Int} (h : formedP k m nk ex cols wth agg rds = true) (h1 : (k == 1) = false) (h2 : (k == 2) = false) (h10 : (k == 10) = false) :
    formedP k m (if k == 7 then 2 else 1) ex cols wth agg rds = true ∧ (k == 7 → nk = 2) := by
  have hkk := formed_kids h
  have e : okP1 k (if k == 7 then 2 else 1) = okP1 k nk ∧ ((k == 7) = true → nk = 2) := by
    unfold okP1 manyP at hkk ⊢
    simp only [Bool.and_eq_true] at hkk
    obtain ⟨a1, a2, a3⟩ := hkk
    have a3' := a3
    rw [h1, h2, h10] at a3
    simp only [Bool.or_self, Bool.false_eq_true, if_false, Bool.or_false] at a3
    rw [a1, a2, a3', h1, h2, h10]
    by_cases h7 : (k == 7) = true
    · rw [h7] at a3 ⊢
      simp at a3 ⊢
      omega
    · have h7' : (k == 7) = false := by simpa using h7
      rw [h7'] at a3 ⊢
      simp at a3 ⊢
  refine ⟨?_, fun h7 => e.2 (by simpa using h7)⟩
  have e2 : okP2 k m (if k == 7 then 2 else 1) ex cols wth agg rds = okP2 k m nk ex cols wth agg rds := by unfold okP2; rw [e.1]
  unfold formedP at h ⊢
  rw [e2]
  exact h
theorem made_of {k m : Int} {kids : List Pl} {ex : List E} {cols wth : List Int} {agg rds : Int} (h : formedP k m kids.length ex cols wth agg rds = true) (he : ∀ e ∈ ex, checkE e = 0) (h1 : (k == 1) = false) (h2 : (k == 2) = false) (h10 : (k == 10) = false) :
    madeP k m 0 ex cols wth agg rds = true := by
  have hf := (formed_nk h h1 h2 h10).1
  have hn : noneK k = false := by simp [noneK, h1, h2, h10]
  unfold madeP
  rw [hn]
  simp only [Nat.lt_irrefl, decide_false, Bool.or_self, Bool.false_eq_true, if_false, beq_iff_eq]
  have hsrc : srcP0.gd := by
    rw [srcP0, Pl.gd]
    exact ⟨by decide, by simp, by simp [Pl.gdL]⟩
  have key : ∀ l : List Pl, (l = [srcP0, srcP0] ∨ l = [srcP0]) → formedP k m l.length ex cols wth agg rds = true → checkP (.mk k m l ex cols wth agg rds) = 0 := by
    intro l hl hfl
    have hsz : Pl.sizeL l ≤ 2 ∧ Pl.hgtL l ≤ 1 ∧ Pl.gdL l := by
      rcases hl with rfl | rfl
      · exact ⟨by simp [Pl.sizeL, srcP0, Pl.size], by simp [Pl.hgtL, srcP0, Pl.hgt], by simp [Pl.gdL, hsrc]⟩
      · exact ⟨by simp [Pl.sizeL, srcP0, Pl.size], by simp [Pl.hgtL, srcP0, Pl.hgt], by simp [Pl.gdL, hsrc]⟩
    have hlp : Pl.lpL k 0 l = 0 := by
      rcases hl with rfl | rfl <;> simp [Pl.lpL, morN, h10, srcP0, Pl.lp]
    refine (checkP_iff (by rw [Pl.size]; omega)).2 ⟨?_, by rw [Pl.size]; omega, by rw [Pl.hgt]; omega, by rw [Pl.lp, hlp]; omega⟩
    rw [Pl.gd]
    exact ⟨hfl, he, hsz.2.2⟩
  by_cases h7 : (k == 7) = true
  · rw [if_pos (by simpa using h7)]
    rw [if_pos h7] at hf
    exact key _ (.inl rfl) hf
  · rw [if_neg (by simpa using h7)]
    rw [if_neg h7] at hf
    exact key _ (.inr rfl) hf
theorem zeroP_zero : zeroP 0 0 ([] : List Pl).length ([] : List E).length ([] : List Int).length ([] : List Int).length 0 0 = true := by decide

theorem getElem?_snoc {α : Type} (l : List α) (x : α) : (l ++ [x])[l.length]? = some x := by rw [List.getElem?_append_right (Nat.le_refl _)]; simp
/-- What a plan's building keeps. -/
structure Step (s t : BR) (p c : Nat) : Prop where
  inv : NInv t.1
  kp : Kp s.1 t.1
  len : t.1.length = s.1.length + p + c
/-- What the loops around must be. -/
def Ard (s : BR) (nd : Nat) (m : Int) : Prop := ∀ a ∈ s.2.take nd, 0 ≤ a ∧ a ≤ m ∧ ∃ y, s.1[a.toNat]? = some y ∧ y.k = 3
theorem Ard.kp {s t : BR} {nd : Nat} {m m' : Int} (h : Ard s nd m) (k : Kp s.1 t.1) (ht : t.2.take nd = s.2.take nd) (hm : m ≤ m') : Ard t nd m' := by
  intro a ha
  rw [ht] at ha
  obtain ⟨h1, h2, y, hy, hk⟩ := h a ha
  obtain ⟨z, hz, l⟩ := k _ _ hy
  exact ⟨h1, by omega, z, hz, by rw [l.1]; exact hk⟩
def BInv (p : Pl) : Prop := ∀ (to : Prt) (nd : Nat) (s : BR), p.vok nd → nd ≤ s.2.length → NInv s.1 → PortOK s.1 to → Ard s nd to.a → Step s (bld p to nd s) p.cn p.cl
theorem bldL_inv : ∀ (l : List Pl) (j : Bool) (a i nd : Nat) (s : BR), (∀ x ∈ l, BInv x) → Pl.vokL l nd → nd ≤ s.2.length → NInv s.1 → (∀ q, q < i + l.length → i ≤ q → PortOK s.1 ⟨(a : Int), if j then (q : Int) else 0⟩) → Ard s nd a →
    Step s (bldL l j a i nd s) (Pl.cnL l) (Pl.clL l)
  | [], j, a, i, nd, s, ih, hv, hd, hn, hp, hA => by rw [bldL]; exact ⟨hn, Kp.refl _, by simp [Pl.cnL, Pl.clL]⟩
  | x :: r, j, a, i, nd, s, ih, hv, hd, hn, hp, hA => by
    rw [Pl.vokL] at hv
    rw [bldL, Pl.cnL, Pl.clL]
    have h1 := ih x (by simp) ⟨(a : Int), if j then (i : Int) else 0⟩ nd s hv.1 hd hn (hp i (by simp) (Nat.le_refl _)) hA
    have hg := bld_gw x ⟨(a : Int), if j then (i : Int) else 0⟩ nd s hv.1 hd
    have h2 := bldL_inv r j a (i + 1) nd _ (fun y hy => ih y (by simp [hy])) hv.2 (Nat.le_trans hd hg.aln) h1.inv (fun q h1q h2q => (hp q (by simp only [List.length_cons]; omega) (by omega)).kp h1.kp) (hA.kp h1.kp hg.take (Int.le_refl _))
    exact ⟨h2.inv, h1.kp.trans h2.kp, by rw [h2.len, h1.len]; omega⟩
theorem bld_inv : ∀ p : Pl, p.gd → p.bnd → p.sok 8 → BInv p := by
  refine Pl.ind fun k m kids ex cols wth agg rds ih hg hb hs to nd s hv hd hn hp hA => ?_
  rw [Pl.gd] at hg
  rw [Pl.bnd] at hb
  rw [Pl.sok] at hs
  obtain ⟨hf, he, hgl⟩ := hg
  have hsl : ∀ x ∈ kids, x.sok 8 := by
    have : ∀ l : List Pl, Pl.sokL l 8 → ∀ x ∈ l, x.sok 8 := by
      intro l
      induction l with
      | nil => intro _ x hx; simp at hx
      | cons y r ihr =>
        intro h x hx
        rw [Pl.sokL] at h
        rcases List.mem_cons.1 hx with rfl | hx
        · exact h.1
        · exact ihr h.2 x hx
    exact this kids hs.2
  have ih' : ∀ x ∈ kids, BInv x := fun x hx => ih x hx (Pl.gdL_mem hgl x hx) (Pl.bndL_mem hb.2.2.2.2 x hx) (hsl x hx)
  have hv0 := hv
  rw [Pl.vok] at hv
  rw [bld, Pl.cn, Pl.cl]
  obtain ⟨ns, A⟩ := s
  simp only at hn hp hd
  have hlt := hp.lt
  have hpos := hn.pos
  by_cases h1 : (k == 1) = true
  · obtain rfl : k = 1 := by simpa using h1
    have hkids : kids = [] := by
      have := formed_kids hf
      simpa [okP1, manyP] using this
    subst hkids
    have hm := hs.1 rfl
    rw [if_pos h1]
    refine ⟨hn.app fun j x hj => ?_, Kp.app _ _, by simp [Pl.cnL, Pl.clL]⟩
    match j, hj with
    | 0, hj =>
      simp at hj
      subst hj
      refine ⟨⟨.inr (.inl rfl), ?_, zero_bnd, to, rfl, hp.kp (Kp.app _ _), .inl ⟨by simp [leafN], by simpa using hlt, by simp [leafN]⟩⟩, rfl⟩
      simp only [leafN, Pl.zero, Nd.right0, rightN, zeroP_zero]
      simp
      omega
    | j + 1, hj => simp at hj
  · rw [if_neg h1]
    have h1' : (k == 1) = false := by simpa using h1
    by_cases h2 : (k == 2) = true
    · obtain rfl : k = 2 := by simpa using h2
      have hkids : kids = [] := by
        have := formed_kids hf
        simpa [okP1, manyP] using this
      subst hkids
      rw [if_pos h2]
      obtain ⟨hv1, hv2⟩ := hv.1 rfl
      obtain ⟨j, hj⟩ := Int.eq_ofNat_of_zero_le hv1
      have hjn : j < nd := by rw [hj] at hv2; omega
      have hjA : j < A.length := by omega
      have hgA : A[j]? = some A[j] := by simp [hjA]
      have hmem : A[j] ∈ A.take nd := List.mem_iff_getElem?.2 ⟨j, by rw [List.getElem?_take, if_pos hjn]; exact hgA⟩
      obtain ⟨ha0, ha1, y, hy, hk⟩ := hA _ hmem
      have hvj : varJ A nd m = (A[j]).toNat := by
        unfold varJ
        rw [hj]
        simp only [Int.ofNat_eq_natCast, Int.toNat_natCast, List.getD_eq_getElem?_getD, hgA, Option.getD_some]
      simp only at hy
      simp only [hvj]
      exact ⟨hn.push hy hk (by omega) hp, Kp.push _ _ _, by simp [Pl.cnL, Pl.clL]⟩
    · rw [if_neg h2]
      have h2' : (k == 2) = false := by simpa using h2
      by_cases h10 : (k == 10) = true
      · rw [if_pos h10]
        have h2l := formed_two hf h10
        obtain ⟨-, hvI⟩ := hv
        rw [if_pos h10] at hvI
        obtain ⟨hn1, hvI⟩ := hvI
        obtain rfl : k = 10 := by simpa using h10
        have hrd : 1 ≤ rds ∧ rds ≤ 16 := by
          unfold formedP at hf
          simp at hf
          omega
        match kids, h2l, hvI, ih' with
        | [x, y], _, hvI, ih' =>
        simp only [Pl.vokI, Pl.vokL] at hvI
        obtain ⟨hvx, hvy, -⟩ := hvI
        have hl0 : ns ++ [loopN nd rds ns.length] ++ [leaveN nd rds to] = ns ++ [loopN nd rds ns.length, leaveN nd rds to] := by simp
        have hi0 : NInv (ns ++ [loopN nd rds ns.length] ++ [leaveN nd rds to]) := by
          rw [hl0]
          refine hn.app fun j z hj => ?_
          have r0 : ∀ q : Int, (q = 3 ∨ q = 4) → ∀ t b, Nd.right0 ⟨q, .zero, 0, (nd : Int), rds, t, b⟩ = true := by
            intro q hq t b
            simp only [Pl.zero, Nd.right0, rightN, zeroP_zero]
            rcases hq with rfl | rfl <;> simp <;> omega
          match j, hj with
          | 0, hj =>
            simp at hj
            subst hj
            refine ⟨⟨.inr (.inr (.inl rfl)), r0 3 (.inl rfl) _ _, zero_bnd, ⟨(ns.length : Int) + 1, 0⟩, rfl, ⟨by simp only; omega, leaveN nd rds to, ?_, ?_⟩, .inr ⟨rfl, by simp, leaveN nd rds to, ?_, rfl⟩⟩, rfl⟩
            · rw [show ((⟨(ns.length : Int) + 1, 0⟩ : Prt).a).toNat = ns.length + 1 by simp only; omega, List.getElem?_append_right (by omega)]
              simp
            · simp [leaveN, Nd.reached]
            · rw [List.getElem?_append_right (by omega)]; simp
          | 1, hj =>
            simp at hj
            subst hj
            exact ⟨⟨.inr (.inr (.inr rfl)), r0 4 (.inr rfl) _ _, zero_bnd, to, rfl, hp.kp (Kp.app _ _), .inl ⟨by simp [leaveN], by omega, fun _ => by omega⟩⟩, rfl⟩
          | j + 2, hj => simp at hj
        have hk0 : Kp ns (ns ++ [loopN nd rds ns.length] ++ [leaveN nd rds to]) := by rw [hl0]; exact Kp.app _ _
        have hat : (ns ++ [loopN nd rds ns.length] ++ [leaveN nd rds to])[ns.length]? = some (loopN nd rds ns.length) := by
          rw [hl0, List.getElem?_append_right (Nat.le_refl _)]; simp
        have hport : ∀ b : Int, (b = 0 ∨ b = 1) → PortOK (ns ++ [loopN nd rds ns.length] ++ [leaveN nd rds to]) ⟨(ns.length : Int), b⟩ := by
          intro b hb
          refine ⟨by simp, loopN nd rds ns.length, by simp, ?_⟩
          rcases hb with rfl | rfl <;> simp [loopN, Nd.reached, Nd.two, Pl.zero, twoN]
        have hA0 : Ard (ns ++ [loopN nd rds ns.length] ++ [leaveN nd rds to], A) nd ns.length := Ard.kp (s := (ns, A)) hA hk0 rfl (by omega)
        have hx := ih' x (by simp) ⟨(ns.length : Int), 0⟩ nd _ hvx hd hi0 (hport 0 (.inl rfl)) hA0
        have hgx := bld_gw x ⟨(ns.length : Int), 0⟩ nd (ns ++ [loopN nd rds ns.length] ++ [leaveN nd rds to], A) hvx hd
        have hbI : bldI [x, y] ns.length nd (ns ++ [loopN nd rds ns.length] ++ [leaveN nd rds to], A) = bld y ⟨(ns.length : Int), 1⟩ (nd + 1) ((bld x ⟨(ns.length : Int), 0⟩ nd (ns ++ [loopN nd rds ns.length] ++ [leaveN nd rds to], A)).1, pushG (bld x ⟨(ns.length : Int), 0⟩ nd (ns ++ [loopN nd rds ns.length] ++ [leaveN nd rds to], A)).2 nd ns.length) := by
          simp only [bldI, bldL, if_true]
          rfl
        simp only [hbI]
        generalize bld x ⟨(ns.length : Int), 0⟩ nd (ns ++ [loopN nd rds ns.length] ++ [leaveN nd rds to], A) = b1 at hx hgx ⊢
        obtain ⟨ns2, A2⟩ := b1
        have hd2 := Nat.le_trans hd hgx.aln
        simp only at hd2
        have hpl := pushG_len (ns.length : Int) hd2
        have hy := ih' y (by simp) ⟨(ns.length : Int), 1⟩ (nd + 1) (ns2, pushG A2 nd ns.length) hvy (by simp only [hpl]; omega) hx.inv ((hport 1 (.inr rfl)).kp hx.kp) (by
          intro a ha
          simp only at ha ⊢
          rw [take_pushG' _ hd2] at ha
          rcases List.mem_append.1 ha with ha | ha
          · exact Ard.kp hA0 hx.kp hgx.take (Int.le_refl _) a ha
          · simp only [List.mem_singleton] at ha
            subst ha
            obtain ⟨z, hz, l⟩ := hx.kp _ _ hat
            exact ⟨by omega, by omega, z, by simpa using hz, by rw [l.1]; rfl⟩)
        refine ⟨hy.inv, hk0.trans (hx.kp.trans hy.kp), ?_⟩
        have e1 := hx.len
        have e2 := hy.len
        simp only [List.length_append, List.length_cons, List.length_nil] at e1 e2 ⊢
        rw [e2, e1]
        simp [Pl.cnL, Pl.clL]
        omega
      · rw [if_neg h10]
        have h10' : (k == 10) = false := by simpa using h10
        obtain ⟨-, hvL⟩ := hv
        rw [if_neg h10] at hvL
        have hi0 : NInv (ns ++ [planN (.mk k m [] ex cols wth agg rds) to]) := by
          refine hn.app fun j x hj => ?_
          match j, hj with
          | 0, hj =>
            simp at hj
            subst hj
            refine ⟨⟨.inl rfl, ?_, ?_, to, rfl, hp.kp (Kp.app _ _), .inl ⟨by simp [planN], by simpa using hlt, by simp [planN]⟩⟩, rfl⟩
            · have := made_of hf he h1' h2' h10'
              simp [planN, Nd.right0, rightN, this]
            · rw [planN, Pl.bnd]
              exact ⟨by simp, hb.2.1, hb.2.2.1, hb.2.2.2.1, by simp [Pl.bndL]⟩
          | j + 1, hj => simp at hj
        have hat := getElem?_snoc ns (planN (.mk k m [] ex cols wth agg rds) to)
        have h7n := (formed_nk hf h1' h2' h10').2
        have hL := bldL_inv kids (k == 7) ns.length 0 nd (ns ++ [planN (.mk k m [] ex cols wth agg rds) to], A) ih' hvL hd hi0 (fun q hq _ => by
          refine ⟨by simp, planN (.mk k m [] ex cols wth agg rds) to, by simp, ?_⟩
          simp only [planN, Nd.reached, Nd.two, twoN]
          by_cases h7 : (k == 7) = true
          · have := h7n h7
            have hq2 : q = 0 ∨ q = 1 := by omega
            rw [h7]
            rcases hq2 with rfl | rfl <;> simp
          · rw [if_neg h7]
            simp) (Ard.kp (s := (ns, A)) hA (Kp.app _ _) rfl (by omega))
        refine ⟨hL.inv, (Kp.app _ _).trans hL.kp, ?_⟩
        have e1 := hL.len
        simp only [List.length_append, List.length_cons, List.length_nil] at e1
        rw [e1]
        simp [h2', h10']
        omega
end Go.Proofs
end
section
set_option linter.unusedVariables false
set_option linter.unusedSimpArgs false
namespace Go.Proofs
open Go.Flat
set_option linter.unusedSimpArgs false
set_option linter.unusedVariables false
theorem anyBad_none {ns : List Nd} : ∀ (l : List Nd) (i : Nat), (∀ j x, l[j]? = some x → badN ns (i + j) x = false) → anyBad ns l i = false
  | [], _, _ => rfl
  | x :: r, i, h => by
    have h00 := h 0 x (by simp)
    rw [Nat.add_zero] at h00
    rw [anyBad, h00, anyBad_none r (i + 1) fun j y hj => by
      have := h (j + 1) y (by simpa using hj)
      rwa [show i + 1 + j = i + (j + 1) by omega]]
    rfl
theorem r0_loop {x : Nd} (h : x.right0 = true) (hk : x.k = 3) : 1 ≤ x.rds ∧ x.rds ≤ 16 := by
  obtain ⟨xk, ⟨pk, pn, pq, pe, pc, pw, pa, pg⟩, xn, xl, xr, xt, xb⟩ := x
  simp only at hk
  subst hk
  simp [Nd.right0, rightN] at h
  exact ⟨h.2.2.1, h.2.2.2.1⟩
theorem bndF_ge {n : Int} {x : Nd} (h0 : 0 ≤ n) (h : x.k = 3 → 1 ≤ x.rds ∧ x.rds ≤ 16) : n ≤ bndF n x := by
  unfold bndF
  split
  · rename_i hc
    simp only [Bool.and_eq_true, beq_iff_eq, decide_eq_true_eq] at hc
    obtain ⟨h1, h2⟩ := h hc.1
    have e1 : IntKind.i64.wrap (x.rds + 1) = x.rds + 1 := w64_in (by omega) (by omega)
    have hub : n * (x.rds + 1) ≤ 1099511627776 * 17 := Int.mul_le_mul (by omega) (by omega) (by omega) (by omega)
    have hlb : n * 1 ≤ n * (x.rds + 1) := Int.mul_le_mul_of_nonneg_left (by omega) h0
    rw [e1, w64_in (by omega) (by omega)]
    omega
  · exact Int.le_refl _
theorem fold_ge : ∀ (l : List Nd) (n : Int), 0 ≤ n → (∀ x ∈ l, x.k = 3 → 1 ≤ x.rds ∧ x.rds ≤ 16) → n ≤ l.foldl bndF n
  | [], n, _, _ => Int.le_refl _
  | x :: r, n, h0, h => by
    have h1 := bndF_ge h0 (h x (by simp))
    exact Int.le_trans h1 (fold_ge r (bndF n x) (by omega) fun y hy => h y (by simp [hy]))
structure Built (ns : List Nd) (p : Pl) : Prop where
  inv : NInv ns
  len : ns.length = 1 + p.cn + p.cl
  small : ns.length ≤ 129
  bnd : ∀ x ∈ ns, x.bnd
  chk : checkG ns = 0
  far : (ns.length : Int) ≤ boundG ns
theorem ninv0 : NInv [outN] := by
  refine ⟨⟨outN, rfl, rfl, rfl, ?_, zero_bnd⟩, fun i x hx hi => ?_, fun i x hx q hq => ?_⟩
  · decide
  · match i, hx, hi with
    | 0, _, hi => exact absurd rfl hi
    | i + 1, hx, _ => simp at hx
  · match i, hx with
    | 0, hx => simp at hx; subst hx; simp [outN] at hq
    | i + 1, hx => simp at hx
theorem built {ss : List (List Int)} {p : Pl} (hb : p.bnd) (hs : p.size ≤ 2 ^ 40) (h : (bldG ss p).2 = 0) : Built (bldG ss p).1 p := by
  have h0 : (inferP ss p).2 = 0 := by
    unfold bldG at h
    split at h
    · exact h
    · rename_i hh; simpa using hh
  have he : bldG ss p = ((bld p ⟨0, 0⟩ 0 ([outN], [])).1, 0) := by unfold bldG; rw [if_neg (by rw [h0]; decide)]
  rw [he]
  obtain ⟨hf, hv, hk⟩ := infer_fine hs h0
  have hg := bld_gw p ⟨0, 0⟩ 0 ([outN], []) hv (by simp)
  have hst := bld_inv p hf.1 hb hk ⟨0, 0⟩ 0 ([outN], []) hv (by simp) ninv0 ⟨by simp, outN, rfl, by decide⟩ (by intro a ha; simp at ha)
  have hc := cn_le p
  have hz := hf.2.1
  have hlen := hst.len
  have hrm := hg.rm (d := 0) (rm0 (p := p) hz)
  have hi := hst.inv
  have hbk0 := hrm.back
  clear hrm hst hg
  simp only at hlen ⊢
  generalize (bld p ⟨0, 0⟩ 0 ([outN], [])).1 = ns at hi hlen hbk0
  simp only [List.length_cons, List.length_nil] at hlen
  have hsm : ns.length ≤ 129 := by omega
  have hbk : ∀ x ∈ ns, x.back.length ≤ 200 := fun x hx => by
    have := hbk0 x hx
    omega
  have hbd : ∀ x ∈ ns, x.bnd := by
    intro x hx
    obtain ⟨i, hi'⟩ := List.mem_iff_getElem?.1 hx
    have hbk' := hbk x hx
    have key : x.pl.bnd ∧ x.to.length ≤ 1 := by
      by_cases h0 : i = 0
      · subst h0
        obtain ⟨z, hz, _, h2, _, h4⟩ := hi.zero
        rw [hi'] at hz
        simp only [Option.some.injEq] at hz
        subst hz
        exact ⟨h4, by rw [h2]; simp⟩
      · have hn := hi.node i x hi' h0
        obtain ⟨t, ht, _⟩ := hn.to
        exact ⟨hn.pb, by rw [ht]; simp⟩
    obtain ⟨xk, ⟨pk, pn, pq, pe, pc, pw, pa, pg⟩, xn, xl, xr, xt, xb⟩ := x
    obtain ⟨k1, k2⟩ := key
    simp only at k1 k2 hbk'
    rw [Pl.bnd] at k1
    exact ⟨k1.1, k1.2.1, k1.2.2.1, k1.2.2.2.1, by simp only [Flat.lim]; omega, by simp only [Flat.lim]; omega⟩
  have hport : ∀ q, PortOK ns q → badR ns q = false := by
    intro q hq
    have hlt := hq.lt
    obtain ⟨hq0, y, hy, hr⟩ := hq
    unfold badR reachN
    rw [if_neg (by simp; omega), hy]
    simp [hr]
  have hchk : checkG ns = 0 := by
    unfold checkG
    have hpos := hi.pos
    rw [if_neg (by simp; exact ⟨by rintro rfl; simp at hpos, by omega⟩), anyBad_none]
    · rfl
    · intro j x hj
      rw [Nat.zero_add]
      have hback : x.back.any (badR ns) = false := by
        rw [List.any_eq_false]
        intro q hq
        rw [hport q (hi.back j x hj q hq).2.2]
        decide
      by_cases h0 : j = 0
      · subst h0
        obtain ⟨z, hz, h1, h2, h3, h4⟩ := hi.zero
        rw [hj] at hz
        simp only [Option.some.injEq] at hz
        subst hz
        have hb0 : x.back = [] := by
          cases hq : x.back with
          | nil => rfl
          | cons q r =>
            have := (hi.back 0 x hj q (by rw [hq]; simp)).1
            rw [h1] at this
            exact absurd this (by decide)
        unfold badN
        rw [right_of0 h3 (.inl hb0), hback, h2, h1]
        rfl
      · have hn := hi.node j x hj h0
        obtain ⟨t, ht, hp, _⟩ := hn.to
        have hb0 : x.back = [] ∨ x.k = 3 := by
          cases hq : x.back with
          | nil => exact .inl rfl
          | cons q r => exact .inr (hi.back j x hj q (by rw [hq]; simp)).1
        have hk5 : (x.k == 5) = false := by
          rcases hn.kind with h | h | h | h <;> rw [h] <;> rfl
        have hj0 : ((j : Int) == 0) = false := by
          rw [beq_eq_false_iff_ne]; omega
        unfold badN
        rw [right_of0 hn.r0 hb0, hback, ht, hk5, hj0]
        simp [hport t hp]
  refine ⟨hi, by omega, hsm, hbd, hchk, ?_⟩
  unfold boundG
  rw [if_neg (by rw [hchk]; decide)]
  refine fold_ge ns _ (by omega) fun x hx hk3 => ?_
  obtain ⟨i, hi'⟩ := List.mem_iff_getElem?.1 hx
  by_cases h0 : i = 0
  · subst h0
    obtain ⟨z, hz, h1, _⟩ := hi.zero
    rw [hi'] at hz
    simp only [Option.some.injEq] at hz
    subst hz
    rw [h1] at hk3
    exact absurd hk3 (by decide)
  · exact r0_loop (hi.node i x hi' h0).r0 hk3
theorem built_err {ss : List (List Int)} {p : Pl} (h : (bldG ss p).2 ≠ 0) : (bldG ss p).1 = [] := by
  unfold bldG at h ⊢
  split at h
  · rename_i hh; rw [if_pos hh]
  · exact absurd rfl h
/-- How many steps there may be from a node to the last one. -/
def phi (ns : List Nd) (j : Nat) : Nat := match ns[j]? with
  | some x => if x.k = 4 then 2 * j - 3 else 2 * j
  | none => 0
theorem phi_le (ns : List Nd) (j : Nat) : phi ns j ≤ 2 * j := by
  unfold phi
  split
  · split <;> omega
  · omega
theorem chain {ns : List Nd} (hi : NInv ns) {j : Nat} {x : Nd} (hx : ns[j]? = some x) (h0 : j ≠ 0) : ∃ t, x.to = [t] ∧ ∃ j2 : Nat, t.a = (j2 : Int) ∧ j2 < ns.length ∧ phi ns j2 < phi ns j := by
  obtain ⟨t, ht, hp, hc⟩ := (hi.node j x hx h0).to
  have hlt := hp.lt
  obtain ⟨ha0, y, hy, _⟩ := hp
  obtain ⟨j2, hj2⟩ := Int.eq_ofNat_of_zero_le ha0
  refine ⟨t, ht, j2, hj2, by rw [hj2] at hlt; omega, ?_⟩
  rcases hc with ⟨h3, h4, h5⟩ | ⟨h3, h4, z, hz, hk⟩
  · have hle := phi_le ns j2
    have e : phi ns j = if x.k = 4 then 2 * j - 3 else 2 * j := by unfold phi; rw [hx]
    rw [e]
    rw [hj2] at h4 h5
    split
    · rename_i hk4
      have := h5 hk4
      omega
    · omega
  · have e1 : phi ns j = 2 * j := by
      unfold phi; rw [hx]; simp only
      rw [if_neg (by rw [h3]; decide)]
    have e2 : j2 = j + 1 := by rw [hj2] at h4; omega
    have e3 : phi ns j2 = 2 * j2 - 3 := by
      unfold phi; rw [e2, hz]; simp only
      rw [if_pos hk]
    omega
end Go.Proofs
end
section
set_option linter.unusedVariables false
set_option linter.unusedSimpArgs false
namespace Go.Proofs
open Go.Flat
set_option maxRecDepth 100000
set_option linter.unusedSimpArgs false
set_option linter.unusedVariables false
attribute [local simp] Bool.and_assoc Bool.or_assoc evalG evalX efD skF guardG guardL isCall stepL evalOp ev evs lk tmpsL app AV.ok fresh vv putCells insV ins del putL place Go.Flat.look fillC fillR getCells loadF storeF binF scalarBin intBin strBin isShift shiftBin unF lenF maxF minF rowsF appendF builtinF idxF natOf sliceP sliceF optEv Flat.cut overwrite toPV toPVs constAV scalarC scalarCs AV.cells TI.isAgg allSome andAll scalarEq buildable Go.Flat.lim retQ resL resAll resOne PartOf noTmp closedIn refs refs.refsL isSomeV hasB ids leA leA.leL renA renA.renL callB refsAll backL dropIds renS LiesAt injB ownB freshB memN locId insAll leA_refl leL_refl okS frzS frzA frzA.frzL evalD feet fine updCells cellsFrom memP footRf footWf noTmpU updIds opOps opIds idsA footR footW guardTs opTs dstTs callR callW renLoc renC inBlockQ thenQ Value.oneCell' IntKind.bits IntKind.signed PV.up toPH toPHs

attribute [local simp] Pl.av
theorem to_len {ns : List Nd} (hi : NInv ns) {i : Nat} {x : Nd} (hx : ns[i]? = some x) : ((x.to.length : Int) == 1) = decide (0 < (i : Int)) := by
  by_cases h0 : i = 0
  · subst h0
    obtain ⟨z, hz, _, h2, _⟩ := hi.zero
    rw [hx] at hz
    simp only [Option.some.injEq] at hz
    subst hz
    rw [h2]; rfl
  · obtain ⟨t, ht, _⟩ := (hi.node i x hx h0).to
    have : 0 < (i : Int) := by omega
    simp [ht, this]
    omega

attribute [local simp] Nd.row Pl.row_eq in
theorem spec13 (k m : Int) (kids : List Pl) (ex : List E) (cols wth : List Int) (agg rds : Int) (ss : List (List Int)) (hb : (Pl.mk k m kids ex cols wth agg rds).bnd) (hs : (Pl.mk k m kids ex cols wth agg rds).size ≤ 2 ^ 40) (ns : List Nd) (er : Int) (h34 : Flat.Sp Try.prog 34 [(Pl.mk k m kids ex cols wth agg rds).av, .p (.ps (ss.map srow))] [] (.tup [.p (.ps (ns.map Nd.row)), vv (.int .i64 er)]) []) (he : (er != 0) = true → ns = []) (hok : (er != 0) = false → Built ns (Pl.mk k m kids ex cols wth agg rds)) : Flat.Sp Try.prog 13 [(Pl.mk k m kids ex cols wth agg rds).av, .p (.ps (ss.map srow))] [] (vv (.bool true)) [] := by
  refine sk Try.func13 ?_
  intro F G hn hG
  have h42 : Flat.Sp Try.prog 42 [(Pl.mk k m kids ex cols wth agg rds).av] [] (.tup [vv (.int .i64 (Pl.mk k m kids ex cols wth agg rds).cn), vv (.int .i64 (Pl.mk k m kids ex cols wth agg rds).cl)]) [] := spec42 _ hb hs
  have hc := cn_le (Pl.mk k m kids ex cols wth agg rds)
  obtain ⟨cn, hcn⟩ : ∃ c, (Pl.mk k m kids ex cols wth agg rds).cn = c := ⟨_, rfl⟩
  obtain ⟨cl, hcl⟩ : ∃ c, (Pl.mk k m kids ex cols wth agg rds).cl = c := ⟨_, rfl⟩
  rw [hcn, hcl] at h42
  refine sq ?_
  refine rg 1000 ?_
  refine pr [1, 3, 4, 63] ?_
  refine sq ?_
  refine sq ?_
  refine rc 2000 ?_
  refine oc id (spec36) ?_
  refine oe 2100 ?_
  refine on ?_
  refine pr [1, 3, 4, 11, 12, 63] ?_
  refine ce ?_
  refine k_skip ?_
  refine sq ?_
  refine rc 4000 ?_
  refine oc id (h34) ?_
  refine oe 4100 ?_
  refine on ?_
  refine pr [2, 3, 4, 11, 19, 63] ?_
  refine sq ?_
  refine sq ?_
  refine rg 5000 ?_
  refine pr [2, 3, 4, 6, 7, 11, 20, 63] ?_
  refine cd ?_ ?_
  · intro h20_1
    obtain rfl : ns = [] := he h20_1
    refine sq ?_
    refine rg 6000 ?_
    refine pr [2, 3, 4, 6, 7, 11, 24, 63] ?_
    refine k_ret ?_
    show retQ _ _ _ _ _ _ _
    simp [*]
  · intro h20_1
    have hB := hok h20_1
    have hi := hB.inv
    have hsm := hB.small
    have h38 := spec38 ns hB.bnd
    rw [hB.chk] at h38
    have h40 := spec40 ns hB.bnd
    have hfar := hB.far
    have hlen := hB.len
    rw [hcn, hcl] at hlen
    have hwl1 : IntKind.i64.wrap ((cn : Int) + cl) = (cn : Int) + cl := by rw [w64]; omega
    have hwl2 : IntKind.i64.wrap ((cn : Int) + cl + 1) = (ns.length : Int) := by rw [w64]; omega
    clear hlen
    refine k_skip ?_
    refine sq ?_
    refine rc 7000 ?_
    refine oc id (h42) ?_
    refine oe 7100 ?_
    refine on ?_
    refine pr [4, 6, 7, 11, 29, 63] ?_
    refine sq ?_
    refine sq ?_
    refine rg 8000 ?_
    refine pr [4, 6, 7, 11, 29, 63] ?_
    refine k_block ?_
    refine k_loop (fun n l => ∃ i, i + n = ns.length ∧ (True) ∧ l = [(.tmp 5, .av (.p (.ps (ns.map Nd.row)))), (.tmp 7, .av (vv (.int .i64 cn))), (.tmp 8, .av (vv (.int .i64 cl))), (.tmp 29, .av (.p (.ps (ns.map Nd.row)))), (.tmp 30, .av (vv (.int .i64 ns.length))), (.tmp 31, .av (vv (.int .i64 i)))]) (ns.length) hG ⟨_, ⟨by simp, by simp, by simp⟩, 0, by simp, trivial, rfl⟩ ?_
    rintro n _ ⟨i, hin, hfa, rfl⟩
    refine sq ?_
    refine rg 9000 ?_
    refine pr [4, 6, 7, 11, 29, 63] ?_
    refine sq ?_
    refine cd ?_ ?_
    · intro h32_2
      have hlt : i < ns.length := by simpa using h32_2
      obtain ⟨x, hxe⟩ : ∃ x, ns[i] = x := ⟨_, rfl⟩
      have hx : ns[i]? = some x := by simp [hlt, hxe]
      have hw := wrap_succ (show i < Flat.lim by simp only [Flat.lim]; omega)
      have hto : ((x.to.length : Int) == 1) = decide (0 < (i : Int)) := to_len hi hx
      obtain ⟨xk, ⟨pk, pn, pq, pe, pc, pw, pa, pg⟩, xn, xl, xr, xt, xb⟩ := x
      simp only at hto
      refine k_skip ?_
      refine sq ?_
      refine k_block ?_
      refine sq ?_
      refine rg 10000 ?_
      refine pr [4, 6, 7, 11, 29, 63] ?_
      refine sq ?_
      refine rg 11000 ?_
      refine pr [4, 6, 7, 11, 29, 63] ?_
      refine ce ?_
      refine k_skip ?_
      refine k_nil ?_
      show AK _ _ _ _ _ _
      refine rg 13000 ?_
      refine k_nil ?_
      refine ⟨n - 1, by omega, _, ⟨?_, ?_, ?_⟩, i + 1, by omega, trivial, rfl⟩ <;> simp [*]
    · intro h32_2
      have hge : ns.length ≤ i := by simpa using h32_2
      obtain rfl : i = ns.length := by omega
      refine k_exit ?_
      show AK _ _ _ _ _ _
      refine sq ?_
      refine rc 14000 ?_
      refine oc id (h38) ?_
      refine oe 14100 ?_
      iterate 7 (first | refine gp 14750 ?_ | refine os ?_ | refine gt 14750 ?_)
      refine oe 14800 ?_
      first | refine gp 14850 ?_ | refine os ?_ | refine gt 14850 ?_
      refine oc id (h40) ?_
      iterate 3 (first | refine gp 15250 ?_ | refine os ?_ | refine gt 15250 ?_)
      refine oe 15300 ?_
      refine on ?_
      refine pr [4, 5] ?_
      refine k_ret ?_
      show retQ _ _ _ _ _ _ _
      simp [*]

attribute [local simp] Nd.row Pl.row_eq prow in
set_option maxHeartbeats 1000000 in
theorem spec15 (k m : Int) (kids : List Pl) (ex : List E) (cols wth : List Int) (agg rds : Int) (ss : List (List Int)) (hb : (Pl.mk k m kids ex cols wth agg rds).bnd) (hs : (Pl.mk k m kids ex cols wth agg rds).size ≤ 2 ^ 40) (ns : List Nd) (er : Int) (h34 : Flat.Sp Try.prog 34 [(Pl.mk k m kids ex cols wth agg rds).av, .p (.ps (ss.map srow))] [] (.tup [.p (.ps (ns.map Nd.row)), vv (.int .i64 er)]) []) (hok : (er != 0) = false → Built ns (Pl.mk k m kids ex cols wth agg rds)) : Flat.Sp Try.prog 15 [(Pl.mk k m kids ex cols wth agg rds).av, .p (.ps (ss.map srow))] [] (vv (.bool true)) [] := by
  refine sk Try.func15 ?_
  intro F G hn hG
  refine sq ?_
  refine rg 1000 ?_
  refine pr [1, 3, 4, 11, 12, 75] ?_
  refine sq ?_
  refine sq ?_
  refine rc 2000 ?_
  refine oc id (spec36) ?_
  refine oe 2100 ?_
  refine on ?_
  refine pr [1, 3, 4, 11, 12, 13, 14, 75] ?_
  refine ce ?_
  refine k_skip ?_
  refine sq ?_
  refine rc 4000 ?_
  refine oc id (h34) ?_
  refine oe 4100 ?_
  refine on ?_
  refine pr [4, 11, 12, 13, 21, 75] ?_
  refine sq ?_
  refine sq ?_
  refine rg 5000 ?_
  refine pr [4, 6, 7, 11, 12, 13, 22, 75] ?_
  refine cd ?_ ?_
  · intro h22_1
    refine sq ?_
    refine rg 6000 ?_
    refine pr [4, 6, 7, 11, 12, 13, 23, 75] ?_
    refine k_ret ?_
    show retQ _ _ _ _ _ _ _
    simp [*]
  · intro h22_1
    have hB := hok h22_1
    have hi := hB.inv
    have hsm := hB.small
    have hw2 : IntKind.i64.wrap (2 * (ns.length : Int)) = 2 * (ns.length : Int) := by rw [w64]; omega
    refine k_skip ?_
    refine sq ?_
    refine sq ?_
    refine rg 7000 ?_
    refine pr [4, 6, 7, 11, 12, 13, 23, 75] ?_
    refine k_block ?_
    refine k_loop (fun n l => ∃ i, i + n = ns.length ∧ (True) ∧ l = [(.tmp 5, .av (.p (.ps (ns.map Nd.row)))), (.tmp 23, .av (.p (.ps (ns.map Nd.row)))), (.tmp 24, .av (vv (.int .i64 ns.length))), (.tmp 25, .av (vv (.int .i64 i)))]) (ns.length) hG ⟨_, ⟨by simp, by simp, by simp⟩, 0, by simp, trivial, rfl⟩ ?_
    rintro n _ ⟨i, hin, hfa, rfl⟩
    refine sq ?_
    refine rg 8000 ?_
    refine pr [4, 6, 7, 11, 12, 13, 23, 75] ?_
    refine sq ?_
    refine cd ?_ ?_
    · intro h26_2
      have hlt : i < ns.length := by simpa using h26_2
      obtain ⟨x, hxe⟩ : ∃ x, ns[i] = x := ⟨_, rfl⟩
      have hx : ns[i]? = some x := by simp [hlt, hxe]
      have hw := wrap_succ (show i < Flat.lim by simp only [Flat.lim]; omega)
      have hbk := hi.back i x hx
      have hbx := hB.bnd x (List.mem_of_getElem? hx)
      obtain ⟨xk, ⟨pk, pn, pq, pe, pc, pw, pa, pg⟩, xn, xl, xr, xt, xb⟩ := x
      have hbl : xb.length ≤ Flat.lim := hbx.2.2.2.2.2
      refine k_skip ?_
      refine sq ?_
      refine k_block ?_
      refine sq ?_
      refine rg 9000 ?_
      refine pr [4, 6, 7, 11, 12, 13, 23, 75] ?_
      refine sq ?_
      refine rg 10000 ?_
      refine pr [4, 6, 7, 11, 12, 13, 23, 75] ?_
      refine sq ?_
      refine sq ?_
      refine rg 11000 ?_
      refine pr [4, 6, 7, 11, 12, 13, 23, 75] ?_
      refine k_block ?_
      refine k_loop (fun n l => ∃ j kk : Nat, n = phi ns j ∧ kk + n ≤ 2 * ns.length ∧ j < ns.length ∧ l = [(.tmp 9, .av (vv (.int .i64 j))), (.tmp 10, .av (vv (.int .i64 kk))), (.tmp 5, .av (.p (.ps (ns.map Nd.row)))), (.tmp 7, .av (vv (.int .i64 i))), (.tmp 8, .av (.ptr 9003 0)), (.tmp 23, .av (.p (.ps (ns.map Nd.row)))), (.tmp 24, .av (vv (.int .i64 ns.length))), (.tmp 25, .av (vv (.int .i64 i))), (.var 9003, .n 14), (.cell 9003 0, .av (vv (.int .u8 xk))), (.cell 9003 1, .av (vv (.int .u8 pk))), (.cell 9003 2, .av (vv (.int .i64 pn))), (.cell 9003 3, .av (.p (.ps (pq.map Pl.row)))), (.cell 9003 4, .av (.p (.ps (pe.map E.row)))), (.cell 9003 5, .av (.p (.ps (pc.map irow)))), (.cell 9003 6, .av (.p (.ps (pw.map irow)))), (.cell 9003 7, .av (vv (.int .u8 pa))), (.cell 9003 8, .av (vv (.int .i64 pg))), (.cell 9003 9, .av (vv (.int .i64 xn))), (.cell 9003 10, .av (vv (.int .i64 xl))), (.cell 9003 11, .av (vv (.int .i64 xr))), (.cell 9003 12, .av (.p (.ps (xt.map prow)))), (.cell 9003 13, .av (.p (.ps (xb.map prow))))]) (phi ns i) hG ⟨_, ⟨by simp, by simp, by simp⟩, i, 0, rfl, by have := phi_le ns i; omega, hlt, rfl⟩ ?_
      rintro n1 _ ⟨j, kk, hn1, hkk, hjl, rfl⟩
      refine sq ?_
      refine sq ?_
      refine rg 12000 ?_
      refine pr [4, 6, 7, 11, 12, 13, 23, 75] ?_
      refine cd ?_ ?_
      · intro h32_3
        have hj0 : j ≠ 0 := by rintro rfl; simp at h32_3
        have hy : ns[j]? = some ns[j] := by simp [hjl]
        obtain ⟨t, ht, j2, hta, hj2, hphi⟩ := chain hi hy hj0
        obtain ⟨y, hyy⟩ : ∃ y, ns[j] = y := ⟨_, rfl⟩
        rw [hyy] at hy ht
        obtain ⟨yk, ⟨qk, qn, qq, qe, qc, qw, qa, qg⟩, yn, yl, yr, yt, yb⟩ := y
        simp only at ht
        subst ht
        obtain ⟨ta, tb⟩ := t
        simp only at hta
        subst hta
        have hkw : IntKind.i64.wrap ((kk : Int) + 1) = (kk : Int) + 1 := by rw [w64]; omega
        have hk2 : ¬ (2 * (ns.length : Int) < (kk : Int)) := by omega
        refine k_skip ?_
        refine sq ?_
        refine k_block ?_
        refine sq ?_
        refine sq ?_
        refine rc 14000 ?_
        iterate 7 (first | refine gp 14650 ?_ | refine os ?_ | refine gt 14650 ?_)
        refine oe 14700 ?_
        refine on ?_
        refine pr [4, 6, 7, 11, 12, 13, 23, 75] ?_
        refine ce ?_
        refine k_skip ?_
        refine rg 16000 ?_
        refine k_nil ?_
        show AK _ _ _ _ _ _
        refine rg 13000 ?_
        refine k_nil ?_
        refine ⟨phi ns j2, by omega, _, ⟨?_, ?_, ?_⟩, j2, kk + 1, rfl, by omega, hj2, rfl⟩ <;> simp [*]
      · intro h32_3
        refine k_exit ?_
        show AK _ _ _ _ _ _
        refine sq ?_
        refine rg 17000 ?_
        refine pr [4, 6, 7, 11, 12, 13, 23, 75] ?_
        refine k_block ?_
        refine k_loop (fun n l => ∃ b, b + n = xb.length ∧ (True) ∧ l = [(.tmp 58, .av (.p (.ps (xb.map prow)))), (.tmp 59, .av (vv (.int .i64 xb.length))), (.tmp 60, .av (vv (.int .i64 b))), (.tmp 5, .av (.p (.ps (ns.map Nd.row)))), (.tmp 7, .av (vv (.int .i64 i))), (.tmp 8, .av (.ptr 9003 0)), (.tmp 23, .av (.p (.ps (ns.map Nd.row)))), (.tmp 24, .av (vv (.int .i64 ns.length))), (.tmp 25, .av (vv (.int .i64 i))), (.var 9003, .n 14), (.cell 9003 0, .av (vv (.int .u8 xk))), (.cell 9003 1, .av (vv (.int .u8 pk))), (.cell 9003 2, .av (vv (.int .i64 pn))), (.cell 9003 3, .av (.p (.ps (pq.map Pl.row)))), (.cell 9003 4, .av (.p (.ps (pe.map E.row)))), (.cell 9003 5, .av (.p (.ps (pc.map irow)))), (.cell 9003 6, .av (.p (.ps (pw.map irow)))), (.cell 9003 7, .av (vv (.int .u8 pa))), (.cell 9003 8, .av (vv (.int .i64 pg))), (.cell 9003 9, .av (vv (.int .i64 xn))), (.cell 9003 10, .av (vv (.int .i64 xl))), (.cell 9003 11, .av (vv (.int .i64 xr))), (.cell 9003 12, .av (.p (.ps (xt.map prow)))), (.cell 9003 13, .av (.p (.ps (xb.map prow))))]) (xb.length) hG ⟨_, ⟨by simp, by simp, by simp⟩, 0, by simp, trivial, rfl⟩ ?_
        rintro n2 _ ⟨b, hib, hfb, rfl⟩
        refine sq ?_
        refine rg 18000 ?_
        refine pr [4, 6, 7, 11, 12, 13, 23, 75] ?_
        refine sq ?_
        refine cd ?_ ?_
        · intro h61_4
          have hlt : b < xb.length := by simpa using h61_4
          obtain ⟨q, hxe⟩ : ∃ q, xb[b] = q := ⟨_, rfl⟩
          have hx : xb[b]? = some q := by simp [hlt, hxe]
          have hwb := wrap_succ (show b < Flat.lim by omega)
          obtain ⟨q3, qai, _⟩ := hbk q (List.mem_of_getElem? hx)
          simp only at q3
          have hx3 : (xk != 3) = false := by rw [q3]; rfl
          clear q3
          have hq2 : ¬ q.a < (i : Int) := by omega
          obtain ⟨qqa, qqb⟩ := q
          simp only at hq2
          refine k_skip ?_
          refine sq ?_
          refine k_block ?_
          refine sq ?_
          refine rg 19000 ?_
          refine pr [4, 6, 7, 11, 12, 13, 23, 75] ?_
          refine sq ?_
          refine rc 20000 ?_
          iterate 4 (first | refine gp 20350 ?_ | refine os ?_ | refine gt 20350 ?_)
          refine oe 20400 ?_
          refine on ?_
          refine pr [4, 6, 7, 11, 12, 13, 23, 75] ?_
          refine ce ?_
          refine k_skip ?_
          refine k_nil ?_
          show AK _ _ _ _ _ _
          refine rg 22000 ?_
          refine k_nil ?_
          refine ⟨n2 - 1, by omega, _, ⟨?_, ?_, ?_⟩, b + 1, by omega, trivial, rfl⟩ <;> simp [*]
        · intro h61_4
          have hge : xb.length ≤ b := by simpa using h61_4
          obtain rfl : b = xb.length := by omega
          refine k_exit ?_
          show AK _ _ _ _ _ _
          refine k_nil ?_
          show AK _ _ _ _ _ _
          refine rg 23000 ?_
          refine k_nil ?_
          refine ⟨n - 1, by omega, _, ⟨?_, ?_, ?_⟩, i + 1, by omega, trivial, rfl⟩ <;> simp [*]
    · intro h26_2
      have hge : ns.length ≤ i := by simpa using h26_2
      obtain rfl : i = ns.length := by omega
      refine k_exit ?_
      show AK _ _ _ _ _ _
      refine sq ?_
      refine rg 24000 ?_
      refine pr [4, 5] ?_
      refine k_ret ?_
      show retQ _ _ _ _ _ _ _
      simp [*]

theorem spec15r (k m : Int) (kids : List Pl) (ex : List E) (cols wth : List Int) (agg rds : Int) (hb : (Pl.mk k m kids ex cols wth agg rds).bnd) (hsz : (Pl.mk k m kids ex cols wth agg rds).size ≤ 2 ^ 38) (ss : List (List Int)) : Flat.Sp Try.prog 15 [(Pl.mk k m kids ex cols wth agg rds).av, .p (.ps (ss.map srow))] [] (vv (.bool true)) [] := by
  have hs : (Pl.mk k m kids ex cols wth agg rds).size ≤ 2 ^ 40 := Nat.le_trans hsz (by decide)
  exact spec15 k m kids ex cols wth agg rds ss hb hs _ _ (spec34 _ hb hs ss) (fun h => built hb hs (by simpa using h))

theorem spec13r (k m : Int) (kids : List Pl) (ex : List E) (cols wth : List Int) (agg rds : Int) (hb : (Pl.mk k m kids ex cols wth agg rds).bnd) (hsz : (Pl.mk k m kids ex cols wth agg rds).size ≤ 2 ^ 38) (ss : List (List Int)) : Flat.Sp Try.prog 13 [(Pl.mk k m kids ex cols wth agg rds).av, .p (.ps (ss.map srow))] [] (vv (.bool true)) [] := by
  have hs : (Pl.mk k m kids ex cols wth agg rds).size ≤ 2 ^ 40 := Nat.le_trans hsz (by decide)
  exact spec13 k m kids ex cols wth agg rds ss hb hs _ _ (spec34 _ hb hs ss) (fun h => built_err (by simpa using h)) (fun h => built hb hs (by simpa using h))

end Go.Proofs
end
