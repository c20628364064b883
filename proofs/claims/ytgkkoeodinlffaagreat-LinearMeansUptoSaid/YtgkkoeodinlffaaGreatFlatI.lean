/-
  Flat, part 15c: a variable that is given up: pointers to it are pointers to cells that stay as they are.
-/
import Derived.Test.YtgkkoeodinlffaaGreatFlatD
set_option linter.unusedVariables false
set_option linter.unusedSimpArgs false
namespace Go.Flat
def frvA (id : Nat) (cs : List PV) : AV → AV
 | .sl k L off len => if k = id then .any else .sl k L off len
 | .eptr k L i off => if k = id then .any else .eptr k L i off
 | .ptr k off => if k = id then .p (.pp (cs.drop off)) else .ptr k off
 | .fn f c => .fn f (frvL id cs c)
 | .agg c => .agg (frvL id cs c)
 | .tup c => .tup (frvL id cs c)
 | x => x
where frvL (id : Nat) (cs : List PV) : List AV → List AV
 | [] => []
 | a :: r => frvA id cs a :: frvL id cs r
def frvS (id : Nat) (cs : List PV) : List (Loc × C) → List (Loc × C)
 | [] => []
 | (.arr k, c) :: r => if k = id then frvS id cs r else (.arr k, c) :: frvS id cs r
 | (.var k, c) :: r => if k = id then frvS id cs r else (.var k, c) :: frvS id cs r
 | (.tmp k, .av a) :: r => (.tmp k, .av (frvA id cs a)) :: frvS id cs r
 | (.cell k j, .av a) :: r => if k = id then frvS id cs r else (.cell k j, .av (frvA id cs a)) :: frvS id cs r
 | _ :: r => frvS id cs r
section
variable {P : Program} {F : Nat → Nat → Prop} {G : Start} {ρ : Ren} {t s : Sto} {l l' : List (Loc × C)} {a : Act} {w : World} {id : Nat} {cs : List PV} {Q : Post}
theorem frvL_at : ∀ (l : List AV) (j : Nat), (frvA.frvL id cs l)[j]? = (l[j]?).map (frvA id cs)
 | [], j => by simp [frvA.frvL]
 | a :: r, 0 => by simp [frvA.frvL]
 | a :: r, j + 1 => by simpa [frvA.frvL] using frvL_at r j
theorem frvL_len : ∀ l : List AV, (frvA.frvL id cs l).length = l.length
 | [] => rfl
 | a :: r => by simp [frvA.frvL, frvL_len r]
def CellsOf (t : Sto) (id : Nat) (cs : List PV) : Prop := ∀ (j : Nat) (x : PV), cs[j]? = some x → ∃ a, t (.cell id j) = some (.av a) ∧ toPV a = some x
theorem cellsOf_get {n : Nat} {as : List AV} (h1 : getCells t id 0 n = some as) (h2 : toPVs as = some cs) : CellsOf t id cs := by
 intro j x hx; obtain ⟨a, ha, hp⟩ := (toPVs_at h2).2 j x hx; have := (getCells_at h1).2 j a ha; rw [Nat.zero_add] at this; exact ⟨a, this, hp⟩
theorem frv_ptr (ht : RelO F ρ t w) (h : Under F ρ s t) (hl : t (.var id) ≠ none) (hc : CellsOf t id cs) (hs : s (.var id) = none ∧ s (.arr id) = none) {b off : Nat} (hb : ρ id = some b) :
   PR w (Stb F ρ s) (.pp (cs.drop off)) (.pointer (some ⟨b, off, none⟩)) := by
 have hcell : ∀ (j : Nat) (x : PV), cs[j]? = some x → ∃ u, w.cell? ⟨b, j, none⟩ = some u ∧ PR w (Stb F ρ t) x u := by
   intro j x hx; obtain ⟨a, h1, h2⟩ := hc j x hx; obtain ⟨y, n, b2, u, e1, e2, e3, e4, e5, e6, e7⟩ := ht.cell id j _ h1; simp only [C.av.injEq] at e1; subst e1; rw [hb] at e4; simp only [Option.some.injEq] at e4; subst e4; exact ⟨u, e5, toPV_ar h2 e6⟩
 have hat : ∀ (j : Nat) (x : PV), (cs.drop off)[j]? = some x → cs[off + j]? = some x := by
   intro j x hx
   rwa [List.getElem?_drop] at hx
 refine .pp (fun j => (w.cell? ⟨b, off + j, none⟩).getD undef) ?_ ?_ ?_
 · intro j x hx
   obtain ⟨u, u1, _⟩ := hcell _ x (hat j x hx); rw [u1]; rfl
 · intro j x hx
   refine ⟨ht.apart id b _ (.inl hl) hb, fun k hk => ?_⟩
   by_cases e : k = id
   · subst e
     exact ⟨hs.1, fun e sz xs pub hq => by rw [hs.2] at hq; simp at hq⟩
   · refine ⟨?_, ?_⟩
     · cases hq : s (.var k) with
       | none => rfl
       | some c => exact absurd (ht.inj k id b (.inl (by rw [h.var k c hq]; simp)) (.inl hl) hk hb) e
     · intro e' sz xs pub hq
       exact absurd (ht.inj k id b (.inr (by rw [h.arr k _ hq]; simp)) (.inl hl) hk hb) e
 · intro j x hx
   obtain ⟨u, u1, u2⟩ := hcell _ x (hat j x hx); simp only [u1, Option.getD_some]; exact u2.under h
theorem AR.frv (ht : RelO F ρ t w) (h : Under F ρ s t) (hl : t (.var id) ≠ none) (hc : CellsOf t id cs) (hs : s (.var id) = none ∧ s (.arr id) = none)
   (hv : ∀ k, k ≠ id → s (.var k) = t (.var k)) (har : ∀ k, k ≠ id → s (.arr k) = t (.arr k)) {x : AV} {v : Value} (hx : AR F ρ t w x v) : AR F ρ s w (frvA id cs x) v := by
 induction hx with
 | any => exact .any
 | p hp => exact .p (hp.under h)
 | psf hp => exact .psf (hp.under h)
 | @ptr k off b hl2 hb =>
   simp only [frvA]; split
   · rename_i hk
     subst hk; exact .p (frv_ptr ht h hl hc hs hb)
   · rename_i hk
     exact .ptr (by rw [hv k hk]; exact hl2) hb
 | @sl k L off len v hq =>
   simp only [frvA]; split
   · exact .any
   · rename_i hk
     obtain ⟨e, sz, ys, pub, g1, g2⟩ := hq; exact .sl ⟨e, sz, ys, pub, by rw [har k hk]; exact g1, g2⟩
 | @eptr k L i off v hq =>
   simp only [frvA]; split
   · exact .any
   · rename_i hk
     obtain ⟨e, sz, ys, pub, g1, g2⟩ := hq; exact .eptr ⟨e, sz, ys, pub, by rw [har k hk]; exact g1, g2⟩
 | fn hn _ ih =>
   refine .fn (by rw [hn, frvL_len]) fun j x v hj hv => ?_
   rw [frvL_at] at hj; obtain ⟨y, h1, rfl⟩ := Option.map_eq_some_iff.1 hj; exact ih j y v h1 hv
 | agg hn h1 _ ih =>
   refine .agg (by rw [hn, frvL_len]) h1 fun j x v hj hv => ?_
   rw [frvL_at] at hj; obtain ⟨y, h1, rfl⟩ := Option.map_eq_some_iff.1 hj; exact ih j y v h1 hv
 | tup hn _ ih =>
   refine .tup (by rw [hn, frvL_len]) fun j x v hj hv => ?_
   rw [frvL_at] at hj; obtain ⟨y, h1, rfl⟩ := Option.map_eq_some_iff.1 hj; exact ih j y v h1 hv
def frvC (id : Nat) (cs : List PV) : C → C
 | .av a => .av (frvA id cs a)
 | c => c
def goneV (id : Nat) : Loc → Bool
 | .arr k => decide (k = id)
 | .var k => decide (k = id)
 | .cell k _ => decide (k = id)
 | .tmp _ => false
theorem lk_frvS : ∀ {l : List (Loc × C)}, okS l = true → ∀ x, lk (frvS id cs l) x = if goneV id x = true then none else (lk l x).map (frvC id cs)
 | [], _, x => by simp [frvS, lk]
 | (k, c) :: r, h, x => by
   cases k with
   | tmp i =>
     cases c <;> simp only [okS, reduceCtorEq] at h <;> try (simp at h; done)
     simp only [frvS, lk, lk_frvS h]
     by_cases hx : x = .tmp i
     · subst hx; simp [frvC, goneV]
     · simp only [hx, if_false]
   | cell i j =>
     cases c <;> simp only [okS, reduceCtorEq] at h <;> try (simp at h; done)
     have ih := lk_frvS (l := r) h x; simp only [frvS, lk]
     by_cases hi : i = id
     · rw [if_pos hi, ih]
       by_cases hx : x = .cell i j
       · subst hx; simp [goneV, hi]
       · simp only [hx, if_false]
     · simp only [hi, if_false, lk, lk_frvS h]
       by_cases hx : x = .cell i j
       · subst hx; simp [frvC, goneV, hi]
       · simp only [hx, if_false]
   | arr i =>
     cases c <;> simp only [okS, reduceCtorEq] at h <;> try (simp at h; done)
     have ih := lk_frvS (l := r) h x; simp only [frvS, lk]
     by_cases hi : i = id
     · rw [if_pos hi, ih]
       by_cases hx : x = .arr i
       · subst hx; simp [goneV, hi]
       · simp only [hx, if_false]
     · simp only [hi, if_false, lk, lk_frvS h]
       by_cases hx : x = .arr i
       · subst hx; simp [frvC, goneV, hi]
       · simp only [hx, if_false]
   | var i =>
     cases c <;> simp only [okS, reduceCtorEq] at h <;> try (simp at h; done)
     have ih := lk_frvS (l := r) h x; simp only [frvS, lk]
     by_cases hi : i = id
     · rw [if_pos hi, ih]
       by_cases hx : x = .var i
       · subst hx; simp [goneV, hi]
       · simp only [hx, if_false]
     · simp only [hi, if_false, lk, lk_frvS h]
       by_cases hx : x = .var i
       · subst hx; simp [frvC, goneV, hi]
       · simp only [hx, if_false]
theorem frv_rel {s0 : List (Loc × C)} (hG : G.t = lk s0) (hr : Rel F G ρ (lk l) a w) (ha : lk l (.var id) ≠ none) (hc : CellsOf (lk l) id cs) (hok : okS l = true) (hH : hasB s0 (frvS id cs l) (ids s0) = true) : Rel F G ρ (lk (frvS id cs l)) a w := by
 have hat := fun x => lk_frvS (id := id) (cs := cs) hok x
 have hvn : ∀ k c, lk l (.var k) = some c → ∃ n, c = .n n := fun k c hk => by obtain ⟨n, _, _, _, q, _⟩ := hr.o.var k c hk; exact ⟨n, q⟩
 have han : ∀ k c, lk l (.arr k) = some c → ∃ e sz xs pub, c = .arr e sz xs pub := fun k c hk => by obtain ⟨e, sz, xs, pub, q, _⟩ := hr.o.arr k c hk; exact ⟨e, sz, xs, pub, q⟩
 have hv : ∀ k, k ≠ id → lk (frvS id cs l) (.var k) = lk l (.var k) := by
   intro k hk; rw [hat, if_neg (by simp [goneV, hk])]
   cases hq : lk l (.var k) with
   | none => rfl
   | some c => obtain ⟨n, rfl⟩ := hvn k c hq; rfl
 have har : ∀ k, k ≠ id → lk (frvS id cs l) (.arr k) = lk l (.arr k) := by
   intro k hk; rw [hat, if_neg (by simp [goneV, hk])]
   cases hq : lk l (.arr k) with
   | none => rfl
   | some c => obtain ⟨e, sz, xs, pub, rfl⟩ := han k c hq; rfl
 have hd : lk (frvS id cs l) (.var id) = none ∧ lk (frvS id cs l) (.arr id) = none := ⟨by rw [hat, if_pos (by simp [goneV])], by rw [hat, if_pos (by simp [goneV])]⟩
 have hu : Under F ρ (lk (frvS id cs l)) (lk l) := by
   refine .mk' ?_ ?_
   · intro k c hk
     by_cases e : k = id
     · subst e; rw [hd.1] at hk; simp at hk
     · rwa [hv k e] at hk
   · intro k c hk
     by_cases e : k = id
     · subst e; rw [hd.2] at hk; simp at hk
     · rwa [har k e] at hk
 have hfz : ∀ {x : AV} {v : Value}, AR F ρ (lk l) w x v → AR F ρ (lk (frvS id cs l)) w (frvA id cs x) v := fun hx => hx.frv hr.o hu ha hc hd hv har
 refine hr.dn ⟨hu, ?_, ?_, (HClosed.of hr.o).drop har hd.2 (.inl (hr.o.excl id ha))⟩ (by rw [hG]; exact hasB_has hH)
 · intro k j c hk
   rw [hat] at hk; split at hk
   · simp at hk
   · rename_i hne
     obtain ⟨c0, h1, rfl⟩ := Option.map_eq_some_iff.1 hk; obtain ⟨x, n, b, u, rfl, h2, h3, h4, h5, h6, h7⟩ := hr.o.cell k j c0 h1; have hne : k ≠ id := by simpa [goneV] using hne
     exact ⟨by rw [hv k hne, h2]; simp, x, frvA id cs x, rfl, h1, fun v hv => hfz hv⟩
 · intro k c hk
   rw [hat, if_neg (by simp [goneV])] at hk
   obtain ⟨c0, h1, rfl⟩ := Option.map_eq_some_iff.1 hk; obtain ⟨x, rfl, _⟩ := hr.tmp k c0 h1; exact ⟨x, frvA id cs x, rfl, h1, fun v hv => hfz hv⟩
theorem fv {s : List (Loc × C)} {c : Code} {ks : List Code} (id n : Nat) {as : List AV} (h : AK P F G (c :: ks) Q l') (hG : G.t = lk s := by assumption) (ha : lk l (.var id) = some (.n n) := by simp [*]) (h1 : Is (getCells (lk l) id 0 n) (some as) := by simp [*]; exact is_rfl _) (h2 : Is (toPVs as) (some cs) := by simp [toPVs, toPV]; exact is_rfl _) (hok : okS l = true := by simp [*]) (hH : hasB s (frvS id cs l) (ids s) = true := by simp [*, frvS, frvA, frvA.frvL])
   (hl : Is (frvS id cs l) l' := by simp [*, frvS, frvA, frvA.frvL]; exact is_rfl _) : AK P F G (c :: ks) Q l := by
 unfold Is at hl h1 h2; subst hl; exact fun ρ a w hr => h ρ a w (frv_rel hG hr (by rw [ha]; simp) (cellsOf_get h1 h2) hok hH)
end
end Go.Flat
