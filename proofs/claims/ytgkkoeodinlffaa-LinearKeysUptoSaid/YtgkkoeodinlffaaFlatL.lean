/-
  Flat, part 25: an own array all of whose elements become public: a slice of it is a stable slice.
-/
import Derived.Test.YtgkkoeodinlffaaFlatJ
set_option linter.unusedVariables false
set_option linter.unusedSimpArgs false
namespace Go.Flat
set_option linter.unusedSimpArgs false
section
variable {P : Program} {F : Nat → Nat → Prop} {G : Start} {ρ : Ren} {t : Sto} {l l' : List (Loc × C)} {a : Act} {w : World}
def pubT (t : Sto) (id e sz : Nat) (xs : List (List PV)) : Sto := upd t (.arr id) (some (.arr e sz xs xs.length))
theorem pub_ext {id e sz pub : Nat} {xs : List (List PV)} (h : RelO F ρ t w) (ha : t (.arr id) = some (.arr e sz xs pub)) : Ext F ρ t w ρ (pubT t id e sz xs) w := by
  have hpl : pub ≤ xs.length := by
    obtain ⟨e', sz', xs', pub', hc, _, h2, _⟩ := h.arr id _ ha
    simp only [C.arr.injEq] at hc
    obtain ⟨rfl, rfl, rfl, rfl⟩ := hc
    exact h2
  have hv : ∀ k, pubT t id e sz xs (.var k) = t (.var k) := fun k => upd_ne _ _ (by simp)
  have hne : ∀ k, k ≠ id → pubT t id e sz xs (.arr k) = t (.arr k) := fun k hk => upd_ne _ _ (by simpa using hk)
  have heq : pubT t id e sz xs (.arr id) = some (.arr e sz xs xs.length) := by simp [pubT]
  refine ⟨rfl, rfl, rfl, Nat.le_refl _, fun k hk => ⟨by rw [hv]; exact hk, rfl⟩, ?_, ?_⟩
  · intro k e2 sz2 ys pub2 hk
    by_cases q : k = id
    · subst q
      rw [ha] at hk
      simp only [Option.some.injEq, C.arr.injEq] at hk
      obtain ⟨rfl, rfl, rfl, rfl⟩ := hk
      exact ⟨_, _, heq, Nat.le_refl _, fun _ => ⟨rfl, fun _ _ _ h => h⟩⟩
    · exact ⟨ys, pub2, by rw [hne k q]; exact hk, Nat.le_refl _, fun _ => ⟨rfl, fun _ _ _ h => h⟩⟩
  · intro b o u hs hc
    refine ⟨hc, hs.1, fun k hk => ?_⟩
    obtain ⟨h1, h2⟩ := hs.2 k hk
    refine ⟨by rw [hv]; exact h1, fun e2 sz2 ys pub2 hq => ?_⟩
    by_cases q : k = id
    · subst q
      rw [heq] at hq
      simp only [Option.some.injEq, C.arr.injEq] at hq
      obtain ⟨rfl, rfl, rfl, rfl⟩ := hq
      exact Nat.lt_of_lt_of_le (h2 _ _ _ _ ha) (Nat.mul_le_mul_right _ hpl)
    · rw [hne k q] at hq
      exact h2 _ _ _ _ hq
theorem pub_relO {id e sz pub : Nat} {xs : List (List PV)} (h : RelO F ρ t w) (ha : t (.arr id) = some (.arr e sz xs pub)) : RelO F ρ (pubT t id e sz xs) w := by
  have hE := pub_ext h ha
  have hv : ∀ k, pubT t id e sz xs (.var k) = t (.var k) := fun k => upd_ne _ _ (by simp)
  have hcl : ∀ k j, pubT t id e sz xs (.cell k j) = t (.cell k j) := fun k j => upd_ne _ _ (by simp)
  have hne : ∀ k, k ≠ id → pubT t id e sz xs (.arr k) = t (.arr k) := fun k hk => upd_ne _ _ (by simpa using hk)
  have heq : pubT t id e sz xs (.arr id) = some (.arr e sz xs xs.length) := by simp [pubT]
  have hlive : ∀ k, live (pubT t id e sz xs) k ↔ live t k := by
    intro k
    by_cases q : k = id
    · subst q; exact ⟨fun _ => .inr (by rw [ha]; simp), fun _ => .inr (by rw [heq]; simp)⟩
    · simp [live, hv, hne k q]
  refine ⟨fun k c hk => h.var k c (by rw [← hv]; exact hk), ?_, ?_, fun k k' b h1 h2 => h.inj k k' b ((hlive k).1 h1) ((hlive k').1 h2), ?_, fun k b o hl => h.apart k b o ((hlive k).1 hl), h.bound⟩
  · intro k j c hk
    rw [hcl] at hk
    obtain ⟨x, n, b, u, rfl, h2, h3, h4, h5, h6, h7⟩ := h.cell k j c hk
    exact ⟨x, n, b, u, rfl, by rw [hv]; exact h2, h3, h4, h5, h6.ext hE, h7⟩
  · intro k c hk
    by_cases q : k = id
    · subst q
      rw [heq] at hk
      simp only [Option.some.injEq] at hk
      subst hk
      obtain ⟨e', sz', xs', pub', hc, h1, h2, h3, h4⟩ := h.arr k _ ha
      simp only [C.arr.injEq] at hc
      obtain ⟨rfl, rfl, rfl, rfl⟩ := hc
      refine ⟨_, _, _, _, rfl, h1, Nat.le_refl _, h3, ?_⟩
      rcases h4 with h4 | ⟨b, cs, h4, h5, h6, h7⟩
      · exact .inl h4
      · exact .inr ⟨b, cs, h4, h5, h6, fun i row hi j x hj => by obtain ⟨u, u1, u2⟩ := h7 i row hi j x hj; exact ⟨u, u1, u2.ext hE⟩⟩
    · rw [hne k q] at hk
      obtain ⟨e', sz', xs', pub', hc, h1, h2, h3, h4⟩ := h.arr k c hk
      refine ⟨e', sz', xs', pub', hc, h1, h2, h3, ?_⟩
      rcases h4 with h4 | ⟨b, cs, h4, h5, h6, h7⟩
      · exact .inl h4
      · exact .inr ⟨b, cs, h4, h5, h6, fun i row hi j x hj => by obtain ⟨u, u1, u2⟩ := h7 i row hi j x hj; exact ⟨u, u1, u2.ext hE⟩⟩
  · intro k hk
    rw [hv] at hk
    have := h.excl k hk
    by_cases q : k = id
    · subst q; rw [ha] at this; simp at this
    · rw [hne k q]; exact this
theorem pub_slice {id e sz pub : Nat} {xs : List (List PV)} {v : Value} (h : RelO F ρ t w) (ha : t (.arr id) = some (.arr e sz xs pub)) (hx : AR F ρ t w (.sl id xs.length 0 xs.length) v) : PR w (Stb F ρ (pubT t id e sz xs)) (.ps xs) v := by
  have hE := pub_ext h ha
  have hv : ∀ k, pubT t id e sz xs (.var k) = t (.var k) := fun k => upd_ne _ _ (by simp)
  have heq : pubT t id e sz xs (.arr id) = some (.arr e sz xs xs.length) := by simp [pubT]
  have hne : ∀ k, k ≠ id → pubT t id e sz xs (.arr k) = t (.arr k) := fun k hk => upd_ne _ _ (by simpa using hk)
  cases hx with
  | sl hx =>
    obtain ⟨e', sz', xs', pub', ha', hL', ad, c, rfl, hq⟩ := hx
    rw [ha] at ha'
    simp only [Option.some.injEq, C.arr.injEq] at ha'
    obtain ⟨rfl, rfl, rfl, rfl⟩ := ha'
    obtain ⟨q1, q2, q4, q3⟩ := hq rfl
    obtain ⟨e2, sz2, xs2, pub2, e3, r1, r2, r3, r4⟩ := h.arr id _ ha
    simp only [C.arr.injEq] at e3
    obtain ⟨rfl, rfl, rfl, rfl⟩ := e3
    have hlv : live t id := .inr (by rw [ha]; simp)
    rcases q3 with rfl | ⟨b, n, g1, g2, g3, g4⟩
    · have : xs = [] := List.eq_nil_of_length_eq_zero (by omega)
      subst this
      exact .nil
    · rcases r4 with ⟨r4, rfl⟩ | ⟨b', cs, r4, r5, r6, r7⟩
      · rw [g1] at r4; simp at r4
      · rw [g1] at r4
        simp only [Option.some.injEq] at r4
        subst r4
        subst g2
        have hcell : ∀ o, w.cell? ⟨b, o, none⟩ = cs[o]? := fun o => cell_of_row w b o cs e (0, 0) r5
        have hbnd : ∀ (i : Nat) (row : List PV), xs[i]? = some row → ∀ (j : Nat) (x : PV), row[j]? = some x → i * sz + j < xs.length * sz := by
          intro i row hi j x hj
          have h1 := (List.getElem?_eq_some_iff.1 hi).1
          have h2 := (List.getElem?_eq_some_iff.1 hj).1
          rw [r3 row (List.mem_of_getElem? hi)] at h2
          have := Nat.mul_le_mul_right sz (show i + 1 ≤ xs.length from h1)
          rw [Nat.add_mul] at this
          omega
        refine PR.ps (w := w) (xs := xs) (b := b) (o := 0 * sz) (c := c) (sz := sz) (fun i j => (cs[i * sz + j]?).getD undef) (by omega) r3 ?_ ?_ ?_
        · intro i row hi j x hj
          obtain ⟨u, u1, u2⟩ := r7 i row hi j x hj
          rw [Nat.zero_mul, Nat.zero_add, hcell, u1]
          rfl
        · intro i row hi j x hj
          rw [Nat.zero_mul, Nat.zero_add]
          refine ⟨h.apart id b _ hlv g1, fun k hk => ?_⟩
          by_cases q : k = id
          · subst q
            refine ⟨?_, fun e2 sz2 ys pub2 hq => ?_⟩
            · rw [hv]
              cases hq : t (.var k) with
              | none => rfl
              | some c0 => have := h.excl k (by rw [hq]; simp); rw [ha] at this; simp at this
            · rw [heq] at hq
              simp only [Option.some.injEq, C.arr.injEq] at hq
              obtain ⟨rfl, rfl, rfl, rfl⟩ := hq
              exact hbnd i row hi j x hj
          · refine ⟨?_, fun e2 sz2 ys pub2 hq => ?_⟩
            · rw [hv]
              cases hq : t (.var k) with
              | none => rfl
              | some c0 => exact absurd (h.inj k id b (.inl (by rw [hq]; simp)) hlv hk g1) q
            · rw [hne k q] at hq
              exact absurd (h.inj k id b (.inr (by rw [hq]; simp)) hlv hk g1) q
        · intro i row hi j x hj
          obtain ⟨u, u1, u2⟩ := r7 i row hi j x hj
          simp only [u1, Option.getD_some]
          exact u2.ext hE
/-- The state behind it. -/
theorem Rel.publish {id e sz pub d : Nat} {xs : List (List PV)} (h : Rel F G ρ t a w) (ha : t (.arr id) = some (.arr e sz xs pub)) (hd : t (.tmp d) = some (.av (.sl id xs.length 0 xs.length))) :
    Rel F G ρ (upd (pubT t id e sz xs) (.tmp d) (some (.av (.p (.ps xs))))) a w := by
  have hE := pub_ext h.o ha
  have hv : ∀ k, upd (pubT t id e sz xs) (.tmp d) (some (.av (.p (.ps xs)))) (.var k) = pubT t id e sz xs (.var k) := fun k => upd_ne _ _ (by simp)
  have har : ∀ k, upd (pubT t id e sz xs) (.tmp d) (some (.av (.p (.ps xs)))) (.arr k) = pubT t id e sz xs (.arr k) := fun k => upd_ne _ _ (by simp)
  have hcl : ∀ k j, upd (pubT t id e sz xs) (.tmp d) (some (.av (.p (.ps xs)))) (.cell k j) = pubT t id e sz xs (.cell k j) := fun k j => upd_ne _ _ (by simp)
  have hE2 : Ext F ρ (pubT t id e sz xs) w ρ (upd (pubT t id e sz xs) (.tmp d) (some (.av (.p (.ps xs))))) w := .tmps hv har
  have hlive : ∀ k, live (upd (pubT t id e sz xs) (.tmp d) (some (.av (.p (.ps xs))))) k ↔ live t k := by
    intro k
    rw [live_congr hv har]
    by_cases q : k = id
    · subst q; exact ⟨fun _ => .inr (by rw [ha]; simp), fun _ => .inr (by simp [pubT])⟩
    · simp [live, pubT, upd_ne, q]
  refine ⟨(pub_relO h.o ha).tmps hv har hcl, ?_, h.siz, h.dfr, (h.ext.trans hE).trans hE2, fun k b hl hb => h.own k b ((hlive k).1 hl) hb, h.frm⟩
  intro k c hk
  by_cases q : k = d
  · subst q
    simp only [upd_same, Option.some.injEq] at hk
    subst hk
    obtain ⟨x, hx, hA⟩ := h.tmp k _ hd
    simp only [C.av.injEq] at hx
    subst hx
    exact ⟨_, rfl, .p ((pub_slice h.o ha hA).ext hE2)⟩
  · rw [upd_ne _ _ (by simpa using q)] at hk
    have hk2 : t (.tmp k) = some c := by rw [← hk]; exact (upd_ne _ _ (by simp)).symm
    obtain ⟨x, hx, hA⟩ := h.tmp k c hk2
    exact ⟨x, hx, (hA.ext hE).ext hE2⟩
theorem opOK_pub {ops : Array Oper} {o : Oper} {R W : Foot} {s s1 s2 : Sto} {id e sz pub d : Nat} {xs : List (List PV)} (h : OpOK P F G ops o R W s s1) (ha : s1 (.arr id) = some (.arr e sz xs pub)) (hd : s1 (.tmp d) = some (.av (.sl id xs.length 0 xs.length)))
    (hW1 : W.hasL (.arr id) = true) (hW2 : W.hasL (.tmp d) = true) (h2 : s2 = upd (pubT s1 id e sz xs) (.tmp d) (some (.av (.p (.ps xs))))) : OpOK P F G ops o R W s s2 := by
  refine ⟨fun x hx => ?_, fun t hag ρ a w hr K Q hK => ?_⟩
  · rw [h2, upd_ne _ _ (by rintro rfl; rw [hW2] at hx; simp at hx), pubT, upd_ne _ _ (by rintro rfl; rw [hW1] at hx; simp at hx)]
    exact h.out x hx
  · refine h.goes t hag ρ a w hr K Q fun ρ' a' w' hr' => hK ρ' a' w' ?_
    have e1 : overF W s1 t (.arr id) = some (.arr e sz xs pub) := by unfold overF; rw [if_pos hW1]; exact ha
    have e2 : overF W s1 t (.tmp d) = some (.av (.sl id xs.length 0 xs.length)) := by unfold overF; rw [if_pos hW2]; exact hd
    have := hr'.publish e1 e2
    have hE : overF W s2 t = upd (pubT (overF W s1 t) id e sz xs) (.tmp d) (some (.av (.p (.ps xs)))) := by
      funext x
      by_cases q1 : x = .tmp d
      · subst q1; unfold overF; rw [if_pos hW2, h2]; simp
      · rw [upd_ne _ _ q1]
        by_cases q2 : x = .arr id
        · subst q2; unfold overF; rw [if_pos hW1, h2, upd_ne _ _ (by simp)]; simp [pubT]
        · rw [pubT, upd_ne _ _ q2]
          unfold overF
          split
          · rw [h2, upd_ne _ _ q1, pubT, upd_ne _ _ q2]
          · rfl
    rw [hE]
    exact this
/-- An append whose outcome is held as a stable slice. -/
theorem dpub {ops : Array Oper} {R : Post} {acc : List (Foot × Foot)} {ft : Foot × Foot} {o : Oper} {rest : List Oper} {n d id e sz pub L : Nat} {xs : List (List PV)} {l1 : List (Loc × C)} (nid : Nat) (h : DGo P F G ops R rest l' (acc ++ [ft])) (hn : G.n = n := by assumption) (hg : guardG ops l o = some true := by simp [*])
    (he : Is (efD (tyOf P) ops (lk l) nid o) (some (⟨.sl id L 0 L, [(.arr id, some (.arr e sz xs pub))]⟩, ft)) := by simp [*]; exact is_rfl _) (hL : L = xs.length := by simp)
    (hdst : o.dst = some d := by rfl) (hd : Is (putL n o.dst (.sl id L 0 L) (insV [(.arr id, some (.arr e sz xs pub))] l)) (some l1) := by simp [*]; exact is_rfl _) (hW1 : ft.2.hasL (.arr id) = true := by rfl) (hW2 : ft.2.hasL (.tmp d) = true := by rfl)
    (hl : Is (ins (.tmp d) (.av (.p (.ps xs))) (ins (.arr id) (.arr e sz xs xs.length) l1)) l' := by simp [*]; exact is_rfl _) : DGo P F G ops R (o :: rest) l acc := by
  subst hL
  obtain ⟨E, Ss, m, g1, g2, g3⟩ := h
  unfold Is efD at he
  split at he <;> try (simp at he; done)
  rename_i f' hf'
  split at he <;> try (simp at he; done)
  rename_i ft' hft
  simp only [Option.some.injEq, Prod.mk.injEq] at he
  obtain ⟨rfl, rfl⟩ := he
  unfold Is at hl hd
  have hok := opOK_feet (F := F) (guardG_eq hg) hf' hft (by rw [hn]; exact hd)
  have hl1 : lk l1 (.arr id) = some (.arr e sz xs pub) ∧ lk l1 (.tmp d) = some (.av (.sl id xs.length 0 xs.length)) := by
    rw [hdst] at hd
    simp only [putL] at hd
    split at hd <;> try (simp at hd; done)
    simp only [Option.some.injEq] at hd
    subst hd
    constructor
    · rw [lk_ins, upd_ne _ _ (by simp), lk_insV]; simp [appU]
    · rw [lk_ins]; simp
  refine ⟨_, _, m, .cons (opOK_pub hok hl1.1 hl1.2 hW1 hW2 (s2 := lk l') ?_) g1, by rw [List.append_assoc] at g2; exact g2, g3⟩
  rw [← hl, lk_ins, lk_ins]
  rfl
end
end Go.Flat
