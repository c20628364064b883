/-
  Flat, part 15c: a variable that is given up: pointers to it are pointers to cells that stay as they are.
  Flat, part 24: a state as a new beginning: what nobody owns there stays.
  Flat, part 25: an own array all of whose elements become public: a slice of it is a stable slice.
  Flat, part 27: a family of own arrays, as a part of a state that has no fixed length.
  Flat, part 28: rules for a family of own arrays.
  Flat, part 29: a function that has one call put off to its end.
-/
import Derived.Test.YtgkkoeodinlffaaFlatD
import Derived.Defers
section
set_option linter.unusedVariables false
set_option linter.unusedSimpArgs false
namespace Go.Flat
set_option linter.unusedSimpArgs false
/-- A value, the variable 'id' given up. -/
def frvA (id : Nat) (cs : List PV) : AV → AV
  | .sl k L off len => if k = id then .any else .sl k L off len
  | .eptr k L i off => if k = id then .any else .eptr k L i off
  | .ptr k off => if k = id then .p (.pp (cs.drop off)) else .ptr k off
  | .fn f c => .fn f (frvL id cs c)
  | .agg c => .agg (frvL id cs c)
  | .tup c => .tup (frvL id cs c)
  | x => x
where frvL (id : Nat) (cs : List PV) : List AV → List AV
  | [] => []
  | a :: r => frvA id cs a :: frvL id cs r
def frvS (id : Nat) (cs : List PV) : List (Loc × C) → List (Loc × C)
  | [] => []
  | (.arr k, c) :: r => if k = id then frvS id cs r else (.arr k, c) :: frvS id cs r
  | (.var k, c) :: r => if k = id then frvS id cs r else (.var k, c) :: frvS id cs r
  | (.tmp k, .av a) :: r => (.tmp k, .av (frvA id cs a)) :: frvS id cs r
  | (.cell k j, .av a) :: r => if k = id then frvS id cs r else (.cell k j, .av (frvA id cs a)) :: frvS id cs r
  | _ :: r => frvS id cs r
section
variable {P : Program} {F : Nat → Nat → Prop} {G : Start} {ρ : Ren} {t s : Sto} {l l' : List (Loc × C)} {a : Act} {w : World} {id : Nat} {cs : List PV} {Q : Post}
end
end Go.Flat
end
section
set_option linter.unusedVariables false
set_option linter.unusedSimpArgs false
namespace Go.Flat
set_option linter.unusedSimpArgs false
section
variable {P : Program} {F : Nat → Nat → Prop} {G : Start} {ρ ρ1 ρ2 : Ren} {t t1 t2 : Sto} {l l' : List (Loc × C)} {a a1 a2 : Act} {w w1 w2 : World} {Q : Post}
theorem Rel.again (h : Rel F G ρ t a w) : Rel F ⟨ρ, t, w, G.n, G.d⟩ ρ t a w := ⟨h.o, h.tmp, h.siz, h.dfr, .refl _ _ _ _, fun id b hl hb => .inl ⟨hl, hb⟩, fun _ _ _ => rfl⟩
/-- A new object that nobody owns. -/
theorem Rel.block (h : Rel F G ρ t a w) (obj : Obj) : Rel F G (onlyLive ρ t) t a (w.alloc obj) ∧ (∀ id, live t id → onlyLive ρ t id ≠ some w.heap.size) ∧ (w.alloc obj).heap[w.heap.size]? = some obj := by
  refine ⟨h.step (.block h.o) h.o.block (fun _ => rfl) (fun id b hl hb => .inl ⟨hl, (onlyLive_some hb).2⟩) (fun b hb _ => heap_alloc_old w obj hb), fun id hl hb => ?_, heap_alloc_new _ _⟩
  have := live_lt h.o hl (onlyLive_some hb).2
  omega
/-- The world has a map that nobody owns. -/
def MapAt (G : Start) (b : Nat) (es : Array MapEntry) : Prop := b < G.w.heap.size ∧ (∀ id, live G.t id → G.ρ id ≠ some b) ∧ ∃ clk, G.w.heap[b]? = some (.map es clk)
theorem MapAt.here {b : Nat} {es : Array MapEntry} (h : MapAt G b es) (hr : Rel F G ρ t a w) : ∃ clk, w.heap[b]? = some (.map es clk) := by
  obtain ⟨h1, h2, clk, h3⟩ := h
  exact ⟨clk, by rw [hr.frm b h1 h2]; exact h3⟩
end
end Go.Flat
end
section
set_option linter.unusedVariables false
set_option linter.unusedSimpArgs false
namespace Go.Flat
set_option linter.unusedSimpArgs false
section
variable {P : Program} {F : Nat → Nat → Prop} {G : Start} {ρ : Ren} {t : Sto} {l l' : List (Loc × C)} {a : Act} {w : World}
def pubT (t : Sto) (id e sz : Nat) (xs : List (List PV)) : Sto := upd t (.arr id) (some (.arr e sz xs xs.length))
theorem pub_ext {id e sz pub : Nat} {xs : List (List PV)} (h : RelO F ρ t w) (ha : t (.arr id) = some (.arr e sz xs pub)) : Ext F ρ t w ρ (pubT t id e sz xs) w := by
  have hpl : pub ≤ xs.length := by
    obtain ⟨e', sz', xs', pub', hc, _, h2, _⟩ := h.arr id _ ha
    simp only [C.arr.injEq] at hc
    obtain ⟨rfl, rfl, rfl, rfl⟩ := hc
    exact h2
  have hv : ∀ k, pubT t id e sz xs (.var k) = t (.var k) := fun k => upd_ne _ _ (by simp)
  have hne : ∀ k, k ≠ id → pubT t id e sz xs (.arr k) = t (.arr k) := fun k hk => upd_ne _ _ (by simpa using hk)
  have heq : pubT t id e sz xs (.arr id) = some (.arr e sz xs xs.length) := by simp [pubT]
  refine ⟨rfl, rfl, rfl, Nat.le_refl _, fun k hk => ⟨by rw [hv]; exact hk, rfl⟩, ?_, ?_⟩
  · intro k e2 sz2 ys pub2 hk
    by_cases q : k = id
    · subst q
      rw [ha] at hk
      simp only [Option.some.injEq, C.arr.injEq] at hk
      obtain ⟨rfl, rfl, rfl, rfl⟩ := hk
      exact ⟨_, _, heq, Nat.le_refl _, fun _ => ⟨rfl, fun _ _ _ h => h⟩⟩
    · exact ⟨ys, pub2, by rw [hne k q]; exact hk, Nat.le_refl _, fun _ => ⟨rfl, fun _ _ _ h => h⟩⟩
  · intro b o u hs hc
    refine ⟨hc, hs.1, fun k hk => ?_⟩
    obtain ⟨h1, h2⟩ := hs.2 k hk
    refine ⟨by rw [hv]; exact h1, fun e2 sz2 ys pub2 hq => ?_⟩
    by_cases q : k = id
    · subst q
      rw [heq] at hq
      simp only [Option.some.injEq, C.arr.injEq] at hq
      obtain ⟨rfl, rfl, rfl, rfl⟩ := hq
      exact Nat.lt_of_lt_of_le (h2 _ _ _ _ ha) (Nat.mul_le_mul_right _ hpl)
    · rw [hne k q] at hq
      exact h2 _ _ _ _ hq
theorem pub_relO {id e sz pub : Nat} {xs : List (List PV)} (h : RelO F ρ t w) (ha : t (.arr id) = some (.arr e sz xs pub)) : RelO F ρ (pubT t id e sz xs) w := by
  have hE := pub_ext h ha
  have hv : ∀ k, pubT t id e sz xs (.var k) = t (.var k) := fun k => upd_ne _ _ (by simp)
  have hcl : ∀ k j, pubT t id e sz xs (.cell k j) = t (.cell k j) := fun k j => upd_ne _ _ (by simp)
  have hne : ∀ k, k ≠ id → pubT t id e sz xs (.arr k) = t (.arr k) := fun k hk => upd_ne _ _ (by simpa using hk)
  have heq : pubT t id e sz xs (.arr id) = some (.arr e sz xs xs.length) := by simp [pubT]
  have hlive : ∀ k, live (pubT t id e sz xs) k ↔ live t k := by
    intro k
    by_cases q : k = id
    · subst q; exact ⟨fun _ => .inr (by rw [ha]; simp), fun _ => .inr (by rw [heq]; simp)⟩
    · simp [live, hv, hne k q]
  refine ⟨fun k c hk => h.var k c (by rw [← hv]; exact hk), ?_, ?_, fun k k' b h1 h2 => h.inj k k' b ((hlive k).1 h1) ((hlive k').1 h2), ?_, fun k b o hl => h.apart k b o ((hlive k).1 hl), h.bound⟩
  · intro k j c hk
    rw [hcl] at hk
    obtain ⟨x, n, b, u, rfl, h2, h3, h4, h5, h6, h7⟩ := h.cell k j c hk
    exact ⟨x, n, b, u, rfl, by rw [hv]; exact h2, h3, h4, h5, h6.ext hE, h7⟩
  · intro k c hk
    by_cases q : k = id
    · subst q
      rw [heq] at hk
      simp only [Option.some.injEq] at hk
      subst hk
      obtain ⟨e', sz', xs', pub', hc, h1, h2, h3, h4⟩ := h.arr k _ ha
      simp only [C.arr.injEq] at hc
      obtain ⟨rfl, rfl, rfl, rfl⟩ := hc
      refine ⟨_, _, _, _, rfl, h1, Nat.le_refl _, h3, ?_⟩
      rcases h4 with h4 | ⟨b, cs, h4, h5, h6, h7⟩
      · exact .inl h4
      · exact .inr ⟨b, cs, h4, h5, h6, fun i row hi j x hj => by obtain ⟨u, u1, u2⟩ := h7 i row hi j x hj; exact ⟨u, u1, u2.ext hE⟩⟩
    · rw [hne k q] at hk
      obtain ⟨e', sz', xs', pub', hc, h1, h2, h3, h4⟩ := h.arr k c hk
      refine ⟨e', sz', xs', pub', hc, h1, h2, h3, ?_⟩
      rcases h4 with h4 | ⟨b, cs, h4, h5, h6, h7⟩
      · exact .inl h4
      · exact .inr ⟨b, cs, h4, h5, h6, fun i row hi j x hj => by obtain ⟨u, u1, u2⟩ := h7 i row hi j x hj; exact ⟨u, u1, u2.ext hE⟩⟩
  · intro k hk
    rw [hv] at hk
    have := h.excl k hk
    by_cases q : k = id
    · subst q; rw [ha] at this; simp at this
    · rw [hne k q]; exact this
theorem pub_slice {id e sz pub : Nat} {xs : List (List PV)} {v : Value} (h : RelO F ρ t w) (ha : t (.arr id) = some (.arr e sz xs pub)) (hx : AR F ρ t w (.sl id xs.length 0 xs.length) v) (hid : id < 4294967296) : PR w (Stb F ρ (pubT t id e sz xs)) (.ps xs) v := by
  have hE := pub_ext h ha
  have hv : ∀ k, pubT t id e sz xs (.var k) = t (.var k) := fun k => upd_ne _ _ (by simp)
  have heq : pubT t id e sz xs (.arr id) = some (.arr e sz xs xs.length) := by simp [pubT]
  have hne : ∀ k, k ≠ id → pubT t id e sz xs (.arr k) = t (.arr k) := fun k hk => upd_ne _ _ (by simpa using hk)
  cases hx with
  | sl hx =>
    obtain ⟨e', sz', xs', pub', ha', hL', ad, c, rfl, hq⟩ := hx
    rw [ha] at ha'
    simp only [Option.some.injEq, C.arr.injEq] at ha'
    obtain ⟨rfl, rfl, rfl, rfl⟩ := ha'
    obtain ⟨q1, q2, q4, q3⟩ := hq rfl
    obtain ⟨e2, sz2, xs2, pub2, e3, r1, r2, r3, r4⟩ := h.arr id _ ha
    simp only [C.arr.injEq] at e3
    obtain ⟨rfl, rfl, rfl, rfl⟩ := e3
    have hlv : live t id := .inr (by rw [ha]; simp)
    rcases q3 with rfl | ⟨b, n, g1, g2, g3, g4⟩
    · have : xs = [] := List.eq_nil_of_length_eq_zero (by omega)
      subst this
      exact .nil
    · rcases r4 with ⟨r4, rfl⟩ | ⟨b', cs, r4, r5, r6, r7⟩
      · rw [g1] at r4; simp at r4
      · rw [g1] at r4
        simp only [Option.some.injEq] at r4
        subst r4
        subst g2
        have hcell : ∀ o, w.cell? ⟨b, o, none⟩ = cs[o]? := fun o => cell_of_row w b o cs e (0, 0) r5
        have hbnd : ∀ (i : Nat) (row : List PV), xs[i]? = some row → ∀ (j : Nat) (x : PV), row[j]? = some x → i * sz + j < xs.length * sz := by
          intro i row hi j x hj
          have h1 := (List.getElem?_eq_some_iff.1 hi).1
          have h2 := (List.getElem?_eq_some_iff.1 hj).1
          rw [r3 row (List.mem_of_getElem? hi)] at h2
          have := Nat.mul_le_mul_right sz (show i + 1 ≤ xs.length from h1)
          rw [Nat.add_mul] at this
          omega
        refine PR.ps (w := w) (xs := xs) (b := b) (o := 0 * sz) (c := c) (sz := sz) (fun i j => (cs[i * sz + j]?).getD undef) (by omega) r3 ?_ ?_ ?_
        · intro i row hi j x hj
          obtain ⟨u, u1, u2⟩ := r7 i row hi j x hj
          rw [Nat.zero_mul, Nat.zero_add, hcell, u1]
          rfl
        · intro i row hi j x hj
          rw [Nat.zero_mul, Nat.zero_add]
          refine ⟨h.apart id b _ hlv g1, fun k hk => ?_⟩
          by_cases q : k = id
          · subst q
            refine ⟨?_, fun e2 sz2 ys pub2 hq => ?_⟩
            · rw [hv]
              cases hq : t (.var k) with
              | none => rfl
              | some c0 => have := h.excl k (by rw [hq]; simp); rw [ha] at this; simp at this
            · rw [heq] at hq
              simp only [Option.some.injEq, C.arr.injEq] at hq
              obtain ⟨rfl, rfl, rfl, rfl⟩ := hq
              exact hbnd i row hi j x hj
          · refine ⟨?_, fun e2 sz2 ys pub2 hq => ?_⟩
            · rw [hv]
              cases hq : t (.var k) with
              | none => rfl
              | some c0 => exact absurd (h.inj k id b (.inl (by rw [hq]; simp)) hlv hk g1) q
            · rw [hne k q] at hq
              exact absurd (h.inj k id b (.inr (by rw [hq]; simp)) hlv hk g1) q
        · intro i row hi j x hj
          obtain ⟨u, u1, u2⟩ := r7 i row hi j x hj
          simp only [u1, Option.getD_some]
          exact (u2.pr (by omega)).ext hE
/-- The state behind it. -/
theorem Rel.publish {id e sz pub d : Nat} {xs : List (List PV)} (h : Rel F G ρ t a w) (ha : t (.arr id) = some (.arr e sz xs pub)) (hd : t (.tmp d) = some (.av (.sl id xs.length 0 xs.length))) (hid : id < 4294967296) :
    Rel F G ρ (upd (pubT t id e sz xs) (.tmp d) (some (.av (.p (.ps xs))))) a w := by
  have hE := pub_ext h.o ha
  have hv : ∀ k, upd (pubT t id e sz xs) (.tmp d) (some (.av (.p (.ps xs)))) (.var k) = pubT t id e sz xs (.var k) := fun k => upd_ne _ _ (by simp)
  have har : ∀ k, upd (pubT t id e sz xs) (.tmp d) (some (.av (.p (.ps xs)))) (.arr k) = pubT t id e sz xs (.arr k) := fun k => upd_ne _ _ (by simp)
  have hcl : ∀ k j, upd (pubT t id e sz xs) (.tmp d) (some (.av (.p (.ps xs)))) (.cell k j) = pubT t id e sz xs (.cell k j) := fun k j => upd_ne _ _ (by simp)
  have hE2 : Ext F ρ (pubT t id e sz xs) w ρ (upd (pubT t id e sz xs) (.tmp d) (some (.av (.p (.ps xs))))) w := .tmps hv har
  have hlive : ∀ k, live (upd (pubT t id e sz xs) (.tmp d) (some (.av (.p (.ps xs))))) k ↔ live t k := by
    intro k
    rw [live_congr hv har]
    by_cases q : k = id
    · subst q; exact ⟨fun _ => .inr (by rw [ha]; simp), fun _ => .inr (by simp [pubT])⟩
    · simp [live, pubT, upd_ne, q]
  refine ⟨(pub_relO h.o ha).tmps hv har hcl, ?_, h.siz, h.dfr, (h.ext.trans hE).trans hE2, fun k b hl hb => h.own k b ((hlive k).1 hl) hb, h.frm⟩
  intro k c hk
  by_cases q : k = d
  · subst q
    simp only [upd_same, Option.some.injEq] at hk
    subst hk
    obtain ⟨x, hx, hA⟩ := h.tmp k _ hd
    simp only [C.av.injEq] at hx
    subst hx
    exact ⟨_, rfl, .p ((pub_slice h.o ha hA hid).ext hE2)⟩
  · rw [upd_ne _ _ (by simpa using q)] at hk
    have hk2 : t (.tmp k) = some c := by rw [← hk]; exact (upd_ne _ _ (by simp)).symm
    obtain ⟨x, hx, hA⟩ := h.tmp k c hk2
    exact ⟨x, hx, (hA.ext hE).ext hE2⟩
theorem opOK_pub {ops : Array Oper} {o : Oper} {R W : Foot} {s s1 s2 : Sto} {id e sz pub d : Nat} {xs : List (List PV)} (h : OpOK P F G ops o R W s s1) (ha : s1 (.arr id) = some (.arr e sz xs pub)) (hd : s1 (.tmp d) = some (.av (.sl id xs.length 0 xs.length)))
    (hid : id < 4294967296) (hW1 : W.hasL (.arr id) = true) (hW2 : W.hasL (.tmp d) = true) (h2 : s2 = upd (pubT s1 id e sz xs) (.tmp d) (some (.av (.p (.ps xs))))) : OpOK P F G ops o R W s s2 := by
  refine ⟨fun x hx => ?_, fun t hag ρ a w hr K Q hK => ?_⟩
  · rw [h2, upd_ne _ _ (by rintro rfl; rw [hW2] at hx; simp at hx), pubT, upd_ne _ _ (by rintro rfl; rw [hW1] at hx; simp at hx)]
    exact h.out x hx
  · refine h.goes t hag ρ a w hr K Q fun ρ' a' w' hr' => hK ρ' a' w' ?_
    have e1 : overF W s1 t (.arr id) = some (.arr e sz xs pub) := by unfold overF; rw [if_pos hW1]; exact ha
    have e2 : overF W s1 t (.tmp d) = some (.av (.sl id xs.length 0 xs.length)) := by unfold overF; rw [if_pos hW2]; exact hd
    have := hr'.publish e1 e2 hid
    have hE : overF W s2 t = upd (pubT (overF W s1 t) id e sz xs) (.tmp d) (some (.av (.p (.ps xs)))) := by
      funext x
      by_cases q1 : x = .tmp d
      · subst q1; unfold overF; rw [if_pos hW2, h2]; simp
      · rw [upd_ne _ _ q1]
        by_cases q2 : x = .arr id
        · subst q2; unfold overF; rw [if_pos hW1, h2, upd_ne _ _ (by simp)]; simp [pubT]
        · rw [pubT, upd_ne _ _ q2]
          unfold overF
          split
          · rw [h2, upd_ne _ _ q1, pubT, upd_ne _ _ q2]
          · rfl
    rw [hE]
    exact this
/-- An append whose outcome is held as a stable slice. -/
theorem dpub {ops : Array Oper} {R : Post} {acc : List (Foot × Foot)} {ft : Foot × Foot} {o : Oper} {rest : List Oper} {n d id e sz pub L : Nat} {xs : List (List PV)} {l1 : List (Loc × C)} (nid : Nat) (h : DGo P F G ops R rest l' (acc ++ [ft])) (hn : G.n = n := by assumption) (hg : guardG ops l o = some true := by simp [*])
    (he : Is (efD (tyOf P) ops (lk l) nid o) (some (⟨.sl id L 0 L, [(.arr id, some (.arr e sz xs pub))]⟩, ft)) := by simp [*]; exact is_rfl _) (hL : L = xs.length := by simp)
    (hdst : o.dst = some d := by rfl) (hd : Is (putL n o.dst (.sl id L 0 L) (insV [(.arr id, some (.arr e sz xs pub))] l)) (some l1) := by simp [*]; exact is_rfl _) (hW1 : ft.2.hasL (.arr id) = true := by rfl) (hW2 : ft.2.hasL (.tmp d) = true := by rfl)
    (hl : Is (ins (.tmp d) (.av (.p (.ps xs))) (ins (.arr id) (.arr e sz xs xs.length) l1)) l' := by simp [*]; exact is_rfl _) (hid : id < 4294967296 := by decide) : DGo P F G ops R (o :: rest) l acc := by
  subst hL
  obtain ⟨E, Ss, m, g1, g2, g3⟩ := h
  unfold Is efD at he
  split at he <;> try (simp at he; done)
  rename_i f' hf'
  split at he <;> try (simp at he; done)
  rename_i ft' hft
  simp only [Option.some.injEq, Prod.mk.injEq] at he
  obtain ⟨rfl, rfl⟩ := he
  unfold Is at hl hd
  have hok := opOK_feet (F := F) (guardG_eq hg) hf' hft (by rw [hn]; exact hd)
  have hl1 : lk l1 (.arr id) = some (.arr e sz xs pub) ∧ lk l1 (.tmp d) = some (.av (.sl id xs.length 0 xs.length)) := by
    rw [hdst] at hd
    simp only [putL] at hd
    split at hd <;> try (simp at hd; done)
    simp only [Option.some.injEq] at hd
    subst hd
    constructor
    · rw [lk_ins, upd_ne _ _ (by simp), lk_insV]; simp [appU]
    · rw [lk_ins]; simp
  refine ⟨_, _, m, .cons (opOK_pub hok hl1.1 hl1.2 hid hW1 hW2 (s2 := lk l') ?_) g1, by rw [List.append_assoc] at g2; exact g2, g3⟩
  rw [← hl, lk_ins, lk_ins]
  rfl
end
end Go.Flat
end
section
set_option linter.unusedVariables false
set_option linter.unusedSimpArgs false
namespace Go.Flat
set_option linter.unusedSimpArgs false
/-- The number of the k-th own array of the family. -/
def fid (k : Nat) : Nat := 8589934592 + k
@[simp] theorem fid_lt {k n : Nat} (h : n ≤ 8589934592) : (fid k < n) = False := by simp [fid]; omega
@[simp] theorem fid_le {k n : Nat} (h : n ≤ 8589934592) : (n ≤ fid k) = True := by simp [fid]; omega
@[simp] theorem fid_inj {j k : Nat} : (fid j = fid k) = (j = k) := by simp [fid]
@[simp] theorem fid_ne {k n : Nat} (h : n < 8589934592) : (fid k = n) = False := by simp [fid]; omega
@[simp] theorem ne_fid {k n : Nat} (h : n < 8589934592) : (n = fid k) = False := by simp [fid]; omega
/-- The family, ahead of the rest of a state. -/
def famC (e sz : Nat) : Nat → List (List (List PV)) → List (Loc × C) → List (Loc × C)
  | _, [], r => r
  | k, xs :: tbl, r => (.arr (fid k), .arr e sz xs 0) :: famC e sz (k + 1) tbl r
def fids : Nat → Nat → List Nat
  | _, 0 => []
  | k, n + 1 => fid k :: fids (k + 1) n
section
variable {e sz : Nat}
@[simp] theorem famC_nil {k : Nat} {r : List (Loc × C)} : famC e sz k [] r = r := rfl
theorem mem_fids {x : Nat} : ∀ {n k : Nat}, x ∈ fids k n ↔ ∃ j, k ≤ j ∧ j < k + n ∧ x = fid j
  | 0, k => by simp [fids]; intro j h1 h2; omega
  | n + 1, k => by
    simp only [fids, List.mem_cons, mem_fids (n := n)]
    constructor
    · rintro (rfl | ⟨j, h1, h2, h3⟩)
      · exact ⟨k, Nat.le_refl _, by omega, rfl⟩
      · exact ⟨j, by omega, by omega, h3⟩
    · rintro ⟨j, h1, h2, h3⟩
      by_cases h : j = k
      · exact .inl (by rw [h3, h])
      · exact .inr ⟨j, by omega, by omega, h3⟩
@[simp] theorem memN_fid {j n : Nat} {b : List Nat} : memN (fid j) (fids 0 n ++ b) = (decide (j < n) || memN (fid j) b) := by
  rw [Bool.eq_iff_iff]
  simp only [memN_iff, List.mem_append, mem_fids, Bool.or_eq_true, decide_eq_true_eq, fid_inj]
  constructor
  · rintro (⟨q, _, h2, rfl⟩ | h)
    · exact .inl (by omega)
    · exact .inr h
  · rintro (h | h)
    · exact .inl ⟨j, by omega, by omega, rfl⟩
    · exact .inr h
@[simp] theorem memN_lit {k x n : Nat} {b : List Nat} (h : x < 8589934592) : memN x (fids k n ++ b) = memN x b := by
  rw [Bool.eq_iff_iff]
  simp only [memN_iff, List.mem_append, mem_fids]
  constructor
  · rintro (⟨q, _, _, rfl⟩ | h')
    · simp at h
    · exact h'
  · exact fun h => .inr h
@[simp] theorem memN_fid' {j n : Nat} : memN (fid j) (fids 0 n) = decide (j < n) := by
  have := memN_fid (j := j) (n := n) (b := [])
  rw [List.append_nil] at this
  rw [this]; simp [memN]
@[simp] theorem memN_lit' {k x n : Nat} (h : x < 8589934592) : memN x (fids k n) = false := by
  have := memN_lit (k := k) (n := n) (b := []) h
  rw [List.append_nil] at this
  rw [this]; rfl
theorem lk_famC : ∀ (tbl : List (List (List PV))) (k : Nat) (r : List (Loc × C)) (j : Nat), lk (famC e sz k tbl r) (.arr (fid j)) = if k ≤ j ∧ j < k + tbl.length then some (.arr e sz (tbl.getD (j - k) []) 0) else lk r (.arr (fid j))
  | [], k, r, j => by
    rw [if_neg]
    · rfl
    · simp only [List.length_nil]; omega
  | xs :: tbl, k, r, j => by
    simp only [famC, lk, Loc.arr.injEq, fid_inj, lk_famC tbl, List.length_cons]
    by_cases h : j = k
    · subst h
      rw [if_pos rfl, if_pos (by omega)]
      simp
    · rw [if_neg h]
      by_cases h2 : k + 1 ≤ j ∧ j < k + 1 + tbl.length
      · rw [if_pos h2, if_pos (by omega), show j - k = (j - (k + 1)) + 1 by omega]
        simp
      · rw [if_neg h2, if_neg (by omega)]
theorem lk_fam_other : ∀ (tbl : List (List (List PV))) (k : Nat) (r : List (Loc × C)) (x : Loc), (∀ j, x ≠ .arr (fid j)) → lk (famC e sz k tbl r) x = lk r x
  | [], _, _, _, _ => rfl
  | _ :: tbl, k, r, x, h => by
    simp only [famC, lk]
    rw [if_neg (h k)]
    exact lk_fam_other tbl _ r x h
variable {k : Nat} {tbl : List (List (List PV))} {r : List (Loc × C)}
@[simp] theorem lk_fam0 {j : Nat} : lk (famC e sz 0 tbl r) (.arr (fid j)) = if j < tbl.length then some (.arr e sz (tbl.getD j []) 0) else lk r (.arr (fid j)) := by
  rw [lk_famC]; simp
@[simp] theorem lk_fam_tmp {i : Nat} : lk (famC e sz k tbl r) (.tmp i) = lk r (.tmp i) := lk_fam_other _ _ _ _ (by simp)
@[simp] theorem lk_fam_cell {i j : Nat} : lk (famC e sz k tbl r) (.cell i j) = lk r (.cell i j) := lk_fam_other _ _ _ _ (by simp)
@[simp] theorem lk_fam_var {i : Nat} : lk (famC e sz k tbl r) (.var i) = lk r (.var i) := lk_fam_other _ _ _ _ (by simp)
@[simp] theorem lk_fam_lit {i : Nat} (h : i < 8589934592) : lk (famC e sz k tbl r) (.arr i) = lk r (.arr i) := lk_fam_other _ _ _ _ (by simp [h])
theorem ins_fam_other {x : Loc} {c : C} : ∀ {tbl : List (List (List PV))} {k : Nat}, (∀ j, x ≠ .arr (fid j)) → ins x c (famC e sz k tbl r) = famC e sz k tbl (ins x c r)
  | [], _, _ => rfl
  | _ :: tbl, k, h => by
    simp only [famC, ins]
    rw [if_neg (h k), ins_fam_other h]
@[simp] theorem ins_fam_tmp {i : Nat} {c : C} : ins (.tmp i) c (famC e sz k tbl r) = famC e sz k tbl (ins (.tmp i) c r) := ins_fam_other (by simp)
@[simp] theorem ins_fam_cell {i j : Nat} {c : C} : ins (.cell i j) c (famC e sz k tbl r) = famC e sz k tbl (ins (.cell i j) c r) := ins_fam_other (by simp)
@[simp] theorem ins_fam_var {i : Nat} {c : C} : ins (.var i) c (famC e sz k tbl r) = famC e sz k tbl (ins (.var i) c r) := ins_fam_other (by simp)
@[simp] theorem ins_fam_lit {i : Nat} {c : C} (h : i < 8589934592) : ins (.arr i) c (famC e sz k tbl r) = famC e sz k tbl (ins (.arr i) c r) := ins_fam_other (by simp [h])
theorem ins_famC {xs : List (List PV)} : ∀ {tbl : List (List (List PV))} {k j : Nat}, k ≤ j → j < k + tbl.length → ins (.arr (fid j)) (.arr e sz xs 0) (famC e sz k tbl r) = famC e sz k (tbl.set (j - k) xs) r
  | [], k, j, h1, h2 => by simp only [List.length_nil] at h2; omega
  | ys :: tbl, k, j, h1, h2 => by
    simp only [famC, ins, Loc.arr.injEq, fid_inj]
    by_cases h : j = k
    · subst h
      simp [famC]
    · rw [if_neg h, ins_famC (by omega) (by simp only [List.length_cons] at h2; omega), show j - k = (j - (k + 1)) + 1 by omega]
      simp [famC]
@[simp] theorem ins_fam_at {xs : List (List PV)} {j : Nat} (h : j < tbl.length) : ins (.arr (fid j)) (.arr e sz xs 0) (famC e sz 0 tbl r) = famC e sz 0 (tbl.set j xs) r := by
  rw [ins_famC (by omega) (by omega)]; simp
@[simp] theorem keepT_fam {ks : List Nat} : ∀ {tbl : List (List (List PV))} {k : Nat}, keepT ks (famC e sz k tbl r) = famC e sz k tbl (keepT ks r)
  | [], _ => rfl
  | _ :: tbl, k => by simp only [famC, keepT, keepT_fam]
@[simp] theorem noTmp_fam : ∀ {tbl : List (List (List PV))} {k : Nat}, noTmp (famC e sz k tbl r) = noTmp r
  | [], _ => rfl
  | _ :: tbl, k => by simp only [famC, noTmp, noTmp_fam]
@[simp] theorem okS_fam : ∀ {tbl : List (List (List PV))} {k : Nat}, okS (famC e sz k tbl r) = okS r
  | [], _ => rfl
  | _ :: tbl, k => by simp only [famC, okS, okS_fam]
theorem famOK_fid {s : List (Loc × C)} {j : Nat} {xs : List (List PV)} : famOK s (fid j) xs = true := by simp [famOK]
@[simp] theorem closedIn_famC {s : List (Loc × C)} : ∀ {tbl : List (List (List PV))} {k : Nat}, closedIn s (famC e sz k tbl r) = closedIn s r
  | [], _ => rfl
  | _ :: tbl, k => by simp only [famC, closedIn, closedIn_famC, famOK_fid, Bool.true_and]
@[simp] theorem ownB_famC {s : List (Loc × C)} : ∀ {tbl : List (List (List PV))} {k : Nat}, ownB s (famC e sz k tbl r) = ownB s r
  | [], _ => rfl
  | _ :: tbl, k => by simp only [famC, ownB, ownB_famC, famOK_fid, Bool.true_and]
@[simp] theorem ids_fam : ∀ {tbl : List (List (List PV))} {k : Nat}, ids (famC e sz k tbl r) = fids k tbl.length ++ ids r
  | [], _ => rfl
  | _ :: tbl, k => by simp only [famC, ids, ids_fam, List.length_cons, fids, List.cons_append]
@[simp] theorem app_fam {m : List (Loc × C)} : ∀ {tbl : List (List (List PV))} {k : Nat}, app (famC e sz k tbl r) m = famC e sz k tbl (app r m)
  | [], _ => rfl
  | _ :: tbl, k => by simp only [famC, app, app_fam]
@[simp] theorem frzS_fam {id : Nat} {xs : List (List PV)} (h : id < 8589934592) : ∀ {tbl : List (List (List PV))} {k : Nat}, frzS id xs (famC e sz k tbl r) = famC e sz k tbl (frzS id xs r)
  | [], _ => rfl
  | _ :: tbl, k => by
    simp only [famC, frzS]
    rw [if_neg (by simp [h]), frzS_fam h]
@[simp] theorem frvS_fam {id : Nat} {cs : List PV} (h : id < 8589934592) : ∀ {tbl : List (List (List PV))} {k : Nat}, frvS id cs (famC e sz k tbl r) = famC e sz k tbl (frvS id cs r)
  | [], _ => rfl
  | _ :: tbl, k => by
    simp only [famC, frvS]
    rw [if_neg (by simp [h]), frvS_fam h]

@[simp] theorem famOK_append {s : List (Loc × C)} {i : Nat} {xs ys : List (List PV)} : famOK s i (xs ++ ys) = (famOK s i xs && famOK s i ys) := by
  simp only [famOK, List.all_append]
  cases decide (i < 4294967296) <;> cases decide (8589934592 ≤ i) <;> simp
@[simp] theorem famOK_one {s : List (Loc × C)} {i : Nat} {row : List PV} : famOK s i [row] = (decide (i < 4294967296) || (decide (8589934592 ≤ i) || row.all fun x => match x with
    | .han k _ _ _ => (lk s (.arr k)).isSome
    | _ => true)) := by
  simp only [famOK, List.all_cons, List.all_nil, Bool.and_true]
  rfl

/-! ### parts of states -/
/-- The state has the family. -/
def FamAt (l : List (Loc × C)) (e sz k : Nat) (tbl : List (List (List PV))) : Prop := ∀ j, j < tbl.length → lk l (.arr (fid (k + j))) = some (.arr e sz (tbl.getD j []) 0)
theorem famAt_cons {l : List (Loc × C)} {xs : List (List PV)} : FamAt l e sz k (xs :: tbl) ↔ lk l (.arr (fid k)) = some (.arr e sz xs 0) ∧ FamAt l e sz (k + 1) tbl := by
  constructor
  · intro h
    refine ⟨by simpa using h 0 (by simp), fun j hj => ?_⟩
    have := h (j + 1) (by simp [hj])
    rw [show k + 1 + j = k + (j + 1) by omega]
    simpa using this
  · rintro ⟨h1, h2⟩ j hj
    cases j with
    | zero => simpa using h1
    | succ j =>
      have := h2 j (by simpa using hj)
      rw [show k + (j + 1) = k + 1 + j by omega]
      simpa using this
theorem famAt_skip {l : List (Loc × C)} {x : Loc} {c : C} (h : ∀ j, x ≠ .arr (fid j)) : FamAt ((x, c) :: l) e sz k tbl = FamAt l e sz k tbl := by
  simp only [FamAt, lk]
  refine forall_congr fun j => forall_congr fun _ => ?_
  rw [if_neg (Ne.symm (h _))]
@[simp] theorem famAt_tmp {l : List (Loc × C)} {i : Nat} {c : C} : FamAt ((.tmp i, c) :: l) e sz k tbl = FamAt l e sz k tbl := famAt_skip (by simp)
@[simp] theorem famAt_cell {l : List (Loc × C)} {i j : Nat} {c : C} : FamAt ((.cell i j, c) :: l) e sz k tbl = FamAt l e sz k tbl := famAt_skip (by simp)
@[simp] theorem famAt_var {l : List (Loc × C)} {i : Nat} {c : C} : FamAt ((.var i, c) :: l) e sz k tbl = FamAt l e sz k tbl := famAt_skip (by simp)
@[simp] theorem famAt_lit {l : List (Loc × C)} {i : Nat} {c : C} (h : i < 8589934592) : FamAt ((.arr i, c) :: l) e sz k tbl = FamAt l e sz k tbl := famAt_skip (by simp [h])
@[simp] theorem famAt_self : FamAt (famC e sz 0 tbl r) e sz 0 tbl = True := by
  simp only [eq_iff_iff, iff_true]
  intro j hj
  rw [Nat.zero_add, lk_fam0, if_pos hj]
@[simp] theorem PartOf_fam {l : List (Loc × C)} : ∀ {tbl : List (List (List PV))} {k : Nat}, PartOf l (famC e sz k tbl r) = (FamAt l e sz k tbl ∧ PartOf l r)
  | [], k => by simp [FamAt]
  | xs :: tbl, k => by simp only [famC, PartOf, PartOf_fam, famAt_cons, and_assoc]
@[simp] theorem LiesAt_fam {l : List (Loc × C)} : ∀ {tbl : List (List (List PV))} {k : Nat}, LiesAt id l (famC e sz k tbl r) = (FamAt l e sz k tbl ∧ LiesAt id l r)
  | [], k => by simp [FamAt]
  | xs :: tbl, k => by simp only [famC, LiesAt, LiesAt_fam, famAt_cons, and_assoc, renLoc, renC, id_eq]
/-- The state has so many of the family. -/
def FamGe (l : List (Loc × C)) (n : Nat) : Prop := ∀ j, j < n → lk l (.arr (fid j)) ≠ none
theorem famGe_skip {l : List (Loc × C)} {x : Loc} {c : C} {n : Nat} (h : ∀ j, x ≠ .arr (fid j)) : FamGe ((x, c) :: l) n = FamGe l n := by
  simp only [FamGe, lk]
  refine forall_congr fun j => forall_congr fun _ => ?_
  rw [if_neg (Ne.symm (h _))]
@[simp] theorem famGe_tmp {l : List (Loc × C)} {i n : Nat} {c : C} : FamGe ((.tmp i, c) :: l) n = FamGe l n := famGe_skip (by simp)
@[simp] theorem famGe_cell {l : List (Loc × C)} {i j n : Nat} {c : C} : FamGe ((.cell i j, c) :: l) n = FamGe l n := famGe_skip (by simp)
@[simp] theorem famGe_var {l : List (Loc × C)} {i n : Nat} {c : C} : FamGe ((.var i, c) :: l) n = FamGe l n := famGe_skip (by simp)
@[simp] theorem famGe_lit {l : List (Loc × C)} {i n : Nat} {c : C} (h : i < 8589934592) : FamGe ((.arr i, c) :: l) n = FamGe l n := famGe_skip (by simp [h])
@[simp] theorem famGe_fam {n : Nat} (h : n ≤ tbl.length) : FamGe (famC e sz 0 tbl r) n = True := by
  simp only [eq_iff_iff, iff_true]
  intro j hj
  rw [lk_fam0, if_pos (by omega)]
  simp
theorem hasB_append {s l : List (Loc × C)} : ∀ {a b : List Nat}, hasB s l (a ++ b) = (hasB s l a && hasB s l b)
  | [], b => by simp [hasB]
  | k :: a, b => by simp only [List.cons_append, hasB, hasB_append, Bool.and_assoc]
theorem hasB_all {s l : List (Loc × C)} : ∀ {a : List Nat}, (∀ k ∈ a, lk s (.var k) = none ∧ lk l (.arr k) ≠ none) → hasB s l a = true
  | [], _ => rfl
  | k :: a, h => by
    obtain ⟨h1, h2⟩ := h k (by simp)
    rw [← Option.isSome_iff_ne_none] at h2
    have ih : hasB s l a = true := hasB_all fun j hj => h j (by simp [hj])
    simp [hasB, h1, h2, ih]
@[simp] theorem hasB_fids {s l : List (Loc × C)} {n : Nat} {b : List Nat} (hv : ∀ j, lk s (.var (fid j)) = none) (hg : FamGe l n) : hasB s l (fids 0 n ++ b) = hasB s l b := by
  rw [hasB_append, hasB_all, Bool.true_and]
  intro k hk
  obtain ⟨j, _, h2, rfl⟩ := mem_fids.1 hk
  exact ⟨hv j, hg j (by omega)⟩
@[simp] theorem hasB_fids' {s l : List (Loc × C)} {n : Nat} (hv : ∀ j, lk s (.var (fid j)) = none) (hg : FamGe l n) : hasB s l (fids 0 n) = true := by
  have := hasB_fids (b := []) hv hg
  rw [List.append_nil] at this
  rw [this]; rfl
/-- Numbers that have so many of the family among them. -/
def CovN (b : List Nat) (n : Nat) : Prop := ∀ j, j < n → memN (fid j) b = true
@[simp] theorem covN_cons {i n : Nat} {b : List Nat} (h : i < 8589934592) : CovN (i :: b) n = CovN b n := by simp [CovN, memN, h]
@[simp] theorem covN_fids {m n : Nat} {b : List Nat} (h : n ≤ m) : CovN (fids 0 m ++ b) n = True := by
  simp only [eq_iff_iff, iff_true]
  intro j hj
  have : j < m := by omega
  simp [this]
@[simp] theorem covN_fids' {m n : Nat} (h : n ≤ m) : CovN (fids 0 m) n = True := by
  have := covN_fids (b := []) h
  rwa [List.append_nil] at this
theorem dropIds_famC {bad : List Nat} : ∀ {tbl : List (List (List PV))} {k : Nat}, (∀ j, k ≤ j → j < k + tbl.length → memN (fid j) bad = true) → dropIds bad (famC e sz k tbl r) = dropIds bad r
  | [], _, _ => rfl
  | _ :: tbl, k, h => by
    simp only [famC, dropIds, locId]
    rw [if_pos (h k (Nat.le_refl _) (by simp)), dropIds_famC fun j h1 h2 => h j (by omega) (by simp only [List.length_cons]; omega)]
@[simp] theorem dropIds_fam {bad : List Nat} (h : CovN bad tbl.length) : dropIds bad (famC e sz 0 tbl r) = dropIds bad r := dropIds_famC fun j _ h2 => h j (by omega)
theorem dropIds_keep' {bad : List Nat} (h : ∀ j, memN (fid j) bad = false) : ∀ {tbl : List (List (List PV))} {k : Nat}, dropIds bad (famC e sz k tbl r) = famC e sz k tbl (dropIds bad r)
  | [], _ => rfl
  | _ :: tbl, k => by
    simp only [famC, dropIds, locId, h, dropIds_keep' h]
    simp
/-- None of the family is among these numbers. -/
def NoFam (bad : List Nat) : Prop := ∀ j, memN (fid j) bad = false
@[simp] theorem noFam_nil : NoFam [] = True := by simp [NoFam, memN]
@[simp] theorem noFam_cons {i : Nat} {b : List Nat} (h : i < 8589934592) : NoFam (i :: b) = NoFam b := by simp [NoFam, memN, h]
@[simp] theorem dropIds_keep {bad : List Nat} (h : NoFam bad) : dropIds bad (famC e sz k tbl r) = famC e sz k tbl (dropIds bad r) := dropIds_keep' h

/-! ### calls that turn no number -/
theorem renA_id (a : AV) : renA id a = a := by
  induction a using AV.rec (motive_2 := fun l => renA.renL id l = l) with
  | nil => rfl
  | cons a r h1 h2 => simp only [renA.renL, h1, h2]
  | fn _ _ h => simp only [renA, h]
  | agg _ h => simp only [renA, h]
  | tup _ h => simp only [renA, h]
  | _ => rfl
theorem renL_id : ∀ l : List AV, renA.renL id l = l
  | [] => rfl
  | a :: r => by simp only [renA.renL, renA_id, renL_id r]
theorem renS_id : ∀ s : List (Loc × C), renS id s = s
  | [] => rfl
  | (k, c) :: r => by
    have h1 : renLoc id k = k := by cases k <;> rfl
    have h2 : renC id c = c := by cases c <;> simp [renC, renA_id]
    simp only [renS, h1, h2, renS_id r]
theorem backL_id (s' l : List (Loc × C)) : backL id s' l = app s' (dropIds (ids s') l) := by simp [backL, renS_id]
theorem injB_id : ∀ l : List Nat, injB id l = true
  | [] => rfl
  | k :: r => by
    simp only [injB, injB_id r, Bool.and_true, Bool.and_eq_true, List.all_eq_true, bigB, id_eq, Bool.or_eq_true, bne_iff_ne, beq_iff_eq]
    exact ⟨fun j _ => by by_cases h : k = j <;> simp [h], .inr (by simp)⟩
theorem freshB_append {ι : Nat → Nat} {s l : List (Loc × C)} : ∀ {a b : List Nat}, freshB ι s l (a ++ b) = (freshB ι s l a && freshB ι s l b)
  | [], b => by simp [freshB]
  | k :: a, b => by simp only [List.cons_append, freshB, freshB_append, Bool.and_assoc]
theorem freshB_all {s l : List (Loc × C)} : ∀ {a : List Nat}, (∀ k ∈ a, memN k (ids s) = true ∨ (lk l (.var k) = none ∧ lk l (.arr k) = none)) → freshB id s l a = true
  | [], _ => rfl
  | k :: a, h => by
    simp only [freshB, Bool.and_eq_true, Bool.or_eq_true, id_eq, Option.isNone_iff_eq_none]
    exact ⟨h k (by simp), freshB_all fun j hj => h j (by simp [hj])⟩
/-- Whatever the first state has not of the family is new in the second one. -/
def FamNew (s l : List (Loc × C)) : Prop := ∀ j, ¬ memN (fid j) (ids s) = true → lk l (.var (fid j)) = none ∧ lk l (.arr (fid j)) = none
@[simp] theorem famNew_eq {s l : List (Loc × C)} : FamNew s l = (∀ j, ¬ memN (fid j) (ids s) = true → lk l (.var (fid j)) = none ∧ lk l (.arr (fid j)) = none) := propext Iff.rfl
@[simp] theorem freshB_fids {s l : List (Loc × C)} {n : Nat} {b : List Nat} (h : FamNew s l) : freshB id s l (fids 0 n ++ b) = freshB id s l b := by
  rw [freshB_append, freshB_all, Bool.true_and]
  intro k hk
  obtain ⟨j, _, h2, rfl⟩ := mem_fids.1 hk
  by_cases hm : memN (fid j) (ids s) = true
  · exact .inl hm
  · exact .inr (h j hm)
@[simp] theorem freshB_fids' {s l : List (Loc × C)} {n : Nat} (h : FamNew s l) : freshB id s l (fids 0 n) = true := by
  have := freshB_fids (n := n) (b := []) h
  rw [List.append_nil] at this
  rw [this]; rfl
/-- What is to be seen at a call that turns no number. -/
theorem callI {args : List AV} {s s' l : List (Loc × C)} (h : (noTmp s && noTmp s' && ownB s s && ownB s' s' && refsAll (isSomeV s) args) = true) (hf : freshB id s l (ids s') = true) : callB id args s s' l = true := by
  simp only [Bool.and_eq_true] at h
  obtain ⟨⟨⟨⟨h1, h2⟩, h3⟩, h4⟩, h5⟩ := h
  simp [callB, h1, h2, h3, h4, h5, hf, injB_id]
end
end Go.Flat
end
section
set_option linter.unusedVariables false
set_option linter.unusedSimpArgs false
namespace Go.Flat
set_option linter.unusedSimpArgs false
section
variable {P : Program} {F : Nat → Nat → Prop} {G : Start} {ρ : Ren} {t : Sto} {l l' : List (Loc × C)} {a : Act} {w : World} {Q : Post}
/-- A call that turns no number. -/
theorem ocI {ops : Array Oper} {R : Post} {o : Oper} {rest : List Oper} {n : Nat} {fo : Operand} {ar : Array Operand} {tys : Array TypeId} {k : Nat} {cap xs cargs : List AV} {s s' : List (Loc × C)} {res : AV} (hS : Sp P k cargs s res s') (h : AOps P F G ops R rest l') (hn : G.n = n := by assumption) (hop : o.op = .call { callee := .value fo, args := ar, argTypes := tys } := by rfl) (hg : guardL ops l o = some true := by simp [*]) (hf : Is (ev (lk l) fo) (some (.fn (.func k) cap)) := by simp [*]; exact is_rfl _) (hx : Is (evs (lk l) ar.toList) (some xs) := by simp [*]; exact is_rfl _) (hargs : leA.leL (xs ++ cap) cargs := by simp [*] <;> (repeat' (first | exact rfl | constructor)))
    (hC : (noTmp s && noTmp s' && ownB s s && ownB s' s' && refsAll (isSomeV s) cargs) = true := by simp [*]) (hF : freshB id s l (ids s') = true := by simp [*]) (hL : LiesAt id l s := by simp [*]) (hd : Is (putL n o.dst res (app s' (dropIds (ids s') l))) (some l') := by simp [*]; exact is_rfl _) : AOps P F G ops R (o :: rest) l :=
  o_call hn id hop hg hf hx hS.en hS.sp (by rw [renL_id]; exact hargs) (callI hC hF) hL (by rw [renA_id, backL_id]; exact hd) h
theorem dcI {ops : Array Oper} {R : Post} {acc : List (Foot × Foot)} {o : Oper} {rest : List Oper} {n : Nat} {fo : Operand} {ar : Array Operand} {tys : Array TypeId} {k : Nat} {cap xs cargs : List AV} {s s' : List (Loc × C)} {res : AV} (hS : Sp P k cargs s res s') (h : DGo P F G ops R rest l' (acc ++ [(callR ops o (fo :: ar.toList) id s s', callW o id s')])) (hn : G.n = n := by assumption) (hop : o.op = .call { callee := .value fo, args := ar, argTypes := tys } := by rfl) (hg : guardL ops l o = some true := by simp [*]) (hf : Is (ev (lk l) fo) (some (.fn (.func k) cap)) := by simp [*]; exact is_rfl _) (hx : Is (evs (lk l) ar.toList) (some xs) := by simp [*]; exact is_rfl _) (hargs : leA.leL (xs ++ cap) cargs := by simp [*] <;> (repeat' (first | exact rfl | constructor)))
    (hC : (noTmp s && noTmp s' && ownB s s && ownB s' s' && refsAll (isSomeV s) cargs) = true := by simp [*]) (hF : freshB id s l (ids s') = true := by simp [*]) (hL : LiesAt id l s := by simp [*]) (hd : Is (putL n o.dst res (app s' (dropIds (ids s') l))) (some l') := by simp [*]; exact is_rfl _) : DGo P F G ops R (o :: rest) l acc :=
  d_call hn id hop hg hf hx hS.en hS.sp (by rw [renL_id]; exact hargs) (callI hC hF) hL (by rw [renA_id, backL_id]; exact hd) h

/-! ### values told otherwise -/
/-- A value is told otherwise. -/
theorem chg_rel {x : Loc} {y y' : AV} (hr : Rel F G ρ (lk l) a w) (hx : lk l x = some (.av y)) (hl : ∀ k, x ≠ .var k ∧ x ≠ .arr k) (hy : ∀ v, AR F ρ (lk l) w y v → AR F ρ (lk l) w y' v) : Rel F G ρ (lk (ins x (.av y') l)) a w := by
  rw [lk_ins]
  have hv : ∀ k, upd (lk l) x (some (.av y')) (.var k) = lk l (.var k) := fun k => upd_ne _ _ (hl k).1.symm
  have ha : ∀ k, upd (lk l) x (some (.av y')) (.arr k) = lk l (.arr k) := fun k => upd_ne _ _ (hl k).2.symm
  have hE : Ext F ρ (lk l) w ρ (upd (lk l) x (some (.av y'))) w := .tmps hv ha
  refine ⟨⟨?_, ?_, ?_, ?_, ?_, ?_, hr.o.bound⟩, ?_, hr.siz, hr.dfr, hr.ext.trans hE, ?_, hr.frm⟩
  · intro k c hk; rw [hv] at hk; exact hr.o.var k c hk
  · intro k j c hk
    by_cases e : (Loc.cell k j) = x
    · rw [e, upd_same] at hk
      simp only [Option.some.injEq] at hk
      subst hk
      obtain ⟨z, n, b, u, h1, h2, h3, h4, h5, h6, h7⟩ := hr.o.cell k j _ (by rw [e]; exact hx)
      simp only [C.av.injEq] at h1
      subst h1
      exact ⟨y', n, b, u, rfl, by rw [hv]; exact h2, h3, h4, h5, (hy u h6).ext hE, h7⟩
    · rw [upd_ne _ _ e] at hk
      obtain ⟨z, n, b, u, h1, h2, h3, h4, h5, h6, h7⟩ := hr.o.cell k j c hk
      exact ⟨z, n, b, u, h1, by rw [hv]; exact h2, h3, h4, h5, h6.ext hE, h7⟩
  · intro k c hk
    rw [ha] at hk
    obtain ⟨e, sz, xs, pub, rfl, q1, q2, q3, q4⟩ := hr.o.arr k c hk
    refine ⟨e, sz, xs, pub, rfl, q1, q2, q3, ?_⟩
    rcases q4 with q4 | ⟨b, cs, q4, q5, q6, q7⟩
    · exact .inl q4
    · exact .inr ⟨b, cs, q4, q5, q6, fun i row hi j x hj => by obtain ⟨u, u1, u2⟩ := q7 i row hi j x hj; exact ⟨u, u1, u2.ext hE⟩⟩
  · intro k k' b h1 h2; rw [live_congr hv ha] at h1 h2; exact hr.o.inj k k' b h1 h2
  · intro k h1; rw [hv] at h1; rw [ha]; exact hr.o.excl k h1
  · intro k b o h1; rw [live_congr hv ha] at h1; exact hr.o.apart k b o h1
  · intro k c hk
    by_cases e : (Loc.tmp k) = x
    · rw [e, upd_same] at hk
      simp only [Option.some.injEq] at hk
      subst hk
      obtain ⟨z, h1, h2⟩ := hr.tmp k _ (by rw [e]; exact hx)
      simp only [C.av.injEq] at h1
      subst h1
      exact ⟨y', rfl, (hy _ h2).ext hE⟩
    · rw [upd_ne _ _ e] at hk
      obtain ⟨z, h1, h2⟩ := hr.tmp k c hk
      exact ⟨z, h1, h2.ext hE⟩
  · intro k b h1; rw [live_congr hv ha] at h1; exact hr.own k b h1
theorem psf_nil_inv {v : Value} (h : AR F ρ t w (.psf []) v) : ∃ ad, v = .slice ad 0 0 := by
  cases h with
  | psf hp =>
    rename_i ad n
    have : ∀ {ad : Option Addr} {n : Nat}, PR w (Stb F ρ t) (.ps []) (.slice ad n n) → n = 0 := by
      intro ad n hp
      generalize hv : Value.slice ad n n = v at hp
      generalize hq : PV.ps [] = q at hp
      cases hp with
      | v _ => simp at hq
      | pz => simp at hq
      | nil => simp at hv; omega
      | ps _ _ _ _ _ _ =>
        simp only [PV.ps.injEq] at hq
        subst hq
        simp at hv
        omega
      | pp _ _ _ _ => simp at hq
    have := this hp
    subst this
    exact ⟨ad, rfl⟩
/-- A slice of nothing, with room for nothing. -/
theorem zz {c : Code} {cs : List Code} (x : Loc) (h : AK P F G (c :: cs) Q l') (hx : lk l x = some (.av (.psf [])) := by simp [*]) (hl : ∀ k, x ≠ .var k ∧ x ≠ .arr k := by simp) (hl2 : Is (ins x (.av (.p .pz)) l) l' := by simp [*]; exact is_rfl _) : AK P F G (c :: cs) Q l := by
  unfold Is at hl2
  subst hl2
  refine fun ρ a w hr => h ρ a w (chg_rel hr hx hl fun v hv => ?_)
  obtain ⟨ad, rfl⟩ := psf_nil_inv hv
  exact .p .pz

/-! ### elements told otherwise -/
/-- An element of an own array is told otherwise. -/
theorem rows_rel {id e sz pub : Nat} {xs ys : List (List PV)} (hr : Rel F G ρ t a w) (ha : t (.arr id) = some (.arr e sz xs pub)) (hl : ys.length = xs.length)
    (hrow : ∀ (i : Nat) (r s : List PV), xs[i]? = some r → ys[i]? = some s → s.length = r.length ∧ ∀ (j : Nat) (x y : PV), r[j]? = some x → s[j]? = some y → ∀ u, PQ F ρ t w id x u → PQ F ρ t w id y u) :
    Rel F G ρ (upd t (.arr id) (some (.arr e sz ys pub))) a w := by
  generalize ht' : upd t (.arr id) (some (.arr e sz ys pub)) = t'
  have hat : ∀ x, x ≠ .arr id → t' x = t x := fun x hx => by rw [← ht']; exact upd_ne _ _ hx
  have hid : t' (.arr id) = some (.arr e sz ys pub) := by rw [← ht']; simp
  have hv : ∀ k, t' (.var k) = t (.var k) := fun k => hat _ (by simp)
  have hlive : ∀ q, live t' q ↔ live t q := by
    intro q
    by_cases hq : q = id
    · subst hq; exact ⟨fun _ => .inr (by rw [ha]; simp), fun _ => .inr (by rw [hid]; simp)⟩
    · simp [live, hv, hat (.arr q) (by simp [hq])]
  have hE : Ext F ρ t w ρ t' w := by
    refine ⟨rfl, rfl, rfl, Nat.le_refl _, fun k hk => ⟨by rw [hv]; exact hk, rfl⟩, ?_, ?_⟩
    · intro k e2 sz2 xs2 pub2 hk
      by_cases q : k = id
      · subst q
        rw [ha] at hk
        simp only [Option.some.injEq, C.arr.injEq] at hk
        obtain ⟨rfl, rfl, rfl, rfl⟩ := hk
        exact ⟨ys, _, hid, by omega, fun _ => ⟨rfl, fun _ _ _ h => h⟩⟩
      · exact ⟨xs2, pub2, by rw [hat _ (by simp [q])]; exact hk, Nat.le_refl _, fun _ => ⟨rfl, fun _ _ _ h => h⟩⟩
    · intro b o u hs hc
      refine ⟨hc, hs.1, fun k hk => ?_⟩
      obtain ⟨h1, h2⟩ := hs.2 k hk
      refine ⟨by rw [hv]; exact h1, fun e2 sz2 zs pub2 hq => ?_⟩
      by_cases q : k = id
      · subst q
        rw [hid] at hq
        simp only [Option.some.injEq, C.arr.injEq] at hq
        obtain ⟨rfl, rfl, rfl, rfl⟩ := hq
        exact h2 _ _ _ _ ha
      · rw [hat _ (by simp [q])] at hq
        exact h2 _ _ _ _ hq
  refine hr.step hE ⟨?_, ?_, ?_, ?_, ?_, ?_, hr.o.bound⟩ (fun k => hat _ (by simp)) (fun k b hk hb => .inl ⟨(hlive k).1 hk, hb⟩) (fun b hb _ => rfl)
  · intro k c hk; rw [hv] at hk; exact hr.o.var k c hk
  · intro k j c hk
    rw [hat _ (by simp)] at hk
    obtain ⟨z, n, b, u, h1, h2, h3, h4, h5, h6, h7⟩ := hr.o.cell k j c hk
    exact ⟨z, n, b, u, h1, by rw [hv]; exact h2, h3, h4, h5, h6.ext hE, h7⟩
  · intro k c hk
    by_cases q : k = id
    · subst q
      rw [hid] at hk
      simp only [Option.some.injEq] at hk
      subst hk
      obtain ⟨e2, sz2, xs2, pub2, hc, q1, q2, q3, q4⟩ := hr.o.arr k _ ha
      simp only [C.arr.injEq] at hc
      obtain ⟨rfl, rfl, rfl, rfl⟩ := hc
      have hget : ∀ {i : Nat} {s : List PV}, ys[i]? = some s → ∃ r, xs[i]? = some r := by
        intro i s hi
        have := (List.getElem?_eq_some_iff.1 hi).1
        exact ⟨xs[i], by simp [← hl, this]⟩
      refine ⟨e, sz, ys, pub, rfl, q1, by omega, ?_, ?_⟩
      · intro s hs
        obtain ⟨i, hi⟩ := List.mem_iff_getElem?.1 hs
        obtain ⟨r, hr'⟩ := hget hi
        rw [(hrow i r s hr' hi).1]
        exact q3 r (List.mem_of_getElem? hr')
      · rcases q4 with ⟨q4, rfl⟩ | ⟨b, cs, q4, q5, q6, q7⟩
        · exact .inl ⟨q4, List.eq_nil_of_length_eq_zero (by simpa using hl)⟩
        · refine .inr ⟨b, cs, q4, q5, by rw [hl]; exact q6, fun i s hi j y hj => ?_⟩
          obtain ⟨r, hr'⟩ := hget hi
          obtain ⟨g1, g2⟩ := hrow i r s hr' hi
          have hjr : j < r.length := by have := (List.getElem?_eq_some_iff.1 hj).1; omega
          obtain ⟨u, u1, u2⟩ := q7 i r hr' j r[j] (by simp [hjr])
          exact ⟨u, u1, (g2 j r[j] y (by simp [hjr]) hj u u2).ext hE⟩
    · rw [hat _ (by simp [q])] at hk
      obtain ⟨e2, sz2, xs2, pub2, rfl, q1, q2, q3, q4⟩ := hr.o.arr k c hk
      refine ⟨e2, sz2, xs2, pub2, rfl, q1, q2, q3, ?_⟩
      rcases q4 with q4 | ⟨b, cs, q4, q5, q6, q7⟩
      · exact .inl q4
      · exact .inr ⟨b, cs, q4, q5, q6, fun i row hi j x hj => by obtain ⟨u, u1, u2⟩ := q7 i row hi j x hj; exact ⟨u, u1, u2.ext hE⟩⟩
  · intro k k' b h1 h2; rw [hlive] at h1 h2; exact hr.o.inj k k' b h1 h2
  · intro k h1
    rw [hv] at h1
    have := hr.o.excl k h1
    by_cases q : k = id
    · subst q; rw [ha] at this; simp at this
    · rw [hat _ (by simp [q])]; exact this
  · intro k b o h1; rw [hlive] at h1; exact hr.o.apart k b o h1
/-- An element that is a slice of nothing gets an own array. -/
theorem hz_rel {W e sz pub k j f e2 sz2 : Nat} {xs : List (List PV)} (hr : Rel F G ρ t a w) (ha : t (.arr W) = some (.arr e sz xs pub)) (hW : 4294967296 ≤ W ∧ W < 8589934592) (hx : (xs.getD k [])[j]? = some .pz)
    (h1 : t (.var f) = none) (h2 : t (.arr f) = none) (hf : 8589934592 ≤ f) (hs : 0 < sz2) :
    ∃ ρ', Rel F G ρ' (upd (upd t (.arr f) (some (.arr e2 sz2 [] 0))) (.arr W) (some (.arr e sz (xs.set k ((xs.getD k []).set j (.han f 0 0 0))) pub))) a w := by
  obtain ⟨g1, _⟩ := newNone (e := e2) (sz := sz2) hr h1 h2 hs
  generalize (fun k => if k = f then none else ρ k : Ren) = ρ' at g1
  have e1 : appU [(.arr f, some (.arr e2 sz2 [] 0))] t = upd t (.arr f) (some (.arr e2 sz2 [] 0)) := rfl
  rw [e1] at g1
  refine ⟨ρ', rows_rel g1 (xs := xs) (by rw [upd_ne _ _ (by simp only [ne_eq, Loc.arr.injEq]; omega)]; exact ha) (by simp) ?_⟩
  intro i r s hi hs'
  by_cases hik : i = k
  · subst hik
    have hlt : i < xs.length := (List.getElem?_eq_some_iff.1 hi).1
    rw [List.getElem?_set_self hlt] at hs'
    simp only [Option.some.injEq] at hs'
    have hr' : xs.getD i [] = r := by simp [List.getD, hi]
    rw [hr'] at hs' hx
    subst hs'
    refine ⟨by simp, fun q x y hx' hy' u hu => ?_⟩
    by_cases hq : q = j
    · subst hq
      have hl : q < r.length := (List.getElem?_eq_some_iff.1 hx).1
      rw [List.getElem?_set_self hl] at hy'
      simp only [Option.some.injEq] at hy'
      subst hy'
      rw [hx] at hx'
      simp only [Option.some.injEq] at hx'
      subst hx'
      rcases hu with hu | ⟨_, _, _, _, _, hh, _⟩
      · cases hu with
        | pz => exact .inr ⟨hW, f, 0, 0, 0, rfl, hf, e2, sz2, [], 0, by simp, by simp, _, 0, rfl, fun _ => ⟨by simp, by simp, by simp, .inl rfl⟩⟩
      · simp at hh
    · rw [List.getElem?_set_ne (Ne.symm hq), hx'] at hy'
      simp only [Option.some.injEq] at hy'
      subst hy'
      exact hu
  · rw [List.getElem?_set_ne (Ne.symm hik), hi] at hs'
    simp only [Option.some.injEq] at hs'
    subst hs'
    exact ⟨rfl, fun q x y hx' hy' u hu => by rw [hx'] at hy'; simp only [Option.some.injEq] at hy'; subst hy'; exact hu⟩

theorem lk_famC_snoc {e sz : Nat} {xs : List (List PV)} {r : List (Loc × C)} : ∀ {tbl : List (List (List PV))} {k : Nat}, lk (famC e sz k (tbl ++ [xs]) r) = upd (lk (famC e sz k tbl r)) (.arr (fid (k + tbl.length))) (some (.arr e sz xs 0))
  | [], k => by
    funext x
    simp only [List.nil_append, famC, lk, upd, List.length_nil, Nat.add_zero]
  | ys :: tbl, k => by
    funext x
    simp only [List.cons_append, famC, lk, lk_famC_snoc, upd, List.length_cons]
    by_cases h : x = .arr (fid k)
    · subst h
      have hne : ¬ (k = k + 1 + tbl.length) := by omega
      have hne2 : ¬ (k = k + (tbl.length + 1)) := by omega
      simp [hne, hne2]
    · rw [if_neg h, if_neg h, show k + 1 + tbl.length = k + (tbl.length + 1) by omega]
theorem app_eq : ∀ a b : List (Loc × C), app a b = a ++ b
  | [], _ => rfl
  | p :: a, b => by simp [app, app_eq a b]
/-- An element that is a slice of nothing gets an own array of the family. -/
theorem hz {c : Code} {cs : List Code} (m W k j : Nat) {e sz pub e2 sz2 : Nat} {xs : List (List PV)} {tbl : List (List (List PV))} {r : List (Loc × C)} (h : AK P F G (c :: cs) Q l') (hm : Is (l.drop m) (famC e2 sz2 0 tbl r) := by exact is_rfl _)
    (ha : Is (lk l (.arr W)) (some (.arr e sz xs pub)) := by simp [*]; exact is_rfl _) (hx : (xs.getD k [])[j]? = some .pz := by simp [*]) (hf : fresh (lk l) (fid tbl.length) = true := by simp [*]) (hs : 0 < sz2 := by decide) (hW : 4294967296 ≤ W ∧ W < 8589934592 := by decide)
    (hl : Is (ins (.arr W) (.arr e sz (xs.set k ((xs.getD k []).set j (.han (fid tbl.length) 0 0 0))) pub) (app (l.take m) (famC e2 sz2 0 (tbl ++ [[]]) r))) l' := by simp [*]; exact is_rfl _) : AK P F G (c :: cs) Q l := by
  unfold Is at hl hm ha
  subst hl
  refine fun ρ a w hr => ?_
  obtain ⟨h1, h2⟩ := fresh_inv hf
  obtain ⟨ρ', g⟩ := hz_rel (e2 := e2) (sz2 := sz2) hr ha hW hx h1 h2 (by simp) hs
  refine h ρ' a w ?_
  rw [lk_ins]
  have he : lk (app (l.take m) (famC e2 sz2 0 (tbl ++ [[]]) r)) = upd (lk l) (.arr (fid tbl.length)) (some (.arr e2 sz2 [] 0)) := by
    have hl : lk l = lk (app (l.take m) (famC e2 sz2 0 tbl r)) := by rw [← hm, app_eq, List.take_append_drop]
    rw [hl] at h2 ⊢
    funext x
    rw [lk_app] at h2 ⊢
    simp only [upd]
    rw [lk_famC_snoc, Nat.zero_add, lk_app]
    by_cases hx : x = .arr (fid tbl.length)
    · subst hx
      rw [if_pos rfl]
      split at h2
      · simp at h2
      · simp
    · rw [if_neg hx]
      simp only [upd, hx, if_false]
  rw [he]
  exact g

/-! ### giving up an array with its family -/
/-- What becomes of an element. -/
def FrzE (t : Sto) (x y : PV) : Prop := ((∀ k L o n, x ≠ .han k L o n) ∧ y = x) ∨ ∃ k L e sz xs pub, x = .han k L 0 L ∧ 8589934592 ≤ k ∧ t (.arr k) = some (.arr e sz xs pub) ∧ L = xs.length ∧ y = .ps xs
def FrzRows (t : Sto) (xs zs : List (List PV)) : Prop := zs.length = xs.length ∧ ∀ (i : Nat) (r s : List PV), xs[i]? = some r → zs[i]? = some s → s.length = r.length ∧ ∀ (j : Nat) (x y : PV), r[j]? = some x → s[j]? = some y → FrzE t x y
theorem frzW {s t : Sto} (ht : RelO F ρ t w) (hs : ∀ k, s (.var k) = none ∧ s (.arr k) = none) {W e sz pub : Nat} {xs zs : List (List PV)} {v : Value} (hx : AR F ρ t w (.sl W xs.length 0 xs.length) v) (ha : t (.arr W) = some (.arr e sz xs pub)) (hz : FrzRows t xs zs) :
    PR w (Stb F ρ s) (.ps zs) v := by
  have h : Under F ρ s t := .mk' (fun k c hk => by rw [(hs k).1] at hk; simp at hk) (fun k c hk => by rw [(hs k).2] at hk; simp at hk)
  obtain ⟨hzl, hzr⟩ := hz
  cases hx with
  | sl hx =>
    obtain ⟨e', sz', xs', pub', ha', hL', ad, c, rfl, hq⟩ := hx
    rw [ha] at ha'
    simp only [Option.some.injEq, C.arr.injEq] at ha'
    obtain ⟨rfl, rfl, rfl, rfl⟩ := ha'
    obtain ⟨q1, q2, q4, q3⟩ := hq rfl
    obtain ⟨e2, sz2, xs2, pub2, e3, r1, r2, r3, r4⟩ := ht.arr W _ ha
    simp only [C.arr.injEq] at e3
    obtain ⟨rfl, rfl, rfl, rfl⟩ := e3
    rcases q3 with rfl | ⟨b, n, g1, g2, g3, g4⟩
    · have h0 : xs.length = 0 := by omega
      have : zs = [] := List.eq_nil_of_length_eq_zero (by omega)
      subst this
      rw [h0]
      exact .nil
    · rcases r4 with ⟨r4, rfl⟩ | ⟨b', cs, r4, r5, r6, r7⟩
      · rw [g1] at r4; simp at r4
      · rw [g1] at r4
        simp only [Option.some.injEq] at r4
        subst r4
        subst g2
        have hcell : ∀ o, w.cell? ⟨b, o, none⟩ = cs[o]? := fun o => cell_of_row w b o cs e (0, 0) r5
        have hget : ∀ {i : Nat} {s : List PV}, zs[i]? = some s → ∃ r, xs[i]? = some r ∧ s.length = r.length := by
          intro i s hi
          have := (List.getElem?_eq_some_iff.1 hi).1
          have hx : xs[i]? = some (xs[i]'(by omega)) := by simp [← hzl, this]
          exact ⟨_, hx, (hzr i _ s hx hi).1⟩
        have hkey : ∀ (i : Nat) (s' : List PV), zs[i]? = some s' → ∀ (j : Nat) (y : PV), s'[j]? = some y → ∃ u, cs[i * sz + j]? = some u ∧ PR w (Stb F ρ s) y u := by
          intro i s' hi j y hj
          obtain ⟨r, hr, hl⟩ := hget hi
          have hjl : j < r.length := by have := (List.getElem?_eq_some_iff.1 hj).1; omega
          obtain ⟨u, u1, u2⟩ := r7 i r hr j r[j] (by simp [hjl])
          refine ⟨u, u1, ?_⟩
          have hE := (hzr i r s' hr hi).2 j r[j] y (by simp [hjl]) hj
          rcases u2 with u2 | ⟨_, k, L, o, n, hh, hk, hsl⟩
          · rcases hE with ⟨_, rfl⟩ | ⟨k, L, e1, sz1, ys, pub1, hh, _⟩
            · exact u2.under h
            · rw [hh] at u2; cases u2
          · rcases hE with ⟨hn, _⟩ | ⟨k', L', e1, sz1, ys, pub1, hh', hk', hak, hL, rfl⟩
            · exact absurd hh (hn k L o n)
            · rw [hh] at hh'
              simp only [PV.han.injEq] at hh'
              obtain ⟨rfl, rfl, rfl, rfl⟩ := hh'
              have := frz_slice ht h (.sl hsl) hak hL (hs k) (by omega)
              rw [hL] at this
              simpa using this
        have := PR.ps (w := w) (S := Stb F ρ s) (xs := zs) (b := b) (o := 0 * sz) (c := c) (sz := sz) (fun i j => (cs[i * sz + j]?).getD undef) (by omega)
          (fun row hrow => ?_) ?_ ?_ ?_
        · rw [hzl] at this
          exact this
        · obtain ⟨i, hi⟩ := List.mem_iff_getElem?.1 hrow
          obtain ⟨r, hr, hl⟩ := hget hi
          rw [hl]
          exact r3 r (List.mem_of_getElem? hr)
        · intro i row hi j x hj
          obtain ⟨u, u1, u2⟩ := hkey i row hi j x hj
          rw [hcell, Nat.zero_mul, Nat.zero_add, u1]; rfl
        · intro i row hi j x hj
          exact ⟨ht.apart W b _ (.inr (by rw [ha]; simp)) g1, fun k _ => ⟨(hs k).1, fun e1 s1 x1 p1 hq => by rw [(hs k).2] at hq; simp at hq⟩⟩
        · intro i row hi j x hj
          obtain ⟨u, u1, u2⟩ := hkey i row hi j x hj
          rw [u1]
          exact u2
theorem refs_mono {p q : Nat → Bool} (h : ∀ k, p k = true → q k = true) (a : AV) (hr : refs p a = true) : refs q a = true := by
  revert hr
  induction a using AV.rec (motive_2 := fun l => refs.refsL p l = true → refs.refsL q l = true) with
  | nil => simp [refs.refsL]
  | cons a r h1 h2 =>
    rename_i g
    simp only [refs.refsL, Bool.and_eq_true] at g ⊢
    exact ⟨h1 g.1, h2 g.2⟩
  | fn _ _ ih => simpa only [refs] using ih
  | agg _ ih => simpa only [refs] using ih
  | tup _ ih => simpa only [refs] using ih
  | ptr id _ => simpa only [refs] using h id
  | sl id _ _ _ => simpa only [refs] using h id
  | eptr id _ _ _ => simpa only [refs] using h id
  | _ => simp [refs]
/-- What is kept where all objects are given up. -/
def FwOK (l : List (Loc × C)) (W L : Nat) (zs : List (List PV)) : List (Loc × C) → Prop
  | [] => True
  | (.tmp k, .av y) :: r => ((lk l (.tmp k) = some (.av (.sl W L 0 L)) ∧ y = .p (.ps zs)) ∨ (lk l (.tmp k) = some (.av y) ∧ refs (fun _ => false) y = true)) ∧ FwOK l W L zs r
  | _ => False
theorem FwOK_spec {W L : Nat} {zs : List (List PV)} : ∀ {new : List (Loc × C)}, FwOK l W L zs new → (∀ x c, lk new x = some c → ∃ k y, x = .tmp k ∧ c = .av y ∧ ((lk l (.tmp k) = some (.av (.sl W L 0 L)) ∧ y = .p (.ps zs)) ∨ (lk l (.tmp k) = some (.av y) ∧ refs (fun _ => false) y = true)))
  | [], _, x, c, h => by simp [lk] at h
  | (x0, c0) :: r, h, x, c, hx => by
    cases x0 <;> cases c0 <;> simp only [FwOK] at h
    rename_i k y
    simp only [lk] at hx
    split at hx
    · rename_i he
      simp only [Option.some.injEq] at hx
      exact ⟨k, y, he, hx.symm, h.1⟩
    · exact FwOK_spec h.2 x c hx
/-- All objects are given up; a slice of an own array stays as it is. -/
theorem fw {s new : List (Loc × C)} {c : Code} {cs : List Code} (W : Nat) (zs : List (List PV)) {e sz pub : Nat} {xs : List (List PV)} (h : AK P F G (c :: cs) Q new) (hG : G.t = lk s := by assumption) (hids : ids s = [] := by simp)
    (ha : Is (lk l (.arr W)) (some (.arr e sz xs pub)) := by simp [*]; exact is_rfl _) (hz : FrzRows (lk l) xs zs) (hn : FwOK l W xs.length zs new) : AK P F G (c :: cs) Q l := by
  unfold Is at ha
  have hsp := FwOK_spec hn
  have hno : ∀ k, lk new (.var k) = none ∧ lk new (.arr k) = none := by
    intro k
    constructor
    · cases hq : lk new (.var k) with
      | none => rfl
      | some c => obtain ⟨_, _, h, _⟩ := hsp _ _ hq; simp at h
    · cases hq : lk new (.arr k) with
      | none => rfl
      | some c => obtain ⟨_, _, h, _⟩ := hsp _ _ hq; simp at h
  refine fun ρ a w hr => h ρ a w (hr.dn ⟨?_, ?_, ?_, ?_⟩ ?_)
  · exact .mk' (fun k c hk => by rw [(hno k).1] at hk; simp at hk) (fun k c hk => by rw [(hno k).2] at hk; simp at hk)
  · intro k j c hk
    obtain ⟨_, _, h, _⟩ := hsp _ _ hk
    simp at h
  · intro k c hk
    obtain ⟨k', y, h1, rfl, h2⟩ := hsp _ _ hk
    simp only [Loc.tmp.injEq] at h1
    subst h1
    rcases h2 with ⟨h2, rfl⟩ | ⟨h2, h3⟩
    · exact ⟨_, _, rfl, h2, fun v hv => .p (frzW hr.o hno hv ha hz)⟩
    · exact ⟨_, _, rfl, h2, fun v hv => hv.le hr.o (.mk' (fun k c hk => by rw [(hno k).1] at hk; simp at hk) (fun k c hk => by rw [(hno k).2] at hk; simp at hk)) (leA_refl _) (refs_mono (by simp) _ h3)⟩
  · intro id e sz xs pub hq
    rw [(hno id).2] at hq; simp at hq
  · rw [hG]
    intro id
    have : ¬ Flat.live (lk s) id := fun hl => by have := live_ids.1 hl; rw [hids] at this; simp at this
    exact ⟨fun g => absurd (Or.inl g) this, fun g => absurd (Or.inr g) this⟩
end
end Go.Flat
end
section
set_option linter.unusedVariables false
set_option linter.unusedSimpArgs false
namespace Go.Flat
set_option linter.unusedSimpArgs false
section
variable {P : Program} {F : Nat → Nat → Prop} {G : Start} {ρ : Ren} {t : Sto} {l l' : List (Loc × C)} {a : Act} {w : World} {Q : Post}
/-- A contract of a call that was put off. -/
def SpecD (P : Program) (f : Nat) (args : List AV) (s : List (Loc × C)) (res : AV) (s' : List (Loc × C)) : Prop :=
  ∀ (F : Nat → Nat → Prop) (ρ : Ren) (w : World) (vs : Array Value), RelO F ρ (lk s) w → vs.size = args.length →
    (∀ (j : Nat) (x : AV) (v : Value), args[j]? = some x → vs[j]? = some v → AR F ρ (lk s) w x v) →
    CallsD P f vs .returning w fun e u w' => u = .returning ∧ SpecR F ρ w s res s' e w'
theorem specD_of {f : Nat} {fn : Func} {c : Code} {args : List AV} {s s' : List (Loc × C)} {res : AV} (hf : P.funcs[f]? = some fn) (hb : fn.body = some c) (hn : args.length ≤ fn.ntmps) (hs : noTmp s = true)
    (h : ∀ F G, G.n = fn.ntmps → G.t = lk s → AWP P F G c (retQ (tyOf P) fn.results.toList res s s') (app (tmpsL 0 args) s)) : SpecD P f args s res s' := by
  intro F ρ w vs ho hsz hA
  exact callsD_of_wp hf hb (body_wp hn hs h ho hsz hA)
structure SpD (P : Program) (f : Nat) (args : List AV) (s : List (Loc × C)) (res : AV) (s' : List (Loc × C)) : Prop where
  en : Enters P f
  sp : SpecD P f args s res s'
theorem skD {f : Nat} {fn : Func} {c : Code} {args : List AV} {s s' : List (Loc × C)} {res : AV} {rs : List ResultVar} {n : Nat} (hf : P.funcs[f]? = some fn) (h : ∀ F G, G.n = n → G.t = lk s → AK P F G [c] (retQ (tyOf P) rs res s s') (app (tmpsL 0 args) s)) (hb : fn.body = some c := by rfl) (he : (fn.name == "runtime.NumGoroutine") = false ∧ fn.body.isNone = false := by exact ⟨by rfl, by rfl⟩)
    (hr : fn.results.toList = rs := by rfl) (hn' : fn.ntmps = n := by rfl) (hn : args.length ≤ fn.ntmps := by decide) (hs : noTmp s = true := by simp [*]) : SpD P f args s res s' :=
  ⟨⟨fn, hf, he⟩, by subst hr; subst hn'; exact specD_of hf hb hn hs fun F G h1 h2 => awp_of_ak (h F G h1 h2)⟩
/-- A put-off call under a contract, in the caller's words. -/
theorem call_specD {f : Nat} {args : List AV} {sl sl' : List (Loc × C)} {res : AV} {ι : Nat → Nat} {t' : Sto} (hS : SpecD P f args sl res sl') (hr : Rel F G ρ t a w) (hl : Lies (lk sl) t ι)
    (hb : Back (lk sl) (lk sl') t t' ι) (hrf : ∀ x ∈ args, refs (fun k => (lk sl (.var k)).isSome || (lk sl (.arr k)).isSome) x = true) {vs : Array Value} (hn : vs.size = args.length)
    (hA : ∀ (j : Nat) (x : AV) (v : Value), args[j]? = some x → vs[j]? = some v → AR F ρ t w (renA ι x) v) :
    CallsD P f vs .returning w fun e u w' => u = .returning ∧ ∃ v ρ', e = .returned v ∧ Rel F G ρ' t' a w' := by
  have h0 := hS (Bar F ρ t (lk sl) ι) (low ρ (lk sl) ι) w vs (hr.o.down hl) hn (fun j x v hj hv => AR.down hr.o hl (hA j x v hj hv) (hrf x (List.mem_of_getElem? hj)))
  refine h0.mono ?_
  rintro e u w' ⟨hu, v, ρc, rfl, h1, h2, h3, h4, h5⟩
  refine ⟨hu, v, up ρ ρc (lk sl') ι, rfl, ?_⟩
  refine hr.step (Ext.up hr.o hl hb h3 h5) (RelO.up hr.o hl hb h3 h1 h4 h5) hb.tmp ?_ ?_
  · intro id b hlv hbb
    rcases range_cases (s' := lk sl') (ι := ι) id with ⟨k, hk, rfl⟩ | hn
    · rw [up_at hb.inj hk] at hbb
      rcases h4 k b hk hbb with ⟨g1, g2⟩ | g
      · obtain ⟨_, g3⟩ := low_some g2
        exact .inl ⟨hl.live g1, g3⟩
      · exact .inr g
    · rw [up_other hn] at hbb
      obtain ⟨o1, o2, _⟩ := hb.other id hn
      exact .inl ⟨by simpa [Flat.live, o1, o2] using hlv, hbb⟩
  · intro b hb' hn
    refine h5 b hb' fun k hk he => ?_
    obtain ⟨_, he2⟩ := low_some he
    exact hn _ (hl.live hk) he2

/-- Codes, one behind the other. -/
def wpL (P : Program) (K : Exit → Act → World → Prop) : List Code → Act → World → Prop
  | [] => K .normal
  | c :: cs => c.wp P fun e a w => match e with
    | .normal => wpL P K cs a w
    | e => K e a w
theorem wpL_mono {K K' : Exit → Act → World → Prop} (hK : ∀ e a w, K e a w → K' e a w) : ∀ {xs : List Code} {a : Act} {w : World}, wpL P K xs a w → wpL P K' xs a w
  | [], a, w, h => hK _ _ _ h
  | c :: xs, a, w, h => by
    simp only [wpL] at h ⊢
    refine wp_mono h ?_
    intro e a w hq
    cases e with
    | normal => exact wpL_mono hK hq
    | _ => exact hK _ _ _ hq
theorem wpL_ak {cs : List Code} (h : AK P F G cs Q l) (hr : Rel F G ρ (lk l) a w) : wpL P (lift F G Q) cs a w := by
  induction cs generalizing l ρ a w with
  | nil => exact ⟨l, ρ, h, hr⟩
  | cons c cs ih =>
    simp only [wpL]
    refine wp_mono (h ρ a w hr) ?_
    rintro e a w ⟨l1, ρ1, hq, hr1⟩
    cases e with
    | normal => exact ih hq hr1
    | _ => exact ⟨l1, ρ1, hq, hr1⟩
theorem evalG_wp2 {ops : Array Oper} {K : Exit → Act → World → Prop} {more : List Oper} : ∀ {todo : List Oper} {l : List (Loc × C)} {nid : Nat} {l' : List (Loc × C)} {nid' : Nat}, evalG (tyOf P) G.n ops todo l nid = some (l', nid', []) → (∀ ρ a w, Rel F G ρ (lk l') a w → wpList P ops K more a w) →
    ∀ ρ a w, Rel F G ρ (lk l) a w → wpList P ops K (todo ++ more) a w
  | [], l, nid, l', nid', h, hA => by
    simp only [evalG, Option.some.injEq, Prod.mk.injEq] at h
    obtain ⟨rfl, rfl, -⟩ := h
    exact hA
  | o :: todo, l, nid, l', nid', h, hA => by
    simp only [evalG] at h
    split at h
    · simp at h
    · rename_i hst
      split at h <;> try (simp at h; done)
      rename_i f hf
      split at h <;> try (simp at h; done)
      rename_i l1 hs
      intro ρ a w hr
      rw [List.cons_append]
      unfold wpList
      rw [guardL_wanted hr (stopB_guard hst)]
      simp only [if_true]
      refine .inl (stepL_wp (l' := l1) (nid := nid) ?_ hr fun ρ' a' w' hr' => evalG_wp2 h hA ρ' a' w' hr')
      unfold stepL
      rw [hf]
      exact hs
/-- A beginning anew, with calls put off. -/
theorem Rel.againD {d : List Deferred} (h : Rel F G ρ t a w) : Rel F ⟨ρ, t, w, G.n, d⟩ ρ t { a with defers := d } w := ⟨h.o, h.tmp, h.siz, rfl, .refl _ _ _ _, fun _ _ hl hb => .inl ⟨hl, hb⟩, fun _ _ _ => rfl⟩
theorem Rel.restartD {ρ1 ρ2 : Ren} {t1 t2 : Sto} {a1 a2 : Act} {w1 w2 : World} {d : List Deferred} (h1 : Rel F G ρ1 t1 a1 w1) (h2 : Rel F ⟨ρ1, t1, w1, G.n, d⟩ ρ2 t2 a2 w2) : Rel F G ρ2 t2 { a2 with defers := G.d } w2 := by
  refine ⟨h2.o, h2.tmp, h2.siz, rfl, h1.ext.trans h2.ext, ?_, ?_⟩
  · intro id b hl hb
    rcases h2.own id b hl hb with ⟨q1, q2⟩ | q
    · exact h1.own id b q1 q2
    · exact .inr (Nat.le_trans h1.ext.size q)
  · intro b hb hn
    rw [h2.frm b (Nat.lt_of_lt_of_le hb h1.ext.size) ?_, h1.frm b hb hn]
    intro id hl hbb
    rcases h1.own id b hl hbb with ⟨q1, q2⟩ | q
    · exact hn id q1 q2
    · omega
/-- What is still to be done, till the end of the function. -/
def AKW (P : Program) (F : Nat → Nat → Prop) (G : Start) (K : Exit → Act → World → Prop) (cs : List Code) (l : List (Loc × C)) : Prop := ∀ ρ a w, Rel F G ρ (lk l) a w → wpL P K cs a w
theorem kwq {K : Exit → Act → World → Prop} {x y : Code} {cs : List Code} (h : AKW P F G K (x :: y :: cs) l) : AKW P F G K (.seq x y :: cs) l := by
  intro ρ a w hr
  have := h ρ a w hr
  simp only [wpL] at this ⊢
  refine wp_seq (wp_mono this ?_)
  intro e a w hq
  cases e with
  | normal => exact hq
  | _ => exact hq
theorem kw1 {K : Exit → Act → World → Prop} {c : Code} {cs : List Code} (h : AK P F G [c] (fun e l2 => e = .normal ∧ AKW P F G K cs l2) l) : AKW P F G K (c :: cs) l := by
  intro ρ a w hr
  simp only [wpL]
  refine wp_mono (h ρ a w hr) ?_
  rintro e a w ⟨l1, ρ1, hq, hr1⟩
  cases e with
  | normal => exact hq.2 ρ1 a w hr1
  | _ => exact absurd hq.1 (by simp)
theorem kwk {s : List (Loc × C)} {K : Exit → Act → World → Prop} {cs : List Code} (l2 : List (Loc × C)) (h : AKW P F G K cs l2) (hG : G.t = lk s := by assumption) (hW : Weak s l l2 := by refine ⟨?_, ?_, ?_⟩ <;> simp [*]) : AKW P F G K cs l :=
  fun ρ a w hr => h ρ a w (hW.rel hG hr)
/-- A function that has a call put off. -/
theorem skW {f n : Nat} {fn : Func} {c : Code} {args : List AV} {s s' : List (Loc × C)} {res : AV} (hf : P.funcs[f]? = some fn) (h : ∀ F G, G.n = n → G.t = lk s → G.d = [] → AKW P F G (bodyPostD P fn (SpecR F G.ρ G.w s res s')) [c] (app (tmpsL 0 args) s))
    (hb : fn.body = some c := by rfl) (he : (fn.name == "runtime.NumGoroutine") = false ∧ fn.body.isNone = false := by exact ⟨by rfl, by rfl⟩) (hn' : fn.ntmps = n := by rfl) (hn : args.length ≤ n := by decide) (hs : noTmp s = true := by simp [*]) : Sp P f args s res s' := by
  subst hn'
  refine ⟨⟨fn, hf, he⟩, ?_⟩
  intro F ρ w vs ho hsz hA
  refine calls_of_wp_defers hf hb ?_
  have hr0 := spec_start (n := fn.ntmps) hn hs ho hsz hA
  have := h F ⟨ρ, lk s, w, fn.ntmps, []⟩ rfl rfl rfl ρ _ w hr0
  simp only [wpL] at this
  refine wp_mono this ?_
  intro e a w hq
  cases e <;> exact hq
theorem split_last {α : Type} : ∀ {l : List α} {o : α}, l.getLast? = some o → l = l.dropLast ++ [o]
  | [], o, h => by simp at h
  | [a], o, h => by simp at h; subst h; rfl
  | a :: b :: r, o, h => by
    have := split_last (l := b :: r) (o := o) (by rw [← h]; simp [List.getLast?_cons_cons])
    rw [List.dropLast_cons_cons, List.cons_append, ← this]
/-- The call is put off; the rest; the call. -/
theorem kwd {k n nid' id0 : Nat} {fn : Func} {s s' lm' sc sc' : List (Loc × C)} {cap cargs : List AV} {rc : AV} {cs2 : List Code} {ops : Array Oper} {o : Oper} {fo : Operand} {tys : Array TypeId} (nid : Nat) (lz : List (Loc × C))
    (hD : SpD P k cargs sc rc sc') (h2 : ∀ F G, G.n = n → G.t = lk lm' → AK P F G cs2 (fun e l => (e = .ret ∨ e = .normal) ∧ Weak lm' l lz) lm') (hn : G.n = n := by assumption) (hG : G.t = lk s := by assumption) (hd0 : G.d = [] := by assumption)
    (hol : ops.toList.getLast? = some o := by rfl) (hop : o.op = .defer { callee := .value fo, args := #[], argTypes := tys } := by rfl) (hgd : o.guard = none := by rfl) (hdst : o.dst = none := by rfl)
    (hops : Is (evalG (tyOf P) n ops ops.toList.dropLast l nid) (some (lm', nid', [])) := by simp [*]; exact is_rfl _)
    (hfo : Is (ev (lk lm') fo) (some (.fn (.func k) cap)) := by simp [*]; exact is_rfl _) (hargs : leA.leL cap cargs := by simp [*])
    (hC : (noTmp sc && noTmp sc' && ownB sc sc && ownB sc' sc' && refsAll (isSomeV sc) cargs) = true := by simp [*]) (hF : freshB id sc lz (ids sc') = true := by simp [*]) (hL : LiesAt id lz sc := by simp [*])
    (hW : Weak s (app sc' (dropIds (ids sc') lz)) s' := by refine ⟨?_, ?_, ?_⟩ <;> simp [*]) (hrs : fn.results = #[] := by rfl) :
    AKW P F G (bodyPostD P fn (SpecR F G.ρ G.w s (.tup []) s')) (.region id0 ops false :: cs2) l := by
  intro ρ1 a1 w1 hr1
  obtain ⟨ρ, t, w, n', d⟩ := G
  simp only at hn hG hd0
  subst hn hG hd0
  simp only [wpL]
  have hsp : ops.toList = ops.toList.dropLast ++ [o] := split_last hol
  refine wp_region_list ?_
  rw [hsp]
  refine evalG_wp2 (F := F) (G := ⟨ρ, lk s, w, n', []⟩) hops ?_ ρ1 a1 w1 hr1
  intro ρ2 a2 w2 hr2
  unfold wpList
  have hwant : Region.wanted o (yielded ops a2.tmps) = true := by unfold Region.wanted; rw [hgd]
  rw [hwant]
  simp only [if_true]
  refine .inl ?_
  have hfv := ev_ar hr2 hfo
  generalize hv : a2.eval fo = v at hfv
  cases hfv with
  | @fn _ _ vc hnc hAc =>
    unfold Oper.wp
    have hrun : (execOp a2.eval o).run P w2 = .ok (.defer { target := .fn (.func k) vc, args := #[] }) w2 := by
      simp [execOp, hop, resolve, hv, Deferred.ofValue, Sem.run_bind, Sem.run_pure, Result.andThen_ok]
    rw [hrun, Oper.upon_defer]
    have hdd : a2.defers = [] := hr2.dfr
    rw [hdd, hdst]
    refine wpList_nil ?_
    show wpL P _ cs2 _ w2
    have hr3 := hr2.againD (d := [{ target := .fn (.func k) vc, args := #[] }])
    refine wpL_mono ?_ (wpL_ak (h2 F ⟨ρ2, lk lm', w2, n', _⟩ rfl rfl) hr3)
    rintro e a4 w4 ⟨l4, ρ4, ⟨hend, hwk⟩, hr4⟩
    have hr5 := hwk.rel rfl hr4
    have hleave : Leaves P fn a4.tmps (SpecR F ρ w s (.tup []) s') a4.defers .returning w4 := by
      rw [hr5.dfr]
      have hr6 := hr2.restartD hr5
      obtain ⟨c1, c2, c3⟩ := call_lies (callI hC hF) hL
      refine leaves_cons (by simp) (f := k) (args := vc) ?_ ?_
      · simp only [invoke, Array.empty_append]
        exact run_callFunc hD.en _
      · refine (call_specD hD.sp hr6 c1 c2 c3 (vs := vc) ?_ ?_).mono ?_
        · rw [hnc]; exact leL_len hargs
        · intro j x v hj hvv
          obtain ⟨x0, hj', hle⟩ := leL_at hargs hj
          rw [renA_id]
          have hx0 := hAc j x0 v hj' hvv
          exact (hx0.ext hr5.ext).le_same hle
        · rintro e u w' ⟨rfl, v, ρ', rfl, hr7⟩
          rw [backL_id] at hr7
          have hr8 := hW.rel rfl hr7
          refine ⟨.tuple #[], ?_, .tuple #[], ρ', rfl, hr8.o, .tup rfl (by simp), hr8.ext, hr8.own, hr8.frm⟩
          rw [results_eq, hrs]
          simp
    rcases hend with rfl | rfl
    · exact hleave
    · exact hleave
end
end Go.Flat
end
