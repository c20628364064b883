/-
  Flat, part 24: a state as a new beginning: what nobody owns there stays.
-/
import Derived.Test.YtgkkoeodinlffaaGreatFlatI
set_option linter.unusedVariables false
set_option linter.unusedSimpArgs false
namespace Go.Flat
section
variable {P : Program} {F : Nat → Nat → Prop} {G : Start} {ρ ρ1 ρ2 : Ren} {t t1 t2 : Sto} {l l' : List (Loc × C)} {a a1 a2 : Act} {w w1 w2 : World} {Q : Post}
theorem Rel.restart (h1 : Rel F G ρ1 t1 a1 w1) (h2 : Rel F ⟨ρ1, t1, w1, G.n, G.d⟩ ρ2 t2 a2 w2) : Rel F G ρ2 t2 a2 w2 := by
 refine ⟨h2.o, h2.tmp, h2.siz, h2.dfr, h1.ext.trans h2.ext, ?_, ?_⟩
 · intro id b hl hb
   rcases h2.own id b hl hb with ⟨q1, q2⟩ | q
   · exact h1.own id b q1 q2
   · exact .inr (Nat.le_trans h1.ext.size q)
 · intro b hb hn
   rw [h2.frm b (Nat.lt_of_lt_of_le hb h1.ext.size) ?_, h1.frm b hb hn]; intro id hl hbb; rcases h1.own id b hl hbb with ⟨q1, q2⟩ | q
   · exact hn id q1 q2
   · omega
theorem Rel.again (h : Rel F G ρ t a w) : Rel F ⟨ρ, t, w, G.n, G.d⟩ ρ t a w := ⟨h.o, h.tmp, h.siz, h.dfr, .refl _ _ _ _, fun id b hl hb => .inl ⟨hl, hb⟩, fun _ _ _ => rfl⟩
theorem Rel.block (h : Rel F G ρ t a w) (obj : Obj) : Rel F G (onlyLive ρ t) t a (w.alloc obj) ∧ (∀ id, live t id → onlyLive ρ t id ≠ some w.heap.size) ∧ (w.alloc obj).heap[w.heap.size]? = some obj := by
 refine ⟨h.step (.block h.o) h.o.block (fun _ => rfl) (fun id b hl hb => .inl ⟨hl, (onlyLive_some hb).2⟩) (fun b hb _ => heap_alloc_old w obj hb), fun id hl hb => ?_, heap_alloc_new _ _⟩
 have := live_lt h.o hl (onlyLive_some hb).2; omega
def MapAt (G : Start) (b : Nat) (es : Array MapEntry) : Prop := b < G.w.heap.size ∧ (∀ id, live G.t id → G.ρ id ≠ some b) ∧ ∃ clk, G.w.heap[b]? = some (.map es clk)
theorem MapAt.here {b : Nat} {es : Array MapEntry} (h : MapAt G b es) (hr : Rel F G ρ t a w) : ∃ clk, w.heap[b]? = some (.map es clk) := by
 obtain ⟨h1, h2, clk, h3⟩ := h; exact ⟨clk, by rw [hr.frm b h1 h2]; exact h3⟩
theorem k_two {i2 i3 : Nat} {ops2 ops3 : Array Oper} {c c2 : Code} {cs : List Code} {es : Array MapEntry} (lm : Nat → List (Loc × C))
   (h2 : ∀ ρ a w, Rel F G ρ (lk l) a w → ∀ (Q2 : Exit → Act → World → Prop), (∀ a2 w2 ρ2 b, Rel F G ρ2 (lk (lm b)) a2 w2 → b < w2.heap.size → (∀ id, live (lk (lm b)) id → ρ2 id ≠ some b) → (∃ clk, w2.heap[b]? = some (.map es clk)) → Q2 .normal a2 w2) → wpList P ops2 Q2 ops2.toList a w)
   (h3 : ∀ (G2 : Start) (b : Nat), G2.n = G.n → MapAt G2 b es → AOps P F G2 ops3 (fun e l3 => e = .normal ∧ l3 = l') ops3.toList (lm b))
   (h4 : AK P F G (c :: c2 :: cs) Q l') : AK P F G (.seq (.region i2 ops2 false) (.seq (.seq (.region i3 ops3 false) c) c2) :: cs) Q l := by
 intro ρ a w hr; refine wp_seq (wp_region_list (h2 ρ a w hr _ ?_)); intro a2 w2 ρ2 b hr2 hb hn hm; show (Code.seq (Code.seq (Code.region i3 ops3 false) c) c2).wp P _ a2 w2; refine wp_seq (wp_seq ?_); have hA := awp_region (id := i3) (h3 ⟨ρ2, lk (lm b), w2, G.n, G.d⟩ b rfl ⟨hb, hn, hm⟩); refine wp_mono (hA ρ2 a2 w2 hr2.again) ?_; rintro e a3 w3 ⟨l3, ρ3, ⟨rfl, rfl⟩, hr3⟩; refine wp_mono (h4 ρ3 a3 w3 (hr2.restart hr3)) ?_; rintro e a4 w4 ⟨l4, ρ4, hq, hr4⟩
 cases e with
 | normal => exact hq ρ4 a4 w4 hr4
 | _ => exact ⟨l4, ρ4, hq, hr4⟩
theorem o_lookup {ops : Array Oper} {R : Post} {o : Oper} {rest : List Oper} {n : Nat} {b : Nat} {es : Array MapEntry} {ty kt vt : TypeId} {m ix : Operand} {k : Int} {q : Bool} (hM : MapAt G b es) (h : AOps P F G ops R rest l') (hn : G.n = n) (hop : o.op = .lookup ty m ix false)
   {g : Bool} (hg : guardL ops l o = some g)
   (hm : g = true → ev (lk l) m = some (.p (.v (.map (some b))))) (hi : g = true → ev (lk l) ix = some (.p (.v (.int .u8 k)))) (hrun : ∀ w : World, (∃ clk, w.heap[b]? = some (.map es clk)) → (Instr.lookup ty (.map (some b)) (.int .u8 k) false).run P w = .ok (.bool q) w)
   (hd : putL n o.dst (optA g (vv (.bool q))) l = some l') : AOps P F G ops R (o :: rest) l := by
 intro ρ a w hr; unfold wpList; rw [guardL_wanted hr hg]
 cases g with
 | true =>
   simp only [if_true]; refine .inl ?_; have e1 := (ev_ar hr (hm rfl)).v_inv; have e2 := (ev_ar hr (hi rfl)).v_inv; unfold Oper.wp
   have hx : (execOp a.eval o).run P w = .ok (.value (.bool q)) w := by
     simp only [execOp, hop, e1, e2, Sem.run_bind, hrun w (hM.here hr), Result.andThen_ok, Sem.run_pure]
   rw [hx]; exact h _ _ _ (putL_rel hr (.vv_mk rfl) (by rw [hn]; exact hd))
 | false =>
   simp only [Bool.false_eq_true, if_false]; exact h _ _ _ (putL_rel hr (.tup rfl (by simp)) (by rw [hn]; exact hd))
theorem odone {ops : Array Oper} {lz : List (Loc × C)} (ks : List Nat) (h : Is (keepT ks l) lz := by simp [keepT]; exact is_rfl _) : AOps P F G ops (fun e l3 => e = .normal ∧ l3 = lz) [] l := by
 unfold Is at h; subst h; exact fun ρ a w hr => wpList_nil ⟨_, ρ, ⟨rfl, rfl⟩, keep_rel hr⟩
theorem olk {ops : Array Oper} {R : Post} {o : Oper} {rest : List Oper} {n b : Nat} {es : Array MapEntry} {ty : TypeId} {m ix : Operand} {k : Int} {q : Bool} (hM : MapAt G b es) (hrun : ∀ w : World, (∃ clk, w.heap[b]? = some (.map es clk)) → (Instr.lookup ty (.map (some b)) (.int .u8 k) false).run P w = .ok (.bool q) w) (h : AOps P F G ops R rest l') (hn : G.n = n := by assumption) (hop : o.op = .lookup ty m ix false := by rfl)
   (hg : guardL ops l o = some true := by simp [*]) (hm : Is (ev (lk l) m) (some (.p (.v (.map (some b))))) := by simp [*]; exact is_rfl _) (hi : Is (ev (lk l) ix) (some (.p (.v (.int .u8 k)))) := by simp [*]; exact is_rfl _)
   (hd : Is (putL n o.dst (vv (.bool q)) l) (some l') := by simp [*]; exact is_rfl _) : AOps P F G ops R (o :: rest) l :=
 o_lookup (kt := 0) (vt := 0) hM h hn hop (g := true) hg (fun _ => hm) (fun _ => hi) hrun hd
end
end Go.Flat
