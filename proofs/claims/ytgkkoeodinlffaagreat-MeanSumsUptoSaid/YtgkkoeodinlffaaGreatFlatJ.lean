/-
  Flat, part 24: a state as a new beginning: what nobody owns there stays.
-/
import Derived.Test.YtgkkoeodinlffaaGreatFlatH
set_option linter.unusedVariables false
set_option linter.unusedSimpArgs false
namespace Go.Flat
set_option linter.unusedSimpArgs false
section
variable {P : Program} {F : Nat → Nat → Prop} {G : Start} {ρ ρ1 ρ2 : Ren} {t t1 t2 : Sto} {l l' : List (Loc × C)} {a a1 a2 : Act} {w w1 w2 : World} {Q : Post}
theorem Rel.again (h : Rel F G ρ t a w) : Rel F ⟨ρ, t, w, G.n, G.d⟩ ρ t a w := ⟨h.o, h.tmp, h.siz, h.dfr, .refl _ _ _ _, fun id b hl hb => .inl ⟨hl, hb⟩, fun _ _ _ => rfl⟩
/-- A new object that nobody owns. -/
theorem Rel.block (h : Rel F G ρ t a w) (obj : Obj) : Rel F G (onlyLive ρ t) t a (w.alloc obj) ∧ (∀ id, live t id → onlyLive ρ t id ≠ some w.heap.size) ∧ (w.alloc obj).heap[w.heap.size]? = some obj := by
  refine ⟨h.step (.block h.o) h.o.block (fun _ => rfl) (fun id b hl hb => .inl ⟨hl, (onlyLive_some hb).2⟩) (fun b hb _ => heap_alloc_old w obj hb), fun id hl hb => ?_, heap_alloc_new _ _⟩
  have := live_lt h.o hl (onlyLive_some hb).2
  omega
/-- The world has a map that nobody owns. -/
def MapAt (G : Start) (b : Nat) (es : Array MapEntry) : Prop := b < G.w.heap.size ∧ (∀ id, live G.t id → G.ρ id ≠ some b) ∧ ∃ clk, G.w.heap[b]? = some (.map es clk)
theorem MapAt.here {b : Nat} {es : Array MapEntry} (h : MapAt G b es) (hr : Rel F G ρ t a w) : ∃ clk, w.heap[b]? = some (.map es clk) := by
  obtain ⟨h1, h2, clk, h3⟩ := h
  exact ⟨clk, by rw [hr.frm b h1 h2]; exact h3⟩
end
end Go.Flat
