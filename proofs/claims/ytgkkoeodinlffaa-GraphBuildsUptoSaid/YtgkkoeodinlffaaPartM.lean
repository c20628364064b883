/-
  What is handed to a law, read as expressions and rows.
  What is handed to a law, read as plans and schemas.
  Readers of plans with their ranges, and of schemas with their lengths.
-/
import Derived.Test.YtgkkoeodinlffaaFlatJ
import Derived.Test.YtgkkoeodinlffaaPartK
import Derived.Test.YtgkkoeodinlffaaCFacts
import Derived.Test.YtgkkoeodinlffaaFlatL
import Derived.KernelRfl
import Derived.Test.YtgkkoeodinlffaaPartE
import Derived.Test.YtgkkoeodinlffaaPartI
section
set_option linter.unusedVariables false
set_option linter.unusedSimpArgs false
namespace Go.Proofs
open Go.Flat
set_option maxRecDepth 100000
theorem okTypes : ∀ t, t < Try.prog.types.size → okDesc Try.prog Try.prog.types.size t = true := by
  intro t h
  have hall : (List.range Try.prog.types.size).all (okDesc Try.prog Try.prog.types.size) = true := by kernel_rfl
  rw [List.all_eq_true] at hall
  exact hall t (by simpa using h)
theorem laidTypes : laidOutB Try.prog = true := pfLaid
theorem cl2 : Try.prog.cellsOf 2 = 1 := by kernel_rfl
theorem cl3 : Try.prog.cellsOf 3 = 1 := by kernel_rfl
theorem cl4 : Try.prog.cellsOf 4 = 1 := by kernel_rfl
theorem cl9 : Try.prog.cellsOf 9 = 1 := by kernel_rfl
theorem cl22 : Try.prog.cellsOf 22 = 1 := by kernel_rfl
theorem cl24 : Try.prog.cellsOf 24 = 3 := by kernel_rfl
theorem cl25 : Try.prog.cellsOf 25 = 1 := by kernel_rfl
theorem cl27 : Try.prog.cellsOf 27 = 6 := by kernel_rfl
theorem list3 {α : Type} {l : List α} (h : l.length = 3) : ∃ a b c, l = [a, b, c] := by
  match l, h with | [a, b, c], _ => exact ⟨a, b, c, rfl⟩
theorem list6 {α : Type} {l : List α} (h : l.length = 6) : ∃ a b c d e f, l = [a, b, c, d, e, f] := by
  match l, h with | [a, b, c, d, e, f], _ => exact ⟨a, b, c, d, e, f, rfl⟩
theorem shp_int {M : Nat} {P : Program} {d : Nat} {t : TypeId} {k : IntKind} {xs : List PV} (h : Shp P M d t xs) (hu : P.underlying t = some (.int k)) : ∃ n, xs = [.v (.int k n)] ∧ (Lit.int k n).wf = true := by
  cases d with
  | zero => exact h.elim
  | succ d => unfold Shp at h; rw [hu] at h; exact h
theorem i64_wf {n : Int} (h : (Lit.int .i64 n).wf = true) : i64 n := by
  simp [Lit.wf, IntKind.min, IntKind.max, IntKind.signed, IntKind.bits] at h
  unfold i64
  omega
theorem shp_bool {M : Nat} {P : Program} {d : Nat} {t : TypeId} {xs : List PV} (h : Shp P M d t xs) (hu : P.underlying t = some .bool) : ∃ b, xs = [.v (.bool b)] := by
  cases d with
  | zero => exact h.elim
  | succ d => unfold Shp at h; rw [hu] at h; exact h
theorem shp_str {M : Nat} {P : Program} {d : Nat} {t : TypeId} {xs : List PV} (h : Shp P M d t xs) (hu : P.underlying t = some .string) : ∃ s, xs = [.v (.string s)] ∧ s.size ≤ M := by
  cases d with
  | zero => exact h.elim
  | succ d => unfold Shp at h; rw [hu] at h; exact h
theorem shp_sl {M : Nat} {P : Program} {d : Nat} {t e : TypeId} {xs : List PV} (h : Shp P M d t xs) (hu : P.underlying t = some (.slice e)) : ∃ rows : List (List PV), xs = [.ps rows] ∧ rows.length ≤ M ∧ ∃ d', d = d' + 1 ∧ ∀ row ∈ rows, Shp P M d' e row := by
  cases d with
  | zero => exact h.elim
  | succ d =>
    unfold Shp at h
    rw [hu] at h
    obtain ⟨rows, h1, h2, h3⟩ := h
    exact ⟨rows, h1, h2, d, rfl, fun row hr => (h3 row hr).2⟩
theorem shp_st {M : Nat} {P : Program} {d : Nat} {t : TypeId} {fs : Array Field} {xs : List PV} (h : Shp P M d t xs) (hu : P.underlying t = some (.struct fs)) : xs.length = P.cellsOf t ∧ ∃ d', d = d' + 1 ∧ ∀ f ∈ fs.toList, Shp P M d' f.type ((xs.drop f.offset).take (P.cellsOf f.type)) := by
  cases d with
  | zero => exact h.elim
  | succ d =>
    unfold Shp at h
    rw [hu] at h
    exact ⟨h.1, d, rfl, fun f hf => h.2 f (by simpa using hf)⟩
/-- Rows, one by one. -/
theorem rows_of {α : Type} {row : α → List PV} {p : α → Prop} : ∀ {rows : List (List PV)}, (∀ r ∈ rows, ∃ x, r = row x ∧ p x) → ∃ xs : List α, rows = xs.map row ∧ ∀ x ∈ xs, p x
  | [], _ => ⟨[], rfl, by simp⟩
  | r :: rows, h => by
    obtain ⟨x, rfl, hx⟩ := h r (by simp)
    obtain ⟨xs, rfl, hxs⟩ := rows_of fun r hr => h r (List.mem_cons_of_mem _ hr)
    exact ⟨x :: xs, rfl, by simp [hx]; exact hxs⟩
def Val.wf (M : Nat) (v : Val) : Prop := (Lit.int .i64 v.n).wf = true ∧ v.s.size ≤ M
theorem shp_val {M d : Nat} {xs : List PV} (h : Shp Try.prog M d 24 xs) : ∃ v : Val, xs = v.row ∧ v.wf M := by
  obtain ⟨hl, d, rfl, hf⟩ := shp_st h Try.underlying24
  rw [cl24] at hl
  obtain ⟨a, b, c, rfl⟩ := list3 hl
  simp [cl4, cl2, cl9] at hf
  obtain ⟨h1, h2, h3⟩ := hf
  obtain ⟨x, e1⟩ := shp_bool h1 Try.underlying4
  obtain ⟨n, e2, hn⟩ := shp_int h2 Try.underlying2
  obtain ⟨s, e3, hs⟩ := shp_str h3 Try.underlying9
  simp only [List.cons.injEq, and_true] at e1 e2 e3
  subst e1; subst e2; subst e3
  exact ⟨⟨x, n, s⟩, rfl, hn, hs⟩
theorem shp_expr {M : Nat} : ∀ (d : Nat) {xs : List PV}, Shp Try.prog M d 27 xs → ∃ e : E, xs = e.row
  | 0, xs, h => h.elim
  | d + 1, xs, h => by
    obtain ⟨hl, d', hd, hf⟩ := shp_st h Try.underlying27
    obtain rfl : d = d' := by omega
    rw [cl27] at hl
    obtain ⟨a, b, c, e, f, g, rfl⟩ := list6 hl
    simp [cl22, cl3, cl24, cl25] at hf
    obtain ⟨h1, h2, h3, h4⟩ := hf
    obtain ⟨op, e1, _⟩ := shp_int h1 Try.underlying22
    obtain ⟨col, e2, _⟩ := shp_int h2 Try.underlying3
    obtain ⟨v, e3, _⟩ := shp_val h3
    obtain ⟨rows, e4, _, d2, hd2, hr⟩ := shp_sl h4 Try.underlying25
    obtain ⟨ks, rfl, _⟩ := rows_of (row := E.row) (p := fun _ => True) fun r hm => by
      obtain ⟨e, he⟩ := shp_expr d2 (hr r hm)
      exact ⟨e, he, trivial⟩
    simp only [List.cons.injEq, and_true, Val.row] at e1 e2 e3 e4
    obtain ⟨e3, e5, e6⟩ := e3
    subst e1; subst e2; subst e3; subst e5; subst e6; subst e4
    exact ⟨.mk op col v ks, by rw [E.row_eq]⟩
open Go.Proofs.Ytgkkoeodinlffaa in
theorem blk_part {H : Type} {d : DataW H} : ∀ {l : List (DataW H)}, d ∈ l → Rows.uptoBulk d ≤ Rows.uptoBulkAll l
  | x :: r, h => by
    rw [Rows.uptoBulkAll]
    rcases List.mem_cons.1 h with rfl | h
    · omega
    · have := blk_part h; omega
open Go.Proofs.Ytgkkoeodinlffaa in
theorem blk_one {H : Type} (d : DataW H) : 1 ≤ Rows.uptoBulk d := by
  cases d with
  | lit l => cases l <;> simp [Rows.uptoBulk]
  | _ => simp [Rows.uptoBulk]
open Go.Proofs.Ytgkkoeodinlffaa in
theorem blk_len {H : Type} : ∀ (l : List (DataW H)), l.length ≤ Rows.uptoBulkAll l
  | [] => Nat.zero_le _
  | d :: r => by
    have h1 := blk_one d
    have h2 := blk_len r
    rw [Rows.uptoBulkAll, List.length_cons]
    omega
open Go.Proofs.Ytgkkoeodinlffaa in
theorem bulkU {H : Type} : Bulk (H := H) Rows.uptoBulk := by
  refine ⟨fun bs => ?_, fun es sp => ?_, fun es sp d hd => ?_, fun ps d hd => ?_⟩
  · simp [Rows.uptoBulk]
  · have := blk_len es; rw [Rows.uptoBulk]; omega
  · have := blk_part hd; rw [Rows.uptoBulk]; omega
  · have := blk_part hd; rw [Rows.uptoBulk]; omega
open Go.Proofs.Ytgkkoeodinlffaa in
theorem small_part {H : Type} {l : List (DataW H)} {d : DataW H} (hk : Rows.uptoSmall H l = true) (hd : d ∈ l) : Rows.uptoBulk d ≤ 1048576 := by
  have h1 := blk_part hd
  have h2 := of_decide_eq_true hk
  omega
theorem E.av_row (e : E) : e.av = .agg (e.row.map .p) := by
  obtain ⟨op, col, c, kids⟩ := e
  rw [E.row_eq]
  simp [E.av, vv]
end Go.Proofs
end
section
set_option linter.unusedVariables false
set_option linter.unusedSimpArgs false
namespace Go.Proofs
open Go.Flat
set_option maxRecDepth 100000
theorem cl47 : Try.prog.cellsOf 47 = 1 := by kernel_rfl
theorem cl48 : Try.prog.cellsOf 48 = 1 := by kernel_rfl
theorem cl49 : Try.prog.cellsOf 49 = 1 := by kernel_rfl
theorem cl50 : Try.prog.cellsOf 50 = 1 := by kernel_rfl
theorem cl52 : Try.prog.cellsOf 52 = 8 := by kernel_rfl
theorem list8 {α : Type} {l : List α} (h : l.length = 8) : ∃ a b c d e f g i, l = [a, b, c, d, e, f, g, i] := by
  match l, h with | [a, b, c, d, e, f, g, i], _ => exact ⟨a, b, c, d, e, f, g, i, rfl⟩
theorem shp_ints {M d : Nat} {xs : List PV} (h : Shp Try.prog M d 49 xs) : ∃ l : List Int, xs = [.ps (l.map irow)] ∧ l.length ≤ M := by
  obtain ⟨rows, rfl, hl, d, rfl, hr⟩ := shp_sl h Try.underlying49
  obtain ⟨xs, rfl, _⟩ := rows_of (row := irow) (p := fun _ => True) fun r hm => by
    obtain ⟨n, e, _⟩ := shp_int (hr r hm) Try.underlying3
    exact ⟨n, e, trivial⟩
  exact ⟨xs, rfl, by simpa using hl⟩
theorem shp_types {M d : Nat} {xs : List PV} (h : Shp Try.prog M d 45 xs) : ∃ l : List Int, xs = [.ps (l.map trow)] ∧ l.length ≤ M := by
  obtain ⟨rows, rfl, hl, d, rfl, hr⟩ := shp_sl h Try.underlying45
  obtain ⟨xs, rfl, _⟩ := rows_of (row := trow) (p := fun _ => True) fun r hm => by
    obtain ⟨n, e, _⟩ := shp_int (hr r hm) Try.underlying42
    exact ⟨n, e, trivial⟩
  exact ⟨xs, rfl, by simpa using hl⟩
theorem shp_exprs {M d : Nat} {xs : List PV} (h : Shp Try.prog M d 25 xs) : ∃ l : List E, xs = [.ps (l.map E.row)] ∧ l.length ≤ M := by
  obtain ⟨rows, rfl, hl, d, rfl, hr⟩ := shp_sl h Try.underlying25
  obtain ⟨xs, rfl, _⟩ := rows_of (row := E.row) (p := fun _ => True) fun r hm => by
    obtain ⟨e, he⟩ := shp_expr d (hr r hm)
    exact ⟨e, he, trivial⟩
  exact ⟨xs, rfl, by simpa using hl⟩
theorem bndL_all : ∀ {l : List Pl}, (∀ p ∈ l, p.bnd) → Pl.bndL l
  | [], _ => by simp [Pl.bndL]
  | e :: r, h => by
    rw [Pl.bndL]
    exact ⟨h e (by simp), bndL_all fun k hk => h k (by simp [hk])⟩
theorem shp_plan : ∀ (d : Nat) {xs : List PV}, Shp Try.prog 1048576 d 52 xs → ∃ p : Pl, xs = p.row ∧ p.bnd
  | 0, xs, h => h.elim
  | d + 1, xs, h => by
    obtain ⟨hl, d', hd, hf⟩ := shp_st h Try.underlying52
    obtain rfl : d = d' := by omega
    rw [cl52] at hl
    obtain ⟨a1, a2, a3, a4, a5, a6, a7, a8, rfl⟩ := list8 hl
    simp [cl47, cl3, cl48, cl25, cl49, cl50] at hf
    obtain ⟨h1, h2, h3, h4, h5, h6, h7, h8⟩ := hf
    obtain ⟨k, e1, _⟩ := shp_int h1 Try.underlying47
    obtain ⟨m, e2, _⟩ := shp_int h2 Try.underlying3
    obtain ⟨rows, e3, hk, d2, hd2, hr⟩ := shp_sl h3 Try.underlying48
    obtain ⟨ks, rfl, hkb⟩ := rows_of (row := Pl.row) (p := Pl.bnd) fun r hm => shp_plan d2 (hr r hm)
    obtain ⟨ex, e4, hex⟩ := shp_exprs h4
    obtain ⟨cs, e5, hcs⟩ := shp_ints h5
    obtain ⟨ws, e6, hws⟩ := shp_ints h6
    obtain ⟨ag, e7, _⟩ := shp_int h7 Try.underlying50
    obtain ⟨rd, e8, _⟩ := shp_int h8 Try.underlying3
    simp only [List.cons.injEq, and_true] at e1 e2 e3 e4 e5 e6 e7 e8
    subst e1; subst e2; subst e3; subst e4; subst e5; subst e6; subst e7; subst e8
    refine ⟨.mk k m ks ex cs ws ag rd, by rw [Pl.row_eq], ?_⟩
    rw [Pl.bnd]
    exact ⟨by simpa [Bnd] using hk, hex, hcs, hws, bndL_all hkb⟩
theorem Pl.av_row (p : Pl) : p.av = .agg (p.row.map .p) := by
  obtain ⟨k, m, kids, ex, cols, wth, agg, rds⟩ := p
  rw [Pl.row_eq]
  simp [Pl.av, vv]
theorem Pl.size_w : ∀ p : Pl, p.size ≤ 1 + PV.wRow p.row := by
  refine Pl.ind fun k m kids ex cols wth agg rds ih => ?_
  have hk : Pl.sizeL kids ≤ PV.wAll (kids.map Pl.row) := by
    induction kids with
    | nil => simp [Pl.sizeL]
    | cons x r ihr =>
      have h1 := ih x (by simp)
      have h2 := ihr fun y hy => ih y (by simp [hy])
      rw [Pl.sizeL, List.map_cons, PV.wAll]
      omega
  rw [Pl.size, Pl.row_eq]
  simp only [PV.wRow, PV.w]
  omega
open Go.Proofs.Ytgkkoeodinlffaa in
theorem blk_sum {H : Type} : ∀ (l : List (DataW H)), (l.map Rows.uptoBulk).sum = Rows.uptoBulkAll l
  | [] => by simp [Rows.uptoBulkAll]
  | d :: r => by rw [List.map_cons, List.sum_cons, blk_sum r, Rows.uptoBulkAll]
open Go.Proofs.Ytgkkoeodinlffaa in
theorem bulkW {H : Type} : BulkW (H := H) Rows.uptoBulk := by
  refine ⟨bulkU, blk_one, fun es sp => ?_, fun ps => ?_⟩
  · rw [blk_sum, Rows.uptoBulk]; omega
  · rw [blk_sum, Rows.uptoBulk]; omega
end Go.Proofs
end
section
set_option linter.unusedVariables false
set_option linter.unusedSimpArgs false
namespace Go.Proofs
open Go.Flat Go.ChangeShapes Go.WideShapes Go.ChangeAt Go.RowKit
set_option linter.unusedVariables false
theorem shp_schI {M d : Nat} {xs : List PV} (h : Shp Try.prog M d 53 xs) : ∃ l : List (List Int), xs = [.ps (l.map srow)] ∧ (l.length ≤ M ∧ ∀ s ∈ l, s.length ≤ M) := by
  obtain ⟨rows, rfl, hl, d, rfl, hr⟩ := shp_sl h Try.underlying53
  obtain ⟨xs, rfl, hx⟩ := rows_of (row := srow) (p := fun s => s.length ≤ M) fun r hm => by
    obtain ⟨n, e, hn⟩ := shp_types (hr r hm)
    exact ⟨n, e, hn⟩
  exact ⟨xs, rfl, by simpa using hl, hx⟩
set_option maxRecDepth 100000 in
theorem shp_rng {M : Nat} : ∀ (d : Nat) (p : Pl), Shp Try.prog M d 52 p.row → p.rng
  | 0, p, h => h.elim
  | d + 1, p, h => by
    obtain ⟨hl, d', hd, hf⟩ := shp_st h Try.underlying52
    obtain rfl : d = d' := by omega
    obtain ⟨k, m, kids, ex, cols, wth, agg, rds⟩ := p
    rw [Pl.row_eq] at hf
    simp [cl47, cl3, cl48, cl25, cl49, cl50] at hf
    obtain ⟨h1, h2, h3, h4, h5, h6, h7, h8⟩ := hf
    obtain ⟨m', e2, hw⟩ := shp_int h2 Try.underlying3
    obtain ⟨rows, e3, hk, d2, hd2, hr⟩ := shp_sl h3 Try.underlying48
    simp only [List.cons.injEq, and_true, PV.v.injEq, Value.int.injEq, true_and, PV.ps.injEq] at e2 e3
    subst e2; subst e3
    have hi := i64_wf hw
    unfold i64 at hi
    rw [Pl.rng]
    refine ⟨by omega, Pl.rngL_of fun x hx => shp_rng d2 x (hr x.row (List.mem_map_of_mem hx))⟩
end Go.Proofs
end
