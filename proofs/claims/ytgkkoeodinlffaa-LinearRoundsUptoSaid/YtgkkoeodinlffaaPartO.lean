/-
  What is handed to a law, read as expressions and rows.
  Contracts: the laws of chapter 11.
  Updates, read as data.
-/
import Derived.Test.YtgkkoeodinlffaaFlatN
import Derived.Test.YtgkkoeodinlffaaPartM
import Derived.Test.YtgkkoeodinlffaaCFacts
import Derived.KernelRfl
section
set_option linter.unusedVariables false
set_option linter.unusedSimpArgs false
namespace Go.Proofs
open Go.Flat
set_option maxRecDepth 100000
theorem okTypes : ∀ t, t < Try.prog.types.size → okDesc Try.prog Try.prog.types.size t = true := by
  intro t h
  have hall : (List.range Try.prog.types.size).all (okDesc Try.prog Try.prog.types.size) = true := by kernel_rfl
  rw [List.all_eq_true] at hall
  exact hall t (by simpa using h)
theorem laidTypes : laidOutB Try.prog = true := pfLaid
theorem cl2 : Try.prog.cellsOf 2 = 1 := by kernel_rfl
theorem cl4 : Try.prog.cellsOf 4 = 1 := by kernel_rfl
theorem cl9 : Try.prog.cellsOf 9 = 1 := by kernel_rfl
theorem cl24 : Try.prog.cellsOf 24 = 3 := by kernel_rfl
theorem list3 {α : Type} {l : List α} (h : l.length = 3) : ∃ a b c, l = [a, b, c] := by
  match l, h with | [a, b, c], _ => exact ⟨a, b, c, rfl⟩
theorem list6 {α : Type} {l : List α} (h : l.length = 6) : ∃ a b c d e f, l = [a, b, c, d, e, f] := by
  match l, h with | [a, b, c, d, e, f], _ => exact ⟨a, b, c, d, e, f, rfl⟩
theorem shp_int {M : Nat} {P : Program} {d : Nat} {t : TypeId} {k : IntKind} {xs : List PV} (h : Shp P M d t xs) (hu : P.underlying t = some (.int k)) : ∃ n, xs = [.v (.int k n)] ∧ (Lit.int k n).wf = true := by
  cases d with
  | zero => exact h.elim
  | succ d => unfold Shp at h; rw [hu] at h; exact h
theorem i64_wf {n : Int} (h : (Lit.int .i64 n).wf = true) : i64 n := by
  simp [Lit.wf, IntKind.min, IntKind.max, IntKind.signed, IntKind.bits] at h
  unfold i64
  omega
theorem shp_bool {M : Nat} {P : Program} {d : Nat} {t : TypeId} {xs : List PV} (h : Shp P M d t xs) (hu : P.underlying t = some .bool) : ∃ b, xs = [.v (.bool b)] := by
  cases d with
  | zero => exact h.elim
  | succ d => unfold Shp at h; rw [hu] at h; exact h
theorem shp_str {M : Nat} {P : Program} {d : Nat} {t : TypeId} {xs : List PV} (h : Shp P M d t xs) (hu : P.underlying t = some .string) : ∃ s, xs = [.v (.string s)] ∧ s.size ≤ M := by
  cases d with
  | zero => exact h.elim
  | succ d => unfold Shp at h; rw [hu] at h; exact h
theorem shp_sl {M : Nat} {P : Program} {d : Nat} {t e : TypeId} {xs : List PV} (h : Shp P M d t xs) (hu : P.underlying t = some (.slice e)) : ∃ rows : List (List PV), xs = [.ps rows] ∧ rows.length ≤ M ∧ ∃ d', d = d' + 1 ∧ ∀ row ∈ rows, Shp P M d' e row := by
  cases d with
  | zero => exact h.elim
  | succ d =>
    unfold Shp at h
    rw [hu] at h
    obtain ⟨rows, h1, h2, h3⟩ := h
    exact ⟨rows, h1, h2, d, rfl, fun row hr => (h3 row hr).2⟩
theorem shp_st {M : Nat} {P : Program} {d : Nat} {t : TypeId} {fs : Array Field} {xs : List PV} (h : Shp P M d t xs) (hu : P.underlying t = some (.struct fs)) : xs.length = P.cellsOf t ∧ ∃ d', d = d' + 1 ∧ ∀ f ∈ fs.toList, Shp P M d' f.type ((xs.drop f.offset).take (P.cellsOf f.type)) := by
  cases d with
  | zero => exact h.elim
  | succ d =>
    unfold Shp at h
    rw [hu] at h
    exact ⟨h.1, d, rfl, fun f hf => h.2 f (by simpa using hf)⟩
/-- Rows, one by one. -/
theorem rows_of {α : Type} {row : α → List PV} {p : α → Prop} : ∀ {rows : List (List PV)}, (∀ r ∈ rows, ∃ x, r = row x ∧ p x) → ∃ xs : List α, rows = xs.map row ∧ ∀ x ∈ xs, p x
  | [], _ => ⟨[], rfl, by simp⟩
  | r :: rows, h => by
    obtain ⟨x, rfl, hx⟩ := h r (by simp)
    obtain ⟨xs, rfl, hxs⟩ := rows_of fun r hr => h r (List.mem_cons_of_mem _ hr)
    exact ⟨x :: xs, rfl, by simp [hx]; exact hxs⟩
def Val.wf (M : Nat) (v : Val) : Prop := (Lit.int .i64 v.n).wf = true ∧ v.s.size ≤ M
theorem shp_val {M d : Nat} {xs : List PV} (h : Shp Try.prog M d 24 xs) : ∃ v : Val, xs = v.row ∧ v.wf M := by
  obtain ⟨hl, d, rfl, hf⟩ := shp_st h Try.underlying24
  rw [cl24] at hl
  obtain ⟨a, b, c, rfl⟩ := list3 hl
  simp [cl4, cl2, cl9] at hf
  obtain ⟨h1, h2, h3⟩ := hf
  obtain ⟨x, e1⟩ := shp_bool h1 Try.underlying4
  obtain ⟨n, e2, hn⟩ := shp_int h2 Try.underlying2
  obtain ⟨s, e3, hs⟩ := shp_str h3 Try.underlying9
  simp only [List.cons.injEq, and_true] at e1 e2 e3
  subst e1; subst e2; subst e3
  exact ⟨⟨x, n, s⟩, rfl, hn, hs⟩
theorem shp_row {M d : Nat} {xs : List PV} (h : Shp Try.prog M d 28 xs) : ∃ row : List Val, xs = [.ps (row.map Val.row)] ∧ row.length ≤ M ∧ ∀ v ∈ row, v.wf M := by
  obtain ⟨rows, rfl, hl, d, rfl, hr⟩ := shp_sl h Try.underlying28
  obtain ⟨xs, rfl, hx⟩ := rows_of (row := Val.row) (p := Val.wf M) fun r hm => shp_val (hr r hm)
  exact ⟨xs, rfl, by simpa using hl, hx⟩
open Go.Proofs.Ytgkkoeodinlffaa in
theorem blk_part {H : Type} {d : DataW H} : ∀ {l : List (DataW H)}, d ∈ l → Rows.uptoBulk d ≤ Rows.uptoBulkAll l
  | x :: r, h => by
    rw [Rows.uptoBulkAll]
    rcases List.mem_cons.1 h with rfl | h
    · omega
    · have := blk_part h; omega
open Go.Proofs.Ytgkkoeodinlffaa in
theorem blk_one {H : Type} (d : DataW H) : 1 ≤ Rows.uptoBulk d := by
  cases d with
  | lit l => cases l <;> simp [Rows.uptoBulk]
  | _ => simp [Rows.uptoBulk]
open Go.Proofs.Ytgkkoeodinlffaa in
theorem blk_len {H : Type} : ∀ (l : List (DataW H)), l.length ≤ Rows.uptoBulkAll l
  | [] => Nat.zero_le _
  | d :: r => by
    have h1 := blk_one d
    have h2 := blk_len r
    rw [Rows.uptoBulkAll, List.length_cons]
    omega
open Go.Proofs.Ytgkkoeodinlffaa in
theorem bulkU {H : Type} : Bulk (H := H) Rows.uptoBulk := by
  refine ⟨fun bs => ?_, fun es sp => ?_, fun es sp d hd => ?_, fun ps d hd => ?_⟩
  · simp [Rows.uptoBulk]
  · have := blk_len es; rw [Rows.uptoBulk]; omega
  · have := blk_part hd; rw [Rows.uptoBulk]; omega
  · have := blk_part hd; rw [Rows.uptoBulk]; omega
open Go.Proofs.Ytgkkoeodinlffaa in
theorem small_part {H : Type} {l : List (DataW H)} {d : DataW H} (hk : Rows.uptoSmall H l = true) (hd : d ∈ l) : Rows.uptoBulk d ≤ 1048576 := by
  have h1 := blk_part hd
  have h2 := of_decide_eq_true hk
  omega
end Go.Proofs
end
section
set_option linter.unusedVariables false
set_option linter.unusedSimpArgs false
namespace Go.Proofs
open Go.Flat
set_option maxRecDepth 100000
set_option linter.unusedSimpArgs false
set_option linter.unusedVariables false
attribute [local simp] Bool.and_assoc Bool.or_assoc evalG evalX efD skF guardG guardL isCall stepL evalOp ev evs lk tmpsL app AV.ok fresh vv putCells insV ins del putL place Go.Flat.look fillC fillR getCells loadF storeF binF scalarBin intBin strBin isShift shiftBin unF lenF maxF minF rowsF appendF builtinF idxF natOf sliceP sliceF optEv Flat.cut overwrite toPV toPVs constAV scalarC scalarCs AV.cells TI.isAgg allSome andAll scalarEq buildable Go.Flat.lim retQ resL resAll resOne PartOf noTmp closedIn refs refs.refsL isSomeV hasB ids leA leA.leL renA renA.renL callB refsAll backL dropIds renS LiesAt injB ownB freshB memN locId insAll leA_refl leL_refl okS frzS frzA frzA.frzL evalD feet fine updCells cellsFrom memP footRf footWf noTmpU updIds opOps opIds idsA footR footW guardTs opTs dstTs callR callW renLoc renC inBlockQ thenQ Value.oneCell' IntKind.bits IntKind.signed

def KeyOK (cols : List Int) (u : Up) : Prop := u.k = cols.map (colV2 u.r) ∧ ∀ c ∈ cols, offC u.r.length c = false
theorem KeyOK.len {cols : List Int} {u : Up} (h : KeyOK cols u) : u.k.length = cols.length := by rw [h.1, List.length_map]
theorem KeyOK.at_ {cols : List Int} {u : Up} (h : KeyOK cols u) {j : Nat} {y : Int} {v : Val} (hy : cols[j]? = some y) (hv : colV2 u.r y = v) : u.k[j]? = some v := by rw [h.1, List.getElem?_map, hy, ← hv]; rfl

end Go.Proofs
end
section
set_option linter.unusedVariables false
set_option linter.unusedSimpArgs false
namespace Go.Proofs
open Go.Flat
open Go.Proofs.Ytgkkoeodinlffaa
set_option maxRecDepth 100000
theorem cl28 : Try.prog.cellsOf 28 = 1 := by kernel_rfl
theorem cl79 : Try.prog.cellsOf 79 = 1 := by kernel_rfl
theorem cl80 : Try.prog.cellsOf 80 = 2 := by kernel_rfl
theorem cl82 : Try.prog.cellsOf 82 = 3 := by kernel_rfl
theorem cl92 : Try.prog.cellsOf 92 = 6 := by kernel_rfl
theorem shp_arr {M d : Nat} {P : Program} {t e : TypeId} {n : Nat} {xs : List PV} (h : Shp P M d t xs) (hu : P.underlying t = some (.array n e)) : xs.length = P.cellsOf t ∧ ∃ d', d = d' + 1 ∧ ∀ i, i < n → Shp P M d' e ((xs.drop (i * P.cellsOf e)).take (P.cellsOf e)) := by
  cases d with
  | zero => exact h.elim
  | succ d =>
    unfold Shp at h
    rw [hu] at h
    exact ⟨h.1, d, rfl, h.2⟩
theorem shp_time {M d : Nat} {xs : List PV} (h : Shp Try.prog M d 82 xs) : ∃ t : Tm, xs = t.row := by
  obtain ⟨hl, d, rfl, hf⟩ := shp_st h Try.underlying82
  rw [cl82] at hl
  obtain ⟨a, b, c, rfl⟩ := list3 hl
  simp [cl79, cl80] at hf
  obtain ⟨h1, h2⟩ := hf
  obtain ⟨x, e1, _⟩ := shp_int h1 Try.underlying79
  obtain ⟨_, d2, rfl, h3⟩ := shp_arr h2 Try.underlying80
  rw [cl79] at h3
  have g0 := h3 0 (by decide)
  have g1 := h3 1 (by decide)
  simp at g0 g1
  obtain ⟨y, e2, _⟩ := shp_int g0 Try.underlying79
  obtain ⟨z, e3, _⟩ := shp_int g1 Try.underlying79
  simp only [List.cons.injEq, and_true] at e1 e2 e3
  subst e1; subst e2; subst e3
  exact ⟨⟨x, y, z⟩, rfl⟩
theorem shp_up {d : Nat} {xs : List PV} (h : Shp Try.prog 1048576 d 92 xs) : ∃ u : Up, xs = u.row ∧ (u.sm ∧ i64 u.d) := by
  obtain ⟨hl, d, rfl, hf⟩ := shp_st h Try.underlying92
  rw [cl92] at hl
  obtain ⟨a, b, c, e, f, g, rfl⟩ := list6 hl
  simp [cl28, cl82, cl2] at hf
  obtain ⟨h1, h2, h3, h4⟩ := hf
  obtain ⟨k, e1, hk, _⟩ := shp_row h1
  obtain ⟨r, e2, hr, _⟩ := shp_row h2
  obtain ⟨t, e3⟩ := shp_time h3
  obtain ⟨n, e4, hn⟩ := shp_int h4 Try.underlying2
  simp only [List.cons.injEq, and_true, Tm.row] at e1 e2 e3 e4
  obtain ⟨e3, e5, e6⟩ := e3
  subst e1; subst e2; subst e3; subst e5; subst e6; subst e4
  exact ⟨⟨k, r, t, n⟩, rfl, ⟨hk, hr⟩, i64_wf hn⟩
theorem shp_ups {d : Nat} {xs : List PV} (h : Shp Try.prog 1048576 d 78 xs) : ∃ us : List Up, xs = [.ps (us.map Up.row)] ∧ us.length ≤ Bnd ∧ Up.sms us ∧ gds us := by
  obtain ⟨rows, rfl, hl, d, rfl, hr⟩ := shp_sl h Try.underlying78
  obtain ⟨us, rfl, hu⟩ := rows_of (row := Up.row) (p := fun u => u.sm ∧ i64 u.d) fun r hm => shp_up (hr r hm)
  exact ⟨us, rfl, by simpa [Bnd] using hl, fun u h => (hu u h).1, fun u h => (hu u h).2⟩
end Go.Proofs
end
