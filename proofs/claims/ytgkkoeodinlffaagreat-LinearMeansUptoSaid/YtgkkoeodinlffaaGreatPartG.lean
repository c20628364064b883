/-
  What is handed to a law, read as expressions and rows. (and 15 texts more)
-/
import Derived.Test.YtgkkoeodinlffaaGreatFlatD
import Derived.Test.YtgkkoeodinlffaaGreatPartE
import Derived.Test.YtgkkoeodinlffaaGreatCFacts
import Derived.Test.YtgkkoeodinlffaaGreatFlatF
import Derived.KernelRfl
section
set_option linter.unusedVariables false
set_option linter.unusedSimpArgs false
namespace Go.Proofs
open Go.Flat
set_option maxRecDepth 100000
theorem okTypes : ∀ t, t < Tryz.prog.types.size → okDesc Tryz.prog Tryz.prog.types.size t = true := by
 intro t h; have hall : (List.range Tryz.prog.types.size).all (okDesc Tryz.prog Tryz.prog.types.size) = true := by kernel_rfl
 rw [List.all_eq_true] at hall; exact hall t (by simpa using h)
theorem laidTypes : laidOutB Tryz.prog = true := pfLaid
theorem cl2 : Tryz.prog.cellsOf 2 = 1 := by kernel_rfl
theorem cl3 : Tryz.prog.cellsOf 3 = 1 := by kernel_rfl
theorem cl4 : Tryz.prog.cellsOf 4 = 1 := by kernel_rfl
theorem cl9 : Tryz.prog.cellsOf 9 = 1 := by kernel_rfl
theorem cl22 : Tryz.prog.cellsOf 23 = 1 := by kernel_rfl
theorem cl24 : Tryz.prog.cellsOf 25 = 3 := by kernel_rfl
theorem cl25 : Tryz.prog.cellsOf 26 = 1 := by kernel_rfl
theorem cl27 : Tryz.prog.cellsOf 28 = 6 := by kernel_rfl
theorem list3 {α : Type} {l : List α} (h : l.length = 3) : ∃ a b c, l = [a, b, c] := by
 match l, h with | [a, b, c], _ => exact ⟨a, b, c, rfl⟩
theorem list6 {α : Type} {l : List α} (h : l.length = 6) : ∃ a b c d e f, l = [a, b, c, d, e, f] := by
 match l, h with | [a, b, c, d, e, f], _ => exact ⟨a, b, c, d, e, f, rfl⟩
theorem shp_int {M : Nat} {P : Program} {d : Nat} {t : TypeId} {k : IntKind} {xs : List PV} (h : Shp P M d t xs) (hu : P.underlying t = some (.int k)) : ∃ n, xs = [.v (.int k n)] ∧ (Lit.int k n).wf = true := by
 cases d with
 | zero => exact h.elim
 | succ d => unfold Shp at h; rw [hu] at h; exact h
theorem i64_wf {n : Int} (h : (Lit.int .i64 n).wf = true) : i64 n := by
 simp [Lit.wf, IntKind.min, IntKind.max, IntKind.signed, IntKind.bits] at h; unfold i64; omega
theorem shp_bool {M : Nat} {P : Program} {d : Nat} {t : TypeId} {xs : List PV} (h : Shp P M d t xs) (hu : P.underlying t = some .bool) : ∃ b, xs = [.v (.bool b)] := by
 cases d with
 | zero => exact h.elim
 | succ d => unfold Shp at h; rw [hu] at h; exact h
theorem shp_str {M : Nat} {P : Program} {d : Nat} {t : TypeId} {xs : List PV} (h : Shp P M d t xs) (hu : P.underlying t = some .string) : ∃ s, xs = [.v (.string s)] ∧ s.size ≤ M := by
 cases d with
 | zero => exact h.elim
 | succ d => unfold Shp at h; rw [hu] at h; exact h
theorem shp_sl {M : Nat} {P : Program} {d : Nat} {t e : TypeId} {xs : List PV} (h : Shp P M d t xs) (hu : P.underlying t = some (.slice e)) : ∃ rows : List (List PV), xs = [.ps rows] ∧ rows.length ≤ M ∧ ∃ d', d = d' + 1 ∧ ∀ row ∈ rows, Shp P M d' e row := by
 cases d with
 | zero => exact h.elim
 | succ d =>
   unfold Shp at h; rw [hu] at h; obtain ⟨rows, h1, h2, h3⟩ := h; exact ⟨rows, h1, h2, d, rfl, fun row hr => (h3 row hr).2⟩
theorem shp_st {M : Nat} {P : Program} {d : Nat} {t : TypeId} {fs : Array Field} {xs : List PV} (h : Shp P M d t xs) (hu : P.underlying t = some (.struct fs)) : xs.length = P.cellsOf t ∧ ∃ d', d = d' + 1 ∧ ∀ f ∈ fs.toList, Shp P M d' f.type ((xs.drop f.offset).take (P.cellsOf f.type)) := by
 cases d with
 | zero => exact h.elim
 | succ d =>
   unfold Shp at h; rw [hu] at h; exact ⟨h.1, d, rfl, fun f hf => h.2 f (by simpa using hf)⟩
theorem rows_of {α : Type} {row : α → List PV} {p : α → Prop} : ∀ {rows : List (List PV)}, (∀ r ∈ rows, ∃ x, r = row x ∧ p x) → ∃ xs : List α, rows = xs.map row ∧ ∀ x ∈ xs, p x
 | [], _ => ⟨[], rfl, by simp⟩
 | r :: rows, h => by
   obtain ⟨x, rfl, hx⟩ := h r (by simp)
   obtain ⟨xs, rfl, hxs⟩ := rows_of fun r hr => h r (List.mem_cons_of_mem _ hr)
   exact ⟨x :: xs, rfl, by simp [hx]; exact hxs⟩
def Val.wf (M : Nat) (v : Val) : Prop := (Lit.int .i64 v.n).wf = true ∧ v.s.size ≤ M
theorem shp_val {M d : Nat} {xs : List PV} (h : Shp Tryz.prog M d 25 xs) : ∃ v : Val, xs = v.row ∧ v.wf M := by
 obtain ⟨hl, d, rfl, hf⟩ := shp_st h Tryz.underlying25; rw [cl24] at hl; obtain ⟨a, b, c, rfl⟩ := list3 hl; simp [cl4, cl2, cl9] at hf; obtain ⟨h1, h2, h3⟩ := hf; obtain ⟨x, e1⟩ := shp_bool h1 Tryz.underlying4; obtain ⟨n, e2, hn⟩ := shp_int h2 Tryz.underlying2; obtain ⟨s, e3, hs⟩ := shp_str h3 Tryz.underlying9; simp only [List.cons.injEq, and_true] at e1 e2 e3; subst e1; subst e2; subst e3; exact ⟨⟨x, n, s⟩, rfl, hn, hs⟩
theorem shp_row {M d : Nat} {xs : List PV} (h : Shp Tryz.prog M d 31 xs) : ∃ row : List Val, xs = [.ps (row.map Val.row)] ∧ row.length ≤ M ∧ ∀ v ∈ row, v.wf M := by
 obtain ⟨rows, rfl, hl, d, rfl, hr⟩ := shp_sl h Tryz.underlying31; obtain ⟨xs, rfl, hx⟩ := rows_of (row := Val.row) (p := Val.wf M) fun r hm => shp_val (hr r hm)
 exact ⟨xs, rfl, by simpa using hl, hx⟩
theorem shp_expr {M : Nat} : ∀ (d : Nat) {xs : List PV}, Shp Tryz.prog M d 28 xs → ∃ e : E, xs = e.row
 | 0, xs, h => h.elim
 | d + 1, xs, h => by
   obtain ⟨hl, d', hd, hf⟩ := shp_st h Tryz.underlying28; obtain rfl : d = d' := by omega
   rw [cl27] at hl; obtain ⟨a, b, c, e, f, g, rfl⟩ := list6 hl; simp [cl22, cl3, cl24, cl25] at hf; obtain ⟨h1, h2, h3, h4⟩ := hf; obtain ⟨op, e1, _⟩ := shp_int h1 Tryz.underlying23; obtain ⟨col, e2, _⟩ := shp_int h2 Tryz.underlying3; obtain ⟨v, e3, _⟩ := shp_val h3; obtain ⟨rows, e4, _, d2, hd2, hr⟩ := shp_sl h4 Tryz.underlying26
   obtain ⟨ks, rfl, _⟩ := rows_of (row := E.row) (p := fun _ => True) fun r hm => by
     obtain ⟨e, he⟩ := shp_expr d2 (hr r hm); exact ⟨e, he, trivial⟩
   simp only [List.cons.injEq, and_true, Val.row] at e1 e2 e3 e4; obtain ⟨e3, e5, e6⟩ := e3; subst e1; subst e2; subst e3; subst e5; subst e6; subst e4; exact ⟨.mk op col v ks, by rw [E.row_eq]⟩
open Go.Proofs.YtgkkoeodinlffaaGreat in
theorem blk_part {H : Type} {d : DataW H} : ∀ {l : List (DataW H)}, d ∈ l → Rows.uptoBulk d ≤ Rows.uptoBulkAll l
 | x :: r, h => by
   rw [Rows.uptoBulkAll]; rcases List.mem_cons.1 h with rfl | h
   · omega
   · have := blk_part h; omega
open Go.Proofs.YtgkkoeodinlffaaGreat in
theorem blk_one {H : Type} (d : DataW H) : 1 ≤ Rows.uptoBulk d := by
 cases d with
 | lit l => cases l <;> simp [Rows.uptoBulk]
 | _ => simp [Rows.uptoBulk]
open Go.Proofs.YtgkkoeodinlffaaGreat in
theorem blk_len {H : Type} : ∀ (l : List (DataW H)), l.length ≤ Rows.uptoBulkAll l
 | [] => Nat.zero_le _
 | d :: r => by
   have h1 := blk_one d; have h2 := blk_len r; rw [Rows.uptoBulkAll, List.length_cons]; omega
open Go.Proofs.YtgkkoeodinlffaaGreat in
theorem bulkU {H : Type} : Bulk (H := H) Rows.uptoBulk := by
 refine ⟨fun bs => ?_, fun es sp => ?_, fun es sp d hd => ?_, fun ps d hd => ?_⟩
 · simp [Rows.uptoBulk]
 · have := blk_len es; rw [Rows.uptoBulk]; omega
 · have := blk_part hd; rw [Rows.uptoBulk]; omega
 · have := blk_part hd; rw [Rows.uptoBulk]; omega
open Go.Proofs.YtgkkoeodinlffaaGreat in
theorem small_part {H : Type} {l : List (DataW H)} {d : DataW H} (hk : Rows.uptoSmall H l = true) (hd : d ∈ l) : Rows.uptoBulk d ≤ 1048576 := by
 have h1 := blk_part hd; have h2 := of_decide_eq_true hk; omega
theorem E.av_row (e : E) : e.av = .agg (e.row.map .p) := by
 obtain ⟨op, col, c, kids⟩ := e; rw [E.row_eq]; simp [E.av, vv]
end Go.Proofs
end
section
namespace Go.Proofs
open Go.Flat
set_option maxRecDepth 100000
set_option linter.unusedVariables false
set_option linter.unusedSimpArgs false
attribute [local simp] Bool.and_assoc Bool.or_assoc evalG evalX efD skF guardG guardL isCall stepL evalOp ev evs lk tmpsL app AV.ok fresh vv putCells insV ins del putL place Go.Flat.look fillC fillR getCells loadF storeF binF scalarBin intBin strBin isShift shiftBin unF lenF maxF minF rowsF appendF builtinF idxF natOf sliceP sliceF optEv Flat.cut overwrite toPV toPVs constAV scalarC scalarCs AV.cells TI.isAgg allSome andAll scalarEq buildable Go.Flat.lim retQ resL resAll resOne PartOf noTmp closedIn refs refs.refsL isSomeV hasB ids leA leA.leL renA renA.renL callB refsAll backL dropIds renS LiesAt injB ownB freshB memN locId insAll leA_refl leL_refl okS frzS frzA frzA.frzL evalD feet fine updCells cellsFrom memP footRf footWf noTmpU updIds opOps opIds idsA footR footW guardTs opTs dstTs callR callW renLoc renC inBlockQ thenQ Value.oneCell' IntKind.bits IntKind.signed
section
inductive Pl where
 | mk (k n : Int) (kids : List Pl) (ex : List E) (cols wth : List Int) (agg rds : Int)
mutual
def Pl.row : Pl → List PV
 | .mk k n kids ex cols wth agg rds => [.v (.int .u8 k), .v (.int .i64 n), .ps (Pl.rows kids), .ps (ex.map E.row), .ps (cols.map irow), .ps (wth.map irow), .v (.int .u8 agg), .v (.int .i64 rds)]
def Pl.rows : List Pl → List (List PV)
 | [] => []
 | e :: r => e.row :: Pl.rows r
end
theorem Pl.rows_eq : ∀ l : List Pl, Pl.rows l = l.map Pl.row
 | [] => by simp [Pl.rows]
 | e :: r => by simp [Pl.rows, Pl.rows_eq r]
theorem Pl.row_eq (k n : Int) (kids : List Pl) (ex : List E) (cols wth : List Int) (agg rds : Int) : (Pl.mk k n kids ex cols wth agg rds).row = [.v (.int .u8 k), .v (.int .i64 n), .ps (kids.map Pl.row), .ps (ex.map E.row), .ps (cols.map irow), .ps (wth.map irow), .v (.int .u8 agg), .v (.int .i64 rds)] := by rw [Pl.row, Pl.rows_eq]
theorem Pl.row_len (p : Pl) : p.row.length = 8 := by cases p; rw [Pl.row_eq]; rfl
def Pl.av : Pl → AV
 | .mk k n kids ex cols wth agg rds => .agg [vv (.int .u8 k), vv (.int .i64 n), .p (.ps (kids.map Pl.row)), .p (.ps (ex.map E.row)), .p (.ps (cols.map irow)), .p (.ps (wth.map irow)), vv (.int .u8 agg), vv (.int .i64 rds)]
theorem Pl.ind {p : Pl → Prop} (h : ∀ k n kids ex cols wth agg rds, (∀ x ∈ kids, p x) → p (.mk k n kids ex cols wth agg rds)) : ∀ e, p e := by
 intro e
 induction e using Pl.rec (motive_2 := fun l => ∀ k ∈ l, p k) with
 | mk k n kids ex cols wth agg rds ih => exact h k n kids ex cols wth agg rds ih
 | nil => rename_i k hk; simp at hk
 | cons e r h1 h2 =>
   rename_i k hk
   rcases List.mem_cons.1 hk with rfl | hk
   · exact h1
   · exact h2 k hk
def manyP (k nk : Int) : Bool := if k == 1 || k == 2 then nk == 0 else if k == 7 || k == 10 then nk == 2 else if k == 5 then decide (0 < nk) else nk == 1
def bareN (k n : Int) : Int := if k == 1 || k == 2 || k == 8 then n else 0
def bareE (k : Int) (ex : List E) : List E := if k == 3 || k == 4 then ex else []
def bareC (k : Int) (c : List Int) : List Int := if k == 7 || k == 8 then c else []
def bareW (k : Int) (c : List Int) : List Int := if k == 7 then c else []
def bareA (k a : Int) : Int := if k == 8 then a else 0
def bareR (k r : Int) : Int := if k == 10 then r else 0
def okP1 (k : Int) (nk : Nat) : Bool := decide (0 < k) && (decide (k < 11) && manyP k nk)
def okP2 (k n : Int) (nk : Nat) (ex : List E) (cols wth : List Int) (agg rds : Int) : Bool := okP1 k nk && ((n == bareN k n) && ((((ex.length : Int)) == ((bareE k ex).length : Int)) && ((((cols.length : Int)) == ((bareC k cols).length : Int)) && ((((wth.length : Int)) == ((bareW k wth).length : Int)) && ((agg == bareA k agg) && (rds == bareR k rds))))))
def formedP (k n : Int) (nk : Nat) (ex : List E) (cols wth : List Int) (agg rds : Int) : Bool :=
 if k == 4 then okP2 k n nk ex cols wth agg rds && ((ex.length : Int) == 1)
 else if k == 8 then okP2 k n nk ex cols wth agg rds && (decide (0 < agg) && (decide (agg < 6) && ((n == 0) || agg != 1)))
 else if k == 10 then okP2 k n nk ex cols wth agg rds && (decide (1 ≤ rds) && decide (rds ≤ 16))
 else okP2 k n nk ex cols wth agg rds
theorem spec168 (k nk : Int) : Flat.Sp Tryz.prog 280 [vv (.int .u8 k), vv (.int .i64 nk)] [] (vv (.bool (manyP k nk))) [] := by
 refine sk Tryz.func280 ?_; intro F G hn hG; refine srp 1000 [0,2,4,22] ?_; refine sq ?_; refine srp 2000 [1,2,4,22] ?_; refine k_block ?_; refine sq ?_; refine srp 3000 [1,2,4,7,8,22] ?_; refine cd ?_ ?_
 · intro h6_1
   refine k_skip ?_; refine ct ?_; refine srp 5000 [1,2,4,5,20,22] ?_; refine k_ret ?_; show retQ _ _ _ _ _ _ _; simp [*, manyP]
 · intro h6_1
   refine rgp 4000 [1,2,4,7,9,22] ?_; refine cd ?_ ?_
   · intro h6_2
     refine srp 5000 [1,2,4,5,20,22] ?_; refine k_ret ?_; show retQ _ _ _ _ _ _ _; simp [*, manyP]
   · intro h6_2
     refine sq ?_; refine srp 6000 [1,2,4,6,11,12,13,22] ?_; refine cd ?_ ?_
     · intro h11_3
       refine k_skip ?_; refine ct ?_; refine srp 8000 [1,2,4,5,20,22] ?_; refine k_ret ?_; show retQ _ _ _ _ _ _ _; simp [*, manyP]
     · intro h11_3
       refine rgp 7000 [1,2,4,6,11,12,14,22] ?_; refine cd ?_ ?_
       · intro h11_4
         refine srp 8000 [1,2,4,5,20,22] ?_; refine k_ret ?_; show retQ _ _ _ _ _ _ _; simp [*, manyP]
       · intro h11_4
         refine srp 9000 [1,2,4,5,16,17,18,22] ?_; refine cd ?_ ?_
         · intro h16_5
           refine srp 10000 [1,2,4,5,20,22] ?_; refine k_ret ?_; show retQ _ _ _ _ _ _ _; simp [*, manyP]
         · intro h16_5
           refine k_skip ?_; refine k_nil ?_; show AK _ _ _ _ _ _; refine srp 11000 [4,5] ?_; refine k_ret ?_; show retQ _ _ _ _ _ _ _; simp [*, manyP]
attribute [local simp] Pl.av in
theorem spec167 (k m : Int) (kids : List Pl) (ex : List E) (cols wth : List Int) (agg rds : Int) : Flat.Sp Tryz.prog 279 [(Pl.mk k m kids ex cols wth agg rds).av] [] (.agg [vv (.int .u8 k), vv (.int .i64 (bareN k m)), .p (.ps (kids.map Pl.row)), .p (.ps ((bareE k ex).map E.row)), .p (.ps ((bareC k cols).map irow)), .p (.ps ((bareW k wth).map irow)), vv (.int .u8 (bareA k agg)), vv (.int .i64 (bareR k rds))]) [] := by
 refine sk Tryz.func279 ?_; intro F G hn hG; refine srp 1000 [1,48] ?_; refine srp 2000 [1,4,9,48] ?_; refine sq ?_; refine srp 3000 [1,4,10,48] ?_; refine k_block ?_; refine sq ?_; refine srp 4000 [1,4,10,12,13,48] ?_; refine cd ?_ ?_
 · intro h11_1
   obtain rfl := eq_of_beq h11_1; refine k_skip ?_; refine ct ?_; refine rg 6000 ?_; refine k_nil ?_; show AK _ _ _ _ _ _; refine srp 16000 [2,3] ?_; refine k_ret ?_; show retQ _ _ _ _ _ _ _; simp [*, bareN, bareE, bareC, bareW, bareA, bareR]
 · intro h11_1
   refine rgp 5000 [1,4,10,12,14,48] ?_; refine cd ?_ ?_
   · intro h11_2
     obtain rfl := eq_of_beq h11_2; refine rg 6000 ?_; refine k_nil ?_; show AK _ _ _ _ _ _; refine srp 16000 [2,3] ?_; refine k_ret ?_; show retQ _ _ _ _ _ _ _; simp [*, bareN, bareE, bareC, bareW, bareA, bareR]
   · intro h11_2
     refine sq ?_; refine srp 7000 [1,4,10,11,17,18,19,48] ?_; refine cd ?_ ?_
     · intro h17_3
       obtain rfl := eq_of_beq h17_3; refine k_skip ?_; refine ct ?_; refine rg 9000 ?_; refine k_nil ?_; show AK _ _ _ _ _ _; refine srp 16000 [2,3] ?_; refine k_ret ?_; show retQ _ _ _ _ _ _ _; simp [*, bareN, bareE, bareC, bareW, bareA, bareR]
     · intro h17_3
       refine rgp 8000 [1,4,10,11,17,18,20,48] ?_; refine cd ?_ ?_
       · intro h17_4
         obtain rfl := eq_of_beq h17_4; refine rg 9000 ?_; refine k_nil ?_; show AK _ _ _ _ _ _; refine srp 16000 [2,3] ?_; refine k_ret ?_; show retQ _ _ _ _ _ _ _; simp [*, bareN, bareE, bareC, bareW, bareA, bareR]
       · intro h17_4
         refine srp 10000 [1,4,10,11,23,24,25,48] ?_; refine cd ?_ ?_
         · intro h23_5
           obtain rfl := eq_of_beq h23_5; refine dr ?_; refine de 11000 ?_; refine dn ?_; refine k_nil ?_; show AK _ _ _ _ _ _; refine srp 16000 [2,3] ?_; refine k_ret ?_; show retQ _ _ _ _ _ _ _; simp [*, bareN, bareE, bareC, bareW, bareA, bareR]
         · intro h23_5
           refine srp 12000 [1,4,10,11,31,32,33,48] ?_; refine cd ?_ ?_
           · intro h31_6
             obtain rfl := eq_of_beq h31_6; refine dr ?_; refine de 13000 ?_; refine dn ?_; refine k_nil ?_; show AK _ _ _ _ _ _; refine srp 16000 [2,3] ?_; refine k_ret ?_; show retQ _ _ _ _ _ _ _; simp [*, bareN, bareE, bareC, bareW, bareA, bareR]
           · intro h31_6
             refine srp 14000 [1,4,42,43,44,48] ?_; refine cd ?_ ?_
             · intro h42_7
               obtain rfl := eq_of_beq h42_7; refine rg 15000 ?_; refine k_nil ?_; show AK _ _ _ _ _ _; refine srp 16000 [2,3] ?_; refine k_ret ?_; show retQ _ _ _ _ _ _ _; simp [*, bareN, bareE, bareC, bareW, bareA, bareR]
             · intro h42_7
               refine k_skip ?_; refine k_nil ?_; show AK _ _ _ _ _ _; refine srp 16000 [2,3] ?_; refine k_ret ?_; show retQ _ _ _ _ _ _ _; simp [*, bareN, bareE, bareC, bareW, bareA, bareR]
attribute [local simp] Pl.av in
set_option maxHeartbeats 2000000 in
theorem spec120 (k m : Int) (kids : List Pl) (ex : List E) (cols wth : List Int) (agg rds : Int) : Flat.Sp Tryz.prog 233 [(Pl.mk k m kids ex cols wth agg rds).av] [] (vv (.bool (formedP k m kids.length ex cols wth agg rds))) [] := by
 refine sk Tryz.func233 ?_; intro F G hn hG; refine srp 1000 [1,120] ?_; refine src 2000 ?_; refine oc id (spec167 k m kids ex cols wth agg rds) ?_; refine oe 2100 ?_; refine onp [1,5,7,120] ?_; refine sq ?_; refine cv [(.tmp 4, vv (.bool (okP1 k kids.length)))] ?_ ?_
 · skip
   refine rc 3000 ?_ (h := by simp [*, okP1]; exact is_rfl _)
   iterate 3 (first | refine gp 3250 ?_ (he := by intro hgg; (try simp only [Bool.and_eq_true] at hgg); simp [*, okP1]; exact is_rfl _) | refine os ?_ | refine gt 3250 ?_ (he := by simp [*, okP1]; exact is_rfl _))
   refine oe 3300 ?_ (h := by simp [*, okP1]; exact is_rfl _)
   iterate 5 (first | refine gp 3750 ?_ (he := by intro hgg; (try simp only [Bool.and_eq_true] at hgg); simp [*, okP1]; exact is_rfl _) | refine os ?_ | refine gt 3750 ?_ (he := by simp [*, okP1]; exact is_rfl _))
   refine og (fun hg => spec168 k kids.length) ?_ (hf := by intro hgg; (try simp only [Bool.and_eq_true] at hgg); simp [*, okP1]; exact is_rfl _) (hx := by intro hgg; (try simp only [Bool.and_eq_true] at hgg); simp [*, okP1]; exact is_rfl _) (hargs := by intro hgg; (try simp only [Bool.and_eq_true] at hgg); simp [*, okP1]) (hd := by simp [*, okP1]; exact is_rfl _)
   refine oe 3900 ?_ (h := by simp [*, okP1]; exact is_rfl _)
   refine on ?_; refine k_nil ?_; refine ⟨rfl, ?_, ?_, ?_⟩ <;> simp [*, okP1]
 refine pr [1,5,23,120] ?_; refine sq ?_; refine cv [(.tmp 4, vv (.bool (okP2 k m kids.length ex cols wth agg rds)))] ?_ ?_
 · skip
   refine rc 4000 ?_ (h := by simp [*, okP2]; exact is_rfl _)
   iterate 5 (first | refine gp 4450 ?_ (he := by intro hgg; (try simp only [Bool.and_eq_true] at hgg); simp [*, okP2]; exact is_rfl _) | refine os ?_ | refine gt 4450 ?_ (he := by simp [*, okP2]; exact is_rfl _))
   refine oe 4500 ?_ (h := by simp [*, okP2]; exact is_rfl _)
   iterate 7 (first | refine gp 5150 ?_ (he := by intro hgg; (try simp only [Bool.and_eq_true] at hgg); simp [*, okP2]; exact is_rfl _) | refine os ?_ | refine gt 5150 ?_ (he := by simp [*, okP2]; exact is_rfl _))
   refine oe 5200 ?_ (h := by simp [*, okP2]; exact is_rfl _)
   iterate 7 (first | refine gp 5850 ?_ (he := by intro hgg; (try simp only [Bool.and_eq_true] at hgg); simp [*, okP2]; exact is_rfl _) | refine os ?_ | refine gt 5850 ?_ (he := by simp [*, okP2]; exact is_rfl _))
   refine oe 5900 ?_ (h := by simp [*, okP2]; exact is_rfl _)
   iterate 7 (first | refine gp 6550 ?_ (he := by intro hgg; (try simp only [Bool.and_eq_true] at hgg); simp [*, okP2]; exact is_rfl _) | refine os ?_ | refine gt 6550 ?_ (he := by simp [*, okP2]; exact is_rfl _))
   refine oe 6600 ?_ (h := by simp [*, okP2]; exact is_rfl _)
   iterate 5 (first | refine gp 7050 ?_ (he := by intro hgg; (try simp only [Bool.and_eq_true] at hgg); simp [*, okP2]; exact is_rfl _) | refine os ?_ | refine gt 7050 ?_ (he := by simp [*, okP2]; exact is_rfl _))
   refine oe 7100 ?_ (h := by simp [*, okP2]; exact is_rfl _)
   iterate 5 (first | refine gp 7550 ?_ (he := by intro hgg; (try simp only [Bool.and_eq_true] at hgg); simp [*, okP2]; exact is_rfl _) | refine os ?_ | refine gt 7550 ?_ (he := by simp [*, okP2]; exact is_rfl _))
   refine oe 7600 ?_ (h := by simp [*, okP2]; exact is_rfl _)
   refine on ?_; refine k_nil ?_; refine ⟨rfl, ?_, ?_, ?_⟩ <;> simp [*, okP2]
 refine pr [1,3,4,5,72,120] ?_; refine sq ?_; refine srp 5000 [1,3,4,5,73,120] ?_; refine k_block ?_; refine srp 6000 [1,3,4,5,73,75,76,120] ?_; refine cd ?_ ?_
 · intro h74_1
   refine rc 7000 ?_; iterate 4 (first | refine gp 7350 ?_ | refine os ?_ | refine gt 7350 ?_)
   refine oe 7400 ?_; refine on ?_; refine k_nil ?_; show AK _ _ _ _ _ _; refine srp 12000 [2,3] ?_; refine k_ret ?_; show retQ _ _ _ _ _ _ _; simp [*, formedP]
 · intro h74_1
   refine srp 8000 [1,3,4,5,73,74,83,84,85,120] ?_; refine cd ?_ ?_
   · intro h83_2
     refine rc 9000 ?_; iterate 3 (first | refine gp 9250 ?_ | refine os ?_ | refine gt 9250 ?_)
     refine oe 9300 ?_; iterate 3 (first | refine gp 9550 ?_ | refine os ?_ | refine gt 9550 ?_)
     refine oe 9600 ?_; iterate 8 (first | refine gp 10350 ?_ | refine os ?_ | refine gt 10350 ?_)
     refine oe 10400 ?_; refine on ?_; refine k_nil ?_; show AK _ _ _ _ _ _; refine srp 12000 [2,3] ?_; refine k_ret ?_; show retQ _ _ _ _ _ _ _; simp [*, formedP]
   · intro h83_2
     refine srp 10000 [1,3,4,5,106,107,108,120] ?_; refine cd ?_ ?_
     · intro h106_3
       refine rc 11000 ?_; iterate 3 (first | refine gp 11250 ?_ | refine os ?_ | refine gt 11250 ?_)
       refine oe 11300 ?_; iterate 3 (first | refine gp 11550 ?_ | refine os ?_ | refine gt 11550 ?_)
       refine oe 11600 ?_; refine on ?_; refine k_nil ?_; show AK _ _ _ _ _ _; refine srp 12000 [2,3] ?_; refine k_ret ?_; show retQ _ _ _ _ _ _ _; simp [*, formedP]
     · intro h106_3
       refine k_skip ?_; refine k_nil ?_; show AK _ _ _ _ _ _; refine srp 12000 [2,3] ?_; refine k_ret ?_; show retQ _ _ _ _ _ _ _; simp [*, formedP]
def Bnd : Nat := 1048576
mutual
def Pl.bnd : Pl → Prop
 | .mk _ _ kids ex cols wth _ _ => kids.length ≤ Bnd ∧ ex.length ≤ Bnd ∧ cols.length ≤ Bnd ∧ wth.length ≤ Bnd ∧ Pl.bndL kids
def Pl.bndL : List Pl → Prop
 | [] => True
 | e :: r => e.bnd ∧ Pl.bndL r
end
theorem Pl.bndL_mem : ∀ {l : List Pl}, Pl.bndL l → ∀ k ∈ l, k.bnd
 | [], _, k, h => by simp at h
 | e :: r, h, k, hk => by
   simp only [Pl.bndL] at h; rcases List.mem_cons.1 hk with rfl | hk
   · exact h.1
   · exact Pl.bndL_mem h.2 k hk
theorem Bnd_lim {n : Nat} (h : n ≤ Bnd) : n ≤ Flat.lim := by simp only [Bnd, Flat.lim] at *; omega
abbrev PSrv := Int × Int × Int × Bool × Bool
def exF (r : Bool × Bool) (e : E) : Bool × Bool := (r.1 && checkE e != 4, r.2 || checkE e == 2)
def exL (ex : List E) (r : Bool × Bool) : Bool × Bool := ex.foldl exF r
theorem exL_take {ex : List E} {r : Bool × Bool} {i : Nat} {x : E} (h : ex[i]? = some x) : exL (ex.take (i + 1)) r = exF (exL (ex.take i) r) x := by
 simp [exL, List.take_add_one, h, List.foldl_append]
def morP (k i : Int) : Int := if k == 10 && i == 1 then 1 else 0
mutual
def plook : Pl → Int → Int → PSrv → PSrv
 | .mk k n kids ex cols wth agg rds, d, l, s =>
   let r := exL ex (formedP k n kids.length ex cols wth agg rds, s.2.2.2.2)
   let s := (IntKind.i64.wrap (s.1 + 1), (if d > s.2.1 then d else s.2.1), (if l > s.2.2.1 then l else s.2.2.1), s.2.2.2.1 || !r.1, r.2)
   if !r.1 || decide (d > 16) then s else plookL kids k 0 d l s
def plookL : List Pl → Int → Int → Int → Int → PSrv → PSrv
 | [], _, _, _, _, s => s
 | x :: r, k, i, d, l, s => plookL r k (i + 1) d l (plook x (IntKind.i64.wrap (d + 1)) (IntKind.i64.wrap (l + morP k i)) s)
end
theorem plookL_append (k d l : Int) : ∀ (a r : List Pl) (i : Int) (s : PSrv), plookL (a ++ r) k i d l s = plookL r k (i + a.length) d l (plookL a k i d l s)
 | [], r, i, s => by simp [plookL]
 | e :: a, r, i, s => by
   simp only [List.cons_append, plookL, plookL_append k d l a r, List.length_cons]; congr 1; omega
theorem plookL_take {kids : List Pl} {k d l : Int} {s : PSrv} {i : Nat} {x : Pl} (h : kids[i]? = some x) : plookL (kids.take (i + 1)) k 0 d l s = plook x (IntKind.i64.wrap (d + 1)) (IntKind.i64.wrap (l + morP k i)) (plookL (kids.take i) k 0 d l s) := by
 have hi : i < kids.length := (List.getElem?_eq_some_iff.1 h).1; have hm : min i kids.length = i := by omega
 rw [List.take_add_one, h, plookL_append]; simp [plookL, hm]
attribute [local simp] Pl.av E.av in
theorem spec65_step (k m : Int) (kids : List Pl) (ex : List E) (cols wth : List Int) (agg rds : Int) (hb : (Pl.mk k m kids ex cols wth agg rds).bnd) (ih : ∀ k ∈ kids, ∀ d lo s, Flat.Sp Tryz.prog 149 [.ptr 0 0, k.av, vv (.int .i64 d), vv (.int .i64 lo)] [(.var 0, .n 5), (.cell 0 0, .av (vv (.int .i64 (s).1))), (.cell 0 1, .av (vv (.int .i64 (s).2.1))), (.cell 0 2, .av (vv (.int .i64 (s).2.2.1))), (.cell 0 3, .av (vv (.bool (s).2.2.2.1))), (.cell 0 4, .av (vv (.bool (s).2.2.2.2)))] (.tup []) [(.var 0, .n 5), (.cell 0 0, .av (vv (.int .i64 (plook k d lo s).1))), (.cell 0 1, .av (vv (.int .i64 (plook k d lo s).2.1))), (.cell 0 2, .av (vv (.int .i64 (plook k d lo s).2.2.1))), (.cell 0 3, .av (vv (.bool (plook k d lo s).2.2.2.1))), (.cell 0 4, .av (vv (.bool (plook k d lo s).2.2.2.2)))]) (d lo : Int) (s : PSrv) : Flat.Sp Tryz.prog 149 [.ptr 0 0, (Pl.mk k m kids ex cols wth agg rds).av, vv (.int .i64 d), vv (.int .i64 lo)] [(.var 0, .n 5), (.cell 0 0, .av (vv (.int .i64 (s).1))), (.cell 0 1, .av (vv (.int .i64 (s).2.1))), (.cell 0 2, .av (vv (.int .i64 (s).2.2.1))), (.cell 0 3, .av (vv (.bool (s).2.2.2.1))), (.cell 0 4, .av (vv (.bool (s).2.2.2.2)))] (.tup []) [(.var 0, .n 5), (.cell 0 0, .av (vv (.int .i64 (plook (Pl.mk k m kids ex cols wth agg rds) d lo s).1))), (.cell 0 1, .av (vv (.int .i64 (plook (Pl.mk k m kids ex cols wth agg rds) d lo s).2.1))), (.cell 0 2, .av (vv (.int .i64 (plook (Pl.mk k m kids ex cols wth agg rds) d lo s).2.2.1))), (.cell 0 3, .av (vv (.bool (plook (Pl.mk k m kids ex cols wth agg rds) d lo s).2.2.2.1))), (.cell 0 4, .av (vv (.bool (plook (Pl.mk k m kids ex cols wth agg rds) d lo s).2.2.2.2)))] := by
 refine sk Tryz.func149 ?_; intro F G hn hG; rw [Pl.bnd] at hb; obtain ⟨hbk, hbe, -, -, hbl⟩ := hb; have hk := Bnd_lim hbk; have he := Bnd_lim hbe; refine srp 1000 [0,1,2,4,5,6,8,9,10,108,109,110] ?_; refine sq ?_; refine dr ?_; refine de 2000 ?_; refine dn ?_; refine pr [0,1,2,4,5,6,8,9,10,15,41,108,109,110] ?_; refine src 3000 ?_; refine oc id (spec120 k m kids ex cols wth agg rds) ?_; refine oe 3100 ?_; refine onp [0,1,2,4,5,6,8,9,10,15,43,108,109,110] ?_; refine sq ?_; refine srp 4000 [0,1,2,4,5,6,8,9,10,15,44,108,109,110] ?_; refine k_block ?_; refine k_loop (fun n l => ∃ i, i + n = ex.length ∧ (True) ∧ l = [(.tmp 0, .av (.ptr 0 0)), (.tmp 2, .av (vv (.int .i64 d))), (.tmp 3, .av (vv (.int .i64 lo))), (.tmp 5, .av (.ptr 1000 0)), (.tmp 8, .av (vv (.bool (exL (ex.take i) ((formedP k m kids.length ex cols wth agg rds), s.2.2.2.2)).1))), (.tmp 44, .av (.p (.ps (ex.map E.row)))), (.tmp 45, .av (vv (.int .i64 ex.length))), (.tmp 46, .av (vv (.int .i64 i))), (.var 0, .n 5), (.cell 0 0, .av (vv (.int .i64 (((IntKind.i64.wrap (s.1 + 1), (if d > s.2.1 then d else s.2.1), (if lo > s.2.2.1 then lo else s.2.2.1), s.2.2.2.1, (exL (ex.take i) ((formedP k m kids.length ex cols wth agg rds), s.2.2.2.2)).2) : PSrv)).1))), (.cell 0 1, .av (vv (.int .i64 (((IntKind.i64.wrap (s.1 + 1), (if d > s.2.1 then d else s.2.1), (if lo > s.2.2.1 then lo else s.2.2.1), s.2.2.2.1, (exL (ex.take i) ((formedP k m kids.length ex cols wth agg rds), s.2.2.2.2)).2) : PSrv)).2.1))), (.cell 0 2, .av (vv (.int .i64 (((IntKind.i64.wrap (s.1 + 1), (if d > s.2.1 then d else s.2.1), (if lo > s.2.2.1 then lo else s.2.2.1), s.2.2.2.1, (exL (ex.take i) ((formedP k m kids.length ex cols wth agg rds), s.2.2.2.2)).2) : PSrv)).2.2.1))), (.cell 0 3, .av (vv (.bool (((IntKind.i64.wrap (s.1 + 1), (if d > s.2.1 then d else s.2.1), (if lo > s.2.2.1 then lo else s.2.2.1), s.2.2.2.1, (exL (ex.take i) ((formedP k m kids.length ex cols wth agg rds), s.2.2.2.2)).2) : PSrv)).2.2.2.1))), (.cell 0 4, .av (vv (.bool (((IntKind.i64.wrap (s.1 + 1), (if d > s.2.1 then d else s.2.1), (if lo > s.2.2.1 then lo else s.2.2.1), s.2.2.2.1, (exL (ex.take i) ((formedP k m kids.length ex cols wth agg rds), s.2.2.2.2)).2) : PSrv)).2.2.2.2))), (.var 1000, .n 8), (.cell 1000 0, .av (vv (.int .u8 k))), (.cell 1000 1, .av (vv (.int .i64 m))), (.cell 1000 2, .av (.p (.ps (kids.map Pl.row)))), (.cell 1000 3, .av (.p (.ps (ex.map E.row)))), (.cell 1000 4, .av (.p (.ps (cols.map irow)))), (.cell 1000 5, .av (.p (.ps (wth.map irow)))), (.cell 1000 6, .av (vv (.int .u8 agg))), (.cell 1000 7, .av (vv (.int .i64 rds)))]) (ex.length) hG ⟨_, ⟨by simp [exL], by simp, by simp⟩, 0, by simp, trivial, rfl⟩ ?_
 rintro n _ ⟨i, hin, hfa, rfl⟩; refine srp 5000 [0,1,2,4,5,6,8,9,10,15,44,108,109,110] ?_; refine sq ?_; refine cd ?_ ?_
 · intro h47_1
   have hlt : i < ex.length := by simpa using h47_1
   obtain ⟨x, hxe⟩ : ∃ x, ex[i] = x := ⟨_, rfl⟩; have hx : ex[i]? = some x := by simp [hlt, hxe]
   obtain ⟨eo, ec, ev, ek⟩ := x; refine k_skip ?_; refine sq ?_; refine k_block ?_; refine sq ?_; refine rg 6000 ?_ (h := by simp [*, E.row_eq]; exact is_rfl _)
   refine pr [0,1,2,4,5,6,8,9,10,15,44,108,109,110] ?_; refine src 7000 ?_; refine oc id (spec22 eo ec ev ek) ?_; refine oe 7100 ?_; refine onp [0,1,2,4,5,6,8,9,10,15,44,108,109,110] ?_; refine rc 8000 ?_; iterate 2 (first | refine gp 8150 ?_ | refine os ?_ | refine gt 8150 ?_)
   refine oe 8200 ?_; iterate 2 (first | refine gp 8350 ?_ | refine os ?_ | refine gt 8350 ?_)
   refine oe 8400 ?_; refine on ?_; refine k_nil ?_; show AK _ _ _ _ _ _; refine rg 9000 ?_ (h := by simp [*, wrap_succ (show i < Flat.lim by omega)]; exact is_rfl _)
   refine k_nil ?_; refine ⟨n - 1, by omega, _, ⟨?_, ?_, ?_⟩, i + 1, by omega, trivial, rfl⟩ <;> simp [*, exL_take hx, exF]
 · intro h47_1
   have hge : ex.length ≤ i := by simpa using h47_1
   have htk : ex.take i = ex := List.take_of_length_le hge; refine k_exit ?_; show AK _ _ _ _ _ _; refine src 10000 ?_; iterate 2 (first | refine gp 10150 ?_ | refine os ?_ | refine gt 10150 ?_)
   refine oe 10200 ?_; refine onp [0,1,2,4,5,6,8,9,12,15,80,108,109,110] ?_; refine sq ?_; refine src 11000 ?_; iterate 2 (first | refine gp 11150 ?_ | refine os ?_ | refine gt 11150 ?_)
   refine oe 11200 ?_; refine onp [0,1,2,4,5,6,12,15,85,108,109,110] ?_; refine cd ?_ ?_
   · intro h85_2
     have h85_2 : (!(exL ex ((formedP k m kids.length ex cols wth agg rds), s.2.2.2.2)).1 || decide (d > 16)) = true := h85_2; refine k_ret ?_; show retQ _ _ _ _ _ _ _; simp [*, plook]
   · intro h85_2
     have h85_2 : (!(exL ex ((formedP k m kids.length ex cols wth agg rds), s.2.2.2.2)).1 || decide (d > 16)) = false := h85_2; refine k_skip ?_; refine srp 12000 [0,1,2,4,5,6,12,15,87,108,109,110] ?_; refine k_block ?_; refine k_loop (fun n l => ∃ i, i + n = kids.length ∧ (True) ∧ l = [(.tmp 0, .av (.ptr 0 0)), (.tmp 2, .av (vv (.int .i64 d))), (.tmp 3, .av (vv (.int .i64 lo))), (.tmp 5, .av (.ptr 1000 0)), (.tmp 87, .av (.p (.ps (kids.map Pl.row)))), (.tmp 88, .av (vv (.int .i64 kids.length))), (.tmp 89, .av (vv (.int .i64 i))), (.var 0, .n 5), (.cell 0 0, .av (vv (.int .i64 (plookL (kids.take i) k 0 d lo ((IntKind.i64.wrap (s.1 + 1), (if d > s.2.1 then d else s.2.1), (if lo > s.2.2.1 then lo else s.2.2.1), s.2.2.2.1 || !(exL ex ((formedP k m kids.length ex cols wth agg rds), s.2.2.2.2)).1, (exL ex ((formedP k m kids.length ex cols wth agg rds), s.2.2.2.2)).2) : PSrv)).1))), (.cell 0 1, .av (vv (.int .i64 (plookL (kids.take i) k 0 d lo ((IntKind.i64.wrap (s.1 + 1), (if d > s.2.1 then d else s.2.1), (if lo > s.2.2.1 then lo else s.2.2.1), s.2.2.2.1 || !(exL ex ((formedP k m kids.length ex cols wth agg rds), s.2.2.2.2)).1, (exL ex ((formedP k m kids.length ex cols wth agg rds), s.2.2.2.2)).2) : PSrv)).2.1))), (.cell 0 2, .av (vv (.int .i64 (plookL (kids.take i) k 0 d lo ((IntKind.i64.wrap (s.1 + 1), (if d > s.2.1 then d else s.2.1), (if lo > s.2.2.1 then lo else s.2.2.1), s.2.2.2.1 || !(exL ex ((formedP k m kids.length ex cols wth agg rds), s.2.2.2.2)).1, (exL ex ((formedP k m kids.length ex cols wth agg rds), s.2.2.2.2)).2) : PSrv)).2.2.1))), (.cell 0 3, .av (vv (.bool (plookL (kids.take i) k 0 d lo ((IntKind.i64.wrap (s.1 + 1), (if d > s.2.1 then d else s.2.1), (if lo > s.2.2.1 then lo else s.2.2.1), s.2.2.2.1 || !(exL ex ((formedP k m kids.length ex cols wth agg rds), s.2.2.2.2)).1, (exL ex ((formedP k m kids.length ex cols wth agg rds), s.2.2.2.2)).2) : PSrv)).2.2.2.1))), (.cell 0 4, .av (vv (.bool (plookL (kids.take i) k 0 d lo ((IntKind.i64.wrap (s.1 + 1), (if d > s.2.1 then d else s.2.1), (if lo > s.2.2.1 then lo else s.2.2.1), s.2.2.2.1 || !(exL ex ((formedP k m kids.length ex cols wth agg rds), s.2.2.2.2)).1, (exL ex ((formedP k m kids.length ex cols wth agg rds), s.2.2.2.2)).2) : PSrv)).2.2.2.2))), (.var 1000, .n 8), (.cell 1000 0, .av (vv (.int .u8 k))), (.cell 1000 1, .av (vv (.int .i64 m))), (.cell 1000 2, .av (.p (.ps (kids.map Pl.row)))), (.cell 1000 3, .av (.p (.ps (ex.map E.row)))), (.cell 1000 4, .av (.p (.ps (cols.map irow)))), (.cell 1000 5, .av (.p (.ps (wth.map irow)))), (.cell 1000 6, .av (vv (.int .u8 agg))), (.cell 1000 7, .av (vv (.int .i64 rds)))]) (kids.length) hG ⟨_, ⟨by simp [plookL], by simp, by simp⟩, 0, by simp, trivial, rfl⟩ ?_
     rintro n _ ⟨i, hin, hfa, rfl⟩; refine srp 13000 [0,1,2,4,5,6,12,15,87,108,109,110] ?_; refine sq ?_; refine cd ?_ ?_
     · intro h90_3
       have hlt : i < kids.length := by simpa using h90_3
       obtain ⟨x, hxe⟩ : ∃ x, kids[i] = x := ⟨_, rfl⟩; have hx : kids[i]? = some x := by simp [hlt, hxe]
       obtain ⟨xk, xn, xq, xe, xc, xw, xa, xr⟩ := x; have hmem : Pl.mk xk xn xq xe xc xw xa xr ∈ kids := hxe ▸ List.getElem_mem hlt; refine k_skip ?_; refine sq ?_; refine k_block ?_; refine sq ?_; refine rg 14000 ?_ (h := by simp [*, Pl.row_eq]; exact is_rfl _)
       refine pr [0,1,2,4,5,6,12,15,87,108,109,110] ?_; refine srp 15000 [0,1,2,4,5,6,12,15,87,108,109,110] ?_; refine sq ?_; refine src 16000 ?_; iterate 2 (first | refine gp 16150 ?_ | refine os ?_ | refine gt 16150 ?_)
       refine oe 16200 ?_; refine onp [0,1,2,4,5,6,12,15,87,108,109,110] ?_; refine cd ?_ ?_
       · intro h100_4
         have hmo : morP k i = 1 := if_pos h100_4; refine rgp 17000 [0,1,2,4,5,6,12,15,87,108,109,110] ?_; refine rc 18000 ?_; refine oc id (ih _ hmem (IntKind.i64.wrap (d + 1)) (IntKind.i64.wrap (lo + morP k i)) (plookL (kids.take i) k 0 d lo ((IntKind.i64.wrap (s.1 + 1), (if d > s.2.1 then d else s.2.1), (if lo > s.2.2.1 then lo else s.2.2.1), s.2.2.2.1 || !(exL ex ((formedP k m kids.length ex cols wth agg rds), s.2.2.2.2)).1, (exL ex ((formedP k m kids.length ex cols wth agg rds), s.2.2.2.2)).2) : PSrv))) ?_
         refine on ?_; refine k_nil ?_; show AK _ _ _ _ _ _; refine rg 19000 ?_ (h := by simp [*, wrap_succ (show i < Flat.lim by omega)]; exact is_rfl _)
         refine k_nil ?_; refine ⟨n - 1, by omega, _, ⟨?_, ?_, ?_⟩, i + 1, by omega, trivial, rfl⟩ <;> simp [*, plookL_take hx]
       · intro h100_4
         have hmo : morP k i = 0 := if_neg (by simp [h100_4])
         refine k_skip ?_; refine rc 18000 ?_; refine oc id (ih _ hmem (IntKind.i64.wrap (d + 1)) (IntKind.i64.wrap (lo + morP k i)) (plookL (kids.take i) k 0 d lo ((IntKind.i64.wrap (s.1 + 1), (if d > s.2.1 then d else s.2.1), (if lo > s.2.2.1 then lo else s.2.2.1), s.2.2.2.1 || !(exL ex ((formedP k m kids.length ex cols wth agg rds), s.2.2.2.2)).1, (exL ex ((formedP k m kids.length ex cols wth agg rds), s.2.2.2.2)).2) : PSrv))) ?_
         refine on ?_; refine k_nil ?_; show AK _ _ _ _ _ _; refine rg 19000 ?_ (h := by simp [*, wrap_succ (show i < Flat.lim by omega)]; exact is_rfl _)
         refine k_nil ?_; refine ⟨n - 1, by omega, _, ⟨?_, ?_, ?_⟩, i + 1, by omega, trivial, rfl⟩ <;> simp [*, plookL_take hx]
     · intro h90_3
       have hge : kids.length ≤ i := by simpa using h90_3
       have htk : kids.take i = kids := List.take_of_length_le hge; refine k_exit ?_; show AK _ _ _ _ _ _; refine k_nil ?_; show retQ _ _ _ _ _ _ _; simp [*, plook]
theorem spec65 : ∀ (p : Pl), p.bnd → ∀ (d lo : Int) (s : PSrv), Flat.Sp Tryz.prog 149 [.ptr 0 0, p.av, vv (.int .i64 d), vv (.int .i64 lo)] [(.var 0, .n 5), (.cell 0 0, .av (vv (.int .i64 (s).1))), (.cell 0 1, .av (vv (.int .i64 (s).2.1))), (.cell 0 2, .av (vv (.int .i64 (s).2.2.1))), (.cell 0 3, .av (vv (.bool (s).2.2.2.1))), (.cell 0 4, .av (vv (.bool (s).2.2.2.2)))] (.tup []) [(.var 0, .n 5), (.cell 0 0, .av (vv (.int .i64 (plook p d lo s).1))), (.cell 0 1, .av (vv (.int .i64 (plook p d lo s).2.1))), (.cell 0 2, .av (vv (.int .i64 (plook p d lo s).2.2.1))), (.cell 0 3, .av (vv (.bool (plook p d lo s).2.2.2.1))), (.cell 0 4, .av (vv (.bool (plook p d lo s).2.2.2.2)))] := by
 refine Pl.ind fun k m kids ex cols wth agg rds ih hb d lo s => ?_
 refine spec65_step k m kids ex cols wth agg rds hb (fun x hx => ih x hx ?_) d lo s
 rw [Pl.bnd] at hb; exact Pl.bndL_mem hb.2.2.2.2 x hx
def surveyP (p : Pl) : PSrv := plook p 1 0 (0, 0, 0, false, false)
def checkP (p : Pl) : Int := let s := surveyP p; if s.2.2.2.1 then 4 else if s.2.2.2.2 then 2 else if decide (64 < s.1) then 2 else if decide (16 < s.2.1) then 2 else if decide (2 < s.2.2.1) then 2 else 0
attribute [local simp] Pl.av in
theorem spec32 (k m : Int) (kids : List Pl) (ex : List E) (cols wth : List Int) (agg rds : Int) (hb : (Pl.mk k m kids ex cols wth agg rds).bnd) : Flat.Sp Tryz.prog 66 [(Pl.mk k m kids ex cols wth agg rds).av] [] (vv (.int .i64 (checkP (Pl.mk k m kids ex cols wth agg rds)))) [] := by
 refine sk Tryz.func66 ?_; intro F G hn hG; refine srp 1000 [1,5,6,21] ?_; refine srp 2000 [1,5,6,21] ?_; refine src 3000 ?_; refine oc (fun _ => 2000) (spec65 (Pl.mk k m kids ex cols wth agg rds) hb 1 0 (0, 0, 0, false, false)) ?_
 refine onp [2,4,6,21] ?_; refine sq ?_; refine k_block ?_; refine srp 4000 [2,4,6,7,9,21] ?_; refine cd ?_ ?_
 · intro h6_1
   refine srp 5000 [2,3] ?_; refine k_ret ?_; show retQ _ _ _ _ _ _ _; first | (simp [*, checkP, surveyP]; done) | (simp only [checkP, surveyP, *]; rfl) | (simp only [decide_eq_true_eq, decide_eq_false_iff_not] at *; simp [*, checkP, surveyP])
 · intro h6_1
   refine sq ?_; refine srp 6000 [2,4,9,10,12,21] ?_; refine cd ?_ ?_
   · intro h9_2
     refine k_skip ?_; refine ct ?_; refine srp 10000 [2,3] ?_; refine k_ret ?_; show retQ _ _ _ _ _ _ _; first | (simp [*, checkP, surveyP]; done) | (simp only [checkP, surveyP, *]; rfl) | (simp only [decide_eq_true_eq, decide_eq_false_iff_not] at *; simp [*, checkP, surveyP])
   · intro h9_2
     refine srp 7000 [2,4,9,10,15,21] ?_; refine cd ?_ ?_
     · intro h9_3
       refine k_skip ?_; refine ct ?_; refine srp 10000 [2,3] ?_; refine k_ret ?_; show retQ _ _ _ _ _ _ _; first | (simp [*, checkP, surveyP]; done) | (simp only [checkP, surveyP, *]; rfl) | (simp only [decide_eq_true_eq, decide_eq_false_iff_not] at *; simp [*, checkP, surveyP])
     · intro h9_3
       refine srp 8000 [2,4,9,10,18,21] ?_; refine cd ?_ ?_
       · intro h9_4
         refine k_skip ?_; refine ct ?_; refine srp 10000 [2,3] ?_; refine k_ret ?_; show retQ _ _ _ _ _ _ _; first | (simp [*, checkP, surveyP]; done) | (simp only [checkP, surveyP, *]; rfl) | (simp only [decide_eq_true_eq, decide_eq_false_iff_not] at *; simp [*, checkP, surveyP])
       · intro h9_4
         refine rgp 9000 [2,3,9,10] ?_; refine cd ?_ ?_
         · intro h9_5
           refine srp 10000 [2,3] ?_; refine k_ret ?_; show retQ _ _ _ _ _ _ _; first | (simp [*, checkP, surveyP]; done) | (simp only [checkP, surveyP, *]; rfl) | (simp only [decide_eq_true_eq, decide_eq_false_iff_not] at *; simp [*, checkP, surveyP])
         · intro h9_5
           refine k_skip ?_; refine k_nil ?_; show AK _ _ _ _ _ _; refine srp 11000 [2,3] ?_; refine k_ret ?_; show retQ _ _ _ _ _ _ _; first | (simp [*, checkP, surveyP]; done) | (simp only [checkP, surveyP, *]; rfl) | (simp only [decide_eq_true_eq, decide_eq_false_iff_not] at *; simp [*, checkP, surveyP])
end
section
def srow (ts : List Int) : List PV := [.ps (ts.map trow)]
def firstP {α : Type} (p : α → Bool) : List α → Nat → Int
 | [], _ => -1
 | v :: r, i => if p v then i else firstP p r (i + 1)
theorem firstP_drop {α : Type} {p : α → Bool} {xs : List α} {i : Nat} {x : α} (h : xs[i]? = some x) : firstP p (xs.drop i) i = if p x then (i : Int) else firstP p (xs.drop (i + 1)) (i + 1) := by
 obtain ⟨h1, h2⟩ := List.getElem?_eq_some_iff.1 h; rw [List.drop_eq_getElem_cons h1, h2]; rfl
theorem firstP_any {α : Type} {p : α → Bool} : ∀ (xs : List α) (i : Nat), decide (0 ≤ firstP p xs i) = xs.any p
 | [], _ => by simp [firstP]
 | v :: r, i => by
   cases h : p v with
   | true =>
     have : firstP p (v :: r) i = i := by simp [firstP, h]
     simp [this, h, Int.natCast_nonneg]
   | false =>
     have : firstP p (v :: r) i = firstP p r (i + 1) := by simp [firstP, h]
     rw [this, firstP_any r (i + 1)]; simp [h]
def badT (t : Int) : Bool := t != 1 && t != 2
theorem spec61 (t : Int) : Flat.Sp Tryz.prog 145 [vv (.int .u8 t)] [] (vv (.bool (badT t))) [] := by
 refine sk Tryz.func145 ?_; intro F G hn hG; refine srp 1000 [0,1,2,9] ?_; refine sq ?_; refine cv [(.tmp 2, vv (.bool (badT t)))] ?_ ?_
 · skip
   refine rc 2000 ?_ (h := by simp [*, badT]; exact is_rfl _)
   iterate 2 (first | refine gp 2150 ?_ (he := by intro hgg; (try simp only [Bool.and_eq_true] at hgg); simp [*, badT]; exact is_rfl _) | refine os ?_ | refine gt 2150 ?_ (he := by simp [*, badT]; exact is_rfl _))
   refine oe 2200 ?_ (h := by simp [*, badT]; exact is_rfl _)
   refine on ?_; refine k_nil ?_; refine ⟨rfl, ?_, ?_, ?_⟩ <;> simp [*, badT]
 refine pr [2,3] ?_; refine k_ret ?_; show retQ _ _ _ _ _ _ _; simp [*, badT]
attribute [local simp] trow in
theorem spec119 (ts : List Int) (hlen : ts.length ≤ Flat.lim) : Flat.Sp Tryz.prog 232 [.p (.ps (ts.map trow)), .fn (.func 145) []] [] (vv (.int .i64 (firstP badT ts 0))) [] := by
 refine sk Tryz.func232 ?_; intro F G hn hG; refine srp 1000 [0,2,4,19] ?_; refine sq ?_; refine srp 2000 [0,2,4,6,7,19] ?_; refine k_block ?_; refine k_loop (fun n l => ∃ i, i + n = ts.length ∧ (firstP badT ts 0 = firstP badT (ts.drop i) i) ∧ l = [(.tmp 0, .av (.p (.ps (ts.map trow)))), (.tmp 1, .av (.fn (.func 145) [])), (.tmp 7, .av (vv (.int .i64 ts.length))), (.tmp 8, .av (vv (.int .i64 i)))]) (ts.length) hG ⟨_, ⟨by simp, by simp, by simp⟩, 0, by simp, rfl, rfl⟩ ?_
 rintro n _ ⟨i, hin, hfa, rfl⟩; have hwi : i < Flat.lim → IntKind.i64.wrap ((i : Int) + 1) = (i : Int) + 1 := wrap_succ; refine srp 3000 [0,2,4,6,7,19] ?_; refine sq ?_; refine cd ?_ ?_
 · intro h9_1
   have hlt : i < ts.length := by simpa using h9_1
   obtain ⟨x, hxe⟩ : ∃ x, ts[i] = x := ⟨_, rfl⟩; have hx : ts[i]? = some x := by simp [hlt, hxe]
   have hfd := firstP_drop (p := badT) hx; have hwi := hwi (by omega)
   refine k_skip ?_; refine sq ?_; refine k_block ?_; refine srp 4000 [0,2,4,6,7,19] ?_; refine src 5000 ?_; refine oc id (spec61 x) ?_; refine onp [0,2,4,6,7,19] ?_; refine cd ?_ ?_
   · intro h16_2
     have hr : badT x = true := by simpa using h16_2
     refine srp 6000 [0,2,4,6,7,19] ?_; refine k_ret ?_; show retQ _ _ _ _ _ _ _; simp [*]
   · intro h16_2
     have hr : badT x = false := by simpa using h16_2
     refine k_skip ?_; refine k_nil ?_; show AK _ _ _ _ _ _; refine rg 7000 ?_; refine k_nil ?_; refine ⟨n - 1, by omega, _, ⟨?_, ?_, ?_⟩, i + 1, by omega, by rw [hfa, hfd, hr, if_neg (by simp)], rfl⟩ <;> simp [*]
 · intro h9_1
   have hge : ts.length ≤ i := by simpa using h9_1
   have hfe : firstP badT (ts.drop i) i = -1 := by rw [List.drop_eq_nil_of_le hge]; rfl
   refine k_exit ?_; show AK _ _ _ _ _ _; refine srp 8000 [4,5] ?_; refine k_ret ?_; show retQ _ _ _ _ _ _ _; simp [*]
attribute [local simp] firstP_any in
theorem spec64 (ts : List Int) (hlen : ts.length ≤ Flat.lim) : Flat.Sp Tryz.prog 148 [.p (.ps (ts.map trow)), .fn (.func 145) []] [] (vv (.bool (ts.any badT))) [] := by
 refine sk Tryz.func148 ?_; intro F G hn hG; refine srp 1000 [0,2,4,9] ?_; refine src 2000 ?_; refine oc id (spec119 ts hlen) ?_; refine oe 2100 ?_; refine onp [4,5] ?_; refine k_ret ?_; show retQ _ _ _ _ _ _ _; simp [*]
def badS (ts : List Int) : Bool := decide ((8 : Int) < ts.length) || ts.any badT
theorem len8_lim {n : Nat} (h : (!decide ((8 : Int) < n)) = true) : n ≤ Flat.lim := by simp only [Flat.lim, Bool.not_eq_true', decide_eq_false_iff_not] at *; omega
attribute [local simp] badS in
theorem spec63 (ts : List Int) : Flat.Sp Tryz.prog 147 [.p (.ps (ts.map trow)), .ptr 0 0] [(.var 0, .n 1), (.cell 0 0, .av (.fn (.func 145) []))] (vv (.bool (badS ts))) [(.var 0, .n 1), (.cell 0 0, .av (.fn (.func 145) []))] := by
 refine sk Tryz.func147 ?_; intro F G hn hG; refine srp 1000 [0,2,3,12] ?_; refine src 2000 ?_; iterate 2 (first | refine gp 2150 ?_ | refine os ?_ | refine gt 2150 ?_)
 refine og (fun hg => spec64 ts (len8_lim hg)) ?_
 refine oe 2300 ?_; refine onp [3,4] ?_; refine k_ret ?_; show retQ _ _ _ _ _ _ _; simp [*]
attribute [local simp] srow in
theorem spec118a (ss : List (List Int)) (hlen : ss.length ≤ Flat.lim) : Flat.Sp Tryz.prog 231 [.p (.ps (ss.map srow)), .fn (.func 147) [.ptr 0 0]] [(.var 0, .n 1), (.cell 0 0, .av (.fn (.func 145) []))] (vv (.int .i64 (firstP badS ss 0))) [(.var 0, .n 1), (.cell 0 0, .av (.fn (.func 145) []))] := by
 refine sk Tryz.func231 ?_; intro F G hn hG; refine srp 1000 [0,2,4,19] ?_; refine sq ?_; refine srp 2000 [0,2,4,6,7,19] ?_; refine k_block ?_; refine k_loop (fun n l => ∃ i, i + n = ss.length ∧ (firstP badS ss 0 = firstP badS (ss.drop i) i) ∧ l = [(.tmp 0, .av (.p (.ps (ss.map srow)))), (.tmp 1, .av (.fn (.func 147) [.ptr 0 0])), (.tmp 7, .av (vv (.int .i64 ss.length))), (.tmp 8, .av (vv (.int .i64 i))), (.var 0, .n 1), (.cell 0 0, .av (.fn (.func 145) []))]) (ss.length) hG ⟨_, ⟨by simp, by simp, by simp⟩, 0, by simp, rfl, rfl⟩ ?_
 rintro n _ ⟨i, hin, hfa, rfl⟩; have hwi : i < Flat.lim → IntKind.i64.wrap ((i : Int) + 1) = (i : Int) + 1 := wrap_succ; refine srp 3000 [0,2,4,6,7,19] ?_; refine sq ?_; refine cd ?_ ?_
 · intro h9_1
   have hlt : i < ss.length := by simpa using h9_1
   obtain ⟨x, hxe⟩ : ∃ x, ss[i] = x := ⟨_, rfl⟩; have hx : ss[i]? = some x := by simp [hlt, hxe]
   have hfd := firstP_drop (p := badS) hx; have hwi := hwi (by omega)
   refine k_skip ?_; refine sq ?_; refine k_block ?_; refine srp 4000 [0,2,4,6,7,19] ?_; refine src 5000 ?_; refine oc id (spec63 x) ?_; refine onp [0,2,4,6,7,19] ?_; refine cd ?_ ?_
   · intro h16_2
     have hr : badS x = true := by simpa using h16_2
     refine srp 6000 [0,2,4,6,7,19] ?_; refine k_ret ?_; show retQ _ _ _ _ _ _ _; simp [*]
   · intro h16_2
     have hr : badS x = false := by simpa using h16_2
     refine k_skip ?_; refine k_nil ?_; show AK _ _ _ _ _ _; refine rg 7000 ?_; refine k_nil ?_; refine ⟨n - 1, by omega, _, ⟨?_, ?_, ?_⟩, i + 1, by omega, by rw [hfa, hfd, hr, if_neg (by simp)], rfl⟩ <;> simp [*]
 · intro h9_1
   have hge : ss.length ≤ i := by simpa using h9_1
   have hfe : firstP badS (ss.drop i) i = -1 := by rw [List.drop_eq_nil_of_le hge]; rfl
   refine k_exit ?_; show AK _ _ _ _ _ _; refine srp 8000 [4,5] ?_; refine k_ret ?_; show retQ _ _ _ _ _ _ _; simp [*]
attribute [local simp] firstP_any in
theorem spec62a (ss : List (List Int)) (hlen : ss.length ≤ Flat.lim) : Flat.Sp Tryz.prog 146 [.p (.ps (ss.map srow)), .fn (.func 147) [.ptr 0 0]] [(.var 0, .n 1), (.cell 0 0, .av (.fn (.func 145) []))] (vv (.bool (ss.any badS))) [(.var 0, .n 1), (.cell 0 0, .av (.fn (.func 145) []))] := by
 refine sk Tryz.func146 ?_; intro F G hn hG; refine srp 1000 [0,2,4,9] ?_; refine src 2000 ?_; refine oc id (spec118a ss hlen) ?_; refine oe 2100 ?_; refine onp [4,5] ?_; refine k_ret ?_; show retQ _ _ _ _ _ _ _; simp [*]
def checkSch (ss : List (List Int)) : Int := if decide ((8 : Int) < ss.length) || ss.any badS then 4 else 0
attribute [local simp] checkSch in
theorem spec30 (ss : List (List Int)) : Flat.Sp Tryz.prog 65 [.p (.ps (ss.map srow))] [] (vv (.int .i64 (checkSch ss))) [] := by
 refine sk Tryz.func65 ?_; intro F G hn hG; refine srp 1000 [0,1,2,12] ?_; refine srp 2000 [0,1,2,12] ?_; refine sq ?_; refine sq ?_; refine cv [(.tmp 11, vv (.bool (decide ((8 : Int) < ss.length) || ss.any badS)))] ?_ ?_
 · skip
   rcases h0 : (decide ((8 : Int) < ss.length) : Bool) with _ | _
   · skip
     refine rc 3000 ?_; iterate 2 (first | refine gp 3150 ?_ | refine os ?_ | refine gt 3150 ?_)
     refine oc (fun _ => 2000) (spec62a ss (len8_lim (by rw [h0]; rfl))) ?_
     refine oe 3300 ?_; refine on ?_; refine k_nil ?_; refine ⟨rfl, ?_, ?_, ?_⟩ <;> simp [*]
   · skip
     refine rc 1003000 ?_; iterate 2 (first | refine gp 1003150 ?_ | refine os ?_ | refine gt 1003150 ?_)
     refine os ?_; refine oe 1003300 ?_; refine on ?_; refine k_nil ?_; refine ⟨rfl, ?_, ?_, ?_⟩ <;> simp [*]
 refine pr [2,3,11,12] ?_; refine cd ?_ ?_
 · intro h11_1
   refine srp 4000 [2,3] ?_; refine k_ret ?_; show retQ _ _ _ _ _ _ _; simp [*]
 · intro h11_1
   refine k_skip ?_; refine srp 5000 [2,3] ?_; refine k_ret ?_; show retQ _ _ _ _ _ _ _; simp [*]
theorem eq_stop {a b : List Int} {i : Nat} (ha : i < a.length) (hb : i < b.length) (h : a[i] ≠ b[i]) : (a == b) = false := by
 rw [beq_eq_false_iff_ne]; rintro rfl; exact h rfl
theorem eq_step {a b : List Int} {i : Nat} (ha : i < a.length) (hb : i < b.length) (h0 : a.take i = b.take i) (h : a[i] = b[i]) : a.take (i + 1) = b.take (i + 1) := by
 rw [List.take_succ_eq_append_getElem ha, List.take_succ_eq_append_getElem hb, h0, h]
theorem eq_all {a b : List Int} {i : Nat} (hl : a.length = b.length) (hi : a.length ≤ i) (h0 : a.take i = b.take i) : (a == b) = true := by
 rw [List.take_of_length_le hi, List.take_of_length_le (by omega)] at h0
 simp [h0]
theorem eq_len {a b : List Int} (h : a.length ≠ b.length) : (a == b) = false := by
 rw [beq_eq_false_iff_ne]; rintro rfl; exact h rfl
attribute [local simp] trow in
theorem spec114 (a b : List Int) (ha : a.length ≤ Flat.lim) : Flat.Sp Tryz.prog 136 [.p (.ps (a.map trow)), .p (.ps (b.map trow))] [] (vv (.bool (a == b))) [] := by
 refine sk Tryz.func136 ?_; intro F G hn hG; refine srp 1000 [0,2,4,26] ?_; refine sq ?_; refine srp 2000 [0,2,4,6,10,26] ?_; refine cd ?_ ?_
 · intro h10_1
   have hq : (a == b) = false := eq_len (by have := h10_1; simp at this; omega)
   clear h10_1; refine srp 3000 [0,2,4,6,11,26] ?_; refine k_ret ?_; show retQ _ _ _ _ _ _ _; simp [*]
 · intro h10_1
   have hll : ¬ a.length < b.length ∧ ¬ b.length < a.length := by have := h10_1; simp at this; omega
   clear h10_1; refine k_skip ?_; refine sq ?_; refine srp 4000 [0,2,4,6,12,26] ?_; refine k_block ?_; refine k_loop (fun n l => ∃ i, i + n = a.length ∧ (a.take i = b.take i) ∧ l = [(.tmp 0, .av (.p (.ps (a.map trow)))), (.tmp 1, .av (.p (.ps (b.map trow)))), (.tmp 12, .av (vv (.int .i64 a.length))), (.tmp 13, .av (vv (.int .i64 i)))]) (a.length) hG ⟨_, ⟨by simp, by simp, by simp⟩, 0, by simp, rfl, rfl⟩ ?_
   rintro n _ ⟨i, hin, hfa, rfl⟩; refine srp 5000 [0,2,4,6,12,26] ?_; refine sq ?_; refine cd ?_ ?_
   · intro h14_2
     have hlt : i < a.length := by simpa using h14_2
     obtain ⟨x, hxe⟩ : ∃ x, a[i] = x := ⟨_, rfl⟩; have hx : a[i]? = some x := by simp [hlt, hxe]
     have hltb : i < b.length := by omega
     obtain ⟨y, hye⟩ : ∃ y, b[i] = y := ⟨_, rfl⟩; refine k_skip ?_; refine sq ?_; refine k_block ?_; refine srp 6000 [0,2,4,6,12,26] ?_; refine sq ?_; refine dr ?_; refine de 7000 ?_; refine dn ?_; refine pr [0,2,4,6,12,26] ?_; refine cd ?_ ?_
     · intro h24_3
       have hxy : ¬ x = y := by simpa using h24_3
       have hq := eq_stop hlt hltb (by rw [hxe, hye]; exact hxy)
       refine srp 8000 [0,2,4,6,12,26] ?_; refine k_ret ?_; show retQ _ _ _ _ _ _ _; simp [*]
     · intro h24_3
       have hxy : x = y := by simpa using h24_3
       have hst := eq_step hlt hltb hfa (by rw [hxe, hye]; exact hxy)
       refine k_skip ?_; refine k_nil ?_; show AK _ _ _ _ _ _; refine rg 9000 ?_ (h := by simp [*, wrap_succ (show i < Flat.lim by omega)]; exact is_rfl _)
       refine k_nil ?_; refine ⟨n - 1, by omega, _, ⟨?_, ?_, ?_⟩, i + 1, by omega, hst, rfl⟩ <;> simp [*]
   · intro h14_2
     have hge : a.length ≤ i := by simpa using h14_2
     have hq := eq_all (by omega) hge hfa
     refine k_exit ?_; show AK _ _ _ _ _ _; refine srp 10000 [4,5] ?_; refine k_ret ?_; show retQ _ _ _ _ _ _ _; simp [*]
end
section
theorem spec112 (S A : List (List Int)) (nd : Nat) (f : Int) (ok : Bool) (why : Int) : Flat.Sp Tryz.prog 153 [.ptr 0 0, vv (.bool ok), vv (.int .i64 why)] [(.var 0, .n 3), (.cell 0 0, .av (vv (.int .i64 (f)))), (.cell 0 1, .av (.p (.ps (S.map srow)))), (.cell 0 2, .av (.sl 1 (A).length 0 (nd))), (.arr 1, .arr 67 1 ((A).map srow) 0)] (.tup []) [(.var 0, .n 3), (.cell 0 0, .av (vv (.int .i64 (unlessF f ok why)))), (.cell 0 1, .av (.p (.ps (S.map srow)))), (.cell 0 2, .av (.sl 1 (A).length 0 (nd))), (.arr 1, .arr 67 1 ((A).map srow) 0)] := by
 refine sk Tryz.func153 ?_; intro F G hn hG; refine sq ?_; refine cv [(.tmp 14, vv (.bool ((f == 0) && !ok)))] ?_ ?_
 · skip
   rcases h0 : (f == 0 : Bool) with _ | _
   · skip
     refine rc 1000 ?_; iterate 2 (first | refine gp 1150 ?_ | refine os ?_ | refine gt 1150 ?_)
     refine oe 1200 ?_; refine on ?_; refine k_nil ?_; refine ⟨rfl, ?_, ?_, ?_⟩ <;> simp [*]
   · skip
     refine rc 1001000 ?_; iterate 2 (first | refine gp 1001150 ?_ | refine os ?_ | refine gt 1001150 ?_)
     refine oe 1001200 ?_; refine on ?_; refine k_nil ?_; refine ⟨rfl, ?_, ?_, ?_⟩ <;> simp [*]
 refine pr [0,1,2,3,14,19] ?_; refine cd ?_ ?_
 · intro h14_1
   refine rg 2000 ?_; refine k_nil ?_; show retQ _ _ _ _ _ _ _; simp [*, unlessF]
 · intro h14_1
   refine k_skip ?_; refine k_nil ?_; show retQ _ _ _ _ _ _ _; simp [*, unlessF]
def offI (i : Int) (l : List (List Int)) : Bool := decide (i < 0) || decide ((l.length : Int) ≤ i)
def oneJ (l : List (List Int)) (i : Int) : List Int := if offI i l then [] else l.getD i.toNat []
def oneW (l : List (List Int)) (i w : Int) : Int := if offI i l then unlessF w false 1 else w
attribute [local simp] srow in
theorem spec109 (S A : List (List Int)) (nd : Nat) (l : List (List Int)) (i w : Int) : Flat.Sp Tryz.prog 150 [.ptr 0 0, .p (.ps (l.map srow)), vv (.int .i64 i)] [(.var 0, .n 3), (.cell 0 0, .av (vv (.int .i64 (w)))), (.cell 0 1, .av (.p (.ps (S.map srow)))), (.cell 0 2, .av (.sl 1 (A).length 0 (nd))), (.arr 1, .arr 67 1 ((A).map srow) 0)] (.p (.ps ((oneJ l i).map trow))) [(.var 0, .n 3), (.cell 0 0, .av (vv (.int .i64 (oneW l i w)))), (.cell 0 1, .av (.p (.ps (S.map srow)))), (.cell 0 2, .av (.sl 1 (A).length 0 (nd))), (.arr 1, .arr 67 1 ((A).map srow) 0)] := by
 refine sk Tryz.func150 ?_; intro F G hn hG; refine srp 1000 [0,3,6,18,19,23] ?_; refine sq ?_; refine sq ?_; refine cv [(.tmp 14, vv (.bool (offI i l)))] ?_ ?_
 · skip
   rcases h0 : (decide (i < 0) : Bool) with _ | _
   · skip
     refine rc 2000 ?_ (h := by simp [*, offI]; exact is_rfl _)
     iterate 4 (first | refine gp 2350 ?_ (he := by intro hgg; (try simp only [Bool.and_eq_true] at hgg); simp [*, offI]; exact is_rfl _) | refine os ?_ | refine gt 2350 ?_ (he := by simp [*, offI]; exact is_rfl _))
     refine oe 2400 ?_ (h := by simp [*, offI]; exact is_rfl _)
     refine on ?_; refine k_nil ?_; refine ⟨rfl, ?_, ?_, ?_⟩ <;> simp [*, offI]
   · skip
     refine rc 1002000 ?_ (h := by simp [*, offI]; exact is_rfl _)
     iterate 4 (first | refine gp 1002350 ?_ (he := by intro hgg; (try simp only [Bool.and_eq_true] at hgg); simp [*, offI]; exact is_rfl _) | refine os ?_ | refine gt 1002350 ?_ (he := by simp [*, offI]; exact is_rfl _))
     refine oe 1002400 ?_ (h := by simp [*, offI]; exact is_rfl _)
     refine on ?_; refine k_nil ?_; refine ⟨rfl, ?_, ?_, ?_⟩ <;> simp [*, offI]
 refine pr [0,3,6,7,14,18,19,23] ?_; refine cd ?_ ?_
 · intro h14_1
   have h14_1 : offI i l = true := h14_1; refine src 3000 ?_; refine oc id (spec112 S A nd w false 1) ?_; refine onp [1,3,6,7,19,23] ?_; refine srp 4000 [1,3,6,7,19,23] ?_; refine k_ret ?_; show retQ _ _ _ _ _ _ _; simp [*, oneJ, oneW]
 · intro h14_1
   have h14_1 : offI i l = false := h14_1; have hoff := h14_1; simp only [offI, Bool.or_eq_false_iff, decide_eq_false_iff_not, Int.not_lt, Int.not_le] at hoff; obtain ⟨k, rfl⟩ := Int.eq_ofNat_of_zero_le hoff.1; have hlt : k < l.length := by omega
   obtain ⟨t, hte⟩ : ∃ t, l[k] = t := ⟨_, rfl⟩; refine k_skip ?_; refine srp 5000 [6,7] ?_; refine k_ret ?_; show retQ _ _ _ _ _ _ _; simp [*, oneJ, oneW]
def offN (i : Int) (n : Nat) : Bool := decide (i < 0) || decide ((n : Int) ≤ i)
attribute [local simp] srow in
theorem spec109o (S A : List (List Int)) (nd : Nat) (hnd : nd ≤ A.length) (i w : Int) : Flat.Sp Tryz.prog 150 [.ptr 0 0, .sl 1 A.length 0 nd, vv (.int .i64 i)] [(.var 0, .n 3), (.cell 0 0, .av (vv (.int .i64 (w)))), (.cell 0 1, .av (.p (.ps (S.map srow)))), (.cell 0 2, .av (.sl 1 (A).length 0 (nd))), (.arr 1, .arr 67 1 ((A).map srow) 0)] (.p (.ps ((oneJ (A.take nd) i).map trow))) [(.var 0, .n 3), (.cell 0 0, .av (vv (.int .i64 (oneW (A.take nd) i w)))), (.cell 0 1, .av (.p (.ps (S.map srow)))), (.cell 0 2, .av (.sl 1 (A).length 0 (nd))), (.arr 1, .arr 67 1 ((A).map srow) 0)] := by
 refine sk Tryz.func150 ?_; intro F G hn hG; have hmn : min nd A.length = nd := Nat.min_eq_left hnd; refine srp 1000 [0,3,6,18,19,23] ?_; refine sq ?_; refine sq ?_; refine cv [(.tmp 14, vv (.bool (offN i nd)))] ?_ ?_
 · skip
   rcases h0 : (decide (i < 0) : Bool) with _ | _
   · skip
     refine rc 2000 ?_ (h := by simp [*, offN]; exact is_rfl _)
     iterate 4 (first | refine gp 2350 ?_ (he := by intro hgg; (try simp only [Bool.and_eq_true] at hgg); simp [*, offN]; exact is_rfl _) | refine os ?_ | refine gt 2350 ?_ (he := by simp [*, offN]; exact is_rfl _))
     refine oe 2400 ?_ (h := by simp [*, offN]; exact is_rfl _)
     refine on ?_; refine k_nil ?_; refine ⟨rfl, ?_, ?_, ?_⟩ <;> simp [*, offN]
   · skip
     refine rc 1002000 ?_ (h := by simp [*, offN]; exact is_rfl _)
     iterate 4 (first | refine gp 1002350 ?_ (he := by intro hgg; (try simp only [Bool.and_eq_true] at hgg); simp [*, offN]; exact is_rfl _) | refine os ?_ | refine gt 1002350 ?_ (he := by simp [*, offN]; exact is_rfl _))
     refine oe 1002400 ?_ (h := by simp [*, offN]; exact is_rfl _)
     refine on ?_; refine k_nil ?_; refine ⟨rfl, ?_, ?_, ?_⟩ <;> simp [*, offN]
 refine pr [0,3,6,7,14,18,19,23] ?_; refine cd ?_ ?_
 · intro h14_1
   have h14_1 : offN i nd = true := h14_1; have hoo : offI i (A.take nd) = true := by simpa [offI, offN, hmn] using h14_1
   refine src 3000 ?_; refine oc id (spec112 S A nd w false 1) ?_; refine onp [1,3,6,7,19,23] ?_; refine srp 4000 [1,3,6,7,19,23] ?_; refine k_ret ?_; show retQ _ _ _ _ _ _ _; simp [*, oneJ, oneW]
 · intro h14_1
   have h14_1 : offN i nd = false := h14_1; have hoo : offI i (A.take nd) = false := by simpa [offI, offN, hmn] using h14_1
   have hoff := h14_1; simp only [offN, Bool.or_eq_false_iff, decide_eq_false_iff_not, Int.not_lt, Int.not_le] at hoff; obtain ⟨k, rfl⟩ := Int.eq_ofNat_of_zero_le hoff.1; have hlt : k < nd := by omega
   have hlt2 : k < A.length := by omega
   obtain ⟨t, hte⟩ : ∃ t, A[k] = t := ⟨_, rfl⟩; refine k_skip ?_; refine srp 5000 [6,7] ?_; refine k_ret ?_; show retQ _ _ _ _ _ _ _; simp [*, oneJ, oneW]
def atF (ts : List Int) (r : List Int × Int) (c : Int) : List Int × Int :=
 let w := unlessF r.2 (decide (0 ≤ c) && decide (c < ts.length)) 1
 if w == 0 then (r.1 ++ [ts.getD c.toNat 0], w) else (r.1, w)
def atJ (ts : List Int) (cols : List Int) (w : Int) : List Int × Int := cols.foldl (atF ts) ([], w)
theorem atL_take {ts cols : List Int} {w : Int} {i : Nat} {x : Int} (h : cols[i]? = some x) : atJ ts (cols.take (i + 1)) w = atF ts (atJ ts (cols.take i) w) x := by
 simp [atJ, List.take_add_one, h, List.foldl_append]
theorem atF_len (ts : List Int) (r : List Int × Int) (c : Int) : (atF ts r c).1.length ≤ r.1.length + 1 := by
 simp only [atF]; split <;> simp
theorem foldl_at_len (ts : List Int) : ∀ (cols : List Int) (r : List Int × Int), (cols.foldl (atF ts) r).1.length ≤ r.1.length + cols.length
 | [], r => by simp
 | c :: q, r => by
   have h1 := atF_len ts r c; have h2 := foldl_at_len ts q (atF ts r c); simp only [List.foldl_cons, List.length_cons]; omega
theorem atJ_len (ts cols : List Int) (w : Int) : (atJ ts cols w).1.length ≤ cols.length := by
 have := foldl_at_len ts cols ([], w)
 simpa [atJ] using this
attribute [local simp] irow in
theorem spec113 (S A : List (List Int)) (nd : Nat) (ts cols : List Int) (hc : cols.length ≤ Bnd) (w : Int) : Flat.Sp Tryz.prog 154 [.ptr 0 0, .p (.ps (ts.map trow)), .p (.ps (cols.map irow))] [(.var 0, .n 3), (.cell 0 0, .av (vv (.int .i64 (w)))), (.cell 0 1, .av (.p (.ps (S.map srow)))), (.cell 0 2, .av (.sl 1 (A).length 0 (nd))), (.arr 1, .arr 67 1 ((A).map srow) 0)] (.sl 900 (atJ ts cols w).1.length 0 (atJ ts cols w).1.length) [(.var 0, .n 3), (.cell 0 0, .av (vv (.int .i64 ((atJ ts cols w).2)))), (.cell 0 1, .av (.p (.ps (S.map srow)))), (.cell 0 2, .av (.sl 1 (A).length 0 (nd))), (.arr 1, .arr 67 1 ((A).map srow) 0), (.arr 900, .arr 73 1 ((atJ ts cols w).1.map trow) 0)] := by
 refine sk Tryz.func154 ?_; intro F G hn hG; have hcl := Bnd_lim hc; refine srp 1000 [0,3,6,7,8,26,27,42] ?_; refine sq ?_; refine srp 2000 [0,2,6,7,8,26,27,42] ?_; refine k_block ?_; refine ow (.tmp 6) 900 73 1 ?_; refine k_loop (fun n l => ∃ i, i + n = cols.length ∧ (True) ∧ l = [(.tmp 0, .av (.ptr 0 0)), (.tmp 1, .av (.p (.ps (ts.map trow)))), (.tmp 6, .av (.sl 900 (atJ ts (cols.take i) w).1.length 0 (atJ ts (cols.take i) w).1.length)), (.tmp 9, .av (.p (.ps (cols.map irow)))), (.tmp 10, .av (vv (.int .i64 cols.length))), (.tmp 11, .av (vv (.int .i64 i))), (.var 0, .n 3), (.cell 0 0, .av (vv (.int .i64 ((atJ ts (cols.take i) w).2)))), (.cell 0 1, .av (.p (.ps (S.map srow)))), (.cell 0 2, .av (.sl 1 (A).length 0 (nd))), (.arr 1, .arr 67 1 ((A).map srow) 0), (.arr 900, .arr 73 1 ((atJ ts (cols.take i) w).1.map trow) 0)]) (cols.length) hG ⟨_, ⟨by simp [atJ], by simp, by simp⟩, 0, by simp, trivial, rfl⟩ ?_
 rintro n _ ⟨i, hin, hfa, rfl⟩; refine srp 3000 [0,2,6,7,8,26,27,42] ?_; refine sq ?_; refine cd ?_ ?_
 · intro h12_1
   have hlt : i < cols.length := by simpa using h12_1
   obtain ⟨x, hxe⟩ : ∃ x, cols[i] = x := ⟨_, rfl⟩; have hx : cols[i]? = some x := by simp [hlt, hxe]
   have hal := atJ_len ts (cols.take i) w; have hmin : min i cols.length = i := by omega
   simp only [List.length_take, hmin] at hal; have hb1 : ((atJ ts (cols.take i) w).1.length + 1) * 1 ≤ 140737488355328 := by simp only [Bnd] at hc; omega
   have hb2 : (atJ ts (cols.take i) w).1.length + 1 ≤ 140737488355328 := by omega
   refine k_skip ?_; refine sq ?_; refine k_block ?_; refine srp 4000 [0,2,6,7,8,26,27,42] ?_; refine src 5000 ?_; iterate 4 (first | refine gp 5350 ?_ | refine os ?_ | refine gt 5350 ?_)
   refine oe 5400 ?_; refine oc id (spec112 S A nd (atJ ts (cols.take i) w).2 (decide (0 ≤ x) && decide (x < ts.length)) 1) ?_; refine onp [0,2,6,7,8,26,27,42] ?_; refine srp 6000 [0,2,6,7,8,26,27,42] ?_; refine cd ?_ ?_
   · intro h32_2
     have hu : unlessF (atJ ts (cols.take i) w).2 (decide (0 ≤ x) && decide (x < ts.length)) 1 = 0 := by simpa using h32_2
     have hcb : (decide (0 ≤ x) && decide (x < ts.length)) = true := by cases hq : (decide (0 ≤ x) && decide (x < ts.length)) with | true => rfl | false => exact absurd hu (by rw [hq]; simp only [unlessF]; by_cases hz : (atJ ts (cols.take i) w).2 = 0 <;> simp [hz])
     have hu2 : unlessF (atJ ts (cols.take i) w).2 true 1 = 0 := by rw [hcb] at hu; exact hu
     have hcc := hcb; simp only [Bool.and_eq_true, decide_eq_true_eq] at hcc; obtain ⟨k, rfl⟩ := Int.eq_ofNat_of_zero_le hcc.1; have hlt3 : k < ts.length := by omega
     obtain ⟨t, hte⟩ : ∃ t, ts[k] = t := ⟨_, rfl⟩; refine rg 7000 ?_ (h := by simp [*, trow]; exact is_rfl _)
     refine k_nil ?_; show AK _ _ _ _ _ _; refine rg 8000 ?_ (h := by simp [*, wrap_succ (show i < Flat.lim by omega), trow]; exact is_rfl _)
     refine k_nil ?_; refine ⟨n - 1, by omega, _, ⟨?_, ?_, ?_⟩, i + 1, by omega, trivial, rfl⟩ <;> simp [*, atL_take hx, atF, trow]
   · intro h32_2
     have hu : ¬ unlessF (atJ ts (cols.take i) w).2 (decide (0 ≤ x) && decide (x < ts.length)) 1 = 0 := by simpa using h32_2
     refine k_skip ?_; refine k_nil ?_; show AK _ _ _ _ _ _; refine rg 8000 ?_ (h := by simp [*, wrap_succ (show i < Flat.lim by omega)]; exact is_rfl _)
     refine k_nil ?_; refine ⟨n - 1, by omega, _, ⟨?_, ?_, ?_⟩, i + 1, by omega, trivial, rfl⟩ <;> simp [*, atL_take hx, atF, trow]
 · intro h12_1
   have hge : cols.length ≤ i := by simpa using h12_1
   have htk : cols.take i = cols := List.take_of_length_le hge; refine k_exit ?_; show AK _ _ _ _ _ _; refine srp 9000 [6,7] ?_; refine k_ret ?_; show retQ _ _ _ _ _ _ _; simp [*]
def exsF (ts : List Int) (w : Int) (e : E) : Int := unlessF w ((inferE ts e).2 == 0) (inferE ts e).2
def exsW (ts : List Int) (ex : List E) (w : Int) : Int := ex.foldl (exsF ts) w
theorem exsW_take {ts : List Int} {ex : List E} {w : Int} {i : Nat} {x : E} (h : ex[i]? = some x) : exsW ts (ex.take (i + 1)) w = exsF ts (exsW ts (ex.take i) w) x := by
 simp [exsW, List.take_add_one, h, List.foldl_append]
attribute [local simp] E.av in
theorem spec111 (S A : List (List Int)) (nd : Nat) (ts : List Int) (hts : ts.length ≤ Flat.lim) (ex : List E) (he : ex.length ≤ Bnd) (w : Int) : Flat.Sp Tryz.prog 152 [.ptr 0 0, .p (.ps (ex.map E.row)), .p (.ps (ts.map trow))] [(.var 0, .n 3), (.cell 0 0, .av (vv (.int .i64 (w)))), (.cell 0 1, .av (.p (.ps (S.map srow)))), (.cell 0 2, .av (.sl 1 (A).length 0 (nd))), (.arr 1, .arr 67 1 ((A).map srow) 0)] (.p (.ps (ex.map (fun e => [PV.v (.int .u8 (inferE ts e).1)])))) [(.var 0, .n 3), (.cell 0 0, .av (vv (.int .i64 (exsW ts ex w)))), (.cell 0 1, .av (.p (.ps (S.map srow)))), (.cell 0 2, .av (.sl 1 (A).length 0 (nd))), (.arr 1, .arr 67 1 ((A).map srow) 0)] := by
 refine sk Tryz.func152 ?_; intro F G hn hG; have hel := Bnd_lim he; refine srp 1000 [0,3,6,7,8,29,30,36] ?_; refine sq ?_; refine srp 2000 [0,1,2,3,6,7,8,29,30,36] ?_; refine k_block ?_; refine ow (.tmp 6) 900 73 1 ?_; refine k_loop (fun n l => ∃ i, i + n = ex.length ∧ (True) ∧ l = [(.tmp 0, .av (.ptr 0 0)), (.tmp 2, .av (.p (.ps (ts.map trow)))), (.tmp 6, .av (.sl 900 i 0 i)), (.tmp 11, .av (.p (.ps (ex.map E.row)))), (.tmp 12, .av (vv (.int .i64 ex.length))), (.tmp 13, .av (vv (.int .i64 i))), (.var 0, .n 3), (.cell 0 0, .av (vv (.int .i64 ((exsW ts (ex.take i) w))))), (.cell 0 1, .av (.p (.ps (S.map srow)))), (.cell 0 2, .av (.sl 1 (A).length 0 (nd))), (.arr 1, .arr 67 1 ((A).map srow) 0), (.arr 900, .arr 73 1 ((ex.map (fun e => [PV.v (.int .u8 (inferE ts e).1)])).take i) 0)]) (ex.length) hG ⟨_, ⟨by simp [exsW], by simp, by simp⟩, 0, by simp, trivial, rfl⟩ ?_
 rintro n _ ⟨i, hin, hfa, rfl⟩; refine srp 3000 [0,1,2,3,6,7,8,29,30,36] ?_; refine sq ?_; refine cd ?_ ?_
 · intro h14_1
   have hlt : i < ex.length := by simpa using h14_1
   obtain ⟨x, hxe⟩ : ∃ x, ex[i] = x := ⟨_, rfl⟩; have hx : ex[i]? = some x := by simp [hlt, hxe]
   have hw := wrap_succ (show i < Flat.lim by omega)
   have hmin : min i ex.length = i := by omega
   have hlim : (i + 1) * 1 ≤ 140737488355328 := by simp only [Flat.lim] at *; omega
   have hlim1 : i + 1 ≤ 140737488355328 := by simp only [Flat.lim] at *; omega
   have htm0 := tmap_succ (f := (fun e => [PV.v (.int .u8 (inferE ts e).1)])) hx
   obtain ⟨eo, ec, ev, ek⟩ := x; refine k_skip ?_; refine sq ?_; refine k_block ?_; refine sq ?_; refine rg 4000 ?_ (h := by simp [*, E.row_eq]; exact is_rfl _)
   refine pr [0,1,2,3,6,7,8,29,30,36] ?_; refine src 5000 ?_; refine oc id (spec26 ts hts eo ec ev ek) ?_; refine oe 5100 ?_; refine onp [0,1,2,3,6,7,8,29,30,36] ?_; refine src 6000 ?_; refine oc id (spec112 S A nd (exsW ts (ex.take i) w) ((inferE ts (E.mk eo ec ev ek)).2 == 0) (inferE ts (E.mk eo ec ev ek)).2) ?_; refine onp [0,1,2,3,6,7,8,29,30,36] ?_; refine rg 7000 ?_; refine k_nil ?_; show AK _ _ _ _ _ _; refine rg 8000 ?_; refine k_nil ?_; refine ⟨n - 1, by omega, _, ⟨?_, ?_, ?_⟩, i + 1, by omega, trivial, rfl⟩ <;> simp [*, exsW_take hx, exsF]
 · intro h14_1
   have hge : ex.length ≤ i := by simpa using h14_1
   obtain rfl : i = ex.length := by omega
   have htm0 := tmap_all (f := (fun e => [PV.v (.int .u8 (inferE ts e).1)])) (Nat.le_refl ex.length)
   refine fz 900 ?_; have htk : ex.take ex.length = ex := List.take_length; refine k_exit ?_; show AK _ _ _ _ _ _; refine srp 9000 [6,7] ?_; refine k_ret ?_; show retQ _ _ _ _ _ _ _; simp [*]
attribute [local simp] trow in
theorem spec60 (ts : List Int) (hl : ts.length ≤ Bnd) : Flat.Sp Tryz.prog 68 [.p (.ps (ts.map trow))] [] (.p (.ps (ts.map trow))) [] := by
 refine sk Tryz.func68 ?_; intro F G hn hG; have hl1 : ts.length ≤ 140737488355328 := by simp only [Bnd] at hl; omega
 have htk : (ts.map trow).take ts.length = ts.map trow := List.take_of_length_le (by simp)
 refine srp 1000 [0,1,2,8] ?_; refine sq ?_; refine src 2000 ?_; refine nc fun b4 hnil => ?_
 refine onp [0,1,2,3,4,8] ?_; refine cd ?_ ?_
 · intro h4_1
   have hts : ts = [] := by simpa using hnil h4_1
   subst hts; refine srp 3000 [0,1,2,3,5,8] ?_; refine k_ret ?_; show retQ _ _ _ _ _ _ _; simp [*]
 · intro h4_1
   refine k_skip ?_; refine srp 4000 [2,3] ?_; refine fz 4002 ?_; refine k_ret ?_; show retQ _ _ _ _ _ _ _; simp [*]
end
section
@[simp] theorem wrap64_0 : IntKind.i64.wrap 0 = 0 := rfl
theorem spec166_0  : Flat.Sp Tryz.prog 235 [.psf [], vv (.int .i64 0)] [] (.psf []) [] := by
 refine sk Tryz.func235 ?_; intro F G hn hG; refine srp 1000 [0,2,4,27] ?_; refine sq ?_; refine srp 2000 [0,2,4,5,6,27] ?_; refine ce ?_; refine k_skip ?_; refine sq ?_; refine srp 4000 [0,2,4,5,15,27] ?_; refine srp 5000 [0,2,4,5,16,27] ?_; refine ce ?_; refine k_skip ?_; refine srp 7000 [4,5] ?_; refine k_ret ?_; show retQ _ _ _ _ _ _ _; simp [*]
theorem spec166_n (n : Nat) (h0 : 0 < n) (h1 : n ≤ 16) : Flat.Sp Tryz.prog 235 [.psf [], vv (.int .i64 n)] [] (.sl 6005 n 0 0) [(.arr 6005, .arr 73 1 (List.replicate n [PV.v (.int .u8 0)]) 0)] := by
 refine sk Tryz.func235 ?_; intro F G hn hG; have hw : IntKind.i64.wrap (n : Int) = n := Flat.wrap_small (by simp only [Flat.lim]; omega)
 have hn0 : ¬ ((n : Int) < 0) := by omega
 have hn2 : n ≤ 140737488355328 := by omega
 refine srp 1000 [0,2,4,27] ?_; refine sq ?_; refine srp 2000 [0,2,4,5,6,27] ?_; refine ce ?_; refine k_skip ?_; refine sq ?_; refine srp 4000 [0,2,4,5,15,27] ?_; refine srp 5000 [0,2,4,5,16,27] ?_; refine ct ?_; refine rgp 6000 [0,1,4,5,26,27] ?_; refine srp 7000 [4,5] ?_; refine k_ret ?_; show retQ _ _ _ _ _ _ _; simp [*]
attribute [local simp] srow trow in
theorem spec115_n (a b : List Int) (ha : a.length ≤ 8) (hb : b.length ≤ 8) (hb0 : 0 < b.length) : Flat.Sp Tryz.prog 155 [.p (.ps [srow a, srow b])] [] (.p (.ps ((a ++ b).map trow))) [] := by
 refine sk Tryz.func155 ?_; intro F G hn hG; have hw1 : IntKind.i64.wrap (a.length : Int) = a.length := Flat.wrap_small (by simp only [Flat.lim]; omega)
 have hw2 : IntKind.i64.wrap ((a.length : Int) + (b.length : Int)) = (a.length : Int) + (b.length : Int) := by have := Flat.wrap_small (n := a.length + b.length) (by simp only [Flat.lim]; omega); simpa using this
 have hn2 : ¬ ((a.length : Int) + (b.length : Int) < 0) := by omega
 have hmx : max (a.length + b.length) a.length = a.length + b.length := by omega
 have hz1 : ¬ 0 = a.length + b.length := by omega
 have hz2 : 0 < a.length + b.length := by omega
 have hbn : ¬ b = [] := by rintro rfl; simp at hb0
 have hl1 : a.length ≤ 140737488355328 := by omega
 have hl2 : a.length + b.length ≤ 140737488355328 := by omega
 have hdr : List.drop (a.length + b.length) (a.map trow ++ List.replicate b.length [PV.v (Value.int .u8 0)]) = [] := List.drop_eq_nil_of_le (by simp)
 have htk : (a.map trow ++ b.map trow).take (a.length + b.length) = a.map trow ++ b.map trow := List.take_of_length_le (by simp)
 refine srp 1000 [0,1,2,4,5,7,8,36] ?_; refine srp 2000 [0,1,2,4,5,7,8,36] ?_; refine sq ?_; refine srp 3000 [0,1,2,4,5,7,8,36] ?_; refine k_block ?_; refine k_rounds 3 ?_; show AK _ _ _ _ _ _; refine srp 4000 [0,1,2,4,5,7,8,36] ?_; refine sq ?_; refine ct ?_; refine k_skip ?_; refine sq ?_; refine k_block ?_; refine srp 5000 [0,1,2,4,5,7,8,36] ?_; refine srp 6000 [0,1,2,4,5,7,8,36] ?_; refine srp 7000 [0,1,2,4,5,7,8,36] ?_; refine ce ?_; refine k_skip ?_; refine k_nil ?_; show AK _ _ _ _ _ _; refine rg 9000 ?_; refine k_nil ?_; show AK _ _ _ _ _ _; refine srp 1004000 [0,1,2,4,5,7,8,36] ?_; refine sq ?_; refine ct ?_; refine k_skip ?_; refine sq ?_; refine k_block ?_; refine srp 1005000 [0,1,2,4,5,7,8,36] ?_; refine srp 1006000 [0,1,2,4,5,7,8,36] ?_; refine srp 1007000 [0,1,2,4,5,7,8,36] ?_; refine ce ?_; refine k_skip ?_; refine k_nil ?_; show AK _ _ _ _ _ _; refine rg 1009000 ?_; refine k_nil ?_; show AK _ _ _ _ _ _; refine srp 2004000 [0,1,2,4,5,7,8,36] ?_; refine sq ?_; refine ce ?_; refine k_exit ?_; show AK _ _ _ _ _ _; refine src 10000 ?_; refine oc (fun _ => 10000) (spec166_n (a.length + b.length) (by omega) (by omega)) ?_
 refine oe 10100 ?_; refine onp [0,1,2,3,6,7,8,9,25,36] ?_; refine sq ?_; refine srp 11000 [2,3,6,7,8,9,25,36] ?_; refine k_block ?_; refine k_rounds 3 ?_; show AK _ _ _ _ _ _; refine srp 12000 [2,3,6,7,8,9,25,36] ?_; refine sq ?_; refine ct ?_; refine k_skip ?_; refine sq ?_; refine k_block ?_; refine srp 13000 [2,3,6,7,8,9,25,36] ?_; refine rg 14000 ?_; refine k_nil ?_; show AK _ _ _ _ _ _; refine rg 15000 ?_; refine k_nil ?_; show AK _ _ _ _ _ _; refine srp 1012000 [2,3,6,7,8,9,25,36] ?_; refine sq ?_; refine ct ?_; refine k_skip ?_; refine sq ?_; refine k_block ?_; refine srp 1013000 [2,3,6,7,8,9,25,36] ?_; refine rg 1014000 ?_; refine k_nil ?_; show AK _ _ _ _ _ _; refine rg 1015000 ?_; refine k_nil ?_; show AK _ _ _ _ _ _; refine srp 2012000 [2,3,6,7,8,9,25,36] ?_; refine sq ?_; refine ce ?_; refine k_exit ?_; show AK _ _ _ _ _ _; refine srp 16000 [2,3] ?_; refine fz 10000 ?_; refine k_ret ?_; show retQ _ _ _ _ _ _ _; simp [*]
attribute [local simp] srow trow in
theorem spec115_e (a b : List Int) (ha : a.length ≤ 8) (hb : b = []) (ha0 : 0 < a.length) : Flat.Sp Tryz.prog 155 [.p (.ps [srow a, srow b])] [] (.p (.ps ((a ++ b).map trow))) [] := by
 refine sk Tryz.func155 ?_; intro F G hn hG; subst hb; have hw1 : IntKind.i64.wrap (a.length : Int) = a.length := Flat.wrap_small (by simp only [Flat.lim]; omega)
 have hn2 : ¬ (a.length : Int) < 0 := by omega
 have hz1 : ¬ 0 = a.length := by omega
 have hl1 : a.length ≤ 140737488355328 := by omega
 have hbn : ¬ a = [] := by rintro rfl; simp at ha0
 have htk : (a.map trow).take a.length = a.map trow := List.take_of_length_le (by simp)
 refine srp 1000 [0,1,2,4,5,7,8,36] ?_; refine srp 2000 [0,1,2,4,5,7,8,36] ?_; refine sq ?_; refine srp 3000 [0,1,2,4,5,7,8,36] ?_; refine k_block ?_; refine k_rounds 3 ?_; show AK _ _ _ _ _ _; refine srp 4000 [0,1,2,4,5,7,8,36] ?_; refine sq ?_; refine ct ?_; refine k_skip ?_; refine sq ?_; refine k_block ?_; refine srp 5000 [0,1,2,4,5,7,8,36] ?_; refine srp 6000 [0,1,2,4,5,7,8,36] ?_; refine srp 7000 [0,1,2,4,5,7,8,36] ?_; refine ce ?_; refine k_skip ?_; refine k_nil ?_; show AK _ _ _ _ _ _; refine rg 9000 ?_; refine k_nil ?_; show AK _ _ _ _ _ _; refine srp 1004000 [0,1,2,4,5,7,8,36] ?_; refine sq ?_; refine ct ?_; refine k_skip ?_; refine sq ?_; refine k_block ?_; refine srp 1005000 [0,1,2,4,5,7,8,36] ?_; refine srp 1006000 [0,1,2,4,5,7,8,36] ?_; refine srp 1007000 [0,1,2,4,5,7,8,36] ?_; refine ce ?_; refine k_skip ?_; refine k_nil ?_; show AK _ _ _ _ _ _; refine rg 1009000 ?_; refine k_nil ?_; show AK _ _ _ _ _ _; refine srp 2004000 [0,1,2,4,5,7,8,36] ?_; refine sq ?_; refine ce ?_; refine k_exit ?_; show AK _ _ _ _ _ _; refine src 10000 ?_; refine oc (fun _ => 10000) (spec166_n a.length (by omega) (by omega)) ?_
 refine oe 10100 ?_; refine onp [0,1,2,3,6,7,8,9,25,36] ?_; refine sq ?_; refine srp 11000 [2,3,6,7,8,9,25,36] ?_; refine k_block ?_; refine k_rounds 3 ?_; show AK _ _ _ _ _ _; refine srp 12000 [2,3,6,7,8,9,25,36] ?_; refine sq ?_; refine ct ?_; refine k_skip ?_; refine sq ?_; refine k_block ?_; refine srp 13000 [2,3,6,7,8,9,25,36] ?_; refine rg 14000 ?_; refine k_nil ?_; show AK _ _ _ _ _ _; refine rg 15000 ?_; refine k_nil ?_; show AK _ _ _ _ _ _; refine srp 1012000 [2,3,6,7,8,9,25,36] ?_; refine sq ?_; refine ct ?_; refine k_skip ?_; refine sq ?_; refine k_block ?_; refine srp 1013000 [2,3,6,7,8,9,25,36] ?_; refine rg 1014000 ?_; refine k_nil ?_; show AK _ _ _ _ _ _; refine rg 1015000 ?_; refine k_nil ?_; show AK _ _ _ _ _ _; refine srp 2012000 [2,3,6,7,8,9,25,36] ?_; refine sq ?_; refine ce ?_; refine k_exit ?_; show AK _ _ _ _ _ _; refine srp 16000 [2,3] ?_; refine fz 10000 ?_; refine k_ret ?_; show retQ _ _ _ _ _ _ _; simp [*]
attribute [local simp] srow trow in
theorem spec115_0 (a b : List Int) (ha : a = []) (hb : b = []) : Flat.Sp Tryz.prog 155 [.p (.ps [srow a, srow b])] [] (.p (.ps ((a ++ b).map trow))) [] := by
 refine sk Tryz.func155 ?_; intro F G hn hG; subst ha; subst hb; refine srp 1000 [0,1,2,4,5,7,8,36] ?_; refine srp 2000 [0,1,2,4,5,7,8,36] ?_; refine sq ?_; refine srp 3000 [0,1,2,4,5,7,8,36] ?_; refine k_block ?_; refine k_rounds 3 ?_; show AK _ _ _ _ _ _; refine srp 4000 [0,1,2,4,5,7,8,36] ?_; refine sq ?_; refine ct ?_; refine k_skip ?_; refine sq ?_; refine k_block ?_; refine srp 5000 [0,1,2,4,5,7,8,36] ?_; refine srp 6000 [0,1,2,4,5,7,8,36] ?_; refine srp 7000 [0,1,2,4,5,7,8,36] ?_; refine ce ?_; refine k_skip ?_; refine k_nil ?_; show AK _ _ _ _ _ _; refine rg 9000 ?_; refine k_nil ?_; show AK _ _ _ _ _ _; refine srp 1004000 [0,1,2,4,5,7,8,36] ?_; refine sq ?_; refine ct ?_; refine k_skip ?_; refine sq ?_; refine k_block ?_; refine srp 1005000 [0,1,2,4,5,7,8,36] ?_; refine srp 1006000 [0,1,2,4,5,7,8,36] ?_; refine srp 1007000 [0,1,2,4,5,7,8,36] ?_; refine ce ?_; refine k_skip ?_; refine k_nil ?_; show AK _ _ _ _ _ _; refine rg 1009000 ?_; refine k_nil ?_; show AK _ _ _ _ _ _; refine srp 2004000 [0,1,2,4,5,7,8,36] ?_; refine sq ?_; refine ce ?_; refine k_exit ?_; show AK _ _ _ _ _ _; refine src 10000 ?_; refine oc (id) (spec166_0) ?_; refine oe 10100 ?_; refine onp [0,1,2,3,6,7,8,9,25,36] ?_; refine sq ?_; refine srp 11000 [2,3,6,7,8,9,25,36] ?_; refine k_block ?_; refine k_rounds 3 ?_; show AK _ _ _ _ _ _; refine srp 12000 [2,3,6,7,8,9,25,36] ?_; refine sq ?_; refine ct ?_; refine k_skip ?_; refine sq ?_; refine k_block ?_; refine srp 13000 [2,3,6,7,8,9,25,36] ?_; refine rg 14000 ?_; refine k_nil ?_; show AK _ _ _ _ _ _; refine rg 15000 ?_; refine k_nil ?_; show AK _ _ _ _ _ _; refine srp 1012000 [2,3,6,7,8,9,25,36] ?_; refine sq ?_; refine ct ?_; refine k_skip ?_; refine sq ?_; refine k_block ?_; refine srp 1013000 [2,3,6,7,8,9,25,36] ?_; refine rg 1014000 ?_; refine k_nil ?_; show AK _ _ _ _ _ _; refine rg 1015000 ?_; refine k_nil ?_; show AK _ _ _ _ _ _; refine srp 2012000 [2,3,6,7,8,9,25,36] ?_; refine sq ?_; refine ce ?_; refine k_exit ?_; show AK _ _ _ _ _ _; refine srp 16000 [2,3] ?_; refine fz 14002 ?_; refine k_ret ?_; show retQ _ _ _ _ _ _ _; simp [*]
theorem spec115 (a b : List Int) (ha : a.length ≤ 8) (hb : b.length ≤ 8) : Flat.Sp Tryz.prog 155 [.p (.ps [srow a, srow b])] [] (.p (.ps ((a ++ b).map trow))) [] := by
 rcases Nat.eq_zero_or_pos b.length with h | h
 · have hb0 := List.length_eq_zero_iff.1 h
   rcases Nat.eq_zero_or_pos a.length with h2 | h2
   · exact spec115_0 a b (List.length_eq_zero_iff.1 h2) hb0
   · exact spec115_e a b ha hb0 h2
 · exact spec115_n a b ha hb h
end
section
def redR (ts cols : List Int) (m agg w : Int) : List Int × Int :=
 let r := atJ ts cols w
 if agg == 1 then (r.1 ++ [1], r.2)
 else if agg == 5 then (ts, unlessF r.2 (decide (1 ≤ m) && decide (m ≤ 8)) 1)
 else
   let q := atJ ts [m] r.2
   (r.1 ++ q.1, unlessF q.2 (agg != 2 || q.1 == [1]) 11)
attribute [local simp] Pl.av in
theorem spec116_1 (S A : List (List Int)) (nd : Nat) (k m : Int) (kids : List Pl) (ex : List E) (cols wth : List Int) (agg rds : Int) (hc : cols.length ≤ Bnd) (ts : List Int) (w : Int) (hg1 : (agg == 1) = true) : Flat.Sp Tryz.prog 156 [.ptr 0 0, (Pl.mk k m kids ex cols wth agg rds).av, .p (.ps (ts.map trow))] [(.var 0, .n 3), (.cell 0 0, .av (vv (.int .i64 (w)))), (.cell 0 1, .av (.p (.ps (S.map srow)))), (.cell 0 2, .av (.sl 1 (A).length 0 (nd))), (.arr 1, .arr 67 1 ((A).map srow) 0)] (.p (.ps ((redR ts cols m agg w).1.map trow))) [(.var 0, .n 3), (.cell 0 0, .av (vv (.int .i64 ((redR ts cols m agg w).2)))), (.cell 0 1, .av (.p (.ps (S.map srow)))), (.cell 0 2, .av (.sl 1 (A).length 0 (nd))), (.arr 1, .arr 67 1 ((A).map srow) 0)] := by
 refine sk Tryz.func156 ?_; intro F G hn hG; have htk1 : ∀ z, ((atJ ts cols w).1.map trow ++ [z]).take ((atJ ts cols w).1.length + 1) = (atJ ts cols w).1.map trow ++ [z] := fun z => List.take_of_length_le (by simp)
 have hal := atJ_len ts cols w; have hlc : cols.length ≤ 1048576 := hc; have hl1 : (atJ ts cols w).1.length + 1 ≤ 140737488355328 := by omega
 have htk : ((atJ ts cols w).1.map trow).take (atJ ts cols w).1.length = (atJ ts cols w).1.map trow := List.take_of_length_le (by simp)
 refine srp 1000 [0,1,2,3,4,5,6,34,35,53,54,57] ?_; refine src 2000 ?_; refine oc (fun k => if k = 900 then 2500 else k) (spec113 S A nd ts cols hc w) ?_
 refine oe 2100 ?_; refine onp [0,1,2,3,4,5,6,9,14,34,35,53,54,57] ?_; refine sq ?_; refine srp 3000 [0,1,2,3,4,5,6,9,15,34,35,53,54,57] ?_; refine k_block ?_; refine srp 4000 [0,1,2,3,4,5,6,9,15,17,18,34,35,53,54,57] ?_; refine ct ?_; refine sq ?_; refine rg 5000 ?_ (h := by simp [*, trow]; exact is_rfl _)
 refine pr [0,1,2,3,4,5,6,9,36,53,54,57] ?_; refine fz 2500 ?_; refine k_ret ?_; show retQ _ _ _ _ _ _ _; simp [*, redR, trow]
attribute [local simp] Pl.av in
theorem spec116_5 (S A : List (List Int)) (nd : Nat) (k m : Int) (kids : List Pl) (ex : List E) (cols wth : List Int) (agg rds : Int) (hc : cols.length ≤ Bnd) (ts : List Int) (w : Int) (hg1 : (agg == 1) = false) (hg5 : (agg == 5) = true) : Flat.Sp Tryz.prog 156 [.ptr 0 0, (Pl.mk k m kids ex cols wth agg rds).av, .p (.ps (ts.map trow))] [(.var 0, .n 3), (.cell 0 0, .av (vv (.int .i64 (w)))), (.cell 0 1, .av (.p (.ps (S.map srow)))), (.cell 0 2, .av (.sl 1 (A).length 0 (nd))), (.arr 1, .arr 67 1 ((A).map srow) 0)] (.p (.ps ((redR ts cols m agg w).1.map trow))) [(.var 0, .n 3), (.cell 0 0, .av (vv (.int .i64 ((redR ts cols m agg w).2)))), (.cell 0 1, .av (.p (.ps (S.map srow)))), (.cell 0 2, .av (.sl 1 (A).length 0 (nd))), (.arr 1, .arr 67 1 ((A).map srow) 0)] := by
 refine sk Tryz.func156 ?_; intro F G hn hG; refine srp 1000 [0,1,2,3,4,5,6,34,35,53,54,57] ?_; refine src 2000 ?_; refine oc (fun k => if k = 900 then 2500 else k) (spec113 S A nd ts cols hc w) ?_
 refine oe 2100 ?_; refine onp [0,1,2,3,4,5,6,9,14,34,35,53,54,57] ?_; refine sq ?_; refine srp 3000 [0,1,2,3,4,5,6,9,15,34,35,53,54,57] ?_; refine k_block ?_; refine srp 4000 [0,1,2,3,4,5,6,9,15,17,18,34,35,53,54,57] ?_; refine ce ?_; refine srp 6000 [0,1,2,3,4,5,6,9,21,22,23,34,35,53,54,57] ?_; refine ct ?_; refine sq ?_; refine dr ?_; refine de 7000 ?_; iterate 3 (first | refine dp 7250 ?_ | refine ds ?_ | refine dt 7250 ?_)
 refine de 7300 ?_; refine dc id (spec112 S A nd (atJ ts cols w).2 (decide (1 ≤ m) && decide (m ≤ 8)) 1) ?_; refine dn ?_; refine pr [0,1,2,3,4,5,6,9,35,53,54,57] ?_; refine srp 8000 [0,1,2,3,4,5,6,9,36,53,54,57] ?_; refine k_ret ?_; show retQ _ _ _ _ _ _ _; simp [*, redR]
attribute [local simp] Pl.av in
theorem spec116_x (S A : List (List Int)) (nd : Nat) (k m : Int) (kids : List Pl) (ex : List E) (cols wth : List Int) (agg rds : Int) (hc : cols.length ≤ Bnd) (ts : List Int) (w : Int) (hg1 : (agg == 1) = false) (hg5 : (agg == 5) = false) : Flat.Sp Tryz.prog 156 [.ptr 0 0, (Pl.mk k m kids ex cols wth agg rds).av, .p (.ps (ts.map trow))] [(.var 0, .n 3), (.cell 0 0, .av (vv (.int .i64 (w)))), (.cell 0 1, .av (.p (.ps (S.map srow)))), (.cell 0 2, .av (.sl 1 (A).length 0 (nd))), (.arr 1, .arr 67 1 ((A).map srow) 0)] (.p (.ps ((redR ts cols m agg w).1.map trow))) [(.var 0, .n 3), (.cell 0 0, .av (vv (.int .i64 ((redR ts cols m agg w).2)))), (.cell 0 1, .av (.p (.ps (S.map srow)))), (.cell 0 2, .av (.sl 1 (A).length 0 (nd))), (.arr 1, .arr 67 1 ((A).map srow) 0)] := by
 refine sk Tryz.func156 ?_; intro F G hn hG; have hq := atJ_len ts [m] (atJ ts cols w).2; have hlc : cols.length ≤ 1048576 := hc; have hal := atJ_len ts cols w; simp only [List.length_singleton] at hq; have hl2 : (atJ ts cols w).1.length + (atJ ts [m] (atJ ts cols w).2).1.length ≤ 140737488355328 := by omega
 have htk : ((atJ ts [m] (atJ ts cols w).2).1.map trow).take (atJ ts [m] (atJ ts cols w).2).1.length = (atJ ts [m] (atJ ts cols w).2).1.map trow := List.take_of_length_le (by simp)
 have htk2 : ((atJ ts cols w).1.map trow ++ (atJ ts [m] (atJ ts cols w).2).1.map trow).take ((atJ ts cols w).1.length + (atJ ts [m] (atJ ts cols w).2).1.length) = (atJ ts cols w).1.map trow ++ (atJ ts [m] (atJ ts cols w).2).1.map trow := List.take_of_length_le (by simp)
 refine srp 1000 [0,1,2,3,4,5,6,34,35,53,54,57] ?_; refine src 2000 ?_; refine oc (fun k => if k = 900 then 2500 else k) (spec113 S A nd ts cols hc w) ?_
 refine oe 2100 ?_; refine onp [0,1,2,3,4,5,6,9,14,34,35,53,54,57] ?_; refine sq ?_; refine srp 3000 [0,1,2,3,4,5,6,9,15,34,35,53,54,57] ?_; refine k_block ?_; refine srp 4000 [0,1,2,3,4,5,6,9,15,17,18,34,35,53,54,57] ?_; refine ce ?_; refine srp 6000 [0,1,2,3,4,5,6,9,21,22,23,34,35,53,54,57] ?_; refine ce ?_; refine k_skip ?_; refine k_nil ?_; show AK _ _ _ _ _ _; refine src 9000 ?_; refine oc (fun k => if k = 900 then 9500 else k) (spec113 S A nd ts [m] (by simp [Bnd]) (atJ ts cols w).2) ?_ (hg := by simp [*, irow]) (hf := by simp [*, irow]; exact is_rfl _) (hx := by simp [*, irow]; exact is_rfl _) (hargs := by simp [*, irow]) (hB := by simp [*, irow]) (hL := by simp [*, irow]) (hd := by simp [*, irow]; exact is_rfl _)
 refine oe 9100 ?_; refine onp [0,1,4,5,6,9,42,53,54,57] ?_; refine fz 9500 ?_; refine sq ?_; refine dr ?_; refine de 10000 ?_; iterate 2 (first | refine dp 10150 ?_ | refine ds ?_ | refine dt 10150 ?_)
 refine dg (fun hg => spec114 (atJ ts [m] (atJ ts cols w).2).1 [1] (by simp only [Flat.lim]; omega)) ?_ (hf := by intro hgg; (try simp only [Bool.and_eq_true] at hgg); simp [*, trow]; exact is_rfl _) (hx := by intro hgg; (try simp only [Bool.and_eq_true] at hgg); simp [*, trow]; exact is_rfl _) (hargs := by intro hgg; (try simp only [Bool.and_eq_true] at hgg); simp [*, trow]) (hd := by simp [*, trow]; exact is_rfl _)
 refine de 10300 ?_; refine dc id (spec112 S A nd (atJ ts [m] (atJ ts cols w).2).2 (agg != 2 || (atJ ts [m] (atJ ts cols w).2).1 == [1]) 11) ?_; refine dn ?_; refine pr [6,9,54,57] ?_; refine sq ?_; refine rg 11000 ?_ (h := by simp [*, trow]; exact is_rfl _)
 refine pr [6,7] ?_; refine fz 2500 ?_; refine k_ret ?_; show retQ _ _ _ _ _ _ _; simp [*, redR]
theorem spec116 (S A : List (List Int)) (nd : Nat) (k m : Int) (kids : List Pl) (ex : List E) (cols wth : List Int) (agg rds : Int) (hc : cols.length ≤ Bnd) (ts : List Int) (w : Int) : Flat.Sp Tryz.prog 156 [.ptr 0 0, (Pl.mk k m kids ex cols wth agg rds).av, .p (.ps (ts.map trow))] [(.var 0, .n 3), (.cell 0 0, .av (vv (.int .i64 (w)))), (.cell 0 1, .av (.p (.ps (S.map srow)))), (.cell 0 2, .av (.sl 1 (A).length 0 (nd))), (.arr 1, .arr 67 1 ((A).map srow) 0)] (.p (.ps ((redR ts cols m agg w).1.map trow))) [(.var 0, .n 3), (.cell 0 0, .av (vv (.int .i64 ((redR ts cols m agg w).2)))), (.cell 0 1, .av (.p (.ps (S.map srow)))), (.cell 0 2, .av (.sl 1 (A).length 0 (nd))), (.arr 1, .arr 67 1 ((A).map srow) 0)] := by
 cases hg1 : (agg == 1) with
 | true => exact spec116_1 S A nd k m kids ex cols wth agg rds hc ts w hg1
 | false =>
   cases hg5 : (agg == 5) with
   | true => exact spec116_5 S A nd k m kids ex cols wth agg rds hc ts w hg1 hg5
   | false => exact spec116_x S A nd k m kids ex cols wth agg rds hc ts w hg1 hg5
end
end Go.Proofs
end
section
set_option linter.unusedVariables false
set_option linter.unusedSimpArgs false
namespace Go.Proofs
open Go.Flat
def pushA (A : List (List Int)) (nd : Nat) (x : List Int) : List (List Int) := A.take nd ++ [x] ++ A.drop (nd + 1)
theorem pushA_len {A : List (List Int)} {nd : Nat} (x : List Int) (h : nd ≤ A.length) : (pushA A nd x).length = max A.length (nd + 1) := by
 simp only [pushA, List.length_append, List.length_take, List.length_drop, List.length_singleton]; omega
theorem pushA_take {A : List (List Int)} {nd : Nat} (x : List Int) (h : nd ≤ A.length) : (pushA A nd x).take nd = A.take nd := by
 rw [pushA, List.append_assoc, List.take_append_of_le_length (by simp; omega), List.take_take]
 congr 1; omega
theorem pushA_take1 {A : List (List Int)} {nd : Nat} (x : List Int) (h : nd ≤ A.length) : (pushA A nd x).take (nd + 1) = A.take nd ++ [x] := by
 have hl : (A.take nd ++ [x]).length = nd + 1 := by simp; omega
 rw [pushA, List.take_append_of_le_length (by omega), List.take_of_length_le (by omega)]
def finR (k m : Int) (ex : List E) (cols wth : List Int) (agg : Int) (l : List (List Int)) (w : Int) : List Int × Int :=
 if k == 3 then (ex.map (fun e => (inferE (l.getD 0 []) e).1), exsW (l.getD 0 []) ex w)
 else if k == 4 then (l.getD 0 [], unlessF (exsW (l.getD 0 []) ex w) ((ex.map (fun e => (inferE (l.getD 0 []) e).1)).getD 0 0 == 1) 11)
 else if k == 7 then (l.getD 0 [] ++ l.getD 1 [], unlessF (atJ (l.getD 1 []) wth (atJ (l.getD 0 []) cols w).2).2 ((atJ (l.getD 0 []) cols w).1 == (atJ (l.getD 1 []) wth (atJ (l.getD 0 []) cols w).2).1) 11)
 else if k == 8 then redR (l.getD 0 []) cols m agg w
 else (l.getD 0 [], unlessF w (!(l.any fun s => !(s == l.getD 0 []))) 11)
def finJ (k m : Int) (ex : List E) (cols wth : List Int) (agg : Int) (l : List (List Int)) (w : Int) : List Int × Int :=
 ((finR k m ex cols wth agg l w).1, unlessF (finR k m ex cols wth agg l w).2 (decide (((finR k m ex cols wth agg l w).1.length : Int) ≤ 8)) 2)
abbrev JR := Int × List (List Int)
def varI (nd : Nat) (m : Int) : Int := IntKind.i64.wrap (IntKind.i64.wrap ((nd : Int) - 1) - m)
mutual
def jdg (S : List (List Int)) : Pl → Nat → Int → List (List Int) → List Int × JR
 | .mk k m kids ex cols wth agg rds, nd, w, A =>
   if k == 1 then (oneJ S m, oneW S m w, A)
   else if k == 2 then (if decide (m < 0) then ([], unlessF w false 1, A) else (oneJ (A.take nd) (varI nd m), oneW (A.take nd) (varI nd m) w, A))
   else
     let r := if k == 10 then jdgI S kids nd w A else jdgL S kids nd w A
     if r.2.1 != 0 then ([], r.2.1, r.2.2)
     else ((finJ k m ex cols wth agg r.1 r.2.1).1, (finJ k m ex cols wth agg r.1 r.2.1).2, r.2.2)
def jdgL (S : List (List Int)) : List Pl → Nat → Int → List (List Int) → List (List Int) × JR
 | [], _, w, A => ([], w, A)
 | x :: q, nd, w, A =>
   let a := jdg S x nd w A
   let b := jdgL S q nd a.2.1 a.2.2
   (a.1 :: b.1, b.2)
def jdgI (S : List (List Int)) : List Pl → Nat → Int → List (List Int) → List (List Int) × JR
 | [], _, w, A => ([], w, A)
 | x :: q, nd, w, A =>
   let a := jdg S x nd w A
   let b := jdgL S q (nd + 1) a.2.1 (pushA a.2.2 nd a.1)
   (a.1 :: b.1, b.2)
end
def jdgK (S : List (List Int)) (k : Int) (kids : List Pl) (nd : Nat) (w : Int) (A : List (List Int)) : List (List Int) × JR := if k == 10 then jdgI S kids nd w A else jdgL S kids nd w A
theorem jdgL_append (S : List (List Int)) (nd : Nat) : ∀ (l q : List Pl) (w : Int) (A : List (List Int)), jdgL S (l ++ q) nd w A = ((jdgL S l nd w A).1 ++ (jdgL S q nd (jdgL S l nd w A).2.1 (jdgL S l nd w A).2.2).1, (jdgL S q nd (jdgL S l nd w A).2.1 (jdgL S l nd w A).2.2).2)
 | [], q, w, A => by simp [jdgL]
 | x :: l, q, w, A => by
   simp only [List.cons_append, jdgL, jdgL_append S nd l q]
theorem jdgL_take {S : List (List Int)} {kids : List Pl} {nd : Nat} {w : Int} {A : List (List Int)} {i : Nat} {x : Pl} (h : kids[i]? = some x) :
   jdgL S (kids.take (i + 1)) nd w A = ((jdgL S (kids.take i) nd w A).1 ++ [(jdg S x nd (jdgL S (kids.take i) nd w A).2.1 (jdgL S (kids.take i) nd w A).2.2).1], (jdg S x nd (jdgL S (kids.take i) nd w A).2.1 (jdgL S (kids.take i) nd w A).2.2).2) := by
 rw [List.take_add_one, h, jdgL_append]; simp [jdgL]
theorem jdgL_rows (S : List (List Int)) (nd : Nat) : ∀ (l : List Pl) (w : Int) (A : List (List Int)), (jdgL S l nd w A).1.length = l.length
 | [], w, A => by simp [jdgL]
 | x :: l, w, A => by simp [jdgL, jdgL_rows S nd l]
theorem jdgI_rows (S : List (List Int)) (nd : Nat) (l : List Pl) (w : Int) (A : List (List Int)) : (jdgI S l nd w A).1.length = l.length := by
 cases l with
 | nil => simp [jdgI]
 | cons x l => simp [jdgI, jdgL_rows]
theorem jdgK_rows (S : List (List Int)) (k : Int) (nd : Nat) (l : List Pl) (w : Int) (A : List (List Int)) : (jdgK S k l nd w A).1.length = l.length := by
 unfold jdgK; split
 · exact jdgI_rows ..
 · exact jdgL_rows ..
mutual
def Pl.good : Pl → Nat → Prop
 | .mk k m kids ex cols wth agg rds, d => d ≤ 16 ∧ formedP k m kids.length ex cols wth agg rds = true ∧ (∀ e ∈ ex, checkE e = 0) ∧ Pl.goodL kids (d + 1)
def Pl.goodL : List Pl → Nat → Prop
 | [], _ => True
 | e :: r, d => e.good d ∧ Pl.goodL r d
end
theorem Pl.goodL_mem {d : Nat} : ∀ {l : List Pl}, Pl.goodL l d → ∀ k ∈ l, k.good d
 | [], _, k, h => by simp at h
 | e :: r, h, k, hk => by
   simp only [Pl.goodL] at h; rcases List.mem_cons.1 hk with rfl | hk
   · exact h.1
   · exact Pl.goodL_mem h.2 k hk
theorem Pl.goodL_of {d : Nat} : ∀ {l : List Pl}, (∀ k ∈ l, k.good d) → Pl.goodL l d
 | [], _ => by simp [Pl.goodL]
 | e :: r, h => by
   rw [Pl.goodL]; exact ⟨h e (by simp), Pl.goodL_of fun k hk => h k (by simp [hk])⟩
def Grows (A A' : List (List Int)) (nd : Nat) : Prop := A.length ≤ A'.length ∧ A'.length ≤ 16 ∧ A'.take nd = A.take nd
theorem Grows.rfl' {A : List (List Int)} {nd : Nat} (h : A.length ≤ 16) : Grows A A nd := ⟨Nat.le_refl _, h, rfl⟩
theorem Grows.trans {A B D : List (List Int)} {nd : Nat} (h1 : Grows A B nd) (h2 : Grows B D nd) : Grows A D nd := ⟨Nat.le_trans h1.1 h2.1, h2.2.1, h2.2.2.trans h1.2.2⟩
theorem jdgL_grows {S : List (List Int)} {d : Nat} {l : List Pl} (ih : ∀ x ∈ l, ∀ nd w A, nd < d → nd ≤ A.length → A.length ≤ 16 → Grows A (jdg S x nd w A).2.2 nd) : ∀ nd w A, nd < d → nd ≤ A.length → A.length ≤ 16 → Grows A (jdgL S l nd w A).2.2 nd := by
 induction l with
 | nil => intro nd w A _ _ h; simp only [jdgL]; exact .rfl' h
 | cons x l ihl =>
   intro nd w A h1 h2 h3; simp only [jdgL]; have g := ih x (by simp) nd w A h1 h2 h3
   exact g.trans (ihl (fun y hy => ih y (by simp [hy])) nd _ _ h1 (Nat.le_trans h2 g.1) g.2.1)
theorem jdgI_grows {S : List (List Int)} {d : Nat} (hd : d ≤ 16) {l : List Pl} (ih : ∀ x ∈ l, ∀ nd w A, nd < d + 1 → nd ≤ A.length → A.length ≤ 16 → Grows A (jdg S x nd w A).2.2 nd) : ∀ nd w A, nd < d → nd ≤ A.length → A.length ≤ 16 → Grows A (jdgI S l nd w A).2.2 nd := by
 intro nd w A h1 h2 h3
 cases l with
 | nil => simp only [jdgI]; exact .rfl' h3
 | cons x l =>
   simp only [jdgI]; have g := ih x (by simp) nd w A (by omega) h2 h3
   have h4 := Nat.le_trans h2 g.1; have hp := pushA_len (jdg S x nd w A).1 h4; have hq := g.2.1; have g2 := jdgL_grows (S := S) (d := d + 1) (l := l) (fun y hy => ih y (by simp [hy])) (nd + 1) (jdg S x nd w A).2.1 (pushA (jdg S x nd w A).2.2 nd (jdg S x nd w A).1) (by omega) (by rw [hp]; omega) (by rw [hp]; omega)
   refine ⟨Nat.le_trans g.1 (Nat.le_trans (by rw [hp]; omega) g2.1), g2.2.1, ?_⟩
   have := congrArg (List.take nd) g2.2.2; rw [List.take_take, List.take_take, Nat.min_eq_left (by omega), pushA_take _ h4, g.2.2] at this
   exact this
theorem jdg_grows (S : List (List Int)) : ∀ (p : Pl) (d : Nat), p.good d → ∀ nd w A, nd < d → nd ≤ A.length → A.length ≤ 16 → Grows A (jdg S p nd w A).2.2 nd := by
 refine Pl.ind fun k m kids ex cols wth agg rds ih d hg nd w A h1 h2 h3 => ?_
 rw [Pl.good] at hg; obtain ⟨hd, -, -, hgl⟩ := hg; have ih' : ∀ x ∈ kids, ∀ nd w A, nd < d + 1 → nd ≤ A.length → A.length ≤ 16 → Grows A (jdg S x nd w A).2.2 nd := fun x hx nd w A => ih x hx (d + 1) (Pl.goodL_mem hgl x hx) nd w A
 have gI := jdgI_grows hd ih' nd w A h1 h2 h3; have gL := jdgL_grows (d := d + 1) ih' nd w A (by omega) h2 h3
 rw [jdg]; split
 · exact .rfl' h3
 · split
   · split <;> exact .rfl' h3
   · simp only
     split <;> split <;> first | exact gI | exact gL
end Go.Proofs
end
section
set_option linter.unusedVariables false
set_option linter.unusedSimpArgs false
namespace Go.Proofs
open Go.Flat
theorem unlessF_zero {w y : Int} {b : Bool} (h : unlessF w b y = 0) : w = 0 := by
 unfold unlessF at h
 by_cases hw : w = 0
 · exact hw
 · simp [hw] at h
theorem unlessF_zero2 {w y : Int} {b : Bool} (hy : y ≠ 0) (h : unlessF w b y = 0) : w = 0 ∧ b = true := by
 have h0 := unlessF_zero h; subst h0
 cases b with
 | true => exact ⟨rfl, rfl⟩
 | false => simp [unlessF] at h; exact absurd h hy
theorem foldl_zero {α : Type} {f : Int → α → Int} (hf : ∀ w a, f w a = 0 → w = 0) : ∀ (l : List α) (w : Int), l.foldl f w = 0 → w = 0
 | [], w, h => h
 | a :: l, w, h => hf w a (foldl_zero hf l (f w a) h)
theorem exsW_zero {ts : List Int} {ex : List E} {w : Int} (h : exsW ts ex w = 0) : w = 0 := foldl_zero (fun _ _ h => unlessF_zero h) ex w h
theorem foldl_atF_zero (ts : List Int) : ∀ (cols : List Int) (r : List Int × Int), (cols.foldl (atF ts) r).2 = 0 → r.2 = 0
 | [], r, h => h
 | c :: q, r, h => by
   have := foldl_atF_zero ts q (atF ts r c) h; simp only [atF] at this; split at this
   · exact unlessF_zero this
   · exact unlessF_zero this
theorem atL_zero {ts cols : List Int} {w : Int} (h : (atJ ts cols w).2 = 0) : w = 0 := foldl_atF_zero ts cols _ h
theorem redR_zero {ts cols : List Int} {m agg w : Int} (h : (redR ts cols m agg w).2 = 0) : w = 0 := by
 simp only [redR] at h; split at h
 · exact atL_zero h
 · split at h
   · exact atL_zero (unlessF_zero h)
   · exact atL_zero (atL_zero (unlessF_zero h))
theorem finR_zero {k m : Int} {ex : List E} {cols wth : List Int} {agg : Int} {l : List (List Int)} {w : Int} (h : (finR k m ex cols wth agg l w).2 = 0) : w = 0 := by
 unfold finR at h; split at h
 · exact exsW_zero h
 · split at h
   · exact exsW_zero (unlessF_zero h)
   · split at h
     · exact atL_zero (atL_zero (unlessF_zero h))
     · split at h
       · exact redR_zero h
       · exact unlessF_zero h
theorem finJ_zero {k m : Int} {ex : List E} {cols wth : List Int} {agg : Int} {l : List (List Int)} {w : Int} (h : (finJ k m ex cols wth agg l w).2 = 0) : w = 0 ∧ (finJ k m ex cols wth agg l w).1.length ≤ 8 := by
 simp only [finJ] at h ⊢; obtain ⟨h1, h2⟩ := unlessF_zero2 (by decide) h
 refine ⟨finR_zero h1, ?_⟩; simp only [decide_eq_true_eq] at h2; omega
theorem oneR_len {l : List (List Int)} (h : ∀ s ∈ l, s.length ≤ 8) (i : Int) : (oneJ l i).length ≤ 8 := by
 unfold oneJ; split
 · simp
 · rw [List.getD_eq_getElem?_getD]
   cases hq : l[i.toNat]? with
   | none => simp
   | some x => exact h x (List.mem_of_getElem? hq)
theorem oneW_zero {l : List (List Int)} {i w : Int} (h : oneW l i w = 0) : w = 0 := by
 unfold oneW at h; split at h
 · exact unlessF_zero h
 · exact h
def Sh (A : List (List Int)) (nd : Nat) (w : Int) : Prop := w = 0 → ∀ s ∈ A.take nd, s.length ≤ 8
def JOk (S : List (List Int)) (p : Pl) (d : Nat) : Prop := ∀ nd w A, nd < d → nd ≤ A.length → A.length ≤ 16 → Sh A nd w → (jdg S p nd w A).2.1 = 0 → w = 0 ∧ (jdg S p nd w A).1.length ≤ 8
def LOk (r : List (List Int) × JR) (w : Int) : Prop := r.2.1 = 0 → w = 0 ∧ ∀ s ∈ r.1, s.length ≤ 8
theorem jdgL_ok {S : List (List Int)} {d : Nat} {l : List Pl} (hg : Pl.goodL l d) (ih : ∀ x ∈ l, JOk S x d) : ∀ nd w A, nd < d → nd ≤ A.length → A.length ≤ 16 → Sh A nd w → LOk (jdgL S l nd w A) w := by
 induction l with
 | nil => intro nd w A _ _ _ _ h; simp only [jdgL] at h ⊢; exact ⟨h, by simp⟩
 | cons x l ihl =>
   intro nd w A h1 h2 h3 h4 h; rw [Pl.goodL] at hg; simp only [jdgL] at h ⊢; have g := jdg_grows S x d hg.1 nd w A h1 h2 h3; have hx := ih x (by simp) nd w A h1 h2 h3 h4
   have hl := ihl hg.2 (fun y hy => ih y (by simp [hy])) nd (jdg S x nd w A).2.1 (jdg S x nd w A).2.2 h1 (Nat.le_trans h2 g.1) g.2.1 (fun hz => by rw [g.2.2]; exact h4 (hx hz).1) h
   have hx2 := hx hl.1; refine ⟨hx2.1, fun s hs => ?_⟩
   rcases List.mem_cons.1 hs with rfl | hs
   · exact hx2.2
   · exact hl.2 s hs
theorem jdgI_ok {S : List (List Int)} {d : Nat} (hd : d ≤ 16) {l : List Pl} (hg : Pl.goodL l (d + 1)) (ih : ∀ x ∈ l, JOk S x (d + 1)) : ∀ nd w A, nd < d → nd ≤ A.length → A.length ≤ 16 → Sh A nd w → LOk (jdgI S l nd w A) w := by
 intro nd w A h1 h2 h3 h4 h
 cases l with
 | nil => simp only [jdgI] at h ⊢; exact ⟨h, by simp⟩
 | cons x l =>
   rw [Pl.goodL] at hg; simp only [jdgI] at h ⊢; have g := jdg_grows S x (d + 1) hg.1 nd w A (by omega) h2 h3
   have hx := ih x (by simp) nd w A (by omega) h2 h3 h4
   have h5 := Nat.le_trans h2 g.1; have hp := pushA_len (jdg S x nd w A).1 h5; have hq := g.2.1
   have hl := jdgL_ok (S := S) (d := d + 1) hg.2 (fun y hy => ih y (by simp [hy])) (nd + 1) (jdg S x nd w A).2.1 (pushA (jdg S x nd w A).2.2 nd (jdg S x nd w A).1) (by omega) (by rw [hp]; omega) (by rw [hp]; omega) (fun hz s hs => by
     rw [pushA_take1 _ h5, g.2.2] at hs; rcases List.mem_append.1 hs with hs | hs
     · exact h4 (hx hz).1 s hs
     · rw [List.mem_singleton] at hs; rw [hs]; exact (hx hz).2) h
   have hx2 := hx hl.1; refine ⟨hx2.1, fun s hs => ?_⟩
   rcases List.mem_cons.1 hs with rfl | hs
   · exact hx2.2
   · exact hl.2 s hs
theorem jdg_ok {S : List (List Int)} (hS : ∀ s ∈ S, s.length ≤ 8) : ∀ (p : Pl) (d : Nat), p.good d → JOk S p d := by
 refine Pl.ind fun k m kids ex cols wth agg rds ih d hg nd w A h1 h2 h3 h4 h => ?_
 rw [Pl.good] at hg; obtain ⟨hd, -, -, hgl⟩ := hg; have ih' : ∀ x ∈ kids, JOk S x (d + 1) := fun x hx => ih x hx (d + 1) (Pl.goodL_mem hgl x hx)
 have gI := jdgI_ok hd hgl ih' nd w A h1 h2 h3 h4; have gL := jdgL_ok hgl ih' nd w A (by omega) h2 h3 h4
 rw [jdg] at h ⊢; split at h
 · rename_i hk
   rw [if_pos hk]; exact ⟨oneW_zero h, oneR_len hS m⟩
 · rename_i hk
   rw [if_neg hk]; split at h
   · rename_i hk2
     rw [if_pos hk2]; split at h
     · rename_i hm
       rw [if_pos hm]; exact ⟨unlessF_zero h, by simp⟩
     · rename_i hm
       rw [if_neg hm]; have := oneW_zero h; exact ⟨this, oneR_len (h4 this) _⟩
   · rename_i hk2
     rw [if_neg hk2]; have hK : LOk (if k == 10 then jdgI S kids nd w A else jdgL S kids nd w A) w := by split <;> assumption
     simp only at h ⊢; generalize (if k == 10 then jdgI S kids nd w A else jdgL S kids nd w A) = r at h hK ⊢
     split at h
     · rename_i hr
       simp only at h; simp [h] at hr
     · rename_i hr
       rw [if_neg hr]; simp only at h ⊢; have hr0 : r.2.1 = 0 := by simpa using hr
       exact ⟨(hK hr0).1, (finJ_zero h).2⟩
theorem jdgK_ok {S : List (List Int)} (hS : ∀ s ∈ S, s.length ≤ 8) {k : Int} {kids : List Pl} {d : Nat} (hd : d ≤ 16) (hgl : Pl.goodL kids (d + 1)) {nd : Nat} {w : Int} {A : List (List Int)} (h1 : nd < d) (h2 : nd ≤ A.length) (h3 : A.length ≤ 16) (h4 : Sh A nd w) : LOk (jdgK S k kids nd w A) w := by
 have ih' : ∀ x ∈ kids, JOk S x (d + 1) := fun x hx => jdg_ok hS x (d + 1) (Pl.goodL_mem hgl x hx)
 unfold jdgK; split
 · exact jdgI_ok hd hgl ih' nd w A h1 h2 h3 h4
 · exact jdgL_ok hgl ih' nd w A (by omega) h2 h3 h4
end Go.Proofs
end
section
set_option linter.unusedVariables false
set_option linter.unusedSimpArgs false
namespace Go.Proofs
open Go.Flat
theorem exL_long : ∀ (ex : List E) (r : Bool × Bool), r.2 = true → (exL ex r).2 = true
 | [], r, h => h
 | e :: ex, r, h => exL_long ex _ (by simp [exF, h])
theorem exL_ok : ∀ (ex : List E) (r : Bool × Bool), (exL ex r).1 = true → (exL ex r).2 = false → r.1 = true ∧ r.2 = false ∧ ∀ e ∈ ex, checkE e ≠ 4 ∧ checkE e ≠ 2
 | [], r, h1, h2 => ⟨h1, h2, by simp⟩
 | e :: ex, r, h1, h2 => by
   obtain ⟨g1, g2, g3⟩ := exL_ok ex (exF r e) h1 h2; simp only [exF, Bool.and_eq_true, Bool.or_eq_false_iff, bne_iff_ne, ne_eq, beq_eq_false_iff_ne] at g1 g2; refine ⟨g1.1, g2.1, fun x hx => ?_⟩
   rcases List.mem_cons.1 hx with rfl | hx
   · exact ⟨g1.2, g2.2⟩
   · exact g3 x hx
theorem checkE_vals (e : E) : checkE e = 0 ∨ checkE e = 2 ∨ checkE e = 4 := by
 unfold checkE; simp only; split
 · simp
 · split
   · simp
   · split <;> simp
def PMono (s t : PSrv) : Prop := (s.2.2.2.1 = true → t.2.2.2.1 = true) ∧ (s.2.2.2.2 = true → t.2.2.2.2 = true) ∧ s.2.1 ≤ t.2.1
theorem PMono.rfl' (s : PSrv) : PMono s s := ⟨id, id, Int.le_refl _⟩
theorem PMono.trans {s t u : PSrv} (h1 : PMono s t) (h2 : PMono t u) : PMono s u := ⟨fun h => h2.1 (h1.1 h), fun h => h2.2.1 (h1.2.1 h), Int.le_trans h1.2.2 h2.2.2⟩
theorem plookL_mono {l : List Pl} (ih : ∀ x ∈ l, ∀ d lo s, PMono s (plook x d lo s)) : ∀ k i d lo s, PMono s (plookL l k i d lo s) := by
 induction l with
 | nil => intro k i d lo s; rw [plookL]; exact .rfl' s
 | cons x l ihl =>
   intro k i d lo s; rw [plookL]; exact (ih x (by simp) _ _ s).trans (ihl (fun y hy => ih y (by simp [hy])) _ _ _ _ _)
theorem plook_step (k m : Int) (kids : List Pl) (ex : List E) (cols wth : List Int) (agg rds d lo : Int) (s : PSrv) : PMono s (IntKind.i64.wrap (s.1 + 1), (if d > s.2.1 then d else s.2.1), (if lo > s.2.2.1 then lo else s.2.2.1), s.2.2.2.1 || !(exL ex (formedP k m kids.length ex cols wth agg rds, s.2.2.2.2)).1, (exL ex (formedP k m kids.length ex cols wth agg rds, s.2.2.2.2)).2) := by
 refine ⟨fun h => by simp [h], fun h => exL_long _ _ h, ?_⟩
 simp only; split <;> omega
theorem plook_mono : ∀ (p : Pl) (d lo : Int) (s : PSrv), PMono s (plook p d lo s) := by
 refine Pl.ind fun k m kids ex cols wth agg rds ih d lo s => ?_
 rw [plook]; have h := plook_step k m kids ex cols wth agg rds d lo s; split
 · exact h
 · exact h.trans (plookL_mono ih _ _ _ _ _)
def PFine (s : PSrv) : Prop := s.2.2.2.1 = false ∧ s.2.2.2.2 = false ∧ s.2.1 ≤ 16
theorem PFine.back {s t : PSrv} (h : PMono s t) (g : PFine t) : PFine s := by
 refine ⟨?_, ?_, Int.le_trans h.2.2 g.2.2⟩
 · cases hq : s.2.2.2.1 with
   | false => rfl
   | true => exact absurd (h.1 hq) (by rw [g.1]; simp)
 · cases hq : s.2.2.2.2 with
   | false => rfl
   | true => exact absurd (h.2.1 hq) (by rw [g.2.1]; simp)
theorem wrap_d {d : Nat} (h : d ≤ 16) : IntKind.i64.wrap ((d : Int) + 1) = ((d + 1 : Nat) : Int) := by
 rw [wrap_succ (by simp only [Flat.lim]; omega)]
 simp
theorem plookL_good {l : List Pl} {d : Nat} (hd : d ≤ 16) (ih : ∀ x ∈ l, ∀ (d : Nat) lo s, PFine (plook x d lo s) → x.good d) : ∀ k i lo s, PFine (plookL l k i d lo s) → Pl.goodL l (d + 1) := by
 induction l with
 | nil => intro k i lo s _; simp [Pl.goodL]
 | cons x l ihl =>
   intro k i lo s h; rw [plookL, wrap_d hd] at h; rw [Pl.goodL]; exact ⟨ih x (by simp) (d + 1) _ s (PFine.back (plookL_mono (fun y _ => plook_mono y) _ _ _ _ _) h), ihl (fun y hy => ih y (by simp [hy])) _ _ _ _ h⟩
theorem plook_good : ∀ (p : Pl) (d : Nat) (lo : Int) (s : PSrv), PFine (plook p d lo s) → p.good d := by
 refine Pl.ind fun k m kids ex cols wth agg rds ih d lo s h => ?_
 rw [plook] at h; rw [Pl.good]; split at h
 · rename_i hc
   obtain ⟨h1, h2, h3⟩ := h; simp only [Bool.or_eq_false_iff, Bool.not_eq_false'] at h1; simp only [Bool.or_eq_true, Bool.not_eq_true', decide_eq_true_eq] at hc; rcases hc with hc | hc
   · rw [h1.2] at hc; simp at hc
   · simp only at h3
     split at h3 <;> omega
 · rename_i hc
   simp only [Bool.or_eq_true, Bool.not_eq_true', decide_eq_true_eq, not_or, Bool.not_eq_false] at hc; have hd : d ≤ 16 := by omega
   have hb := PFine.back (plookL_mono (fun y _ => plook_mono y) _ _ _ _ _) h
   obtain ⟨g1, g2, g3⟩ := exL_ok _ _ hc.1 hb.2.1; refine ⟨hd, g1, fun e he => ?_, plookL_good hd ih _ _ _ _ h⟩
   obtain ⟨q1, q2⟩ := g3 e he; rcases checkE_vals e with h | h | h
   · exact h
   · exact absurd h q2
   · exact absurd h q1
theorem checkP_fine {p : Pl} (h : checkP p = 0) : PFine (surveyP p) := by
 unfold checkP at h; simp only at h; split at h
 · simp at h
 · rename_i h1
   split at h
   · simp at h
   · rename_i h2
     split at h
     · simp at h
     · split at h
       · simp at h
       · rename_i h3
         simp only [decide_eq_true_eq] at h3; exact ⟨by simpa using h1, by simpa using h2, by omega⟩
theorem checkP_good {p : Pl} (h : checkP p = 0) : p.good 1 := plook_good p 1 0 _ (checkP_fine h)
theorem checkSch_ok {ss : List (List Int)} (h : checkSch ss = 0) : ss.length ≤ 8 ∧ ∀ s ∈ ss, s.length ≤ 8 := by
 unfold checkSch at h; split at h
 · simp at h
 · rename_i hc
   simp only [Bool.or_eq_true, decide_eq_true_eq, List.any_eq_true, not_or, not_exists, not_and] at hc; refine ⟨by omega, fun s hs => ?_⟩
   have := hc.2 s hs; simp only [badS, Bool.or_eq_true, decide_eq_true_eq, not_or] at this; omega
def inferP (ss : List (List Int)) (p : Pl) : List Int × Int :=
 if checkSch ss != 0 then ([], checkSch ss) else if checkP p != 0 then ([], checkP p)
 else if (jdg ss p 0 0 []).2.1 != 0 then ([], (jdg ss p 0 0 []).2.1) else ((jdg ss p 0 0 []).1, 0)
end Go.Proofs
end
section
set_option linter.unusedVariables false
set_option linter.unusedSimpArgs false
namespace Go.Proofs
open Go.Flat
mutual
def Pl.size : Pl → Nat
 | .mk _ _ kids _ _ _ _ _ => 1 + Pl.sizeL kids
def Pl.sizeL : List Pl → Nat
 | [] => 0
 | x :: r => x.size + Pl.sizeL r
end
mutual
def Pl.hgt : Pl → Nat
 | .mk _ _ kids _ _ _ _ _ => 1 + Pl.hgtL kids
def Pl.hgtL : List Pl → Nat
 | [] => 0
 | x :: r => max x.hgt (Pl.hgtL r)
end
mutual
def Pl.gd : Pl → Prop
 | .mk k m kids ex cols wth agg rds => formedP k m kids.length ex cols wth agg rds = true ∧ (∀ e ∈ ex, checkE e = 0) ∧ Pl.gdL kids
def Pl.gdL : List Pl → Prop
 | [] => True
 | x :: r => x.gd ∧ Pl.gdL r
end
theorem Pl.gdL_of : ∀ {l : List Pl}, (∀ x ∈ l, x.gd) → Pl.gdL l
 | [], _ => by simp [Pl.gdL]
 | e :: r, h => by
   rw [Pl.gdL]; exact ⟨h e (by simp), Pl.gdL_of fun x hx => h x (by simp [hx])⟩
theorem Pl.good_gd : ∀ (p : Pl) (d : Nat), p.good d → p.gd ∧ d + p.hgt ≤ 17 := by
 refine Pl.ind fun k m kids ex cols wth agg rds ih d h => ?_
 rw [Pl.good] at h; obtain ⟨h1, h2, h3, h4⟩ := h; have hk : ∀ x ∈ kids, x.gd ∧ (d + 1) + x.hgt ≤ 17 := fun x hx => ih x hx (d + 1) (Pl.goodL_mem h4 x hx)
 rw [Pl.gd, Pl.hgt]; refine ⟨⟨h2, h3, Pl.gdL_of fun x hx => (hk x hx).1⟩, ?_⟩
 have : Pl.hgtL kids ≤ 16 - d := by
   clear ih h4 h2 h3
   induction kids with
   | nil => simp [Pl.hgtL]
   | cons x r ihr =>
     rw [Pl.hgtL]; have hx := (hk x (by simp)).2
     have := ihr fun y hy => hk y (by simp [hy])
     omega
 omega
end Go.Proofs
end
section
set_option linter.unusedVariables false
set_option linter.unusedSimpArgs false
namespace Go.Proofs
open Go.Flat
set_option maxRecDepth 100000
theorem cl47 : Tryz.prog.cellsOf 56 = 1 := by kernel_rfl
theorem cl48 : Tryz.prog.cellsOf 57 = 1 := by kernel_rfl
theorem cl49 : Tryz.prog.cellsOf 58 = 1 := by kernel_rfl
theorem cl50 : Tryz.prog.cellsOf 59 = 1 := by kernel_rfl
theorem cl52 : Tryz.prog.cellsOf 61 = 8 := by kernel_rfl
theorem list8 {α : Type} {l : List α} (h : l.length = 8) : ∃ a b c d e f g i, l = [a, b, c, d, e, f, g, i] := by
 match l, h with | [a, b, c, d, e, f, g, i], _ => exact ⟨a, b, c, d, e, f, g, i, rfl⟩
theorem shp_ints {M d : Nat} {xs : List PV} (h : Shp Tryz.prog M d 58 xs) : ∃ l : List Int, xs = [.ps (l.map irow)] ∧ l.length ≤ M := by
 obtain ⟨rows, rfl, hl, d, rfl, hr⟩ := shp_sl h Tryz.underlying58
 obtain ⟨xs, rfl, _⟩ := rows_of (row := irow) (p := fun _ => True) fun r hm => by
   obtain ⟨n, e, _⟩ := shp_int (hr r hm) Tryz.underlying3; exact ⟨n, e, trivial⟩
 exact ⟨xs, rfl, by simpa using hl⟩
theorem shp_types {M d : Nat} {xs : List PV} (h : Shp Tryz.prog M d 67 xs) : ∃ l : List Int, xs = [.ps (l.map trow)] ∧ l.length ≤ M := by
 obtain ⟨rows, rfl, hl, d, rfl, hr⟩ := shp_sl h Tryz.underlying67
 obtain ⟨xs, rfl, _⟩ := rows_of (row := trow) (p := fun _ => True) fun r hm => by
   obtain ⟨n, e, _⟩ := shp_int (hr r hm) Tryz.underlying73; exact ⟨n, e, trivial⟩
 exact ⟨xs, rfl, by simpa using hl⟩
theorem shp_exprs {M d : Nat} {xs : List PV} (h : Shp Tryz.prog M d 26 xs) : ∃ l : List E, xs = [.ps (l.map E.row)] ∧ l.length ≤ M := by
 obtain ⟨rows, rfl, hl, d, rfl, hr⟩ := shp_sl h Tryz.underlying26
 obtain ⟨xs, rfl, _⟩ := rows_of (row := E.row) (p := fun _ => True) fun r hm => by
   obtain ⟨e, he⟩ := shp_expr d (hr r hm); exact ⟨e, he, trivial⟩
 exact ⟨xs, rfl, by simpa using hl⟩
theorem bndL_all : ∀ {l : List Pl}, (∀ p ∈ l, p.bnd) → Pl.bndL l
 | [], _ => by simp [Pl.bndL]
 | e :: r, h => by
   rw [Pl.bndL]; exact ⟨h e (by simp), bndL_all fun k hk => h k (by simp [hk])⟩
theorem shp_plan : ∀ (d : Nat) {xs : List PV}, Shp Tryz.prog 1048576 d 61 xs → ∃ p : Pl, xs = p.row ∧ p.bnd
 | 0, xs, h => h.elim
 | d + 1, xs, h => by
   obtain ⟨hl, d', hd, hf⟩ := shp_st h Tryz.underlying61; obtain rfl : d = d' := by omega
   rw [cl52] at hl; obtain ⟨a1, a2, a3, a4, a5, a6, a7, a8, rfl⟩ := list8 hl; simp [cl47, cl3, cl48, cl25, cl49, cl50] at hf; obtain ⟨h1, h2, h3, h4, h5, h6, h7, h8⟩ := hf; obtain ⟨k, e1, _⟩ := shp_int h1 Tryz.underlying56; obtain ⟨m, e2, _⟩ := shp_int h2 Tryz.underlying3; obtain ⟨rows, e3, hk, d2, hd2, hr⟩ := shp_sl h3 Tryz.underlying57; obtain ⟨ks, rfl, hkb⟩ := rows_of (row := Pl.row) (p := Pl.bnd) fun r hm => shp_plan d2 (hr r hm)
   obtain ⟨ex, e4, hex⟩ := shp_exprs h4; obtain ⟨cs, e5, hcs⟩ := shp_ints h5; obtain ⟨ws, e6, hws⟩ := shp_ints h6; obtain ⟨ag, e7, _⟩ := shp_int h7 Tryz.underlying59; obtain ⟨rd, e8, _⟩ := shp_int h8 Tryz.underlying3; simp only [List.cons.injEq, and_true] at e1 e2 e3 e4 e5 e6 e7 e8; subst e1; subst e2; subst e3; subst e4; subst e5; subst e6; subst e7; subst e8; refine ⟨.mk k m ks ex cs ws ag rd, by rw [Pl.row_eq], ?_⟩
   rw [Pl.bnd]; exact ⟨by simpa [Bnd] using hk, hex, hcs, hws, bndL_all hkb⟩
theorem Pl.av_row (p : Pl) : p.av = .agg (p.row.map .p) := by
 obtain ⟨k, m, kids, ex, cols, wth, agg, rds⟩ := p; rw [Pl.row_eq]; simp [Pl.av, vv]
end Go.Proofs
end
section
set_option linter.unusedVariables false
set_option linter.unusedSimpArgs false
namespace Go.Proofs
section
variable {α : Type} (lt : α → α → Bool)
def mrg : List α → List α → List α
 | [], b => b
 | x :: a, [] => x :: a
 | x :: a, y :: b => if lt y x then y :: mrg (x :: a) b else x :: mrg a (y :: b)
termination_by a b => a.length + b.length
def Line (l : List α) : Prop := l.Pairwise fun x y => lt y x = false
structure Ord : Prop where
 irr : ∀ x, lt x x = false
 asy : ∀ x y, lt x y = true → lt y x = false
 tr : ∀ x y z, lt y x = false → lt z y = false → lt z x = false
def isrt (l : List α) : List α := l.foldl (fun s y => mrg lt s [y]) []
variable {lt}
theorem mrg_nil (a : List α) : mrg lt a [] = a := by cases a <;> simp [mrg]
theorem nil_mrg (b : List α) : mrg lt [] b = b := by simp [mrg]
theorem mrg_cons (x y : α) (a b : List α) : mrg lt (x :: a) (y :: b) = if lt y x then y :: mrg lt (x :: a) b else x :: mrg lt a (y :: b) := by rw [mrg]
theorem mrg_length : ∀ (a b : List α), (mrg lt a b).length = a.length + b.length
 | [], b => by simp [nil_mrg]
 | x :: a, [] => by simp [mrg_nil]
 | x :: a, y :: b => by
   rw [mrg_cons]; split
   · simp [mrg_length (x :: a) b]; omega
   · simp [mrg_length a (y :: b)]; omega
termination_by a b => a.length + b.length
theorem mrg_perm : ∀ (a b : List α), (mrg lt a b).Perm (a ++ b)
 | [], b => by rw [nil_mrg]; exact .refl _
 | x :: a, [] => by rw [mrg_nil, List.append_nil]
 | x :: a, y :: b => by
   rw [mrg_cons]; split
   · exact ((mrg_perm (x :: a) b).cons y).trans (List.perm_middle.symm)
   · exact (mrg_perm a (y :: b)).cons x
termination_by a b => a.length + b.length
theorem mem_mrg {a b : List α} {z : α} : z ∈ mrg lt a b ↔ z ∈ a ∨ z ∈ b := by
 rw [(mrg_perm a b).mem_iff, List.mem_append]
theorem mrg_split : ∀ (u1 v1 u2 v2 : List α), (∀ x ∈ u1, ∀ y ∈ v2, lt y x = false) → (∀ y ∈ v1, ∀ x ∈ u2, lt y x = true) → mrg lt (u1 ++ u2) (v1 ++ v2) = mrg lt u1 v1 ++ mrg lt u2 v2
 | [], [], u2, v2, _, _ => by simp [nil_mrg]
 | [], y :: v1, u2, v2, h1, h2 => by
   rw [nil_mrg, List.nil_append, List.cons_append]
   cases u2 with
   | nil => simp [nil_mrg]
   | cons x u2 =>
     rw [mrg_cons, if_pos (h2 y (by simp) x (by simp))]
     have := mrg_split [] v1 (x :: u2) v2 (by simp) fun z hz => h2 z (by simp [hz])
     rw [nil_mrg, List.nil_append] at this; rw [this]; rfl
 | x :: u1, [], u2, v2, h1, h2 => by
   rw [mrg_nil, List.nil_append, List.cons_append]
   cases v2 with
   | nil => simp [mrg_nil]
   | cons y v2 =>
     rw [mrg_cons, if_neg (by simp [h1 x (by simp) y (by simp)])]
     have := mrg_split u1 [] u2 (y :: v2) (fun z hz => h1 z (by simp [hz])) (by simp)
     rw [mrg_nil, List.nil_append] at this; rw [this]; rfl
 | x :: u1, y :: v1, u2, v2, h1, h2 => by
   rw [List.cons_append, List.cons_append, mrg_cons, mrg_cons]; split
   · rw [← List.cons_append, mrg_split (x :: u1) v1 u2 v2 h1 fun z hz => h2 z (by simp [hz])]; rfl
   · rw [← List.cons_append, mrg_split u1 (y :: v1) u2 v2 (fun z hz => h1 z (by simp [hz])) h2]; rfl
termination_by u1 v1 => u1.length + v1.length
theorem Line.nil : Line lt ([] : List α) := List.Pairwise.nil
theorem line_cons {x : α} {a : List α} : Line lt (x :: a) ↔ (∀ y ∈ a, lt y x = false) ∧ Line lt a := List.pairwise_cons
variable (ho : Ord lt)
include ho
theorem mrg_line : ∀ (a b : List α), Line lt a → Line lt b → Line lt (mrg lt a b)
 | [], b, _, hb => by rw [nil_mrg]; exact hb
 | x :: a, [], ha, _ => by rw [mrg_nil]; exact ha
 | x :: a, y :: b, ha, hb => by
   rw [mrg_cons]; obtain ⟨ha1, ha2⟩ := line_cons.1 ha; obtain ⟨hb1, hb2⟩ := line_cons.1 hb; split
   · rename_i h
     refine line_cons.2 ⟨fun z hz => ?_, mrg_line (x :: a) b ha hb2⟩
     rcases mem_mrg.1 hz with hz | hz
     · rcases List.mem_cons.1 hz with rfl | hz
       · exact ho.asy _ _ h
       · exact ho.tr _ _ _ (ho.asy _ _ h) (ha1 z hz)
     · exact hb1 z hz
   · rename_i h
     simp only [Bool.not_eq_true] at h; refine line_cons.2 ⟨fun z hz => ?_, mrg_line a (y :: b) ha2 hb⟩
     rcases mem_mrg.1 hz with hz | hz
     · exact ha1 z hz
     · rcases List.mem_cons.1 hz with rfl | hz
       · exact h
       · exact ho.tr _ _ _ h (hb1 z hz)
termination_by a b => a.length + b.length
theorem ord_lt_of {x y z : α} (h1 : lt y x = true) (h2 : lt z x = false) : lt z y = false := by
 cases h : lt z y with
 | false => rfl
 | true => exact absurd (ho.tr _ _ _ h2 (ho.asy _ _ h)) (by rw [h1]; simp)
theorem mrg_assoc : ∀ (a b c : List α), Line lt a → Line lt b → Line lt c → mrg lt (mrg lt a b) c = mrg lt a (mrg lt b c)
 | [], b, c, _, _, _ => by simp [nil_mrg]
 | x :: a, [], c, _, _, _ => by simp [nil_mrg, mrg_nil]
 | x :: a, y :: b, [], _, _, _ => by simp [mrg_nil]
 | x :: a, y :: b, z :: c, ha, hb, hc => by
   have ha2 := (line_cons.1 ha).2; have hb2 := (line_cons.1 hb).2; have hc2 := (line_cons.1 hc).2; rw [mrg_cons (lt := lt) y z b c]
   by_cases hyx : lt y x = true
   · rw [mrg_cons (lt := lt) x y a b, if_pos hyx]
     by_cases hzy : lt z y = true
     · rw [if_pos hzy, mrg_cons, if_pos hzy]
       have hzx : lt z x = true := by
         cases h : lt z x with
         | true => rfl
         | false => exact absurd (ord_lt_of ho hyx h) (by rw [hzy]; simp)
       rw [mrg_cons, if_pos hzx]; have := mrg_assoc (x :: a) (y :: b) c ha hb hc2; rw [mrg_cons (lt := lt) x y a b, if_pos hyx] at this; rw [this]
     · rw [if_neg hzy, mrg_cons, if_neg hzy, mrg_cons, if_pos hyx, mrg_assoc (x :: a) b (z :: c) ha hb2 hc]
   · rw [mrg_cons (lt := lt) x y a b, if_neg hyx]
     by_cases hzy : lt z y = true
     · rw [if_pos hzy, mrg_cons, mrg_cons]
       by_cases hzx : lt z x = true
       · rw [if_pos hzx, if_pos hzx]
         have := mrg_assoc (x :: a) (y :: b) c ha hb hc2; rw [mrg_cons (lt := lt) x y a b, if_neg hyx] at this; rw [this]
       · rw [if_neg hzx, if_neg hzx, mrg_assoc a (y :: b) (z :: c) ha2 hb hc, mrg_cons (lt := lt) y z b c, if_pos hzy]
     · have hzx : ¬ lt z x = true := by
         simp only [Bool.not_eq_true] at hzy hyx ⊢; exact ho.tr _ _ _ hyx hzy
       rw [if_neg hzy, mrg_cons, if_neg hzx, mrg_cons, if_neg hyx, mrg_assoc a (y :: b) (z :: c) ha2 hb hc, mrg_cons (lt := lt) y z b c, if_neg hzy]
termination_by a b c => a.length + b.length + c.length
omit ho in
theorem line_one (y : α) : Line lt [y] := List.pairwise_singleton ..
omit ho in
theorem isrt_snoc (l : List α) (y : α) : isrt lt (l ++ [y]) = mrg lt (isrt lt l) [y] := by simp [isrt, List.foldl_append]
theorem isrt_line (l : List α) : Line lt (isrt lt l) := by
 unfold isrt
 suffices h : ∀ (l s : List α), Line lt s → Line lt (l.foldl (fun s y => mrg lt s [y]) s) from h l [] .nil
 intro l
 induction l with
 | nil => intro s hs; exact hs
 | cons y l ih => intro s hs; exact ih _ (mrg_line ho s [y] hs (line_one y))
theorem isrt_append (u v : List α) : isrt lt (u ++ v) = mrg lt (isrt lt u) (isrt lt v) := by
 induction v generalizing u with
 | nil => simp [isrt, mrg_nil]
 | cons y v ih =>
   have e1 : u ++ y :: v = (u ++ [y]) ++ v := by simp
   have e2 : isrt lt (y :: v) = mrg lt [y] (isrt lt v) := by
     have := ih [y]; rw [List.singleton_append] at this; rw [this]; simp [isrt, nil_mrg]
   rw [e1, ih, isrt_snoc, e2, mrg_assoc ho _ _ _ (isrt_line ho u) (line_one y) (isrt_line ho v)]
omit ho in
theorem isrt_length (l : List α) : (isrt lt l).length = l.length := by
 unfold isrt
 suffices h : ∀ (l s : List α), (l.foldl (fun s y => mrg lt s [y]) s).length = s.length + l.length from by simpa using h l []
 intro l
 induction l with
 | nil => intro s; simp
 | cons y l ih => intro s; rw [List.foldl_cons, ih, mrg_length]; simp; omega
omit ho in
theorem isrt_perm (l : List α) : (isrt lt l).Perm l := by
 unfold isrt
 suffices h : ∀ (l s : List α), (l.foldl (fun s y => mrg lt s [y]) s).Perm (s ++ l) from by simpa using h l []
 intro l
 induction l with
 | nil => intro s; simp
 | cons y l ih =>
   intro s; rw [List.foldl_cons]; refine (ih _).trans ?_; refine ((mrg_perm s [y]).append_right l).trans ?_; simp
end
end Go.Proofs
end
section
set_option linter.unusedVariables false
set_option linter.unusedSimpArgs false
namespace Go.Proofs
section
variable {α : Type}
def swp (z : α) (l : List α) (i j : Nat) : List α := (l.set i (l.getD j z)).set j (l.getD i z)
@[simp] theorem swp_len (z : α) (l : List α) (i j : Nat) : (swp z l i j).length = l.length := by simp [swp]
def swr (z : α) (l : List α) (a b : Nat) : Nat → List α
 | 0 => l
 | n + 1 => swp z (swr z l a b n) (a + n) (b + n)
@[simp] theorem swr_len (z : α) (l : List α) (a b : Nat) : ∀ n, (swr z l a b n).length = l.length
 | 0 => rfl
 | n + 1 => by simp [swr, swr_len z l a b n]
theorem swp_at (z : α) (l : List α) (i j k : Nat) (hi : i < l.length) (hj : j < l.length) : (swp z l i j)[k]? = if k = j then l[i]? else if k = i then l[j]? else l[k]? := by
 have ei : l.getD i z = l[i] := by simp [List.getD, hi]
 have ej : l.getD j z = l[j] := by simp [List.getD, hj]
 unfold swp; rw [ei, ej]
 by_cases h1 : k = j
 · subst h1
   rw [if_pos rfl, List.getElem?_set_self (by simpa using hj), List.getElem?_eq_getElem hi]
 · rw [if_neg h1, List.getElem?_set_ne (by omega)]
   by_cases h2 : k = i
   · subst h2
     rw [if_pos rfl, List.getElem?_set_self hi, List.getElem?_eq_getElem hj]
   · rw [if_neg h2, List.getElem?_set_ne (by omega)]
theorem swr_at (z : α) (l : List α) (a b : Nat) : ∀ (n k : Nat), a + n ≤ b → b + n ≤ l.length →
   (swr z l a b n)[k]? = if a ≤ k ∧ k < a + n then l[k - a + b]? else if b ≤ k ∧ k < b + n then l[k - b + a]? else l[k]?
 | 0, k, _, _ => by rw [if_neg (by omega), if_neg (by omega)]; rfl
 | n + 1, k, h1, h2 => by
   have ih := fun k => swr_at z l a b n k (by omega) (by omega)
   rw [swr, swp_at _ _ _ _ _ (by simp; omega) (by simp; omega), ih, ih, ih]
   by_cases c1 : k = b + n
   · subst c1
     rw [if_pos rfl, if_neg (by omega), if_neg (by omega), if_neg (by omega), if_pos (by omega)]
     congr 1; omega
   · rw [if_neg c1]
     by_cases c2 : k = a + n
     · subst c2
       rw [if_pos rfl, if_neg (by omega), if_neg (by omega), if_pos (by omega)]
       congr 1; omega
     · rw [if_neg c2]
       repeat' split
       all_goals first | omega | rfl
def rot (l : List α) (a m b : Nat) : List α := l.take a ++ ((l.drop m).take (b - m) ++ ((l.drop a).take (m - a) ++ l.drop b))
theorem rot_len (l : List α) {a m b : Nat} (h1 : a ≤ m) (h2 : m ≤ b) (h3 : b ≤ l.length) : (rot l a m b).length = l.length := by
 simp only [rot, List.length_append, List.length_take, List.length_drop]; omega
theorem rot_at (l : List α) {a m b : Nat} (h1 : a ≤ m) (h2 : m ≤ b) (h3 : b ≤ l.length) (k : Nat) : (rot l a m b)[k]? = if k < a then l[k]? else if k < a + (b - m) then l[k - a + m]? else if k < b then l[k - (b - m)]? else l[k]? := by
 unfold rot
 by_cases c1 : k < a
 · rw [if_pos c1, List.getElem?_append_left (by simp; omega), List.getElem?_take_of_lt c1]
 · rw [if_neg c1, List.getElem?_append_right (by simp; omega)]
   have e1 : (l.take a).length = a := by simp; omega
   rw [e1]
   by_cases c2 : k < a + (b - m)
   · rw [if_pos c2, List.getElem?_append_left (by simp; omega), List.getElem?_take_of_lt (by omega), List.getElem?_drop]
     congr 1; omega
   · rw [if_neg c2, List.getElem?_append_right (by simp; omega)]
     have e2 : ((l.drop m).take (b - m)).length = b - m := by simp; omega
     rw [e2]
     by_cases c3 : k < b
     · rw [if_pos c3, List.getElem?_append_left (by simp; omega), List.getElem?_take_of_lt (by omega), List.getElem?_drop]
       congr 1; omega
     · rw [if_neg c3, List.getElem?_append_right (by simp; omega)]
       have e3 : ((l.drop a).take (m - a)).length = m - a := by simp; omega
       rw [e3, List.getElem?_drop]; congr 1; omega
theorem rot_step1 (z : α) (l : List α) {i j m : Nat} (h1 : j < i) (h2 : i ≤ m) (h3 : m + j ≤ l.length) : rot (swr z l (m - i) m j) (m - i + j) m (m + j) = rot l (m - i) m (m + j) := by
 apply List.ext_getElem?; intro k; rw [rot_at _ (by omega) (by omega) (by simpa using h3), rot_at _ (by omega) (by omega) h3]
 simp only [swr_at z l (m - i) m j _ (by omega) h3]
 repeat' split
 all_goals first | omega | (congr 1; omega) | rfl
theorem rot_step2 (z : α) (l : List α) {i j m : Nat} (h1 : i < j) (h2 : i ≤ m) (h3 : m + j ≤ l.length) : rot (swr z l (m - i) (m + j - i) i) (m - i) m (m + j - i) = rot l (m - i) m (m + j) := by
 apply List.ext_getElem?; intro k; rw [rot_at _ (by omega) (by omega) (by simp; omega), rot_at _ (by omega) (by omega) h3]
 simp only [swr_at z l (m - i) (m + j - i) i _ (by omega) (by omega)]
 repeat' split
 all_goals first | omega | (congr 1; omega) | rfl
theorem rot_end (z : α) (l : List α) {i m : Nat} (h2 : i ≤ m) (h3 : m + i ≤ l.length) : swr z l (m - i) m i = rot l (m - i) m (m + i) := by
 apply List.ext_getElem?; intro k; rw [rot_at _ (by omega) (by omega) h3, swr_at z l (m - i) m i _ (by omega) h3]
 repeat' split
 all_goals first | omega | (congr 1; omega) | rfl
end
end Go.Proofs
end
section
set_option linter.unusedVariables false
set_option linter.unusedSimpArgs false
namespace Go.Proofs
section
variable {α : Type} {lt : α → α → Bool}
theorem mrg_ins (ho : Ord lt) {s : List α} (hs : Line lt s) (y : α) (k : Nat) (hks : k ≤ s.length) (h1 : ∀ z ∈ s.drop k, lt y z = true) (h2 : ∀ z, 0 < k → s[k - 1]? = some z → lt y z = false) : mrg lt s [y] = s.take k ++ y :: s.drop k := by
 have ht : ∀ z ∈ s.take k, lt y z = false := by
   intro z hz; obtain ⟨i, hi⟩ := List.getElem?_of_mem hz; obtain ⟨hi1, hi2⟩ := List.getElem?_eq_some_iff.1 hi; simp only [List.length_take] at hi1; rw [List.getElem?_take_of_lt (by omega)] at hi
   obtain ⟨w, hw⟩ : ∃ w, s[min k s.length - 1]? = some w := ⟨_, List.getElem?_eq_getElem (by omega)⟩
   have hyw : lt y w = false := by
     rw [Nat.min_eq_left hks] at hw; exact h2 w (by omega) hw
   by_cases he : i = min k s.length - 1
   · rw [he, hw] at hi
     simp only [Option.some.injEq] at hi; rw [← hi]; exact hyw
   · obtain ⟨q1, q2⟩ := List.getElem?_eq_some_iff.1 hi
     obtain ⟨r1, r2⟩ := List.getElem?_eq_some_iff.1 hw; have hlt := List.pairwise_iff_getElem.1 hs i (min k s.length - 1) q1 r1 (by omega)
     rw [q2, r2] at hlt; exact ho.tr z w y hlt hyw
 have e1 : mrg lt (s.take k ++ s.drop k) ([] ++ [y]) = mrg lt (s.take k) [] ++ mrg lt (s.drop k) [y] := mrg_split _ _ _ _ (fun x hx z hz => by rw [List.mem_singleton] at hz; rw [hz]; exact ht x hx) (by simp)
 have e2 : mrg lt ([] ++ s.drop k) ([y] ++ []) = mrg lt [] [y] ++ mrg lt (s.drop k) [] := mrg_split _ _ _ _ (by simp) (fun z hz x hx => by rw [List.mem_singleton] at hz; rw [hz]; exact h1 x hx)
 rw [List.nil_append, List.append_nil, mrg_nil, nil_mrg] at e2; rw [List.take_append_drop, List.nil_append, mrg_nil, e2] at e1
 simpa using e1
def seg (l : List α) (a b : Nat) : List α := (l.drop a).take (b - a)
theorem seg_len {l : List α} {a b : Nat} (h : b ≤ l.length) : (seg l a b).length = b - a := by simp [seg]; omega
theorem seg_snoc {l : List α} {a i : Nat} {y : α} (ha : a ≤ i) (h : l[i]? = some y) : seg l a (i + 1) = seg l a i ++ [y] := by
 unfold seg; rw [show i + 1 - a = (i - a) + 1 by omega, List.take_add_one, List.getElem?_drop, show a + (i - a) = i by omega, h]
 rfl
theorem swp_adj (z : α) (X Y : List α) (w y : α) : swp z (X ++ w :: y :: Y) (X.length + 1) X.length = X ++ y :: w :: Y := by
 simp [swp, List.getD, List.set_append, List.getElem?_append_right]
def insA (P s : List α) (y : α) (R : List α) (k : Nat) : List α := P ++ (s.take k ++ y :: (s.drop k ++ R))
theorem insA_swp (z : α) (P s : List α) (y : α) (R : List α) {k : Nat} (h : k + 1 ≤ s.length) : swp z (insA P s y R (k + 1)) (P.length + k + 1) (P.length + k) = insA P s y R k := by
 have e1 : s.take (k + 1) = s.take k ++ [s[k]] := (List.take_append_getElem (by omega)).symm
 have e2 : s.drop k = s[k] :: s.drop (k + 1) := List.drop_eq_getElem_cons (by omega)
 have hl : (P ++ s.take k).length = P.length + k := by simp; omega
 have := swp_adj z (P ++ s.take k) (s.drop (k + 1) ++ R) s[k] y; rw [hl] at this; rw [insA, insA, e1, e2]; simp only [List.append_assoc, List.singleton_append, List.cons_append, List.nil_append] at this ⊢; exact this
theorem insA_len (P s : List α) (y : α) (R : List α) (k : Nat) : (insA P s y R k).length = P.length + s.length + 1 + R.length := by
 simp only [insA, List.length_append, List.length_take, List.length_cons, List.length_drop]; omega
theorem insA_at (P s : List α) (y : α) (R : List α) {k : Nat} (h : k ≤ s.length) : (insA P s y R k)[P.length + k]? = some y := by
 have hl : (s.take k).length = k := by simp; omega
 rw [insA, List.getElem?_append_right (by omega), List.getElem?_append_right (by omega)]
 simp [hl]
theorem insA_pred (P s : List α) (y : α) (R : List α) {k : Nat} (h : k + 1 ≤ s.length) : (insA P s y R (k + 1))[P.length + k]? = s[k]? := by
 have hl : (s.take (k + 1)).length = k + 1 := by simp; omega
 rw [insA, List.getElem?_append_right (by omega), List.getElem?_append_left (by omega), List.getElem?_take_of_lt (by omega)]
 congr 1; omega
end
end Go.Proofs
end
section
namespace Go.Proofs
open Go.Flat
set_option maxRecDepth 100000
set_option linter.unusedVariables false
set_option linter.unusedSimpArgs false
attribute [local simp] Bool.and_assoc Bool.or_assoc evalG evalX efD skF guardG guardL isCall stepL evalOp ev evs lk tmpsL app AV.ok fresh vv putCells insV ins del putL place Go.Flat.look fillC fillR getCells loadF storeF binF scalarBin intBin strBin isShift shiftBin unF lenF maxF minF rowsF appendF builtinF idxF natOf sliceP sliceF optEv Flat.cut overwrite toPV toPVs constAV scalarC scalarCs AV.cells TI.isAgg allSome andAll scalarEq buildable Go.Flat.lim retQ resL resAll resOne PartOf noTmp closedIn refs refs.refsL isSomeV hasB ids leA leA.leL renA renA.renL callB refsAll backL dropIds renS LiesAt injB ownB freshB memN locId insAll leA_refl leL_refl okS frzS frzA frzA.frzL evalD feet fine updCells cellsFrom memP footRf footWf noTmpU updIds opOps opIds idsA footR footW guardTs opTs dstTs callR callW renLoc renC inBlockQ thenQ Value.oneCell' IntKind.bits IntKind.signed
section
structure Tm where
 e : Int
 a : Int
 b : Int
structure Up where
 k : List Val
 r : List Val
 t : Tm
 d : Int
def Up.row (u : Up) : List PV := [.ps (u.k.map Val.row), .ps (u.r.map Val.row), .v (.int .u64 u.t.e), .v (.int .u64 u.t.a), .v (.int .u64 u.t.b), .v (.int .i64 u.d)]
@[simp] theorem Up.row_len (u : Up) : u.row.length = 6 := rfl
def Up.av (u : Up) : AV := .agg (u.row.map .p)
def Up.zero : Up := ⟨[], [], ⟨0, 0, 0⟩, 0⟩
theorem wrap_nat {n : Nat} (h : n ≤ Flat.lim) : IntKind.i64.wrap (n : Int) = n := Flat.wrap_small h
theorem wadd {x y g : Nat} (h : x + y = g) (hg : g ≤ Flat.lim) : IntKind.i64.wrap ((x : Int) + (y : Int)) = (g : Int) := by
 have := wrap_nat hg; rw [← this, ← h]; simp
theorem wsub {x y d : Nat} (h : d + y = x) (hx : x ≤ Flat.lim) : IntKind.i64.wrap ((x : Int) - (y : Int)) = (d : Int) := by
 have := wrap_nat (n := d) (by omega)
 rw [← this, ← h]; simp
attribute [local simp] Up.row in
theorem spec215 (us : List Up) (hus : us.length ≤ Flat.lim) (pub : Nat) (a b m : Nat) (hpa : pub ≤ a) (hpb : pub ≤ b) (ha : a + m ≤ us.length) (hb : b + m ≤ us.length) (f : Fn) : Flat.Sp Tryz.prog 311 [.sl 0 us.length 0 us.length, vv (.int .i64 a), vv (.int .i64 b), vv (.int .i64 m), .fn f []] [(.arr 0, .arr 37 6 (us.map Up.row) pub)] (.tup []) [(.arr 0, .arr 37 6 ((swr Up.zero us a b m).map Up.row) pub)] := by
 refine sk Tryz.func311 ?_; intro F G hn hG; refine srp 1000 [0,4,10,38] ?_; refine k_block ?_; refine k_loop (fun n l => ∃ i, i + n = (List.range m).length ∧ (True) ∧ l = [(.tmp 0, .av (.sl 0 us.length 0 us.length)), (.tmp 1, .av (vv (.int .i64 a))), (.tmp 2, .av (vv (.int .i64 b))), (.tmp 3, .av (vv (.int .i64 m))), (.tmp 10, .av (vv (.int .i64 i))), (.arr 0, .arr 37 6 ((swr Up.zero us a b i).map Up.row) pub)]) ((List.range m).length) hG ⟨_, ⟨by simp [swr], by simp, by simp⟩, 0, by simp, trivial, rfl⟩ ?_
 rintro n _ ⟨i, hin, hfa, rfl⟩; refine sq ?_; refine srp 2000 [0,4,10,38] ?_; refine cd ?_ ?_
 · intro h13_1
   have hlt : i < m := by simpa using h13_1
   have hrl : (List.range m).length = m := List.length_range; obtain ⟨p, hp⟩ : ∃ p, a + i = p := ⟨_, rfl⟩; obtain ⟨q, hq⟩ : ∃ q, b + i = q := ⟨_, rfl⟩; have hw1 : IntKind.i64.wrap ((a : Int) + (i : Int)) = (p : Int) := by have := wrap_nat (n := p) (by omega); rw [← this, ← hp]; simp
   have hw2 : IntKind.i64.wrap ((b : Int) + (i : Int)) = (q : Int) := by have := wrap_nat (n := q) (by omega); rw [← this, ← hq]; simp
   have hw3 := wrap_succ (show i < Flat.lim by omega)
   have hai : p < us.length := by omega
   have hbi : q < us.length := by omega
   have hpp : pub ≤ p := by omega
   have hpq : pub ≤ q := by omega
   obtain ⟨xa, hxa⟩ : ∃ x, (swr Up.zero us a b i)[p]? = some x := ⟨_, List.getElem?_eq_getElem (by simp; omega)⟩
   obtain ⟨xb, hxb⟩ : ∃ x, (swr Up.zero us a b i)[q]? = some x := ⟨_, List.getElem?_eq_getElem (by simp; omega)⟩
   refine k_skip ?_; refine sq ?_; refine k_block ?_; refine dr ?_; refine de 4000 ?_; refine dn ?_; refine k_nil ?_; show AK _ _ _ _ _ _; refine rg 3000 ?_; refine k_nil ?_; refine ⟨n - 1, by omega, _, ⟨?_, ?_, ?_⟩, i + 1, by omega, trivial, rfl⟩ <;> simp [*, swr, swp, Up.row]
 · intro h13_1
   have hge : m ≤ i := by simpa using h13_1
   obtain rfl : i = m := by simp at hin; omega
   refine k_exit ?_; show AK _ _ _ _ _ _; refine k_nil ?_; show retQ _ _ _ _ _ _ _; simp [*]
attribute [local simp] Up.row in
theorem spec209 (us : List Up) (hus : us.length ≤ Flat.lim) (pub a m b : Nat) (hpa : pub ≤ a) (ham : a < m) (hmb : m < b) (hb : b ≤ us.length) (f : Fn) : Flat.Sp Tryz.prog 292 [.sl 0 us.length 0 us.length, vv (.int .i64 a), vv (.int .i64 m), vv (.int .i64 b), .fn f []] [(.arr 0, .arr 37 6 (us.map Up.row) pub)] (.tup []) [(.arr 0, .arr 37 6 ((rot us a m b).map Up.row) pub)] := by
 refine sk Tryz.func292 ?_; intro F G hn hG; obtain ⟨i0, hi0⟩ : ∃ i0, i0 + a = m := ⟨m - a, by omega⟩
 obtain ⟨j0, hj0⟩ : ∃ j0, j0 + m = b := ⟨b - m, by omega⟩
 have hwi0 := wsub hi0 (by omega)
 have hwj0 := wsub hj0 (by omega)
 refine srp 1000 [0,1,2,5,10,12,15,31,32,46,47,57] ?_; refine srp 2000 [0,1,2,3,4,5,10,12,18,31,32,46,47,57] ?_; refine sq ?_; refine k_block ?_; refine k_loop (fun n l => ∃ i j : Nat, ∃ cur : List Up, n = i + j ∧ (cur.length = us.length ∧ 0 < i ∧ 0 < j ∧ a + i ≤ m ∧ m + j ≤ b ∧ rot cur (m - i) m (m + j) = rot us a m b) ∧ l = [(.tmp 0, .av (.sl 0 us.length 0 us.length)), (.tmp 2, .av (vv (.int .i64 m))), (.tmp 4, .av (.fn f [])), (.tmp 10, .av (vv (.int .i64 i))), (.tmp 11, .av (vv (.int .i64 j))), (.arr 0, .arr 37 6 (cur.map Up.row) pub)]) (i0 + j0) hG ⟨_, ⟨by simp [hwi0, hwj0], by simp, by simp⟩, i0, j0, us, rfl, ⟨rfl, by omega, by omega, by omega, by omega, by rw [show m - i0 = a by omega, show m + j0 = b by omega]⟩, rfl⟩ ?_
 rintro n _ ⟨i, j, cur, hin, ⟨hcl, hi1, hj1, hai, hjb, hrot⟩, rfl⟩; obtain ⟨e, he⟩ : ∃ e, e + i = m := ⟨m - i, by omega⟩
 have hwe := wsub he (by omega)
 refine sq ?_; refine srp 3000 [0,1,2,3,4,5,10,12,18,31,32,46,47,57] ?_; refine cd ?_ ?_
 · intro h20_1
   have hij : ¬ i = j := by have := h20_1; simp at this; omega
   clear h20_1; refine k_skip ?_; refine k_block ?_; refine srp 4000 [0,1,2,3,4,5,10,12,18,31,32,46,47,57] ?_; refine cd ?_ ?_
   · intro h23_2
     have hlt : j < i := by have := h23_2; simp at this; omega
     obtain ⟨d, hd⟩ : ∃ d, d + j = i := ⟨i - j, by omega⟩
     have hwd := wsub hd (by omega)
     refine src 5000 ?_; refine oc id (spec215 cur (by omega) pub e m j (by omega) (by omega) (by omega) (by omega) f) ?_
     refine onp [0,1,2,3,4,5,10,12,18,31,32,46,47,57] ?_; refine rg 6000 ?_; refine k_nil ?_; show AK _ _ _ _ _ _; refine k_nil ?_
     first
       | refine ⟨d + j, by omega, _, ⟨?_, ?_, ?_⟩, d, j, swr Up.zero cur e m j, rfl, ⟨by simp [hcl], by omega, hj1, by omega, hjb, by rw [← hrot, ← rot_step1 Up.zero cur (i := i) (j := j) (m := m) (by omega) (by omega) (by omega)]; congr 1 <;> first | omega | (congr 1 <;> omega)⟩, rfl⟩ <;> simp [*] <;> done
       | refine ⟨i + d, by omega, _, ⟨?_, ?_, ?_⟩, i, d, swr Up.zero cur e q i, rfl, ⟨by simp [hcl], hi1, by omega, hai, by omega, by rw [← hrot, ← rot_step2 Up.zero cur (i := i) (j := j) (m := m) (by omega) (by omega) (by omega)]; congr 1 <;> first | omega | (congr 1 <;> omega)⟩, rfl⟩ <;> simp [*] <;> done
   · intro h23_2
     have hlt : i < j := by have := h23_2; simp at this; omega
     obtain ⟨d, hd⟩ : ∃ d, d + i = j := ⟨j - i, by omega⟩
     have hwd := wsub hd (by omega)
     obtain ⟨g, hg⟩ : ∃ g, m + j = g := ⟨_, rfl⟩; have hwg := wadd hg (by omega)
     obtain ⟨q, hq⟩ : ∃ q, q + i = g := ⟨g - i, by omega⟩
     have hwq := wsub hq (by omega)
     refine src 7000 ?_; refine oc id (spec215 cur (by omega) pub e q i (by omega) (by omega) (by omega) (by omega) f) ?_
     refine onp [0,1,2,3,4,5,10,12,18,31,32,46,47,57] ?_; refine rg 8000 ?_; refine k_nil ?_; show AK _ _ _ _ _ _; refine k_nil ?_
     first
       | refine ⟨d + j, by omega, _, ⟨?_, ?_, ?_⟩, d, j, swr Up.zero cur e m j, rfl, ⟨by simp [hcl], by omega, hj1, by omega, hjb, by rw [← hrot, ← rot_step1 Up.zero cur (i := i) (j := j) (m := m) (by omega) (by omega) (by omega)]; congr 1 <;> first | omega | (congr 1 <;> omega)⟩, rfl⟩ <;> simp [*] <;> done
       | refine ⟨i + d, by omega, _, ⟨?_, ?_, ?_⟩, i, d, swr Up.zero cur e q i, rfl, ⟨by simp [hcl], hi1, by omega, hai, by omega, by rw [← hrot, ← rot_step2 Up.zero cur (i := i) (j := j) (m := m) (by omega) (by omega) (by omega)]; congr 1 <;> first | omega | (congr 1 <;> omega)⟩, rfl⟩ <;> simp [*] <;> done
 · intro h20_1
   have hij : i = j := by have := h20_1; simp at this; omega
   subst hij; have hfin := rot_end Up.zero cur (i := i) (m := m) (by omega) (by omega)
   rw [show m - i = e by omega] at hfin hrot
   rw [hrot] at hfin; refine k_exit ?_; show AK _ _ _ _ _ _; refine rc 9000 ?_; refine oc id (spec215 cur (by omega) pub e m i (by omega) (by omega) (by omega) (by omega) f) ?_
   refine on ?_; refine k_nil ?_; show retQ _ _ _ _ _ _ _; simp [*]
def ltU {α : Type} (c : α → α → Int) (x y : α) : Bool := decide (c x y < 0)
theorem isrt_short {α : Type} {lt : α → α → Bool} {l : List α} (h : l.length ≤ 1) : isrt lt l = l := by
 match l, h with
 | [], _ => rfl
 | [x], _ => simp [isrt, nil_mrg]
def insI {α : Type} (c : α → α → Int) (us : List α) (a i : Nat) : List α := us.take a ++ (isrt (ltU c) (seg us a i) ++ us.drop i)
theorem insI_start {α : Type} (c : α → α → Int) (us : List α) (a : Nat) : insI c us a (a + 1) = us := by
 rw [insI, isrt_short (by simp [seg]; omega), seg, show a + 1 - a = 1 by omega]
 rw [← List.drop_drop, List.take_append_drop, List.take_append_drop]
theorem insI_next {α : Type} {c : α → α → Int} (ho : Ord (ltU c)) {us : List α} {a i : Nat} (ha : a ≤ i) (hi : i < us.length) {y : α} (hy : us[i]? = some y) :
   insI c us a i = insA (us.take a) (isrt (ltU c) (seg us a i)) y (us.drop (i + 1)) (i - a) := by
 have hl : (isrt (ltU c) (seg us a i)).length = i - a := by rw [isrt_length, seg_len (by omega)]
 obtain ⟨q1, q2⟩ := List.getElem?_eq_some_iff.1 hy; have e : us.drop i = y :: us.drop (i + 1) := by rw [List.drop_eq_getElem_cons q1, q2]
 have t1 : (isrt (ltU c) (seg us a i)).take (i - a) = isrt (ltU c) (seg us a i) := List.take_of_length_le (by omega)
 have t2 : (isrt (ltU c) (seg us a i)).drop (i - a) = [] := List.drop_eq_nil_of_le (by omega)
 rw [insI, insA, e, t1, t2]; simp
theorem insI_done {α : Type} {c : α → α → Int} (ho : Ord (ltU c)) {us : List α} {a i k : Nat} (ha : a ≤ i) (hi : i < us.length) {y : α} (hy : us[i]? = some y) (hk : k ≤ i - a) (h1 : ∀ z ∈ (isrt (ltU c) (seg us a i)).drop k, ltU c y z = true)
   (h2 : ∀ z, 0 < k → (isrt (ltU c) (seg us a i))[k - 1]? = some z → ltU c y z = false) : insA (us.take a) (isrt (ltU c) (seg us a i)) y (us.drop (i + 1)) k = insI c us a (i + 1) := by
 have hl : (isrt (ltU c) (seg us a i)).length = i - a := by rw [isrt_length, seg_len (by omega)]
 rw [insI, seg_snoc ha hy, isrt_snoc, mrg_ins ho (isrt_line ho _) y k (by omega) h1 h2, insA]
 simp
theorem ins_end {α : Type} {c : α → α → Int} {us : List α} {a b i : Nat} (hst : insI c us a (a + 1) = us) (hai : a < i) (hib : b ≤ i) (h0 : i ≤ b ∨ i = a + 1) : insI c us a i = if a < b then insI c us a b else us := by
 by_cases h : a < b
 · rw [if_pos h, show i = b by omega]
 · rw [if_neg h, show i = a + 1 by omega, hst]
theorem drop_all {α : Type} {c : α → α → Int} {s : List α} {k : Nat} {y w : α} (hkl : k - 1 < s.length) (hw : s[k - 1]? = some w) (h : ltU c y w = true) (hk : 0 < k) (hz : ∀ z ∈ s.drop k, ltU c y z = true) : ∀ z ∈ s.drop (k - 1), ltU c y z = true := by
 rw [List.drop_eq_getElem_cons hkl, (List.getElem?_eq_some_iff.1 hw).2, show k - 1 + 1 = k by omega]
 intro z h3; rcases List.mem_cons.1 h3 with rfl | h3
 · exact h
 · exact hz z h3
theorem stop_of {α : Type} {c : α → α → Int} {s : List α} {a j k : Nat} {y z0 : α} (HH : (decide (a < j) && ltU c y (s.getD (k - 1) z0)) = false) (hak : a + k = j) : ∀ z, 0 < k → s[k - 1]? = some z → ltU c y z = false := by
 intro z hk hz; have : s.getD (k - 1) z0 = z := by rw [List.getD_eq_getElem?_getD, hz]; rfl
 rw [this] at HH; have h : decide (a < j) = true := by simp; omega
 rw [h] at HH
 simpa using HH
theorem mem_seg {α : Type} {l : List α} {a b : Nat} {x : α} (h : x ∈ seg l a b) : x ∈ l := List.mem_of_mem_drop (List.mem_of_mem_take h)
attribute [local simp] Up.row Up.av in
set_option maxHeartbeats 1000000 in
theorem spec202 (c : Up → Up → Int) (ho : Ord (ltU c)) (us : List Up) (hus : us.length < Flat.lim) (hc : ∀ x ∈ us, ∀ y ∈ us, Flat.Sp Tryz.prog 18 [x.av, y.av] [] (vv (.int .i64 (c x y))) []) (pub a b : Nat) (hpa : pub ≤ a) (hab : a ≤ b) (hb : b ≤ us.length) : Flat.Sp Tryz.prog 269 [.sl 0 us.length 0 us.length, vv (.int .i64 a), vv (.int .i64 b), .fn (.func 18) []] [(.arr 0, .arr 37 6 (us.map Up.row) pub)] (.tup []) [(.arr 0, .arr 37 6 ((if a < b then insI c us a b else us).map Up.row) pub)] := by
 refine sk Tryz.func269 ?_; intro F G hn hG; have hwa := wadd (x := a) (y := 1) rfl (by omega)
 simp only [Int.natCast_one] at hwa; have hst := insI_start c us a; have hta : (us.take a).length = a := by simp; omega
 refine srp 1000 [0,4,8,10,12,53] ?_; refine k_block ?_; refine k_loop (fun n l => ∃ i : Nat, i + n = us.length + 1 ∧ (a < i ∧ (i ≤ b ∨ i = a + 1)) ∧ l = [(.tmp 0, .av (.sl 0 us.length 0 us.length)), (.tmp 1, .av (vv (.int .i64 a))), (.tmp 2, .av (vv (.int .i64 b))), (.tmp 3, .av (.fn (.func 18) [])), (.tmp 8, .av (vv (.int .i64 i))), (.arr 0, .arr 37 6 ((insI c us a i).map Up.row) pub)]) (us.length - a) hG ⟨_, ⟨by simp [hwa, hst], by simp, by simp⟩, a + 1, by omega, ⟨by omega, .inr rfl⟩, rfl⟩ ?_
 rintro n _ ⟨i, hin, ⟨hai, hib0⟩, rfl⟩; refine sq ?_; refine srp 2000 [0,4,8,10,12,53] ?_; refine cd ?_ ?_
 · intro h14_1
   have hib : i < b := by simpa using h14_1
   obtain ⟨y, hy⟩ : ∃ y, us[i]? = some y := ⟨_, List.getElem?_eq_getElem (by omega)⟩
   have hym := List.mem_of_getElem? hy; have hsl : (isrt (ltU c) (seg us a i)).length = i - a := by rw [isrt_length, seg_len (by omega)]
   have hcu := insI_next ho (a := a) (i := i) (by omega) (by omega) hy
   have hws := wrap_succ (show i < Flat.lim by omega)
   refine k_skip ?_; refine sq ?_; refine k_block ?_; refine srp 4000 [0,4,8,10,12,53] ?_; refine k_block ?_; refine k_loop (fun n l => ∃ j k : Nat, n = k ∧ (a + k = j ∧ k ≤ i - a ∧ ∀ z ∈ (isrt (ltU c) (seg us a i)).drop k, ltU c y z = true) ∧ l = [(.tmp 0, .av (.sl 0 us.length 0 us.length)), (.tmp 1, .av (vv (.int .i64 a))), (.tmp 2, .av (vv (.int .i64 b))), (.tmp 3, .av (.fn (.func 18) [])), (.tmp 8, .av (vv (.int .i64 i))), (.tmp 9, .av (vv (.int .i64 j))), (.arr 0, .arr 37 6 ((insA (us.take a) (isrt (ltU c) (seg us a i)) y (us.drop (i + 1)) k).map Up.row) pub)]) (i - a) hG ⟨_, ⟨by simp [hcu], by simp, by simp⟩, i, i - a, rfl, ⟨by omega, Nat.le_refl _, by rw [List.drop_eq_nil_of_le (by omega)]; simp⟩, rfl⟩ ?_
   rintro n2 _ ⟨j, k, hnk, ⟨hak, hk, hz⟩, rfl⟩; refine sq ?_; refine sq ?_; refine cv [(.tmp 34, vv (.bool (decide (a < j) && ltU c y ((isrt (ltU c) (seg us a i)).getD (k - 1) Up.zero))))] ?_ ?_
   · skip
     rcases h0 : (decide (a < j) : Bool) with _ | _
     · skip
       refine dr ?_; refine de 5000 ?_ (h := by simp [*, ltU]; exact is_rfl _)
       iterate 10 (first | refine dp 5950 ?_ (he := by intro hgg; (try simp only [Bool.and_eq_true] at hgg); simp [*, ltU]; exact is_rfl _) | refine ds ?_ | refine dt 5950 ?_ (he := by simp [*, ltU]; exact is_rfl _))
       refine ds ?_; first | refine dp 6150 ?_ (he := by intro hgg; (try simp only [Bool.and_eq_true] at hgg); simp [*, ltU]; exact is_rfl _) | refine ds ?_ | refine dt 6150 ?_ (he := by simp [*, ltU]; exact is_rfl _)
       refine de 6200 ?_ (h := by simp [*, ltU]; exact is_rfl _)
       refine dn ?_; refine k_nil ?_; refine ⟨rfl, ?_, ?_, ?_⟩ <;> simp [*, ltU]
     · skip
       have hkp : a < j := by simpa using h0
       have hkl : k - 1 < (isrt (ltU c) (seg us a i)).length := by omega
       obtain ⟨w, hw⟩ : ∃ w, (isrt (ltU c) (seg us a i))[k - 1]? = some w := ⟨_, List.getElem?_eq_getElem hkl⟩; have hwm : w ∈ us := mem_seg ((isrt_perm _).mem_iff.1 (List.mem_of_getElem? hw)); have hgw : (isrt (ltU c) (seg us a i)).getD (k - 1) Up.zero = w := by rw [List.getD_eq_getElem?_getD, hw]; rfl
       obtain ⟨jm, hjm⟩ : ∃ jm, jm + 1 = j := ⟨j - 1, by omega⟩
       have hwj := wsub hjm (by omega)
       simp only [Int.natCast_one] at hwj; have hself : (insA (us.take a) (isrt (ltU c) (seg us a i)) y (us.drop (i + 1)) k)[j]? = some y := by have := insA_at (us.take a) (isrt (ltU c) (seg us a i)) y (us.drop (i + 1)) (k := k) (by omega); rw [hta, hak] at this; exact this
       have hpred : (insA (us.take a) (isrt (ltU c) (seg us a i)) y (us.drop (i + 1)) k)[jm]? = some w := by have := insA_pred (us.take a) (isrt (ltU c) (seg us a i)) y (us.drop (i + 1)) (k := k - 1) (by omega); rw [hta, show k - 1 + 1 = k by omega, show a + (k - 1) = jm by omega, hw] at this; exact this
       have hcl : (insA (us.take a) (isrt (ltU c) (seg us a i)) y (us.drop (i + 1)) k).length = us.length := by rw [insA_len, hta, hsl, List.length_drop]; omega
       have hself2 : ∀ h : j < (insA (us.take a) (isrt (ltU c) (seg us a i)) y (us.drop (i + 1)) k).length, (insA (us.take a) (isrt (ltU c) (seg us a i)) y (us.drop (i + 1)) k)[j]'h = y := fun h => (List.getElem?_eq_some_iff.1 hself).2
       have hpred2 : ∀ h : jm < (insA (us.take a) (isrt (ltU c) (seg us a i)) y (us.drop (i + 1)) k).length, (insA (us.take a) (isrt (ltU c) (seg us a i)) y (us.drop (i + 1)) k)[jm]'h = w := fun h => (List.getElem?_eq_some_iff.1 hpred).2
       have hjl : j < us.length := by omega
       have hjl2 : jm < us.length := by omega
       have hpj : pub ≤ j := by omega
       have hpj2 : pub ≤ jm := by omega
       refine dr ?_; refine de 1005000 ?_ (h := by simp [*, ltU]; exact is_rfl _)
       iterate 10 (first | refine dp 1005950 ?_ (he := by intro hgg; (try simp only [Bool.and_eq_true] at hgg); simp [*, ltU]; exact is_rfl _) | refine ds ?_ | refine dt 1005950 ?_ (he := by simp [*, ltU]; exact is_rfl _))
       refine dc id (hc y hym w hwm) ?_ (hg := by simp [*, ltU]) (hf := by simp [*, ltU]; exact is_rfl _) (hx := by simp [*, ltU]; exact is_rfl _) (hargs := by simp [*, ltU]) (hB := by simp [*, ltU]) (hL := by simp [*, ltU]) (hd := by simp [*, ltU]; exact is_rfl _)
       first | refine dp 1006150 ?_ (he := by intro hgg; (try simp only [Bool.and_eq_true] at hgg); simp [*, ltU]; exact is_rfl _) | refine ds ?_ | refine dt 1006150 ?_ (he := by simp [*, ltU]; exact is_rfl _)
       refine de 1006200 ?_ (h := by simp [*, ltU]; exact is_rfl _)
       refine dn ?_; refine k_nil ?_; refine ⟨rfl, ?_, ?_, ?_⟩ <;> simp [*, ltU]
   refine pr [0,4,8,10,12,53] ?_; refine cd ?_ ?_
   · intro h34_2
     have h34_2 : (decide (a < j) && ltU c y ((isrt (ltU c) (seg us a i)).getD (k - 1) Up.zero)) = true := h34_2; simp only [Bool.and_eq_true, decide_eq_true_eq] at h34_2; have hkp := h34_2.1; have hkl : k - 1 < (isrt (ltU c) (seg us a i)).length := by omega
     obtain ⟨w, hw⟩ : ∃ w, (isrt (ltU c) (seg us a i))[k - 1]? = some w := ⟨_, List.getElem?_eq_getElem hkl⟩; have hwm : w ∈ us := mem_seg ((isrt_perm _).mem_iff.1 (List.mem_of_getElem? hw)); have hgw : (isrt (ltU c) (seg us a i)).getD (k - 1) Up.zero = w := by rw [List.getD_eq_getElem?_getD, hw]; rfl
     obtain ⟨jm, hjm⟩ : ∃ jm, jm + 1 = j := ⟨j - 1, by omega⟩
     have hwj := wsub hjm (by omega)
     simp only [Int.natCast_one] at hwj; have hself : (insA (us.take a) (isrt (ltU c) (seg us a i)) y (us.drop (i + 1)) k)[j]? = some y := by have := insA_at (us.take a) (isrt (ltU c) (seg us a i)) y (us.drop (i + 1)) (k := k) (by omega); rw [hta, hak] at this; exact this
     have hpred : (insA (us.take a) (isrt (ltU c) (seg us a i)) y (us.drop (i + 1)) k)[jm]? = some w := by have := insA_pred (us.take a) (isrt (ltU c) (seg us a i)) y (us.drop (i + 1)) (k := k - 1) (by omega); rw [hta, show k - 1 + 1 = k by omega, show a + (k - 1) = jm by omega, hw] at this; exact this
     have hcl : (insA (us.take a) (isrt (ltU c) (seg us a i)) y (us.drop (i + 1)) k).length = us.length := by rw [insA_len, hta, hsl, List.length_drop]; omega
     have hself2 : ∀ h : j < (insA (us.take a) (isrt (ltU c) (seg us a i)) y (us.drop (i + 1)) k).length, (insA (us.take a) (isrt (ltU c) (seg us a i)) y (us.drop (i + 1)) k)[j]'h = y := fun h => (List.getElem?_eq_some_iff.1 hself).2
     have hpred2 : ∀ h : jm < (insA (us.take a) (isrt (ltU c) (seg us a i)) y (us.drop (i + 1)) k).length, (insA (us.take a) (isrt (ltU c) (seg us a i)) y (us.drop (i + 1)) k)[jm]'h = w := fun h => (List.getElem?_eq_some_iff.1 hpred).2
     have hjl : j < us.length := by omega
     have hjl2 : jm < us.length := by omega
     have hpj : pub ≤ j := by omega
     have hpj2 : pub ≤ jm := by omega
     rw [hgw] at h34_2; have hnx : insA (us.take a) (isrt (ltU c) (seg us a i)) y (us.drop (i + 1)) (k - 1) = ((insA (us.take a) (isrt (ltU c) (seg us a i)) y (us.drop (i + 1)) k).set j w).set jm y := by have h := insA_swp Up.zero (us.take a) (isrt (ltU c) (seg us a i)) y (us.drop (i + 1)) (k := k - 1) (by omega); rw [hta, show k - 1 + 1 = k by omega, show a + (k - 1) + 1 = j by omega, show a + (k - 1) = jm by omega] at h; rw [← h]; simp [swp, List.getD, hself, hpred]
     have hz2 := drop_all hkl hw h34_2.2 (by omega) hz
     refine k_skip ?_; refine sq ?_; refine k_block ?_; refine dr ?_; refine de 7000 ?_; refine dn ?_; refine k_nil ?_; show AK _ _ _ _ _ _; refine rg 6000 ?_; refine k_nil ?_; refine ⟨k - 1, by omega, _, ⟨?_, ?_, ?_⟩, jm, k - 1, rfl, ⟨by omega, by omega, hz2⟩, rfl⟩ <;> simp [*]
   · intro h34_2
     have h34_2 : (decide (a < j) && ltU c y ((isrt (ltU c) (seg us a i)).getD (k - 1) Up.zero)) = false := h34_2; have hdn := insI_done ho (a := a) (i := i) (by omega) (by omega) hy hk hz (stop_of h34_2 hak)
     refine k_exit ?_; show AK _ _ _ _ _ _; refine k_nil ?_; show AK _ _ _ _ _ _; refine rg 3000 ?_; refine k_nil ?_; refine ⟨n - 1, by omega, _, ⟨?_, ?_, ?_⟩, i + 1, by omega, ⟨by omega, .inl (by omega)⟩, rfl⟩ <;> simp [*]
 · intro h14_1
   have hib : b ≤ i := by simpa using h14_1
   have hend : insI c us a i = if a < b then insI c us a b else us := ins_end hst hai hib hib0
   refine k_exit ?_; show AK _ _ _ _ _ _; refine k_nil ?_; show retQ _ _ _ _ _ _ _; simp [*]
end
end Go.Proofs
end
section
set_option linter.unusedVariables false
set_option linter.unusedSimpArgs false
namespace Go.Proofs
section
variable {α : Type} {lt : α → α → Bool}
def mergeI (lt : α → α → Bool) (us : List α) (a m b : Nat) : List α := us.take a ++ (mrg lt (seg us a m) (seg us m b) ++ us.drop b)
theorem seg_drop {us : List α} {a b : Nat} (h : a ≤ b) : us.drop a = seg us a b ++ us.drop b := by
 have := List.take_append_drop (b - a) (us.drop a); rw [List.drop_drop, show a + (b - a) = b by omega] at this
 exact this.symm
theorem seg_split {us : List α} {a m b : Nat} (h1 : a ≤ m) (h2 : m ≤ b) : seg us a b = seg us a m ++ seg us m b := by
 unfold seg; rw [show b - a = (m - a) + (b - m) by omega, List.take_add, List.drop_drop, show a + (m - a) = m by omega]
theorem cut4 {us : List α} {a m b : Nat} (h1 : a ≤ m) (h2 : m ≤ b) : us = us.take a ++ (seg us a m ++ (seg us m b ++ us.drop b)) := by
 rw [← seg_drop h2, ← seg_drop h1, List.take_append_drop]
theorem mergeI_len {us : List α} {a m b : Nat} (h1 : a ≤ m) (h2 : m ≤ b) : (mergeI lt us a m b).length = us.length := by
 have h := congrArg List.length (cut4 (us := us) h1 h2); simp only [List.length_append] at h; simp only [mergeI, List.length_append, mrg_length]; omega
theorem mergeI_perm {us : List α} {a m b : Nat} (h1 : a ≤ m) (h2 : m ≤ b) : (mergeI lt us a m b).Perm us := by
 refine List.Perm.trans ?_ (List.Perm.of_eq (cut4 (us := us) h1 h2).symm); refine List.Perm.append_left _ ?_; rw [← List.append_assoc (seg us a m)]; exact (mrg_perm _ _).append_right _
theorem seg_self (us : List α) (a : Nat) : seg us a a = [] := by simp [seg]
theorem mergeI_nil1 {us : List α} {a b : Nat} (h : a ≤ b) : mergeI lt us a a b = us := by
 rw [mergeI, seg_self, nil_mrg, ← seg_drop h, List.take_append_drop]
theorem mergeI_nil2 {us : List α} {a b : Nat} (h : a ≤ b) : mergeI lt us a b b = us := by
 rw [mergeI, seg_self, mrg_nil, ← seg_drop h, List.take_append_drop]
theorem seg_of {l P A R : List α} {a b : Nat} (hl : l = P ++ (A ++ R)) (ha : P.length = a) (hb : a + A.length = b) : seg l a b = A := by
 subst hl ha hb; simp [seg]
theorem rot_of {l P A B R : List α} {a m b : Nat} (hl : l = P ++ (A ++ (B ++ R))) (ha : P.length = a) (hm : a + A.length = m) (hb : m + B.length = b) : rot l a m b = P ++ (B ++ (A ++ R)) := by
 have e1 : seg l a m = A := seg_of hl ha hm; have e2 : seg l m b = B := seg_of (P := P ++ A) (R := R) (by simp [hl]) (by simp; omega) hb
 have e3 : l.take a = P := by subst hl ha; simp
 have e4 : l.drop b = R := by
   have : l = (P ++ (A ++ B)) ++ R := by simp [hl]
   rw [this, List.drop_append_of_le_length (by simp; omega), List.drop_eq_nil_of_le (by simp; omega), List.nil_append]
 unfold seg at e1 e2; rw [rot, e1, e2, e3, e4]
theorem mergeI_of {l P A B R : List α} {a m b : Nat} (hl : l = P ++ (A ++ (B ++ R))) (ha : P.length = a) (hm : a + A.length = m) (hb : m + B.length = b) : mergeI lt l a m b = P ++ (mrg lt A B ++ R) := by
 have e1 : seg l a m = A := seg_of hl ha hm; have e2 : seg l m b = B := seg_of (P := P ++ A) (R := R) (by simp [hl]) (by simp; omega) hb
 have e3 : l.take a = P := by subst hl ha; simp
 have e4 : l.drop b = R := by
   have : l = (P ++ (A ++ B)) ++ R := by simp [hl]
   rw [this, List.drop_append_of_le_length (by simp; omega), List.drop_eq_nil_of_le (by simp; omega), List.nil_append]
 rw [mergeI, e1, e2, e3, e4]
theorem rot_self1 {us : List α} {a b : Nat} (h : a ≤ b) : rot us a a b = us := by
 rw [rot, Nat.sub_self, List.take_zero, List.nil_append]; have := seg_drop (us := us) h; unfold seg at this; rw [← this, List.take_append_drop]
theorem rot_self2 {us : List α} {a b : Nat} (h : a ≤ b) : rot us a b b = us := by
 rw [rot, Nat.sub_self, List.take_zero, List.nil_append]; have := seg_drop (us := us) h; unfold seg at this; rw [← this, List.take_append_drop]
theorem rot_perm {us : List α} {a m b : Nat} (h1 : a ≤ m) (h2 : m ≤ b) : (rot us a m b).Perm us := by
 refine List.Perm.trans ?_ (List.Perm.of_eq (cut4 (us := us) h1 h2).symm); refine List.Perm.append_left _ ?_; rw [← List.append_assoc, ← List.append_assoc]; exact List.perm_append_comm.append_right _
theorem sym_split {us : List α} {a s m e b mid : Nat} (h1 : a ≤ s) (h2 : s ≤ m) (h3 : m ≤ e) (h4 : e ≤ b) (h5 : b ≤ us.length) (hmid : s + (e - m) = mid)
   (hx : ∀ x ∈ seg us a s, ∀ y ∈ seg us e b, lt y x = false) (hy : ∀ y ∈ seg us m e, ∀ x ∈ seg us s m, lt y x = true) :
   mergeI lt (mergeI lt (rot us s m e) a s mid) mid e b = mergeI lt us a m b ∧ seg (rot us s m e) a s = seg us a s ∧ seg (rot us s m e) s mid = seg us m e ∧
   seg (mergeI lt (rot us s m e) a s mid) mid e = seg us s m ∧ seg (mergeI lt (rot us s m e) a s mid) e b = seg us e b := by
 have hc : us = us.take a ++ (seg us a s ++ (seg us s m ++ (seg us m e ++ (seg us e b ++ us.drop b)))) := by
   rw [← seg_drop h4, ← seg_drop h3, ← seg_drop h2, ← seg_drop h1, List.take_append_drop]
 have l0 : (us.take a).length = a := by simp; omega
 have l1 := seg_len (l := us) (a := a) (b := s) (by omega)
 have l2 := seg_len (l := us) (a := s) (b := m) (by omega)
 have l3 := seg_len (l := us) (a := m) (b := e) (by omega)
 have l4 := seg_len (l := us) (a := e) (b := b) (by omega)
 generalize us.take a = P at hc l0; generalize seg us a s = u1 at hc l1 hx ⊢; generalize seg us s m = u2 at hc l2 hy ⊢; generalize seg us m e = v1 at hc l3 hy ⊢; generalize seg us e b = v2 at hc l4 hx ⊢; generalize us.drop b = R at hc
 have r1 : rot us s m e = P ++ (u1 ++ (v1 ++ (u2 ++ (v2 ++ R)))) := by
   rw [rot_of (P := P ++ u1) (A := u2) (B := v1) (R := v2 ++ R) (by rw [hc]; simp) (by simp; omega) (by omega) (by omega)]
   simp
 have r2 : mergeI lt (rot us s m e) a s mid = P ++ (mrg lt u1 v1 ++ (u2 ++ (v2 ++ R))) := mergeI_of r1 l0 (by omega) (by omega)
 have hml := mrg_length (lt := lt) u1 v1; refine ⟨?_, seg_of r1 l0 (by omega), ?_, ?_, ?_⟩
 · have e1 : mergeI lt us a m b = P ++ (mrg lt (u1 ++ u2) (v1 ++ v2) ++ R) := mergeI_of (by rw [hc]; simp) l0 (by simp; omega) (by simp; omega)
   have e2 : mergeI lt (mergeI lt (rot us s m e) a s mid) mid e b = (P ++ mrg lt u1 v1) ++ (mrg lt u2 v2 ++ R) := mergeI_of (by rw [r2]; simp) (by simp; omega) (by omega) (by omega)
   rw [e1, e2, mrg_split u1 v1 u2 v2 hx hy]; simp
 · exact seg_of (P := P ++ u1) (A := v1) (R := u2 ++ (v2 ++ R)) (by rw [r1]; simp) (by simp; omega) (by omega)
 · exact seg_of (P := P ++ mrg lt u1 v1) (A := u2) (R := v2 ++ R) (by rw [r2]; simp) (by simp; omega) (by omega)
 · exact seg_of (P := P ++ (mrg lt u1 v1 ++ u2)) (A := v2) (R := R) (by rw [r2]; simp) (by simp; omega) (by omega)
structure BS (q : Nat → Bool) (lo hi i j : Nat) : Prop where
 a : lo ≤ i
 b : i ≤ j
 c : j ≤ hi
 f : ∀ h, lo ≤ h → h < i → q h = false
 t : ∀ h, j ≤ h → h < hi → q h = true
def Mono (q : Nat → Bool) (lo hi : Nat) : Prop := ∀ h h', lo ≤ h → h ≤ h' → h' < hi → q h = true → q h' = true
theorem BS.start {q : Nat → Bool} {lo hi : Nat} (h : lo ≤ hi) : BS q lo hi lo hi := ⟨Nat.le_refl _, h, Nat.le_refl _, fun _ h1 h2 => by omega, fun _ h1 h2 => by omega⟩
theorem BS.up {q : Nat → Bool} {lo hi i j h : Nat} (B : BS q lo hi i j) (hm : Mono q lo hi) (h1 : i ≤ h) (h2 : h < j) (hq : q h = false) : BS q lo hi (h + 1) j := by
 refine ⟨by have := B.a; omega, h2, B.c, fun k k1 k2 => ?_, B.t⟩
 cases hk : q k with
 | false => rfl
 | true => rw [hm k h k1 (by omega) (by have := B.c; omega) hk] at hq; exact hq
theorem BS.dn {q : Nat → Bool} {lo hi i j h : Nat} (B : BS q lo hi i j) (hm : Mono q lo hi) (h1 : i ≤ h) (h2 : h < j) (hq : q h = true) : BS q lo hi i h :=
 ⟨B.a, h1, by have := B.c; omega, B.f, fun k k1 k2 => hm h k (by have := B.a; omega) k1 k2 hq⟩
theorem seg_at {us : List α} {a b i : Nat} (h1 : a ≤ i) (h2 : i < b) : (seg us a b)[i - a]? = us[i]? := by
 rw [seg, List.getElem?_take_of_lt (by omega), List.getElem?_drop]
 congr 1; omega
theorem mem_seg_at {us : List α} {a b : Nat} (z : α) (hb : b ≤ us.length) {x : α} (h : x ∈ seg us a b) : ∃ i, a ≤ i ∧ i < b ∧ us.getD i z = x := by
 obtain ⟨k, hk⟩ := List.getElem?_of_mem h; obtain ⟨h1, _⟩ := List.getElem?_eq_some_iff.1 hk; rw [seg_len hb] at h1; refine ⟨a + k, by omega, by omega, ?_⟩
 have := seg_at (us := us) (a := a) (b := b) (i := a + k) (by omega) (by omega)
 rw [show a + k - a = k by omega, hk] at this
 rw [List.getD_eq_getElem?_getD, ← this]; rfl
theorem seg_le (ho : Ord lt) {us : List α} {a b : Nat} (hl : Line lt (seg us a b)) (hb : b ≤ us.length) (z : α) {i j : Nat} (h1 : a ≤ i) (h2 : i ≤ j) (h3 : j < b) : lt (us.getD j z) (us.getD i z) = false := by
 by_cases he : i = j
 · subst he; exact ho.irr _
 · have hsl := seg_len (l := us) (a := a) hb
   have := List.pairwise_iff_getElem.1 hl (i - a) (j - a) (by omega) (by omega) (by omega)
   have e1 := seg_at (us := us) (a := a) (b := b) (i := i) h1 (by omega)
   have e2 := seg_at (us := us) (a := a) (b := b) (i := j) (by omega) h3
   rw [List.getElem?_eq_getElem (by omega)] at e1 e2
   rw [List.getD_eq_getElem?_getD, List.getD_eq_getElem?_getD, ← e1, ← e2]; exact this
def q1 (lt : α → α → Bool) (us : List α) (x z : α) (h : Nat) : Bool := !lt (us.getD h z) x
theorem q1_mono (ho : Ord lt) {us : List α} {m b : Nat} (hl : Line lt (seg us m b)) (hb : b ≤ us.length) (x z : α) : Mono (q1 lt us x z) m b := by
 intro h h' k1 k2 k3 hq; simp only [q1, Bool.not_eq_true'] at hq ⊢; exact ho.tr x _ _ hq (seg_le ho hl hb z k1 k2 k3)
theorem sym_one (ho : Ord lt) {us : List α} {a b i : Nat} {x z : α} (hx : us[a]? = some x) (hl : Line lt (seg us (a + 1) b)) (hb : b ≤ us.length) (hB : BS (q1 lt us x z) (a + 1) b i i) :
   insA (us.take a) (seg us (a + 1) b) x (us.drop b) (i - (a + 1)) = mergeI lt us a (a + 1) b := by
 have hs : seg us a (a + 1) = [x] := by rw [seg_snoc (Nat.le_refl a) hx, seg_self, List.nil_append]
 have hB1 := hB.a; have hB2 := hB.c; have hsl := seg_len (l := us) (a := a + 1) hb
 have e : mrg lt ([] ++ [x]) ((seg us (a + 1) b).take (i - (a + 1)) ++ (seg us (a + 1) b).drop (i - (a + 1))) = mrg lt [] ((seg us (a + 1) b).take (i - (a + 1))) ++ mrg lt [x] ((seg us (a + 1) b).drop (i - (a + 1))) := by
   refine mrg_split _ _ _ _ (by simp) ?_
   intro y hy w hw; rw [List.mem_singleton] at hw; subst hw; obtain ⟨k, hk⟩ := List.getElem?_of_mem hy; obtain ⟨k1, k2⟩ := List.getElem?_eq_some_iff.1 hk; simp only [List.length_take] at k1; rw [List.getElem?_take_of_lt (by omega)] at hk
   have e1 := seg_at (us := us) (a := a + 1) (b := b) (i := a + 1 + k) (by omega) (by omega)
   rw [show a + 1 + k - (a + 1) = k by omega, hk] at e1
   have := hB.f (a + 1 + k) (by omega) (by omega)
   simp only [q1, List.getD_eq_getElem?_getD, ← e1] at this
   simpa using this
 have e2 : mrg lt ([x] ++ []) ([] ++ (seg us (a + 1) b).drop (i - (a + 1))) = mrg lt [x] [] ++ mrg lt [] ((seg us (a + 1) b).drop (i - (a + 1))) := by
   refine mrg_split _ _ _ _ ?_ (by simp)
   intro w hw y hy; rw [List.mem_singleton] at hw; subst hw; obtain ⟨k, hk⟩ := List.getElem?_of_mem hy; obtain ⟨k1, k2⟩ := List.getElem?_eq_some_iff.1 hk; simp only [List.length_drop] at k1; rw [List.getElem?_drop] at hk; have e1 := seg_at (us := us) (a := a + 1) (b := b) (i := i + k) (by omega) (by omega)
   rw [show i + k - (a + 1) = i - (a + 1) + k by omega, hk] at e1
   have := hB.t (i + k) (by omega) (by omega)
   simp only [q1, List.getD_eq_getElem?_getD, ← e1] at this
   simpa using this
 rw [List.take_append_drop, nil_mrg, List.nil_append] at e; rw [List.append_nil, List.nil_append, mrg_nil, nil_mrg] at e2; rw [mergeI, hs, e, e2, insA]; simp
theorem sym_one_start {us : List α} {a b : Nat} {x : α} (hx : us[a]? = some x) (hb : a + 1 ≤ b) : insA (us.take a) (seg us (a + 1) b) x (us.drop b) 0 = us := by
 obtain ⟨q1, q2⟩ := List.getElem?_eq_some_iff.1 hx; rw [insA, List.take_zero, List.nil_append, List.drop_zero, ← seg_drop hb]; have : x :: us.drop (a + 1) = us.drop a := by rw [List.drop_eq_getElem_cons q1, q2]
 rw [this, List.take_append_drop]
theorem swp_adj2 (z : α) (X Y : List α) (w y : α) : swp z (X ++ y :: w :: Y) X.length (X.length + 1) = X ++ w :: y :: Y := by
 simp [swp, List.getD, List.set_append, List.getElem?_append_right]
theorem insA_swp2 (z : α) (P s : List α) (y : α) (R : List α) {k : Nat} (h : k + 1 ≤ s.length) : swp z (insA P s y R k) (P.length + k) (P.length + k + 1) = insA P s y R (k + 1) := by
 have e1 : s.take (k + 1) = s.take k ++ [s[k]] := (List.take_append_getElem (by omega)).symm
 have e2 : s.drop k = s[k] :: s.drop (k + 1) := List.drop_eq_getElem_cons (by omega)
 have hl : (P ++ s.take k).length = P.length + k := by simp; omega
 have := swp_adj2 z (P ++ s.take k) (s.drop (k + 1) ++ R) s[k] y; rw [hl] at this; rw [insA, insA, e1, e2]; simp only [List.append_assoc, List.singleton_append, List.cons_append, List.nil_append] at this ⊢; exact this
theorem insA_succ (P s : List α) (y : α) (R : List α) {k : Nat} (h : k + 1 ≤ s.length) : (insA P s y R k)[P.length + k + 1]? = s[k]? := by
 have hl : (s.take k).length = k := by simp; omega
 rw [insA, List.getElem?_append_right (by omega), show P.length + k + 1 - P.length = k + 1 by omega, List.getElem?_append_right (by omega), hl, show k + 1 - k = 0 + 1 by omega, List.getElem?_cons_succ, List.getElem?_append_left (by simp; omega), List.getElem?_drop]
 congr 1
def q2 (lt : α → α → Bool) (us : List α) (y z : α) (h : Nat) : Bool := lt y (us.getD h z)
theorem q2_mono (ho : Ord lt) {us : List α} {a m : Nat} (hl : Line lt (seg us a m)) (hb : m ≤ us.length) (y z : α) : Mono (q2 lt us y z) a m := by
 intro h h' k1 k2 k3 hq; simp only [q2] at hq ⊢
 cases hh : lt y (us.getD h' z) with
 | true => rfl
 | false => rw [ho.tr _ _ y (seg_le ho hl hb z k1 k2 k3) hh] at hq; exact absurd hq (by simp)
theorem sym_last (ho : Ord lt) {us : List α} {a m i : Nat} {y z : α} (hy : us[m]? = some y) (hl : Line lt (seg us a m)) (ham : a ≤ m) (hB : BS (q2 lt us y z) a m i i) :
   insA (us.take a) (seg us a m) y (us.drop (m + 1)) (i - a) = mergeI lt us a m (m + 1) := by
 have hml : m < us.length := (List.getElem?_eq_some_iff.1 hy).1; have hs : seg us m (m + 1) = [y] := by rw [seg_snoc (Nat.le_refl m) hy, seg_self, List.nil_append]
 have hB1 := hB.a; have hB2 := hB.c; have hsl := seg_len (l := us) (a := a) (b := m) (by omega)
 rw [mergeI, hs, mrg_ins ho hl y (i - a) (by omega) ?_ ?_, insA]
 · simp
 · intro w hw
   obtain ⟨k, hk⟩ := List.getElem?_of_mem hw; obtain ⟨k1, k2⟩ := List.getElem?_eq_some_iff.1 hk; simp only [List.length_drop] at k1; rw [List.getElem?_drop] at hk; have e1 := seg_at (us := us) (a := a) (b := m) (i := i + k) (by omega) (by omega)
   rw [show i + k - a = i - a + k by omega, hk] at e1
   have := hB.t (i + k) (by omega) (by omega)
   simp only [q2, List.getD_eq_getElem?_getD, ← e1] at this
   simpa using this
 · intro w hk hw
   have e1 := seg_at (us := us) (a := a) (b := m) (i := i - 1) (by omega) (by omega)
   rw [show i - 1 - a = i - a - 1 by omega, hw] at e1
   have := hB.f (i - 1) (by omega) (by omega)
   simp only [q2, List.getD_eq_getElem?_getD, ← e1] at this
   simpa using this
theorem sym_last_start {us : List α} {a m : Nat} {y : α} (hy : us[m]? = some y) (ham : a ≤ m) : insA (us.take a) (seg us a m) y (us.drop (m + 1)) (m - a) = us := by
 obtain ⟨q1, q2⟩ := List.getElem?_eq_some_iff.1 hy; have hsl := seg_len (l := us) (a := a) (b := m) (by omega)
 have : y :: us.drop (m + 1) = us.drop m := by rw [List.drop_eq_getElem_cons q1, q2]
 have t1 : (seg us a m).take (m - a) = seg us a m := List.take_of_length_le (by omega)
 have t2 : (seg us a m).drop (m - a) = [] := List.drop_eq_nil_of_le (by omega)
 rw [insA, t1, t2, List.nil_append, this, ← seg_drop ham, List.take_append_drop]
def q3 (lt : α → α → Bool) (us : List α) (p : Nat) (z : α) (h : Nat) : Bool := lt (us.getD (p - h) z) (us.getD h z)
theorem q3_mono (ho : Ord lt) {us : List α} {a m b lo hi p : Nat} (hl1 : Line lt (seg us a m)) (hl2 : Line lt (seg us m b)) (hm : m ≤ us.length) (hb : b ≤ us.length) (z : α)
   (h1 : a ≤ lo) (h2 : hi ≤ m) (h3 : p < b + lo) (h4 : lo < hi → m + hi ≤ p + 1) : Mono (q3 lt us p z) lo hi := by
 intro h h' k1 k2 k3 hq; simp only [q3] at hq ⊢; have h4 := h4 (by omega)
 cases hh : lt (us.getD (p - h') z) (us.getD h' z) with
 | true => rfl
 | false =>
   have e1 := seg_le ho hl1 hm z (i := h) (j := h') (by omega) (by omega) (by omega)
   have e2 := seg_le ho hl2 hb z (i := p - h') (j := p - h) (by omega) (by omega) (by omega)
   rw [ho.tr _ _ _ (ho.tr _ _ _ e1 hh) e2] at hq; exact absurd hq (by simp)
theorem sym_apart (ho : Ord lt) {us : List α} {a m b lo hi p s e : Nat} (hl1 : Line lt (seg us a m)) (hl2 : Line lt (seg us m b)) (hm : m ≤ us.length) (hb : b ≤ us.length) (z : α)
   (h1 : a ≤ lo) (h2 : hi ≤ m) (h3 : p < b + lo) (h4 : m + hi ≤ p + 1) (he : e + s = p + 1) (hlo : lo = a ∨ p + 1 = b + lo) (hhi : hi = m ∨ p + 1 = m + hi) (hB : BS (q3 lt us p z) lo hi s s) :
   (∀ x ∈ seg us a s, ∀ y ∈ seg us e b, lt y x = false) ∧ (∀ y ∈ seg us m e, ∀ x ∈ seg us s m, lt y x = true) := by
 have hB1 := hB.a; have hB2 := hB.c; refine ⟨fun x hx y hy => ?_, fun y hy x hx => ?_⟩
 · obtain ⟨i, i1, i2, rfl⟩ := mem_seg_at z (by omega) hx
   obtain ⟨j, j1, j2, rfl⟩ := mem_seg_at z hb hy; have hq := hB.f (s - 1) (by omega) (by omega)
   simp only [q3] at hq; have e1 := seg_le ho hl1 hm z (i := i) (j := s - 1) (by omega) (by omega) (by omega)
   have e2 := seg_le ho hl2 hb z (i := p - (s - 1)) (j := j) (by omega) (by omega) (by omega)
   exact ho.tr _ _ _ (ho.tr _ _ _ e1 hq) e2
 · obtain ⟨i, i1, i2, rfl⟩ := mem_seg_at z (by omega) hx
   obtain ⟨j, j1, j2, rfl⟩ := mem_seg_at z (by omega) hy
   have hq := hB.t s (by omega) (by omega)
   simp only [q3] at hq; have e1 := seg_le ho hl1 hm z (i := s) (j := i) (by omega) (by omega) (by omega)
   have e2 := seg_le ho hl2 hb z (i := j) (j := p - s) (by omega) (by omega) (by omega)
   cases hh : lt (us.getD j z) (us.getD i z) with
   | true => rfl
   | false => rw [ho.tr _ _ _ (ho.tr _ _ _ e1 hh) e2] at hq; exact absurd hq (by simp)
theorem line_sub {us : List α} {a s m : Nat} (h : Line lt (seg us a m)) (h1 : a ≤ s) (h2 : s ≤ m) : Line lt (seg us a s) ∧ Line lt (seg us s m) := by
 unfold Line at h ⊢; rw [seg_split h1 h2, List.pairwise_append] at h; exact ⟨h.1, h.2.1⟩
def blks (lt : α → α → Bool) (B : Nat) : Nat → List α → List α
 | 0, _ => []
 | n + 1, us => isrt lt (us.take B) ++ blks lt B n (us.drop B)
theorem blks_nil (B : Nat) : ∀ n, blks lt B n [] = []
 | 0 => rfl
 | n + 1 => by rw [blks, List.take_nil, List.drop_nil, blks_nil B n]; rfl
theorem blks_enough {B : Nat} (hB : 0 < B) : ∀ (n m : Nat) (us : List α), us.length ≤ n → us.length ≤ m → blks lt B n us = blks lt B m us
 | 0, m, us, h, _ => by
   obtain rfl : us = [] := List.length_eq_zero_iff.1 (by omega)
   rw [blks_nil, blks_nil]
 | n + 1, 0, us, _, h => by
   obtain rfl : us = [] := List.length_eq_zero_iff.1 (by omega)
   rw [blks_nil, blks_nil]
 | n + 1, m + 1, us, h1, h2 => by
   rw [blks, blks, blks_enough hB n m (us.drop B) (by simp; omega) (by simp; omega)]
def blkA (lt : α → α → Bool) (B : Nat) (us : List α) : List α := blks lt B us.length us
theorem blkA_cons {B : Nat} (hB : 0 < B) (us : List α) : blkA lt B us = isrt lt (us.take B) ++ blkA lt B (us.drop B) := by
 rw [blkA, blks_enough hB us.length (us.length + 1) us (Nat.le_refl _) (by omega), blks, blkA, blks_enough hB us.length (us.drop B).length (us.drop B) (by simp) (Nat.le_refl _)]
theorem blkA_short {B : Nat} (hB : 0 < B) {us : List α} (h : us.length ≤ B) : blkA lt B us = isrt lt us := by
 rw [blkA_cons hB, List.take_of_length_le h, List.drop_eq_nil_of_le h, blkA, blks_nil, List.append_nil]
theorem blks_perm {B : Nat} (hB : 0 < B) : ∀ (n : Nat) (us : List α), us.length ≤ n → (blks lt B n us).Perm us
 | 0, us, h => by
   obtain rfl : us = [] := List.length_eq_zero_iff.1 (by omega)
   exact .refl _
 | n + 1, us, h => by
   rw [blks]; have e := ((isrt_perm (lt := lt) (us.take B)).append (blks_perm hB n (us.drop B) (by simp; omega)))
   rwa [List.take_append_drop] at e
theorem blkA_perm {B : Nat} (hB : 0 < B) (us : List α) : (blkA lt B us).Perm us := blks_perm hB _ us (Nat.le_refl _)
theorem blkA_two (ho : Ord lt) {B : Nat} (us : List α) : isrt lt (us.take (2 * B)) = mrg lt (isrt lt (us.take B)) (isrt lt ((us.drop B).take B)) := by
 rw [show 2 * B = B + B by omega, List.take_add, isrt_append ho]
theorem ins_blk (ho : Ord lt) {us L cur : List α} {a B : Nat} (hB : 0 < B) (hl : L.length = a) (hc : cur = L ++ us.drop a) (hr : L ++ blkA lt B (us.drop a) = blkA lt B us) (b : Nat) (hb : b = a + B) (hbu : b ≤ us.length) :
   ∃ L', L'.length = b ∧ cur.take a ++ (isrt lt (seg cur a b) ++ cur.drop b) = L' ++ us.drop b ∧ L' ++ blkA lt B (us.drop b) = blkA lt B us := by
 have e1 : cur.take a = L := by rw [hc, List.take_append_of_le_length (by omega), List.take_of_length_le (by omega)]
 have e2 : cur.drop a = us.drop a := by rw [hc, List.drop_append_of_le_length (by omega), List.drop_eq_nil_of_le (by omega), List.nil_append]
 have e3 : cur.drop b = us.drop b := by rw [hb, ← List.drop_drop, e2, List.drop_drop]
 have e4 : seg cur a b = (us.drop a).take B := by rw [seg, e2, hb]; congr 1; omega
 refine ⟨L ++ isrt lt ((us.drop a).take B), ?_, ?_, ?_⟩
 · simp [isrt_length]; omega
 · rw [e1, e3, e4, List.append_assoc]
 · rw [← hr, blkA_cons hB (us.drop a), List.drop_drop, ← hb, List.append_assoc]
theorem ins_last (ho : Ord lt) {us L cur : List α} {a B : Nat} (hB : 0 < B) (hl : L.length = a) (hau : a ≤ us.length) (hc : cur = L ++ us.drop a) (hr : L ++ blkA lt B (us.drop a) = blkA lt B us) (hb : us.length ≤ a + B) :
   cur.take a ++ (isrt lt (seg cur a us.length) ++ cur.drop us.length) = blkA lt B us := by
 have hcl : cur.length = us.length := by rw [hc]; simp; omega
 have e1 : cur.take a = L := by rw [hc, List.take_append_of_le_length (by omega), List.take_of_length_le (by omega)]
 have e2 : cur.drop a = us.drop a := by rw [hc, List.drop_append_of_le_length (by omega), List.drop_eq_nil_of_le (by omega), List.nil_append]
 have e3 : cur.drop us.length = [] := List.drop_eq_nil_of_le (by omega)
 have e4 : seg cur a us.length = us.drop a := by rw [seg, e2, List.take_of_length_le (by simp)]
 rw [e1, e3, e4, ← hr, blkA_short hB (by simp; omega), List.append_nil]
theorem mrg_blk (ho : Ord lt) {us L cur : List α} {a B : Nat} (hB : 0 < B) (hl : L.length = a) (hau : a ≤ us.length) (hc : cur = L ++ blkA lt B (us.drop a)) (hr : L ++ blkA lt (2 * B) (us.drop a) = blkA lt (2 * B) us) (m b : Nat) (hm : m = a + B) (hb : b = a + 2 * B) (hbu : b ≤ us.length) :
   (∃ L', L'.length = b ∧ mergeI lt cur a m b = L' ++ blkA lt B (us.drop b) ∧ L' ++ blkA lt (2 * B) (us.drop b) = blkA lt (2 * B) us) ∧ Line lt (seg cur a m) ∧ Line lt (seg cur m b) := by
 have e1 : cur = L ++ (isrt lt ((us.drop a).take B) ++ (isrt lt (((us.drop a).drop B).take B) ++ blkA lt B (us.drop b))) := by
   rw [hc, blkA_cons hB, blkA_cons hB ((us.drop a).drop B), List.drop_drop, List.drop_drop, show a + B + B = b by omega]
 have n1 : (isrt lt ((us.drop a).take B)).length = B := by rw [isrt_length]; simp; omega
 have n2 : (isrt lt (((us.drop a).drop B).take B)).length = B := by rw [isrt_length]; simp; omega
 refine ⟨⟨L ++ isrt lt ((us.drop a).take (2 * B)), ?_, ?_, ?_⟩, ?_, ?_⟩
 · simp [isrt_length]; omega
 · rw [mergeI_of e1 hl (by omega) (by omega), blkA_two ho, List.append_assoc]
 · rw [← hr, blkA_cons (B := 2 * B) (by omega) (us.drop a), List.drop_drop, ← hb, List.append_assoc]
 · rw [seg_of e1 hl (by omega)]; exact isrt_line ho _
 · rw [seg_of (P := L ++ isrt lt ((us.drop a).take B)) (A := isrt lt (((us.drop a).drop B).take B)) (R := blkA lt B (us.drop b)) (by rw [e1]; simp) (by simp; omega) (by omega)]; exact isrt_line ho _
theorem mrg_last (ho : Ord lt) {us L cur : List α} {a B : Nat} (hB : 0 < B) (hl : L.length = a) (hau : a ≤ us.length) (hc : cur = L ++ blkA lt B (us.drop a)) (hr : L ++ blkA lt (2 * B) (us.drop a) = blkA lt (2 * B) us) (m : Nat) (hm : m = a + B) (hmu : m < us.length) (hbu : us.length ≤ a + 2 * B) :
   mergeI lt cur a m us.length = blkA lt (2 * B) us ∧ Line lt (seg cur a m) ∧ Line lt (seg cur m us.length) := by
 have e1 : cur = L ++ (isrt lt ((us.drop a).take B) ++ (isrt lt ((us.drop a).drop B) ++ [])) := by
   rw [hc, blkA_cons hB, blkA_short hB (us := (us.drop a).drop B) (by simp; omega), List.append_nil]
 have n1 : (isrt lt ((us.drop a).take B)).length = B := by rw [isrt_length]; simp; omega
 have n2 : (isrt lt ((us.drop a).drop B)).length = us.length - m := by rw [isrt_length]; simp; omega
 refine ⟨?_, ?_, ?_⟩
 · rw [mergeI_of e1 hl (by omega) (by omega), ← hr, blkA_short (B := 2 * B) (by omega) (us := us.drop a) (by simp; omega), ← isrt_append ho, List.take_append_drop, List.append_nil]
 · rw [seg_of e1 hl (by omega)]; exact isrt_line ho _
 · rw [seg_of (P := L ++ isrt lt ((us.drop a).take B)) (A := isrt lt ((us.drop a).drop B)) (R := []) (by rw [e1]; simp) (by simp; omega) (by omega)]; exact isrt_line ho _
theorem mrg_none (ho : Ord lt) {us L cur : List α} {a B : Nat} (hB : 0 < B) (hau : a ≤ us.length) (hc : cur = L ++ blkA lt B (us.drop a)) (hr : L ++ blkA lt (2 * B) (us.drop a) = blkA lt (2 * B) us) (hmu : us.length ≤ a + B) : cur = blkA lt (2 * B) us := by
 rw [hc, ← hr, blkA_short hB (by simp; omega), blkA_short (B := 2 * B) (by omega) (by simp; omega)]
end
end Go.Proofs
end
