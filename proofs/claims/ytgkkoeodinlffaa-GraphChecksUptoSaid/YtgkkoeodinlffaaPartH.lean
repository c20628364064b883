/-
  The nodes that are built of a plan.
  Contracts: whether nodes are right.
  Contracts: whether nodes are right.
  Contracts: clones; own memory.
  Contracts: one more node.
  Contracts: nodes of a source, of a variable.
  Contracts: nodes of a loop.
  Contracts: nodes of any plan.
  Plans: what a judgement hangs on.
  Contracts: plans: the schemas of a plan's kids.
  Contracts: plans: the schema of a plan.
  Contracts: plans: the schema of a plan, of whatever kind; the law functions of chapter 09.
  The plain laws of chapter 09.
  A plan that has a schema: its variables, its sources, its loops.
  Contracts: the nodes of any plan.
  Contracts: plans: the schema of a plan; the law functions of chapter 09.
  Contracts: a query's nodes.
  Contracts: how far nodes may go; how many there are; the first questions.
-/
import Derived.Test.YtgkkoeodinlffaaPartF
import Derived.Test.YtgkkoeodinlffaaFlatG
import Derived.Test.YtgkkoeodinlffaaPartE
section
set_option linter.unusedVariables false
set_option linter.unusedSimpArgs false
namespace Go.Proofs
open Go.Flat
set_option linter.unusedSimpArgs false
set_option linter.unusedVariables false
/-- A port of a node. -/
structure Prt where
  a : Int
  b : Int
def prow (p : Prt) : List PV := [.v (.int .i64 p.a), .v (.int .i64 p.b)]
def Pl.zero : Pl := .mk 0 0 [] [] [] [] 0 0
def Pl.bare : Pl → Pl
  | .mk k n _ ex c w a r => .mk k n [] ex c w a r
/-- A node. -/
structure Nd where
  k : Int
  pl : Pl
  n : Int
  loop : Int
  rds : Int
  to : List Prt
  back : List Prt
/-- The j-th node as it is while nodes are built: what goes back of it is an own array. -/
def Nd.hrow (j : Nat) (x : Nd) : List PV := .v (.int .u8 x.k) :: (x.pl.row ++ [.v (.int .i64 x.n), .v (.int .i64 x.loop), .v (.int .i64 x.rds), .ps (x.to.map prow), .han (fid j) x.back.length 0 x.back.length])
/-- A node as it is in the end. -/
def Nd.row (x : Nd) : List PV := .v (.int .u8 x.k) :: (x.pl.row ++ [.v (.int .i64 x.n), .v (.int .i64 x.loop), .v (.int .i64 x.rds), .ps (x.to.map prow), .ps (x.back.map prow)])
def hrows : Nat → List Nd → List (List PV)
  | _, [] => []
  | j, x :: r => x.hrow j :: hrows (j + 1) r
def tblN (ns : List Nd) : List (List (List PV)) := ns.map fun x => x.back.map prow
@[simp] theorem tblN_length (ns : List Nd) : (tblN ns).length = ns.length := by simp [tblN]
@[simp] theorem tblN_nil : tblN [] = [] := rfl
theorem tblN_snoc (ns : List Nd) (x : Nd) : tblN (ns ++ [x]) = tblN ns ++ [x.back.map prow] := by simp [tblN]
@[simp] theorem hrows_length : ∀ (ns : List Nd) (j : Nat), (hrows j ns).length = ns.length
  | [], _ => rfl
  | x :: r, j => by simp [hrows, hrows_length r]
theorem hrows_append : ∀ (a b : List Nd) (j : Nat), hrows j (a ++ b) = hrows j a ++ hrows (j + a.length) b
  | [], b, j => by simp [hrows]
  | x :: a, b, j => by
    simp only [List.cons_append, hrows, hrows_append a b, List.length_cons]
    rw [show j + 1 + a.length = j + (a.length + 1) by omega]
theorem hrows_at : ∀ (ns : List Nd) (j i : Nat), (hrows j ns)[i]? = (ns[i]?).map (Nd.hrow (j + i))
  | [], _, _ => by simp [hrows]
  | x :: r, j, 0 => by simp [hrows]
  | x :: r, j, i + 1 => by
    simp only [hrows, List.getElem?_cons_succ, hrows_at r]
    rw [show j + 1 + i = j + (i + 1) by omega]
@[simp] theorem famOK_hrows {s : List (Flat.Loc × C)} {ns : List Nd} (h : FamGe s ns.length) : famOK s 4294967296 (hrows 0 ns) = true := by
  have key : (hrows 0 ns).all (fun row => row.all fun x => match x with
    | .han k _ _ _ => (lk s (.arr k)).isSome
    | _ => true) = true := by
    simp only [List.all_eq_true]
    intro row hrow x hx
    obtain ⟨i, hi⟩ := List.mem_iff_getElem?.1 hrow
    rw [hrows_at, Nat.zero_add] at hi
    obtain ⟨y, hy, rfl⟩ := Option.map_eq_some_iff.1 hi
    have hlt : i < ns.length := (List.getElem?_eq_some_iff.1 hy).1
    obtain ⟨k, p, n, lo, rd, to, bk⟩ := y
    obtain ⟨pk, pn, pq, pe, pc, pw, pa, pr⟩ := p
    simp only [Nd.hrow, Pl.row_eq, List.mem_cons, List.cons_append, List.nil_append, List.not_mem_nil, or_false] at hx
    rcases hx with rfl | rfl | rfl | rfl | rfl | rfl | rfl | rfl | rfl | rfl | rfl | rfl | rfl | rfl <;> try rfl
    simp only [Option.isSome_iff_ne_none]
    exact h i hlt
  simp only [famOK, Bool.or_eq_true]
  exact .inr (.inr key)
theorem hrows_snoc (ns : List Nd) (x : Nd) : hrows 0 (ns ++ [x]) = hrows 0 ns ++ [x.hrow ns.length] := by simp [hrows_append, hrows]
@[simp] theorem hrows_getD (ns : List Nd) (r : List PV) : (hrows 0 ns ++ [r]).getD ns.length [] = r := by
  rw [List.getD_eq_getElem?_getD, List.getElem?_append_right (by simp)]; simp
@[simp] theorem hrows_set (ns : List Nd) (r q : List PV) : (hrows 0 ns ++ [r]).set ns.length q = hrows 0 ns ++ [q] := by
  rw [List.set_append_right _ _ (by simp)]; simp
/-- The state in which nodes are built. -/
def GS (ns : List Nd) (nd : Nat) (A : List Int) : List (Flat.Loc × C) :=
  (.var 3, .n 2) :: (.cell 3 0, .av (.sl 4294967296 ns.length 0 ns.length)) :: (.cell 3 1, .av (.sl 1 A.length 0 nd)) :: (.arr 1, .arr 3 1 (A.map irow) 0) :: (.arr 4294967296, .arr 75 14 (hrows 0 ns) 0) :: famC 77 2 0 (tblN ns) []
@[simp] theorem hrows_nil : hrows 0 [] = [] := rfl
/-- What becomes of the nodes in the end. -/
theorem frz_hrows (t : Sto) (ns : List Nd) (h : ∀ i, i < ns.length → t (.arr (fid i)) = some (.arr 77 2 ((tblN ns).getD i []) 0)) : FrzRows t (hrows 0 ns) (ns.map Nd.row) := by
  refine ⟨by simp, fun i r s hr hs => ?_⟩
  rw [hrows_at, Nat.zero_add] at hr
  obtain ⟨x, hx, rfl⟩ := Option.map_eq_some_iff.1 hr
  rw [List.getElem?_map, hx] at hs
  simp only [Option.map_some, Option.some.injEq] at hs
  subst hs
  have hi : i < ns.length := (List.getElem?_eq_some_iff.1 hx).1
  have ha := h i hi
  have hg : (tblN ns).getD i [] = x.back.map prow := by simp [List.getD_eq_getElem?_getD, tblN, hx]
  rw [hg] at ha
  have same : ∀ z : PV, (∀ k L o n, z ≠ .han k L o n) → FrzE t z z := fun z hz => .inl ⟨hz, rfl⟩
  refine ⟨by simp [Nd.row, Nd.hrow], fun j y z hy hz => ?_⟩
  obtain ⟨k, p, n, lo, rd, to, bk⟩ := x
  obtain ⟨pk, pn, pq, pe, pc, pw, pa, pg⟩ := p
  simp only [Nd.row, Nd.hrow, Pl.row_eq, List.cons_append, List.nil_append] at hy hz
  match j, hy, hz with
  | 0, hy, hz | 1, hy, hz | 2, hy, hz | 3, hy, hz | 4, hy, hz | 5, hy, hz | 6, hy, hz | 7, hy, hz | 8, hy, hz | 9, hy, hz | 10, hy, hz | 11, hy, hz | 12, hy, hz =>
    simp only [List.getElem?_cons_zero, List.getElem?_cons_succ, Option.some.injEq] at hy hz
    subst hy hz
    exact same _ (by simp)
  | 13, hy, hz =>
    simp only [List.getElem?_cons_zero, List.getElem?_cons_succ, Option.some.injEq] at hy hz
    subst hy hz
    exact .inr ⟨fid i, bk.length, 77, 2, bk.map prow, 0, rfl, by simp, ha, by simp, rfl⟩
  | j + 14, hy, hz => simp at hy
/-! ### what is built -/
def goB (x : Nd) (to : Prt) : Nd := { x with back := x.back ++ [to] }
/-- A node that goes back to one more. -/
def pushB (ns : List Nd) (j : Nat) (to : Prt) : List Nd := ns.modify j fun x => goB x to
@[simp] theorem pushB_length (ns : List Nd) (j : Nat) (to : Prt) : (pushB ns j to).length = ns.length := by simp [pushB]
/-- One more loop around. -/
def pushG (A : List Int) (nd : Nat) (x : Int) : List Int := A.take nd ++ x :: A.drop (nd + 1)
theorem pushG_len {A : List Int} {nd : Nat} (x : Int) (h : nd ≤ A.length) : (pushG A nd x).length = max A.length (nd + 1) := by
  simp [pushG]; omega
abbrev BR := List Nd × List Int
def leafN (m : Int) (to : Prt) : Nd := ⟨2, .zero, m, 0, 0, [to], []⟩
def loopN (nd : Nat) (rds : Int) (n : Nat) : Nd := ⟨3, .zero, 0, nd, rds, [⟨(n : Int) + 1, 0⟩], []⟩
def leaveN (nd : Nat) (rds : Int) (to : Prt) : Nd := ⟨4, .zero, 0, nd, rds, [to], []⟩
def planN (p : Pl) (to : Prt) : Nd := ⟨1, p, 0, 0, 0, [to], []⟩
def varJ (A : List Int) (nd : Nat) (m : Int) : Nat := (A.getD (varI nd m).toNat 0).toNat
mutual
/-- Nodes, and those of a plan that go to a port; the loops around. -/
def bld : Pl → Prt → Nat → BR → BR
  | .mk k m kids ex cols wth agg rds, to, nd, s =>
    if k == 1 then (s.1 ++ [leafN m to], s.2)
    else if k == 2 then (pushB s.1 (varJ s.2 nd m) to, s.2)
    else if k == 10 then bldI kids s.1.length nd (s.1 ++ [loopN nd rds s.1.length] ++ [leaveN nd rds to], s.2)
    else bldL kids (k == 7) s.1.length 0 nd (s.1 ++ [planN (.mk k m [] ex cols wth agg rds) to], s.2)
def bldL : List Pl → Bool → Nat → Nat → Nat → BR → BR
  | [], _, _, _, _, s => s
  | x :: r, j, a, i, nd, s => bldL r j a (i + 1) nd (bld x ⟨(a : Int), if j then (i : Int) else 0⟩ nd s)
def bldI : List Pl → Nat → Nat → BR → BR
  | [], _, _, s => s
  | x :: r, a, nd, s => bldL r true a 1 (nd + 1) ((bld x ⟨(a : Int), 0⟩ nd s).1, pushG (bld x ⟨(a : Int), 0⟩ nd s).2 nd a)
end
theorem bldL_append (j : Bool) (a nd : Nat) : ∀ (l q : List Pl) (i : Nat) (s : BR), bldL (l ++ q) j a i nd s = bldL q j a (i + l.length) nd (bldL l j a i nd s)
  | [], q, i, s => by simp [bldL]
  | x :: l, q, i, s => by
    simp only [List.cons_append, bldL, bldL_append j a nd l q, List.length_cons]
    rw [show i + 1 + l.length = i + (l.length + 1) by omega]
theorem bldL_take {kids : List Pl} {j : Bool} {a nd i : Nat} {s : BR} {x : Pl} (h : kids[i]? = some x) :
    bldL (kids.take (i + 1)) j a 0 nd s = bld x ⟨(a : Int), if j then (i : Int) else 0⟩ nd (bldL (kids.take i) j a 0 nd s) := by
  have hl : (kids.take i).length = i := by have := (List.getElem?_eq_some_iff.1 h).1; simp; omega
  rw [List.take_add_one, h, bldL_append, hl]
  simp [bldL]
/-- What is there still room for. -/
structure Rm (s : BR) (nd c : Nat) : Prop where
  len : s.1.length + 2 * c ≤ 200
  back : ∀ x ∈ s.1, x.back.length + c ≤ 200
  dep : nd ≤ s.2.length
  aln : s.2.length ≤ 2
  ard : ∀ a ∈ s.2.take nd, 0 ≤ a ∧ a < s.1.length
theorem Rm.less {s : BR} {nd c d : Nat} (h : Rm s nd c) (hd : d ≤ c) : Rm s nd d :=
  ⟨by have := h.len; omega, fun x hx => by have := h.back x hx; omega, h.dep, h.aln, h.ard⟩
mutual
/-- Variables lead to loops around; loops within each other are few. -/
def Pl.vok : Pl → Nat → Prop
  | .mk k m kids _ _ _ _ _, nd => (k = 2 → 0 ≤ varI nd m ∧ varI nd m < nd) ∧ (if k == 10 then nd + 1 ≤ 2 ∧ Pl.vokI kids nd else Pl.vokL kids nd)
def Pl.vokL : List Pl → Nat → Prop
  | [], _ => True
  | x :: r, nd => x.vok nd ∧ Pl.vokL r nd
def Pl.vokI : List Pl → Nat → Prop
  | [], _ => True
  | x :: r, nd => x.vok nd ∧ Pl.vokL r (nd + 1)
end
theorem Pl.vokL_mem {nd : Nat} : ∀ {l : List Pl}, Pl.vokL l nd → ∀ x ∈ l, x.vok nd
  | [], _, x, h => by simp at h
  | e :: r, h, x, hx => by
    simp only [Pl.vokL] at h
    rcases List.mem_cons.1 hx with rfl | hx
    · exact h.1
    · exact Pl.vokL_mem h.2 x hx
/-- What a step of the building leaves. -/
structure Gw (s t : BR) (nd c : Nat) : Prop where
  len : s.1.length ≤ t.1.length
  len2 : t.1.length ≤ s.1.length + 2 * c
  back : ∀ x ∈ t.1, x.back.length ≤ c ∨ ∃ y ∈ s.1, x.back.length ≤ y.back.length + c
  take : t.2.take nd = s.2.take nd
  aln : s.2.length ≤ t.2.length
  al2 : s.2.length ≤ 2 → t.2.length ≤ 2
theorem Gw.rm {s t : BR} {nd c d : Nat} (h : Gw s t nd c) (hr : Rm s nd (c + d)) : Rm t nd d := by
  refine ⟨by have := h.len2; have := hr.len; omega, fun x hx => ?_, Nat.le_trans hr.dep h.aln, h.al2 hr.aln, fun a ha => ?_⟩
  · rcases h.back x hx with h1 | ⟨y, hy, h1⟩
    · have := hr.len; omega
    · have := hr.back y hy; omega
  · rw [h.take] at ha
    have := hr.ard a ha
    have := h.len
    omega
theorem Gw.trans {s t u : BR} {nd c d : Nat} (h : Gw s t nd c) (k : Gw t u nd d) : Gw s u nd (c + d) := by
  refine ⟨Nat.le_trans h.len k.len, by have := h.len2; have := k.len2; omega, fun x hx => ?_, k.take.trans h.take, Nat.le_trans h.aln k.aln, fun q => k.al2 (h.al2 q)⟩
  rcases k.back x hx with h1 | ⟨y, hy, h1⟩
  · exact .inl (by omega)
  · rcases h.back y hy with h2 | ⟨z, hz, h2⟩
    · exact .inl (by omega)
    · exact .inr ⟨z, hz, by omega⟩
theorem Gw.refl (s : BR) (nd c : Nat) : Gw s s nd c := ⟨Nat.le_refl _, by omega, fun x hx => .inr ⟨x, hx, by omega⟩, rfl, Nat.le_refl _, id⟩
theorem Gw.more {s t : BR} {nd c d : Nat} (h : Gw s t nd c) (hd : c ≤ d) : Gw s t nd d :=
  ⟨h.len, by have := h.len2; omega, fun x hx => by rcases h.back x hx with h1 | ⟨y, hy, h1⟩; exact .inl (by omega); exact .inr ⟨y, hy, by omega⟩, h.take, h.aln, h.al2⟩
theorem Gw.snoc (s : BR) (x : Nd) (nd : Nat) (hx : x.back = []) : Gw s (s.1 ++ [x], s.2) nd 1 := by
  refine ⟨by simp, by simp, fun y hy => ?_, rfl, Nat.le_refl _, id⟩
  rcases List.mem_append.1 hy with hy | hy
  · exact .inr ⟨y, hy, by omega⟩
  · simp at hy; subst hy; exact .inl (by simp [hx])
theorem take_pushG {A : List Int} {nd : Nat} (x : Int) (h : nd ≤ A.length) : (pushG A nd x).take nd = A.take nd := by
  simp only [pushG]
  rw [List.take_append_of_le_length (by simp; omega), List.take_take, Nat.min_self]
theorem take_pushG' {A : List Int} {nd : Nat} (x : Int) (h : nd ≤ A.length) : (pushG A nd x).take (nd + 1) = A.take nd ++ [x] := by
  simp only [pushG]
  have hl : (A.take nd).length = nd := by simp; omega
  rw [List.take_append, hl, show nd + 1 - nd = 1 by omega, List.take_of_length_le (by omega)]
  simp
mutual
theorem bld_gw : ∀ (p : Pl) (to : Prt) (nd : Nat) (s : BR), p.vok nd → nd ≤ s.2.length → Gw s (bld p to nd s) nd p.size
  | .mk k m kids ex cols wth agg rds, to, nd, s, hv, hd => by
    rw [Pl.vok] at hv
    rw [bld, Pl.size]
    split
    · exact (Gw.snoc s _ nd rfl).more (by omega)
    · split
      · refine ⟨by simp, by simp, fun x hx => ?_, rfl, Nat.le_refl _, id⟩
        obtain ⟨i, hi⟩ := List.mem_iff_getElem?.1 hx
        simp only [pushB, List.getElem?_modify] at hi
        cases hq : s.1[i]? with
        | none => simp [hq] at hi
        | some y =>
          rw [hq] at hi
          simp only [Option.map_eq_map, Option.map_some, Option.some.injEq] at hi
          refine .inr ⟨y, List.mem_of_getElem? hq, ?_⟩
          subst hi
          split <;> simp [goB] <;> omega
      · split
        · rename_i hk
          rw [if_pos hk] at hv
          have h2 : Gw s (s.1 ++ [loopN nd rds s.1.length] ++ [leaveN nd rds to], s.2) nd 1 := by
            refine ⟨by simp, by simp, fun x hx => ?_, rfl, Nat.le_refl _, id⟩
            simp only [List.append_assoc, List.mem_append, List.mem_cons, List.not_mem_nil, or_false] at hx
            rcases hx with hx | hx | hx
            · exact .inr ⟨x, hx, by omega⟩
            · subst hx; exact .inl (by simp [loopN])
            · subst hx; exact .inl (by simp [leaveN])
          exact h2.trans (bldI_gw kids _ nd _ hv.2.2 hd hv.2.1)
        · rename_i hk
          rw [if_neg hk] at hv
          exact (Gw.snoc s _ nd rfl).trans (bldL_gw kids _ _ 0 nd _ hv.2 hd)
theorem bldL_gw : ∀ (l : List Pl) (j : Bool) (a i nd : Nat) (s : BR), Pl.vokL l nd → nd ≤ s.2.length → Gw s (bldL l j a i nd s) nd (Pl.sizeL l)
  | [], j, a, i, nd, s, hv, hd => by rw [bldL]; exact Gw.refl s nd _
  | x :: r, j, a, i, nd, s, hv, hd => by
    rw [Pl.vokL] at hv
    rw [bldL, Pl.sizeL]
    have h1 := bld_gw x ⟨(a : Int), if j then (i : Int) else 0⟩ nd s hv.1 hd
    exact h1.trans (bldL_gw r j a (i + 1) nd _ hv.2 (Nat.le_trans hd h1.aln))
theorem bldI_gw : ∀ (l : List Pl) (a nd : Nat) (s : BR), Pl.vokI l nd → nd ≤ s.2.length → nd + 1 ≤ 2 → Gw s (bldI l a nd s) nd (Pl.sizeL l)
  | [], a, nd, s, hv, hd, h2 => by rw [bldI]; exact Gw.refl s nd _
  | x :: r, a, nd, s, hv, hd, h2 => by
    rw [Pl.vokI] at hv
    rw [bldI, Pl.sizeL]
    have h1 := bld_gw x ⟨(a : Int), 0⟩ nd s hv.1 hd
    have hd1 := Nat.le_trans hd h1.aln
    have hpl := pushG_len (a : Int) hd1
    have h3 := bldL_gw r true a 1 (nd + 1) ((bld x ⟨(a : Int), 0⟩ nd s).1, pushG (bld x ⟨(a : Int), 0⟩ nd s).2 nd a) hv.2 (by simp only; omega)
    have hpt : (pushG (bld x ⟨(a : Int), 0⟩ nd s).2 nd a).take nd = s.2.take nd := by rw [take_pushG _ hd1]; exact h1.take
    have e0 : ∀ {q : List Int}, q.take nd = (q.take (nd + 1)).take nd := by intro q; rw [List.take_take]; congr 1; omega
    have e3 := h3.take
    have e4 := h3.aln
    have e5 := h3.al2
    have e6 := h1.aln
    have e7 := h1.al2
    simp only at e3 e4 e5
    refine ⟨Nat.le_trans h1.len h3.len, by have := h1.len2; have := h3.len2; simp only at this; omega, fun y hy => ?_, ?_, by omega, fun q => e5 (by rw [hpl]; have := e7 q; omega)⟩
    · rcases h3.back y hy with g | ⟨z, hz, g⟩
      · exact .inl (by omega)
      · rcases h1.back z hz with g2 | ⟨u, hu, g2⟩
        · exact .inl (by omega)
        · exact .inr ⟨u, hu, by omega⟩
    · rw [e0, e3, ← e0]; exact hpt
end
end Go.Proofs
end
section
set_option linter.unusedVariables false
set_option linter.unusedSimpArgs false
namespace Go.Proofs
open Go.Flat
set_option maxRecDepth 100000
set_option linter.unusedSimpArgs false
set_option linter.unusedVariables false
attribute [local simp] Bool.and_assoc Bool.or_assoc evalG evalX efD skF guardG guardL isCall stepL evalOp ev evs lk tmpsL app AV.ok fresh vv putCells insV ins del putL place Go.Flat.look fillC fillR getCells loadF storeF binF scalarBin intBin strBin isShift shiftBin unF lenF maxF minF rowsF appendF builtinF idxF natOf sliceP sliceF optEv Flat.cut overwrite toPV toPVs constAV scalarC scalarCs AV.cells TI.isAgg allSome andAll scalarEq buildable Go.Flat.lim retQ resL resAll resOne PartOf noTmp closedIn refs refs.refsL isSomeV hasB ids leA leA.leL renA renA.renL callB refsAll backL dropIds renS LiesAt injB ownB freshB memN locId insAll leA_refl leL_refl okS frzS frzA frzA.frzL evalD feet fine updCells cellsFrom memP footRf footWf noTmpU updIds opOps opIds idsA footR footW guardTs opTs dstTs callR callW renLoc renC inBlockQ thenQ Value.oneCell' IntKind.bits IntKind.signed PV.up toPH toPHs

attribute [local simp] Pl.av Pl.row_eq
def Nd.av (x : Nd) : AV := match x with
  | ⟨xk, .mk pk pn pq pe pc pw pa pg, xn, xl, xr, xt, xb⟩ => .agg [vv (.int .u8 xk), vv (.int .u8 pk), vv (.int .i64 pn), .p (.ps (pq.map Pl.row)), .p (.ps (pe.map E.row)), .p (.ps (pc.map irow)), .p (.ps (pw.map irow)), vv (.int .u8 pa), vv (.int .i64 pg), vv (.int .i64 xn), vv (.int .i64 xl), vv (.int .i64 xr), .p (.ps (xt.map prow)), .p (.ps (xb.map prow))]
def twoN (xk pk : Int) : Bool := xk == 3 || (xk == 1 && pk == 7)
def Nd.two (x : Nd) : Bool := match x with
  | ⟨xk, .mk pk _ _ _ _ _ _ _, _, _, _, _, _⟩ => twoN xk pk

attribute [local simp] twoN in
theorem spec130 (xk pk pn : Int) (pq : List Pl) (pe : List E) (pc pw : List Int) (pa pg xn xl xr : Int) (xt xb : List Prt) : Flat.Sp Try.prog 130 [.agg [vv (.int .u8 xk), vv (.int .u8 pk), vv (.int .i64 pn), .p (.ps (pq.map Pl.row)), .p (.ps (pe.map E.row)), .p (.ps (pc.map irow)), .p (.ps (pw.map irow)), vv (.int .u8 pa), vv (.int .i64 pg), vv (.int .i64 xn), vv (.int .i64 xl), vv (.int .i64 xr), .p (.ps (xt.map prow)), .p (.ps (xb.map prow))]] [] (vv (.bool (twoN xk pk))) [] := by
  refine sk Try.func130 ?_
  intro F G hn hG
  refine sq ?_
  refine rg 1000 ?_
  refine pr [1, 17] ?_
  refine sq ?_
  refine rc 2000 ?_
  iterate 9 (first | refine gp 2850 ?_ | refine os ?_ | refine gt 2850 ?_)
  refine oe 2900 ?_
  refine on ?_
  refine pr [2, 3] ?_
  refine k_ret ?_
  show retQ _ _ _ _ _ _ _
  simp [*]

def zeroP (k n : Int) (nk ne nc nw : Nat) (a r : Int) : Bool := (k == 0) && ((n == 0) && ((((nk : Int) + ne + nc + nw) == 0) && ((a == 0) && (r == 0))))

attribute [local simp] zeroP in
theorem spec131 (pk pn : Int) (pq : List Pl) (pe : List E) (pc pw : List Int) (pa pg : Int) (h1 : pq.length ≤ Bnd) (h2 : pe.length ≤ Bnd) (h3 : pc.length ≤ Bnd) (h4 : pw.length ≤ Bnd) : Flat.Sp Try.prog 131 [(Pl.mk pk pn pq pe pc pw pa pg).av] [] (vv (.bool (zeroP pk pn pq.length pe.length pc.length pw.length pa pg))) [] := by
  refine sk Try.func131 ?_
  intro F G hn hG
  simp only [Bnd] at h1 h2 h3 h4
  have e1 : IntKind.i64.wrap ((pq.length : Int) + pe.length) = (pq.length : Int) + pe.length := by rw [w64]; omega
  have e2 : IntKind.i64.wrap ((pq.length : Int) + pe.length + pc.length) = (pq.length : Int) + pe.length + pc.length := by rw [w64]; omega
  have e3 : IntKind.i64.wrap ((pq.length : Int) + pe.length + pc.length + pw.length) = (pq.length : Int) + pe.length + pc.length + pw.length := by rw [w64]; omega
  refine sq ?_
  refine rg 1000 ?_
  refine pr [1, 39] ?_
  refine sq ?_
  refine rc 2000 ?_
  iterate 3 (first | refine gp 2250 ?_ | refine os ?_ | refine gt 2250 ?_)
  refine oe 2300 ?_
  iterate 16 (first | refine gp 3850 ?_ | refine os ?_ | refine gt 3850 ?_)
  refine oe 3900 ?_
  iterate 3 (first | refine gp 4150 ?_ | refine os ?_ | refine gt 4150 ?_)
  refine oe 4200 ?_
  iterate 3 (first | refine gp 4450 ?_ | refine os ?_ | refine gt 4450 ?_)
  refine oe 4500 ?_
  refine on ?_
  refine pr [2, 3] ?_
  refine k_ret ?_
  show retQ _ _ _ _ _ _ _
  simp [*]

@[simp] theorem wr_01 : IntKind.i64.wrap (0 + 1) = 1 := rfl
@[simp] theorem wr_11 : IntKind.i64.wrap (1 + 1) = 2 := rfl
@[simp] theorem wr_21 : IntKind.i64.wrap (2 + 1) = 3 := rfl

def noneK (k : Int) : Bool := k == 1 || (k == 2 || k == 10)
theorem spec200 (k : Int) : Flat.Sp Try.prog 200 [.psf [[.v (.int .u8 1)], [.v (.int .u8 2)], [.v (.int .u8 10)]], vv (.int .u8 k)] [] (vv (.int .i64 (if k == 1 then 0 else if k == 2 then 1 else if k == 10 then 2 else -1))) [] := by
  refine sk Try.func200 ?_
  intro F G hn hG
  refine sq ?_
  refine rg 1000 ?_
  refine pr [0, 2, 4, 19] ?_
  refine sq ?_
  refine sq ?_
  refine rg 2000 ?_
  refine pr [0, 2, 4, 6, 7, 19] ?_
  refine k_block ?_
  refine k_rounds 4 ?_
  show AK _ _ _ _ _ _
  refine sq ?_
  refine rg 3000 ?_
  refine pr [0, 2, 4, 6, 7, 19] ?_
  refine sq ?_
  refine ct ?_
  refine k_skip ?_
  refine sq ?_
  refine k_block ?_
  refine sq ?_
  refine rg 4000 ?_
  refine pr [0, 2, 4, 6, 7, 19] ?_
  refine sq ?_
  refine rg 5000 ?_
  refine pr [0, 2, 4, 6, 7, 19] ?_
  refine cd ?_ ?_
  · intro h16_1
    refine sq ?_
    refine rg 6000 ?_
    refine pr [0, 2, 4, 6, 7, 19] ?_
    refine k_ret ?_
    show retQ _ _ _ _ _ _ _
    simp [*]
  · intro h16_1
    refine k_skip ?_
    refine k_nil ?_
    show AK _ _ _ _ _ _
    refine rg 7000 ?_
    refine k_nil ?_
    show AK _ _ _ _ _ _
    refine sq ?_
    refine rg 1003000 ?_
    refine pr [0, 2, 4, 6, 7, 19] ?_
    refine sq ?_
    refine ct ?_
    refine k_skip ?_
    refine sq ?_
    refine k_block ?_
    refine sq ?_
    refine rg 1004000 ?_
    refine pr [0, 2, 4, 6, 7, 19] ?_
    refine sq ?_
    refine rg 1005000 ?_
    refine pr [0, 2, 4, 6, 7, 19] ?_
    refine cd ?_ ?_
    · intro h16_2
      refine sq ?_
      refine rg 6000 ?_
      refine pr [0, 2, 4, 6, 7, 19] ?_
      refine k_ret ?_
      show retQ _ _ _ _ _ _ _
      simp [*]
    · intro h16_2
      refine k_skip ?_
      refine k_nil ?_
      show AK _ _ _ _ _ _
      refine rg 1007000 ?_
      refine k_nil ?_
      show AK _ _ _ _ _ _
      refine sq ?_
      refine rg 2003000 ?_
      refine pr [0, 2, 4, 6, 7, 19] ?_
      refine sq ?_
      refine ct ?_
      refine k_skip ?_
      refine sq ?_
      refine k_block ?_
      refine sq ?_
      refine rg 2004000 ?_
      refine pr [0, 2, 4, 6, 7, 19] ?_
      refine sq ?_
      refine rg 2005000 ?_
      refine pr [0, 2, 4, 6, 7, 19] ?_
      refine cd ?_ ?_
      · intro h16_3
        refine sq ?_
        refine rg 6000 ?_
        refine pr [0, 2, 4, 6, 7, 19] ?_
        refine k_ret ?_
        show retQ _ _ _ _ _ _ _
        simp [*]
      · intro h16_3
        refine k_skip ?_
        refine k_nil ?_
        show AK _ _ _ _ _ _
        refine rg 2007000 ?_
        refine k_nil ?_
        show AK _ _ _ _ _ _
        refine sq ?_
        refine rg 3003000 ?_
        refine pr [0, 2, 4, 6, 7, 19] ?_
        refine sq ?_
        refine ce ?_
        refine k_exit ?_
        show AK _ _ _ _ _ _
        refine sq ?_
        refine rg 8000 ?_
        refine pr [4, 5] ?_
        refine k_ret ?_
        show retQ _ _ _ _ _ _ _
        simp [*]

theorem noneK_idx (k : Int) : decide ((0 : Int) ≤ if k = 1 then 0 else if k = 2 then 1 else if k = 10 then 2 else -1) = noneK k := by
  unfold noneK
  by_cases h1 : k = 1
  · simp [h1]
  · by_cases h2 : k = 2
    · simp [h1, h2]
    · by_cases h3 : k = 10 <;> simp [h1, h2, h3]

attribute [local simp] noneK_idx in
theorem spec180 (k : Int) : Flat.Sp Try.prog 180 [.psf [[.v (.int .u8 1)], [.v (.int .u8 2)], [.v (.int .u8 10)]], vv (.int .u8 k)] [] (vv (.bool (noneK k))) [] := by
  refine sk Try.func180 ?_
  intro F G hn hG
  refine sq ?_
  refine rg 1000 ?_
  refine pr [0, 2, 4, 9] ?_
  refine sq ?_
  refine rc 2000 ?_
  refine oc id (spec200 k) ?_
  refine oe 2100 ?_
  refine on ?_
  refine pr [4, 5] ?_
  refine k_ret ?_
  show retQ _ _ _ _ _ _ _
  simp [*]

def srcP0 : Pl := .mk 1 0 [] [] [] [] 0 0
/-- Whether the plan of a node that does what a plan does is right. -/
def madeP (pk pn : Int) (nk : Nat) (pe : List E) (pc pw : List Int) (pa pg : Int) : Bool := if decide (0 < nk) || noneK pk then false else checkP (.mk pk pn (if pk == 7 then [srcP0, srcP0] else [srcP0]) pe pc pw pa pg) == 0

attribute [local simp] madeP srcP0 in
theorem spec132 (pk pn : Int) (pq : List Pl) (pe : List E) (pc pw : List Int) (pa pg : Int) (h2 : pe.length ≤ Bnd) (h3 : pc.length ≤ Bnd) (h4 : pw.length ≤ Bnd) : Flat.Sp Try.prog 132 [(Pl.mk pk pn pq pe pc pw pa pg).av] [] (vv (.bool (madeP pk pn pq.length pe pc pw pa pg))) [] := by
  refine sk Try.func132 ?_
  intro F G hn hG
  have hb1 : (Pl.mk pk pn [srcP0] pe pc pw pa pg).bnd := by rw [Pl.bnd]; exact ⟨by simp [Bnd], h2, h3, h4, by simp [Pl.bndL, srcP0, Pl.bnd]⟩
  have hb2 : (Pl.mk pk pn [srcP0, srcP0] pe pc pw pa pg).bnd := by rw [Pl.bnd]; exact ⟨by simp [Bnd], h2, h3, h4, by simp [Pl.bndL, srcP0, Pl.bnd]⟩
  have hb3 : (Pl.mk pk pn (if pk == 7 then [srcP0, srcP0] else [srcP0]) pe pc pw pa pg).bnd := by split <;> assumption
  refine sq ?_
  refine rg 1000 ?_
  refine pr [1, 30] ?_
  refine sq ?_
  refine rg 2000 ?_
  refine pr [1, 5, 6, 30] ?_
  refine sq ?_
  refine rg 3000 ?_
  refine pr [1, 5, 7, 30] ?_
  refine sq ?_
  refine sq ?_
  refine rc 4000 ?_
  iterate 3 (first | refine gp 4250 ?_ | refine os ?_ | refine gt 4250 ?_)
  refine og (fun hg => spec180 pk) ?_
  refine oe 4400 ?_
  refine on ?_
  refine pr [1, 4, 16, 30] ?_
  refine cd ?_ ?_
  · intro h16_1
    refine sq ?_
    refine rg 5000 ?_
    refine pr [1, 4, 17, 30] ?_
    refine k_ret ?_
    show retQ _ _ _ _ _ _ _
    simp [*]
  · intro h16_1
    refine k_skip ?_
    refine sq ?_
    refine rg 6000 ?_
    refine pr [1, 4, 20, 30] ?_
    refine sq ?_
    refine sq ?_
    refine rg 7000 ?_
    refine pr [1, 4, 22, 30] ?_
    refine cd ?_ ?_
    · intro h22_2
      refine rg 8000 ?_
      refine pr [1, 3, 27, 30] ?_
      refine sq ?_
      refine rc 9000 ?_
      refine oc id (spec32 pk pn (if pk == 7 then [srcP0, srcP0] else [srcP0]) pe pc pw pa pg hb3) ?_
      refine oe 9100 ?_
      refine on ?_
      refine pr [2, 3] ?_
      refine k_ret ?_
      show retQ _ _ _ _ _ _ _
      simp [*]
    · intro h22_2
      refine k_skip ?_
      refine sq ?_
      refine rc 9000 ?_
      refine oc id (spec32 pk pn (if pk == 7 then [srcP0, srcP0] else [srcP0]) pe pc pw pa pg hb3) ?_
      refine oe 9100 ?_
      refine on ?_
      refine pr [2, 3] ?_
      refine k_ret ?_
      show retQ _ _ _ _ _ _ _
      simp [*]

def rightN (xk n lo rd : Int) (nb : Nat) (z md : Bool) : Bool :=
  if xk == 1 then ((lo == 0) && ((rd == 0) && ((nb : Int) == 0))) && ((n == 0) && md)
  else if xk == 2 then ((lo == 0) && ((rd == 0) && ((nb : Int) == 0))) && (decide (0 ≤ n) && (decide (n < 8) && z))
  else if xk == 5 then ((lo == 0) && ((rd == 0) && ((nb : Int) == 0))) && ((n == 0) && z)
  else if xk == 3 then decide (0 ≤ lo) && (decide (lo < 2) && (decide (1 ≤ rd) && (decide (rd ≤ 16) && ((n == 0) && z))))
  else if xk == 4 then (decide (0 ≤ lo) && (decide (lo < 2) && (decide (1 ≤ rd) && (decide (rd ≤ 16) && ((n == 0) && z))))) && ((nb : Int) == 0)
  else false

attribute [local simp] rightN in
set_option maxHeartbeats 1000000 in
theorem spec74 (xk pk pn : Int) (pq : List Pl) (pe : List E) (pc pw : List Int) (pa pg xn xl xr : Int) (xt xb : List Prt) (h1 : pq.length ≤ Bnd) (h2 : pe.length ≤ Bnd) (h3 : pc.length ≤ Bnd) (h4 : pw.length ≤ Bnd) : Flat.Sp Try.prog 74 [.agg [vv (.int .u8 xk), vv (.int .u8 pk), vv (.int .i64 pn), .p (.ps (pq.map Pl.row)), .p (.ps (pe.map E.row)), .p (.ps (pc.map irow)), .p (.ps (pw.map irow)), vv (.int .u8 pa), vv (.int .i64 pg), vv (.int .i64 xn), vv (.int .i64 xl), vv (.int .i64 xr), .p (.ps (xt.map prow)), .p (.ps (xb.map prow))]] [] (vv (.bool (rightN xk xn xl xr xb.length (zeroP pk pn pq.length pe.length pc.length pw.length pa pg) (madeP pk pn pq.length pe pc pw pa pg)))) [] := by
  refine sk Try.func74 ?_
  intro F G hn hG
  refine sq ?_
  refine rg 1000 ?_
  refine pr [1, 105] ?_
  refine sq ?_
  refine cv [(.tmp 3, vv (.bool (decide (0 ≤ xl) && (decide (xl < 2) && (decide (1 ≤ xr) && (decide (xr ≤ 16) && ((xn == 0) && (zeroP pk pn pq.length pe.length pc.length pw.length pa pg))))))))] ?_ ?_
  · skip
    refine rc 2000 ?_
    iterate 3 (first | refine gp 2250 ?_ | refine os ?_ | refine gt 2250 ?_)
    refine oe 2300 ?_
    iterate 3 (first | refine gp 2550 ?_ | refine os ?_ | refine gt 2550 ?_)
    refine oe 2600 ?_
    iterate 3 (first | refine gp 2850 ?_ | refine os ?_ | refine gt 2850 ?_)
    refine oe 2900 ?_
    iterate 3 (first | refine gp 3150 ?_ | refine os ?_ | refine gt 3150 ?_)
    refine oe 3200 ?_
    iterate 2 (first | refine gp 3350 ?_ | refine os ?_ | refine gt 3350 ?_)
    refine og (fun hg => spec131 pk pn pq pe pc pw pa pg h1 h2 h3 h4) ?_
    refine oe 3500 ?_
    refine on ?_
    refine k_nil ?_
    refine ⟨rfl, ?_, ?_, ?_⟩ <;> simp [*]
  refine pr [1, 5, 33, 105] ?_
  refine sq ?_
  refine cv [(.tmp 4, vv (.bool ((xl == 0) && ((xr == 0) && ((xb.length : Int) == 0)))))] ?_ ?_
  · skip
    refine rc 3000 ?_
    iterate 3 (first | refine gp 3250 ?_ | refine os ?_ | refine gt 3250 ?_)
    refine oe 3300 ?_
    iterate 4 (first | refine gp 3650 ?_ | refine os ?_ | refine gt 3650 ?_)
    refine oe 3700 ?_
    refine on ?_
    refine k_nil ?_
    refine ⟨rfl, ?_, ?_, ?_⟩ <;> simp [*]
  refine pr [1, 5, 47, 105] ?_
  refine sq ?_
  refine sq ?_
  refine rg 4000 ?_
  refine pr [1, 5, 48, 105] ?_
  refine k_block ?_
  refine sq ?_
  refine rg 5000 ?_
  refine pr [1, 5, 48, 50, 51, 105] ?_
  refine cd ?_ ?_
  · intro h49_1
    refine sq ?_
    refine rc 6000 ?_
    iterate 3 (first | refine gp 6250 ?_ | refine os ?_ | refine gt 6250 ?_)
    refine oe 6300 ?_
    iterate 2 (first | refine gp 6450 ?_ | refine os ?_ | refine gt 6450 ?_)
    refine og (fun hg => spec132 pk pn pq pe pc pw pa pg h2 h3 h4) ?_
    refine oe 6600 ?_
    refine on ?_
    refine pr [2, 3] ?_
    refine k_ret ?_
    show retQ _ _ _ _ _ _ _
    simp [*]
  · intro h49_1
    refine sq ?_
    refine rg 7000 ?_
    refine pr [1, 5, 48, 49, 62, 63, 64, 105] ?_
    refine cd ?_ ?_
    · intro h62_2
      refine sq ?_
      refine rc 8000 ?_
      iterate 3 (first | refine gp 8250 ?_ | refine os ?_ | refine gt 8250 ?_)
      refine oe 8300 ?_
      iterate 3 (first | refine gp 8550 ?_ | refine os ?_ | refine gt 8550 ?_)
      refine oe 8600 ?_
      iterate 2 (first | refine gp 8750 ?_ | refine os ?_ | refine gt 8750 ?_)
      refine og (fun hg => spec131 pk pn pq pe pc pw pa pg h1 h2 h3 h4) ?_
      refine oe 8900 ?_
      refine on ?_
      refine pr [2, 3] ?_
      refine k_ret ?_
      show retQ _ _ _ _ _ _ _
      simp [*]
    · intro h62_2
      refine sq ?_
      refine rg 9000 ?_
      refine pr [1, 5, 48, 49, 80, 81, 82, 105] ?_
      refine cd ?_ ?_
      · intro h80_3
        refine sq ?_
        refine rc 10000 ?_
        iterate 3 (first | refine gp 10250 ?_ | refine os ?_ | refine gt 10250 ?_)
        refine oe 10300 ?_
        iterate 2 (first | refine gp 10450 ?_ | refine os ?_ | refine gt 10450 ?_)
        refine og (fun hg => spec131 pk pn pq pe pc pw pa pg h1 h2 h3 h4) ?_
        refine oe 10600 ?_
        refine on ?_
        refine pr [2, 3] ?_
        refine k_ret ?_
        show retQ _ _ _ _ _ _ _
        simp [*]
      · intro h80_3
        refine sq ?_
        refine rg 11000 ?_
        refine pr [1, 4, 48, 49, 93, 94, 95, 105] ?_
        refine cd ?_ ?_
        · intro h93_4
          refine sq ?_
          refine rg 12000 ?_
          refine pr [2, 3] ?_
          refine k_ret ?_
          show retQ _ _ _ _ _ _ _
          simp [*]
        · intro h93_4
          refine sq ?_
          refine rg 13000 ?_
          refine pr [1, 4, 96, 97, 98, 105] ?_
          refine cd ?_ ?_
          · intro h96_5
            refine sq ?_
            refine rc 14000 ?_
            iterate 4 (first | refine gp 14350 ?_ | refine os ?_ | refine gt 14350 ?_)
            refine oe 14400 ?_
            refine on ?_
            refine pr [2, 3] ?_
            refine k_ret ?_
            show retQ _ _ _ _ _ _ _
            simp [*]
          · intro h96_5
            refine k_skip ?_
            refine k_nil ?_
            show AK _ _ _ _ _ _
            refine sq ?_
            refine rg 15000 ?_
            refine pr [2, 3] ?_
            refine k_ret ?_
            show retQ _ _ _ _ _ _ _
            simp [*]

/-- Whether a port goes to a node. -/
def Nd.reached (x : Nd) (b : Int) : Bool := if x.k == 2 then false else (b == 0 || (b == 1 && x.two))
def reachN (ns : List Nd) (q : Prt) : Bool := if decide (q.a < 0) || decide ((ns.length : Int) ≤ q.a) then false else match ns[q.a.toNat]? with
  | some x => x.reached q.b
  | none => false

theorem spec73_n (ns : List Nd) (a b : Int) (h : a < 0) : Flat.Sp Try.prog 73 [.p (.ps (ns.map Nd.row)), .agg [vv (.int .i64 a), vv (.int .i64 b)]] [] (vv (.bool false)) [] := by
  refine sk Try.func73 ?_
  intro F G hn hG
  refine sq ?_
  refine rg 1000 ?_
  refine pr [0, 1, 3, 40] ?_
  refine sq ?_
  refine sq ?_
  refine rc 2000 ?_
  iterate 5 (first | refine gp 2450 ?_ | refine os ?_ | refine gt 2450 ?_)
  refine oe 2500 ?_
  iterate 7 (first | refine gp 3150 ?_ | refine os ?_ | refine gt 3150 ?_)
  refine oe 3200 ?_
  refine on ?_
  refine pr [0, 1, 3, 5, 23, 40] ?_
  refine ct ?_
  refine sq ?_
  refine rg 3000 ?_
  refine pr [0, 1, 3, 5, 24, 40] ?_
  refine k_ret ?_
  show retQ _ _ _ _ _ _ _
  simp [*]

theorem spec73_b (ns : List Nd) (a b : Int) (h0 : decide (a < 0) = false) (h : (ns.length : Int) ≤ a) : Flat.Sp Try.prog 73 [.p (.ps (ns.map Nd.row)), .agg [vv (.int .i64 a), vv (.int .i64 b)]] [] (vv (.bool false)) [] := by
  refine sk Try.func73 ?_
  intro F G hn hG
  refine sq ?_
  refine rg 1000 ?_
  refine pr [0, 1, 3, 40] ?_
  refine sq ?_
  refine sq ?_
  refine rc 2000 ?_
  iterate 5 (first | refine gp 2450 ?_ | refine os ?_ | refine gt 2450 ?_)
  refine oe 2500 ?_
  iterate 7 (first | refine gp 3150 ?_ | refine os ?_ | refine gt 3150 ?_)
  refine oe 3200 ?_
  refine on ?_
  refine pr [0, 1, 3, 5, 23, 40] ?_
  refine ct ?_
  refine sq ?_
  refine rg 3000 ?_
  refine pr [0, 1, 3, 5, 24, 40] ?_
  refine k_ret ?_
  show retQ _ _ _ _ _ _ _
  simp [*]

attribute [local simp] Nd.row Nd.reached Nd.two in
theorem spec73_i (ns : List Nd) (i : Nat) (b : Int) (xk pk pn : Int) (pq : List Pl) (pe : List E) (pc pw : List Int) (pa pg xn xl xr : Int) (xt xb : List Prt) (hx : ns[i]? = some ⟨xk, .mk pk pn pq pe pc pw pa pg, xn, xl, xr, xt, xb⟩) : Flat.Sp Try.prog 73 [.p (.ps (ns.map Nd.row)), .agg [vv (.int .i64 (i : Int)), vv (.int .i64 b)]] [] (vv (.bool (Nd.reached ⟨xk, .mk pk pn pq pe pc pw pa pg, xn, xl, xr, xt, xb⟩ b))) [] := by
  refine sk Try.func73 ?_
  intro F G hn hG
  have hlt : i < ns.length := (List.getElem?_eq_some_iff.1 hx).1
  have hle : ¬ ns.length ≤ i := by omega
  obtain ⟨hlt2, hx2⟩ := List.getElem?_eq_some_iff.1 hx
  refine sq ?_
  refine rg 1000 ?_
  refine pr [0, 1, 3, 40] ?_
  refine sq ?_
  refine sq ?_
  refine rc 2000 ?_
  iterate 5 (first | refine gp 2450 ?_ | refine os ?_ | refine gt 2450 ?_)
  refine oe 2500 ?_
  iterate 7 (first | refine gp 3150 ?_ | refine os ?_ | refine gt 3150 ?_)
  refine oe 3200 ?_
  refine on ?_
  refine pr [0, 1, 3, 5, 23, 40] ?_
  refine cd ?_ ?_
  · intro h23_1
    have h2k : xk = 2 := (show ((i : Int) < 0 ∨ xk = 2) by simpa using h23_1).resolve_left (by omega)
    refine sq ?_
    refine rg 3000 ?_
    refine pr [0, 1, 3, 5, 24, 40] ?_
    refine k_ret ?_
    show retQ _ _ _ _ _ _ _
    simp [*]
  · intro h23_1
    have h2k : ¬ xk = 2 := by simpa using h23_1
    refine k_skip ?_
    refine sq ?_
    refine rc 4000 ?_
    iterate 9 (first | refine gp 4850 ?_ | refine os ?_ | refine gt 4850 ?_)
    refine og (fun hg => spec130 xk pk pn pq pe pc pw pa pg xn xl xr xt xb) ?_
    first | refine gp 5050 ?_ | refine os ?_ | refine gt 5050 ?_
    refine oe 5100 ?_
    refine on ?_
    refine pr [4, 5] ?_
    refine k_ret ?_
    show retQ _ _ _ _ _ _ _
    simp [*]

theorem spec73 (ns : List Nd) (q : Prt) : Flat.Sp Try.prog 73 [.p (.ps (ns.map Nd.row)), .agg [vv (.int .i64 q.a), vv (.int .i64 q.b)]] [] (vv (.bool (reachN ns q))) [] := by
  obtain ⟨a, b⟩ := q
  unfold reachN
  by_cases h0 : a < 0
  · rw [if_pos (by simp [h0])]
    exact spec73_n ns a b h0
  · by_cases h1 : (ns.length : Int) ≤ a
    · rw [if_pos (by simp [h1])]
      exact spec73_b ns a b (by simpa using h0) h1
    · rw [if_neg (by simp [h0, h1])]
      obtain ⟨i, rfl⟩ := Int.eq_ofNat_of_zero_le (by omega : 0 ≤ a)
      have hlt : i < ns.length := by omega
      simp only [Int.toNat_natCast]
      have hx : ns[i]? = some ns[i] := by simp [hlt]
      rw [hx]
      obtain ⟨x, hxx⟩ : ∃ x, ns[i] = x := ⟨_, rfl⟩
      rw [hxx] at hx ⊢
      obtain ⟨xk, ⟨pk, pn, pq, pe, pc, pw, pa, pg⟩, xn, xl, xr, xt, xb⟩ := x
      exact spec73_i ns i b xk pk pn pq pe pc pw pa pg xn xl xr xt xb hx

def badR (ns : List Nd) (q : Prt) : Bool := !reachN ns q
attribute [local simp] prow badR in
theorem spec72 (ns : List Nd) (q : Prt) : Flat.Sp Try.prog 72 [.agg [vv (.int .i64 q.a), vv (.int .i64 q.b)], .ptr 0 0] [(.var 0, .n 1), (.cell 0 0, .av (.p (.ps (ns.map Nd.row))))] (vv (.bool (badR ns q))) [(.var 0, .n 1), (.cell 0 0, .av (.p (.ps (ns.map Nd.row))))] := by
  refine sk Try.func72 ?_
  intro F G hn hG
  refine sq ?_
  refine rg 1000 ?_
  refine pr [1, 8] ?_
  refine sq ?_
  refine rc 2000 ?_
  refine oc id (spec73 ns q) ?_
  refine oe 2100 ?_
  refine on ?_
  refine pr [3, 4] ?_
  refine k_ret ?_
  show retQ _ _ _ _ _ _ _
  simp [*]

attribute [local simp] prow in
theorem spec133 (ns : List Nd) (ps : List Prt) (hlen : ps.length ≤ Flat.lim) : Flat.Sp Try.prog 133 [.p (.ps (ps.map prow)), .fn (.func 72) [.ptr 0 0]] [(.var 0, .n 1), (.cell 0 0, .av (.p (.ps (ns.map Nd.row))))] (vv (.int .i64 (firstP (badR ns) ps 0))) [(.var 0, .n 1), (.cell 0 0, .av (.p (.ps (ns.map Nd.row))))] := by
  refine sk Try.func133 ?_
  intro F G hn hG
  refine sq ?_
  refine rg 1000 ?_
  refine pr [0, 2, 4, 19] ?_
  refine sq ?_
  refine sq ?_
  refine rg 2000 ?_
  refine pr [0, 2, 4, 6, 7, 19] ?_
  refine k_block ?_
  refine k_loop (fun n l => ∃ i, i + n = ps.length ∧ (firstP (badR ns) ps 0 = firstP (badR ns) (ps.drop i) i) ∧ l = [(.tmp 0, .av (.p (.ps (ps.map prow)))), (.tmp 1, .av (.fn (.func 72) [.ptr 0 0])), (.tmp 7, .av (vv (.int .i64 ps.length))), (.tmp 8, .av (vv (.int .i64 i))), (.var 0, .n 1), (.cell 0 0, .av (.p (.ps (ns.map Nd.row))))]) (ps.length) hG ⟨_, ⟨by simp, by simp, by simp⟩, 0, by simp, rfl, rfl⟩ ?_
  rintro n _ ⟨i, hin, hfa, rfl⟩
  have hwi : i < Flat.lim → IntKind.i64.wrap ((i : Int) + 1) = (i : Int) + 1 := wrap_succ
  refine sq ?_
  refine rg 3000 ?_
  refine pr [0, 2, 4, 6, 7, 19] ?_
  refine sq ?_
  refine cd ?_ ?_
  · intro h9_1
    have hlt : i < ps.length := by simpa using h9_1
    obtain ⟨x, hxe⟩ : ∃ x, ps[i] = x := ⟨_, rfl⟩
    have hx : ps[i]? = some x := by simp [hlt, hxe]
    have hfd := firstP_drop (p := (badR ns)) hx
    have hwi := hwi (by omega)
    refine k_skip ?_
    refine sq ?_
    refine k_block ?_
    refine sq ?_
    refine rg 4000 ?_
    refine pr [0, 2, 4, 6, 7, 19] ?_
    refine sq ?_
    refine rc 5000 ?_
    refine oc id (spec72 ns x) ?_
    refine on ?_
    refine pr [0, 2, 4, 6, 7, 19] ?_
    refine cd ?_ ?_
    · intro h16_2
      have hr : (badR ns) x = true := by simpa using h16_2
      refine sq ?_
      refine rg 6000 ?_
      refine pr [0, 2, 4, 6, 7, 19] ?_
      refine k_ret ?_
      show retQ _ _ _ _ _ _ _
      simp [*]
    · intro h16_2
      have hr : (badR ns) x = false := by simpa using h16_2
      refine k_skip ?_
      refine k_nil ?_
      show AK _ _ _ _ _ _
      refine rg 7000 ?_
      refine k_nil ?_
      refine ⟨n - 1, by omega, _, ⟨?_, ?_, ?_⟩, i + 1, by omega, by rw [hfa, hfd, hr, if_neg (by simp)], rfl⟩ <;> simp [*]
  · intro h9_1
    have hge : ps.length ≤ i := by simpa using h9_1
    have hfe : firstP (badR ns) (ps.drop i) i = -1 := by rw [List.drop_eq_nil_of_le hge]; rfl
    refine k_exit ?_
    show AK _ _ _ _ _ _
    refine sq ?_
    refine rg 8000 ?_
    refine pr [4, 5] ?_
    refine k_ret ?_
    show retQ _ _ _ _ _ _ _
    simp [*]

attribute [local simp] firstP_any in
theorem spec75 (ns : List Nd) (ps : List Prt) (hlen : ps.length ≤ Flat.lim) : Flat.Sp Try.prog 75 [.p (.ps (ps.map prow)), .fn (.func 72) [.ptr 0 0]] [(.var 0, .n 1), (.cell 0 0, .av (.p (.ps (ns.map Nd.row))))] (vv (.bool (ps.any (badR ns)))) [(.var 0, .n 1), (.cell 0 0, .av (.p (.ps (ns.map Nd.row))))] := by
  refine sk Try.func75 ?_
  intro F G hn hG
  refine sq ?_
  refine rg 1000 ?_
  refine pr [0, 2, 4, 9] ?_
  refine sq ?_
  refine rc 2000 ?_
  refine oc id (spec133 ns ps hlen) ?_
  refine oe 2100 ?_
  refine on ?_
  refine pr [4, 5] ?_
  refine k_ret ?_
  show retQ _ _ _ _ _ _ _
  simp [*]

end Go.Proofs
end
section
set_option linter.unusedVariables false
set_option linter.unusedSimpArgs false
namespace Go.Proofs
open Go.Flat
set_option maxRecDepth 100000
set_option linter.unusedSimpArgs false
set_option linter.unusedVariables false
attribute [local simp] Bool.and_assoc Bool.or_assoc evalG evalX efD skF guardG guardL isCall stepL evalOp ev evs lk tmpsL app AV.ok fresh vv putCells insV ins del putL place Go.Flat.look fillC fillR getCells loadF storeF binF scalarBin intBin strBin isShift shiftBin unF lenF maxF minF rowsF appendF builtinF idxF natOf sliceP sliceF optEv Flat.cut overwrite toPV toPVs constAV scalarC scalarCs AV.cells TI.isAgg allSome andAll scalarEq buildable Go.Flat.lim retQ resL resAll resOne PartOf noTmp closedIn refs refs.refsL isSomeV hasB ids leA leA.leL renA renA.renL callB refsAll backL dropIds renS LiesAt injB ownB freshB memN locId insAll leA_refl leL_refl okS frzS frzA frzA.frzL evalD feet fine updCells cellsFrom memP footRf footWf noTmpU updIds opOps opIds idsA footR footW guardTs opTs dstTs callR callW renLoc renC inBlockQ thenQ Value.oneCell' IntKind.bits IntKind.signed PV.up toPH toPHs

attribute [local simp] Pl.row_eq
def Nd.right (x : Nd) : Bool := match x with
  | ⟨xk, .mk pk pn pq pe pc pw pa pg, xn, xl, xr, _, xb⟩ => rightN xk xn xl xr xb.length (zeroP pk pn pq.length pe.length pc.length pw.length pa pg) (madeP pk pn pq.length pe pc pw pa pg)
/-- Whether a node at some place is wrong. -/
def badN (ns : List Nd) (i : Nat) (x : Nd) : Bool := !x.right || (((x.k == 5) != ((i : Int) == 0)) || (x.to.any (badR ns) || x.back.any (badR ns)))
def anyBad (ns : List Nd) : List Nd → Nat → Bool
  | [], _ => false
  | x :: r, i => badN ns i x || anyBad ns r (i + 1)
theorem anyBad_drop {ns l : List Nd} {i : Nat} {x : Nd} (h : l[i]? = some x) : anyBad ns (l.drop i) i = (badN ns i x || anyBad ns (l.drop (i + 1)) (i + 1)) := by
  obtain ⟨h1, h2⟩ := List.getElem?_eq_some_iff.1 h
  rw [List.drop_eq_getElem_cons h1, h2]
  rfl
def checkG (ns : List Nd) : Int := if ((ns.length : Int) == 0) || decide ((129 : Int) < ns.length) then 4 else if anyBad ns ns 0 then 4 else 0
/-- All lists of a node are short. -/
def Nd.bnd (x : Nd) : Prop := match x with
  | ⟨_, .mk _ _ pq pe pc pw _ _, _, _, _, xt, xb⟩ => pq.length ≤ Bnd ∧ pe.length ≤ Bnd ∧ pc.length ≤ Bnd ∧ pw.length ≤ Bnd ∧ xt.length ≤ Flat.lim ∧ xb.length ≤ Flat.lim

attribute [local simp] Nd.row in
theorem spec38 (ns : List Nd) (hb : ∀ x ∈ ns, x.bnd) : Flat.Sp Try.prog 38 [.p (.ps (ns.map Nd.row))] [] (vv (.int .i64 (checkG ns))) [] := by
  refine sk Try.func38 ?_
  intro F G hn hG
  refine sq ?_
  refine rg 1000 ?_
  refine pr [1, 46] ?_
  refine sq ?_
  refine sq ?_
  refine cv [(.tmp 13, vv (.bool (((ns.length : Int) == 0) || decide ((129 : Int) < ns.length))))] ?_ ?_
  · skip
    refine rc 2000 ?_
    iterate 3 (first | refine gp 2250 ?_ | refine os ?_ | refine gt 2250 ?_)
    refine oe 2300 ?_
    refine on ?_
    refine k_nil ?_
    refine ⟨rfl, ?_, ?_, ?_⟩ <;> simp [*]
  refine pr [1, 6, 13, 46] ?_
  refine cd ?_ ?_
  · intro h13_1
    have hfin : checkG ns = 4 := if_pos h13_1
    refine sq ?_
    refine rg 3000 ?_
    refine pr [1, 6, 14, 46] ?_
    refine k_ret ?_
    show retQ _ _ _ _ _ _ _
    simp [*]
  · intro h13_1
    have hfin0 : checkG ns = if anyBad ns ns 0 then 4 else 0 := if_neg (by rw [h13_1]; decide)
    have hnl : ns.length ≤ 129 := by simp at h13_1; omega
    refine k_skip ?_
    refine sq ?_
    refine rg 4000 ?_
    refine pr [1, 6, 15, 46] ?_
    refine sq ?_
    refine sq ?_
    refine rg 5000 ?_
    refine pr [2, 6, 15, 46] ?_
    refine k_block ?_
    refine k_loop (fun n l => ∃ i, i + n = ns.length ∧ (anyBad ns (ns.drop i) i = anyBad ns ns 0) ∧ l = [(.tmp 3, .av (.fn (.func 72) [.ptr 1000 0])), (.tmp 15, .av (.p (.ps (ns.map Nd.row)))), (.tmp 16, .av (vv (.int .i64 ns.length))), (.tmp 17, .av (vv (.int .i64 i))), (.var 1000, .n 1), (.cell 1000 0, .av (.p (.ps (ns.map Nd.row))))]) (ns.length) hG ⟨_, ⟨by simp, by simp, by simp⟩, 0, by simp, rfl, rfl⟩ ?_
    rintro n _ ⟨i, hin, hfa, rfl⟩
    have hcm := hfa
    refine sq ?_
    refine rg 6000 ?_
    refine pr [2, 6, 15, 46] ?_
    refine sq ?_
    refine cd ?_ ?_
    · intro h18_2
      have hlt : i < ns.length := by simpa using h18_2
      obtain ⟨x, hxe⟩ : ∃ x, ns[i] = x := ⟨_, rfl⟩
      have hx : ns[i]? = some x := by simp [hlt, hxe]
      have hw := wrap_succ (show i < Flat.lim by simp only [Flat.lim]; omega)
      have hbx := hb x (List.mem_of_getElem? hx)
      rw [anyBad_drop hx] at hcm
      obtain ⟨xk, ⟨pk, pn, pq, pe, pc, pw, pa, pg⟩, xn, xl, xr, xt, xb⟩ := x
      obtain ⟨b1, b2, b3, b4, b5, b6⟩ := hbx
      simp only [badN, Nd.right] at hcm
      refine k_skip ?_
      refine sq ?_
      refine k_block ?_
      refine sq ?_
      refine rg 7000 ?_
      refine pr [2, 6, 15, 46] ?_
      refine sq ?_
      refine cv [(.tmp 44, vv (.bool (!(rightN xk xn xl xr xb.length (zeroP pk pn pq.length pe.length pc.length pw.length pa pg) (madeP pk pn pq.length pe pc pw pa pg)) || (((xk == 5) != ((i : Int) == 0)) || (xt.any (badR ns) || xb.any (badR ns))))))] ?_ ?_
      · skip
        rcases h0 : ((rightN xk xn xl xr xb.length (zeroP pk pn pq.length pe.length pc.length pw.length pa pg) (madeP pk pn pq.length pe pc pw pa pg)) : Bool) with _ | _
        · skip
          refine rc 8000 ?_
          refine oc id (spec74 xk pk pn pq pe pc pw pa pg xn xl xr xt xb b1 b2 b3 b4) ?_
          refine oe 8100 ?_
          iterate 6 (first | refine gp 8650 ?_ | refine os ?_ | refine gt 8650 ?_)
          refine oe 8700 ?_
          iterate 3 (first | refine gp 8950 ?_ | refine os ?_ | refine gt 8950 ?_)
          refine os ?_
          refine oe 9100 ?_
          iterate 3 (first | refine gp 9350 ?_ | refine os ?_ | refine gt 9350 ?_)
          refine os ?_
          refine oe 9500 ?_
          refine on ?_
          refine k_nil ?_
          refine ⟨rfl, ?_, ?_, ?_⟩ <;> simp [*]
        · skip
          rcases h1 : (((xk == 5) == ((i : Int) == 0)) : Bool) with _ | _
          · skip
            have h1e : ((xk == 5) != ((i : Int) == 0)) = true := by rw [bne, h1]; rfl
            refine rc 1008000 ?_
            refine oc id (spec74 xk pk pn pq pe pc pw pa pg xn xl xr xt xb b1 b2 b3 b4) ?_
            refine oe 1008100 ?_
            iterate 6 (first | refine gp 1008650 ?_ | refine os ?_ | refine gt 1008650 ?_)
            refine oe 1008700 ?_
            iterate 3 (first | refine gp 1008950 ?_ | refine os ?_ | refine gt 1008950 ?_)
            refine os ?_
            refine oe 1009100 ?_
            iterate 3 (first | refine gp 1009350 ?_ | refine os ?_ | refine gt 1009350 ?_)
            refine os ?_
            refine oe 1009500 ?_
            refine on ?_
            refine k_nil ?_
            refine ⟨rfl, ?_, ?_, ?_⟩ <;> simp [*]
          · skip
            rcases h2 : (xt.any (badR ns) : Bool) with _ | _
            · skip
              have h1e : (xk == 5) = ((i : Int) == 0) := by simpa using h1
              refine rc 2008000 ?_
              refine oc id (spec74 xk pk pn pq pe pc pw pa pg xn xl xr xt xb b1 b2 b3 b4) ?_
              refine oe 2008100 ?_
              iterate 6 (first | refine gp 2008650 ?_ | refine os ?_ | refine gt 2008650 ?_)
              refine oe 2008700 ?_
              iterate 3 (first | refine gp 2008950 ?_ | refine os ?_ | refine gt 2008950 ?_)
              refine oc (fun _ => 1000) (spec75 ns xt b5) ?_
              refine oe 2009100 ?_
              iterate 3 (first | refine gp 2009350 ?_ | refine os ?_ | refine gt 2009350 ?_)
              refine oc (fun _ => 1000) (spec75 ns xb b6) ?_
              refine oe 2009500 ?_
              refine on ?_
              refine k_nil ?_
              refine ⟨rfl, ?_, ?_, ?_⟩ <;> simp [*]
            · skip
              have h1e : (xk == 5) = ((i : Int) == 0) := by simpa using h1
              refine rc 3008000 ?_
              refine oc id (spec74 xk pk pn pq pe pc pw pa pg xn xl xr xt xb b1 b2 b3 b4) ?_
              refine oe 3008100 ?_
              iterate 6 (first | refine gp 3008650 ?_ | refine os ?_ | refine gt 3008650 ?_)
              refine oe 3008700 ?_
              iterate 3 (first | refine gp 3008950 ?_ | refine os ?_ | refine gt 3008950 ?_)
              refine oc (fun _ => 1000) (spec75 ns xt b5) ?_
              refine oe 3009100 ?_
              iterate 3 (first | refine gp 3009350 ?_ | refine os ?_ | refine gt 3009350 ?_)
              refine os ?_
              refine oe 3009500 ?_
              refine on ?_
              refine k_nil ?_
              refine ⟨rfl, ?_, ?_, ?_⟩ <;> simp [*]
      refine pr [2, 6, 15, 46] ?_
      refine cd ?_ ?_
      · intro h44_3
        rw [h44_3] at hcm
        have hab : anyBad ns ns 0 = true := hcm.symm
        refine sq ?_
        refine rg 9000 ?_
        refine pr [2, 6, 15, 46] ?_
        refine k_ret ?_
        show retQ _ _ _ _ _ _ _
        simp [*]
      · intro h44_3
        rw [h44_3] at hcm
        have hnext : anyBad ns (ns.drop (i + 1)) (i + 1) = anyBad ns ns 0 := hcm
        refine k_skip ?_
        refine k_nil ?_
        show AK _ _ _ _ _ _
        refine rg 10000 ?_
        refine k_nil ?_
        refine ⟨n - 1, by omega, _, ⟨?_, ?_, ?_⟩, i + 1, by omega, hnext, rfl⟩ <;> simp [*]
    · intro h18_2
      have hge : ns.length ≤ i := by simpa using h18_2
      obtain rfl : i = ns.length := by omega
      have hcm2 : anyBad ns ns 0 = false := by rw [← hcm, List.drop_eq_nil_of_le (Nat.le_refl _)]; rfl
      have hfin : checkG ns = 0 := by rw [hfin0, hcm2]; rfl
      refine k_exit ?_
      show AK _ _ _ _ _ _
      refine sq ?_
      refine rg 11000 ?_
      refine pr [2, 3] ?_
      refine k_ret ?_
      show retQ _ _ _ _ _ _ _
      simp [*]

end Go.Proofs
end
section
set_option linter.unusedVariables false
set_option linter.unusedSimpArgs false
namespace Go.Proofs
open Go.Flat
set_option maxRecDepth 100000
set_option linter.unusedSimpArgs false
set_option linter.unusedVariables false
attribute [local simp] Bool.and_assoc Bool.or_assoc evalG evalX efD skF guardG guardL isCall stepL evalOp ev evs lk tmpsL app AV.ok fresh vv putCells insV ins del putL place Go.Flat.look fillC fillR getCells loadF storeF binF scalarBin intBin strBin isShift shiftBin unF lenF maxF minF rowsF appendF builtinF idxF natOf sliceP sliceF optEv Flat.cut overwrite toPV toPVs constAV scalarC scalarCs AV.cells TI.isAgg allSome andAll scalarEq buildable Go.Flat.lim retQ resL resAll resOne PartOf noTmp closedIn refs refs.refsL isSomeV hasB ids leA leA.leL renA renA.renL callB refsAll backL dropIds renS LiesAt injB ownB freshB memN locId insAll leA_refl leL_refl okS frzS frzA frzA.frzL evalD feet fine updCells cellsFrom memP footRf footWf noTmpU updIds opOps opIds idsA footR footW guardTs opTs dstTs callR callW renLoc renC inBlockQ thenQ Value.oneCell' IntKind.bits IntKind.signed PV.up toPH toPHs

attribute [local simp] prow in
theorem spec121 (ps : List Prt) (hl : ps.length ≤ Bnd) : Flat.Sp Try.prog 121 [.p (.ps (ps.map prow))] [] (.p (.ps (ps.map prow))) [] := by
  refine sk Try.func121 ?_
  intro F G hn hG
  have hl0 : ps.length ≤ 140737488355328 := by simp only [Bnd] at hl; omega
  have hl1 : ps.length * 16 ≤ 140737488355328 := by simp only [Bnd] at hl; omega
  have htk : (ps.map prow).take ps.length = ps.map prow := List.take_of_length_le (by simp)
  refine sq ?_
  refine rg 1000 ?_
  refine pr [0, 1, 2, 8] ?_
  refine sq ?_
  refine sq ?_
  refine rc 2000 ?_
  refine nc fun b4 hnil => ?_
  refine on ?_
  refine pr [0, 1, 2, 3, 4, 8] ?_
  refine cd ?_ ?_
  · intro h4_1
    have hts : ps = [] := by simpa using hnil h4_1
    subst hts
    refine sq ?_
    refine rg 3000 ?_
    refine pr [0, 1, 2, 3, 5, 8] ?_
    refine k_ret ?_
    show retQ _ _ _ _ _ _ _
    simp [*]
  · intro h4_1
    refine k_skip ?_
    refine sq ?_
    refine rg 4000 ?_
    refine pr [2, 3] ?_
    refine fz 4002 ?_
    refine k_ret ?_
    show retQ _ _ _ _ _ _ _
    simp [*]

attribute [local simp] irow in
theorem spec171 (ps : List Int) (hl : ps.length ≤ Bnd) : Flat.Sp Try.prog 171 [.p (.ps (ps.map irow))] [] (.p (.ps (ps.map irow))) [] := by
  refine sk Try.func171 ?_
  intro F G hn hG
  have hl0 : ps.length ≤ 140737488355328 := by simp only [Bnd] at hl; omega
  have hl1 : ps.length * 8 ≤ 140737488355328 := by simp only [Bnd] at hl; omega
  have htk : (ps.map irow).take ps.length = ps.map irow := List.take_of_length_le (by simp)
  refine sq ?_
  refine rg 1000 ?_
  refine pr [0, 1, 2, 8] ?_
  refine sq ?_
  refine sq ?_
  refine rc 2000 ?_
  refine nc fun b4 hnil => ?_
  refine on ?_
  refine pr [0, 1, 2, 3, 4, 8] ?_
  refine cd ?_ ?_
  · intro h4_1
    have hts : ps = [] := by simpa using hnil h4_1
    subst hts
    refine sq ?_
    refine rg 3000 ?_
    refine pr [0, 1, 2, 3, 5, 8] ?_
    refine k_ret ?_
    show retQ _ _ _ _ _ _ _
    simp [*]
  · intro h4_1
    refine k_skip ?_
    refine sq ?_
    refine rg 4000 ?_
    refine pr [2, 3] ?_
    refine fz 4002 ?_
    refine k_ret ?_
    show retQ _ _ _ _ _ _ _
    simp [*]

attribute [local simp] E.av in
theorem spec170_step (eo ec : Int) (ev : Val) (ek : List E) (hb : ek.length ≤ 3) (ih : ∀ x ∈ ek, Flat.Sp Try.prog 170 [x.av] [] x.av []) : Flat.Sp Try.prog 170 [(E.mk eo ec ev ek).av] [] ((E.mk eo ec ev ek).av) [] := by
  refine sk Try.func170 ?_
  intro F G hn hG
  have hbl : ek.length ≤ Flat.lim := by simp only [Flat.lim]; omega
  refine sq ?_
  refine rg 1000 ?_
  refine pr [1, 4, 5, 22] ?_
  refine sq ?_
  refine rg 2000 ?_
  refine pr [1, 4, 5, 22] ?_
  refine sq ?_
  refine sq ?_
  refine rg 3000 ?_
  refine pr [1, 4, 5, 6, 7, 22] ?_
  refine k_block ?_
  refine ow (.tmp 3) 900 27 6 ?_
  refine k_loop (fun n l => ∃ i, i + n = ek.length ∧ (True) ∧ l = [(.tmp 1, .av (.ptr 1000 0)), (.tmp 2, .av (.ptr 1001 0)), (.tmp 3, .av (.sl 900 i 0 i)), (.tmp 7, .av (.p (.ps (ek.map E.row)))), (.tmp 8, .av (vv (.int .i64 ek.length))), (.tmp 9, .av (vv (.int .i64 i))), (.var 1000, .n 6), (.cell 1000 0, .av (vv (.int .u8 eo))), (.cell 1000 1, .av (vv (.int .i64 ec))), (.cell 1000 2, .av (vv (.bool ev.t))), (.cell 1000 3, .av (vv (.int .i64 ev.n))), (.cell 1000 4, .av (vv (.string ev.s))), (.cell 1000 5, .av (.p (.ps (ek.map E.row)))), (.var 1001, .n 6), (.cell 1001 0, .av (vv (.int .u8 0))), (.cell 1001 1, .av (vv (.int .i64 0))), (.cell 1001 2, .av (vv (.bool false))), (.cell 1001 3, .av (vv (.int .i64 0))), (.cell 1001 4, .av (vv (.string ⟨#[]⟩))), (.cell 1001 5, .av (.psf [])), (.arr 900, .arr 27 6 ((ek.map E.row).take i) 0)]) (ek.length) hG ⟨_, ⟨by simp, by simp, by simp⟩, 0, by simp, trivial, rfl⟩ ?_
  rintro n _ ⟨i, hin, hfa, rfl⟩
  refine sq ?_
  refine rg 4000 ?_
  refine pr [1, 4, 5, 6, 7, 22] ?_
  refine sq ?_
  refine cd ?_ ?_
  · intro h10_1
    have hlt : i < ek.length := by simpa using h10_1
    obtain ⟨x, hxe⟩ : ∃ x, ek[i] = x := ⟨_, rfl⟩
    have hx : ek[i]? = some x := by simp [hlt, hxe]
    have hw := wrap_succ (show i < Flat.lim by omega)
    have hmin : min i ek.length = i := by omega
    have hlim : (i + 1) * 72 ≤ 140737488355328 := by simp only [Flat.lim] at *; omega
    have hlim1 : i + 1 ≤ 140737488355328 := by simp only [Flat.lim] at *; omega
    have htm0 := tmap_succ (f := E.row) hx
    have hx2 := ih x (List.mem_of_getElem? hx)
    obtain ⟨xo, xc, xv, xk⟩ := x
    refine k_skip ?_
    refine sq ?_
    refine k_block ?_
    refine sq ?_
    refine rg 5000 ?_ (h := by simp [*, E.row_eq]; exact is_rfl _)
    refine pr [1, 4, 5, 6, 7, 22] ?_
    refine rc 6000 ?_
    refine oc id ((show Flat.Sp Try.prog 170 [(E.mk xo xc xv xk).av] [] (E.mk xo xc xv xk).av [] from hx2)) ?_
    refine oe 6100 ?_
    refine on ?_
    refine k_nil ?_
    show AK _ _ _ _ _ _
    refine rg 7000 ?_
    refine k_nil ?_
    refine ⟨n - 1, by omega, _, ⟨?_, ?_, ?_⟩, i + 1, by omega, trivial, rfl⟩ <;> simp [*, E.row_eq]
  · intro h10_1
    have hge : ek.length ≤ i := by simpa using h10_1
    obtain rfl : i = ek.length := by omega
    have htm0 := tmap_all (f := E.row) (Nat.le_refl ek.length)
    refine fz 900 ?_
    have htk : ek.take ek.length = ek := List.take_length
    refine k_exit ?_
    show AK _ _ _ _ _ _
    refine sq ?_
    refine rg 8000 ?_
    refine pr [1, 3, 21, 22] ?_
    refine sq ?_
    refine rg 9000 ?_
    refine pr [2, 3] ?_
    refine k_ret ?_
    show retQ _ _ _ _ _ _ _
    simp [*]

theorem spec170 : ∀ e : E, e.good → Flat.Sp Try.prog 170 [e.av] [] e.av [] := by
  refine E.ind fun o c v kids ih hg => ?_
  rw [E.good] at hg
  exact spec170_step o c v kids (okE_len hg.1) fun x hx => ih x hx (E.goodL_mem hg.2 x hx)

attribute [local simp] Pl.av E.av in
theorem spec123 (k m : Int) (ex : List E) (cols wth : List Int) (agg rds : Int) (hbe : ex.length ≤ Bnd) (hbc : cols.length ≤ Bnd) (hbw : wth.length ≤ Bnd) (hge : ∀ e ∈ ex, e.good) : Flat.Sp Try.prog 123 [(Pl.mk k m [] ex cols wth agg rds).av] [] ((Pl.mk k m [] ex cols wth agg rds).av) [] := by
  refine sk Try.func123 ?_
  intro F G hn hG
  have hbl : ex.length ≤ Flat.lim := Bnd_lim hbe
  simp only [Bnd] at hbe
  refine sq ?_
  refine rg 1000 ?_
  refine pr [1, 4, 5, 7, 8, 48] ?_
  refine sq ?_
  refine rg 2000 ?_
  refine pr [1, 4, 5, 7, 8, 48] ?_
  refine sq ?_
  refine sq ?_
  refine rg 3000 ?_
  refine pr [1, 4, 5, 7, 8, 9, 10, 48] ?_
  refine k_block ?_
  refine k_rounds 1 ?_
  show AK _ _ _ _ _ _
  refine sq ?_
  refine rg 4000 ?_
  refine pr [1, 4, 5, 7, 8, 9, 10, 48] ?_
  refine sq ?_
  refine ce ?_
  refine k_exit ?_
  show AK _ _ _ _ _ _
  refine sq ?_
  refine rg 8000 ?_
  refine pr [1, 4, 6, 7, 8, 9, 22, 48] ?_
  refine sq ?_
  refine sq ?_
  refine rg 9000 ?_
  refine pr [1, 4, 6, 7, 8, 9, 23, 48] ?_
  refine k_block ?_
  refine ow (.tmp 6) 900 27 6 ?_
  refine k_loop (fun n l => ∃ i, i + n = ex.length ∧ (True) ∧ l = [(.tmp 1, .av (.ptr 1000 0)), (.tmp 2, .av (.ptr 1001 0)), (.tmp 3, .av (.psf [])), (.tmp 6, .av (.sl 900 i 0 i)), (.tmp 23, .av (.p (.ps (ex.map E.row)))), (.tmp 24, .av (vv (.int .i64 ex.length))), (.tmp 25, .av (vv (.int .i64 i))), (.var 1000, .n 8), (.cell 1000 0, .av (vv (.int .u8 k))), (.cell 1000 1, .av (vv (.int .i64 m))), (.cell 1000 2, .av (.p (.ps []))), (.cell 1000 3, .av (.p (.ps (ex.map E.row)))), (.cell 1000 4, .av (.p (.ps (cols.map irow)))), (.cell 1000 5, .av (.p (.ps (wth.map irow)))), (.cell 1000 6, .av (vv (.int .u8 agg))), (.cell 1000 7, .av (vv (.int .i64 rds))), (.var 1001, .n 8), (.cell 1001 0, .av (vv (.int .u8 0))), (.cell 1001 1, .av (vv (.int .i64 0))), (.cell 1001 2, .av (.psf [])), (.cell 1001 3, .av (.psf [])), (.cell 1001 4, .av (.psf [])), (.cell 1001 5, .av (.psf [])), (.cell 1001 6, .av (vv (.int .u8 0))), (.cell 1001 7, .av (vv (.int .i64 0))), (.arr 900, .arr 27 6 ((ex.map E.row).take i) 0)]) (ex.length) hG ⟨_, ⟨by simp, by simp, by simp⟩, 0, by simp, trivial, rfl⟩ ?_
  rintro n _ ⟨i, hin, hfa, rfl⟩
  refine sq ?_
  refine rg 10000 ?_
  refine pr [1, 4, 6, 7, 8, 9, 23, 48] ?_
  refine sq ?_
  refine cd ?_ ?_
  · intro h26_1
    have hlt : i < ex.length := by simpa using h26_1
    obtain ⟨x, hxe⟩ : ∃ x, ex[i] = x := ⟨_, rfl⟩
    have hx : ex[i]? = some x := by simp [hlt, hxe]
    have hw := wrap_succ (show i < Flat.lim by omega)
    have hmin : min i ex.length = i := by omega
    have hlim : (i + 1) * 72 ≤ 140737488355328 := by simp only [Flat.lim] at *; omega
    have hlim1 : i + 1 ≤ 140737488355328 := by simp only [Flat.lim] at *; omega
    have htm0 := tmap_succ (f := E.row) hx
    have hx2 := spec170 x (hge x (List.mem_of_getElem? hx))
    obtain ⟨xo, xc, xv, xk⟩ := x
    refine k_skip ?_
    refine sq ?_
    refine k_block ?_
    refine sq ?_
    refine rg 11000 ?_ (h := by simp [*, E.row_eq]; exact is_rfl _)
    refine pr [1, 4, 6, 7, 8, 9, 23, 48] ?_
    refine rc 12000 ?_
    refine oc id ((show Flat.Sp Try.prog 170 [(E.mk xo xc xv xk).av] [] (E.mk xo xc xv xk).av [] from hx2)) ?_
    refine oe 12100 ?_
    refine on ?_
    refine k_nil ?_
    show AK _ _ _ _ _ _
    refine rg 13000 ?_
    refine k_nil ?_
    refine ⟨n - 1, by omega, _, ⟨?_, ?_, ?_⟩, i + 1, by omega, trivial, rfl⟩ <;> simp [*, E.row_eq]
  · intro h26_1
    have hge : ex.length ≤ i := by simpa using h26_1
    obtain rfl : i = ex.length := by omega
    have htm0 := tmap_all (f := E.row) (Nat.le_refl ex.length)
    refine fz 900 ?_
    have htk : ex.take ex.length = ex := List.take_length
    refine k_exit ?_
    show AK _ _ _ _ _ _
    refine sq ?_
    refine dr ?_
    refine de 14000 ?_
    refine dc id (spec171 cols hbc) ?_
    refine de 14100 ?_
    refine dc id (spec171 wth hbw) ?_
    refine de 14200 ?_
    refine dn ?_
    refine pr [1, 3, 47, 48] ?_
    refine sq ?_
    refine rg 15000 ?_
    refine pr [2, 3] ?_
    refine k_ret ?_
    show retQ _ _ _ _ _ _ _
    simp [*]

end Go.Proofs
end
section
set_option linter.unusedVariables false
set_option linter.unusedSimpArgs false
namespace Go.Proofs
open Go.Flat
set_option maxRecDepth 100000
set_option linter.unusedSimpArgs false
set_option linter.unusedVariables false
attribute [local simp] Bool.and_assoc Bool.or_assoc evalG evalX efD skF guardG guardL isCall stepL evalOp ev evs lk tmpsL app AV.ok fresh vv putCells insV ins del putL place Go.Flat.look fillC fillR getCells loadF storeF binF scalarBin intBin strBin isShift shiftBin unF lenF maxF minF rowsF appendF builtinF idxF natOf sliceP sliceF optEv Flat.cut overwrite toPV toPVs constAV scalarC scalarCs AV.cells TI.isAgg allSome andAll scalarEq buildable Go.Flat.lim retQ resL resAll resOne PartOf noTmp closedIn refs refs.refsL isSomeV hasB ids leA leA.leL renA renA.renL callB refsAll backL dropIds renS LiesAt injB ownB freshB memN locId insAll leA_refl leL_refl okS frzS frzA frzA.frzL evalD feet fine updCells cellsFrom memP footRf footWf noTmpU updIds opOps opIds idsA footR footW guardTs opTs dstTs callR callW renLoc renC inBlockQ thenQ Value.oneCell' IntKind.bits IntKind.signed PV.up toPH toPHs

attribute [local simp] GS Nd.hrow Pl.row_eq hrows_snoc tblN_snoc
theorem spec66 (ns : List Nd) (nd : Nat) (A : List Int) (k pk pn : Int) (pq : List Pl) (pe : List E) (pc pw : List Int) (pa pg n lo rd : Int) (to : List Prt) (hto : to.length ≤ Bnd) (hns : ns.length ≤ 300) (hnd : nd ≤ A.length) : Flat.Sp Try.prog 66 [.ptr 3 0, .agg [vv (.int .u8 k), vv (.int .u8 pk), vv (.int .i64 pn), .p (.ps (pq.map Pl.row)), .p (.ps (pe.map E.row)), .p (.ps (pc.map irow)), .p (.ps (pw.map irow)), vv (.int .u8 pa), vv (.int .i64 pg), vv (.int .i64 n), vv (.int .i64 lo), vv (.int .i64 rd), .psf [], .psf []], .p (.ps (to.map prow))] (GS ns nd A) (vv (.int .i64 ns.length)) (GS (ns ++ [⟨k, .mk pk pn pq pe pc pw pa pg, n, lo, rd, to, []⟩]) nd A) := by
  refine sk Try.func66 ?_ (hs := by simp)
  intro F G hn hG
  have hw : IntKind.i64.wrap (ns.length : Int) = ns.length := Flat.wrap_small (by simp only [Flat.lim]; omega)
  have h1 : (ns.length + 1) * 208 ≤ 140737488355328 := by omega
  have h2 : ns.length + 1 ≤ 140737488355328 := by omega
  refine sq ?_
  refine rg 1000 ?_
  refine pr [0, 1, 2, 3, 4, 5, 6, 23] ?_
  refine sq ?_
  refine rc 2000 ?_
  refine oc id (spec121 to hto) ?_
  refine oe 2100 ?_
  refine on ?_
  refine pr [0, 1, 4, 5, 6, 7, 10, 23] ?_
  refine sq ?_
  refine zz (.cell 1000 13) ?_
  refine dr ?_
  refine de 3000 ?_
  refine dn ?_
  refine pr [0, 1, 6, 7, 18, 23] ?_
  refine hz 6 4294967296 ns.length 13 ?_
  refine sq ?_
  refine rg 4000 ?_
  refine pr [6, 7] ?_
  refine k_ret ?_
  show retQ _ _ _ _ _ _ _
  simp [*]

end Go.Proofs
end
section
set_option linter.unusedVariables false
set_option linter.unusedSimpArgs false
namespace Go.Proofs
open Go.Flat
set_option maxRecDepth 100000
set_option linter.unusedSimpArgs false
set_option linter.unusedVariables false
attribute [local simp] Bool.and_assoc Bool.or_assoc evalG evalX efD skF guardG guardL isCall stepL evalOp ev evs lk tmpsL app AV.ok fresh vv putCells insV ins del putL place Go.Flat.look fillC fillR getCells loadF storeF binF scalarBin intBin strBin isShift shiftBin unF lenF maxF minF rowsF appendF builtinF idxF natOf sliceP sliceF optEv Flat.cut overwrite toPV toPVs constAV scalarC scalarCs AV.cells TI.isAgg allSome andAll scalarEq buildable Go.Flat.lim retQ resL resAll resOne PartOf noTmp closedIn refs refs.refsL isSomeV hasB ids leA leA.leL renA renA.renL callB refsAll backL dropIds renS LiesAt injB ownB freshB memN locId insAll leA_refl leL_refl okS frzS frzA frzA.frzL evalD feet fine updCells cellsFrom memP footRf footWf noTmpU updIds opOps opIds idsA footR footW guardTs opTs dstTs callR callW renLoc renC inBlockQ thenQ Value.oneCell' IntKind.bits IntKind.signed PV.up toPH toPHs

attribute [local simp] GS Pl.row_eq Pl.av
theorem spec169 (ns : List Nd) (nd : Nat) (A : List Int) (hnd : nd ≤ 4) : Flat.SpD Try.prog 169 [.ptr 1000 0] ((.var 1000, .n 1) :: (.cell 1000 0, .av (.ptr 3 0)) :: GS ns (nd + 1) A) (.tup []) ((.var 1000, .n 1) :: (.cell 1000 0, .av (.ptr 3 0)) :: GS ns nd A) := by
  refine skD Try.func169 ?_ (hs := by simp)
  intro F G hn hG
  have hw : IntKind.i64.wrap (nd : Int) = nd := Flat.wrap_small (by simp only [Flat.lim]; omega)
  refine dr ?_
  refine de 1000 ?_
  refine dn ?_
  refine k_nil ?_
  show retQ _ _ _ _ _ _ _
  simp [*]

attribute [local simp] leafN Pl.zero prow Nd.hrow in
theorem spec67_1 (ns : List Nd) (nd : Nat) (A : List Int) (m : Int) (kids : List Pl) (ex : List E) (cols wth : List Int) (agg rds : Int) (to : Prt) (hns : ns.length ≤ 300) (hnd : nd ≤ A.length) : Flat.Sp Try.prog 67 [.ptr 3 0, (Pl.mk 1 m kids ex cols wth agg rds).av, .agg [vv (.int .i64 to.a), vv (.int .i64 to.b)]] (GS ns nd A) (.tup []) (GS (ns ++ [leafN m to]) nd A) := by
  refine sk Try.func67 ?_ (hs := by simp)
  intro F G hn hG
  refine sq ?_
  refine rg 1000 ?_
  refine pr [0, 1, 4, 40, 41, 52, 53, 90] ?_
  refine sq ?_
  refine rg 2000 ?_
  refine pr [0, 1, 4, 11, 12, 40, 41, 52, 53, 90] ?_
  refine k_block ?_
  refine sq ?_
  refine rg 13000 ?_
  refine pr [0, 1, 4, 11, 12, 40, 41, 43, 44, 52, 53, 90] ?_
  refine ct ?_
  refine dr ?_
  refine de 14000 ?_
  refine dcI (spec66 ns nd A 2 0 0 [] [] [] [] 0 0 m 0 0 [to] (by simp [Bnd]) hns hnd) ?_
  refine dn ?_
  refine k_nil ?_
  show AK _ _ _ _ _ _
  refine k_nil ?_
  show retQ _ _ _ _ _ _ _
  simp [*]

theorem hrows_modify (ns : List Nd) (i : Nat) (f : Nd → Nd) (x : Nd) (h : ns[i]? = some x) : hrows 0 (ns.modify i f) = (hrows 0 ns).set i ((f x).hrow i) := by
  apply List.ext_getElem?
  intro j
  rw [hrows_at, Nat.zero_add, List.getElem?_modify]
  have hlt := (List.getElem?_eq_some_iff.1 h).1
  by_cases e : i = j
  · subst e
    rw [List.getElem?_set_self (by simpa using hlt), h]
    simp
  · rw [List.getElem?_set_ne e, hrows_at, Nat.zero_add]
    cases hq : ns[j]? <;> simp [e]
theorem tblN_modify (ns : List Nd) (i : Nat) (f : Nd → Nd) (x : Nd) (h : ns[i]? = some x) : tblN (ns.modify i f) = (tblN ns).set i ((f x).back.map prow) := by
  apply List.ext_getElem?
  intro j
  have hlt := (List.getElem?_eq_some_iff.1 h).1
  simp only [tblN, List.getElem?_map, List.getElem?_modify]
  by_cases e : i = j
  · subst e
    rw [List.getElem?_set_self (by simpa using hlt), h]
    simp
  · rw [List.getElem?_set_ne e, List.getElem?_map]
    cases hq : ns[j]? <;> simp [e]

attribute [local simp] prow in
theorem spec67_2 (ns : List Nd) (nd : Nat) (A : List Int) (m : Int) (kids : List Pl) (ex : List E) (cols wth : List Int) (agg rds : Int) (to : Prt) (hns : ns.length ≤ 300) (hnd : nd ≤ A.length) (hnd4 : nd ≤ 4) (j : Nat) (hjn : j < nd) (hj : IntKind.i64.wrap ((nd : Int) - 1 - m) = j) (i : Nat) (hA : A[j]? = some (i : Int)) (xk pk pn : Int) (pq : List Pl) (pe : List E) (pc pw : List Int) (pa pg xn xl xr : Int) (xt xb : List Prt) (hi : ns[i]? = some ⟨xk, .mk pk pn pq pe pc pw pa pg, xn, xl, xr, xt, xb⟩) (hxb : xb.length ≤ 300) : Flat.Sp Try.prog 67 [.ptr 3 0, (Pl.mk 2 m kids ex cols wth agg rds).av, .agg [vv (.int .i64 to.a), vv (.int .i64 to.b)]] (GS ns nd A) (.tup []) (GS (pushB ns i to) nd A) := by
  refine sk Try.func67 ?_ (hs := by simp)
  intro F G hn hG
  have hilt : i < ns.length := (List.getElem?_eq_some_iff.1 hi).1
  have hjlt : j < A.length := (List.getElem?_eq_some_iff.1 hA).1
  have hw1 : IntKind.i64.wrap ((nd : Int) - 1) = (nd : Int) - 1 := by rw [w64]; omega
  have hgA : (A.map irow).getD j [] = irow (i : Int) := by rw [List.getD_eq_getElem?_getD, List.getElem?_map, hA]; rfl
  have hgA2 : (A.map irow)[j]? = some (irow (i : Int)) := by rw [List.getElem?_map, hA]; rfl
  have hgN : (hrows 0 ns).getD i [] = [.v (.int .u8 xk), .v (.int .u8 pk), .v (.int .i64 pn), .ps (pq.map Pl.row), .ps (pe.map E.row), .ps (pc.map irow), .ps (pw.map irow), .v (.int .u8 pa), .v (.int .i64 pg), .v (.int .i64 xn), .v (.int .i64 xl), .v (.int .i64 xr), .ps (xt.map prow), .han (fid i) xb.length 0 xb.length] := by rw [List.getD_eq_getElem?_getD, hrows_at, hi, Nat.zero_add]; simp [Nd.hrow]
  have hgN2 : (hrows 0 ns)[i]? = some [.v (.int .u8 xk), .v (.int .u8 pk), .v (.int .i64 pn), .ps (pq.map Pl.row), .ps (pe.map E.row), .ps (pc.map irow), .ps (pw.map irow), .v (.int .u8 pa), .v (.int .i64 pg), .v (.int .i64 xn), .v (.int .i64 xl), .v (.int .i64 xr), .ps (xt.map prow), .han (fid i) xb.length 0 xb.length] := by rw [hrows_at, hi, Nat.zero_add]; simp [Nd.hrow]
  have hgT : (tblN ns).getD i [] = xb.map prow := by rw [List.getD_eq_getElem?_getD]; simp [tblN, hi]
  have hgT2 : (tblN ns)[i]? = some (xb.map prow) := by simp [tblN, hi]
  obtain ⟨hA3, hA2⟩ := List.getElem?_eq_some_iff.1 hA
  obtain ⟨hgN4, hgN3⟩ := List.getElem?_eq_some_iff.1 hgN2
  obtain ⟨hgT4, hgT3⟩ := List.getElem?_eq_some_iff.1 hgT2
  have h1 : (xb.length + 1) * 16 ≤ 140737488355328 := by omega
  have h2 : xb.length + 1 ≤ 140737488355328 := by omega
  have hP1 : (hrows 0 ns).set i [.v (.int .u8 xk), .v (.int .u8 pk), .v (.int .i64 pn), .ps (pq.map Pl.row), .ps (pe.map E.row), .ps (pc.map irow), .ps (pw.map irow), .v (.int .u8 pa), .v (.int .i64 pg), .v (.int .i64 xn), .v (.int .i64 xl), .v (.int .i64 xr), .ps (xt.map prow), .han (fid i) (xb.length + 1) 0 (xb.length + 1)] = hrows 0 (pushB ns i to) := by unfold pushB; rw [hrows_modify _ _ _ _ hi]; simp [goB, Nd.hrow, Pl.row_eq]
  have hP2 : (tblN ns).set i (xb.map prow ++ [[.v (.int .i64 to.a), .v (.int .i64 to.b)]]) = tblN (pushB ns i to) := by unfold pushB; rw [tblN_modify _ _ _ _ hi]; simp [goB, prow]
  refine sq ?_
  refine rg 1000 ?_
  refine pr [0, 1, 4, 40, 41, 52, 53, 90] ?_
  refine sq ?_
  refine rg 2000 ?_
  refine pr [0, 1, 4, 11, 12, 40, 41, 52, 53, 90] ?_
  refine k_block ?_
  refine sq ?_
  refine rg 13000 ?_
  refine pr [0, 1, 4, 11, 12, 40, 41, 43, 44, 52, 53, 90] ?_
  refine ce ?_
  refine sq ?_
  refine rg 15000 ?_
  refine pr [0, 1, 4, 11, 12, 40, 41, 42, 53, 54, 55, 90] ?_
  refine ct ?_
  refine sq ?_
  refine dr ?_
  refine de 16000 ?_ (h := by simp [*, irow]; exact is_rfl _)
  refine dn ?_
  refine pr [5, 7, 75, 85] ?_
  refine dr ?_
  refine de 17000 ?_
  refine dn ?_
  refine k_nil ?_
  show AK _ _ _ _ _ _
  refine k_nil ?_
  show retQ _ _ _ _ _ _ _
  simp [*]

end Go.Proofs
end
section
set_option linter.unusedVariables false
set_option linter.unusedSimpArgs false
namespace Go.Proofs
open Go.Flat
set_option maxRecDepth 100000
set_option linter.unusedSimpArgs false
set_option linter.unusedVariables false
attribute [local simp] Bool.and_assoc Bool.or_assoc evalG evalX efD skF guardG guardL isCall stepL evalOp ev evs lk tmpsL app AV.ok fresh vv putCells insV ins del putL place Go.Flat.look fillC fillR getCells loadF storeF binF scalarBin intBin strBin isShift shiftBin unF lenF maxF minF rowsF appendF builtinF idxF natOf sliceP sliceF optEv Flat.cut overwrite toPV toPVs constAV scalarC scalarCs AV.cells TI.isAgg allSome andAll scalarEq buildable Go.Flat.lim retQ resL resAll resOne PartOf noTmp closedIn refs refs.refsL isSomeV hasB ids leA leA.leL renA renA.renL callB refsAll backL dropIds renS LiesAt injB ownB freshB memN locId insAll leA_refl leL_refl okS frzS frzA frzA.frzL evalD feet fine updCells cellsFrom memP footRf footWf noTmpU updIds opOps opIds idsA footR footW guardTs opTs dstTs callR callW renLoc renC inBlockQ thenQ Value.oneCell' IntKind.bits IntKind.signed PV.up toPH toPHs

attribute [local simp] GS Pl.row_eq Pl.av
attribute [local simp] loopN leaveN Pl.zero prow irow Nd.hrow in
theorem spec122_0 (ns ns2 ns3 : List Nd) (A A2 B A3 : List Int) (m : Int) (ex : List E) (cols wth : List Int) (agg rds : Int) (to : Prt) (xk xn : Int) (xq : List Pl) (xe : List E) (xc xw : List Int) (xa xr : Int) (yk yn : Int) (yq : List Pl) (ye : List E) (yc yw : List Int) (ya yr : Int) (hns : ns.length + 2 ≤ 300) (hm1 : ns.length + 2 ≤ ns2.length) (hm2 : ns2.length ≤ ns3.length) (hnA : A2.length ≤ A.length) (hA2 : A2.length ≤ 2) (hn2 : A2.length ≤ 2) (hBl : B.length = A2.length + 1) (hBm : A2.map irow ++ [[.v (.int .i64 ns.length)]] = B.map irow) (hx : Flat.Sp Try.prog 67 [.ptr 3 0, (Pl.mk xk xn xq xe xc xw xa xr).av, .agg [vv (.int .i64 ns.length), vv (.int .i64 0)]] (GS (ns ++ [loopN A2.length rds ns.length] ++ [leaveN A2.length rds to]) A2.length A) (.tup []) (GS ns2 A2.length A2)) (hy : Flat.Sp Try.prog 67 [.ptr 3 0, (Pl.mk yk yn yq ye yc yw ya yr).av, .agg [vv (.int .i64 ns.length), vv (.int .i64 1)]] (GS ns2 (A2.length + 1) B) (.tup []) (GS ns3 (A2.length + 1) A3)) : Flat.Sp Try.prog 122 [.ptr 3 0, (Pl.mk 10 m [(Pl.mk xk xn xq xe xc xw xa xr), (Pl.mk yk yn yq ye yc yw ya yr)] ex cols wth agg rds).av, .agg [vv (.int .i64 to.a), vv (.int .i64 to.b)]] (GS ns A2.length A) (.tup []) (GS ns3 A2.length A3) := by
  refine skW Try.func122 ?_ (hn := by show 3 ≤ 64; decide) (hs := by simp)
  intro F G hn hG hd0
  have hl1 : ns.length ≤ 300 := by omega
  have hl2 : ns.length + 1 ≤ 300 := by omega
  have hw0 : IntKind.i64.wrap ((ns.length : Int) + 1) = (ns.length : Int) + 1 := by have := Flat.wrap_small (n := ns.length + 1) (by simp only [Flat.lim]; omega); simpa using this
  have hc1 : ns.length ≤ ns2.length := by omega
  have hc3 : ns.length ≤ ns3.length := by omega
  have hq1 : (A2.length + 1) * 8 ≤ 140737488355328 := by omega
  have hq2 : A2.length + 1 ≤ 140737488355328 := by omega
  refine kwq ?_
  refine kw1 ?_
  refine pr [0, 36, 37, 44, 45, 63] ?_
  refine rg 1000 ?_
  refine k_nil ?_
  refine ⟨rfl, ?_⟩
  refine kwq ?_
  refine kw1 ?_
  refine pr [3, 36, 37, 44, 45, 63] ?_
  refine dr ?_
  refine de 2000 ?_
  refine dn ?_
  refine k_nil ?_
  refine ⟨rfl, ?_⟩
  refine kwq ?_
  refine kw1 ?_
  refine pr [3, 8, 16, 36, 37, 44, 45, 63] ?_
  refine dr ?_
  refine de 3000 ?_
  refine dcI (spec66 ns A2.length A 3 0 0 [] [] [] [] 0 0 0 A2.length rds [⟨(ns.length : Int) + 1, 0⟩] (by simp [Bnd]) hl1 hnA) ?_
  refine de 3100 ?_
  refine dn ?_
  refine k_nil ?_
  refine ⟨rfl, ?_⟩
  refine kwq ?_
  refine kw1 ?_
  refine pr [3, 8, 29, 36, 37, 44, 45, 63] ?_
  refine rg 4000 ?_
  refine k_nil ?_
  refine ⟨rfl, ?_⟩
  refine kwq ?_
  refine kw1 ?_
  refine pr [3, 8, 30, 36, 37, 44, 45, 63] ?_
  refine dr ?_
  refine de 5000 ?_
  refine dcI (spec66 (ns ++ [loopN A2.length rds ns.length]) A2.length A 4 0 0 [] [] [] [] 0 0 0 A2.length rds [to] (by simp [Bnd]) (by simpa using hl2) hnA) ?_
  refine dn ?_
  refine k_nil ?_
  refine ⟨rfl, ?_⟩
  refine kwq ?_
  refine kw1 ?_
  refine pr [3, 5, 7, 8, 37, 44, 45, 63] ?_
  refine dr ?_
  refine de 6000 ?_
  refine dcI (hx) ?_
  refine dn ?_
  refine k_nil ?_
  refine ⟨rfl, ?_⟩
  refine kwq ?_
  refine kw1 ?_
  refine pr [3, 5, 7, 8, 45, 63] ?_
  refine dr ?_
  refine de 7000 ?_
  refine dn ?_
  refine k_nil ?_
  refine ⟨rfl, ?_⟩
  refine kwq ?_
  refine kwk ((.tmp 3, .av (.ptr 1000 0)) :: (.tmp 4, .av (.ptr 1001 0)) :: (.tmp 7, .av (vv (.int .i64 ns.length))) :: (.var 1000, .n 1) :: (.cell 1000 0, .av (.ptr 3 0)) :: (.var 1001, .n 8) :: (.cell 1001 0, .av (vv (.int .u8 10))) :: (.cell 1001 1, .av (vv (.int .i64 m))) :: (.cell 1001 2, .av (.p (.ps ([(Pl.mk xk xn xq xe xc xw xa xr), (Pl.mk yk yn yq ye yc yw ya yr)].map Pl.row)))) :: (.cell 1001 3, .av (.p (.ps (ex.map E.row)))) :: (.cell 1001 4, .av (.p (.ps (cols.map irow)))) :: (.cell 1001 5, .av (.p (.ps (wth.map irow)))) :: (.cell 1001 6, .av (vv (.int .u8 agg))) :: (.cell 1001 7, .av (vv (.int .i64 rds))) :: GS ns2 (A2.length + 1) B) ?_
  refine kwd 8000 ((.var 1000, .n 1) :: (.cell 1000 0, .av (.ptr 3 0)) :: (.var 1001, .n 8) :: (.cell 1001 0, .av (vv (.int .u8 10))) :: (.cell 1001 1, .av (vv (.int .i64 m))) :: (.cell 1001 2, .av (.p (.ps ([(Pl.mk xk xn xq xe xc xw xa xr), (Pl.mk yk yn yq ye yc yw ya yr)].map Pl.row)))) :: (.cell 1001 3, .av (.p (.ps (ex.map E.row)))) :: (.cell 1001 4, .av (.p (.ps (cols.map irow)))) :: (.cell 1001 5, .av (.p (.ps (wth.map irow)))) :: (.cell 1001 6, .av (vv (.int .u8 agg))) :: (.cell 1001 7, .av (vv (.int .i64 rds))) :: GS ns3 (A2.length + 1) A3) (spec169 ns3 A2.length A3 (by omega)) ?_
  · intro F G hn hG
    refine dr ?_
    refine de 9000 ?_
    refine dcI (hy) ?_
    refine dn ?_
    refine k_nil ?_
    refine ⟨.inr rfl, ?_, ?_, ?_⟩ <;> simp [*]

attribute [local simp] loopN leaveN Pl.zero prow irow Nd.hrow in
theorem spec122_1 (ns ns2 ns3 : List Nd) (nd : Nat) (A A2 B A3 : List Int) (m : Int) (ex : List E) (cols wth : List Int) (agg rds : Int) (to : Prt) (xk xn : Int) (xq : List Pl) (xe : List E) (xc xw : List Int) (xa xr : Int) (yk yn : Int) (yq : List Pl) (ye : List E) (yc yw : List Int) (ya yr : Int) (hns : ns.length + 2 ≤ 300) (hm1 : ns.length + 2 ≤ ns2.length) (hm2 : ns2.length ≤ ns3.length) (hnA : nd ≤ A.length) (hA2 : A2.length ≤ 2) (hn2 : nd ≤ 2) (hlt : nd < A2.length) (hBl : B.length = A2.length) (hBm : (A2.map irow).take nd ++ [.v (.int .i64 ns.length)] :: (A2.map irow).drop (nd + 1) = B.map irow) (hx : Flat.Sp Try.prog 67 [.ptr 3 0, (Pl.mk xk xn xq xe xc xw xa xr).av, .agg [vv (.int .i64 ns.length), vv (.int .i64 0)]] (GS (ns ++ [loopN nd rds ns.length] ++ [leaveN nd rds to]) nd A) (.tup []) (GS ns2 nd A2)) (hy : Flat.Sp Try.prog 67 [.ptr 3 0, (Pl.mk yk yn yq ye yc yw ya yr).av, .agg [vv (.int .i64 ns.length), vv (.int .i64 1)]] (GS ns2 (nd + 1) B) (.tup []) (GS ns3 (nd + 1) A3)) : Flat.Sp Try.prog 122 [.ptr 3 0, (Pl.mk 10 m [(Pl.mk xk xn xq xe xc xw xa xr), (Pl.mk yk yn yq ye yc yw ya yr)] ex cols wth agg rds).av, .agg [vv (.int .i64 to.a), vv (.int .i64 to.b)]] (GS ns nd A) (.tup []) (GS ns3 nd A3) := by
  refine skW Try.func122 ?_ (hn := by show 3 ≤ 64; decide) (hs := by simp)
  intro F G hn hG hd0
  have hl1 : ns.length ≤ 300 := by omega
  have hl2 : ns.length + 1 ≤ 300 := by omega
  have hw0 : IntKind.i64.wrap ((ns.length : Int) + 1) = (ns.length : Int) + 1 := by have := Flat.wrap_small (n := ns.length + 1) (by simp only [Flat.lim]; omega); simpa using this
  have hc1 : ns.length ≤ ns2.length := by omega
  have hc3 : ns.length ≤ ns3.length := by omega
  have hq1 : (nd + 1) * 8 ≤ 140737488355328 := by omega
  have hq2 : nd + 1 ≤ 140737488355328 := by omega
  have hmx : max A2.length (nd + 1) = A2.length := by omega
  have hne : ¬ nd = A2.length := by omega
  have hmn : min nd A2.length = nd := by omega
  refine kwq ?_
  refine kw1 ?_
  refine pr [0, 36, 37, 44, 45, 63] ?_
  refine rg 1000 ?_
  refine k_nil ?_
  refine ⟨rfl, ?_⟩
  refine kwq ?_
  refine kw1 ?_
  refine pr [3, 36, 37, 44, 45, 63] ?_
  refine dr ?_
  refine de 2000 ?_
  refine dn ?_
  refine k_nil ?_
  refine ⟨rfl, ?_⟩
  refine kwq ?_
  refine kw1 ?_
  refine pr [3, 8, 16, 36, 37, 44, 45, 63] ?_
  refine dr ?_
  refine de 3000 ?_
  refine dcI (spec66 ns nd A 3 0 0 [] [] [] [] 0 0 0 nd rds [⟨(ns.length : Int) + 1, 0⟩] (by simp [Bnd]) hl1 hnA) ?_
  refine de 3100 ?_
  refine dn ?_
  refine k_nil ?_
  refine ⟨rfl, ?_⟩
  refine kwq ?_
  refine kw1 ?_
  refine pr [3, 8, 29, 36, 37, 44, 45, 63] ?_
  refine rg 4000 ?_
  refine k_nil ?_
  refine ⟨rfl, ?_⟩
  refine kwq ?_
  refine kw1 ?_
  refine pr [3, 8, 30, 36, 37, 44, 45, 63] ?_
  refine dr ?_
  refine de 5000 ?_
  refine dcI (spec66 (ns ++ [loopN nd rds ns.length]) nd A 4 0 0 [] [] [] [] 0 0 0 nd rds [to] (by simp [Bnd]) (by simpa using hl2) hnA) ?_
  refine dn ?_
  refine k_nil ?_
  refine ⟨rfl, ?_⟩
  refine kwq ?_
  refine kw1 ?_
  refine pr [3, 5, 7, 8, 37, 44, 45, 63] ?_
  refine dr ?_
  refine de 6000 ?_
  refine dcI (hx) ?_
  refine dn ?_
  refine k_nil ?_
  refine ⟨rfl, ?_⟩
  refine kwq ?_
  refine kw1 ?_
  refine pr [3, 5, 7, 8, 45, 63] ?_
  refine dr ?_
  refine de 7000 ?_
  refine dn ?_
  refine k_nil ?_
  refine ⟨rfl, ?_⟩
  refine kwq ?_
  refine kwk ((.tmp 3, .av (.ptr 1000 0)) :: (.tmp 4, .av (.ptr 1001 0)) :: (.tmp 7, .av (vv (.int .i64 ns.length))) :: (.var 1000, .n 1) :: (.cell 1000 0, .av (.ptr 3 0)) :: (.var 1001, .n 8) :: (.cell 1001 0, .av (vv (.int .u8 10))) :: (.cell 1001 1, .av (vv (.int .i64 m))) :: (.cell 1001 2, .av (.p (.ps ([(Pl.mk xk xn xq xe xc xw xa xr), (Pl.mk yk yn yq ye yc yw ya yr)].map Pl.row)))) :: (.cell 1001 3, .av (.p (.ps (ex.map E.row)))) :: (.cell 1001 4, .av (.p (.ps (cols.map irow)))) :: (.cell 1001 5, .av (.p (.ps (wth.map irow)))) :: (.cell 1001 6, .av (vv (.int .u8 agg))) :: (.cell 1001 7, .av (vv (.int .i64 rds))) :: GS ns2 (nd + 1) B) ?_
  refine kwd 8000 ((.var 1000, .n 1) :: (.cell 1000 0, .av (.ptr 3 0)) :: (.var 1001, .n 8) :: (.cell 1001 0, .av (vv (.int .u8 10))) :: (.cell 1001 1, .av (vv (.int .i64 m))) :: (.cell 1001 2, .av (.p (.ps ([(Pl.mk xk xn xq xe xc xw xa xr), (Pl.mk yk yn yq ye yc yw ya yr)].map Pl.row)))) :: (.cell 1001 3, .av (.p (.ps (ex.map E.row)))) :: (.cell 1001 4, .av (.p (.ps (cols.map irow)))) :: (.cell 1001 5, .av (.p (.ps (wth.map irow)))) :: (.cell 1001 6, .av (vv (.int .u8 agg))) :: (.cell 1001 7, .av (vv (.int .i64 rds))) :: GS ns3 (nd + 1) A3) (spec169 ns3 nd A3 (by omega)) ?_
  · intro F G hn hG
    refine dr ?_
    refine de 9000 ?_
    refine dcI (hy) ?_
    refine dn ?_
    refine k_nil ?_
    refine ⟨.inr rfl, ?_, ?_, ?_⟩ <;> simp [*]

end Go.Proofs
end
section
set_option linter.unusedVariables false
set_option linter.unusedSimpArgs false
namespace Go.Proofs
open Go.Flat
set_option maxRecDepth 100000
set_option linter.unusedSimpArgs false
set_option linter.unusedVariables false
attribute [local simp] Bool.and_assoc Bool.or_assoc evalG evalX efD skF guardG guardL isCall stepL evalOp ev evs lk tmpsL app AV.ok fresh vv putCells insV ins del putL place Go.Flat.look fillC fillR getCells loadF storeF binF scalarBin intBin strBin isShift shiftBin unF lenF maxF minF rowsF appendF builtinF idxF natOf sliceP sliceF optEv Flat.cut overwrite toPV toPVs constAV scalarC scalarCs AV.cells TI.isAgg allSome andAll scalarEq buildable Go.Flat.lim retQ resL resAll resOne PartOf noTmp closedIn refs refs.refsL isSomeV hasB ids leA leA.leL renA renA.renL callB refsAll backL dropIds renS LiesAt injB ownB freshB memN locId insAll leA_refl leL_refl okS frzS frzA frzA.frzL evalD feet fine updCells cellsFrom memP footRf footWf noTmpU updIds opOps opIds idsA footR footW guardTs opTs dstTs callR callW renLoc renC inBlockQ thenQ Value.oneCell' IntKind.bits IntKind.signed PV.up toPH toPHs

/-- What building a plan's nodes does. -/
def GSp (p : Pl) : Prop := ∀ (to : Prt) (nd : Nat) (s : BR), p.vok nd → Rm s nd p.size → Flat.Sp Try.prog 67 [.ptr 3 0, p.av, .agg [vv (.int .i64 to.a), vv (.int .i64 to.b)]] (GS s.1 nd s.2) (.tup []) (GS (bld p to nd s).1 nd (bld p to nd s).2)
attribute [local simp] GS Pl.row_eq Pl.av

theorem spec67_10 (ns : List Nd) (nd : Nat) (A : List Int) (m : Int) (kids : List Pl) (ex : List E) (cols wth : List Int) (agg rds : Int) (to : Prt) (r : BR) (hle : ns.length ≤ r.1.length) (hsp : Flat.Sp Try.prog 122 [.ptr 3 0, (Pl.mk 10 m kids ex cols wth agg rds).av, .agg [vv (.int .i64 to.a), vv (.int .i64 to.b)]] (GS ns nd A) (.tup []) (GS r.1 nd r.2)) : Flat.Sp Try.prog 67 [.ptr 3 0, (Pl.mk 10 m kids ex cols wth agg rds).av, .agg [vv (.int .i64 to.a), vv (.int .i64 to.b)]] (GS ns nd A) (.tup []) (GS r.1 nd r.2) := by
  refine sk Try.func67 ?_ (hs := by simp)
  intro F G hn hG
  refine sq ?_
  refine rg 1000 ?_
  refine pr [0, 1, 4, 40, 41, 52, 53, 90] ?_
  refine sq ?_
  refine rg 2000 ?_
  refine pr [0, 1, 4, 11, 12, 40, 41, 52, 53, 90] ?_
  refine k_block ?_
  refine sq ?_
  refine rg 13000 ?_
  refine pr [0, 1, 4, 11, 12, 40, 41, 43, 44, 52, 53, 90] ?_
  refine ce ?_
  refine sq ?_
  refine rg 15000 ?_
  refine pr [0, 1, 4, 11, 12, 40, 41, 42, 53, 54, 55, 90] ?_
  refine ce ?_
  refine sq ?_
  refine rg 18000 ?_
  refine pr [0, 1, 4, 6, 7, 11, 13, 40, 41, 42, 85, 86, 87, 90] ?_
  refine ct ?_
  refine rc 19000 ?_
  refine ocI (hsp) ?_
  refine on ?_
  refine k_nil ?_
  show AK _ _ _ _ _ _
  refine k_nil ?_
  show retQ _ _ _ _ _ _ _
  simp [*]

theorem spec66_p (ns : List Nd) (nd : Nat) (A : List Int) (k m : Int) (ex : List E) (cols wth : List Int) (agg rds : Int) (to : Prt) (hns : ns.length ≤ 300) (hnd : nd ≤ A.length) :
    Flat.Sp Try.prog 66 [.ptr 3 0, .agg [vv (.int .u8 1), vv (.int .u8 k), vv (.int .i64 m), .p (.ps []), .p (.ps (ex.map E.row)), .p (.ps (cols.map irow)), .p (.ps (wth.map irow)), vv (.int .u8 agg), vv (.int .i64 rds), vv (.int .i64 0), vv (.int .i64 0), vv (.int .i64 0), .psf [], .psf []], .p (.ps ([to].map prow))] (GS ns nd A) (vv (.int .i64 ns.length)) (GS (ns ++ [planN (.mk k m [] ex cols wth agg rds) to]) nd A) :=
  spec66 ns nd A 1 k m [] ex cols wth agg rds 0 0 0 [to] (by simp [Bnd]) hns hnd

theorem sizeL_take : ∀ {l : List Pl} {i : Nat} {x : Pl}, l[i]? = some x → Pl.sizeL (l.take i) + x.size ≤ Pl.sizeL l
  | [], i, x, h => by simp at h
  | y :: l, 0, x, h => by simp at h; subst h; simp [Pl.sizeL]
  | y :: l, i + 1, x, h => by
    have := sizeL_take (l := l) (i := i) (x := x) (by simpa using h)
    simp only [List.take_succ_cons, Pl.sizeL]; omega
theorem Pl.vokL_of {nd : Nat} : ∀ {l : List Pl}, (∀ x ∈ l, x.vok nd) → Pl.vokL l nd
  | [], _ => by simp [Pl.vokL]
  | e :: r, h => by
    rw [Pl.vokL]
    exact ⟨h e (by simp), Pl.vokL_of fun x hx => h x (by simp [hx])⟩

attribute [local simp] prow in
theorem spec67_d (ns : List Nd) (nd : Nat) (A : List Int) (k : Int) (m : Int) (kids : List Pl) (ex : List E) (cols wth : List Int) (agg rds : Int) (to : Prt) (h1 : (k == 1) = false) (h2 : (k == 2) = false) (h10 : (k == 10) = false) (hbe : ex.length ≤ Bnd) (hbc : cols.length ≤ Bnd) (hbw : wth.length ≤ Bnd) (hge : ∀ e ∈ ex, e.good) (hkl : kids.length ≤ 300) (hv : Pl.vokL kids nd) (hrm : Rm (ns, A) nd (1 + Pl.sizeL kids)) (ih : ∀ x ∈ kids, GSp x) : Flat.Sp Try.prog 67 [.ptr 3 0, (Pl.mk k m kids ex cols wth agg rds).av, .agg [vv (.int .i64 to.a), vv (.int .i64 to.b)]] (GS ns nd A) (.tup []) (GS (bldL kids (k == 7) ns.length 0 nd (ns ++ [planN (.mk k m [] ex cols wth agg rds) to], A)).1 nd (bldL kids (k == 7) ns.length 0 nd (ns ++ [planN (.mk k m [] ex cols wth agg rds) to], A)).2) := by
  refine sk Try.func67 ?_ (hs := by simp)
  intro F G hn hG
  have hns : ns.length ≤ 300 := by have := hrm.len; simp only at this; omega
  have hnd : nd ≤ A.length := hrm.dep
  have hkl2 : kids.length ≤ Flat.lim := by simp only [Flat.lim]; omega
  have hwn : IntKind.i64.wrap (ns.length : Int) = ns.length := Flat.wrap_small (by simp only [Flat.lim]; omega)
  have hgwS : ∀ i, Gw (ns, A) (bldL (kids.take i) (k == 7) ns.length 0 nd (ns ++ [planN (.mk k m [] ex cols wth agg rds) to], A)) nd (1 + Pl.sizeL (kids.take i)) := fun i => (Gw.snoc (ns, A) (planN (.mk k m [] ex cols wth agg rds) to) nd rfl).trans (bldL_gw (kids.take i) _ _ 0 nd _ (Pl.vokL_of fun y hy => Pl.vokL_mem hv y (List.mem_of_mem_take hy)) hnd)
  refine sq ?_
  refine rg 1000 ?_
  refine pr [0, 1, 4, 40, 41, 52, 53, 90] ?_
  refine sq ?_
  refine rg 2000 ?_
  refine pr [0, 1, 4, 11, 12, 40, 41, 52, 53, 90] ?_
  refine k_block ?_
  refine sq ?_
  refine rg 13000 ?_
  refine pr [0, 1, 4, 11, 12, 40, 41, 43, 44, 52, 53, 90] ?_
  refine ce ?_
  refine sq ?_
  refine rg 15000 ?_
  refine pr [0, 1, 4, 11, 12, 40, 41, 42, 53, 54, 55, 90] ?_
  refine ce ?_
  refine sq ?_
  refine rg 18000 ?_
  refine pr [0, 1, 4, 6, 7, 11, 13, 40, 41, 42, 85, 86, 87, 90] ?_
  refine ce ?_
  refine sq ?_
  refine rg 3000 ?_
  refine pr [0, 1, 4, 6, 7, 11, 14, 40, 41, 42] ?_
  refine sq ?_
  refine rg 4000 ?_
  refine pr [0, 1, 4, 6, 7, 11, 15, 40, 41, 42] ?_
  refine sq ?_
  refine dr ?_
  refine de 5000 ?_
  refine dc id (spec123 k m ex cols wth agg rds hbe hbc hbw hge) ?_
  refine de 5100 ?_
  refine dcI (spec66_p ns nd A k m ex cols wth agg rds to hns hnd) ?_
  refine de 5200 ?_
  refine dn ?_
  refine pr [0, 1, 4, 5, 8, 11, 24, 40, 41, 42] ?_
  refine sq ?_
  refine rg 6000 ?_
  refine pr [0, 1, 4, 5, 8, 11, 25, 40, 41, 42] ?_
  refine k_block ?_
  refine k_loop (fun n l => ∃ i, i + n = kids.length ∧ l = (.tmp 0, .av (.ptr 3 0)) :: (.tmp 4, .av (.ptr 1000 0)) :: (.tmp 8, .av (vv (.int .i64 ns.length))) :: (.tmp 25, .av (.p (.ps (kids.map Pl.row)))) :: (.tmp 26, .av (vv (.int .i64 kids.length))) :: (.tmp 27, .av (vv (.int .i64 i))) :: (.var 1000, .n 8) :: (.cell 1000 0, .av (vv (.int .u8 k))) :: (.cell 1000 1, .av (vv (.int .i64 m))) :: (.cell 1000 2, .av (.p (.ps (kids.map Pl.row)))) :: (.cell 1000 3, .av (.p (.ps (ex.map E.row)))) :: (.cell 1000 4, .av (.p (.ps (cols.map irow)))) :: (.cell 1000 5, .av (.p (.ps (wth.map irow)))) :: (.cell 1000 6, .av (vv (.int .u8 agg))) :: (.cell 1000 7, .av (vv (.int .i64 rds))) :: (.var 1001, .n 2) :: (.cell 1001 0, .av (vv (.int .i64 to.a))) :: (.cell 1001 1, .av (vv (.int .i64 to.b))) :: GS (bldL (kids.take i) (k == 7) ns.length 0 nd (ns ++ [planN (.mk k m [] ex cols wth agg rds) to], A)).1 nd (bldL (kids.take i) (k == 7) ns.length 0 nd (ns ++ [planN (.mk k m [] ex cols wth agg rds) to], A)).2) (kids.length) hG ⟨_, ⟨by simp [bldL], by simp [bldL], by simp [bldL]⟩, 0, by simp, rfl⟩ ?_
  rintro n _ ⟨i, hin, rfl⟩
  refine sq ?_
  refine rg 7000 ?_
  refine pr [0, 1, 4, 5, 8, 11, 25, 40, 41, 42] ?_
  refine sq ?_
  refine cd ?_ ?_
  · intro h28_1
    have hlt : i < kids.length := by simpa using h28_1
    obtain ⟨x, hxe⟩ : ∃ x, kids[i] = x := ⟨_, rfl⟩
    have hx : kids[i]? = some x := by simp [hlt, hxe]
    have hw := wrap_succ (show i < Flat.lim by omega)
    have hmem := List.mem_of_getElem? hx
    have hvx := Pl.vokL_mem hv x hmem
    have hgr := hgwS i
    have hle0 : ns.length ≤ (bldL (kids.take i) (k == 7) ns.length 0 nd (ns ++ [planN (.mk k m [] ex cols wth agg rds) to], A)).1.length := by have := hgr.len; simpa using this
    have hrx : Rm (bldL (kids.take i) (k == 7) ns.length 0 nd (ns ++ [planN (.mk k m [] ex cols wth agg rds) to], A)) nd x.size := hgr.rm (hrm.less (by have := sizeL_take hx; omega))
    have hgx := (bld_gw x ⟨(ns.length : Int), if (k == 7) = true then (i : Int) else 0⟩ nd (bldL (kids.take i) (k == 7) ns.length 0 nd (ns ++ [planN (.mk k m [] ex cols wth agg rds) to], A)) hvx hrx.dep).len
    have hle1 : ns.length ≤ (bld x ⟨(ns.length : Int), if (k == 7) = true then (i : Int) else 0⟩ nd (bldL (kids.take i) (k == 7) ns.length 0 nd (ns ++ [planN (.mk k m [] ex cols wth agg rds) to], A))).1.length := by omega
    obtain ⟨xk, xn, xq, xe, xc, xw, xa, xr⟩ := x
    refine k_skip ?_
    refine sq ?_
    refine k_block ?_
    refine sq ?_
    refine rg 8000 ?_
    refine pr [0, 1, 4, 5, 8, 11, 25, 40, 41, 42] ?_
    refine sq ?_
    refine sq ?_
    refine rg 9000 ?_
    refine pr [0, 1, 4, 5, 8, 11, 25, 40, 41, 42] ?_
    refine cd ?_ ?_
    · intro h34_2
      have h7 : (k == 7) = false := by simpa using h34_2
      simp only [h7, Bool.false_eq_true, if_false] at hle0 hle1 hgx
      refine rg 10000 ?_
      refine pr [0, 1, 4, 5, 8, 11, 25, 40, 41, 42] ?_
      refine rc 11000 ?_
      refine ocI (ih _ hmem ⟨(ns.length : Int), if (k == 7) = true then (i : Int) else 0⟩ nd (bldL (kids.take i) (k == 7) ns.length 0 nd (ns ++ [planN (.mk k m [] ex cols wth agg rds) to], A)) hvx hrx) ?_
      refine on ?_
      refine k_nil ?_
      show AK _ _ _ _ _ _
      refine rg 12000 ?_
      refine k_nil ?_
      refine ⟨n - 1, by omega, _, ⟨?_, ?_, ?_⟩, i + 1, by omega, rfl⟩ <;> simp [*, bldL_take hx]
    · intro h34_2
      have h7 : (k == 7) = true := by simpa using h34_2
      simp only [h7, if_true] at hle0 hle1 hgx
      refine k_skip ?_
      refine rc 11000 ?_
      refine ocI (ih _ hmem ⟨(ns.length : Int), if (k == 7) = true then (i : Int) else 0⟩ nd (bldL (kids.take i) (k == 7) ns.length 0 nd (ns ++ [planN (.mk k m [] ex cols wth agg rds) to], A)) hvx hrx) ?_
      refine on ?_
      refine k_nil ?_
      show AK _ _ _ _ _ _
      refine rg 12000 ?_
      refine k_nil ?_
      refine ⟨n - 1, by omega, _, ⟨?_, ?_, ?_⟩, i + 1, by omega, rfl⟩ <;> simp [*, bldL_take hx]
  · intro h28_1
    have hge : kids.length ≤ i := by simpa using h28_1
    obtain rfl : i = kids.length := by omega
    have htk : kids.take kids.length = kids := List.take_length
    have hgr := hgwS kids.length
    rw [htk] at hgr
    have hle0 : ns.length ≤ (bldL kids (k == 7) ns.length 0 nd (ns ++ [planN (.mk k m [] ex cols wth agg rds) to], A)).1.length := by have := hgr.len; simpa using this
    refine k_exit ?_
    show AK _ _ _ _ _ _
    refine k_nil ?_
    show AK _ _ _ _ _ _
    refine k_nil ?_
    show retQ _ _ _ _ _ _ _
    simp [*]

end Go.Proofs
end
section
set_option linter.unusedVariables false
set_option linter.unusedSimpArgs false
namespace Go.Proofs
open Go.Flat
def Stk (A A' : List (List Int)) (nd : Nat) : Prop := A.length ≤ A'.length ∧ A'.take nd = A.take nd
theorem Stk.rfl' (A : List (List Int)) (nd : Nat) : Stk A A nd := ⟨Nat.le_refl _, rfl⟩
theorem Stk.trans {A B D : List (List Int)} {nd : Nat} (h1 : Stk A B nd) (h2 : Stk B D nd) : Stk A D nd := ⟨Nat.le_trans h1.1 h2.1, h2.2.trans h1.2⟩
theorem jdgL_stk {S : List (List Int)} {l : List Pl} (ih : ∀ x ∈ l, ∀ nd w A, nd ≤ A.length → Stk A (jdg S x nd w A).2.2 nd) : ∀ nd w A, nd ≤ A.length → Stk A (jdgL S l nd w A).2.2 nd := by
  induction l with
  | nil => intro nd w A _; simp only [jdgL]; exact .rfl' A nd
  | cons x l ihl =>
    intro nd w A h2
    simp only [jdgL]
    have g := ih x (by simp) nd w A h2
    exact g.trans (ihl (fun y hy => ih y (by simp [hy])) nd _ _ (Nat.le_trans h2 g.1))
theorem jdgI_stk {S : List (List Int)} {l : List Pl} (ih : ∀ x ∈ l, ∀ nd w A, nd ≤ A.length → Stk A (jdg S x nd w A).2.2 nd) : ∀ nd w A, nd ≤ A.length → Stk A (jdgI S l nd w A).2.2 nd := by
  intro nd w A h2
  cases l with
  | nil => simp only [jdgI]; exact .rfl' A nd
  | cons x l =>
    simp only [jdgI]
    have g := ih x (by simp) nd w A h2
    have h4 := Nat.le_trans h2 g.1
    have hp := pushA_len (jdg S x nd w A).1 h4
    have g2 := jdgL_stk (S := S) (l := l) (fun y hy => ih y (by simp [hy])) (nd + 1) (jdg S x nd w A).2.1 (pushA (jdg S x nd w A).2.2 nd (jdg S x nd w A).1) (by rw [hp]; omega)
    refine ⟨Nat.le_trans g.1 (Nat.le_trans (by rw [hp]; omega) g2.1), ?_⟩
    have := congrArg (List.take nd) g2.2
    rw [List.take_take, List.take_take, Nat.min_eq_left (by omega), pushA_take _ h4, g.2] at this
    exact this
theorem jdg_stk (S : List (List Int)) : ∀ (p : Pl), ∀ nd w A, nd ≤ A.length → Stk A (jdg S p nd w A).2.2 nd := by
  refine Pl.ind fun k m kids ex cols wth agg rds ih nd w A h2 => ?_
  have gI := jdgI_stk ih nd w A h2
  have gL := jdgL_stk ih nd w A h2
  rw [jdg]
  split
  · exact .rfl' A nd
  · split
    · split <;> exact .rfl' A nd
    · simp only
      split <;> split <;> first | exact gI | exact gL
theorem unlessF_stick {w y : Int} {b : Bool} (h : w ≠ 0) : unlessF w b y = w := by simp [unlessF, h]
theorem jdgL_stick {S : List (List Int)} {l : List Pl} (ih : ∀ x ∈ l, ∀ nd w A, w ≠ 0 → (jdg S x nd w A).2.1 = w) : ∀ nd w A, w ≠ 0 → (jdgL S l nd w A).2.1 = w := by
  induction l with
  | nil => intro nd w A _; simp only [jdgL]
  | cons x l ihl =>
    intro nd w A h
    simp only [jdgL]
    have := ih x (by simp) nd w A h
    rw [this]
    exact ihl (fun y hy => ih y (by simp [hy])) nd w _ h
theorem jdg_stick (S : List (List Int)) : ∀ (p : Pl), ∀ nd w A, w ≠ 0 → (jdg S p nd w A).2.1 = w := by
  refine Pl.ind fun k m kids ex cols wth agg rds ih nd w A h => ?_
  have gL := jdgL_stick ih nd w A h
  have gI : (jdgI S kids nd w A).2.1 = w := by
    cases kids with
    | nil => simp only [jdgI]
    | cons x l =>
      simp only [jdgI]
      rw [ih x (by simp) nd w A h]
      exact jdgL_stick (fun y hy => ih y (by simp [hy])) (nd + 1) w _ h
  have hne : (w != 0) = true := by simpa using h
  have one : ∀ l i, oneW l i w = w := fun l i => by unfold oneW; split <;> simp [unlessF_stick h]
  rw [jdg]
  split
  · exact one _ _
  · split
    · split
      · exact unlessF_stick h
      · exact one _ _
    · simp only
      split
      · rw [gI, hne]; rfl
      · rw [gL, hne]; rfl
theorem jdg_zero {S : List (List Int)} {p : Pl} {nd : Nat} {w : Int} {A : List (List Int)} (h : (jdg S p nd w A).2.1 = 0) : w = 0 := by
  by_cases hw : w = 0
  · exact hw
  · rw [jdg_stick S p nd w A hw] at h; exact h
theorem jdgL_zero {S : List (List Int)} {l : List Pl} {nd : Nat} {w : Int} {A : List (List Int)} (h : (jdgL S l nd w A).2.1 = 0) : w = 0 := by
  by_cases hw : w = 0
  · exact hw
  · rw [jdgL_stick (fun x _ => jdg_stick S x) nd w A hw] at h; exact h
end Go.Proofs
end
section
set_option linter.unusedVariables false
set_option linter.unusedSimpArgs false
namespace Go.Proofs
open Go.Flat
set_option maxRecDepth 100000
set_option linter.unusedSimpArgs false
set_option linter.unusedVariables false
attribute [local simp] Bool.and_assoc Bool.or_assoc evalG evalX efD skF guardG guardL isCall stepL evalOp ev evs lk tmpsL app AV.ok fresh vv putCells insV ins del putL place Go.Flat.look fillC fillR getCells loadF storeF binF scalarBin intBin strBin isShift shiftBin unF lenF maxF minF rowsF appendF builtinF idxF natOf sliceP sliceF optEv Flat.cut overwrite toPV toPVs constAV scalarC scalarCs AV.cells TI.isAgg allSome andAll scalarEq buildable Go.Flat.lim retQ resL resAll resOne PartOf noTmp closedIn refs refs.refsL isSomeV hasB ids leA leA.leL renA renA.renL callB refsAll backL dropIds renS LiesAt injB ownB freshB memN locId insAll leA_refl leL_refl okS frzS frzA frzA.frzL evalD feet fine updCells cellsFrom memP footRf footWf noTmpU updIds opOps opIds idsA footR footW guardTs opTs dstTs callR callW renLoc renC inBlockQ thenQ Value.oneCell' IntKind.bits IntKind.signed

attribute [local simp] Pl.av in
theorem spec110_l (S A : List (List Int)) (nd : Nat) (k m : Int) (kids : List Pl) (ex : List E) (cols wth : List Int) (agg rds : Int) (hk10 : (k == 10) = false) (hkb : kids.length ≤ Bnd) (hS : ∀ s ∈ S, s.length ≤ 8) (dd : Nat) (hgl : Pl.goodL kids dd) (hnd : nd < dd) (hnA : nd ≤ A.length) (hA : A.length ≤ 16) (w : Int) (hSh : Sh A nd w) (ih : ∀ x ∈ kids, ∀ (nd : Nat) (w : Int) (A : List (List Int)), nd < dd → nd ≤ A.length → A.length ≤ 16 → Sh A nd w → Flat.Sp Try.prog 59 [.ptr 0 0, x.av] [(.var 0, .n 3), (.cell 0 0, .av (vv (.int .i64 (w)))), (.cell 0 1, .av (.p (.ps (S.map srow)))), (.cell 0 2, .av (.sl 1 (A).length 0 (nd))), (.arr 1, .arr 45 1 ((A).map srow) 0)] (.p (.ps ((jdg S x nd w A).1.map trow))) [(.var 0, .n 3), (.cell 0 0, .av (vv (.int .i64 ((jdg S x nd w A).2.1)))), (.cell 0 1, .av (.p (.ps (S.map srow)))), (.cell 0 2, .av (.sl 1 ((jdg S x nd w A).2.2).length 0 (nd))), (.arr 1, .arr 45 1 (((jdg S x nd w A).2.2).map srow) 0)])  : Flat.Sp Try.prog 110 [.ptr 0 0, (Pl.mk k m kids ex cols wth agg rds).av] [(.var 0, .n 3), (.cell 0 0, .av (vv (.int .i64 (w)))), (.cell 0 1, .av (.p (.ps (S.map srow)))), (.cell 0 2, .av (.sl 1 (A).length 0 (nd))), (.arr 1, .arr 45 1 ((A).map srow) 0)] (.p (.ps ((jdgL S kids nd w A).1.map srow))) [(.var 0, .n 3), (.cell 0 0, .av (vv (.int .i64 ((jdgL S kids nd w A).2.1)))), (.cell 0 1, .av (.p (.ps (S.map srow)))), (.cell 0 2, .av (.sl 1 ((jdgL S kids nd w A).2.2).length 0 (nd))), (.arr 1, .arr 45 1 (((jdgL S kids nd w A).2.2).map srow) 0)] := by
  refine sk Try.func110 ?_
  intro F G hn hG
  have hkl := Bnd_lim hkb
  have hkb2 : kids.length ≤ 1048576 := hkb
  refine sq ?_
  refine rg 1000 ?_
  refine pr [0, 1, 3, 59] ?_
  refine sq ?_
  refine sq ?_
  refine rg 2000 ?_
  refine pr [0, 1, 3, 7, 8, 59] ?_
  refine k_block ?_
  refine ow (.tmp 4) 900 45 1 ?_
  refine k_loop (fun n l => ∃ i, i + n = kids.length ∧ (True) ∧ l = [(.tmp 0, .av (.ptr 0 0)), (.tmp 3, .av (.ptr 1000 0)), (.tmp 4, .av (.sl 900 i 0 i)), (.tmp 8, .av (.p (.ps (kids.map Pl.row)))), (.tmp 9, .av (vv (.int .i64 kids.length))), (.tmp 10, .av (vv (.int .i64 i))), (.var 0, .n 3), (.cell 0 0, .av (vv (.int .i64 ((jdgL S (kids.take i) nd w A).2.1)))), (.cell 0 1, .av (.p (.ps (S.map srow)))), (.cell 0 2, .av (.sl 1 ((jdgL S (kids.take i) nd w A).2.2).length 0 (nd))), (.arr 1, .arr 45 1 (((jdgL S (kids.take i) nd w A).2.2).map srow) 0), (.var 1000, .n 8), (.cell 1000 0, .av (vv (.int .u8 k))), (.cell 1000 1, .av (vv (.int .i64 m))), (.cell 1000 2, .av (.p (.ps (kids.map Pl.row)))), (.cell 1000 3, .av (.p (.ps (ex.map E.row)))), (.cell 1000 4, .av (.p (.ps (cols.map irow)))), (.cell 1000 5, .av (.p (.ps (wth.map irow)))), (.cell 1000 6, .av (vv (.int .u8 agg))), (.cell 1000 7, .av (vv (.int .i64 rds))), (.arr 900, .arr 45 1 ((jdgL S (kids.take i) nd w A).1.map srow) 0)]) (kids.length) hG ⟨_, ⟨by simp [jdgL], by simp, by simp⟩, 0, by simp, trivial, rfl⟩ ?_
  rintro n _ ⟨i, hin, hfa, rfl⟩
  refine sq ?_
  refine rg 3000 ?_
  refine pr [0, 1, 3, 7, 8, 59] ?_
  refine sq ?_
  refine cd ?_ ?_
  · intro h11_1
    have hlt : i < kids.length := by simpa using h11_1
    obtain ⟨x, hxe⟩ : ∃ x, kids[i] = x := ⟨_, rfl⟩
    have hx : kids[i]? = some x := by simp [hlt, hxe]
    have hw := wrap_succ (show i < Flat.lim by omega)
    have hmin : min i kids.length = i := by omega
    have hlim : (i + 1) * 24 ≤ 140737488355328 := by simp only [Flat.lim] at *; omega
    have hlim1 : i + 1 ≤ 140737488355328 := by simp only [Flat.lim] at *; omega
    have hgt : Pl.goodL (kids.take i) dd := Pl.goodL_of fun y hy => Pl.goodL_mem hgl y (List.mem_of_mem_take hy)
    have hgr := jdgL_grows (S := S) (fun y hy nd w A => jdg_grows S y dd (Pl.goodL_mem hgt y hy) nd w A) nd w A hnd hnA hA
    have hok := jdgL_ok (S := S) hgt (fun y hy => jdg_ok hS y dd (Pl.goodL_mem hgt y hy)) nd w A hnd hnA hA hSh
    have hShi : Sh (jdgL S (kids.take i) nd w A).2.2 nd (jdgL S (kids.take i) nd w A).2.1 := fun hz => by rw [hgr.2.2]; exact hSh (hok hz).1
    have hmem : x ∈ kids := hxe ▸ List.getElem_mem hlt
    have hrl : (jdgL S (kids.take i) nd w A).1.length = i := by rw [jdgL_rows, List.length_take]; exact hmin
    obtain ⟨xk, xn, xq, xe, xc, xw, xa, xr⟩ := x
    refine k_skip ?_
    refine sq ?_
    refine k_block ?_
    refine sq ?_
    refine rg 4000 ?_ (h := by simp [*, Pl.row_eq]; exact is_rfl _)
    refine pr [0, 1, 3, 7, 8, 59] ?_
    refine sq ?_
    refine sq ?_
    refine rc 5000 ?_
    iterate 2 (first | refine gp 5150 ?_ | refine os ?_ | refine gt 5150 ?_)
    refine oe 5200 ?_
    refine on ?_
    refine pr [0, 1, 3, 7, 8, 59] ?_
    refine ce ?_
    refine k_skip ?_
    refine rc 7000 ?_ (h := by simp [*, srow]; exact is_rfl _)
    refine oc id (ih _ hmem nd (jdgL S (kids.take i) nd w A).2.1 (jdgL S (kids.take i) nd w A).2.2 hnd (Nat.le_trans hnA hgr.1) hgr.2.1 hShi) ?_ (hg := by simp [*, srow]) (hf := by simp [*, srow]; exact is_rfl _) (hx := by simp [*, srow]; exact is_rfl _) (hargs := by simp [*, srow]) (hB := by simp [*, srow]) (hL := by simp [*, srow]) (hd := by simp [*, srow]; exact is_rfl _)
    refine oe 7100 ?_ (h := by simp [*, srow]; exact is_rfl _)
    refine on ?_
    refine k_nil ?_
    show AK _ _ _ _ _ _
    refine rg 8000 ?_ (h := by simp [*, wrap_succ (show i < Flat.lim by omega)]; exact is_rfl _)
    refine k_nil ?_
    refine ⟨n - 1, by omega, _, ⟨?_, ?_, ?_⟩, i + 1, by omega, trivial, rfl⟩ <;> simp [*, jdgL_take hx, srow]
  · intro h11_1
    have hge : kids.length ≤ i := by simpa using h11_1
    have htk : kids.take i = kids := List.take_of_length_le hge
    obtain rfl : i = kids.length := by omega
    have hrl : (jdgL S kids nd w A).1.length = kids.length := jdgL_rows ..
    have htr : ((jdgL S kids nd w A).1.map srow).take kids.length = (jdgL S kids nd w A).1.map srow := List.take_of_length_le (by simp [hrl])
    refine fz 900 ?_
    refine k_exit ?_
    show AK _ _ _ _ _ _
    refine sq ?_
    refine sq ?_
    refine rg 9000 ?_
    refine pr [0, 1, 4, 5, 43, 59] ?_
    refine ce ?_
    refine k_skip ?_
    refine sq ?_
    refine rg 11000 ?_
    refine pr [4, 5] ?_
    refine k_ret ?_
    show retQ _ _ _ _ _ _ _
    simp [*]

attribute [local simp] Pl.av srow Pl.row_eq in
theorem spec110_i1 (S A : List (List Int)) (m : Int) (ex : List E) (cols wth : List Int) (agg rds : Int) (ak an : Int) (aq : List Pl) (ae : List E) (ac aw : List Int) (aa ar : Int) (bk bn : Int) (bq : List Pl) (be : List E) (bc bw : List Int) (ba br : Int) (w w1 w2 : Int) (o1 o2 : List Int) (A1 B A2 : List (List Int)) (hA1 : A1.length ≤ 16) (hA2 : A1.length + 1 ≤ A2.length) (hnn : A1.length ≤ 16) (hBl : B.length = A1.length + 1) (hBm : B.map srow = A1.map srow ++ [srow o1]) (hx : Flat.Sp Try.prog 59 [.ptr 0 0, (Pl.mk ak an aq ae ac aw aa ar).av] [(.var 0, .n 3), (.cell 0 0, .av (vv (.int .i64 (w)))), (.cell 0 1, .av (.p (.ps (S.map srow)))), (.cell 0 2, .av (.sl 1 (A).length 0 (A1.length))), (.arr 1, .arr 45 1 ((A).map srow) 0)] (.p (.ps (o1.map trow))) [(.var 0, .n 3), (.cell 0 0, .av (vv (.int .i64 (w1)))), (.cell 0 1, .av (.p (.ps (S.map srow)))), (.cell 0 2, .av (.sl 1 (A1).length 0 (A1.length))), (.arr 1, .arr 45 1 ((A1).map srow) 0)]) (hy : Flat.Sp Try.prog 59 [.ptr 0 0, (Pl.mk bk bn bq be bc bw ba br).av] [(.var 0, .n 3), (.cell 0 0, .av (vv (.int .i64 (w1)))), (.cell 0 1, .av (.p (.ps (S.map srow)))), (.cell 0 2, .av (.sl 1 (B).length 0 (A1.length + 1))), (.arr 1, .arr 45 1 ((B).map srow) 0)] (.p (.ps (o2.map trow))) [(.var 0, .n 3), (.cell 0 0, .av (vv (.int .i64 (w2)))), (.cell 0 1, .av (.p (.ps (S.map srow)))), (.cell 0 2, .av (.sl 1 (A2).length 0 (A1.length + 1))), (.arr 1, .arr 45 1 ((A2).map srow) 0)]) : Flat.Sp Try.prog 110 [.ptr 0 0, (Pl.mk 10 m [Pl.mk ak an aq ae ac aw aa ar, Pl.mk bk bn bq be bc bw ba br] ex cols wth agg rds).av] [(.var 0, .n 3), (.cell 0 0, .av (vv (.int .i64 (w)))), (.cell 0 1, .av (.p (.ps (S.map srow)))), (.cell 0 2, .av (.sl 1 (A).length 0 (A1.length))), (.arr 1, .arr 45 1 ((A).map srow) 0)] (.p (.ps [srow o1, srow o2])) [(.var 0, .n 3), (.cell 0 0, .av (vv (.int .i64 (w2)))), (.cell 0 1, .av (.p (.ps (S.map srow)))), (.cell 0 2, .av (.sl 1 (A2).length 0 (A1.length))), (.arr 1, .arr 45 1 ((A2).map srow) 0)] := by
  refine sk Try.func110 ?_
  intro F G hn hG
  have hwn : IntKind.i64.wrap (A1.length : Int) = A1.length := Flat.wrap_small (by simp only [Flat.lim]; omega)
  have hl3 : (A1.length + 1) * 24 ≤ 140737488355328 := by omega
  have hl4 : A1.length + 1 ≤ 140737488355328 := by omega
  refine sq ?_
  refine rg 1000 ?_
  refine pr [0, 1, 3, 59] ?_
  refine sq ?_
  refine sq ?_
  refine rg 2000 ?_
  refine pr [0, 1, 3, 7, 8, 59] ?_
  refine k_block ?_
  refine ow (.tmp 4) 900 45 1 ?_
  refine k_rounds 3 ?_
  show AK _ _ _ _ _ _
  refine sq ?_
  refine rg 3000 ?_
  refine pr [0, 1, 3, 7, 8, 59] ?_
  refine sq ?_
  refine ct ?_
  refine k_skip ?_
  refine sq ?_
  refine k_block ?_
  refine sq ?_
  refine rg 4000 ?_
  refine pr [0, 1, 3, 7, 8, 59] ?_
  refine sq ?_
  refine sq ?_
  refine rc 5000 ?_
  iterate 2 (first | refine gp 5150 ?_ | refine os ?_ | refine gt 5150 ?_)
  refine oe 5200 ?_
  refine on ?_
  refine pr [0, 1, 3, 7, 8, 59] ?_
  refine ce ?_
  refine k_skip ?_
  refine rc 7000 ?_
  refine oc id (hx) ?_
  refine oe 7100 ?_
  refine on ?_
  refine k_nil ?_
  show AK _ _ _ _ _ _
  refine rg 8000 ?_
  refine k_nil ?_
  show AK _ _ _ _ _ _
  refine sq ?_
  refine rg 1003000 ?_
  refine pr [0, 1, 3, 7, 8, 59] ?_
  refine sq ?_
  refine ct ?_
  refine k_skip ?_
  refine sq ?_
  refine k_block ?_
  refine sq ?_
  refine rg 1004000 ?_
  refine pr [0, 1, 3, 7, 8, 59] ?_
  refine sq ?_
  refine sq ?_
  refine rc 1005000 ?_
  iterate 2 (first | refine gp 1005150 ?_ | refine os ?_ | refine gt 1005150 ?_)
  refine oe 1005200 ?_
  refine on ?_
  refine pr [0, 1, 3, 7, 8, 59] ?_
  refine ct ?_
  refine dr ?_
  refine de 6000 ?_
  refine dn ?_
  refine pr [0, 1, 3, 7, 8, 59] ?_
  refine rc 1007000 ?_
  refine oc id (hy) ?_
  refine oe 1007100 ?_
  refine on ?_
  refine k_nil ?_
  show AK _ _ _ _ _ _
  refine rg 1008000 ?_
  refine k_nil ?_
  show AK _ _ _ _ _ _
  refine sq ?_
  refine rg 2003000 ?_
  refine pr [0, 1, 3, 7, 8, 59] ?_
  refine sq ?_
  refine ce ?_
  refine k_exit ?_
  show AK _ _ _ _ _ _
  refine sq ?_
  refine sq ?_
  refine rg 9000 ?_
  refine pr [0, 1, 4, 5, 43, 59] ?_
  refine ct ?_
  refine dr ?_
  refine de 10000 ?_
  refine dn ?_
  refine pr [4, 5, 58, 59] ?_
  refine fz 900 ?_
  refine sq ?_
  refine rg 11000 ?_
  refine pr [4, 5] ?_
  refine k_ret ?_
  show retQ _ _ _ _ _ _ _
  simp [*]

attribute [local simp] Pl.av srow Pl.row_eq in
theorem spec110_i2 (S A : List (List Int)) (nd : Nat) (m : Int) (ex : List E) (cols wth : List Int) (agg rds : Int) (ak an : Int) (aq : List Pl) (ae : List E) (ac aw : List Int) (aa ar : Int) (bk bn : Int) (bq : List Pl) (be : List E) (bc bw : List Int) (ba br : Int) (w w1 w2 : Int) (o1 o2 : List Int) (A1 B A2 : List (List Int)) (hA1 : A1.length ≤ 16) (hA2 : nd + 1 ≤ A2.length) (hnn : nd ≤ 16) (hlt : nd < A1.length) (hBl : B.length = A1.length) (hBm : B.map srow = (A1.map srow).take nd ++ srow o1 :: (A1.map srow).drop (nd + 1)) (hx : Flat.Sp Try.prog 59 [.ptr 0 0, (Pl.mk ak an aq ae ac aw aa ar).av] [(.var 0, .n 3), (.cell 0 0, .av (vv (.int .i64 (w)))), (.cell 0 1, .av (.p (.ps (S.map srow)))), (.cell 0 2, .av (.sl 1 (A).length 0 (nd))), (.arr 1, .arr 45 1 ((A).map srow) 0)] (.p (.ps (o1.map trow))) [(.var 0, .n 3), (.cell 0 0, .av (vv (.int .i64 (w1)))), (.cell 0 1, .av (.p (.ps (S.map srow)))), (.cell 0 2, .av (.sl 1 (A1).length 0 (nd))), (.arr 1, .arr 45 1 ((A1).map srow) 0)]) (hy : Flat.Sp Try.prog 59 [.ptr 0 0, (Pl.mk bk bn bq be bc bw ba br).av] [(.var 0, .n 3), (.cell 0 0, .av (vv (.int .i64 (w1)))), (.cell 0 1, .av (.p (.ps (S.map srow)))), (.cell 0 2, .av (.sl 1 (B).length 0 (nd + 1))), (.arr 1, .arr 45 1 ((B).map srow) 0)] (.p (.ps (o2.map trow))) [(.var 0, .n 3), (.cell 0 0, .av (vv (.int .i64 (w2)))), (.cell 0 1, .av (.p (.ps (S.map srow)))), (.cell 0 2, .av (.sl 1 (A2).length 0 (nd + 1))), (.arr 1, .arr 45 1 ((A2).map srow) 0)]) : Flat.Sp Try.prog 110 [.ptr 0 0, (Pl.mk 10 m [Pl.mk ak an aq ae ac aw aa ar, Pl.mk bk bn bq be bc bw ba br] ex cols wth agg rds).av] [(.var 0, .n 3), (.cell 0 0, .av (vv (.int .i64 (w)))), (.cell 0 1, .av (.p (.ps (S.map srow)))), (.cell 0 2, .av (.sl 1 (A).length 0 (nd))), (.arr 1, .arr 45 1 ((A).map srow) 0)] (.p (.ps [srow o1, srow o2])) [(.var 0, .n 3), (.cell 0 0, .av (vv (.int .i64 (w2)))), (.cell 0 1, .av (.p (.ps (S.map srow)))), (.cell 0 2, .av (.sl 1 (A2).length 0 (nd))), (.arr 1, .arr 45 1 ((A2).map srow) 0)] := by
  refine sk Try.func110 ?_
  intro F G hn hG
  have hwn : IntKind.i64.wrap (nd : Int) = nd := Flat.wrap_small (by simp only [Flat.lim]; omega)
  have hl3 : (nd + 1) * 24 ≤ 140737488355328 := by omega
  have hl4 : nd + 1 ≤ 140737488355328 := by omega
  have hmx : max A1.length (nd + 1) = A1.length := by omega
  have hne : ¬ nd = A1.length := by omega
  have hmn : min nd A1.length = nd := by omega
  refine sq ?_
  refine rg 1000 ?_
  refine pr [0, 1, 3, 59] ?_
  refine sq ?_
  refine sq ?_
  refine rg 2000 ?_
  refine pr [0, 1, 3, 7, 8, 59] ?_
  refine k_block ?_
  refine ow (.tmp 4) 900 45 1 ?_
  refine k_rounds 3 ?_
  show AK _ _ _ _ _ _
  refine sq ?_
  refine rg 3000 ?_
  refine pr [0, 1, 3, 7, 8, 59] ?_
  refine sq ?_
  refine ct ?_
  refine k_skip ?_
  refine sq ?_
  refine k_block ?_
  refine sq ?_
  refine rg 4000 ?_
  refine pr [0, 1, 3, 7, 8, 59] ?_
  refine sq ?_
  refine sq ?_
  refine rc 5000 ?_
  iterate 2 (first | refine gp 5150 ?_ | refine os ?_ | refine gt 5150 ?_)
  refine oe 5200 ?_
  refine on ?_
  refine pr [0, 1, 3, 7, 8, 59] ?_
  refine ce ?_
  refine k_skip ?_
  refine rc 7000 ?_
  refine oc id (hx) ?_
  refine oe 7100 ?_
  refine on ?_
  refine k_nil ?_
  show AK _ _ _ _ _ _
  refine rg 8000 ?_
  refine k_nil ?_
  show AK _ _ _ _ _ _
  refine sq ?_
  refine rg 1003000 ?_
  refine pr [0, 1, 3, 7, 8, 59] ?_
  refine sq ?_
  refine ct ?_
  refine k_skip ?_
  refine sq ?_
  refine k_block ?_
  refine sq ?_
  refine rg 1004000 ?_
  refine pr [0, 1, 3, 7, 8, 59] ?_
  refine sq ?_
  refine sq ?_
  refine rc 1005000 ?_
  iterate 2 (first | refine gp 1005150 ?_ | refine os ?_ | refine gt 1005150 ?_)
  refine oe 1005200 ?_
  refine on ?_
  refine pr [0, 1, 3, 7, 8, 59] ?_
  refine ct ?_
  refine dr ?_
  refine de 6000 ?_
  refine dn ?_
  refine pr [0, 1, 3, 7, 8, 59] ?_
  refine rc 1007000 ?_
  refine oc id (hy) ?_
  refine oe 1007100 ?_
  refine on ?_
  refine k_nil ?_
  show AK _ _ _ _ _ _
  refine rg 1008000 ?_
  refine k_nil ?_
  show AK _ _ _ _ _ _
  refine sq ?_
  refine rg 2003000 ?_
  refine pr [0, 1, 3, 7, 8, 59] ?_
  refine sq ?_
  refine ce ?_
  refine k_exit ?_
  show AK _ _ _ _ _ _
  refine sq ?_
  refine sq ?_
  refine rg 9000 ?_
  refine pr [0, 1, 4, 5, 43, 59] ?_
  refine ct ?_
  refine dr ?_
  refine de 10000 ?_
  refine dn ?_
  refine pr [4, 5, 58, 59] ?_
  refine fz 900 ?_
  refine sq ?_
  refine rg 11000 ?_
  refine pr [4, 5] ?_
  refine k_ret ?_
  show retQ _ _ _ _ _ _ _
  simp [*]

theorem spec110_i (S A : List (List Int)) (nd : Nat) (m : Int) (ex : List E) (cols wth : List Int) (agg rds : Int) (ak an : Int) (aq : List Pl) (ae : List E) (ac aw : List Int) (aa ar : Int) (bk bn : Int) (bq : List Pl) (be : List E) (bc bw : List Int) (ba br : Int) (w w1 w2 : Int) (o1 o2 : List Int) (A1 A2 : List (List Int)) (h5 : nd ≤ A1.length) (hA1 : A1.length ≤ 16) (hA2 : nd + 1 ≤ A2.length) (hnn : nd ≤ 16) (hx : Flat.Sp Try.prog 59 [.ptr 0 0, (Pl.mk ak an aq ae ac aw aa ar).av] [(.var 0, .n 3), (.cell 0 0, .av (vv (.int .i64 (w)))), (.cell 0 1, .av (.p (.ps (S.map srow)))), (.cell 0 2, .av (.sl 1 (A).length 0 (nd))), (.arr 1, .arr 45 1 ((A).map srow) 0)] (.p (.ps (o1.map trow))) [(.var 0, .n 3), (.cell 0 0, .av (vv (.int .i64 (w1)))), (.cell 0 1, .av (.p (.ps (S.map srow)))), (.cell 0 2, .av (.sl 1 (A1).length 0 (nd))), (.arr 1, .arr 45 1 ((A1).map srow) 0)]) (hy : Flat.Sp Try.prog 59 [.ptr 0 0, (Pl.mk bk bn bq be bc bw ba br).av] [(.var 0, .n 3), (.cell 0 0, .av (vv (.int .i64 (w1)))), (.cell 0 1, .av (.p (.ps (S.map srow)))), (.cell 0 2, .av (.sl 1 (pushA A1 nd o1).length 0 (nd + 1))), (.arr 1, .arr 45 1 ((pushA A1 nd o1).map srow) 0)] (.p (.ps (o2.map trow))) [(.var 0, .n 3), (.cell 0 0, .av (vv (.int .i64 (w2)))), (.cell 0 1, .av (.p (.ps (S.map srow)))), (.cell 0 2, .av (.sl 1 (A2).length 0 (nd + 1))), (.arr 1, .arr 45 1 ((A2).map srow) 0)]) : Flat.Sp Try.prog 110 [.ptr 0 0, (Pl.mk 10 m [Pl.mk ak an aq ae ac aw aa ar, Pl.mk bk bn bq be bc bw ba br] ex cols wth agg rds).av] [(.var 0, .n 3), (.cell 0 0, .av (vv (.int .i64 (w)))), (.cell 0 1, .av (.p (.ps (S.map srow)))), (.cell 0 2, .av (.sl 1 (A).length 0 (nd))), (.arr 1, .arr 45 1 ((A).map srow) 0)] (.p (.ps [srow o1, srow o2])) [(.var 0, .n 3), (.cell 0 0, .av (vv (.int .i64 (w2)))), (.cell 0 1, .av (.p (.ps (S.map srow)))), (.cell 0 2, .av (.sl 1 (A2).length 0 (nd))), (.arr 1, .arr 45 1 ((A2).map srow) 0)] := by
  have hp := pushA_len o1 h5
  rcases Nat.lt_or_eq_of_le h5 with hlt | heq
  · refine spec110_i2 S A nd m ex cols wth agg rds ak an aq ae ac aw aa ar bk bn bq be bc bw ba br w w1 w2 o1 o2 A1 _ A2 hA1 hA2 hnn hlt (by rw [hp]; omega) ?_ hx hy
    simp [pushA]
  · subst heq
    refine spec110_i1 S A m ex cols wth agg rds ak an aq ae ac aw aa ar bk bn bq be bc bw ba br w w1 w2 o1 o2 A1 _ A2 hA1 hA2 hnn (by rw [hp]; omega) ?_ hx hy
    simp [pushA]

theorem two_pl {l : List Pl} (h : l.length = 2) : ∃ x y, l = [x, y] := by
  match l, h with
  | [x, y], _ => exact ⟨x, y, rfl⟩
theorem spec110 (S A : List (List Int)) (nd : Nat) (k m : Int) (kids : List Pl) (ex : List E) (cols wth : List Int) (agg rds : Int) (hk2 : (k == 10) = true → kids.length = 2) (hkb : kids.length ≤ Bnd) (hS : ∀ s ∈ S, s.length ≤ 8) (d : Nat) (hd : d ≤ 16) (hgl : Pl.goodL kids (d + 1)) (hnd : nd < d) (hnA : nd ≤ A.length) (hA : A.length ≤ 16) (w : Int) (hSh : Sh A nd w) (ih : ∀ x ∈ kids, ∀ (nd : Nat) (w : Int) (A : List (List Int)), nd < d + 1 → nd ≤ A.length → A.length ≤ 16 → Sh A nd w → Flat.Sp Try.prog 59 [.ptr 0 0, x.av] [(.var 0, .n 3), (.cell 0 0, .av (vv (.int .i64 (w)))), (.cell 0 1, .av (.p (.ps (S.map srow)))), (.cell 0 2, .av (.sl 1 (A).length 0 (nd))), (.arr 1, .arr 45 1 ((A).map srow) 0)] (.p (.ps ((jdg S x nd w A).1.map trow))) [(.var 0, .n 3), (.cell 0 0, .av (vv (.int .i64 ((jdg S x nd w A).2.1)))), (.cell 0 1, .av (.p (.ps (S.map srow)))), (.cell 0 2, .av (.sl 1 ((jdg S x nd w A).2.2).length 0 (nd))), (.arr 1, .arr 45 1 (((jdg S x nd w A).2.2).map srow) 0)])  : Flat.Sp Try.prog 110 [.ptr 0 0, (Pl.mk k m kids ex cols wth agg rds).av] [(.var 0, .n 3), (.cell 0 0, .av (vv (.int .i64 (w)))), (.cell 0 1, .av (.p (.ps (S.map srow)))), (.cell 0 2, .av (.sl 1 (A).length 0 (nd))), (.arr 1, .arr 45 1 ((A).map srow) 0)] (.p (.ps ((jdgK S k kids nd w A).1.map srow))) [(.var 0, .n 3), (.cell 0 0, .av (vv (.int .i64 ((jdgK S k kids nd w A).2.1)))), (.cell 0 1, .av (.p (.ps (S.map srow)))), (.cell 0 2, .av (.sl 1 ((jdgK S k kids nd w A).2.2).length 0 (nd))), (.arr 1, .arr 45 1 (((jdgK S k kids nd w A).2.2).map srow) 0)] := by
  cases hk : (k == 10) with
  | false =>
    have he : jdgK S k kids nd w A = jdgL S kids nd w A := by simp only [jdgK, hk]; rfl
    rw [he]
    exact spec110_l S A nd k m kids ex cols wth agg rds hk hkb hS (d + 1) hgl (by omega) hnA hA w hSh ih
  | true =>
    obtain ⟨a, b, rfl⟩ := two_pl (hk2 hk)
    obtain rfl : k = 10 := eq_of_beq hk
    have hga : a.good (d + 1) := Pl.goodL_mem hgl a (by simp)
    have hgb : b.good (d + 1) := Pl.goodL_mem hgl b (by simp)
    have g := jdg_grows S a (d + 1) hga nd w A (by omega) hnA hA
    have ok := jdg_ok hS a (d + 1) hga nd w A (by omega) hnA hA hSh
    have h5 := Nat.le_trans hnA g.1
    have hp := pushA_len (jdg S a nd w A).1 h5
    have hq := g.2.1
    have hShb : Sh (pushA (jdg S a nd w A).2.2 nd (jdg S a nd w A).1) (nd + 1) (jdg S a nd w A).2.1 := fun hz s hs => by
      rw [pushA_take1 _ h5, g.2.2] at hs
      rcases List.mem_append.1 hs with hs | hs
      · exact hSh (ok hz).1 s hs
      · rw [List.mem_singleton] at hs; rw [hs]; exact (ok hz).2
    have hx := ih a (by simp) nd w A (by omega) hnA hA hSh
    have hy := ih b (by simp) (nd + 1) (jdg S a nd w A).2.1 (pushA (jdg S a nd w A).2.2 nd (jdg S a nd w A).1) (by omega) (by rw [hp]; omega) (by rw [hp]; omega) hShb
    have g2 := jdg_grows S b (d + 1) hgb (nd + 1) (jdg S a nd w A).2.1 (pushA (jdg S a nd w A).2.2 nd (jdg S a nd w A).1) (by omega) (by rw [hp]; omega) (by rw [hp]; omega)
    have hA2 := g2.1
    have he : jdgK S 10 [a, b] nd w A = ([(jdg S a nd w A).1, (jdg S b (nd + 1) (jdg S a nd w A).2.1 (pushA (jdg S a nd w A).2.2 nd (jdg S a nd w A).1)).1], (jdg S b (nd + 1) (jdg S a nd w A).2.1 (pushA (jdg S a nd w A).2.2 nd (jdg S a nd w A).1)).2) := by
      simp only [jdgK, jdgI, jdgL]; rfl
    rw [he]
    obtain ⟨ak, an, aq, ae, ac, aw, aa, ar⟩ := a
    obtain ⟨bk, bn, bq, be, bc, bw, ba, br⟩ := b
    exact spec110_i S A nd m ex cols wth agg rds ak an aq ae ac aw aa ar bk bn bq be bc bw ba br w _ _ _ _ _ _ h5 hq (by rw [hp] at hA2; exact Nat.le_trans (Nat.le_max_right _ _) hA2) (by omega) hx hy

end Go.Proofs
end
section
set_option linter.unusedVariables false
set_option linter.unusedSimpArgs false
namespace Go.Proofs
open Go.Flat
set_option maxRecDepth 100000
set_option linter.unusedSimpArgs false
set_option linter.unusedVariables false
attribute [local simp] Bool.and_assoc Bool.or_assoc evalG evalX efD skF guardG guardL isCall stepL evalOp ev evs lk tmpsL app AV.ok fresh vv putCells insV ins del putL place Go.Flat.look fillC fillR getCells loadF storeF binF scalarBin intBin strBin isShift shiftBin unF lenF maxF minF rowsF appendF builtinF idxF natOf sliceP sliceF optEv Flat.cut overwrite toPV toPVs constAV scalarC scalarCs AV.cells TI.isAgg allSome andAll scalarEq buildable Go.Flat.lim retQ resL resAll resOne PartOf noTmp closedIn refs refs.refsL isSomeV hasB ids leA leA.leL renA renA.renL callB refsAll backL dropIds renS LiesAt injB ownB freshB memN locId insAll leA_refl leL_refl okS frzS frzA frzA.frzL evalD feet fine updCells cellsFrom memP footRf footWf noTmpU updIds opOps opIds idsA footR footW guardTs opTs dstTs callR callW renLoc renC inBlockQ thenQ Value.oneCell' IntKind.bits IntKind.signed

def neS (o ts : List Int) : Bool := !(ts == o)
theorem spec117 (ts o : List Int) (hts : ts.length ≤ Flat.lim) : Flat.Sp Try.prog 117 [.p (.ps (ts.map trow)), .ptr 0 0] [(.var 0, .n 1), (.cell 0 0, .av (.p (.ps (o.map trow))))] (vv (.bool (neS o ts))) [(.var 0, .n 1), (.cell 0 0, .av (.p (.ps (o.map trow))))] := by
  refine sk Try.func117 ?_
  intro F G hn hG
  refine sq ?_
  refine rg 1000 ?_
  refine pr [0, 2, 3, 8] ?_
  refine sq ?_
  refine rc 2000 ?_
  refine oc id (spec114 ts o hts) ?_
  refine oe 2100 ?_
  refine on ?_
  refine pr [3, 4] ?_
  refine k_ret ?_
  show retQ _ _ _ _ _ _ _
  simp [*, neS]

attribute [local simp] srow in
theorem spec118b (ss : List (List Int)) (o : List Int) (hlen : ss.length ≤ Flat.lim) (hs8 : ∀ s ∈ ss, s.length ≤ 8) : Flat.Sp Try.prog 118 [.p (.ps (ss.map srow)), .fn (.func 117) [.ptr 0 0]] [(.var 0, .n 1), (.cell 0 0, .av (.p (.ps (o.map trow))))] (vv (.int .i64 (firstP (neS o) ss 0))) [(.var 0, .n 1), (.cell 0 0, .av (.p (.ps (o.map trow))))] := by
  refine sk Try.func118 ?_
  intro F G hn hG
  refine sq ?_
  refine rg 1000 ?_
  refine pr [0, 2, 4, 19] ?_
  refine sq ?_
  refine sq ?_
  refine rg 2000 ?_
  refine pr [0, 2, 4, 6, 7, 19] ?_
  refine k_block ?_
  refine k_loop (fun n l => ∃ i, i + n = ss.length ∧ (firstP (neS o) ss 0 = firstP (neS o) (ss.drop i) i) ∧ l = [(.tmp 0, .av (.p (.ps (ss.map srow)))), (.tmp 1, .av (.fn (.func 117) [.ptr 0 0])), (.tmp 7, .av (vv (.int .i64 ss.length))), (.tmp 8, .av (vv (.int .i64 i))), (.var 0, .n 1), (.cell 0 0, .av (.p (.ps (o.map trow))))]) (ss.length) hG ⟨_, ⟨by simp, by simp, by simp⟩, 0, by simp, rfl, rfl⟩ ?_
  rintro n _ ⟨i, hin, hfa, rfl⟩
  have hwi : i < Flat.lim → IntKind.i64.wrap ((i : Int) + 1) = (i : Int) + 1 := wrap_succ
  refine sq ?_
  refine rg 3000 ?_
  refine pr [0, 2, 4, 6, 7, 19] ?_
  refine sq ?_
  refine cd ?_ ?_
  · intro h9_1
    have hlt : i < ss.length := by simpa using h9_1
    obtain ⟨x, hxe⟩ : ∃ x, ss[i] = x := ⟨_, rfl⟩
    have hx : ss[i]? = some x := by simp [hlt, hxe]
    have hfd := firstP_drop (p := (neS o)) hx
    have hwi := hwi (by omega)
    have hxl : x.length ≤ Flat.lim := Nat.le_trans (hs8 x (hxe ▸ List.getElem_mem hlt)) (by simp [Flat.lim])
    refine k_skip ?_
    refine sq ?_
    refine k_block ?_
    refine sq ?_
    refine rg 4000 ?_
    refine pr [0, 2, 4, 6, 7, 19] ?_
    refine sq ?_
    refine rc 5000 ?_
    refine oc id (spec117 x o hxl) ?_
    refine on ?_
    refine pr [0, 2, 4, 6, 7, 19] ?_
    refine cd ?_ ?_
    · intro h16_2
      have hr : (neS o) x = true := by simpa using h16_2
      refine sq ?_
      refine rg 6000 ?_
      refine pr [0, 2, 4, 6, 7, 19] ?_
      refine k_ret ?_
      show retQ _ _ _ _ _ _ _
      simp [*]
    · intro h16_2
      have hr : (neS o) x = false := by simpa using h16_2
      refine k_skip ?_
      refine k_nil ?_
      show AK _ _ _ _ _ _
      refine rg 7000 ?_
      refine k_nil ?_
      refine ⟨n - 1, by omega, _, ⟨?_, ?_, ?_⟩, i + 1, by omega, by rw [hfa, hfd, hr, if_neg (by simp)], rfl⟩ <;> simp [*]
  · intro h9_1
    have hge : ss.length ≤ i := by simpa using h9_1
    have hfe : firstP (neS o) (ss.drop i) i = -1 := by rw [List.drop_eq_nil_of_le hge]; rfl
    refine k_exit ?_
    show AK _ _ _ _ _ _
    refine sq ?_
    refine rg 8000 ?_
    refine pr [4, 5] ?_
    refine k_ret ?_
    show retQ _ _ _ _ _ _ _
    simp [*]

attribute [local simp] firstP_any in
theorem spec62b (ss : List (List Int)) (o : List Int) (hlen : ss.length ≤ Flat.lim) (hs8 : ∀ s ∈ ss, s.length ≤ 8) : Flat.Sp Try.prog 62 [.p (.ps (ss.map srow)), .fn (.func 117) [.ptr 0 0]] [(.var 0, .n 1), (.cell 0 0, .av (.p (.ps (o.map trow))))] (vv (.bool (ss.any (neS o)))) [(.var 0, .n 1), (.cell 0 0, .av (.p (.ps (o.map trow))))] := by
  refine sk Try.func62 ?_
  intro F G hn hG
  refine sq ?_
  refine rg 1000 ?_
  refine pr [0, 2, 4, 9] ?_
  refine sq ?_
  refine rc 2000 ?_
  refine oc id (spec118b ss o hlen hs8) ?_
  refine oe 2100 ?_
  refine on ?_
  refine pr [4, 5] ?_
  refine k_ret ?_
  show retQ _ _ _ _ _ _ _
  simp [*]

attribute [local simp] Pl.av in
theorem spec59_1 (S A : List (List Int)) (nd : Nat) (m : Int) (kids : List Pl) (ex : List E) (cols wth : List Int) (agg rds : Int) (w : Int) : Flat.Sp Try.prog 59 [.ptr 0 0, (Pl.mk 1 m kids ex cols wth agg rds).av] [(.var 0, .n 3), (.cell 0 0, .av (vv (.int .i64 (w)))), (.cell 0 1, .av (.p (.ps (S.map srow)))), (.cell 0 2, .av (.sl 1 (A).length 0 (nd))), (.arr 1, .arr 45 1 ((A).map srow) 0)] (.p (.ps ((oneR S m).map trow))) [(.var 0, .n 3), (.cell 0 0, .av (vv (.int .i64 (oneW S m w)))), (.cell 0 1, .av (.p (.ps (S.map srow)))), (.cell 0 2, .av (.sl 1 (A).length 0 (nd))), (.arr 1, .arr 45 1 ((A).map srow) 0)] := by
  refine sk Try.func59 ?_
  intro F G hn hG
  refine sq ?_
  refine rg 1000 ?_
  refine pr [0, 1, 3, 64, 65, 85, 86, 108, 109, 123, 124, 125] ?_
  refine sq ?_
  refine sq ?_
  refine rg 2000 ?_
  refine pr [0, 1, 3, 9, 10, 64, 65, 85, 86, 108, 109, 123, 124, 125] ?_
  refine k_block ?_
  refine sq ?_
  refine rg 3000 ?_
  refine pr [0, 1, 3, 9, 10, 12, 13, 64, 65, 85, 86, 108, 109, 123, 124, 125] ?_
  refine ct ?_
  refine sq ?_
  refine dr ?_
  refine de 4000 ?_
  refine dc id (spec109 S A nd S m w) ?_
  refine de 4100 ?_
  refine dn ?_
  refine pr [0, 1, 3, 9, 43, 64, 65, 85, 86, 108, 109, 123, 124, 125] ?_
  refine k_ret ?_
  show retQ _ _ _ _ _ _ _
  simp [*]

attribute [local simp] Pl.av in
theorem spec59_2n (S A : List (List Int)) (nd : Nat) (m : Int) (kids : List Pl) (ex : List E) (cols wth : List Int) (agg rds : Int) (w : Int) (hm : decide (m < 0) = true) : Flat.Sp Try.prog 59 [.ptr 0 0, (Pl.mk 2 m kids ex cols wth agg rds).av] [(.var 0, .n 3), (.cell 0 0, .av (vv (.int .i64 (w)))), (.cell 0 1, .av (.p (.ps (S.map srow)))), (.cell 0 2, .av (.sl 1 (A).length 0 (nd))), (.arr 1, .arr 45 1 ((A).map srow) 0)] (.p (.ps ([].map trow))) [(.var 0, .n 3), (.cell 0 0, .av (vv (.int .i64 (unlessF w false 1)))), (.cell 0 1, .av (.p (.ps (S.map srow)))), (.cell 0 2, .av (.sl 1 (A).length 0 (nd))), (.arr 1, .arr 45 1 ((A).map srow) 0)] := by
  refine sk Try.func59 ?_
  intro F G hn hG
  refine sq ?_
  refine rg 1000 ?_
  refine pr [0, 1, 3, 64, 65, 85, 86, 108, 109, 123, 124, 125] ?_
  refine sq ?_
  refine sq ?_
  refine rg 2000 ?_
  refine pr [0, 1, 3, 9, 10, 64, 65, 85, 86, 108, 109, 123, 124, 125] ?_
  refine k_block ?_
  refine sq ?_
  refine rg 3000 ?_
  refine pr [0, 1, 3, 9, 10, 12, 13, 64, 65, 85, 86, 108, 109, 123, 124, 125] ?_
  refine ce ?_
  refine sq ?_
  refine rg 5000 ?_
  refine pr [0, 1, 3, 9, 21, 22, 23, 64, 65, 85, 86, 108, 109, 123, 124, 125] ?_
  refine ct ?_
  refine sq ?_
  refine sq ?_
  refine rg 6000 ?_
  refine pr [0, 1, 3, 9, 25, 64, 65, 85, 86, 108, 109, 123, 124, 125] ?_
  refine ct ?_
  refine sq ?_
  refine rc 7000 ?_
  refine oc id (spec109 S A nd [] 0 w) ?_
  refine oe 7100 ?_
  refine on ?_
  refine pr [0, 1, 3, 9, 28, 64, 65, 85, 86, 108, 109, 123, 124, 125] ?_
  refine k_ret ?_
  show retQ _ _ _ _ _ _ _
  simp [*, oneR, oneW, offI]

attribute [local simp] Pl.av in
theorem spec59_2 (S A : List (List Int)) (nd : Nat) (m : Int) (kids : List Pl) (ex : List E) (cols wth : List Int) (agg rds : Int) (w : Int) (hnA : nd ≤ A.length) (hm : decide (m < 0) = false) : Flat.Sp Try.prog 59 [.ptr 0 0, (Pl.mk 2 m kids ex cols wth agg rds).av] [(.var 0, .n 3), (.cell 0 0, .av (vv (.int .i64 (w)))), (.cell 0 1, .av (.p (.ps (S.map srow)))), (.cell 0 2, .av (.sl 1 (A).length 0 (nd))), (.arr 1, .arr 45 1 ((A).map srow) 0)] (.p (.ps ((oneR (A.take nd) (varI nd m)).map trow))) [(.var 0, .n 3), (.cell 0 0, .av (vv (.int .i64 (oneW (A.take nd) (varI nd m) w)))), (.cell 0 1, .av (.p (.ps (S.map srow)))), (.cell 0 2, .av (.sl 1 (A).length 0 (nd))), (.arr 1, .arr 45 1 ((A).map srow) 0)] := by
  refine sk Try.func59 ?_
  intro F G hn hG
  refine sq ?_
  refine rg 1000 ?_
  refine pr [0, 1, 3, 64, 65, 85, 86, 108, 109, 123, 124, 125] ?_
  refine sq ?_
  refine sq ?_
  refine rg 2000 ?_
  refine pr [0, 1, 3, 9, 10, 64, 65, 85, 86, 108, 109, 123, 124, 125] ?_
  refine k_block ?_
  refine sq ?_
  refine rg 3000 ?_
  refine pr [0, 1, 3, 9, 10, 12, 13, 64, 65, 85, 86, 108, 109, 123, 124, 125] ?_
  refine ce ?_
  refine sq ?_
  refine rg 5000 ?_
  refine pr [0, 1, 3, 9, 21, 22, 23, 64, 65, 85, 86, 108, 109, 123, 124, 125] ?_
  refine ct ?_
  refine sq ?_
  refine sq ?_
  refine rg 6000 ?_
  refine pr [0, 1, 3, 9, 25, 64, 65, 85, 86, 108, 109, 123, 124, 125] ?_
  refine ce ?_
  refine k_skip ?_
  refine sq ?_
  refine dr ?_
  refine de 8000 ?_
  refine dc id (spec109o S A nd hnA (varI nd m) w) ?_ (hg := by simp [*, varI]) (hf := by simp [*, varI]; exact is_rfl _) (hx := by simp [*, varI]; exact is_rfl _) (hargs := by simp [*, varI]) (hB := by simp [*, varI]) (hL := by simp [*, varI]) (hd := by simp [*, varI]; exact is_rfl _)
  refine de 8100 ?_
  refine dn ?_
  refine pr [0, 1, 3, 9, 43, 64, 65, 85, 86, 108, 109, 123, 124, 125] ?_
  refine k_ret ?_
  show retQ _ _ _ _ _ _ _
  simp [*, varI]

attribute [local simp] Pl.av in
theorem spec59_err (S A : List (List Int)) (nd : Nat) (k m : Int) (kids : List Pl) (ex : List E) (cols wth : List Int) (agg rds : Int) (l : List (List Int)) (hk1 : (k == 1) = false) (hk2 : (k == 2) = false) (w w1 : Int) (A1 : List (List Int)) (hK : Flat.Sp Try.prog 110 [.ptr 0 0, (Pl.mk k m kids ex cols wth agg rds).av] [(.var 0, .n 3), (.cell 0 0, .av (vv (.int .i64 (w)))), (.cell 0 1, .av (.p (.ps (S.map srow)))), (.cell 0 2, .av (.sl 1 (A).length 0 (nd))), (.arr 1, .arr 45 1 ((A).map srow) 0)] (.p (.ps (l.map srow))) [(.var 0, .n 3), (.cell 0 0, .av (vv (.int .i64 (w1)))), (.cell 0 1, .av (.p (.ps (S.map srow)))), (.cell 0 2, .av (.sl 1 (A1).length 0 (nd))), (.arr 1, .arr 45 1 ((A1).map srow) 0)]) (hw1 : (w1 != 0) = true) : Flat.Sp Try.prog 59 [.ptr 0 0, (Pl.mk k m kids ex cols wth agg rds).av] [(.var 0, .n 3), (.cell 0 0, .av (vv (.int .i64 (w)))), (.cell 0 1, .av (.p (.ps (S.map srow)))), (.cell 0 2, .av (.sl 1 (A).length 0 (nd))), (.arr 1, .arr 45 1 ((A).map srow) 0)] (.p (.ps ([].map trow))) [(.var 0, .n 3), (.cell 0 0, .av (vv (.int .i64 (w1)))), (.cell 0 1, .av (.p (.ps (S.map srow)))), (.cell 0 2, .av (.sl 1 (A1).length 0 (nd))), (.arr 1, .arr 45 1 ((A1).map srow) 0)] := by
  refine sk Try.func59 ?_
  intro F G hn hG
  refine sq ?_
  refine rg 1000 ?_
  refine pr [0, 1, 3, 64, 65, 85, 86, 108, 109, 123, 124, 125] ?_
  refine sq ?_
  refine sq ?_
  refine rg 2000 ?_
  refine pr [0, 1, 3, 9, 10, 64, 65, 85, 86, 108, 109, 123, 124, 125] ?_
  refine k_block ?_
  refine sq ?_
  refine rg 3000 ?_
  refine pr [0, 1, 3, 9, 10, 12, 13, 64, 65, 85, 86, 108, 109, 123, 124, 125] ?_
  refine ce ?_
  refine sq ?_
  refine rg 5000 ?_
  refine pr [0, 1, 3, 9, 21, 22, 23, 64, 65, 85, 86, 108, 109, 123, 124, 125] ?_
  refine ce ?_
  refine k_skip ?_
  refine k_nil ?_
  show AK _ _ _ _ _ _
  refine sq ?_
  refine rc 9000 ?_
  refine oc id (hK) ?_
  refine oe 9100 ?_
  refine on ?_
  refine pr [0, 1, 3, 9, 46, 64, 65, 85, 86, 108, 109, 123, 124, 125] ?_
  refine sq ?_
  refine sq ?_
  refine rg 10000 ?_
  refine pr [0, 1, 3, 9, 51, 64, 65, 85, 86, 108, 109, 123, 124, 125] ?_
  refine ct ?_
  refine sq ?_
  refine rg 11000 ?_
  refine pr [0, 1, 3, 9, 52, 64, 65, 85, 86, 108, 109, 123, 124, 125] ?_
  refine k_ret ?_
  show retQ _ _ _ _ _ _ _
  simp [*]

attribute [local simp] Pl.av in
theorem spec59_3 (S A : List (List Int)) (nd : Nat) (m : Int) (kids : List Pl) (ex : List E) (cols wth : List Int) (agg rds : Int) (o : List Int) (ho8 : o.length ≤ 8) (he : ex.length ≤ Bnd) (w w1 : Int) (A1 : List (List Int)) (hK : Flat.Sp Try.prog 110 [.ptr 0 0, (Pl.mk 3 m kids ex cols wth agg rds).av] [(.var 0, .n 3), (.cell 0 0, .av (vv (.int .i64 (w)))), (.cell 0 1, .av (.p (.ps (S.map srow)))), (.cell 0 2, .av (.sl 1 (A).length 0 (nd))), (.arr 1, .arr 45 1 ((A).map srow) 0)] (.p (.ps ([srow o]))) [(.var 0, .n 3), (.cell 0 0, .av (vv (.int .i64 (w1)))), (.cell 0 1, .av (.p (.ps (S.map srow)))), (.cell 0 2, .av (.sl 1 (A1).length 0 (nd))), (.arr 1, .arr 45 1 ((A1).map srow) 0)]) (hw1 : (w1 != 0) = false)  : Flat.Sp Try.prog 59 [.ptr 0 0, (Pl.mk 3 m kids ex cols wth agg rds).av] [(.var 0, .n 3), (.cell 0 0, .av (vv (.int .i64 (w)))), (.cell 0 1, .av (.p (.ps (S.map srow)))), (.cell 0 2, .av (.sl 1 (A).length 0 (nd))), (.arr 1, .arr 45 1 ((A).map srow) 0)] (.p (.ps ((ex.map (fun e => (inferE o e).1)).map trow))) [(.var 0, .n 3), (.cell 0 0, .av (vv (.int .i64 (unlessF (exsW o ex w1) (decide (((ex.map (fun e => (inferE o e).1)).length : Int) ≤ 8)) 2)))), (.cell 0 1, .av (.p (.ps (S.map srow)))), (.cell 0 2, .av (.sl 1 (A1).length 0 (nd))), (.arr 1, .arr 45 1 ((A1).map srow) 0)] := by
  refine sk Try.func59 ?_
  intro F G hn hG
  have hol : o.length ≤ Flat.lim := Nat.le_trans ho8 (by simp [Flat.lim])
  have hmm : (ex.map (fun e => (inferE o e).1)).map trow = ex.map (fun e => [PV.v (.int .u8 (inferE o e).1)]) := by simp [trow, Function.comp_def]
  refine sq ?_
  refine rg 1000 ?_
  refine pr [0, 1, 3, 64, 65, 85, 86, 108, 109, 123, 124, 125] ?_
  refine sq ?_
  refine sq ?_
  refine rg 2000 ?_
  refine pr [0, 1, 3, 9, 10, 64, 65, 85, 86, 108, 109, 123, 124, 125] ?_
  refine k_block ?_
  refine sq ?_
  refine rg 3000 ?_
  refine pr [0, 1, 3, 9, 10, 12, 13, 64, 65, 85, 86, 108, 109, 123, 124, 125] ?_
  refine ce ?_
  refine sq ?_
  refine rg 5000 ?_
  refine pr [0, 1, 3, 9, 21, 22, 23, 64, 65, 85, 86, 108, 109, 123, 124, 125] ?_
  refine ce ?_
  refine k_skip ?_
  refine k_nil ?_
  show AK _ _ _ _ _ _
  refine sq ?_
  refine rc 9000 ?_
  refine oc id (hK) ?_
  refine oe 9100 ?_
  refine on ?_
  refine pr [0, 1, 3, 9, 46, 64, 65, 85, 86, 108, 109, 123, 124, 125] ?_
  refine sq ?_
  refine sq ?_
  refine rg 10000 ?_
  refine pr [0, 1, 3, 9, 51, 64, 65, 85, 86, 108, 109, 123, 124, 125] ?_
  refine ce ?_
  refine k_skip ?_
  refine sq ?_
  refine rg 12000 ?_ (h := by simp [*, srow]; exact is_rfl _)
  refine pr [0, 1, 3, 9, 55, 64, 65, 85, 86, 108, 109, 123, 124, 125] ?_
  refine sq ?_
  refine sq ?_
  refine rg 13000 ?_
  refine pr [0, 1, 3, 9, 56, 64, 65, 85, 86, 108, 109, 123, 124, 125] ?_
  refine k_block ?_
  refine sq ?_
  refine rg 15000 ?_
  refine pr [0, 1, 3, 9, 56, 64, 65, 66, 67, 85, 86, 108, 109, 123, 124, 125] ?_
  refine ct ?_
  refine rc 16000 ?_
  refine oc id (spec111 S A1 nd o hol ex he w1) ?_
  refine oe 16100 ?_
  refine on ?_
  refine k_nil ?_
  show AK _ _ _ _ _ _
  refine sq ?_
  refine dr ?_
  refine de 25000 ?_
  refine dc id (spec112 S A1 nd (exsW o ex w1) (decide (((ex.map (fun e => (inferE o e).1)).length : Int) ≤ 8)) 2) ?_
  refine dn ?_
  refine pr [4, 5, 6, 7, 124, 125] ?_
  refine sq ?_
  refine rg 26000 ?_
  refine pr [4, 5] ?_
  refine k_ret ?_
  show retQ _ _ _ _ _ _ _
  simp [*]

attribute [local simp] Pl.av in
theorem spec59_4 (S A : List (List Int)) (nd : Nat) (m : Int) (kids : List Pl) (e : E) (cols wth : List Int) (agg rds : Int) (o : List Int) (ho8 : o.length ≤ 8) (w w1 : Int) (A1 : List (List Int)) (hK : Flat.Sp Try.prog 110 [.ptr 0 0, (Pl.mk 4 m kids [e] cols wth agg rds).av] [(.var 0, .n 3), (.cell 0 0, .av (vv (.int .i64 (w)))), (.cell 0 1, .av (.p (.ps (S.map srow)))), (.cell 0 2, .av (.sl 1 (A).length 0 (nd))), (.arr 1, .arr 45 1 ((A).map srow) 0)] (.p (.ps ([srow o]))) [(.var 0, .n 3), (.cell 0 0, .av (vv (.int .i64 (w1)))), (.cell 0 1, .av (.p (.ps (S.map srow)))), (.cell 0 2, .av (.sl 1 (A1).length 0 (nd))), (.arr 1, .arr 45 1 ((A1).map srow) 0)]) (hw1 : (w1 != 0) = false)  : Flat.Sp Try.prog 59 [.ptr 0 0, (Pl.mk 4 m kids [e] cols wth agg rds).av] [(.var 0, .n 3), (.cell 0 0, .av (vv (.int .i64 (w)))), (.cell 0 1, .av (.p (.ps (S.map srow)))), (.cell 0 2, .av (.sl 1 (A).length 0 (nd))), (.arr 1, .arr 45 1 ((A).map srow) 0)] (.p (.ps ((o).map trow))) [(.var 0, .n 3), (.cell 0 0, .av (vv (.int .i64 (unlessF (unlessF (exsW o [e] w1) ((inferE o e).1 == 1) 11) (decide (((o).length : Int) ≤ 8)) 2)))), (.cell 0 1, .av (.p (.ps (S.map srow)))), (.cell 0 2, .av (.sl 1 (A1).length 0 (nd))), (.arr 1, .arr 45 1 ((A1).map srow) 0)] := by
  refine sk Try.func59 ?_
  intro F G hn hG
  have hol : o.length ≤ Flat.lim := Nat.le_trans ho8 (by simp [Flat.lim])
  refine sq ?_
  refine rg 1000 ?_
  refine pr [0, 1, 3, 64, 65, 85, 86, 108, 109, 123, 124, 125] ?_
  refine sq ?_
  refine sq ?_
  refine rg 2000 ?_
  refine pr [0, 1, 3, 9, 10, 64, 65, 85, 86, 108, 109, 123, 124, 125] ?_
  refine k_block ?_
  refine sq ?_
  refine rg 3000 ?_
  refine pr [0, 1, 3, 9, 10, 12, 13, 64, 65, 85, 86, 108, 109, 123, 124, 125] ?_
  refine ce ?_
  refine sq ?_
  refine rg 5000 ?_
  refine pr [0, 1, 3, 9, 21, 22, 23, 64, 65, 85, 86, 108, 109, 123, 124, 125] ?_
  refine ce ?_
  refine k_skip ?_
  refine k_nil ?_
  show AK _ _ _ _ _ _
  refine sq ?_
  refine rc 9000 ?_
  refine oc id (hK) ?_
  refine oe 9100 ?_
  refine on ?_
  refine pr [0, 1, 3, 9, 46, 64, 65, 85, 86, 108, 109, 123, 124, 125] ?_
  refine sq ?_
  refine sq ?_
  refine rg 10000 ?_
  refine pr [0, 1, 3, 9, 51, 64, 65, 85, 86, 108, 109, 123, 124, 125] ?_
  refine ce ?_
  refine k_skip ?_
  refine sq ?_
  refine rg 12000 ?_ (h := by simp [*, srow]; exact is_rfl _)
  refine pr [0, 1, 3, 9, 55, 64, 65, 85, 86, 108, 109, 123, 124, 125] ?_
  refine sq ?_
  refine sq ?_
  refine rg 13000 ?_
  refine pr [0, 1, 3, 9, 56, 64, 65, 85, 86, 108, 109, 123, 124, 125] ?_
  refine k_block ?_
  refine sq ?_
  refine rg 15000 ?_
  refine pr [0, 1, 3, 9, 56, 64, 65, 66, 67, 85, 86, 108, 109, 123, 124, 125] ?_
  refine ce ?_
  refine sq ?_
  refine rg 17000 ?_
  refine pr [0, 1, 3, 9, 56, 64, 72, 73, 74, 85, 86, 108, 109, 123, 124, 125] ?_
  refine ct ?_
  refine dr ?_
  refine de 18000 ?_
  refine dc id (spec111 S A1 nd o hol [e] (by simp [Bnd]) w1) ?_
  refine de 18100 ?_
  refine dc id (spec112 S A1 nd (exsW o [e] w1) ((inferE o e).1 == 1) 11) ?_
  refine dn ?_
  refine k_nil ?_
  show AK _ _ _ _ _ _
  refine sq ?_
  refine dr ?_
  refine de 25000 ?_
  refine dc id (spec112 S A1 nd (unlessF (exsW o [e] w1) ((inferE o e).1 == 1) 11) (decide (((o).length : Int) ≤ 8)) 2) ?_
  refine dn ?_
  refine pr [4, 5, 6, 7, 124, 125] ?_
  refine sq ?_
  refine rg 26000 ?_
  refine pr [4, 5] ?_
  refine k_ret ?_
  show retQ _ _ _ _ _ _ _
  simp [*]

attribute [local simp] Pl.av in
theorem spec59_7 (S A : List (List Int)) (nd : Nat) (m : Int) (kids : List Pl) (ex : List E) (cols wth : List Int) (agg rds : Int) (o1 o2 : List Int) (ho1 : o1.length ≤ 8) (ho2 : o2.length ≤ 8) (hc : cols.length ≤ Bnd) (hw : wth.length ≤ Bnd) (w w1 : Int) (A1 : List (List Int)) (hK : Flat.Sp Try.prog 110 [.ptr 0 0, (Pl.mk 7 m kids ex cols wth agg rds).av] [(.var 0, .n 3), (.cell 0 0, .av (vv (.int .i64 (w)))), (.cell 0 1, .av (.p (.ps (S.map srow)))), (.cell 0 2, .av (.sl 1 (A).length 0 (nd))), (.arr 1, .arr 45 1 ((A).map srow) 0)] (.p (.ps ([srow o1, srow o2]))) [(.var 0, .n 3), (.cell 0 0, .av (vv (.int .i64 (w1)))), (.cell 0 1, .av (.p (.ps (S.map srow)))), (.cell 0 2, .av (.sl 1 (A1).length 0 (nd))), (.arr 1, .arr 45 1 ((A1).map srow) 0)]) (hw1 : (w1 != 0) = false)  : Flat.Sp Try.prog 59 [.ptr 0 0, (Pl.mk 7 m kids ex cols wth agg rds).av] [(.var 0, .n 3), (.cell 0 0, .av (vv (.int .i64 (w)))), (.cell 0 1, .av (.p (.ps (S.map srow)))), (.cell 0 2, .av (.sl 1 (A).length 0 (nd))), (.arr 1, .arr 45 1 ((A).map srow) 0)] (.p (.ps ((o1 ++ o2).map trow))) [(.var 0, .n 3), (.cell 0 0, .av (vv (.int .i64 (unlessF (unlessF (atL o2 wth (atL o1 cols w1).2).2 ((atL o1 cols w1).1 == (atL o2 wth (atL o1 cols w1).2).1) 11) (decide (((o1 ++ o2).length : Int) ≤ 8)) 2)))), (.cell 0 1, .av (.p (.ps (S.map srow)))), (.cell 0 2, .av (.sl 1 (A1).length 0 (nd))), (.arr 1, .arr 45 1 ((A1).map srow) 0)] := by
  refine sk Try.func59 ?_
  intro F G hn hG
  have hla := atL_len o1 cols w1
  have hlb := atL_len o2 wth (atL o1 cols w1).2
  have ht1 : ((atL o1 cols w1).1.map trow).take (atL o1 cols w1).1.length = (atL o1 cols w1).1.map trow := List.take_of_length_le (by simp)
  have ht2 : ((atL o2 wth (atL o1 cols w1).2).1.map trow).take (atL o2 wth (atL o1 cols w1).2).1.length = (atL o2 wth (atL o1 cols w1).2).1.map trow := List.take_of_length_le (by simp)
  refine sq ?_
  refine rg 1000 ?_
  refine pr [0, 1, 3, 64, 65, 85, 86, 108, 109, 123, 124, 125] ?_
  refine sq ?_
  refine sq ?_
  refine rg 2000 ?_
  refine pr [0, 1, 3, 9, 10, 64, 65, 85, 86, 108, 109, 123, 124, 125] ?_
  refine k_block ?_
  refine sq ?_
  refine rg 3000 ?_
  refine pr [0, 1, 3, 9, 10, 12, 13, 64, 65, 85, 86, 108, 109, 123, 124, 125] ?_
  refine ce ?_
  refine sq ?_
  refine rg 5000 ?_
  refine pr [0, 1, 3, 9, 21, 22, 23, 64, 65, 85, 86, 108, 109, 123, 124, 125] ?_
  refine ce ?_
  refine k_skip ?_
  refine k_nil ?_
  show AK _ _ _ _ _ _
  refine sq ?_
  refine rc 9000 ?_
  refine oc id (hK) ?_
  refine oe 9100 ?_
  refine on ?_
  refine pr [0, 1, 3, 9, 46, 64, 65, 85, 86, 108, 109, 123, 124, 125] ?_
  refine sq ?_
  refine sq ?_
  refine rg 10000 ?_
  refine pr [0, 1, 3, 9, 51, 64, 65, 85, 86, 108, 109, 123, 124, 125] ?_
  refine ce ?_
  refine k_skip ?_
  refine sq ?_
  refine rg 12000 ?_ (h := by simp [*, srow]; exact is_rfl _)
  refine pr [0, 1, 3, 9, 55, 64, 65, 85, 86, 108, 109, 123, 124, 125] ?_
  refine sq ?_
  refine sq ?_
  refine rg 13000 ?_
  refine pr [0, 1, 3, 9, 56, 64, 65, 85, 86, 108, 109, 123, 124, 125] ?_
  refine k_block ?_
  refine sq ?_
  refine rg 15000 ?_
  refine pr [0, 1, 3, 9, 56, 64, 65, 66, 67, 85, 86, 108, 109, 123, 124, 125] ?_
  refine ce ?_
  refine sq ?_
  refine rg 17000 ?_
  refine pr [0, 1, 3, 9, 56, 64, 72, 73, 74, 85, 86, 108, 109, 123, 124, 125] ?_
  refine ce ?_
  refine sq ?_
  refine rg 19000 ?_
  refine pr [0, 1, 3, 9, 56, 64, 86, 87, 88, 108, 109, 123, 124, 125] ?_
  refine ct ?_
  refine sq ?_
  refine dr ?_
  refine de 20000 ?_ (h := by simp [*, srow]; exact is_rfl _)
  refine dc (fun k => if k = 900 then 20500 else k) (spec113 S A1 nd o1 cols hc w1) ?_ (hg := by simp [*, srow]) (hf := by simp [*, srow]; exact is_rfl _) (hx := by simp [*, srow]; exact is_rfl _) (hargs := by simp [*, srow]) (hB := by simp [*, srow]) (hL := by simp [*, srow]) (hd := by simp [*, srow]; exact is_rfl _)
  refine de 20100 ?_ (h := by simp [*, srow]; exact is_rfl _)
  refine dc (fun k => if k = 900 then 20600 else k) (spec113 S A1 nd o2 wth hw (atL o1 cols w1).2) ?_ (hg := by simp [*, srow]) (hf := by simp [*, srow]; exact is_rfl _) (hx := by simp [*, srow]; exact is_rfl _) (hargs := by simp [*, srow]) (hB := by simp [*, srow]) (hL := by simp [*, srow]) (hd := by simp [*, srow]; exact is_rfl _)
  refine de 20200 ?_ (h := by simp [*, srow]; exact is_rfl _)
  refine dn ?_
  refine pr [0, 1, 4, 9, 102, 108, 109, 111, 117, 123, 124, 125] ?_
  refine fz 20500 ?_
  refine fz 20600 ?_
  refine sq ?_
  refine dr ?_
  refine de 21000 ?_
  refine dc id (spec114 (atL o1 cols w1).1 (atL o2 wth (atL o1 cols w1).2).1 (Bnd_lim (Nat.le_trans hla hc))) ?_
  refine dc id (spec112 S A1 nd (atL o2 wth (atL o1 cols w1).2).2 ((atL o1 cols w1).1 == (atL o2 wth (atL o1 cols w1).2).1) 11) ?_
  refine dn ?_
  refine pr [0, 1, 4, 7, 109, 111, 117, 123, 124, 125] ?_
  refine rc 22000 ?_ (h := by simp [*, srow]; exact is_rfl _)
  refine oc id (spec115 o1 o2 ho1 ho2) ?_ (hg := by simp [*, srow]) (hf := by simp [*, srow]; exact is_rfl _) (hx := by simp [*, srow]; exact is_rfl _) (hargs := by simp [*, srow]) (hB := by simp [*, srow]) (hL := by simp [*, srow]) (hd := by simp [*, srow]; exact is_rfl _)
  refine oe 22100 ?_ (h := by simp [*, srow]; exact is_rfl _)
  refine on ?_
  refine k_nil ?_
  show AK _ _ _ _ _ _
  refine sq ?_
  refine dr ?_
  refine de 25000 ?_
  refine dc id (spec112 S A1 nd (unlessF (atL o2 wth (atL o1 cols w1).2).2 ((atL o1 cols w1).1 == (atL o2 wth (atL o1 cols w1).2).1) 11) (decide (((o1 ++ o2).length : Int) ≤ 8)) 2) ?_
  refine dn ?_
  refine pr [4, 5, 6, 7, 124, 125] ?_
  refine sq ?_
  refine rg 26000 ?_
  refine pr [4, 5] ?_
  refine k_ret ?_
  show retQ _ _ _ _ _ _ _
  simp [*]

attribute [local simp] Pl.av in
theorem spec59_8 (S A : List (List Int)) (nd : Nat) (m : Int) (kids : List Pl) (ex : List E) (cols wth : List Int) (agg rds : Int) (o : List Int) (ho8 : o.length ≤ 8) (hc : cols.length ≤ Bnd) (w w1 : Int) (A1 : List (List Int)) (hK : Flat.Sp Try.prog 110 [.ptr 0 0, (Pl.mk 8 m kids ex cols wth agg rds).av] [(.var 0, .n 3), (.cell 0 0, .av (vv (.int .i64 (w)))), (.cell 0 1, .av (.p (.ps (S.map srow)))), (.cell 0 2, .av (.sl 1 (A).length 0 (nd))), (.arr 1, .arr 45 1 ((A).map srow) 0)] (.p (.ps ([srow o]))) [(.var 0, .n 3), (.cell 0 0, .av (vv (.int .i64 (w1)))), (.cell 0 1, .av (.p (.ps (S.map srow)))), (.cell 0 2, .av (.sl 1 (A1).length 0 (nd))), (.arr 1, .arr 45 1 ((A1).map srow) 0)]) (hw1 : (w1 != 0) = false)  : Flat.Sp Try.prog 59 [.ptr 0 0, (Pl.mk 8 m kids ex cols wth agg rds).av] [(.var 0, .n 3), (.cell 0 0, .av (vv (.int .i64 (w)))), (.cell 0 1, .av (.p (.ps (S.map srow)))), (.cell 0 2, .av (.sl 1 (A).length 0 (nd))), (.arr 1, .arr 45 1 ((A).map srow) 0)] (.p (.ps (((redR o cols m agg w1).1).map trow))) [(.var 0, .n 3), (.cell 0 0, .av (vv (.int .i64 (unlessF ((redR o cols m agg w1).2) (decide ((((redR o cols m agg w1).1).length : Int) ≤ 8)) 2)))), (.cell 0 1, .av (.p (.ps (S.map srow)))), (.cell 0 2, .av (.sl 1 (A1).length 0 (nd))), (.arr 1, .arr 45 1 ((A1).map srow) 0)] := by
  refine sk Try.func59 ?_
  intro F G hn hG
  refine sq ?_
  refine rg 1000 ?_
  refine pr [0, 1, 3, 64, 65, 85, 86, 108, 109, 123, 124, 125] ?_
  refine sq ?_
  refine sq ?_
  refine rg 2000 ?_
  refine pr [0, 1, 3, 9, 10, 64, 65, 85, 86, 108, 109, 123, 124, 125] ?_
  refine k_block ?_
  refine sq ?_
  refine rg 3000 ?_
  refine pr [0, 1, 3, 9, 10, 12, 13, 64, 65, 85, 86, 108, 109, 123, 124, 125] ?_
  refine ce ?_
  refine sq ?_
  refine rg 5000 ?_
  refine pr [0, 1, 3, 9, 21, 22, 23, 64, 65, 85, 86, 108, 109, 123, 124, 125] ?_
  refine ce ?_
  refine k_skip ?_
  refine k_nil ?_
  show AK _ _ _ _ _ _
  refine sq ?_
  refine rc 9000 ?_
  refine oc id (hK) ?_
  refine oe 9100 ?_
  refine on ?_
  refine pr [0, 1, 3, 9, 46, 64, 65, 85, 86, 108, 109, 123, 124, 125] ?_
  refine sq ?_
  refine sq ?_
  refine rg 10000 ?_
  refine pr [0, 1, 3, 9, 51, 64, 65, 85, 86, 108, 109, 123, 124, 125] ?_
  refine ce ?_
  refine k_skip ?_
  refine sq ?_
  refine rg 12000 ?_ (h := by simp [*, srow]; exact is_rfl _)
  refine pr [0, 1, 3, 9, 55, 64, 65, 85, 86, 108, 109, 123, 124, 125] ?_
  refine sq ?_
  refine sq ?_
  refine rg 13000 ?_
  refine pr [0, 1, 3, 9, 56, 64, 65, 85, 86, 108, 109, 123, 124, 125] ?_
  refine k_block ?_
  refine sq ?_
  refine rg 15000 ?_
  refine pr [0, 1, 3, 9, 56, 64, 65, 66, 67, 85, 86, 108, 109, 123, 124, 125] ?_
  refine ce ?_
  refine sq ?_
  refine rg 17000 ?_
  refine pr [0, 1, 3, 9, 56, 64, 72, 73, 74, 85, 86, 108, 109, 123, 124, 125] ?_
  refine ce ?_
  refine sq ?_
  refine rg 19000 ?_
  refine pr [0, 1, 3, 9, 56, 64, 86, 87, 88, 108, 109, 123, 124, 125] ?_
  refine ce ?_
  refine sq ?_
  refine rg 23000 ?_
  refine pr [0, 1, 3, 7, 57, 64, 111, 112, 113, 123, 124, 125] ?_
  refine ct ?_
  refine rc 24000 ?_
  refine oc id (spec116 S A1 nd 8 m kids ex cols wth agg rds hc o w1) ?_
  refine oe 24100 ?_
  refine on ?_
  refine k_nil ?_
  show AK _ _ _ _ _ _
  refine sq ?_
  refine dr ?_
  refine de 25000 ?_
  refine dc id (spec112 S A1 nd ((redR o cols m agg w1).2) (decide ((((redR o cols m agg w1).1).length : Int) ≤ 8)) 2) ?_
  refine dn ?_
  refine pr [4, 5, 6, 7, 124, 125] ?_
  refine sq ?_
  refine rg 26000 ?_
  refine pr [4, 5] ?_
  refine k_ret ?_
  show retQ _ _ _ _ _ _ _
  simp [*]

attribute [local simp] Pl.av in
theorem spec59_d (S A : List (List Int)) (nd : Nat) (k m : Int) (kids : List Pl) (ex : List E) (cols wth : List Int) (agg rds : Int) (o : List Int) (q : List (List Int)) (hql : (o :: q).length ≤ Flat.lim) (hq8 : ∀ s ∈ o :: q, s.length ≤ 8) (hk1 : (k == 1) = false) (hk2 : (k == 2) = false) (hk3 : (k == 3) = false) (hk4 : (k == 4) = false) (hk7 : (k == 7) = false) (hk8 : (k == 8) = false) (w w1 : Int) (A1 : List (List Int)) (hK : Flat.Sp Try.prog 110 [.ptr 0 0, (Pl.mk k m kids ex cols wth agg rds).av] [(.var 0, .n 3), (.cell 0 0, .av (vv (.int .i64 (w)))), (.cell 0 1, .av (.p (.ps (S.map srow)))), (.cell 0 2, .av (.sl 1 (A).length 0 (nd))), (.arr 1, .arr 45 1 ((A).map srow) 0)] (.p (.ps ((o :: q).map srow))) [(.var 0, .n 3), (.cell 0 0, .av (vv (.int .i64 (w1)))), (.cell 0 1, .av (.p (.ps (S.map srow)))), (.cell 0 2, .av (.sl 1 (A1).length 0 (nd))), (.arr 1, .arr 45 1 ((A1).map srow) 0)]) (hw1 : (w1 != 0) = false)  : Flat.Sp Try.prog 59 [.ptr 0 0, (Pl.mk k m kids ex cols wth agg rds).av] [(.var 0, .n 3), (.cell 0 0, .av (vv (.int .i64 (w)))), (.cell 0 1, .av (.p (.ps (S.map srow)))), (.cell 0 2, .av (.sl 1 (A).length 0 (nd))), (.arr 1, .arr 45 1 ((A).map srow) 0)] (.p (.ps ((o).map trow))) [(.var 0, .n 3), (.cell 0 0, .av (vv (.int .i64 (unlessF (unlessF w1 (!((o :: q).any (neS o))) 11) (decide (((o).length : Int) ≤ 8)) 2)))), (.cell 0 1, .av (.p (.ps (S.map srow)))), (.cell 0 2, .av (.sl 1 (A1).length 0 (nd))), (.arr 1, .arr 45 1 ((A1).map srow) 0)] := by
  refine sk Try.func59 ?_
  intro F G hn hG
  refine sq ?_
  refine rg 1000 ?_
  refine pr [0, 1, 3, 64, 65, 85, 86, 108, 109, 123, 124, 125] ?_
  refine sq ?_
  refine sq ?_
  refine rg 2000 ?_
  refine pr [0, 1, 3, 9, 10, 64, 65, 85, 86, 108, 109, 123, 124, 125] ?_
  refine k_block ?_
  refine sq ?_
  refine rg 3000 ?_
  refine pr [0, 1, 3, 9, 10, 12, 13, 64, 65, 85, 86, 108, 109, 123, 124, 125] ?_
  refine ce ?_
  refine sq ?_
  refine rg 5000 ?_
  refine pr [0, 1, 3, 9, 21, 22, 23, 64, 65, 85, 86, 108, 109, 123, 124, 125] ?_
  refine ce ?_
  refine k_skip ?_
  refine k_nil ?_
  show AK _ _ _ _ _ _
  refine sq ?_
  refine rc 9000 ?_
  refine oc id (hK) ?_
  refine oe 9100 ?_
  refine on ?_
  refine pr [0, 1, 3, 9, 46, 64, 65, 85, 86, 108, 109, 123, 124, 125] ?_
  refine sq ?_
  refine sq ?_
  refine rg 10000 ?_
  refine pr [0, 1, 3, 9, 51, 64, 65, 85, 86, 108, 109, 123, 124, 125] ?_
  refine ce ?_
  refine k_skip ?_
  refine sq ?_
  refine rg 12000 ?_ (h := by simp [*, srow]; exact is_rfl _)
  refine pr [0, 1, 3, 9, 55, 64, 65, 85, 86, 108, 109, 123, 124, 125] ?_
  refine sq ?_
  refine sq ?_
  refine rg 13000 ?_
  refine pr [0, 1, 3, 9, 56, 64, 65, 85, 86, 108, 109, 123, 124, 125] ?_
  refine k_block ?_
  refine sq ?_
  refine rg 15000 ?_
  refine pr [0, 1, 3, 9, 56, 64, 65, 66, 67, 85, 86, 108, 109, 123, 124, 125] ?_
  refine ce ?_
  refine sq ?_
  refine rg 17000 ?_
  refine pr [0, 1, 3, 9, 56, 64, 72, 73, 74, 85, 86, 108, 109, 123, 124, 125] ?_
  refine ce ?_
  refine sq ?_
  refine rg 19000 ?_
  refine pr [0, 1, 3, 9, 56, 64, 86, 87, 88, 108, 109, 123, 124, 125] ?_
  refine ce ?_
  refine sq ?_
  refine rg 23000 ?_
  refine pr [0, 1, 3, 7, 57, 64, 111, 112, 113, 123, 124, 125] ?_
  refine ce ?_
  refine dr ?_
  refine de 14000 ?_
  refine dk [12003] (fun _ => 12003) (spec62b (o :: q) o hql hq8) ?_
  refine de 14100 ?_
  refine dc id (spec112 S A1 nd w1 (!((o :: q).any (neS o))) 11) ?_
  refine dn ?_
  refine k_nil ?_
  show AK _ _ _ _ _ _
  refine sq ?_
  refine dr ?_
  refine de 25000 ?_
  refine dc id (spec112 S A1 nd (unlessF w1 (!((o :: q).any (neS o))) 11) (decide (((o).length : Int) ≤ 8)) 2) ?_
  refine dn ?_
  refine pr [4, 5, 6, 7, 124, 125] ?_
  refine sq ?_
  refine rg 26000 ?_
  refine pr [4, 5] ?_
  refine k_ret ?_
  show retQ _ _ _ _ _ _ _
  simp [*]

end Go.Proofs
end
section
set_option linter.unusedVariables false
set_option linter.unusedSimpArgs false
namespace Go.Proofs
open Go.Flat
set_option maxRecDepth 100000
set_option linter.unusedSimpArgs false
set_option linter.unusedVariables false
attribute [local simp] Bool.and_assoc Bool.or_assoc evalG evalX efD skF guardG guardL isCall stepL evalOp ev evs lk tmpsL app AV.ok fresh vv putCells insV ins del putL place Go.Flat.look fillC fillR getCells loadF storeF binF scalarBin intBin strBin isShift shiftBin unF lenF maxF minF rowsF appendF builtinF idxF natOf sliceP sliceF optEv Flat.cut overwrite toPV toPVs constAV scalarC scalarCs AV.cells TI.isAgg allSome andAll scalarEq buildable Go.Flat.lim retQ resL resAll resOne PartOf noTmp closedIn refs refs.refsL isSomeV hasB ids leA leA.leL renA renA.renL callB refsAll backL dropIds renS LiesAt injB ownB freshB memN locId insAll leA_refl leL_refl okS frzS frzA frzA.frzL evalD feet fine updCells cellsFrom memP footRf footWf noTmpU updIds opOps opIds idsA footR footW guardTs opTs dstTs callR callW renLoc renC inBlockQ thenQ Value.oneCell' IntKind.bits IntKind.signed

theorem formed_shape {k m : Int} {nk : Nat} {ex : List E} {cols wth : List Int} {agg rds : Int} (h : formedP k m nk ex cols wth agg rds = true) : okP1 k nk = true ∧ (k = 4 → ex.length = 1) := by
  have h2 : okP2 k m nk ex cols wth agg rds = true := by
    unfold formedP at h
    split at h
    · exact (Bool.and_eq_true _ _ ▸ h).1
    · split at h
      · exact (Bool.and_eq_true _ _ ▸ h).1
      · split at h
        · exact (Bool.and_eq_true _ _ ▸ h).1
        · exact h
  refine ⟨(Bool.and_eq_true _ _ ▸ h2).1, ?_⟩
  rintro rfl
  have : (okP2 4 m nk ex cols wth agg rds && ((ex.length : Int) == 1)) = true := h
  simp only [Bool.and_eq_true, beq_iff_eq] at this
  omega
theorem kinds {k : Int} {nk : Nat} (h : okP1 k nk = true) : ((k = 1 ∨ k = 2) ∧ nk = 0) ∨ ((k = 3 ∨ k = 4 ∨ k = 8) ∧ nk = 1) ∨ (k = 7 ∧ nk = 2) ∨ ((k == 1) = false ∧ (k == 2) = false ∧ (k == 3) = false ∧ (k == 4) = false ∧ (k == 7) = false ∧ (k == 8) = false ∧ 0 < nk ∧ ((k == 10) = true → nk = 2)) := by
  simp only [okP1, Bool.and_eq_true, decide_eq_true_eq] at h
  obtain ⟨h1, h2, h3⟩ := h
  have : k = 1 ∨ k = 2 ∨ k = 3 ∨ k = 4 ∨ k = 5 ∨ k = 6 ∨ k = 7 ∨ k = 8 ∨ k = 9 ∨ k = 10 := by omega
  rcases this with rfl | rfl | rfl | rfl | rfl | rfl | rfl | rfl | rfl | rfl <;> simp [manyP] at h3 ⊢ <;> omega
theorem one_of_len {α : Type} {l : List α} (h : l.length = 1) : ∃ x, l = [x] := List.length_eq_one_iff.1 h
theorem jdg_other (S : List (List Int)) {k : Int} (h1 : (k == 1) = false) (h2 : (k == 2) = false) (m : Int) (kids : List Pl) (ex : List E) (cols wth : List Int) (agg rds : Int) (nd : Nat) (w : Int) (A : List (List Int)) {l : List (List Int)} {w1 : Int} {A1 : List (List Int)} (hr : jdgK S k kids nd w A = (l, w1, A1)) :
    jdg S (.mk k m kids ex cols wth agg rds) nd w A = if w1 != 0 then ([], w1, A1) else ((finJ k m ex cols wth agg l w1).1, (finJ k m ex cols wth agg l w1).2, A1) := by
  rw [jdg]
  simp only [h1, h2, Bool.false_eq_true, if_false]
  unfold jdgK at hr
  rw [hr]

def JSp (S : List (List Int)) (p : Pl) (d : Nat) : Prop := ∀ (nd : Nat) (w : Int) (A : List (List Int)), nd < d → nd ≤ A.length → A.length ≤ 16 → Sh A nd w → Flat.Sp Try.prog 59 [.ptr 0 0, p.av] [(.var 0, .n 3), (.cell 0 0, .av (vv (.int .i64 (w)))), (.cell 0 1, .av (.p (.ps (S.map srow)))), (.cell 0 2, .av (.sl 1 (A).length 0 (nd))), (.arr 1, .arr 45 1 ((A).map srow) 0)] (.p (.ps ((jdg S p nd w A).1.map trow))) [(.var 0, .n 3), (.cell 0 0, .av (vv (.int .i64 ((jdg S p nd w A).2.1)))), (.cell 0 1, .av (.p (.ps (S.map srow)))), (.cell 0 2, .av (.sl 1 ((jdg S p nd w A).2.2).length 0 (nd))), (.arr 1, .arr 45 1 (((jdg S p nd w A).2.2).map srow) 0)]
theorem spec59 (S : List (List Int)) (hS : ∀ s ∈ S, s.length ≤ 8) : ∀ (p : Pl), p.bnd → ∀ d, p.good d → JSp S p d := by
  refine Pl.ind fun k m kids ex cols wth agg rds ih hb d hg nd w A hnd hnA hA hSh => ?_
  rw [Pl.good] at hg
  obtain ⟨hd, hf, hex, hgl⟩ := hg
  rw [Pl.bnd] at hb
  obtain ⟨hbk, hbe, hbc, hbw, hbl⟩ := hb
  obtain ⟨hok, he4⟩ := formed_shape hf
  have ih' : ∀ x ∈ kids, JSp S x (d + 1) := fun x hx => ih x hx (Pl.bndL_mem hbl x hx) (d + 1) (Pl.goodL_mem hgl x hx)
  have hK2 : (k == 10) = true → kids.length = 2 := by
    intro h10
    obtain rfl : k = 10 := eq_of_beq h10
    have := (kinds hok)
    simp at this
    exact this.2
  have hK := spec110 S A nd k m kids ex cols wth agg rds hK2 hbk hS d hd hgl hnd hnA hA w hSh ih'
  have hrow := jdgK_rows S k nd kids w A
  have hLO := jdgK_ok hS (k := k) hd hgl hnd hnA hA hSh
  obtain ⟨l, w1, A1, hr⟩ : ∃ l w1 A1, jdgK S k kids nd w A = (l, w1, A1) := ⟨_, _, _, rfl⟩
  rw [hr] at hK hrow hLO
  simp only at hK hrow
  rcases kinds hok with ⟨rfl | rfl, hn⟩ | ⟨h348, hn⟩ | ⟨rfl, hn⟩ | ⟨h1, h2, h3, h4, h7, h8, hn, -⟩
  · have : jdg S (.mk 1 m kids ex cols wth agg rds) nd w A = (oneR S m, oneW S m w, A) := by rw [jdg]; rfl
    rw [this]
    exact spec59_1 S A nd m kids ex cols wth agg rds w
  · cases hm : decide (m < 0) with
    | true =>
      have : jdg S (.mk 2 m kids ex cols wth agg rds) nd w A = ([], unlessF w false 1, A) := by rw [jdg, hm]; rfl
      rw [this]
      exact spec59_2n S A nd m kids ex cols wth agg rds w hm
    | false =>
      have : jdg S (.mk 2 m kids ex cols wth agg rds) nd w A = (oneR (A.take nd) (varI nd m), oneW (A.take nd) (varI nd m) w, A) := by rw [jdg, hm]; rfl
      rw [this]
      exact spec59_2 S A nd m kids ex cols wth agg rds w hnA hm
  · have h1 : (k == 1) = false := by rcases h348 with rfl | rfl | rfl <;> rfl
    have h2 : (k == 2) = false := by rcases h348 with rfl | rfl | rfl <;> rfl
    rw [jdg_other S h1 h2 m kids ex cols wth agg rds nd w A hr]
    cases hw : (w1 != 0) with
    | true => exact spec59_err S A nd k m kids ex cols wth agg rds l h1 h2 w w1 A1 hK hw
    | false =>
      obtain ⟨o, rfl⟩ := one_of_len (hrow.trans hn)
      have h8 := (hLO (by simpa using hw)).2
      have ho := h8 o (by simp)
      simp only [Bool.false_eq_true, if_false]
      rcases h348 with rfl | rfl | rfl
      · exact spec59_3 S A nd m kids ex cols wth agg rds o ho hbe w w1 A1 hK hw
      · obtain ⟨e, rfl⟩ := one_of_len (he4 rfl)
        exact spec59_4 S A nd m kids e cols wth agg rds o ho w w1 A1 hK hw
      · exact spec59_8 S A nd m kids ex cols wth agg rds o ho hbc w w1 A1 hK hw
  · rw [jdg_other S rfl rfl m kids ex cols wth agg rds nd w A hr]
    cases hw : (w1 != 0) with
    | true => exact spec59_err S A nd 7 m kids ex cols wth agg rds l rfl rfl w w1 A1 hK hw
    | false =>
      obtain ⟨o1, o2, rfl⟩ := Flat.two_of_length (hrow.trans hn)
      have h8 := (hLO (by simpa using hw)).2
      simp only [Bool.false_eq_true, if_false]
      exact spec59_7 S A nd m kids ex cols wth agg rds o1 o2 (h8 o1 (by simp)) (h8 o2 (by simp)) hbc hbw w w1 A1 hK hw
  · rw [jdg_other S h1 h2 m kids ex cols wth agg rds nd w A hr]
    cases hw : (w1 != 0) with
    | true => exact spec59_err S A nd k m kids ex cols wth agg rds l h1 h2 w w1 A1 hK hw
    | false =>
      obtain ⟨o, q, rfl⟩ : ∃ o q, l = o :: q := by
        cases l with
        | nil => simp at hrow; omega
        | cons o q => exact ⟨o, q, rfl⟩
      have hl8 := (hLO (by simpa using hw)).2
      simp only [Bool.false_eq_true, if_false]
      have hfin : finJ k m ex cols wth agg (o :: q) w1 = (o, unlessF (unlessF w1 (!((o :: q).any (neS o))) 11) (decide ((o.length : Int) ≤ 8)) 2) := by
        simp only [finJ, finR, h3, h4, h7, h8, Bool.false_eq_true, if_false]
        rfl
      rw [hfin]
      exact spec59_d S A nd k m kids ex cols wth agg rds o q (by rw [hrow]; exact Bnd_lim hbk) hl8 h1 h2 h3 h4 h7 h8 w w1 A1 hK hw

end Go.Proofs
end
section
set_option linter.unusedVariables false
set_option linter.unusedSimpArgs false
namespace Go.Proofs
open Go.Flat
theorem inferP_zero {ss : List (List Int)} {p : Pl} (h : (inferP ss p).2 = 0) : checkSch ss = 0 ∧ checkP p = 0 ∧ (jdg ss p 0 0 []).2.1 = 0 ∧ (inferP ss p).1 = (jdg ss p 0 0 []).1 := by
  unfold inferP at h ⊢
  split at h
  · rename_i h1; simp only at h; simp [h] at h1
  · rename_i h1
    rw [if_neg h1]
    split at h
    · rename_i h2; simp only at h; simp [h] at h2
    · rename_i h2
      rw [if_neg h2]
      split at h
      · rename_i h3; simp only at h; simp [h] at h3
      · rename_i h3
        rw [if_neg h3]
        exact ⟨by simpa using h1, by simpa using h2, by simpa using h3, rfl⟩
end Go.Proofs
end
section
set_option linter.unusedVariables false
set_option linter.unusedSimpArgs false
namespace Go.Proofs
open Go.Flat
set_option linter.unusedSimpArgs false
set_option linter.unusedVariables false
theorem formed_kids {k m : Int} {nk : Nat} {ex : List E} {cols wth : List Int} {agg rds : Int} (h : formedP k m nk ex cols wth agg rds = true) : okP1 k nk = true := by
  have : okP2 k m nk ex cols wth agg rds = true := by
    unfold formedP at h
    split at h
    · simp only [Bool.and_eq_true] at h; exact h.1
    · split at h
      · simp only [Bool.and_eq_true] at h; exact h.1
      · split at h
        · simp only [Bool.and_eq_true] at h; exact h.1
        · exact h
  unfold okP2 at this
  simp only [Bool.and_eq_true] at this
  exact this.1
theorem formed_two {k m : Int} {nk : Nat} {ex : List E} {cols wth : List Int} {agg rds : Int} (h : formedP k m nk ex cols wth agg rds = true) (hk : (k == 10) = true) : nk = 2 := by
  have := formed_kids h
  have hk' : k = 10 := by simpa using hk
  subst hk'
  simp [okP1, manyP] at this
  omega
mutual
/-- Variables lead to loops around, sources to sources. -/
def Pl.sok : Pl → Nat → Prop
  | .mk k m kids _ _ _ _ _, n => (k = 1 → 0 ≤ m ∧ m < n) ∧ Pl.sokL kids n
def Pl.sokL : List Pl → Nat → Prop
  | [], _ => True
  | x :: r, n => x.sok n ∧ Pl.sokL r n
end
theorem offI_in {m : Int} {l : List (List Int)} (h : offI m l = false) : 0 ≤ m ∧ m < l.length := by
  simp [offI] at h
  omega
theorem oneW_in {l : List (List Int)} {i w : Int} (h : oneW l i w = 0) : offI i l = false := by
  unfold oneW at h
  split at h
  · exact absurd (unlessF_zero2 (by decide) h).2 (by decide)
  · rename_i hh; simpa using hh
theorem lpL_le {k : Int} : ∀ {l : List Pl} {i : Nat} {x : Pl}, x ∈ l → x.lp ≤ Pl.lpL k i l
  | e :: r, i, x, h => by
    rw [Pl.lpL]
    rcases List.mem_cons.1 h with rfl | h
    · omega
    · have := lpL_le (k := k) (i := i + 1) h; omega
/-- What the judge's silence says. -/
def Fine (S : List (List Int)) (p : Pl) : Prop := ∀ nd w A, nd + p.lp ≤ 2 → nd ≤ A.length → (jdg S p nd w A).2.1 = 0 → p.vok nd ∧ p.sok S.length
theorem jdgL_fine {S : List (List Int)} : ∀ {l : List Pl}, (∀ x ∈ l, Fine S x) → ∀ nd w A, (∀ x ∈ l, nd + x.lp ≤ 2) → nd ≤ A.length → (jdgL S l nd w A).2.1 = 0 → Pl.vokL l nd ∧ Pl.sokL l S.length
  | [], ih, nd, w, A, h1, h2, h => by simp [Pl.vokL, Pl.sokL]
  | x :: r, ih, nd, w, A, h1, h2, h => by
    simp only [jdgL] at h
    have hz := jdgL_zero h
    have hx := ih x (by simp) nd w A (h1 x (by simp)) h2 hz
    have hs := jdg_stk S x nd w A h2
    have hr := jdgL_fine (fun y hy => ih y (by simp [hy])) nd _ _ (fun y hy => h1 y (by simp [hy])) (Nat.le_trans h2 hs.1) h
    rw [Pl.vokL, Pl.sokL]
    exact ⟨⟨hx.1, hr.1⟩, hx.2, hr.2⟩
theorem jdg_fine (S : List (List Int)) : ∀ p : Pl, p.gd → Fine S p := by
  refine Pl.ind fun k m kids ex cols wth agg rds ih hg nd w A h1 h2 h => ?_
  rw [Pl.gd] at hg
  obtain ⟨hf, -, hgl⟩ := hg
  have ih' : ∀ x ∈ kids, Fine S x := fun x hx => ih x hx (Pl.gdL_mem hgl x hx)
  rw [Pl.vok, Pl.sok]
  rw [Pl.lp] at h1
  rw [jdg] at h
  split at h
  · rename_i hk
    have hk' : k = 1 := by simpa using hk
    subst hk'
    have hkids : kids = [] := by
      have := formed_kids hf
      simpa [okP1, manyP] using this
    subst hkids
    have hin := offI_in (oneW_in h)
    exact ⟨⟨fun h => absurd h (by decide), by simp [Pl.vokL]⟩, fun _ => hin, by simp [Pl.sokL]⟩
  · rename_i hk1
    split at h
    · rename_i hk
      have hk' : k = 2 := by simpa using hk
      subst hk'
      have hkids : kids = [] := by
        have := formed_kids hf
        simpa [okP1, manyP] using this
      subst hkids
      refine ⟨⟨fun _ => ?_, by simp [Pl.vokL]⟩, fun h => absurd h (by decide), by simp [Pl.sokL]⟩
      split at h
      · exact absurd (unlessF_zero2 (by decide) h).2 (by decide)
      · have hin := offI_in (oneW_in h)
        have hl : (A.take nd).length = nd := by simp; omega
        rw [hl] at hin
        exact hin
    · rename_i hk2
      have hr0 : (if k == 10 then jdgI S kids nd w A else jdgL S kids nd w A).2.1 = 0 := by
        generalize (if k == 10 then jdgI S kids nd w A else jdgL S kids nd w A) = r at h
        simp only at h
        split at h
        · rename_i hr
          simp only at h
          simp [h] at hr
        · rename_i hr
          simpa using hr
      have hk2' : k = 2 → 0 ≤ varI nd m ∧ varI nd m < nd := fun e => absurd (by simp [e]) hk2
      have hk1' : k = 1 → 0 ≤ m ∧ m < S.length := fun e => absurd (by simp [e]) hk1
      by_cases hk : (k == 10) = true
      · have h2l := formed_two hf hk
        have hk' : k = 10 := by simpa using hk
        subst hk'
        match kids, h2l with
        | [x, y], _ =>
        simp only [Pl.lpL, morN] at h1
        simp at h1
        simp only [beq_self_eq_true, if_true] at hr0 ⊢
        simp only [jdgI, jdgL] at hr0
        have hx0 := jdg_zero hr0
        have hs := jdg_stk S x nd w A h2
        have hx := ih' x (by simp) nd w A (by omega) h2 hx0
        have hpl := pushA_len (jdg S x nd w A).1 (Nat.le_trans h2 hs.1)
        have hy := ih' y (by simp) (nd + 1) _ _ (by omega) (by rw [hpl]; omega) hr0
        simp only [Pl.vokI, Pl.vokL, Pl.sokL]
        exact ⟨⟨hk2', by omega, hx.1, hy.1, trivial⟩, hk1', hx.2, hy.2, trivial⟩
      · rw [if_neg hk] at hr0 ⊢
        have hl := jdgL_fine ih' nd w A (fun x hx => by have := lpL_le (k := k) (i := 0) hx; omega) h2 hr0
        exact ⟨⟨hk2', hl.1⟩, hk1', hl.2⟩
/-- What a schema says of a plan. -/
theorem infer_fine {ss : List (List Int)} {p : Pl} (hs : p.size ≤ 2 ^ 40) (h : (inferP ss p).2 = 0) : p.fits ∧ p.vok 0 ∧ p.sok 8 := by
  obtain ⟨h1, h2, h3, _⟩ := inferP_zero h
  have hf := (checkP_iff hs).1 h2
  have := jdg_fine ss p hf.1 0 0 [] (by have := hf.2.2.2; omega) (by simp) h3
  have hl := (checkSch_ok h1).1
  refine ⟨hf, this.1, ?_⟩
  have mono : ∀ q : Pl, ∀ n n' : Nat, n ≤ n' → q.sok n → q.sok n' := by
    refine Pl.ind fun k m kids ex cols wth agg rds ih n n' hn hq => ?_
    rw [Pl.sok] at hq ⊢
    refine ⟨fun e => by have := hq.1 e; omega, ?_⟩
    have hL := hq.2
    clear hq
    induction kids with
    | nil => simp [Pl.sokL]
    | cons x r ihr =>
      rw [Pl.sokL] at hL ⊢
      exact ⟨ih x (by simp) n n' hn hL.1, ihr (fun y hy => ih y (by simp [hy])) hL.2⟩
  exact mono p _ 8 hl this.2
end Go.Proofs
end
section
set_option linter.unusedVariables false
set_option linter.unusedSimpArgs false
namespace Go.Proofs
open Go.Flat
set_option linter.unusedSimpArgs false
set_option linter.unusedVariables false
theorem pushG_irow (A : List Int) (nd : Nat) (x : Int) : (pushG A nd x).map irow = (A.map irow).take nd ++ [.v (.int .i64 x)] :: (A.map irow).drop (nd + 1) := by
  simp [pushG, irow]
theorem spec67 : ∀ p : Pl, p.bnd → p.gd → GSp p := by
  refine Pl.ind fun k m kids ex cols wth agg rds ih hb hg to nd s hv hrm => ?_
  obtain ⟨ns, A⟩ := s
  rw [Pl.bnd] at hb
  rw [Pl.gd] at hg
  obtain ⟨hbk, hbe, hbc, hbw, hbl⟩ := hb
  obtain ⟨hf, hge, hgl⟩ := hg
  rw [Pl.size] at hrm
  have ih' : ∀ x ∈ kids, GSp x := fun x hx => ih x hx (Pl.bndL_mem hbl x hx) (Pl.gdL_mem hgl x hx)
  have hv0 := hv
  rw [Pl.vok] at hv
  have hns : ns.length ≤ 200 := by have := hrm.len; simp only at this; omega
  have hnd := hrm.dep
  have haln := hrm.aln
  simp only at hnd haln
  rw [bld]
  by_cases h1 : (k == 1) = true
  · obtain rfl : k = 1 := by simpa using h1
    exact spec67_1 ns nd A m kids ex cols wth agg rds to (by omega) hnd
  · rw [if_neg h1]
    by_cases h2 : (k == 2) = true
    · obtain rfl : k = 2 := by simpa using h2
      rw [if_pos h2]
      obtain ⟨hv1, hv2⟩ := hv.1 rfl
      obtain ⟨j, hj⟩ := Int.eq_ofNat_of_zero_le hv1
      have hjn : j < nd := by rw [hj] at hv2; omega
      have hjA : j < A.length := by omega
      have hgA : A[j]? = some A[j] := by simp [hjA]
      have hmem : A[j] ∈ A.take nd := List.mem_iff_getElem?.2 ⟨j, by rw [List.getElem?_take, if_pos hjn]; exact hgA⟩
      obtain ⟨ha0, ha1⟩ := hrm.ard _ hmem
      simp only at ha1
      obtain ⟨i, hi⟩ := Int.eq_ofNat_of_zero_le ha0
      have hin : i < ns.length := by rw [hi] at ha1; omega
      have hgi : ns[i]? = some ns[i] := by simp [hin]
      have hxb := hrm.back ns[i] (List.getElem_mem hin)
      have hvj : varJ A nd m = i := by
        unfold varJ
        rw [hj]
        simp only [Int.ofNat_eq_natCast, Int.toNat_natCast, List.getD_eq_getElem?_getD, hgA, Option.getD_some, hi]
      rw [hvj]
      obtain ⟨x, hx⟩ : ∃ x, ns[i] = x := ⟨_, rfl⟩
      rw [hx] at hgi hxb
      obtain ⟨xk, ⟨pk, pn, pq, pe, pc, pw, pa, pg⟩, xn, xl, xr, xt, xb⟩ := x
      refine spec67_2 ns nd A m kids ex cols wth agg rds to (by omega) hnd (by omega) j hjn ?_ i (by rw [hgA, hi]) xk pk pn pq pe pc pw pa pg xn xl xr xt xb hgi (by simp only at hxb; omega)
      have hw : IntKind.i64.wrap ((nd : Int) - 1) = (nd : Int) - 1 := by rw [w64]; omega
      rw [← hw]
      exact hj
    · rw [if_neg h2]
      by_cases h10 : (k == 10) = true
      · obtain rfl : k = 10 := by simpa using h10
        rw [if_pos h10]
        have h2l := formed_two hf h10
        obtain ⟨-, hvI⟩ := hv
        rw [if_pos h10] at hvI
        obtain ⟨hn1, hvI⟩ := hvI
        match kids, h2l, hvI, ih', hrm with
        | [x, y], _, hvI, ih', hrm =>
        simp only [Pl.vokI, Pl.vokL] at hvI
        simp only [Pl.sizeL] at hrm
        obtain ⟨hvx, hvy, -⟩ := hvI
        have hg0 : Gw (ns, A) (ns ++ [loopN nd rds ns.length] ++ [leaveN nd rds to], A) nd 1 := by
          refine ⟨by simp, by simp, fun z hz => ?_, rfl, Nat.le_refl _, id⟩
          simp only [List.append_assoc, List.mem_append, List.mem_cons, List.not_mem_nil, or_false] at hz
          rcases hz with hz | hz | hz
          · exact .inr ⟨z, hz, by omega⟩
          · subst hz; exact .inl (by simp [loopN])
          · subst hz; exact .inl (by simp [leaveN])
        have hr0 := hg0.rm (d := x.size + (y.size + 0)) hrm
        have hgx := bld_gw x ⟨(ns.length : Int), 0⟩ nd _ hvx (Nat.le_trans hnd hg0.aln)
        have hr1 := hgx.rm (d := y.size + 0) hr0
        have hx := ih' x (by simp) ⟨(ns.length : Int), 0⟩ nd _ hvx (hr0.less (by omega))
        generalize hb1 : bld x ⟨(ns.length : Int), 0⟩ nd (ns ++ [loopN nd rds ns.length] ++ [leaveN nd rds to], A) = b1 at hx hgx hr1
        obtain ⟨ns2, A2⟩ := b1
        have hd2 := hr1.dep
        have hal2 := hr1.aln
        simp only at hd2 hal2 hx
        have hpl := pushG_len (ns.length : Int) hd2
        have hr2 : Rm (ns2, pushG A2 nd ns.length) (nd + 1) (y.size + 0) := by
          refine ⟨hr1.len, hr1.back, by simp only [hpl]; omega, by simp only [hpl]; omega, fun a ha => ?_⟩
          simp only at ha ⊢
          rw [take_pushG' _ hd2] at ha
          rcases List.mem_append.1 ha with ha | ha
          · exact hr1.ard a ha
          · simp only [List.mem_singleton] at ha
            subst ha
            have := hgx.len
            simp at this
            omega
        have hgy := bld_gw y ⟨(ns.length : Int), 1⟩ (nd + 1) _ hvy hr2.dep
        have hy := ih' y (by simp) ⟨(ns.length : Int), 1⟩ (nd + 1) _ hvy (hr2.less (by omega))
        have hbI : bldI [x, y] ns.length nd (ns ++ [loopN nd rds ns.length] ++ [leaveN nd rds to], A) = bld y ⟨(ns.length : Int), 1⟩ (nd + 1) (ns2, pushG A2 nd ns.length) := by
          simp only [bldI, bldL, hb1, if_true]
          rfl
        simp only [hbI]
        generalize bld y ⟨(ns.length : Int), 1⟩ (nd + 1) (ns2, pushG A2 nd ns.length) = b3 at hy hgy
        obtain ⟨ns3, A3⟩ := b3
        have e1 := hgx.len
        have e2 := hgy.len
        simp at e1 e2
        obtain ⟨xk, xn, xq, xe, xc, xw, xa, xr⟩ := x
        obtain ⟨yk, yn, yq, ye, yc, yw, ya, yr⟩ := y
        refine spec67_10 ns nd A m _ ex cols wth agg rds to (ns3, A3) (by simp only; omega) ?_
        rcases Nat.lt_or_eq_of_le hd2 with hlt | heq
        · exact spec122_1 ns ns2 ns3 nd A A2 (pushG A2 nd ns.length) A3 m ex cols wth agg rds to xk xn xq xe xc xw xa xr yk yn yq ye yc yw ya yr (by omega) (by omega) e2 hnd (by omega) (by omega) hlt (by rw [hpl]; omega) (pushG_irow ..).symm hx hy
        · subst heq
          exact spec122_0 ns ns2 ns3 A A2 (pushG A2 A2.length ns.length) A3 m ex cols wth agg rds to xk xn xq xe xc xw xa xr yk yn yq ye yc yw ya yr (by omega) (by omega) e2 hnd (by omega) (by omega) (by rw [hpl]; omega) (by rw [pushG_irow, List.take_of_length_le (by simp), List.drop_eq_nil_of_le (by simp)]) hx hy
      · rw [if_neg h10]
        obtain ⟨-, hvL⟩ := hv
        rw [if_neg h10] at hvL
        have hkl : kids.length ≤ 300 := by
          have hle : ∀ l : List Pl, l.length ≤ Pl.sizeL l := by
            intro l
            induction l with
            | nil => simp
            | cons z r ihr => obtain ⟨zk, zn, zq, ze, zc, zw, za, zr⟩ := z; simp only [List.length_cons, Pl.sizeL, Pl.size]; omega
          have := hle kids
          have := hrm.len
          simp only at this
          omega
        exact spec67_d ns nd A k m kids ex cols wth agg rds to (by simpa using h1) (by simpa using h2) (by simpa using h10) hbe hbc hbw (fun e he => checkE_good (hge e he)) hkl hvL hrm ih'
end Go.Proofs
end
section
set_option linter.unusedVariables false
set_option linter.unusedSimpArgs false
namespace Go.Proofs
open Go.Flat
set_option maxRecDepth 100000
set_option linter.unusedSimpArgs false
set_option linter.unusedVariables false
attribute [local simp] Bool.and_assoc Bool.or_assoc evalG evalX efD skF guardG guardL isCall stepL evalOp ev evs lk tmpsL app AV.ok fresh vv putCells insV ins del putL place Go.Flat.look fillC fillR getCells loadF storeF binF scalarBin intBin strBin isShift shiftBin unF lenF maxF minF rowsF appendF builtinF idxF natOf sliceP sliceF optEv Flat.cut overwrite toPV toPVs constAV scalarC scalarCs AV.cells TI.isAgg allSome andAll scalarEq buildable Go.Flat.lim retQ resL resAll resOne PartOf noTmp closedIn refs refs.refsL isSomeV hasB ids leA leA.leL renA renA.renL callB refsAll backL dropIds renS LiesAt injB ownB freshB memN locId insAll leA_refl leL_refl okS frzS frzA frzA.frzL evalD feet fine updCells cellsFrom memP footRf footWf noTmpU updIds opOps opIds idsA footR footW guardTs opTs dstTs callR callW renLoc renC inBlockQ thenQ Value.oneCell' IntKind.bits IntKind.signed callWk without

attribute [local simp] Pl.av inferP in
theorem spec29_mk (k m : Int) (kids : List Pl) (ex : List E) (cols wth : List Int) (agg rds : Int) (hb : (Pl.mk k m kids ex cols wth agg rds).bnd) (ss : List (List Int)) : Flat.Sp Try.prog 29 [(Pl.mk k m kids ex cols wth agg rds).av, .p (.ps (ss.map srow))] [] (.tup [.p (.ps ((inferP ss (Pl.mk k m kids ex cols wth agg rds)).1.map trow)), vv (.int .i64 (inferP ss (Pl.mk k m kids ex cols wth agg rds)).2)]) [] := by
  refine sk Try.func29 ?_
  intro F G hn hG
  refine sq ?_
  refine rg 1000 ?_
  refine pr [1, 3, 4, 39] ?_
  refine sq ?_
  refine sq ?_
  refine rc 2000 ?_
  refine oc id (spec30 ss) ?_
  refine oe 2100 ?_
  refine on ?_
  refine pr [1, 3, 4, 10, 12, 39] ?_
  refine sq ?_
  refine rg 3000 ?_
  refine pr [1, 3, 4, 10, 13, 39] ?_
  refine cd ?_ ?_
  · intro h13_1
    have h13_1 : (checkSch ss != 0) = true := by simpa using h13_1
    refine sq ?_
    refine rg 4000 ?_
    refine pr [1, 3, 4, 6, 7, 10, 15, 39] ?_
    refine k_ret ?_
    show retQ _ _ _ _ _ _ _
    simp [*]
  · intro h13_1
    have h13_1 : (checkSch ss != 0) = false := by simpa using h13_1
    have hsc := h13_1
    refine k_skip ?_
    refine sq ?_
    refine sq ?_
    refine rc 5000 ?_
    refine oc id (spec32 k m kids ex cols wth agg rds hb) ?_
    refine oe 5100 ?_
    refine on ?_
    refine pr [1, 3, 4, 6, 7, 10, 17, 39] ?_
    refine sq ?_
    refine rg 6000 ?_
    refine pr [1, 3, 4, 6, 7, 10, 18, 39] ?_
    refine cd ?_ ?_
    · intro h18_2
      have h18_2 : (checkP (Pl.mk k m kids ex cols wth agg rds) != 0) = true := by simpa using h18_2
      refine sq ?_
      refine rg 7000 ?_
      refine pr [1, 3, 4, 6, 8, 10, 20, 39] ?_
      refine k_ret ?_
      show retQ _ _ _ _ _ _ _
      simp [*]
    · intro h18_2
      have h18_2 : (checkP (Pl.mk k m kids ex cols wth agg rds) != 0) = false := by simpa using h18_2
      have hpc := h18_2
      refine k_skip ?_
      refine sq ?_
      refine rg 8000 ?_
      refine pr [2, 3, 4, 6, 8, 10, 23, 39] ?_
      refine ow (.cell 8002 2) 8900 45 1 ?_
      refine sq ?_
      refine rc 9000 ?_
      refine oc (fun k => if k = 0 then 8002 else if k = 1 then 8900 else k) (spec59 ss (checkSch_ok (by simpa using hsc)).2 (Pl.mk k m kids ex cols wth agg rds) hb 1 (checkP_good (by simpa using hpc)) 0 0 [] (by decide) (by decide) (by decide) (fun _ s hs => by simp at hs)) ?_
      refine oe 9100 ?_
      refine on ?_
      refine pr [4, 6, 8, 10, 26, 39] ?_
      refine sq ?_
      refine sq ?_
      refine rg 10000 ?_
      refine pr [4, 6, 8, 10, 31, 39] ?_
      refine cd ?_ ?_
      · intro h31_3
        have h31_3 : ((jdg ss (Pl.mk k m kids ex cols wth agg rds) 0 0 []).2.1 != 0) = true := by simpa using h31_3
        refine sq ?_
        refine dr ?_
        refine de 11000 ?_
        refine dn ?_
        refine pr [4, 6, 9, 10, 37, 39] ?_
        refine k_ret ?_
        show retQ _ _ _ _ _ _ _
        simp [*]
      · intro h31_3
        have h31_3 : ((jdg ss (Pl.mk k m kids ex cols wth agg rds) 0 0 []).2.1 != 0) = false := by simpa using h31_3
        have hl8 : (jdg ss (Pl.mk k m kids ex cols wth agg rds) 0 0 []).1.length ≤ Bnd := Nat.le_trans (jdg_ok (checkSch_ok (by simpa using hsc)).2 (Pl.mk k m kids ex cols wth agg rds) 1 (checkP_good (by simpa using hpc)) 0 0 [] (by decide) (by decide) (by decide) (fun _ s hs => by simp at hs) (by simpa using h31_3)).2 (by simp [Bnd])
        refine k_skip ?_
        refine sq ?_
        refine rc 12000 ?_
        refine oc id (spec60 (jdg ss (Pl.mk k m kids ex cols wth agg rds) 0 0 []).1 hl8) ?_
        refine oe 12100 ?_
        refine on ?_
        refine pr [4, 6] ?_
        refine k_ret ?_
        show retQ _ _ _ _ _ _ _
        simp [*]

end Go.Proofs
end
section
set_option linter.unusedVariables false
set_option linter.unusedSimpArgs false
namespace Go.Proofs
open Go.Flat
set_option maxRecDepth 100000
set_option linter.unusedSimpArgs false
set_option linter.unusedVariables false
attribute [local simp] Bool.and_assoc Bool.or_assoc evalG evalX efD skF guardG guardL isCall stepL evalOp ev evs lk tmpsL app AV.ok fresh vv putCells insV ins del putL place Go.Flat.look fillC fillR getCells loadF storeF binF scalarBin intBin strBin isShift shiftBin unF lenF maxF minF rowsF appendF builtinF idxF natOf sliceP sliceF optEv Flat.cut overwrite toPV toPVs constAV scalarC scalarCs AV.cells TI.isAgg allSome andAll scalarEq buildable Go.Flat.lim retQ resL resAll resOne PartOf noTmp closedIn refs refs.refsL isSomeV hasB ids leA leA.leL renA renA.renL callB refsAll backL dropIds renS LiesAt injB ownB freshB memN locId insAll leA_refl leL_refl okS frzS frzA frzA.frzL evalD feet fine updCells cellsFrom memP footRf footWf noTmpU updIds opOps opIds idsA footR footW guardTs opTs dstTs callR callW renLoc renC inBlockQ thenQ Value.oneCell' IntKind.bits IntKind.signed PV.up toPH toPHs

def outN : Nd := ⟨5, .zero, 0, 0, 0, [], []⟩
/-- A query's nodes, and what is wrong. -/
def bldG (ss : List (List Int)) (p : Pl) : List Nd × Int := if (inferP ss p).2 != 0 then ([], (inferP ss p).2) else ((bld p ⟨0, 0⟩ 0 ([outN], [])).1, 0)
theorem rm0 {p : Pl} (h : p.size ≤ 64) : Rm ([outN], []) 0 p.size := ⟨by simp; omega, by simp [outN]; omega, by simp, by simp, by simp⟩
@[simp] theorem famOK_nil {s : List (Flat.Loc × C)} {i : Nat} : famOK s i [] = true := by simp [famOK]
attribute [local simp] GS Pl.av

theorem spec66_o : Flat.Sp Try.prog 66 [.ptr 3 0, .agg [vv (.int .u8 5), vv (.int .u8 0), vv (.int .i64 0), .p (.ps []), .p (.ps []), .p (.ps []), .p (.ps []), vv (.int .u8 0), vv (.int .i64 0), vv (.int .i64 0), vv (.int .i64 0), vv (.int .i64 0), .psf [], .psf []], .p (.ps [])] (GS [] 0 []) (vv (.int .i64 0)) (GS [outN] 0 []) := spec66 [] 0 [] 5 0 0 [] [] [] [] 0 0 0 0 0 [] (by simp) (by simp) (by simp)

theorem spec34_mk (k m : Int) (kids : List Pl) (ex : List E) (cols wth : List Int) (agg rds : Int) (ss : List (List Int)) (hb : (Pl.mk k m kids ex cols wth agg rds).bnd) (hs : (Pl.mk k m kids ex cols wth agg rds).size ≤ 2 ^ 40) : Flat.Sp Try.prog 34 [(Pl.mk k m kids ex cols wth agg rds).av, .p (.ps (ss.map srow))] [] (.tup [.p (.ps ((bldG ss (Pl.mk k m kids ex cols wth agg rds)).1.map Nd.row)), vv (.int .i64 (bldG ss (Pl.mk k m kids ex cols wth agg rds)).2)]) [] := by
  refine sk Try.func34 ?_
  intro F G hn hG
  have hfin : (inferP ss (Pl.mk k m kids ex cols wth agg rds)).2 = 0 → Flat.Sp Try.prog 67 [.ptr 3 0, (Pl.mk k m kids ex cols wth agg rds).av, .agg [vv (.int .i64 0), vv (.int .i64 0)]] (GS [outN] 0 []) (.tup []) (GS (bld (Pl.mk k m kids ex cols wth agg rds) ⟨0, 0⟩ 0 ([outN], [])).1 0 (bld (Pl.mk k m kids ex cols wth agg rds) ⟨0, 0⟩ 0 ([outN], [])).2) ∧ 1 ≤ (bld (Pl.mk k m kids ex cols wth agg rds) ⟨0, 0⟩ 0 ([outN], [])).1.length := fun h0 => by
    have hfi := infer_fine hs h0
    exact ⟨spec67 _ hb hfi.1.1 ⟨0, 0⟩ 0 ([outN], []) hfi.2.1 (rm0 hfi.1.2.1), by simpa using (bld_gw (Pl.mk k m kids ex cols wth agg rds) ⟨0, 0⟩ 0 ([outN], []) hfi.2.1 (by simp)).len⟩
  refine sq ?_
  refine rg 1000 ?_
  refine pr [1, 3, 4, 6, 7, 30, 31, 35] ?_
  refine sq ?_
  refine sq ?_
  refine rc 2000 ?_
  refine oc id (spec29_mk k m kids ex cols wth agg rds hb ss) ?_
  refine oe 2100 ?_
  refine on ?_
  refine pr [2, 3, 4, 6, 7, 10, 16, 30, 31, 35] ?_
  refine sq ?_
  refine rg 3000 ?_
  refine pr [2, 3, 4, 6, 7, 10, 17, 30, 31, 35] ?_
  refine cd ?_ ?_
  · intro h17_1
    have hq : bldG ss (Pl.mk k m kids ex cols wth agg rds) = ([], (inferP ss (Pl.mk k m kids ex cols wth agg rds)).2) := if_pos h17_1
    refine sq ?_
    refine rg 4000 ?_
    refine pr [2, 3, 4, 6, 8, 10, 19, 30, 31, 35] ?_
    refine k_ret ?_
    show retQ _ _ _ _ _ _ _
    simp [*]
  · intro h17_1
    have hq : bldG ss (Pl.mk k m kids ex cols wth agg rds) = ((bld (Pl.mk k m kids ex cols wth agg rds) ⟨0, 0⟩ 0 ([outN], [])).1, 0) := if_neg (by rw [h17_1]; decide)
    have h0 : (inferP ss (Pl.mk k m kids ex cols wth agg rds)).2 = 0 := by simpa using h17_1
    obtain ⟨hsp, hl1⟩ := hfin h0
    refine k_skip ?_
    refine sq ?_
    refine rg 2 ?_
    refine pr [2, 3, 4, 6, 8, 10, 21, 30, 31, 35] ?_
    refine ow (.cell 3 0) 4294967296 75 14 ?_
    refine ow (.cell 3 1) 1 3 1 ?_
    refine sq ?_
    refine rc 6000 ?_
    refine ocI (spec66_o) ?_
    refine oe 6100 ?_
    refine on ?_
    refine pr [2, 3, 4, 6, 8, 10, 26, 30, 31, 35] ?_
    refine sq ?_
    refine rc 7000 ?_
    refine ocI (hsp) ?_
    refine on ?_
    refine pr [4, 6, 8, 9, 31, 35] ?_
    refine sq ?_
    refine rg 8000 ?_
    refine pr [4, 6] ?_
    refine fw 4294967296 ((bld (Pl.mk k m kids ex cols wth agg rds) ⟨0, 0⟩ 0 ([outN], [])).1.map Nd.row) (new := [(.tmp 4, .av (.p (.ps ((bld (Pl.mk k m kids ex cols wth agg rds) ⟨0, 0⟩ 0 ([outN], [])).1.map Nd.row)))), (.tmp 5, .av (vv (.int .i64 0)))]) ?_ (hz := frz_hrows _ _ (by intro i hi; simp [hi])) (hn := by simp [FwOK])
    refine k_ret ?_
    show retQ _ _ _ _ _ _ _
    simp [*]

theorem spec34 (p : Pl) (hb : p.bnd) (hs : p.size ≤ 2 ^ 40) (ss : List (List Int)) : Flat.Sp Try.prog 34 [p.av, .p (.ps (ss.map srow))] [] (.tup [.p (.ps ((bldG ss p).1.map Nd.row)), vv (.int .i64 (bldG ss p).2)]) [] := by
  obtain ⟨k, m, kids, ex, cols, wth, agg, rds⟩ := p
  exact spec34_mk k m kids ex cols wth agg rds ss hb hs

end Go.Proofs
end
section
set_option linter.unusedVariables false
set_option linter.unusedSimpArgs false
namespace Go.Proofs
open Go.Flat
set_option maxRecDepth 100000
set_option linter.unusedSimpArgs false
set_option linter.unusedVariables false
attribute [local simp] Bool.and_assoc Bool.or_assoc evalG evalX efD skF guardG guardL isCall stepL evalOp ev evs lk tmpsL app AV.ok fresh vv putCells insV ins del putL place Go.Flat.look fillC fillR getCells loadF storeF binF scalarBin intBin strBin isShift shiftBin unF lenF maxF minF rowsF appendF builtinF idxF natOf sliceP sliceF optEv Flat.cut overwrite toPV toPVs constAV scalarC scalarCs AV.cells TI.isAgg allSome andAll scalarEq buildable Go.Flat.lim retQ resL resAll resOne PartOf noTmp closedIn refs refs.refsL isSomeV hasB ids leA leA.leL renA renA.renL callB refsAll backL dropIds renS LiesAt injB ownB freshB memN locId insAll leA_refl leL_refl okS frzS frzA frzA.frzL evalD feet fine updCells cellsFrom memP footRf footWf noTmpU updIds opOps opIds idsA footR footW guardTs opTs dstTs callR callW renLoc renC inBlockQ thenQ Value.oneCell' IntKind.bits IntKind.signed PV.up toPH toPHs

attribute [local simp] Pl.row_eq Pl.av
def bndF (n : Int) (x : Nd) : Int := if (x.k == 3) && decide (n < 1099511627776) then IntKind.i64.wrap (n * IntKind.i64.wrap (x.rds + 1)) else n
def boundG (ns : List Nd) : Int := if checkG ns != 0 then 0 else ns.foldl bndF ns.length
theorem bndF_take {ns : List Nd} {n : Int} {i : Nat} {x : Nd} (h : ns[i]? = some x) : (ns.take (i + 1)).foldl bndF n = bndF ((ns.take i).foldl bndF n) x := by
  rw [List.take_add_one, h]; simp [List.foldl_append]

theorem check_len {ns : List Nd} (h : (checkG ns != 0) = false) : ns.length ≤ 129 := by
  have h0 : checkG ns = 0 := by simpa using h
  unfold checkG at h0
  split at h0
  · simp at h0
  · rename_i hh; simp at hh; omega

attribute [local simp] Nd.row in
theorem spec40 (ns : List Nd) (hb : ∀ x ∈ ns, x.bnd) : Flat.Sp Try.prog 40 [.p (.ps (ns.map Nd.row))] [] (vv (.int .i64 (boundG ns))) [] := by
  refine sk Try.func40 ?_
  intro F G hn hG
  refine sq ?_
  refine rg 1000 ?_
  refine pr [0, 1, 2, 4, 5, 31] ?_
  refine sq ?_
  refine sq ?_
  refine rc 2000 ?_
  refine oc id (spec38 ns hb) ?_
  refine oe 2100 ?_
  refine on ?_
  refine pr [0, 1, 2, 4, 5, 6, 8, 31] ?_
  refine cd ?_ ?_
  · intro h8_1
    have hfin : boundG ns = 0 := if_pos h8_1
    refine sq ?_
    refine rg 3000 ?_
    refine pr [0, 1, 2, 4, 5, 6, 9, 31] ?_
    refine k_ret ?_
    show retQ _ _ _ _ _ _ _
    simp [*]
  · intro h8_1
    have hfin : boundG ns = ns.foldl bndF ns.length := if_neg (by rw [h8_1]; decide)
    have hnl : ns.length ≤ 129 := check_len h8_1
    refine k_skip ?_
    refine sq ?_
    refine rg 4000 ?_
    refine pr [0, 1, 2, 4, 5, 6, 11, 31] ?_
    refine sq ?_
    refine sq ?_
    refine rg 5000 ?_
    refine pr [2, 4, 5, 6, 11, 31] ?_
    refine k_block ?_
    refine k_loop (fun n l => ∃ i, i + n = ns.length ∧ (True) ∧ l = [(.tmp 3, .av (vv (.int .i64 ((ns.take i).foldl bndF ns.length)))), (.tmp 11, .av (.p (.ps (ns.map Nd.row)))), (.tmp 12, .av (vv (.int .i64 ns.length))), (.tmp 13, .av (vv (.int .i64 i)))]) (ns.length) hG ⟨_, ⟨by simp, by simp, by simp⟩, 0, by simp, trivial, rfl⟩ ?_
    rintro n _ ⟨i, hin, hfa, rfl⟩
    refine sq ?_
    refine rg 6000 ?_
    refine pr [2, 4, 5, 6, 11, 31] ?_
    refine sq ?_
    refine cd ?_ ?_
    · intro h14_2
      have hlt : i < ns.length := by simpa using h14_2
      obtain ⟨x, hxe⟩ : ∃ x, ns[i] = x := ⟨_, rfl⟩
      have hx : ns[i]? = some x := by simp [hlt, hxe]
      have hw := wrap_succ (show i < Flat.lim by simp only [Flat.lim]; omega)
      have htk := bndF_take (n := ns.length) hx
      obtain ⟨xk, ⟨pk, pn, pq, pe, pc, pw, pa, pg⟩, xn, xl, xr, xt, xb⟩ := x
      refine k_skip ?_
      refine sq ?_
      refine k_block ?_
      refine sq ?_
      refine rg 7000 ?_
      refine pr [2, 4, 5, 6, 11, 31] ?_
      refine sq ?_
      refine rc 8000 ?_
      iterate 2 (first | refine gp 8150 ?_ | refine os ?_ | refine gt 8150 ?_)
      refine oe 8200 ?_
      refine on ?_
      refine pr [2, 4, 5, 6, 11, 31] ?_
      refine cd ?_ ?_
      · intro h23_3
        have hnx : ((ns.take (i + 1)).foldl bndF ns.length) = IntKind.i64.wrap (((ns.take i).foldl bndF ns.length) * IntKind.i64.wrap (xr + 1)) := by rw [htk]; exact if_pos h23_3
        clear htk
        refine rg 9000 ?_
        refine k_nil ?_
        show AK _ _ _ _ _ _
        refine rg 10000 ?_
        refine k_nil ?_
        refine ⟨n - 1, by omega, _, ⟨?_, ?_, ?_⟩, i + 1, by omega, trivial, rfl⟩ <;> simp [*]
      · intro h23_3
        have hnx : ((ns.take (i + 1)).foldl bndF ns.length) = ((ns.take i).foldl bndF ns.length) := by rw [htk]; exact if_neg (by rw [h23_3]; decide)
        clear htk
        refine k_skip ?_
        refine k_nil ?_
        show AK _ _ _ _ _ _
        refine rg 10000 ?_
        refine k_nil ?_
        refine ⟨n - 1, by omega, _, ⟨?_, ?_, ?_⟩, i + 1, by omega, trivial, rfl⟩ <;> simp [*]
    · intro h14_2
      have hge : ns.length ≤ i := by simpa using h14_2
      obtain rfl : i = ns.length := by omega
      have hta : ns.take ns.length = ns := List.take_length
      refine k_exit ?_
      show AK _ _ _ _ _ _
      refine sq ?_
      refine rg 11000 ?_
      refine pr [2, 3] ?_
      refine k_ret ?_
      show retQ _ _ _ _ _ _ _
      simp [*]

@[simp] theorem cnA (l : List Pl) : l.take l.length = l := List.take_length

end Go.Proofs
end
