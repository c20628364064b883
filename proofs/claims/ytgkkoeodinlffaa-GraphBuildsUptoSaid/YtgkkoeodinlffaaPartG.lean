/-
  The nodes that are built of a plan.
  Contracts: clones; own memory.
  Contracts: plans: own memory, by the document.
  Contracts: one more node.
  Nothing is left here.
  Nothing is left here.
  Nothing is left here.
  Nothing is left here.
  Plain laws of expressions: how many there are, sums, what an expression of a type comes to.
  Contracts: nodes of a source, of a variable.
  Contracts: nodes, by the document.
  Contracts: nodes of a loop.
  Contracts: nodes of any plan.
  Contracts: nodes of a loop, by the document.
  Plans: what a judgement hangs on.
  Contracts: plans: the schemas of a plan's kids.
  Contracts: plans: the schema of a plan.
  Contracts: plans: the schema of a plan, of whatever kind; the law functions of chapter 09.
  The plain laws of chapter 09.
  A plan that has a schema: its variables, its sources, its loops.
  Contracts: the nodes of any plan.
  Contracts: nodes of any plan, by the document.
  Contracts: plans: the schema of a plan; the law functions of chapter 09.
  Contracts: a query's nodes.
  Contracts: a query's nodes, by the document.
  The nodes of any plan, by the document.
-/
import Derived.Test.YtgkkoeodinlffaaPartE
import Derived.Test.YtgkkoeodinlffaaFlatF
section
set_option linter.unusedVariables false
set_option linter.unusedSimpArgs false
namespace Go.Proofs
open Go.Flat
set_option linter.unusedSimpArgs false
set_option linter.unusedVariables false
/-- A port of a node. -/
structure Prt where
  a : Int
  b : Int
def prow (p : Prt) : List PV := [.v (.int .i64 p.a), .v (.int .i64 p.b)]
def Pl.zero : Pl := .mk 0 0 [] [] [] [] 0 0
def Pl.bare : Pl → Pl
  | .mk k n _ ex c w a r => .mk k n [] ex c w a r
/-- A node. -/
structure Nd where
  k : Int
  pl : Pl
  n : Int
  loop : Int
  rds : Int
  to : List Prt
  back : List Prt
/-- The j-th node as it is while nodes are built: what goes back of it is an own array. -/
def Nd.hrow (j : Nat) (x : Nd) : List PV := .v (.int .u8 x.k) :: (x.pl.row ++ [.v (.int .i64 x.n), .v (.int .i64 x.loop), .v (.int .i64 x.rds), .ps (x.to.map prow), .han (fid j) x.back.length 0 x.back.length])
/-- A node as it is in the end. -/
def Nd.row (x : Nd) : List PV := .v (.int .u8 x.k) :: (x.pl.row ++ [.v (.int .i64 x.n), .v (.int .i64 x.loop), .v (.int .i64 x.rds), .ps (x.to.map prow), .ps (x.back.map prow)])
def hrows : Nat → List Nd → List (List PV)
  | _, [] => []
  | j, x :: r => x.hrow j :: hrows (j + 1) r
def tblN (ns : List Nd) : List (List (List PV)) := ns.map fun x => x.back.map prow
@[simp] theorem tblN_length (ns : List Nd) : (tblN ns).length = ns.length := by simp [tblN]
@[simp] theorem tblN_nil : tblN [] = [] := rfl
theorem tblN_snoc (ns : List Nd) (x : Nd) : tblN (ns ++ [x]) = tblN ns ++ [x.back.map prow] := by simp [tblN]
@[simp] theorem hrows_length : ∀ (ns : List Nd) (j : Nat), (hrows j ns).length = ns.length
  | [], _ => rfl
  | x :: r, j => by simp [hrows, hrows_length r]
theorem hrows_append : ∀ (a b : List Nd) (j : Nat), hrows j (a ++ b) = hrows j a ++ hrows (j + a.length) b
  | [], b, j => by simp [hrows]
  | x :: a, b, j => by
    simp only [List.cons_append, hrows, hrows_append a b, List.length_cons]
    rw [show j + 1 + a.length = j + (a.length + 1) by omega]
theorem hrows_at : ∀ (ns : List Nd) (j i : Nat), (hrows j ns)[i]? = (ns[i]?).map (Nd.hrow (j + i))
  | [], _, _ => by simp [hrows]
  | x :: r, j, 0 => by simp [hrows]
  | x :: r, j, i + 1 => by
    simp only [hrows, List.getElem?_cons_succ, hrows_at r]
    rw [show j + 1 + i = j + (i + 1) by omega]
@[simp] theorem famOK_hrows {s : List (Flat.Loc × C)} {ns : List Nd} (h : FamGe s ns.length) : famOK s 4294967296 (hrows 0 ns) = true := by
  have key : (hrows 0 ns).all (fun row => row.all fun x => match x with
    | .han k _ _ _ => (lk s (.arr k)).isSome
    | _ => true) = true := by
    simp only [List.all_eq_true]
    intro row hrow x hx
    obtain ⟨i, hi⟩ := List.mem_iff_getElem?.1 hrow
    rw [hrows_at, Nat.zero_add] at hi
    obtain ⟨y, hy, rfl⟩ := Option.map_eq_some_iff.1 hi
    have hlt : i < ns.length := (List.getElem?_eq_some_iff.1 hy).1
    obtain ⟨k, p, n, lo, rd, to, bk⟩ := y
    obtain ⟨pk, pn, pq, pe, pc, pw, pa, pr⟩ := p
    simp only [Nd.hrow, Pl.row_eq, List.mem_cons, List.cons_append, List.nil_append, List.not_mem_nil, or_false] at hx
    rcases hx with rfl | rfl | rfl | rfl | rfl | rfl | rfl | rfl | rfl | rfl | rfl | rfl | rfl | rfl <;> try rfl
    simp only [Option.isSome_iff_ne_none]
    exact h i hlt
  simp only [famOK, Bool.or_eq_true]
  exact .inr (.inr key)
theorem hrows_snoc (ns : List Nd) (x : Nd) : hrows 0 (ns ++ [x]) = hrows 0 ns ++ [x.hrow ns.length] := by simp [hrows_append, hrows]
@[simp] theorem hrows_getD (ns : List Nd) (r : List PV) : (hrows 0 ns ++ [r]).getD ns.length [] = r := by
  rw [List.getD_eq_getElem?_getD, List.getElem?_append_right (by simp)]; simp
@[simp] theorem hrows_set (ns : List Nd) (r q : List PV) : (hrows 0 ns ++ [r]).set ns.length q = hrows 0 ns ++ [q] := by
  rw [List.set_append_right _ _ (by simp)]; simp
/-- The state in which nodes are built. -/
def GS (ns : List Nd) (nd : Nat) (A : List Int) : List (Flat.Loc × C) :=
  (.var 3, .n 2) :: (.cell 3 0, .av (.sl 4294967296 ns.length 0 ns.length)) :: (.cell 3 1, .av (.sl 1 A.length 0 nd)) :: (.arr 1, .arr 3 1 (A.map irow) 0) :: (.arr 4294967296, .arr 75 14 (hrows 0 ns) 0) :: famC 77 2 0 (tblN ns) []
@[simp] theorem hrows_nil : hrows 0 [] = [] := rfl
/-- What becomes of the nodes in the end. -/
theorem frz_hrows (t : Sto) (ns : List Nd) (h : ∀ i, i < ns.length → t (.arr (fid i)) = some (.arr 77 2 ((tblN ns).getD i []) 0)) : FrzRows t (hrows 0 ns) (ns.map Nd.row) := by
  refine ⟨by simp, fun i r s hr hs => ?_⟩
  rw [hrows_at, Nat.zero_add] at hr
  obtain ⟨x, hx, rfl⟩ := Option.map_eq_some_iff.1 hr
  rw [List.getElem?_map, hx] at hs
  simp only [Option.map_some, Option.some.injEq] at hs
  subst hs
  have hi : i < ns.length := (List.getElem?_eq_some_iff.1 hx).1
  have ha := h i hi
  have hg : (tblN ns).getD i [] = x.back.map prow := by simp [List.getD_eq_getElem?_getD, tblN, hx]
  rw [hg] at ha
  have same : ∀ z : PV, (∀ k L o n, z ≠ .han k L o n) → FrzE t z z := fun z hz => .inl ⟨hz, rfl⟩
  refine ⟨by simp [Nd.row, Nd.hrow], fun j y z hy hz => ?_⟩
  obtain ⟨k, p, n, lo, rd, to, bk⟩ := x
  obtain ⟨pk, pn, pq, pe, pc, pw, pa, pg⟩ := p
  simp only [Nd.row, Nd.hrow, Pl.row_eq, List.cons_append, List.nil_append] at hy hz
  match j, hy, hz with
  | 0, hy, hz | 1, hy, hz | 2, hy, hz | 3, hy, hz | 4, hy, hz | 5, hy, hz | 6, hy, hz | 7, hy, hz | 8, hy, hz | 9, hy, hz | 10, hy, hz | 11, hy, hz | 12, hy, hz =>
    simp only [List.getElem?_cons_zero, List.getElem?_cons_succ, Option.some.injEq] at hy hz
    subst hy hz
    exact same _ (by simp)
  | 13, hy, hz =>
    simp only [List.getElem?_cons_zero, List.getElem?_cons_succ, Option.some.injEq] at hy hz
    subst hy hz
    exact .inr ⟨fid i, bk.length, 77, 2, bk.map prow, 0, rfl, by simp, ha, by simp, rfl⟩
  | j + 14, hy, hz => simp at hy
/-! ### what is built -/
def goB (x : Nd) (to : Prt) : Nd := { x with back := x.back ++ [to] }
/-- A node that goes back to one more. -/
def pushB (ns : List Nd) (j : Nat) (to : Prt) : List Nd := ns.modify j fun x => goB x to
@[simp] theorem pushB_length (ns : List Nd) (j : Nat) (to : Prt) : (pushB ns j to).length = ns.length := by simp [pushB]
/-- One more loop around. -/
def pushG (A : List Int) (nd : Nat) (x : Int) : List Int := A.take nd ++ x :: A.drop (nd + 1)
theorem pushG_len {A : List Int} {nd : Nat} (x : Int) (h : nd ≤ A.length) : (pushG A nd x).length = max A.length (nd + 1) := by
  simp [pushG]; omega
abbrev BR := List Nd × List Int
def leafN (m : Int) (to : Prt) : Nd := ⟨2, .zero, m, 0, 0, [to], []⟩
def loopN (nd : Nat) (rds : Int) (n : Nat) : Nd := ⟨3, .zero, 0, nd, rds, [⟨(n : Int) + 1, 0⟩], []⟩
def leaveN (nd : Nat) (rds : Int) (to : Prt) : Nd := ⟨4, .zero, 0, nd, rds, [to], []⟩
def planN (p : Pl) (to : Prt) : Nd := ⟨1, p, 0, 0, 0, [to], []⟩
def varJ (A : List Int) (nd : Nat) (m : Int) : Nat := (A.getD (varI nd m).toNat 0).toNat
mutual
/-- Nodes, and those of a plan that go to a port; the loops around. -/
def bld : Pl → Prt → Nat → BR → BR
  | .mk k m kids ex cols wth agg rds, to, nd, s =>
    if k == 1 then (s.1 ++ [leafN m to], s.2)
    else if k == 2 then (pushB s.1 (varJ s.2 nd m) to, s.2)
    else if k == 10 then bldI kids s.1.length nd (s.1 ++ [loopN nd rds s.1.length] ++ [leaveN nd rds to], s.2)
    else bldL kids (k == 7) s.1.length 0 nd (s.1 ++ [planN (.mk k m [] ex cols wth agg rds) to], s.2)
def bldL : List Pl → Bool → Nat → Nat → Nat → BR → BR
  | [], _, _, _, _, s => s
  | x :: r, j, a, i, nd, s => bldL r j a (i + 1) nd (bld x ⟨(a : Int), if j then (i : Int) else 0⟩ nd s)
def bldI : List Pl → Nat → Nat → BR → BR
  | [], _, _, s => s
  | x :: r, a, nd, s => bldL r true a 1 (nd + 1) ((bld x ⟨(a : Int), 0⟩ nd s).1, pushG (bld x ⟨(a : Int), 0⟩ nd s).2 nd a)
end
theorem bldL_append (j : Bool) (a nd : Nat) : ∀ (l q : List Pl) (i : Nat) (s : BR), bldL (l ++ q) j a i nd s = bldL q j a (i + l.length) nd (bldL l j a i nd s)
  | [], q, i, s => by simp [bldL]
  | x :: l, q, i, s => by
    simp only [List.cons_append, bldL, bldL_append j a nd l q, List.length_cons]
    rw [show i + 1 + l.length = i + (l.length + 1) by omega]
theorem bldL_take {kids : List Pl} {j : Bool} {a nd i : Nat} {s : BR} {x : Pl} (h : kids[i]? = some x) :
    bldL (kids.take (i + 1)) j a 0 nd s = bld x ⟨(a : Int), if j then (i : Int) else 0⟩ nd (bldL (kids.take i) j a 0 nd s) := by
  have hl : (kids.take i).length = i := by have := (List.getElem?_eq_some_iff.1 h).1; simp; omega
  rw [List.take_add_one, h, bldL_append, hl]
  simp [bldL]
/-- What is there still room for. -/
structure Rm (s : BR) (nd c : Nat) : Prop where
  len : s.1.length + 2 * c ≤ 200
  back : ∀ x ∈ s.1, x.back.length + c ≤ 200
  dep : nd ≤ s.2.length
  aln : s.2.length ≤ 2
  ard : ∀ a ∈ s.2.take nd, 0 ≤ a ∧ a < s.1.length
theorem Rm.less {s : BR} {nd c d : Nat} (h : Rm s nd c) (hd : d ≤ c) : Rm s nd d :=
  ⟨by have := h.len; omega, fun x hx => by have := h.back x hx; omega, h.dep, h.aln, h.ard⟩
mutual
/-- Variables lead to loops around; loops within each other are few. -/
def Pl.vok : Pl → Nat → Prop
  | .mk k m kids _ _ _ _ _, nd => (k = 2 → 0 ≤ varI nd m ∧ varI nd m < nd) ∧ (if k == 10 then nd + 1 ≤ 2 ∧ Pl.vokI kids nd else Pl.vokL kids nd)
def Pl.vokL : List Pl → Nat → Prop
  | [], _ => True
  | x :: r, nd => x.vok nd ∧ Pl.vokL r nd
def Pl.vokI : List Pl → Nat → Prop
  | [], _ => True
  | x :: r, nd => x.vok nd ∧ Pl.vokL r (nd + 1)
end
theorem Pl.vokL_mem {nd : Nat} : ∀ {l : List Pl}, Pl.vokL l nd → ∀ x ∈ l, x.vok nd
  | [], _, x, h => by simp at h
  | e :: r, h, x, hx => by
    simp only [Pl.vokL] at h
    rcases List.mem_cons.1 hx with rfl | hx
    · exact h.1
    · exact Pl.vokL_mem h.2 x hx
/-- What a step of the building leaves. -/
structure Gw (s t : BR) (nd c : Nat) : Prop where
  len : s.1.length ≤ t.1.length
  len2 : t.1.length ≤ s.1.length + 2 * c
  back : ∀ x ∈ t.1, x.back.length ≤ c ∨ ∃ y ∈ s.1, x.back.length ≤ y.back.length + c
  take : t.2.take nd = s.2.take nd
  aln : s.2.length ≤ t.2.length
  al2 : s.2.length ≤ 2 → t.2.length ≤ 2
theorem Gw.rm {s t : BR} {nd c d : Nat} (h : Gw s t nd c) (hr : Rm s nd (c + d)) : Rm t nd d := by
  refine ⟨by have := h.len2; have := hr.len; omega, fun x hx => ?_, Nat.le_trans hr.dep h.aln, h.al2 hr.aln, fun a ha => ?_⟩
  · rcases h.back x hx with h1 | ⟨y, hy, h1⟩
    · have := hr.len; omega
    · have := hr.back y hy; omega
  · rw [h.take] at ha
    have := hr.ard a ha
    have := h.len
    omega
theorem Gw.trans {s t u : BR} {nd c d : Nat} (h : Gw s t nd c) (k : Gw t u nd d) : Gw s u nd (c + d) := by
  refine ⟨Nat.le_trans h.len k.len, by have := h.len2; have := k.len2; omega, fun x hx => ?_, k.take.trans h.take, Nat.le_trans h.aln k.aln, fun q => k.al2 (h.al2 q)⟩
  rcases k.back x hx with h1 | ⟨y, hy, h1⟩
  · exact .inl (by omega)
  · rcases h.back y hy with h2 | ⟨z, hz, h2⟩
    · exact .inl (by omega)
    · exact .inr ⟨z, hz, by omega⟩
theorem Gw.refl (s : BR) (nd c : Nat) : Gw s s nd c := ⟨Nat.le_refl _, by omega, fun x hx => .inr ⟨x, hx, by omega⟩, rfl, Nat.le_refl _, id⟩
theorem Gw.more {s t : BR} {nd c d : Nat} (h : Gw s t nd c) (hd : c ≤ d) : Gw s t nd d :=
  ⟨h.len, by have := h.len2; omega, fun x hx => by rcases h.back x hx with h1 | ⟨y, hy, h1⟩; exact .inl (by omega); exact .inr ⟨y, hy, by omega⟩, h.take, h.aln, h.al2⟩
theorem Gw.snoc (s : BR) (x : Nd) (nd : Nat) (hx : x.back = []) : Gw s (s.1 ++ [x], s.2) nd 1 := by
  refine ⟨by simp, by simp, fun y hy => ?_, rfl, Nat.le_refl _, id⟩
  rcases List.mem_append.1 hy with hy | hy
  · exact .inr ⟨y, hy, by omega⟩
  · simp at hy; subst hy; exact .inl (by simp [hx])
theorem take_pushG {A : List Int} {nd : Nat} (x : Int) (h : nd ≤ A.length) : (pushG A nd x).take nd = A.take nd := by
  simp only [pushG]
  rw [List.take_append_of_le_length (by simp; omega), List.take_take, Nat.min_self]
theorem take_pushG' {A : List Int} {nd : Nat} (x : Int) (h : nd ≤ A.length) : (pushG A nd x).take (nd + 1) = A.take nd ++ [x] := by
  simp only [pushG]
  have hl : (A.take nd).length = nd := by simp; omega
  rw [List.take_append, hl, show nd + 1 - nd = 1 by omega, List.take_of_length_le (by omega)]
  simp
mutual
theorem bld_gw : ∀ (p : Pl) (to : Prt) (nd : Nat) (s : BR), p.vok nd → nd ≤ s.2.length → Gw s (bld p to nd s) nd p.size
  | .mk k m kids ex cols wth agg rds, to, nd, s, hv, hd => by
    rw [Pl.vok] at hv
    rw [bld, Pl.size]
    split
    · exact (Gw.snoc s _ nd rfl).more (by omega)
    · split
      · refine ⟨by simp, by simp, fun x hx => ?_, rfl, Nat.le_refl _, id⟩
        obtain ⟨i, hi⟩ := List.mem_iff_getElem?.1 hx
        simp only [pushB, List.getElem?_modify] at hi
        cases hq : s.1[i]? with
        | none => simp [hq] at hi
        | some y =>
          rw [hq] at hi
          simp only [Option.map_eq_map, Option.map_some, Option.some.injEq] at hi
          refine .inr ⟨y, List.mem_of_getElem? hq, ?_⟩
          subst hi
          split <;> simp [goB] <;> omega
      · split
        · rename_i hk
          rw [if_pos hk] at hv
          have h2 : Gw s (s.1 ++ [loopN nd rds s.1.length] ++ [leaveN nd rds to], s.2) nd 1 := by
            refine ⟨by simp, by simp, fun x hx => ?_, rfl, Nat.le_refl _, id⟩
            simp only [List.append_assoc, List.mem_append, List.mem_cons, List.not_mem_nil, or_false] at hx
            rcases hx with hx | hx | hx
            · exact .inr ⟨x, hx, by omega⟩
            · subst hx; exact .inl (by simp [loopN])
            · subst hx; exact .inl (by simp [leaveN])
          exact h2.trans (bldI_gw kids _ nd _ hv.2.2 hd hv.2.1)
        · rename_i hk
          rw [if_neg hk] at hv
          exact (Gw.snoc s _ nd rfl).trans (bldL_gw kids _ _ 0 nd _ hv.2 hd)
theorem bldL_gw : ∀ (l : List Pl) (j : Bool) (a i nd : Nat) (s : BR), Pl.vokL l nd → nd ≤ s.2.length → Gw s (bldL l j a i nd s) nd (Pl.sizeL l)
  | [], j, a, i, nd, s, hv, hd => by rw [bldL]; exact Gw.refl s nd _
  | x :: r, j, a, i, nd, s, hv, hd => by
    rw [Pl.vokL] at hv
    rw [bldL, Pl.sizeL]
    have h1 := bld_gw x ⟨(a : Int), if j then (i : Int) else 0⟩ nd s hv.1 hd
    exact h1.trans (bldL_gw r j a (i + 1) nd _ hv.2 (Nat.le_trans hd h1.aln))
theorem bldI_gw : ∀ (l : List Pl) (a nd : Nat) (s : BR), Pl.vokI l nd → nd ≤ s.2.length → nd + 1 ≤ 2 → Gw s (bldI l a nd s) nd (Pl.sizeL l)
  | [], a, nd, s, hv, hd, h2 => by rw [bldI]; exact Gw.refl s nd _
  | x :: r, a, nd, s, hv, hd, h2 => by
    rw [Pl.vokI] at hv
    rw [bldI, Pl.sizeL]
    have h1 := bld_gw x ⟨(a : Int), 0⟩ nd s hv.1 hd
    have hd1 := Nat.le_trans hd h1.aln
    have hpl := pushG_len (a : Int) hd1
    have h3 := bldL_gw r true a 1 (nd + 1) ((bld x ⟨(a : Int), 0⟩ nd s).1, pushG (bld x ⟨(a : Int), 0⟩ nd s).2 nd a) hv.2 (by simp only; omega)
    have hpt : (pushG (bld x ⟨(a : Int), 0⟩ nd s).2 nd a).take nd = s.2.take nd := by rw [take_pushG _ hd1]; exact h1.take
    have e0 : ∀ {q : List Int}, q.take nd = (q.take (nd + 1)).take nd := by intro q; rw [List.take_take]; congr 1; omega
    have e3 := h3.take
    have e4 := h3.aln
    have e5 := h3.al2
    have e6 := h1.aln
    have e7 := h1.al2
    simp only at e3 e4 e5
    refine ⟨Nat.le_trans h1.len h3.len, by have := h1.len2; have := h3.len2; simp only at this; omega, fun y hy => ?_, ?_, by omega, fun q => e5 (by rw [hpl]; have := e7 q; omega)⟩
    · rcases h3.back y hy with g | ⟨z, hz, g⟩
      · exact .inl (by omega)
      · rcases h1.back z hz with g2 | ⟨u, hu, g2⟩
        · exact .inl (by omega)
        · exact .inr ⟨u, hu, by omega⟩
    · rw [e0, e3, ← e0]; exact hpt
end
end Go.Proofs
end
section
set_option linter.unusedVariables false
set_option linter.unusedSimpArgs false
namespace Go.Proofs
open Go.Flat
set_option maxRecDepth 100000
set_option linter.unusedSimpArgs false
set_option linter.unusedVariables false
attribute [local simp] Bool.and_assoc Bool.or_assoc evalG evalX efD skF guardG guardL isCall stepL evalOp ev evs lk tmpsL app AV.ok fresh vv putCells insV ins del putL place Go.Flat.look fillC fillR getCells loadF storeF binF scalarBin intBin strBin isShift shiftBin unF lenF maxF minF rowsF appendF builtinF idxF natOf sliceP sliceF optEv Flat.cut overwrite toPV toPVs constAV scalarC scalarCs AV.cells TI.isAgg allSome andAll scalarEq buildable Go.Flat.lim retQ resL resAll resOne PartOf noTmp closedIn refs refs.refsL isSomeV hasB ids leA leA.leL renA renA.renL callB refsAll backL dropIds renS LiesAt injB ownB freshB memN locId insAll leA_refl leL_refl okS frzS frzA frzA.frzL evalD feet fine updCells cellsFrom memP footRf footWf noTmpU updIds opOps opIds idsA footR footW guardTs opTs dstTs callR callW renLoc renC inBlockQ thenQ Value.oneCell' IntKind.bits IntKind.signed PV.up toPH toPHs

attribute [local simp] prow in
theorem spec121 (ps : List Prt) (hl : ps.length ≤ Bnd) : Flat.Sp Try.prog 121 [.p (.ps (ps.map prow))] [] (.p (.ps (ps.map prow))) [] := by
  refine sk Try.func121 ?_
  intro F G hn hG
  have hl0 : ps.length ≤ 140737488355328 := by simp only [Bnd] at hl; omega
  have hl1 : ps.length * 16 ≤ 140737488355328 := by simp only [Bnd] at hl; omega
  have htk : (ps.map prow).take ps.length = ps.map prow := List.take_of_length_le (by simp)
  refine sq ?_
  refine rg 1000 ?_
  refine pr [0, 1, 2, 8] ?_
  refine sq ?_
  refine sq ?_
  refine rc 2000 ?_
  refine nc fun b4 hnil => ?_
  refine on ?_
  refine pr [0, 1, 2, 3, 4, 8] ?_
  refine cd ?_ ?_
  · intro h4_1
    have hts : ps = [] := by simpa using hnil h4_1
    subst hts
    refine sq ?_
    refine rg 3000 ?_
    refine pr [0, 1, 2, 3, 5, 8] ?_
    refine k_ret ?_
    show retQ _ _ _ _ _ _ _
    simp [*]
  · intro h4_1
    refine k_skip ?_
    refine sq ?_
    refine rg 4000 ?_
    refine pr [2, 3] ?_
    refine fz 4002 ?_
    refine k_ret ?_
    show retQ _ _ _ _ _ _ _
    simp [*]

attribute [local simp] irow in
theorem spec171 (ps : List Int) (hl : ps.length ≤ Bnd) : Flat.Sp Try.prog 171 [.p (.ps (ps.map irow))] [] (.p (.ps (ps.map irow))) [] := by
  refine sk Try.func171 ?_
  intro F G hn hG
  have hl0 : ps.length ≤ 140737488355328 := by simp only [Bnd] at hl; omega
  have hl1 : ps.length * 8 ≤ 140737488355328 := by simp only [Bnd] at hl; omega
  have htk : (ps.map irow).take ps.length = ps.map irow := List.take_of_length_le (by simp)
  refine sq ?_
  refine rg 1000 ?_
  refine pr [0, 1, 2, 8] ?_
  refine sq ?_
  refine sq ?_
  refine rc 2000 ?_
  refine nc fun b4 hnil => ?_
  refine on ?_
  refine pr [0, 1, 2, 3, 4, 8] ?_
  refine cd ?_ ?_
  · intro h4_1
    have hts : ps = [] := by simpa using hnil h4_1
    subst hts
    refine sq ?_
    refine rg 3000 ?_
    refine pr [0, 1, 2, 3, 5, 8] ?_
    refine k_ret ?_
    show retQ _ _ _ _ _ _ _
    simp [*]
  · intro h4_1
    refine k_skip ?_
    refine sq ?_
    refine rg 4000 ?_
    refine pr [2, 3] ?_
    refine fz 4002 ?_
    refine k_ret ?_
    show retQ _ _ _ _ _ _ _
    simp [*]

attribute [local simp] E.av in
theorem spec170_step (eo ec : Int) (ev : Val) (ek : List E) (hb : ek.length ≤ 3) (ih : ∀ x ∈ ek, Flat.Sp Try.prog 170 [x.av] [] x.av []) : Flat.Sp Try.prog 170 [(E.mk eo ec ev ek).av] [] ((E.mk eo ec ev ek).av) [] := by
  refine sk Try.func170 ?_
  intro F G hn hG
  have hbl : ek.length ≤ Flat.lim := by simp only [Flat.lim]; omega
  refine sq ?_
  refine rg 1000 ?_
  refine pr [1, 4, 5, 22] ?_
  refine sq ?_
  refine rg 2000 ?_
  refine pr [1, 4, 5, 22] ?_
  refine sq ?_
  refine sq ?_
  refine rg 3000 ?_
  refine pr [1, 4, 5, 6, 7, 22] ?_
  refine k_block ?_
  refine ow (.tmp 3) 900 27 6 ?_
  refine k_loop (fun n l => ∃ i, i + n = ek.length ∧ (True) ∧ l = [(.tmp 1, .av (.ptr 1000 0)), (.tmp 2, .av (.ptr 1001 0)), (.tmp 3, .av (.sl 900 i 0 i)), (.tmp 7, .av (.p (.ps (ek.map E.row)))), (.tmp 8, .av (vv (.int .i64 ek.length))), (.tmp 9, .av (vv (.int .i64 i))), (.var 1000, .n 6), (.cell 1000 0, .av (vv (.int .u8 eo))), (.cell 1000 1, .av (vv (.int .i64 ec))), (.cell 1000 2, .av (vv (.bool ev.t))), (.cell 1000 3, .av (vv (.int .i64 ev.n))), (.cell 1000 4, .av (vv (.string ev.s))), (.cell 1000 5, .av (.p (.ps (ek.map E.row)))), (.var 1001, .n 6), (.cell 1001 0, .av (vv (.int .u8 0))), (.cell 1001 1, .av (vv (.int .i64 0))), (.cell 1001 2, .av (vv (.bool false))), (.cell 1001 3, .av (vv (.int .i64 0))), (.cell 1001 4, .av (vv (.string ⟨#[]⟩))), (.cell 1001 5, .av (.psf [])), (.arr 900, .arr 27 6 ((ek.map E.row).take i) 0)]) (ek.length) hG ⟨_, ⟨by simp, by simp, by simp⟩, 0, by simp, trivial, rfl⟩ ?_
  rintro n _ ⟨i, hin, hfa, rfl⟩
  refine sq ?_
  refine rg 4000 ?_
  refine pr [1, 4, 5, 6, 7, 22] ?_
  refine sq ?_
  refine cd ?_ ?_
  · intro h10_1
    have hlt : i < ek.length := by simpa using h10_1
    obtain ⟨x, hxe⟩ : ∃ x, ek[i] = x := ⟨_, rfl⟩
    have hx : ek[i]? = some x := by simp [hlt, hxe]
    have hw := wrap_succ (show i < Flat.lim by omega)
    have hmin : min i ek.length = i := by omega
    have hlim : (i + 1) * 72 ≤ 140737488355328 := by simp only [Flat.lim] at *; omega
    have hlim1 : i + 1 ≤ 140737488355328 := by simp only [Flat.lim] at *; omega
    have htm0 := tmap_succ (f := E.row) hx
    have hx2 := ih x (List.mem_of_getElem? hx)
    obtain ⟨xo, xc, xv, xk⟩ := x
    refine k_skip ?_
    refine sq ?_
    refine k_block ?_
    refine sq ?_
    refine rg 5000 ?_ (h := by simp [*, E.row_eq]; exact is_rfl _)
    refine pr [1, 4, 5, 6, 7, 22] ?_
    refine rc 6000 ?_
    refine oc id ((show Flat.Sp Try.prog 170 [(E.mk xo xc xv xk).av] [] (E.mk xo xc xv xk).av [] from hx2)) ?_
    refine oe 6100 ?_
    refine on ?_
    refine k_nil ?_
    show AK _ _ _ _ _ _
    refine rg 7000 ?_
    refine k_nil ?_
    refine ⟨n - 1, by omega, _, ⟨?_, ?_, ?_⟩, i + 1, by omega, trivial, rfl⟩ <;> simp [*, E.row_eq]
  · intro h10_1
    have hge : ek.length ≤ i := by simpa using h10_1
    obtain rfl : i = ek.length := by omega
    have htm0 := tmap_all (f := E.row) (Nat.le_refl ek.length)
    refine fz 900 ?_
    have htk : ek.take ek.length = ek := List.take_length
    refine k_exit ?_
    show AK _ _ _ _ _ _
    refine sq ?_
    refine rg 8000 ?_
    refine pr [1, 3, 21, 22] ?_
    refine sq ?_
    refine rg 9000 ?_
    refine pr [2, 3] ?_
    refine k_ret ?_
    show retQ _ _ _ _ _ _ _
    simp [*]

theorem spec170 : ∀ e : E, e.good → Flat.Sp Try.prog 170 [e.av] [] e.av [] := by
  refine E.ind fun o c v kids ih hg => ?_
  rw [E.good] at hg
  exact spec170_step o c v kids (okE_len hg.1) fun x hx => ih x hx (E.goodL_mem hg.2 x hx)

attribute [local simp] Pl.av E.av in
theorem spec123 (k m : Int) (ex : List E) (cols wth : List Int) (agg rds : Int) (hbe : ex.length ≤ Bnd) (hbc : cols.length ≤ Bnd) (hbw : wth.length ≤ Bnd) (hge : ∀ e ∈ ex, e.good) : Flat.Sp Try.prog 123 [(Pl.mk k m [] ex cols wth agg rds).av] [] ((Pl.mk k m [] ex cols wth agg rds).av) [] := by
  refine sk Try.func123 ?_
  intro F G hn hG
  have hbl : ex.length ≤ Flat.lim := Bnd_lim hbe
  simp only [Bnd] at hbe
  refine sq ?_
  refine rg 1000 ?_
  refine pr [1, 4, 5, 7, 8, 48] ?_
  refine sq ?_
  refine rg 2000 ?_
  refine pr [1, 4, 5, 7, 8, 48] ?_
  refine sq ?_
  refine sq ?_
  refine rg 3000 ?_
  refine pr [1, 4, 5, 7, 8, 9, 10, 48] ?_
  refine k_block ?_
  refine k_rounds 1 ?_
  show AK _ _ _ _ _ _
  refine sq ?_
  refine rg 4000 ?_
  refine pr [1, 4, 5, 7, 8, 9, 10, 48] ?_
  refine sq ?_
  refine ce ?_
  refine k_exit ?_
  show AK _ _ _ _ _ _
  refine sq ?_
  refine rg 8000 ?_
  refine pr [1, 4, 6, 7, 8, 9, 22, 48] ?_
  refine sq ?_
  refine sq ?_
  refine rg 9000 ?_
  refine pr [1, 4, 6, 7, 8, 9, 23, 48] ?_
  refine k_block ?_
  refine ow (.tmp 6) 900 27 6 ?_
  refine k_loop (fun n l => ∃ i, i + n = ex.length ∧ (True) ∧ l = [(.tmp 1, .av (.ptr 1000 0)), (.tmp 2, .av (.ptr 1001 0)), (.tmp 3, .av (.psf [])), (.tmp 6, .av (.sl 900 i 0 i)), (.tmp 23, .av (.p (.ps (ex.map E.row)))), (.tmp 24, .av (vv (.int .i64 ex.length))), (.tmp 25, .av (vv (.int .i64 i))), (.var 1000, .n 8), (.cell 1000 0, .av (vv (.int .u8 k))), (.cell 1000 1, .av (vv (.int .i64 m))), (.cell 1000 2, .av (.p (.ps []))), (.cell 1000 3, .av (.p (.ps (ex.map E.row)))), (.cell 1000 4, .av (.p (.ps (cols.map irow)))), (.cell 1000 5, .av (.p (.ps (wth.map irow)))), (.cell 1000 6, .av (vv (.int .u8 agg))), (.cell 1000 7, .av (vv (.int .i64 rds))), (.var 1001, .n 8), (.cell 1001 0, .av (vv (.int .u8 0))), (.cell 1001 1, .av (vv (.int .i64 0))), (.cell 1001 2, .av (.psf [])), (.cell 1001 3, .av (.psf [])), (.cell 1001 4, .av (.psf [])), (.cell 1001 5, .av (.psf [])), (.cell 1001 6, .av (vv (.int .u8 0))), (.cell 1001 7, .av (vv (.int .i64 0))), (.arr 900, .arr 27 6 ((ex.map E.row).take i) 0)]) (ex.length) hG ⟨_, ⟨by simp, by simp, by simp⟩, 0, by simp, trivial, rfl⟩ ?_
  rintro n _ ⟨i, hin, hfa, rfl⟩
  refine sq ?_
  refine rg 10000 ?_
  refine pr [1, 4, 6, 7, 8, 9, 23, 48] ?_
  refine sq ?_
  refine cd ?_ ?_
  · intro h26_1
    have hlt : i < ex.length := by simpa using h26_1
    obtain ⟨x, hxe⟩ : ∃ x, ex[i] = x := ⟨_, rfl⟩
    have hx : ex[i]? = some x := by simp [hlt, hxe]
    have hw := wrap_succ (show i < Flat.lim by omega)
    have hmin : min i ex.length = i := by omega
    have hlim : (i + 1) * 72 ≤ 140737488355328 := by simp only [Flat.lim] at *; omega
    have hlim1 : i + 1 ≤ 140737488355328 := by simp only [Flat.lim] at *; omega
    have htm0 := tmap_succ (f := E.row) hx
    have hx2 := spec170 x (hge x (List.mem_of_getElem? hx))
    obtain ⟨xo, xc, xv, xk⟩ := x
    refine k_skip ?_
    refine sq ?_
    refine k_block ?_
    refine sq ?_
    refine rg 11000 ?_ (h := by simp [*, E.row_eq]; exact is_rfl _)
    refine pr [1, 4, 6, 7, 8, 9, 23, 48] ?_
    refine rc 12000 ?_
    refine oc id ((show Flat.Sp Try.prog 170 [(E.mk xo xc xv xk).av] [] (E.mk xo xc xv xk).av [] from hx2)) ?_
    refine oe 12100 ?_
    refine on ?_
    refine k_nil ?_
    show AK _ _ _ _ _ _
    refine rg 13000 ?_
    refine k_nil ?_
    refine ⟨n - 1, by omega, _, ⟨?_, ?_, ?_⟩, i + 1, by omega, trivial, rfl⟩ <;> simp [*, E.row_eq]
  · intro h26_1
    have hge : ex.length ≤ i := by simpa using h26_1
    obtain rfl : i = ex.length := by omega
    have htm0 := tmap_all (f := E.row) (Nat.le_refl ex.length)
    refine fz 900 ?_
    have htk : ex.take ex.length = ex := List.take_length
    refine k_exit ?_
    show AK _ _ _ _ _ _
    refine sq ?_
    refine dr ?_
    refine de 14000 ?_
    refine dc id (spec171 cols hbc) ?_
    refine de 14100 ?_
    refine dc id (spec171 wth hbw) ?_
    refine de 14200 ?_
    refine dn ?_
    refine pr [1, 3, 47, 48] ?_
    refine sq ?_
    refine rg 15000 ?_
    refine pr [2, 3] ?_
    refine k_ret ?_
    show retQ _ _ _ _ _ _ _
    simp [*]

end Go.Proofs
end
section
set_option linter.unusedVariables false
set_option linter.unusedSimpArgs false
namespace Go.Proofs
open Go.Flat
set_option maxRecDepth 100000
set_option linter.unusedSimpArgs false
set_option linter.unusedVariables false
attribute [local simp] Bool.and_assoc Bool.or_assoc evalG evalX efD skF guardG guardL isCall stepL evalOp ev evs lk tmpsL app AV.ok fresh vv putCells insV ins del putL place Go.Flat.look fillC fillR getCells loadF storeF binF scalarBin intBin strBin isShift shiftBin unF lenF maxF minF rowsF appendF builtinF idxF natOf sliceP sliceF optEv Flat.cut overwrite toPV toPVs constAV scalarC scalarCs AV.cells TI.isAgg allSome andAll scalarEq buildable Go.Flat.lim retQ resL resAll resOne PartOf noTmp closedIn refs refs.refsL isSomeV hasB ids leA leA.leL renA renA.renL callB refsAll backL dropIds renS LiesAt injB ownB freshB memN locId insAll leA_refl leL_refl okS frzS frzA frzA.frzL evalD feet fine updCells cellsFrom memP footRf footWf noTmpU updIds opOps opIds idsA footR footW guardTs opTs dstTs callR callW renLoc renC inBlockQ thenQ Value.oneCell' IntKind.bits IntKind.signed PV.up toPH toPHs

attribute [local simp] Pl.row_eq Pl.av
attribute [local simp] E.av in
theorem spec199_step (eo ec : Int) (ev : Val) (ek : List E) (hb : ek.length ≤ 3) (ih : ∀ x ∈ ek, Flat.Sp Try.prog 199 [x.av] [] x.av []) : Flat.Sp Try.prog 199 [(E.mk eo ec ev ek).av] [] ((E.mk eo ec ev ek).av) [] := by
  refine sk Try.func199 ?_
  intro F G hn hG
  have hbl : ek.length ≤ Flat.lim := by simp only [Flat.lim]; omega
  refine sq ?_
  refine rg 1000 ?_
  refine pr [1, 4, 5, 22] ?_
  refine sq ?_
  refine rg 2000 ?_
  refine pr [1, 4, 5, 22] ?_
  refine sq ?_
  refine sq ?_
  refine rg 3000 ?_
  refine pr [1, 4, 5, 6, 7, 22] ?_
  refine k_block ?_
  refine ow (.tmp 3) 900 27 6 ?_
  refine k_loop (fun n l => ∃ i, i + n = ek.length ∧ (True) ∧ l = [(.tmp 1, .av (.ptr 1000 0)), (.tmp 2, .av (.ptr 1001 0)), (.tmp 3, .av (.sl 900 i 0 i)), (.tmp 7, .av (.p (.ps (ek.map E.row)))), (.tmp 8, .av (vv (.int .i64 ek.length))), (.tmp 9, .av (vv (.int .i64 i))), (.var 1000, .n 6), (.cell 1000 0, .av (vv (.int .u8 eo))), (.cell 1000 1, .av (vv (.int .i64 ec))), (.cell 1000 2, .av (vv (.bool ev.t))), (.cell 1000 3, .av (vv (.int .i64 ev.n))), (.cell 1000 4, .av (vv (.string ev.s))), (.cell 1000 5, .av (.p (.ps (ek.map E.row)))), (.var 1001, .n 6), (.cell 1001 0, .av (vv (.int .u8 0))), (.cell 1001 1, .av (vv (.int .i64 0))), (.cell 1001 2, .av (vv (.bool false))), (.cell 1001 3, .av (vv (.int .i64 0))), (.cell 1001 4, .av (vv (.string ⟨#[]⟩))), (.cell 1001 5, .av (.psf [])), (.arr 900, .arr 27 6 ((ek.map E.row).take i) 0)]) (ek.length) hG ⟨_, ⟨by simp, by simp, by simp⟩, 0, by simp, trivial, rfl⟩ ?_
  rintro n _ ⟨i, hin, hfa, rfl⟩
  refine sq ?_
  refine rg 4000 ?_
  refine pr [1, 4, 5, 6, 7, 22] ?_
  refine sq ?_
  refine cd ?_ ?_
  · intro h10_1
    have hlt : i < ek.length := by simpa using h10_1
    obtain ⟨x, hxe⟩ : ∃ x, ek[i] = x := ⟨_, rfl⟩
    have hx : ek[i]? = some x := by simp [hlt, hxe]
    have hw := wrap_succ (show i < Flat.lim by omega)
    have hmin : min i ek.length = i := by omega
    have hlim : (i + 1) * 72 ≤ 140737488355328 := by simp only [Flat.lim] at *; omega
    have hlim1 : i + 1 ≤ 140737488355328 := by simp only [Flat.lim] at *; omega
    have htm0 := tmap_succ (f := E.row) hx
    have hx2 := ih x (List.mem_of_getElem? hx)
    obtain ⟨xo, xc, xv, xk⟩ := x
    refine k_skip ?_
    refine sq ?_
    refine k_block ?_
    refine sq ?_
    refine rg 5000 ?_ (h := by simp [*, E.row_eq]; exact is_rfl _)
    refine pr [1, 4, 5, 6, 7, 22] ?_
    refine rc 6000 ?_
    refine oc id ((show Flat.Sp Try.prog 199 [(E.mk xo xc xv xk).av] [] (E.mk xo xc xv xk).av [] from hx2)) ?_
    refine oe 6100 ?_
    refine on ?_
    refine k_nil ?_
    show AK _ _ _ _ _ _
    refine rg 7000 ?_
    refine k_nil ?_
    refine ⟨n - 1, by omega, _, ⟨?_, ?_, ?_⟩, i + 1, by omega, trivial, rfl⟩ <;> simp [*, E.row_eq]
  · intro h10_1
    have hge : ek.length ≤ i := by simpa using h10_1
    obtain rfl : i = ek.length := by omega
    have htm0 := tmap_all (f := E.row) (Nat.le_refl ek.length)
    refine fz 900 ?_
    have htk : ek.take ek.length = ek := List.take_length
    refine k_exit ?_
    show AK _ _ _ _ _ _
    refine sq ?_
    refine rg 8000 ?_
    refine pr [1, 3, 21, 22] ?_
    refine sq ?_
    refine rg 9000 ?_
    refine pr [2, 3] ?_
    refine k_ret ?_
    show retQ _ _ _ _ _ _ _
    simp [*]

theorem spec199 : ∀ e : E, e.good → Flat.Sp Try.prog 199 [e.av] [] e.av [] := by
  refine E.ind fun o c v kids ih hg => ?_
  rw [E.good] at hg
  exact spec199_step o c v kids (okE_len hg.1) fun x hx => ih x hx (E.goodL_mem hg.2 x hx)

attribute [local simp] E.av in
theorem spec179_step (k m : Int) (kids : List Pl) (ex : List E) (cols wth : List Int) (agg rds : Int) (hkb : kids.length ≤ Bnd) (hbe : ex.length ≤ Bnd) (hbc : cols.length ≤ Bnd) (hbw : wth.length ≤ Bnd) (hxg : ∀ e ∈ ex, e.good) (ih : ∀ x ∈ kids, Flat.Sp Try.prog 179 [x.av] [] x.av []) : Flat.Sp Try.prog 179 [(Pl.mk k m kids ex cols wth agg rds).av] [] ((Pl.mk k m kids ex cols wth agg rds).av) [] := by
  refine sk Try.func179 ?_
  intro F G hn hG
  have hkl : kids.length ≤ Flat.lim := Bnd_lim hkb
  have hbl : ex.length ≤ Flat.lim := Bnd_lim hbe
  simp only [Bnd] at hkb hbe hbc hbw
  have hl0cols : cols.length ≤ 140737488355328 := by omega
  have hl1cols : cols.length * 8 ≤ 140737488355328 := by omega
  have htkcols : (cols.map irow).take cols.length = cols.map irow := List.take_of_length_le (by simp)
  have hl0wth : wth.length ≤ 140737488355328 := by omega
  have hl1wth : wth.length * 8 ≤ 140737488355328 := by omega
  have htkwth : (wth.map irow).take wth.length = wth.map irow := List.take_of_length_le (by simp)
  refine sq ?_
  refine rg 1000 ?_
  refine pr [1, 4, 5, 7, 8, 50] ?_
  refine sq ?_
  refine rg 2000 ?_
  refine pr [1, 4, 5, 7, 8, 50] ?_
  refine sq ?_
  refine sq ?_
  refine rg 3000 ?_
  refine pr [1, 4, 5, 7, 8, 9, 10, 50] ?_
  refine k_block ?_
  refine ow (.tmp 3) 900 52 8 ?_
  refine k_loop (fun n l => ∃ i, i + n = kids.length ∧ (True) ∧ l = [(.tmp 1, .av (.ptr 1000 0)), (.tmp 2, .av (.ptr 1001 0)), (.tmp 3, .av (.sl 900 i 0 i)), (.tmp 10, .av (.p (.ps (kids.map Pl.row)))), (.tmp 11, .av (vv (.int .i64 kids.length))), (.tmp 12, .av (vv (.int .i64 i))), (.var 1000, .n 8), (.cell 1000 0, .av (vv (.int .u8 k))), (.cell 1000 1, .av (vv (.int .i64 m))), (.cell 1000 2, .av (.p (.ps (kids.map Pl.row)))), (.cell 1000 3, .av (.p (.ps (ex.map E.row)))), (.cell 1000 4, .av (.p (.ps (cols.map irow)))), (.cell 1000 5, .av (.p (.ps (wth.map irow)))), (.cell 1000 6, .av (vv (.int .u8 agg))), (.cell 1000 7, .av (vv (.int .i64 rds))), (.var 1001, .n 8), (.cell 1001 0, .av (vv (.int .u8 0))), (.cell 1001 1, .av (vv (.int .i64 0))), (.cell 1001 2, .av (.psf [])), (.cell 1001 3, .av (.psf [])), (.cell 1001 4, .av (.psf [])), (.cell 1001 5, .av (.psf [])), (.cell 1001 6, .av (vv (.int .u8 0))), (.cell 1001 7, .av (vv (.int .i64 0))), (.arr 900, .arr 52 8 ((kids.map Pl.row).take i) 0)]) (kids.length) hG ⟨_, ⟨by simp, by simp, by simp⟩, 0, by simp, trivial, rfl⟩ ?_
  rintro n _ ⟨i, hin, hfa, rfl⟩
  refine sq ?_
  refine rg 4000 ?_
  refine pr [1, 4, 5, 7, 8, 9, 10, 50] ?_
  refine sq ?_
  refine cd ?_ ?_
  · intro h13_1
    have hlt : i < kids.length := by simpa using h13_1
    obtain ⟨x, hxe⟩ : ∃ x, kids[i] = x := ⟨_, rfl⟩
    have hx : kids[i]? = some x := by simp [hlt, hxe]
    have hw := wrap_succ (show i < Flat.lim by omega)
    have hmin : min i kids.length = i := by omega
    have hlim : (i + 1) * 128 ≤ 140737488355328 := by simp only [Flat.lim] at *; omega
    have hlim1 : i + 1 ≤ 140737488355328 := by simp only [Flat.lim] at *; omega
    have htm0 := tmap_succ (f := Pl.row) hx
    have hx2 := ih x (List.mem_of_getElem? hx)
    obtain ⟨xk, xn, xq, xe, xc, xw, xa, xr⟩ := x
    refine k_skip ?_
    refine sq ?_
    refine k_block ?_
    refine sq ?_
    refine rg 5000 ?_ (h := by simp [*, Pl.row_eq]; exact is_rfl _)
    refine pr [1, 4, 5, 7, 8, 9, 10, 50] ?_
    refine rc 6000 ?_
    refine oc id ((show Flat.Sp Try.prog 179 [(Pl.mk xk xn xq xe xc xw xa xr).av] [] (Pl.mk xk xn xq xe xc xw xa xr).av [] from hx2)) ?_
    refine oe 6100 ?_
    refine on ?_
    refine k_nil ?_
    show AK _ _ _ _ _ _
    refine rg 7000 ?_
    refine k_nil ?_
    refine ⟨n - 1, by omega, _, ⟨?_, ?_, ?_⟩, i + 1, by omega, trivial, rfl⟩ <;> simp [*, Pl.row_eq]
  · intro h13_1
    have hge : kids.length ≤ i := by simpa using h13_1
    obtain rfl : i = kids.length := by omega
    have htm0 := tmap_all (f := Pl.row) (Nat.le_refl kids.length)
    refine fz 900 ?_
    have htk : kids.take kids.length = kids := List.take_length
    refine k_exit ?_
    show AK _ _ _ _ _ _
    refine sq ?_
    refine rg 8000 ?_
    refine pr [1, 4, 6, 7, 8, 9, 22, 50] ?_
    refine sq ?_
    refine sq ?_
    refine rg 9000 ?_
    refine pr [1, 4, 6, 7, 8, 9, 23, 50] ?_
    refine k_block ?_
    refine ow (.tmp 6) 901 27 6 ?_
    refine k_loop (fun n l => ∃ i, i + n = ex.length ∧ (True) ∧ l = [(.tmp 1, .av (.ptr 1000 0)), (.tmp 2, .av (.ptr 1001 0)), (.tmp 3, .av (.p (.ps (kids.map Pl.row)))), (.tmp 6, .av (.sl 901 i 0 i)), (.tmp 23, .av (.p (.ps (ex.map E.row)))), (.tmp 24, .av (vv (.int .i64 ex.length))), (.tmp 25, .av (vv (.int .i64 i))), (.var 1000, .n 8), (.cell 1000 0, .av (vv (.int .u8 k))), (.cell 1000 1, .av (vv (.int .i64 m))), (.cell 1000 2, .av (.p (.ps (kids.map Pl.row)))), (.cell 1000 3, .av (.p (.ps (ex.map E.row)))), (.cell 1000 4, .av (.p (.ps (cols.map irow)))), (.cell 1000 5, .av (.p (.ps (wth.map irow)))), (.cell 1000 6, .av (vv (.int .u8 agg))), (.cell 1000 7, .av (vv (.int .i64 rds))), (.var 1001, .n 8), (.cell 1001 0, .av (vv (.int .u8 0))), (.cell 1001 1, .av (vv (.int .i64 0))), (.cell 1001 2, .av (.psf [])), (.cell 1001 3, .av (.psf [])), (.cell 1001 4, .av (.psf [])), (.cell 1001 5, .av (.psf [])), (.cell 1001 6, .av (vv (.int .u8 0))), (.cell 1001 7, .av (vv (.int .i64 0))), (.arr 901, .arr 27 6 ((ex.map E.row).take i) 0)]) (ex.length) hG ⟨_, ⟨by simp, by simp, by simp⟩, 0, by simp, trivial, rfl⟩ ?_
    rintro n _ ⟨i, hin, hfa, rfl⟩
    refine sq ?_
    refine rg 10000 ?_
    refine pr [1, 4, 6, 7, 8, 9, 23, 50] ?_
    refine sq ?_
    refine cd ?_ ?_
    · intro h26_2
      have hlt : i < ex.length := by simpa using h26_2
      obtain ⟨x, hxe⟩ : ∃ x, ex[i] = x := ⟨_, rfl⟩
      have hx : ex[i]? = some x := by simp [hlt, hxe]
      have hw := wrap_succ (show i < Flat.lim by omega)
      have hmin : min i ex.length = i := by omega
      have hlim : (i + 1) * 72 ≤ 140737488355328 := by simp only [Flat.lim] at *; omega
      have hlim1 : i + 1 ≤ 140737488355328 := by simp only [Flat.lim] at *; omega
      have htm0 := tmap_succ (f := E.row) hx
      have hx3 := spec199 x (hxg x (List.mem_of_getElem? hx))
      obtain ⟨xo, xc, xv, xk⟩ := x
      refine k_skip ?_
      refine sq ?_
      refine k_block ?_
      refine sq ?_
      refine rg 11000 ?_ (h := by simp [*, E.row_eq]; exact is_rfl _)
      refine pr [1, 4, 6, 7, 8, 9, 23, 50] ?_
      refine rc 12000 ?_
      refine oc id ((show Flat.Sp Try.prog 199 [(E.mk xo xc xv xk).av] [] (E.mk xo xc xv xk).av [] from hx3)) ?_
      refine oe 12100 ?_
      refine on ?_
      refine k_nil ?_
      show AK _ _ _ _ _ _
      refine rg 13000 ?_
      refine k_nil ?_
      refine ⟨n - 1, by omega, _, ⟨?_, ?_, ?_⟩, i + 1, by omega, trivial, rfl⟩ <;> simp [*, E.row_eq]
    · intro h26_2
      have hge : ex.length ≤ i := by simpa using h26_2
      obtain rfl : i = ex.length := by omega
      have htm0 := tmap_all (f := E.row) (Nat.le_refl ex.length)
      refine fz 901 ?_
      have htk2 : ex.take ex.length = ex := List.take_length
      refine k_exit ?_
      show AK _ _ _ _ _ _
      refine sq ?_
      refine rg 14000 ?_
      refine pr [1, 3, 6, 7, 37, 50] ?_
      refine sq ?_
      refine rg 15000 ?_
      refine pr [1, 3, 39, 50] ?_
      refine sq ?_
      refine rg 16000 ?_ (h := by simp [*, irow]; exact is_rfl _)
      refine pr [1, 3, 44, 50] ?_
      refine fz 16003 ?_
      refine sq ?_
      refine rg 17000 ?_ (h := by simp [*, irow]; exact is_rfl _)
      refine pr [1, 3, 49, 50] ?_
      refine fz 17003 ?_
      refine sq ?_
      refine rg 18000 ?_
      refine pr [2, 3] ?_
      refine k_ret ?_
      show retQ _ _ _ _ _ _ _
      simp [*]

theorem spec179 : ∀ p : Pl, p.gd → p.bnd → Flat.Sp Try.prog 179 [p.av] [] p.av [] := by
  refine Pl.ind fun k m kids ex cols wth agg rds ih hg hb => ?_
  rw [Pl.gd] at hg
  rw [Pl.bnd] at hb
  obtain ⟨-, hge, hgl⟩ := hg
  obtain ⟨b1, b2, b3, b4, hbl⟩ := hb
  exact spec179_step k m kids ex cols wth agg rds b1 b2 b3 b4 (fun e he => checkE_good (hge e he)) fun x hx => ih x hx (Pl.gdL_mem hgl x hx) (Pl.bndL_mem hbl x hx)

theorem spec127 (k m : Int) (kids : List Pl) (ex : List E) (cols wth : List Int) (agg rds : Int) (h179 : Flat.Sp Try.prog 179 [(Pl.mk k m kids ex cols wth agg rds).av] [] (Pl.mk k m kids ex cols wth agg rds).av []) : Flat.Sp Try.prog 127 [(Pl.mk k m kids ex cols wth agg rds).av] [] ((Pl.mk k m [] ex cols wth agg rds).av) [] := by
  refine sk Try.func127 ?_
  intro F G hn hG
  refine sq ?_
  refine rg 1000 ?_
  refine pr [1, 7] ?_
  refine sq ?_
  refine rc 2000 ?_
  refine oc id (h179) ?_
  refine oe 2100 ?_
  refine on ?_
  refine pr [1, 3, 5, 7] ?_
  refine sq ?_
  refine rg 3000 ?_
  refine pr [1, 3, 6, 7] ?_
  refine sq ?_
  refine rg 4000 ?_
  refine pr [2, 3] ?_
  refine k_ret ?_
  show retQ _ _ _ _ _ _ _
  simp [*]

end Go.Proofs
end
section
set_option linter.unusedVariables false
set_option linter.unusedSimpArgs false
namespace Go.Proofs
open Go.Flat
set_option maxRecDepth 100000
set_option linter.unusedSimpArgs false
set_option linter.unusedVariables false
attribute [local simp] Bool.and_assoc Bool.or_assoc evalG evalX efD skF guardG guardL isCall stepL evalOp ev evs lk tmpsL app AV.ok fresh vv putCells insV ins del putL place Go.Flat.look fillC fillR getCells loadF storeF binF scalarBin intBin strBin isShift shiftBin unF lenF maxF minF rowsF appendF builtinF idxF natOf sliceP sliceF optEv Flat.cut overwrite toPV toPVs constAV scalarC scalarCs AV.cells TI.isAgg allSome andAll scalarEq buildable Go.Flat.lim retQ resL resAll resOne PartOf noTmp closedIn refs refs.refsL isSomeV hasB ids leA leA.leL renA renA.renL callB refsAll backL dropIds renS LiesAt injB ownB freshB memN locId insAll leA_refl leL_refl okS frzS frzA frzA.frzL evalD feet fine updCells cellsFrom memP footRf footWf noTmpU updIds opOps opIds idsA footR footW guardTs opTs dstTs callR callW renLoc renC inBlockQ thenQ Value.oneCell' IntKind.bits IntKind.signed PV.up toPH toPHs

attribute [local simp] GS Nd.hrow Pl.row_eq hrows_snoc tblN_snoc
theorem spec66 (ns : List Nd) (nd : Nat) (A : List Int) (k pk pn : Int) (pq : List Pl) (pe : List E) (pc pw : List Int) (pa pg n lo rd : Int) (to : List Prt) (hto : to.length ≤ Bnd) (hns : ns.length ≤ 300) (hnd : nd ≤ A.length) : Flat.Sp Try.prog 66 [.ptr 3 0, .agg [vv (.int .u8 k), vv (.int .u8 pk), vv (.int .i64 pn), .p (.ps (pq.map Pl.row)), .p (.ps (pe.map E.row)), .p (.ps (pc.map irow)), .p (.ps (pw.map irow)), vv (.int .u8 pa), vv (.int .i64 pg), vv (.int .i64 n), vv (.int .i64 lo), vv (.int .i64 rd), .psf [], .psf []], .p (.ps (to.map prow))] (GS ns nd A) (vv (.int .i64 ns.length)) (GS (ns ++ [⟨k, .mk pk pn pq pe pc pw pa pg, n, lo, rd, to, []⟩]) nd A) := by
  refine sk Try.func66 ?_ (hs := by simp)
  intro F G hn hG
  have hw : IntKind.i64.wrap (ns.length : Int) = ns.length := Flat.wrap_small (by simp only [Flat.lim]; omega)
  have h1 : (ns.length + 1) * 208 ≤ 140737488355328 := by omega
  have h2 : ns.length + 1 ≤ 140737488355328 := by omega
  refine sq ?_
  refine rg 1000 ?_
  refine pr [0, 1, 2, 3, 4, 5, 6, 23] ?_
  refine sq ?_
  refine rc 2000 ?_
  refine oc id (spec121 to hto) ?_
  refine oe 2100 ?_
  refine on ?_
  refine pr [0, 1, 4, 5, 6, 7, 10, 23] ?_
  refine sq ?_
  refine zz (.cell 1000 13) ?_
  refine dr ?_
  refine de 3000 ?_
  refine dn ?_
  refine pr [0, 1, 6, 7, 18, 23] ?_
  refine hz 6 4294967296 ns.length 13 ?_
  refine sq ?_
  refine rg 4000 ?_
  refine pr [6, 7] ?_
  refine k_ret ?_
  show retQ _ _ _ _ _ _ _
  simp [*]

end Go.Proofs
end
section
set_option linter.unusedVariables false
set_option linter.unusedSimpArgs false

end
section
set_option linter.unusedVariables false
set_option linter.unusedSimpArgs false

end
section
set_option linter.unusedVariables false
set_option linter.unusedSimpArgs false

end
section
set_option linter.unusedVariables false
set_option linter.unusedSimpArgs false

end
section
set_option linter.unusedVariables false
set_option linter.unusedSimpArgs false
namespace Go.Proofs
open Go.Flat
set_option linter.unusedSimpArgs false
set_option linter.unusedVariables false
theorem w64 (n : Int) : IntKind.i64.wrap n = (n + 9223372036854775808) % 18446744073709551616 - 9223372036854775808 := by
  unfold IntKind.wrap
  simp [IntKind.bits, IntKind.signed]
  omega
theorem w64_in {n : Int} (h1 : -9223372036854775808 ≤ n) (h2 : n < 9223372036854775808) : IntKind.i64.wrap n = n := by rw [w64]; omega
theorem w64_add (a b : Int) : IntKind.i64.wrap (IntKind.i64.wrap a + b) = IntKind.i64.wrap (a + b) := by simp only [w64]; omega
mutual
def cnt : E → Int → Int
  | .mk op col c kids, d => if !okE op col c kids.length || decide (d > 16) then 1 else 1 + cntL kids (IntKind.i64.wrap (d + 1))
def cntL : List E → Int → Int
  | [], _ => 0
  | e :: r, d => cnt e d + cntL r d
end
mutual
def dep : E → Int → Int
  | .mk op col c kids, d => if !okE op col c kids.length || decide (d > 16) then d else max d (depL kids (IntKind.i64.wrap (d + 1)))
def depL : List E → Int → Int
  | [], _ => 0
  | e :: r, d => max (dep e d) (depL r d)
end
mutual
def wrg : E → Int → Bool
  | .mk op col c kids, d => if !okE op col c kids.length || decide (d > 16) then !okE op col c kids.length else wrgL kids (IntKind.i64.wrap (d + 1))
def wrgL : List E → Int → Bool
  | [], _ => false
  | e :: r, d => wrg e d || wrgL r d
end
theorem lookL_eq {l : List E} (h : ∀ k ∈ l, ∀ d (s : Srv), 0 ≤ s.2.1 → look k d s = (IntKind.i64.wrap (s.1 + cnt k d), max s.2.1 (dep k d), s.2.2 || wrg k d)) : ∀ d (s : Srv), 0 ≤ s.2.1 → IntKind.i64.wrap s.1 = s.1 → lookL l d s = (IntKind.i64.wrap (s.1 + cntL l d), max s.2.1 (depL l d), s.2.2 || wrgL l d) := by
  induction l with
  | nil =>
    intro d s h0 hw
    simp only [lookL, cntL, depL, wrgL, Int.add_zero, hw, Bool.or_false]
    rw [Int.max_eq_left h0]
  | cons k r ih =>
    intro d s h0 hw
    rw [lookL, h k (by simp) d s h0, ih (fun k hk => h k (by simp [hk])) d _ (by simp only; omega) (by simp only [w64]; omega)]
    simp only [cntL, depL, wrgL, w64_add, Bool.or_assoc, Int.add_assoc, Int.max_assoc]
theorem look_eq : ∀ (e : E) d (s : Srv), 0 ≤ s.2.1 → look e d s = (IntKind.i64.wrap (s.1 + cnt e d), max s.2.1 (dep e d), s.2.2 || wrg e d) := by
  refine E.ind fun op col c kids ih d s h0 => ?_
  rw [look, cnt, dep, wrg]
  have hm : (if d > s.2.1 then d else s.2.1) = max s.2.1 d := by
    split <;> omega
  by_cases hc : (!okE op col c kids.length || decide (d > 16)) = true
  · rw [if_pos hc, if_pos hc, if_pos hc, if_pos hc, hm]
  · rw [if_neg hc, if_neg hc, if_neg hc, if_neg hc]
    have hok : okE op col c kids.length = true := by
      simp only [Bool.or_eq_true, Bool.not_eq_true', decide_eq_true_eq, not_or, Bool.not_eq_false] at hc
      exact hc.1
    rw [lookL_eq ih _ _ (by simp only [hm]; omega) (by simp only [w64]; omega)]
    simp only [hm, hok, Bool.not_true, Bool.or_false, w64_add, Int.add_assoc, Int.max_assoc]
theorem checkE_eq (e : E) (hd : 0 ≤ dep e 1) : checkE e = if wrg e 1 then 4 else if decide (64 < IntKind.i64.wrap (cnt e 1)) then 2 else if decide (16 < dep e 1) then 2 else 0 := by
  unfold checkE
  simp only [look_eq e 1 (0, 0, false) (by simp), Int.zero_add, Bool.false_or, Int.max_eq_right hd]
theorem dep_ge : ∀ (e : E) d, d ≤ dep e d := by
  refine E.ind fun op col c kids ih d => ?_
  rw [dep]
  split
  · omega
  · omega
/-- A bound on how many are looked at. -/
def pw : Nat → Int
  | 0 => 1
  | k + 1 => 1 + 3 * pw k
theorem pw_pos : ∀ k, 1 ≤ pw k
  | 0 => by simp [pw]
  | k + 1 => by have := pw_pos k; simp only [pw]; omega
theorem cntL_le {b : Int} (hb : 0 ≤ b) {l : List E} {d : Int} (h : ∀ k ∈ l, 0 ≤ cnt k d ∧ cnt k d ≤ b) : 0 ≤ cntL l d ∧ cntL l d ≤ l.length * b := by
  induction l with
  | nil => simp [cntL]
  | cons k r ih =>
    have h1 := h k (by simp)
    have h2 := ih fun k hk => h k (by simp [hk])
    rw [cntL, List.length_cons]
    refine ⟨by omega, ?_⟩
    have : ((r.length + 1 : Nat) : Int) * b = r.length * b + b := by rw [Int.natCast_add, Int.add_mul]; simp
    omega
theorem cnt_le : ∀ (e : E) (k : Nat) (d : Int), k ≤ 17 → d = 17 - (k : Int) → 0 ≤ cnt e d ∧ cnt e d ≤ pw k := by
  refine E.ind fun op col c kids ih k d hk17 hd => ?_
  have hp := pw_pos k
  rw [cnt]
  split
  · omega
  · rename_i hc
    simp only [Bool.or_eq_true, Bool.not_eq_true', decide_eq_true_eq, not_or, Bool.not_eq_false] at hc
    have hl := okE_len hc.1
    cases k with
    | zero => omega
    | succ k =>
      have hk := pw_pos k
      have hw : IntKind.i64.wrap (d + 1) = d + 1 := by
        rw [w64]
        omega
      rw [hw]
      have := cntL_le (b := pw k) (by omega) (l := kids) (d := d + 1) fun x hx => ih x hx k (d + 1) (by omega) (by omega)
      simp only [pw]
      have h3 : (kids.length : Int) * pw k ≤ 3 * pw k := Int.mul_le_mul_of_nonneg_right (by omega) (by omega)
      omega
theorem cnt_in (e : E) (d : Int) (h1 : 0 ≤ d) (h2 : d ≤ 17) : 0 ≤ cnt e d ∧ cnt e d ≤ 193710244 := by
  have := cnt_le e (17 - d).toNat d (by omega) (by omega)
  have hp : ∀ k, k ≤ 17 → pw k ≤ 193710244 := by decide
  have := hp (17 - d).toNat (by omega)
  omega
theorem checkE_cases (e : E) : checkE e = if wrg e 1 then 4 else if decide (64 < cnt e 1) || decide (16 < dep e 1) then 2 else 0 := by
  have h1 := dep_ge e 1
  have h2 := cnt_in e 1 (by omega) (by omega)
  rw [checkE_eq e (by omega), w64_in (by omega) (by omega)]
  cases wrg e 1 <;> by_cases h : 64 < cnt e 1 <;> by_cases h' : 16 < dep e 1 <;> simp [h, h']
def vZ : Val := ⟨false, 0, ⟨#[]⟩⟩
@[simp] theorem okE_con (n : Int) : okE 2 0 ⟨false, n, ⟨#[]⟩⟩ 0 = true := by simp [okE, okA, kidsOf, Val.eqB, checkRow, badRow, firstBad, Val.right]
@[simp] theorem okE_col (n : Int) : okE 1 n vZ 0 = true := by simp [okE, okA, kidsOf, Val.eqB, checkRow, badRow, firstBad, Val.right, vZ]
@[simp] theorem okE_if : okE 12 0 vZ 3 = true := by simp [okE, okA, kidsOf, Val.eqB, checkRow, badRow, firstBad, Val.right, vZ]
end Go.Proofs
end
section
set_option linter.unusedVariables false
set_option linter.unusedSimpArgs false
namespace Go.Proofs
open Go.Flat
set_option maxRecDepth 100000
set_option linter.unusedSimpArgs false
set_option linter.unusedVariables false
attribute [local simp] Bool.and_assoc Bool.or_assoc evalG evalX efD skF guardG guardL isCall stepL evalOp ev evs lk tmpsL app AV.ok fresh vv putCells insV ins del putL place Go.Flat.look fillC fillR getCells loadF storeF binF scalarBin intBin strBin isShift shiftBin unF lenF maxF minF rowsF appendF builtinF idxF natOf sliceP sliceF optEv Flat.cut overwrite toPV toPVs constAV scalarC scalarCs AV.cells TI.isAgg allSome andAll scalarEq buildable Go.Flat.lim retQ resL resAll resOne PartOf noTmp closedIn refs refs.refsL isSomeV hasB ids leA leA.leL renA renA.renL callB refsAll backL dropIds renS LiesAt injB ownB freshB memN locId insAll leA_refl leL_refl okS frzS frzA frzA.frzL evalD feet fine updCells cellsFrom memP footRf footWf noTmpU updIds opOps opIds idsA footR footW guardTs opTs dstTs callR callW renLoc renC inBlockQ thenQ Value.oneCell' IntKind.bits IntKind.signed PV.up toPH toPHs

attribute [local simp] GS Pl.row_eq Pl.av
theorem spec169 (ns : List Nd) (nd : Nat) (A : List Int) (hnd : nd ≤ 4) : Flat.SpD Try.prog 169 [.ptr 1000 0] ((.var 1000, .n 1) :: (.cell 1000 0, .av (.ptr 3 0)) :: GS ns (nd + 1) A) (.tup []) ((.var 1000, .n 1) :: (.cell 1000 0, .av (.ptr 3 0)) :: GS ns nd A) := by
  refine skD Try.func169 ?_ (hs := by simp)
  intro F G hn hG
  have hw : IntKind.i64.wrap (nd : Int) = nd := Flat.wrap_small (by simp only [Flat.lim]; omega)
  refine dr ?_
  refine de 1000 ?_
  refine dn ?_
  refine k_nil ?_
  show retQ _ _ _ _ _ _ _
  simp [*]

attribute [local simp] leafN Pl.zero prow Nd.hrow in
theorem spec67_1 (ns : List Nd) (nd : Nat) (A : List Int) (m : Int) (kids : List Pl) (ex : List E) (cols wth : List Int) (agg rds : Int) (to : Prt) (hns : ns.length ≤ 300) (hnd : nd ≤ A.length) : Flat.Sp Try.prog 67 [.ptr 3 0, (Pl.mk 1 m kids ex cols wth agg rds).av, .agg [vv (.int .i64 to.a), vv (.int .i64 to.b)]] (GS ns nd A) (.tup []) (GS (ns ++ [leafN m to]) nd A) := by
  refine sk Try.func67 ?_ (hs := by simp)
  intro F G hn hG
  refine sq ?_
  refine rg 1000 ?_
  refine pr [0, 1, 4, 40, 41, 52, 53, 90] ?_
  refine sq ?_
  refine rg 2000 ?_
  refine pr [0, 1, 4, 11, 12, 40, 41, 52, 53, 90] ?_
  refine k_block ?_
  refine sq ?_
  refine rg 13000 ?_
  refine pr [0, 1, 4, 11, 12, 40, 41, 43, 44, 52, 53, 90] ?_
  refine ct ?_
  refine dr ?_
  refine de 14000 ?_
  refine dcI (spec66 ns nd A 2 0 0 [] [] [] [] 0 0 m 0 0 [to] (by simp [Bnd]) hns hnd) ?_
  refine dn ?_
  refine k_nil ?_
  show AK _ _ _ _ _ _
  refine k_nil ?_
  show retQ _ _ _ _ _ _ _
  simp [*]

theorem hrows_modify (ns : List Nd) (i : Nat) (f : Nd → Nd) (x : Nd) (h : ns[i]? = some x) : hrows 0 (ns.modify i f) = (hrows 0 ns).set i ((f x).hrow i) := by
  apply List.ext_getElem?
  intro j
  rw [hrows_at, Nat.zero_add, List.getElem?_modify]
  have hlt := (List.getElem?_eq_some_iff.1 h).1
  by_cases e : i = j
  · subst e
    rw [List.getElem?_set_self (by simpa using hlt), h]
    simp
  · rw [List.getElem?_set_ne e, hrows_at, Nat.zero_add]
    cases hq : ns[j]? <;> simp [e]
theorem tblN_modify (ns : List Nd) (i : Nat) (f : Nd → Nd) (x : Nd) (h : ns[i]? = some x) : tblN (ns.modify i f) = (tblN ns).set i ((f x).back.map prow) := by
  apply List.ext_getElem?
  intro j
  have hlt := (List.getElem?_eq_some_iff.1 h).1
  simp only [tblN, List.getElem?_map, List.getElem?_modify]
  by_cases e : i = j
  · subst e
    rw [List.getElem?_set_self (by simpa using hlt), h]
    simp
  · rw [List.getElem?_set_ne e, List.getElem?_map]
    cases hq : ns[j]? <;> simp [e]

attribute [local simp] prow in
theorem spec67_2 (ns : List Nd) (nd : Nat) (A : List Int) (m : Int) (kids : List Pl) (ex : List E) (cols wth : List Int) (agg rds : Int) (to : Prt) (hns : ns.length ≤ 300) (hnd : nd ≤ A.length) (hnd4 : nd ≤ 4) (j : Nat) (hjn : j < nd) (hj : IntKind.i64.wrap ((nd : Int) - 1 - m) = j) (i : Nat) (hA : A[j]? = some (i : Int)) (xk pk pn : Int) (pq : List Pl) (pe : List E) (pc pw : List Int) (pa pg xn xl xr : Int) (xt xb : List Prt) (hi : ns[i]? = some ⟨xk, .mk pk pn pq pe pc pw pa pg, xn, xl, xr, xt, xb⟩) (hxb : xb.length ≤ 300) : Flat.Sp Try.prog 67 [.ptr 3 0, (Pl.mk 2 m kids ex cols wth agg rds).av, .agg [vv (.int .i64 to.a), vv (.int .i64 to.b)]] (GS ns nd A) (.tup []) (GS (pushB ns i to) nd A) := by
  refine sk Try.func67 ?_ (hs := by simp)
  intro F G hn hG
  have hilt : i < ns.length := (List.getElem?_eq_some_iff.1 hi).1
  have hjlt : j < A.length := (List.getElem?_eq_some_iff.1 hA).1
  have hw1 : IntKind.i64.wrap ((nd : Int) - 1) = (nd : Int) - 1 := by rw [w64]; omega
  have hgA : (A.map irow).getD j [] = irow (i : Int) := by rw [List.getD_eq_getElem?_getD, List.getElem?_map, hA]; rfl
  have hgA2 : (A.map irow)[j]? = some (irow (i : Int)) := by rw [List.getElem?_map, hA]; rfl
  have hgN : (hrows 0 ns).getD i [] = [.v (.int .u8 xk), .v (.int .u8 pk), .v (.int .i64 pn), .ps (pq.map Pl.row), .ps (pe.map E.row), .ps (pc.map irow), .ps (pw.map irow), .v (.int .u8 pa), .v (.int .i64 pg), .v (.int .i64 xn), .v (.int .i64 xl), .v (.int .i64 xr), .ps (xt.map prow), .han (fid i) xb.length 0 xb.length] := by rw [List.getD_eq_getElem?_getD, hrows_at, hi, Nat.zero_add]; simp [Nd.hrow]
  have hgN2 : (hrows 0 ns)[i]? = some [.v (.int .u8 xk), .v (.int .u8 pk), .v (.int .i64 pn), .ps (pq.map Pl.row), .ps (pe.map E.row), .ps (pc.map irow), .ps (pw.map irow), .v (.int .u8 pa), .v (.int .i64 pg), .v (.int .i64 xn), .v (.int .i64 xl), .v (.int .i64 xr), .ps (xt.map prow), .han (fid i) xb.length 0 xb.length] := by rw [hrows_at, hi, Nat.zero_add]; simp [Nd.hrow]
  have hgT : (tblN ns).getD i [] = xb.map prow := by rw [List.getD_eq_getElem?_getD]; simp [tblN, hi]
  have hgT2 : (tblN ns)[i]? = some (xb.map prow) := by simp [tblN, hi]
  obtain ⟨hA3, hA2⟩ := List.getElem?_eq_some_iff.1 hA
  obtain ⟨hgN4, hgN3⟩ := List.getElem?_eq_some_iff.1 hgN2
  obtain ⟨hgT4, hgT3⟩ := List.getElem?_eq_some_iff.1 hgT2
  have h1 : (xb.length + 1) * 16 ≤ 140737488355328 := by omega
  have h2 : xb.length + 1 ≤ 140737488355328 := by omega
  have hP1 : (hrows 0 ns).set i [.v (.int .u8 xk), .v (.int .u8 pk), .v (.int .i64 pn), .ps (pq.map Pl.row), .ps (pe.map E.row), .ps (pc.map irow), .ps (pw.map irow), .v (.int .u8 pa), .v (.int .i64 pg), .v (.int .i64 xn), .v (.int .i64 xl), .v (.int .i64 xr), .ps (xt.map prow), .han (fid i) (xb.length + 1) 0 (xb.length + 1)] = hrows 0 (pushB ns i to) := by unfold pushB; rw [hrows_modify _ _ _ _ hi]; simp [goB, Nd.hrow, Pl.row_eq]
  have hP2 : (tblN ns).set i (xb.map prow ++ [[.v (.int .i64 to.a), .v (.int .i64 to.b)]]) = tblN (pushB ns i to) := by unfold pushB; rw [tblN_modify _ _ _ _ hi]; simp [goB, prow]
  refine sq ?_
  refine rg 1000 ?_
  refine pr [0, 1, 4, 40, 41, 52, 53, 90] ?_
  refine sq ?_
  refine rg 2000 ?_
  refine pr [0, 1, 4, 11, 12, 40, 41, 52, 53, 90] ?_
  refine k_block ?_
  refine sq ?_
  refine rg 13000 ?_
  refine pr [0, 1, 4, 11, 12, 40, 41, 43, 44, 52, 53, 90] ?_
  refine ce ?_
  refine sq ?_
  refine rg 15000 ?_
  refine pr [0, 1, 4, 11, 12, 40, 41, 42, 53, 54, 55, 90] ?_
  refine ct ?_
  refine sq ?_
  refine dr ?_
  refine de 16000 ?_ (h := by simp [*, irow]; exact is_rfl _)
  refine dn ?_
  refine pr [5, 7, 75, 85] ?_
  refine dr ?_
  refine de 17000 ?_
  refine dn ?_
  refine k_nil ?_
  show AK _ _ _ _ _ _
  refine k_nil ?_
  show retQ _ _ _ _ _ _ _
  simp [*]

end Go.Proofs
end
section
set_option linter.unusedVariables false
set_option linter.unusedSimpArgs false
namespace Go.Proofs
open Go.Flat
set_option maxRecDepth 100000
set_option linter.unusedSimpArgs false
set_option linter.unusedVariables false
attribute [local simp] Bool.and_assoc Bool.or_assoc evalG evalX efD skF guardG guardL isCall stepL evalOp ev evs lk tmpsL app AV.ok fresh vv putCells insV ins del putL place Go.Flat.look fillC fillR getCells loadF storeF binF scalarBin intBin strBin isShift shiftBin unF lenF maxF minF rowsF appendF builtinF idxF natOf sliceP sliceF optEv Flat.cut overwrite toPV toPVs constAV scalarC scalarCs AV.cells TI.isAgg allSome andAll scalarEq buildable Go.Flat.lim retQ resL resAll resOne PartOf noTmp closedIn refs refs.refsL isSomeV hasB ids leA leA.leL renA renA.renL callB refsAll backL dropIds renS LiesAt injB ownB freshB memN locId insAll leA_refl leL_refl okS frzS frzA frzA.frzL evalD feet fine updCells cellsFrom memP footRf footWf noTmpU updIds opOps opIds idsA footR footW guardTs opTs dstTs callR callW renLoc renC inBlockQ thenQ Value.oneCell' IntKind.bits IntKind.signed PV.up toPH toPHs

attribute [local simp] Pl.row_eq Pl.av
attribute [local simp] leafN Pl.zero prow Nd.row in
theorem spec69_1 (ns : List Nd) (ar : List Int) (to : Prt) (hns : ns.length ≤ 300) (m : Int) (kids : List Pl) (ex : List E) (cols wth : List Int) (agg rds : Int) : Flat.Sp Try.prog 69 [.sl 0 ns.length 0 ns.length, (Pl.mk 1 m kids ex cols wth agg rds).av, .agg [vv (.int .i64 to.a), vv (.int .i64 to.b)], .p (.ps (ar.map irow))] [(.arr 0, .arr 75 14 (ns.map Nd.row) 0)] (.sl 0 (ns ++ [leafN m to]).length 0 (ns ++ [leafN m to]).length) [(.arr 0, .arr 75 14 ((ns ++ [leafN m to]).map Nd.row) 0)] := by
  refine sk Try.func69 ?_
  intro F G hn hG
  have h1 : (ns.length + 1) * 208 ≤ 140737488355328 := by omega
  have h2 : ns.length + 1 ≤ 140737488355328 := by omega
  refine sq ?_
  refine rg 1000 ?_
  refine pr [0, 1, 3, 4, 5, 7, 8, 130] ?_
  refine sq ?_
  refine rg 2000 ?_
  refine pr [0, 1, 3, 4, 5, 7, 8, 14, 16, 130] ?_
  refine sq ?_
  refine sq ?_
  refine rg 3000 ?_
  refine pr [0, 1, 3, 4, 5, 7, 8, 14, 17, 130] ?_
  refine k_block ?_
  refine sq ?_
  refine rg 4000 ?_
  refine pr [0, 1, 3, 4, 5, 7, 8, 14, 17, 19, 20, 130] ?_
  refine ct ?_
  refine sq ?_
  refine rg 5000 ?_
  refine pr [0, 1, 3, 4, 5, 7, 8, 10, 11, 14, 101, 130] ?_
  refine k_ret ?_
  show retQ _ _ _ _ _ _ _
  simp [*]

theorem rows_modify (ns : List Nd) (i : Nat) (f : Nd → Nd) (x : Nd) (h : ns[i]? = some x) : (ns.map Nd.row).set i (f x).row = (ns.modify i f).map Nd.row := by
  apply List.ext_getElem?
  intro j
  have hlt := (List.getElem?_eq_some_iff.1 h).1
  simp only [List.getElem?_map, List.getElem?_modify]
  by_cases e : i = j
  · subst e
    rw [List.getElem?_set_self (by simpa using hlt), h]
    simp
  · rw [List.getElem?_set_ne e, List.getElem?_map]
    cases hq : ns[j]? <;> simp [e]

attribute [local simp] prow in
theorem spec69_2 (ns : List Nd) (ar : List Int) (to : Prt) (hns : ns.length ≤ 300) (m : Int) (kids : List Pl) (ex : List E) (cols wth : List Int) (agg rds : Int) (hal : ar.length ≤ 4) (j : Nat) (hjn : j < ar.length) (hj : IntKind.i64.wrap ((ar.length : Int) - 1 - m) = j) (i : Nat) (hA : ar[j] = (i : Int)) (xk pk pn : Int) (pq : List Pl) (pe : List E) (pc pw : List Int) (pa pg xn xl xr : Int) (xt xb : List Prt) (hi : ns[i]? = some ⟨xk, .mk pk pn pq pe pc pw pa pg, xn, xl, xr, xt, xb⟩) (hxb : xb.length ≤ 300) : Flat.Sp Try.prog 69 [.sl 0 ns.length 0 ns.length, (Pl.mk 2 m kids ex cols wth agg rds).av, .agg [vv (.int .i64 to.a), vv (.int .i64 to.b)], .p (.ps (ar.map irow))] [(.arr 0, .arr 75 14 (ns.map Nd.row) 0)] (.sl 0 (pushB ns i to).length 0 (pushB ns i to).length) [(.arr 0, .arr 75 14 ((pushB ns i to).map Nd.row) 0)] := by
  refine sk Try.func69 ?_
  intro F G hn hG
  have hilt : i < ns.length := (List.getElem?_eq_some_iff.1 hi).1
  have hw1 : IntKind.i64.wrap ((ar.length : Int) - 1) = (ar.length : Int) - 1 := by rw [w64]; omega
  have hgN2 : (ns.map Nd.row)[i]? = some [.v (.int .u8 xk), .v (.int .u8 pk), .v (.int .i64 pn), .ps (pq.map Pl.row), .ps (pe.map E.row), .ps (pc.map irow), .ps (pw.map irow), .v (.int .u8 pa), .v (.int .i64 pg), .v (.int .i64 xn), .v (.int .i64 xl), .v (.int .i64 xr), .ps (xt.map prow), .ps (xb.map prow)] := by rw [List.getElem?_map, hi]; simp [Nd.row]
  have hgN : (ns.map Nd.row).getD i [] = [.v (.int .u8 xk), .v (.int .u8 pk), .v (.int .i64 pn), .ps (pq.map Pl.row), .ps (pe.map E.row), .ps (pc.map irow), .ps (pw.map irow), .v (.int .u8 pa), .v (.int .i64 pg), .v (.int .i64 xn), .v (.int .i64 xl), .v (.int .i64 xr), .ps (xt.map prow), .ps (xb.map prow)] := by rw [List.getD_eq_getElem?_getD, hgN2]; rfl
  obtain ⟨hgN4, hgN3⟩ := List.getElem?_eq_some_iff.1 hgN2
  have hgN5 : ns[i].row = [.v (.int .u8 xk), .v (.int .u8 pk), .v (.int .i64 pn), .ps (pq.map Pl.row), .ps (pe.map E.row), .ps (pc.map irow), .ps (pw.map irow), .v (.int .u8 pa), .v (.int .i64 pg), .v (.int .i64 xn), .v (.int .i64 xl), .v (.int .i64 xr), .ps (xt.map prow), .ps (xb.map prow)] := by simpa using hgN3
  have h1 : (xb.length + 1) * 16 ≤ 140737488355328 := by omega
  have h2 : xb.length + 1 ≤ 140737488355328 := by omega
  have h3 : xb.length * 16 ≤ 140737488355328 := by omega
  have h4 : xb.length ≤ 140737488355328 := by omega
  have htx : (xb.map prow).take xb.length = xb.map prow := List.take_of_length_le (by simp)
  have htx2 : ∀ z, (xb.map prow ++ [z]).take (xb.length + 1) = xb.map prow ++ [z] := fun z => List.take_of_length_le (by simp)
  have hP1 : (ns.map Nd.row).set i [.v (.int .u8 xk), .v (.int .u8 pk), .v (.int .i64 pn), .ps (pq.map Pl.row), .ps (pe.map E.row), .ps (pc.map irow), .ps (pw.map irow), .v (.int .u8 pa), .v (.int .i64 pg), .v (.int .i64 xn), .v (.int .i64 xl), .v (.int .i64 xr), .ps (xt.map prow), .ps (xb.map prow ++ [[.v (.int .i64 to.a), .v (.int .i64 to.b)]])] = (pushB ns i to).map Nd.row := by unfold pushB; rw [← rows_modify _ _ _ _ hi]; simp [goB, Nd.row, Pl.row_eq]
  refine sq ?_
  refine rg 1000 ?_
  refine pr [0, 1, 3, 4, 5, 7, 8, 130] ?_
  refine sq ?_
  refine rg 2000 ?_
  refine pr [0, 1, 3, 4, 5, 7, 8, 14, 16, 130] ?_
  refine sq ?_
  refine sq ?_
  refine rg 3000 ?_
  refine pr [0, 1, 3, 4, 5, 7, 8, 14, 17, 130] ?_
  refine k_block ?_
  refine sq ?_
  refine rg 4000 ?_
  refine pr [0, 1, 3, 4, 5, 7, 8, 14, 17, 19, 20, 130] ?_
  refine ce ?_
  refine sq ?_
  refine rg 6000 ?_
  refine pr [0, 1, 3, 4, 5, 7, 8, 14, 17, 18, 28, 29, 30, 130] ?_
  refine ct ?_
  refine sq ?_
  refine rg 7000 ?_ (h := by simp [*, irow]; exact is_rfl _)
  refine pr [0, 1, 3, 4, 5, 7, 8, 14, 39, 54, 101, 130] ?_
  refine sq ?_
  refine dr ?_
  refine dt 8000 ?_
  refine dt 8001 ?_
  refine dt 8002 ?_
  refine dt 8003 ?_
  refine dt 8004 ?_
  refine dt 8005 ?_
  refine dt 8006 ?_
  refine dt 8007 ?_
  refine dt 8008 ?_
  refine dt 8009 ?_
  refine dt 8010 ?_
  refine dpub 8011 ?_
  refine de 8100 ?_
  refine dn ?_
  refine pr [0, 1, 3, 4, 5, 7, 8, 10, 11, 14, 53, 54, 101, 130] ?_
  refine sq ?_
  refine rg 9000 ?_
  refine pr [0, 1, 3, 4, 5, 7, 8, 10, 11, 14, 101, 130] ?_
  refine k_ret ?_
  show retQ _ _ _ _ _ _ _
  simp [*]

end Go.Proofs
end
section
set_option linter.unusedVariables false
set_option linter.unusedSimpArgs false
namespace Go.Proofs
open Go.Flat
set_option maxRecDepth 100000
set_option linter.unusedSimpArgs false
set_option linter.unusedVariables false
attribute [local simp] Bool.and_assoc Bool.or_assoc evalG evalX efD skF guardG guardL isCall stepL evalOp ev evs lk tmpsL app AV.ok fresh vv putCells insV ins del putL place Go.Flat.look fillC fillR getCells loadF storeF binF scalarBin intBin strBin isShift shiftBin unF lenF maxF minF rowsF appendF builtinF idxF natOf sliceP sliceF optEv Flat.cut overwrite toPV toPVs constAV scalarC scalarCs AV.cells TI.isAgg allSome andAll scalarEq buildable Go.Flat.lim retQ resL resAll resOne PartOf noTmp closedIn refs refs.refsL isSomeV hasB ids leA leA.leL renA renA.renL callB refsAll backL dropIds renS LiesAt injB ownB freshB memN locId insAll leA_refl leL_refl okS frzS frzA frzA.frzL evalD feet fine updCells cellsFrom memP footRf footWf noTmpU updIds opOps opIds idsA footR footW guardTs opTs dstTs callR callW renLoc renC inBlockQ thenQ Value.oneCell' IntKind.bits IntKind.signed PV.up toPH toPHs

attribute [local simp] GS Pl.row_eq Pl.av
attribute [local simp] loopN leaveN Pl.zero prow irow Nd.hrow in
theorem spec122_0 (ns ns2 ns3 : List Nd) (A A2 B A3 : List Int) (m : Int) (ex : List E) (cols wth : List Int) (agg rds : Int) (to : Prt) (xk xn : Int) (xq : List Pl) (xe : List E) (xc xw : List Int) (xa xr : Int) (yk yn : Int) (yq : List Pl) (ye : List E) (yc yw : List Int) (ya yr : Int) (hns : ns.length + 2 ≤ 300) (hm1 : ns.length + 2 ≤ ns2.length) (hm2 : ns2.length ≤ ns3.length) (hnA : A2.length ≤ A.length) (hA2 : A2.length ≤ 2) (hn2 : A2.length ≤ 2) (hBl : B.length = A2.length + 1) (hBm : A2.map irow ++ [[.v (.int .i64 ns.length)]] = B.map irow) (hx : Flat.Sp Try.prog 67 [.ptr 3 0, (Pl.mk xk xn xq xe xc xw xa xr).av, .agg [vv (.int .i64 ns.length), vv (.int .i64 0)]] (GS (ns ++ [loopN A2.length rds ns.length] ++ [leaveN A2.length rds to]) A2.length A) (.tup []) (GS ns2 A2.length A2)) (hy : Flat.Sp Try.prog 67 [.ptr 3 0, (Pl.mk yk yn yq ye yc yw ya yr).av, .agg [vv (.int .i64 ns.length), vv (.int .i64 1)]] (GS ns2 (A2.length + 1) B) (.tup []) (GS ns3 (A2.length + 1) A3)) : Flat.Sp Try.prog 122 [.ptr 3 0, (Pl.mk 10 m [(Pl.mk xk xn xq xe xc xw xa xr), (Pl.mk yk yn yq ye yc yw ya yr)] ex cols wth agg rds).av, .agg [vv (.int .i64 to.a), vv (.int .i64 to.b)]] (GS ns A2.length A) (.tup []) (GS ns3 A2.length A3) := by
  refine skW Try.func122 ?_ (hn := by show 3 ≤ 64; decide) (hs := by simp)
  intro F G hn hG hd0
  have hl1 : ns.length ≤ 300 := by omega
  have hl2 : ns.length + 1 ≤ 300 := by omega
  have hw0 : IntKind.i64.wrap ((ns.length : Int) + 1) = (ns.length : Int) + 1 := by have := Flat.wrap_small (n := ns.length + 1) (by simp only [Flat.lim]; omega); simpa using this
  have hc1 : ns.length ≤ ns2.length := by omega
  have hc3 : ns.length ≤ ns3.length := by omega
  have hq1 : (A2.length + 1) * 8 ≤ 140737488355328 := by omega
  have hq2 : A2.length + 1 ≤ 140737488355328 := by omega
  refine kwq ?_
  refine kw1 ?_
  refine pr [0, 36, 37, 44, 45, 63] ?_
  refine rg 1000 ?_
  refine k_nil ?_
  refine ⟨rfl, ?_⟩
  refine kwq ?_
  refine kw1 ?_
  refine pr [3, 36, 37, 44, 45, 63] ?_
  refine dr ?_
  refine de 2000 ?_
  refine dn ?_
  refine k_nil ?_
  refine ⟨rfl, ?_⟩
  refine kwq ?_
  refine kw1 ?_
  refine pr [3, 8, 16, 36, 37, 44, 45, 63] ?_
  refine dr ?_
  refine de 3000 ?_
  refine dcI (spec66 ns A2.length A 3 0 0 [] [] [] [] 0 0 0 A2.length rds [⟨(ns.length : Int) + 1, 0⟩] (by simp [Bnd]) hl1 hnA) ?_
  refine de 3100 ?_
  refine dn ?_
  refine k_nil ?_
  refine ⟨rfl, ?_⟩
  refine kwq ?_
  refine kw1 ?_
  refine pr [3, 8, 29, 36, 37, 44, 45, 63] ?_
  refine rg 4000 ?_
  refine k_nil ?_
  refine ⟨rfl, ?_⟩
  refine kwq ?_
  refine kw1 ?_
  refine pr [3, 8, 30, 36, 37, 44, 45, 63] ?_
  refine dr ?_
  refine de 5000 ?_
  refine dcI (spec66 (ns ++ [loopN A2.length rds ns.length]) A2.length A 4 0 0 [] [] [] [] 0 0 0 A2.length rds [to] (by simp [Bnd]) (by simpa using hl2) hnA) ?_
  refine dn ?_
  refine k_nil ?_
  refine ⟨rfl, ?_⟩
  refine kwq ?_
  refine kw1 ?_
  refine pr [3, 5, 7, 8, 37, 44, 45, 63] ?_
  refine dr ?_
  refine de 6000 ?_
  refine dcI (hx) ?_
  refine dn ?_
  refine k_nil ?_
  refine ⟨rfl, ?_⟩
  refine kwq ?_
  refine kw1 ?_
  refine pr [3, 5, 7, 8, 45, 63] ?_
  refine dr ?_
  refine de 7000 ?_
  refine dn ?_
  refine k_nil ?_
  refine ⟨rfl, ?_⟩
  refine kwq ?_
  refine kwk ((.tmp 3, .av (.ptr 1000 0)) :: (.tmp 4, .av (.ptr 1001 0)) :: (.tmp 7, .av (vv (.int .i64 ns.length))) :: (.var 1000, .n 1) :: (.cell 1000 0, .av (.ptr 3 0)) :: (.var 1001, .n 8) :: (.cell 1001 0, .av (vv (.int .u8 10))) :: (.cell 1001 1, .av (vv (.int .i64 m))) :: (.cell 1001 2, .av (.p (.ps ([(Pl.mk xk xn xq xe xc xw xa xr), (Pl.mk yk yn yq ye yc yw ya yr)].map Pl.row)))) :: (.cell 1001 3, .av (.p (.ps (ex.map E.row)))) :: (.cell 1001 4, .av (.p (.ps (cols.map irow)))) :: (.cell 1001 5, .av (.p (.ps (wth.map irow)))) :: (.cell 1001 6, .av (vv (.int .u8 agg))) :: (.cell 1001 7, .av (vv (.int .i64 rds))) :: GS ns2 (A2.length + 1) B) ?_
  refine kwd 8000 ((.var 1000, .n 1) :: (.cell 1000 0, .av (.ptr 3 0)) :: (.var 1001, .n 8) :: (.cell 1001 0, .av (vv (.int .u8 10))) :: (.cell 1001 1, .av (vv (.int .i64 m))) :: (.cell 1001 2, .av (.p (.ps ([(Pl.mk xk xn xq xe xc xw xa xr), (Pl.mk yk yn yq ye yc yw ya yr)].map Pl.row)))) :: (.cell 1001 3, .av (.p (.ps (ex.map E.row)))) :: (.cell 1001 4, .av (.p (.ps (cols.map irow)))) :: (.cell 1001 5, .av (.p (.ps (wth.map irow)))) :: (.cell 1001 6, .av (vv (.int .u8 agg))) :: (.cell 1001 7, .av (vv (.int .i64 rds))) :: GS ns3 (A2.length + 1) A3) (spec169 ns3 A2.length A3 (by omega)) ?_
  · intro F G hn hG
    refine dr ?_
    refine de 9000 ?_
    refine dcI (hy) ?_
    refine dn ?_
    refine k_nil ?_
    refine ⟨.inr rfl, ?_, ?_, ?_⟩ <;> simp [*]

attribute [local simp] loopN leaveN Pl.zero prow irow Nd.hrow in
theorem spec122_1 (ns ns2 ns3 : List Nd) (nd : Nat) (A A2 B A3 : List Int) (m : Int) (ex : List E) (cols wth : List Int) (agg rds : Int) (to : Prt) (xk xn : Int) (xq : List Pl) (xe : List E) (xc xw : List Int) (xa xr : Int) (yk yn : Int) (yq : List Pl) (ye : List E) (yc yw : List Int) (ya yr : Int) (hns : ns.length + 2 ≤ 300) (hm1 : ns.length + 2 ≤ ns2.length) (hm2 : ns2.length ≤ ns3.length) (hnA : nd ≤ A.length) (hA2 : A2.length ≤ 2) (hn2 : nd ≤ 2) (hlt : nd < A2.length) (hBl : B.length = A2.length) (hBm : (A2.map irow).take nd ++ [.v (.int .i64 ns.length)] :: (A2.map irow).drop (nd + 1) = B.map irow) (hx : Flat.Sp Try.prog 67 [.ptr 3 0, (Pl.mk xk xn xq xe xc xw xa xr).av, .agg [vv (.int .i64 ns.length), vv (.int .i64 0)]] (GS (ns ++ [loopN nd rds ns.length] ++ [leaveN nd rds to]) nd A) (.tup []) (GS ns2 nd A2)) (hy : Flat.Sp Try.prog 67 [.ptr 3 0, (Pl.mk yk yn yq ye yc yw ya yr).av, .agg [vv (.int .i64 ns.length), vv (.int .i64 1)]] (GS ns2 (nd + 1) B) (.tup []) (GS ns3 (nd + 1) A3)) : Flat.Sp Try.prog 122 [.ptr 3 0, (Pl.mk 10 m [(Pl.mk xk xn xq xe xc xw xa xr), (Pl.mk yk yn yq ye yc yw ya yr)] ex cols wth agg rds).av, .agg [vv (.int .i64 to.a), vv (.int .i64 to.b)]] (GS ns nd A) (.tup []) (GS ns3 nd A3) := by
  refine skW Try.func122 ?_ (hn := by show 3 ≤ 64; decide) (hs := by simp)
  intro F G hn hG hd0
  have hl1 : ns.length ≤ 300 := by omega
  have hl2 : ns.length + 1 ≤ 300 := by omega
  have hw0 : IntKind.i64.wrap ((ns.length : Int) + 1) = (ns.length : Int) + 1 := by have := Flat.wrap_small (n := ns.length + 1) (by simp only [Flat.lim]; omega); simpa using this
  have hc1 : ns.length ≤ ns2.length := by omega
  have hc3 : ns.length ≤ ns3.length := by omega
  have hq1 : (nd + 1) * 8 ≤ 140737488355328 := by omega
  have hq2 : nd + 1 ≤ 140737488355328 := by omega
  have hmx : max A2.length (nd + 1) = A2.length := by omega
  have hne : ¬ nd = A2.length := by omega
  have hmn : min nd A2.length = nd := by omega
  refine kwq ?_
  refine kw1 ?_
  refine pr [0, 36, 37, 44, 45, 63] ?_
  refine rg 1000 ?_
  refine k_nil ?_
  refine ⟨rfl, ?_⟩
  refine kwq ?_
  refine kw1 ?_
  refine pr [3, 36, 37, 44, 45, 63] ?_
  refine dr ?_
  refine de 2000 ?_
  refine dn ?_
  refine k_nil ?_
  refine ⟨rfl, ?_⟩
  refine kwq ?_
  refine kw1 ?_
  refine pr [3, 8, 16, 36, 37, 44, 45, 63] ?_
  refine dr ?_
  refine de 3000 ?_
  refine dcI (spec66 ns nd A 3 0 0 [] [] [] [] 0 0 0 nd rds [⟨(ns.length : Int) + 1, 0⟩] (by simp [Bnd]) hl1 hnA) ?_
  refine de 3100 ?_
  refine dn ?_
  refine k_nil ?_
  refine ⟨rfl, ?_⟩
  refine kwq ?_
  refine kw1 ?_
  refine pr [3, 8, 29, 36, 37, 44, 45, 63] ?_
  refine rg 4000 ?_
  refine k_nil ?_
  refine ⟨rfl, ?_⟩
  refine kwq ?_
  refine kw1 ?_
  refine pr [3, 8, 30, 36, 37, 44, 45, 63] ?_
  refine dr ?_
  refine de 5000 ?_
  refine dcI (spec66 (ns ++ [loopN nd rds ns.length]) nd A 4 0 0 [] [] [] [] 0 0 0 nd rds [to] (by simp [Bnd]) (by simpa using hl2) hnA) ?_
  refine dn ?_
  refine k_nil ?_
  refine ⟨rfl, ?_⟩
  refine kwq ?_
  refine kw1 ?_
  refine pr [3, 5, 7, 8, 37, 44, 45, 63] ?_
  refine dr ?_
  refine de 6000 ?_
  refine dcI (hx) ?_
  refine dn ?_
  refine k_nil ?_
  refine ⟨rfl, ?_⟩
  refine kwq ?_
  refine kw1 ?_
  refine pr [3, 5, 7, 8, 45, 63] ?_
  refine dr ?_
  refine de 7000 ?_
  refine dn ?_
  refine k_nil ?_
  refine ⟨rfl, ?_⟩
  refine kwq ?_
  refine kwk ((.tmp 3, .av (.ptr 1000 0)) :: (.tmp 4, .av (.ptr 1001 0)) :: (.tmp 7, .av (vv (.int .i64 ns.length))) :: (.var 1000, .n 1) :: (.cell 1000 0, .av (.ptr 3 0)) :: (.var 1001, .n 8) :: (.cell 1001 0, .av (vv (.int .u8 10))) :: (.cell 1001 1, .av (vv (.int .i64 m))) :: (.cell 1001 2, .av (.p (.ps ([(Pl.mk xk xn xq xe xc xw xa xr), (Pl.mk yk yn yq ye yc yw ya yr)].map Pl.row)))) :: (.cell 1001 3, .av (.p (.ps (ex.map E.row)))) :: (.cell 1001 4, .av (.p (.ps (cols.map irow)))) :: (.cell 1001 5, .av (.p (.ps (wth.map irow)))) :: (.cell 1001 6, .av (vv (.int .u8 agg))) :: (.cell 1001 7, .av (vv (.int .i64 rds))) :: GS ns2 (nd + 1) B) ?_
  refine kwd 8000 ((.var 1000, .n 1) :: (.cell 1000 0, .av (.ptr 3 0)) :: (.var 1001, .n 8) :: (.cell 1001 0, .av (vv (.int .u8 10))) :: (.cell 1001 1, .av (vv (.int .i64 m))) :: (.cell 1001 2, .av (.p (.ps ([(Pl.mk xk xn xq xe xc xw xa xr), (Pl.mk yk yn yq ye yc yw ya yr)].map Pl.row)))) :: (.cell 1001 3, .av (.p (.ps (ex.map E.row)))) :: (.cell 1001 4, .av (.p (.ps (cols.map irow)))) :: (.cell 1001 5, .av (.p (.ps (wth.map irow)))) :: (.cell 1001 6, .av (vv (.int .u8 agg))) :: (.cell 1001 7, .av (vv (.int .i64 rds))) :: GS ns3 (nd + 1) A3) (spec169 ns3 nd A3 (by omega)) ?_
  · intro F G hn hG
    refine dr ?_
    refine de 9000 ?_
    refine dcI (hy) ?_
    refine dn ?_
    refine k_nil ?_
    refine ⟨.inr rfl, ?_, ?_, ?_⟩ <;> simp [*]

end Go.Proofs
end
section
set_option linter.unusedVariables false
set_option linter.unusedSimpArgs false
namespace Go.Proofs
open Go.Flat
set_option maxRecDepth 100000
set_option linter.unusedSimpArgs false
set_option linter.unusedVariables false
attribute [local simp] Bool.and_assoc Bool.or_assoc evalG evalX efD skF guardG guardL isCall stepL evalOp ev evs lk tmpsL app AV.ok fresh vv putCells insV ins del putL place Go.Flat.look fillC fillR getCells loadF storeF binF scalarBin intBin strBin isShift shiftBin unF lenF maxF minF rowsF appendF builtinF idxF natOf sliceP sliceF optEv Flat.cut overwrite toPV toPVs constAV scalarC scalarCs AV.cells TI.isAgg allSome andAll scalarEq buildable Go.Flat.lim retQ resL resAll resOne PartOf noTmp closedIn refs refs.refsL isSomeV hasB ids leA leA.leL renA renA.renL callB refsAll backL dropIds renS LiesAt injB ownB freshB memN locId insAll leA_refl leL_refl okS frzS frzA frzA.frzL evalD feet fine updCells cellsFrom memP footRf footWf noTmpU updIds opOps opIds idsA footR footW guardTs opTs dstTs callR callW renLoc renC inBlockQ thenQ Value.oneCell' IntKind.bits IntKind.signed PV.up toPH toPHs

/-- What building a plan's nodes does. -/
def GSp (p : Pl) : Prop := ∀ (to : Prt) (nd : Nat) (s : BR), p.vok nd → Rm s nd p.size → Flat.Sp Try.prog 67 [.ptr 3 0, p.av, .agg [vv (.int .i64 to.a), vv (.int .i64 to.b)]] (GS s.1 nd s.2) (.tup []) (GS (bld p to nd s).1 nd (bld p to nd s).2)
attribute [local simp] GS Pl.row_eq Pl.av

theorem spec67_10 (ns : List Nd) (nd : Nat) (A : List Int) (m : Int) (kids : List Pl) (ex : List E) (cols wth : List Int) (agg rds : Int) (to : Prt) (r : BR) (hle : ns.length ≤ r.1.length) (hsp : Flat.Sp Try.prog 122 [.ptr 3 0, (Pl.mk 10 m kids ex cols wth agg rds).av, .agg [vv (.int .i64 to.a), vv (.int .i64 to.b)]] (GS ns nd A) (.tup []) (GS r.1 nd r.2)) : Flat.Sp Try.prog 67 [.ptr 3 0, (Pl.mk 10 m kids ex cols wth agg rds).av, .agg [vv (.int .i64 to.a), vv (.int .i64 to.b)]] (GS ns nd A) (.tup []) (GS r.1 nd r.2) := by
  refine sk Try.func67 ?_ (hs := by simp)
  intro F G hn hG
  refine sq ?_
  refine rg 1000 ?_
  refine pr [0, 1, 4, 40, 41, 52, 53, 90] ?_
  refine sq ?_
  refine rg 2000 ?_
  refine pr [0, 1, 4, 11, 12, 40, 41, 52, 53, 90] ?_
  refine k_block ?_
  refine sq ?_
  refine rg 13000 ?_
  refine pr [0, 1, 4, 11, 12, 40, 41, 43, 44, 52, 53, 90] ?_
  refine ce ?_
  refine sq ?_
  refine rg 15000 ?_
  refine pr [0, 1, 4, 11, 12, 40, 41, 42, 53, 54, 55, 90] ?_
  refine ce ?_
  refine sq ?_
  refine rg 18000 ?_
  refine pr [0, 1, 4, 6, 7, 11, 13, 40, 41, 42, 85, 86, 87, 90] ?_
  refine ct ?_
  refine rc 19000 ?_
  refine ocI (hsp) ?_
  refine on ?_
  refine k_nil ?_
  show AK _ _ _ _ _ _
  refine k_nil ?_
  show retQ _ _ _ _ _ _ _
  simp [*]

theorem spec66_p (ns : List Nd) (nd : Nat) (A : List Int) (k m : Int) (ex : List E) (cols wth : List Int) (agg rds : Int) (to : Prt) (hns : ns.length ≤ 300) (hnd : nd ≤ A.length) :
    Flat.Sp Try.prog 66 [.ptr 3 0, .agg [vv (.int .u8 1), vv (.int .u8 k), vv (.int .i64 m), .p (.ps []), .p (.ps (ex.map E.row)), .p (.ps (cols.map irow)), .p (.ps (wth.map irow)), vv (.int .u8 agg), vv (.int .i64 rds), vv (.int .i64 0), vv (.int .i64 0), vv (.int .i64 0), .psf [], .psf []], .p (.ps ([to].map prow))] (GS ns nd A) (vv (.int .i64 ns.length)) (GS (ns ++ [planN (.mk k m [] ex cols wth agg rds) to]) nd A) :=
  spec66 ns nd A 1 k m [] ex cols wth agg rds 0 0 0 [to] (by simp [Bnd]) hns hnd

theorem sizeL_take : ∀ {l : List Pl} {i : Nat} {x : Pl}, l[i]? = some x → Pl.sizeL (l.take i) + x.size ≤ Pl.sizeL l
  | [], i, x, h => by simp at h
  | y :: l, 0, x, h => by simp at h; subst h; simp [Pl.sizeL]
  | y :: l, i + 1, x, h => by
    have := sizeL_take (l := l) (i := i) (x := x) (by simpa using h)
    simp only [List.take_succ_cons, Pl.sizeL]; omega
theorem Pl.vokL_of {nd : Nat} : ∀ {l : List Pl}, (∀ x ∈ l, x.vok nd) → Pl.vokL l nd
  | [], _ => by simp [Pl.vokL]
  | e :: r, h => by
    rw [Pl.vokL]
    exact ⟨h e (by simp), Pl.vokL_of fun x hx => h x (by simp [hx])⟩

attribute [local simp] prow in
theorem spec67_d (ns : List Nd) (nd : Nat) (A : List Int) (k : Int) (m : Int) (kids : List Pl) (ex : List E) (cols wth : List Int) (agg rds : Int) (to : Prt) (h1 : (k == 1) = false) (h2 : (k == 2) = false) (h10 : (k == 10) = false) (hbe : ex.length ≤ Bnd) (hbc : cols.length ≤ Bnd) (hbw : wth.length ≤ Bnd) (hge : ∀ e ∈ ex, e.good) (hkl : kids.length ≤ 300) (hv : Pl.vokL kids nd) (hrm : Rm (ns, A) nd (1 + Pl.sizeL kids)) (ih : ∀ x ∈ kids, GSp x) : Flat.Sp Try.prog 67 [.ptr 3 0, (Pl.mk k m kids ex cols wth agg rds).av, .agg [vv (.int .i64 to.a), vv (.int .i64 to.b)]] (GS ns nd A) (.tup []) (GS (bldL kids (k == 7) ns.length 0 nd (ns ++ [planN (.mk k m [] ex cols wth agg rds) to], A)).1 nd (bldL kids (k == 7) ns.length 0 nd (ns ++ [planN (.mk k m [] ex cols wth agg rds) to], A)).2) := by
  refine sk Try.func67 ?_ (hs := by simp)
  intro F G hn hG
  have hns : ns.length ≤ 300 := by have := hrm.len; simp only at this; omega
  have hnd : nd ≤ A.length := hrm.dep
  have hkl2 : kids.length ≤ Flat.lim := by simp only [Flat.lim]; omega
  have hwn : IntKind.i64.wrap (ns.length : Int) = ns.length := Flat.wrap_small (by simp only [Flat.lim]; omega)
  have hgwS : ∀ i, Gw (ns, A) (bldL (kids.take i) (k == 7) ns.length 0 nd (ns ++ [planN (.mk k m [] ex cols wth agg rds) to], A)) nd (1 + Pl.sizeL (kids.take i)) := fun i => (Gw.snoc (ns, A) (planN (.mk k m [] ex cols wth agg rds) to) nd rfl).trans (bldL_gw (kids.take i) _ _ 0 nd _ (Pl.vokL_of fun y hy => Pl.vokL_mem hv y (List.mem_of_mem_take hy)) hnd)
  refine sq ?_
  refine rg 1000 ?_
  refine pr [0, 1, 4, 40, 41, 52, 53, 90] ?_
  refine sq ?_
  refine rg 2000 ?_
  refine pr [0, 1, 4, 11, 12, 40, 41, 52, 53, 90] ?_
  refine k_block ?_
  refine sq ?_
  refine rg 13000 ?_
  refine pr [0, 1, 4, 11, 12, 40, 41, 43, 44, 52, 53, 90] ?_
  refine ce ?_
  refine sq ?_
  refine rg 15000 ?_
  refine pr [0, 1, 4, 11, 12, 40, 41, 42, 53, 54, 55, 90] ?_
  refine ce ?_
  refine sq ?_
  refine rg 18000 ?_
  refine pr [0, 1, 4, 6, 7, 11, 13, 40, 41, 42, 85, 86, 87, 90] ?_
  refine ce ?_
  refine sq ?_
  refine rg 3000 ?_
  refine pr [0, 1, 4, 6, 7, 11, 14, 40, 41, 42] ?_
  refine sq ?_
  refine rg 4000 ?_
  refine pr [0, 1, 4, 6, 7, 11, 15, 40, 41, 42] ?_
  refine sq ?_
  refine dr ?_
  refine de 5000 ?_
  refine dc id (spec123 k m ex cols wth agg rds hbe hbc hbw hge) ?_
  refine de 5100 ?_
  refine dcI (spec66_p ns nd A k m ex cols wth agg rds to hns hnd) ?_
  refine de 5200 ?_
  refine dn ?_
  refine pr [0, 1, 4, 5, 8, 11, 24, 40, 41, 42] ?_
  refine sq ?_
  refine rg 6000 ?_
  refine pr [0, 1, 4, 5, 8, 11, 25, 40, 41, 42] ?_
  refine k_block ?_
  refine k_loop (fun n l => ∃ i, i + n = kids.length ∧ l = (.tmp 0, .av (.ptr 3 0)) :: (.tmp 4, .av (.ptr 1000 0)) :: (.tmp 8, .av (vv (.int .i64 ns.length))) :: (.tmp 25, .av (.p (.ps (kids.map Pl.row)))) :: (.tmp 26, .av (vv (.int .i64 kids.length))) :: (.tmp 27, .av (vv (.int .i64 i))) :: (.var 1000, .n 8) :: (.cell 1000 0, .av (vv (.int .u8 k))) :: (.cell 1000 1, .av (vv (.int .i64 m))) :: (.cell 1000 2, .av (.p (.ps (kids.map Pl.row)))) :: (.cell 1000 3, .av (.p (.ps (ex.map E.row)))) :: (.cell 1000 4, .av (.p (.ps (cols.map irow)))) :: (.cell 1000 5, .av (.p (.ps (wth.map irow)))) :: (.cell 1000 6, .av (vv (.int .u8 agg))) :: (.cell 1000 7, .av (vv (.int .i64 rds))) :: (.var 1001, .n 2) :: (.cell 1001 0, .av (vv (.int .i64 to.a))) :: (.cell 1001 1, .av (vv (.int .i64 to.b))) :: GS (bldL (kids.take i) (k == 7) ns.length 0 nd (ns ++ [planN (.mk k m [] ex cols wth agg rds) to], A)).1 nd (bldL (kids.take i) (k == 7) ns.length 0 nd (ns ++ [planN (.mk k m [] ex cols wth agg rds) to], A)).2) (kids.length) hG ⟨_, ⟨by simp [bldL], by simp [bldL], by simp [bldL]⟩, 0, by simp, rfl⟩ ?_
  rintro n _ ⟨i, hin, rfl⟩
  refine sq ?_
  refine rg 7000 ?_
  refine pr [0, 1, 4, 5, 8, 11, 25, 40, 41, 42] ?_
  refine sq ?_
  refine cd ?_ ?_
  · intro h28_1
    have hlt : i < kids.length := by simpa using h28_1
    obtain ⟨x, hxe⟩ : ∃ x, kids[i] = x := ⟨_, rfl⟩
    have hx : kids[i]? = some x := by simp [hlt, hxe]
    have hw := wrap_succ (show i < Flat.lim by omega)
    have hmem := List.mem_of_getElem? hx
    have hvx := Pl.vokL_mem hv x hmem
    have hgr := hgwS i
    have hle0 : ns.length ≤ (bldL (kids.take i) (k == 7) ns.length 0 nd (ns ++ [planN (.mk k m [] ex cols wth agg rds) to], A)).1.length := by have := hgr.len; simpa using this
    have hrx : Rm (bldL (kids.take i) (k == 7) ns.length 0 nd (ns ++ [planN (.mk k m [] ex cols wth agg rds) to], A)) nd x.size := hgr.rm (hrm.less (by have := sizeL_take hx; omega))
    have hgx := (bld_gw x ⟨(ns.length : Int), if (k == 7) = true then (i : Int) else 0⟩ nd (bldL (kids.take i) (k == 7) ns.length 0 nd (ns ++ [planN (.mk k m [] ex cols wth agg rds) to], A)) hvx hrx.dep).len
    have hle1 : ns.length ≤ (bld x ⟨(ns.length : Int), if (k == 7) = true then (i : Int) else 0⟩ nd (bldL (kids.take i) (k == 7) ns.length 0 nd (ns ++ [planN (.mk k m [] ex cols wth agg rds) to], A))).1.length := by omega
    obtain ⟨xk, xn, xq, xe, xc, xw, xa, xr⟩ := x
    refine k_skip ?_
    refine sq ?_
    refine k_block ?_
    refine sq ?_
    refine rg 8000 ?_
    refine pr [0, 1, 4, 5, 8, 11, 25, 40, 41, 42] ?_
    refine sq ?_
    refine sq ?_
    refine rg 9000 ?_
    refine pr [0, 1, 4, 5, 8, 11, 25, 40, 41, 42] ?_
    refine cd ?_ ?_
    · intro h34_2
      have h7 : (k == 7) = false := by simpa using h34_2
      simp only [h7, Bool.false_eq_true, if_false] at hle0 hle1 hgx
      refine rg 10000 ?_
      refine pr [0, 1, 4, 5, 8, 11, 25, 40, 41, 42] ?_
      refine rc 11000 ?_
      refine ocI (ih _ hmem ⟨(ns.length : Int), if (k == 7) = true then (i : Int) else 0⟩ nd (bldL (kids.take i) (k == 7) ns.length 0 nd (ns ++ [planN (.mk k m [] ex cols wth agg rds) to], A)) hvx hrx) ?_
      refine on ?_
      refine k_nil ?_
      show AK _ _ _ _ _ _
      refine rg 12000 ?_
      refine k_nil ?_
      refine ⟨n - 1, by omega, _, ⟨?_, ?_, ?_⟩, i + 1, by omega, rfl⟩ <;> simp [*, bldL_take hx]
    · intro h34_2
      have h7 : (k == 7) = true := by simpa using h34_2
      simp only [h7, if_true] at hle0 hle1 hgx
      refine k_skip ?_
      refine rc 11000 ?_
      refine ocI (ih _ hmem ⟨(ns.length : Int), if (k == 7) = true then (i : Int) else 0⟩ nd (bldL (kids.take i) (k == 7) ns.length 0 nd (ns ++ [planN (.mk k m [] ex cols wth agg rds) to], A)) hvx hrx) ?_
      refine on ?_
      refine k_nil ?_
      show AK _ _ _ _ _ _
      refine rg 12000 ?_
      refine k_nil ?_
      refine ⟨n - 1, by omega, _, ⟨?_, ?_, ?_⟩, i + 1, by omega, rfl⟩ <;> simp [*, bldL_take hx]
  · intro h28_1
    have hge : kids.length ≤ i := by simpa using h28_1
    obtain rfl : i = kids.length := by omega
    have htk : kids.take kids.length = kids := List.take_length
    have hgr := hgwS kids.length
    rw [htk] at hgr
    have hle0 : ns.length ≤ (bldL kids (k == 7) ns.length 0 nd (ns ++ [planN (.mk k m [] ex cols wth agg rds) to], A)).1.length := by have := hgr.len; simpa using this
    refine k_exit ?_
    show AK _ _ _ _ _ _
    refine k_nil ?_
    show AK _ _ _ _ _ _
    refine k_nil ?_
    show retQ _ _ _ _ _ _ _
    simp [*]

end Go.Proofs
end
section
set_option linter.unusedVariables false
set_option linter.unusedSimpArgs false
namespace Go.Proofs
open Go.Flat
set_option maxRecDepth 100000
set_option linter.unusedSimpArgs false
set_option linter.unusedVariables false
attribute [local simp] Bool.and_assoc Bool.or_assoc evalG evalX efD skF guardG guardL isCall stepL evalOp ev evs lk tmpsL app AV.ok fresh vv putCells insV ins del putL place Go.Flat.look fillC fillR getCells loadF storeF binF scalarBin intBin strBin isShift shiftBin unF lenF maxF minF rowsF appendF builtinF idxF natOf sliceP sliceF optEv Flat.cut overwrite toPV toPVs constAV scalarC scalarCs AV.cells TI.isAgg allSome andAll scalarEq buildable Go.Flat.lim retQ resL resAll resOne PartOf noTmp closedIn refs refs.refsL isSomeV hasB ids leA leA.leL renA renA.renL callB refsAll backL dropIds renS LiesAt injB ownB freshB memN locId insAll leA_refl leL_refl okS frzS frzA frzA.frzL evalD feet fine updCells cellsFrom memP footRf footWf noTmpU updIds opOps opIds idsA footR footW guardTs opTs dstTs callR callW renLoc renC inBlockQ thenQ Value.oneCell' IntKind.bits IntKind.signed PV.up toPH toPHs

attribute [local simp] Pl.row_eq Pl.av
attribute [local simp] loopN leaveN Pl.zero prow irow Nd.row in
set_option maxHeartbeats 4000000 in
theorem spec69_10 (ns ns2 ns3 : List Nd) (ar : List Int) (xk xn : Int) (xq : List Pl) (xe : List E) (xc xw : List Int) (xa xr : Int) (yk yn : Int) (yq : List Pl) (ye : List E) (yc yw : List Int) (ya yr : Int) (m : Int) (ex : List E) (cols wth : List Int) (agg rds : Int) (to : Prt) (hns : ns.length + 2 ≤ 300) (hal : ar.length ≤ 4) (hx : Flat.Sp Try.prog 69 [.sl 0 (ns ++ [loopN ar.length rds ns.length] ++ [leaveN ar.length rds to]).length 0 (ns ++ [loopN ar.length rds ns.length] ++ [leaveN ar.length rds to]).length, (Pl.mk xk xn xq xe xc xw xa xr).av, .agg [vv (.int .i64 ns.length), vv (.int .i64 0)], .p (.ps (ar.map irow))] [(.arr 0, .arr 75 14 ((ns ++ [loopN ar.length rds ns.length] ++ [leaveN ar.length rds to]).map Nd.row) 0)] (.sl 0 ns2.length 0 ns2.length) [(.arr 0, .arr 75 14 (ns2.map Nd.row) 0)]) (hy : Flat.Sp Try.prog 69 [.sl 0 ns2.length 0 ns2.length, (Pl.mk yk yn yq ye yc yw ya yr).av, .agg [vv (.int .i64 ns.length), vv (.int .i64 1)], .p (.ps ((ar ++ [(ns.length : Int)]).map irow))] [(.arr 0, .arr 75 14 (ns2.map Nd.row) 0)] (.sl 0 ns3.length 0 ns3.length) [(.arr 0, .arr 75 14 (ns3.map Nd.row) 0)]) : Flat.Sp Try.prog 69 [.sl 0 ns.length 0 ns.length, (Pl.mk 10 m [(Pl.mk xk xn xq xe xc xw xa xr), (Pl.mk yk yn yq ye yc yw ya yr)] ex cols wth agg rds).av, .agg [vv (.int .i64 to.a), vv (.int .i64 to.b)], .p (.ps (ar.map irow))] [(.arr 0, .arr 75 14 (ns.map Nd.row) 0)] (.sl 0 ns3.length 0 ns3.length) [(.arr 0, .arr 75 14 (ns3.map Nd.row) 0)] := by
  refine sk Try.func69 ?_
  intro F G hn hG
  have hw0 : IntKind.i64.wrap ((ns.length : Int) + 1) = (ns.length : Int) + 1 := by have := Flat.wrap_small (n := ns.length + 1) (by simp only [Flat.lim]; omega); simpa using this
  have h0 : (ns.length + 1) * 208 ≤ 140737488355328 := by omega
  have h1 : ns.length + 1 ≤ 140737488355328 := by omega
  have h2 : (ns.length + 2) * 208 ≤ 140737488355328 := by omega
  have h3 : ns.length + 2 ≤ 140737488355328 := by omega
  have h4 : ar.length * 8 ≤ 140737488355328 := by omega
  have h5 : ar.length ≤ 140737488355328 := by omega
  have h6 : (ar.length + 1) * 8 ≤ 140737488355328 := by omega
  have h7 : ar.length + 1 ≤ 140737488355328 := by omega
  have hta : (ar.map irow).take ar.length = ar.map irow := List.take_of_length_le (by simp)
  have hta2 : ∀ z, (ar.map irow ++ [z]).take (ar.length + 1) = ar.map irow ++ [z] := fun z => List.take_of_length_le (by simp)
  refine sq ?_
  refine rg 1000 ?_
  refine pr [0, 1, 3, 4, 5, 7, 8, 130] ?_
  refine sq ?_
  refine rg 2000 ?_
  refine pr [0, 1, 3, 4, 5, 7, 8, 14, 16, 130] ?_
  refine sq ?_
  refine sq ?_
  refine rg 3000 ?_
  refine pr [0, 1, 3, 4, 5, 7, 8, 14, 17, 130] ?_
  refine k_block ?_
  refine sq ?_
  refine rg 4000 ?_
  refine pr [0, 1, 3, 4, 5, 7, 8, 14, 17, 19, 20, 130] ?_
  refine ce ?_
  refine sq ?_
  refine rg 6000 ?_
  refine pr [0, 1, 3, 4, 5, 7, 8, 14, 17, 18, 28, 29, 30, 130] ?_
  refine ce ?_
  refine sq ?_
  refine rg 10000 ?_
  refine pr [0, 1, 3, 4, 5, 7, 8, 10, 11, 14, 54, 55, 56, 130] ?_
  refine ct ?_
  refine sq ?_
  refine rg 11000 ?_
  refine pr [0, 1, 3, 4, 5, 7, 8, 10, 11, 14, 68, 130] ?_
  refine sq ?_
  refine rg 12000 ?_
  refine pr [0, 1, 3, 4, 5, 7, 8, 10, 11, 14, 78, 130] ?_
  refine sq ?_
  refine rc 13000 ?_
  refine oc (id) (hx) ?_
  refine oe 13100 ?_
  refine on ?_
  refine pr [0, 1, 3, 4, 5, 7, 8, 10, 11, 14, 87, 130] ?_
  refine sq ?_
  refine dr ?_
  refine dt 14000 ?_
  refine dt 14001 ?_
  refine dt 14002 ?_
  refine dt 14003 ?_
  refine dt 14004 ?_
  refine dt 14005 ?_
  refine dt 14006 ?_
  refine dt 14007 ?_
  refine dt 14008 ?_
  refine dt 14009 ?_
  refine dt 14010 ?_
  refine dt 14011 ?_
  refine dpub 14012 ?_
  refine dc id hy ?_
  refine de 14100 ?_
  refine dn ?_
  refine pr [0, 1, 3, 4, 5, 7, 8, 10, 11, 14, 101, 130] ?_
  refine k_ret ?_
  show retQ _ _ _ _ _ _ _
  simp [*]

end Go.Proofs
end
section
set_option linter.unusedVariables false
set_option linter.unusedSimpArgs false
namespace Go.Proofs
open Go.Flat
def Stk (A A' : List (List Int)) (nd : Nat) : Prop := A.length ≤ A'.length ∧ A'.take nd = A.take nd
theorem Stk.rfl' (A : List (List Int)) (nd : Nat) : Stk A A nd := ⟨Nat.le_refl _, rfl⟩
theorem Stk.trans {A B D : List (List Int)} {nd : Nat} (h1 : Stk A B nd) (h2 : Stk B D nd) : Stk A D nd := ⟨Nat.le_trans h1.1 h2.1, h2.2.trans h1.2⟩
theorem jdgL_stk {S : List (List Int)} {l : List Pl} (ih : ∀ x ∈ l, ∀ nd w A, nd ≤ A.length → Stk A (jdg S x nd w A).2.2 nd) : ∀ nd w A, nd ≤ A.length → Stk A (jdgL S l nd w A).2.2 nd := by
  induction l with
  | nil => intro nd w A _; simp only [jdgL]; exact .rfl' A nd
  | cons x l ihl =>
    intro nd w A h2
    simp only [jdgL]
    have g := ih x (by simp) nd w A h2
    exact g.trans (ihl (fun y hy => ih y (by simp [hy])) nd _ _ (Nat.le_trans h2 g.1))
theorem jdgI_stk {S : List (List Int)} {l : List Pl} (ih : ∀ x ∈ l, ∀ nd w A, nd ≤ A.length → Stk A (jdg S x nd w A).2.2 nd) : ∀ nd w A, nd ≤ A.length → Stk A (jdgI S l nd w A).2.2 nd := by
  intro nd w A h2
  cases l with
  | nil => simp only [jdgI]; exact .rfl' A nd
  | cons x l =>
    simp only [jdgI]
    have g := ih x (by simp) nd w A h2
    have h4 := Nat.le_trans h2 g.1
    have hp := pushA_len (jdg S x nd w A).1 h4
    have g2 := jdgL_stk (S := S) (l := l) (fun y hy => ih y (by simp [hy])) (nd + 1) (jdg S x nd w A).2.1 (pushA (jdg S x nd w A).2.2 nd (jdg S x nd w A).1) (by rw [hp]; omega)
    refine ⟨Nat.le_trans g.1 (Nat.le_trans (by rw [hp]; omega) g2.1), ?_⟩
    have := congrArg (List.take nd) g2.2
    rw [List.take_take, List.take_take, Nat.min_eq_left (by omega), pushA_take _ h4, g.2] at this
    exact this
theorem jdg_stk (S : List (List Int)) : ∀ (p : Pl), ∀ nd w A, nd ≤ A.length → Stk A (jdg S p nd w A).2.2 nd := by
  refine Pl.ind fun k m kids ex cols wth agg rds ih nd w A h2 => ?_
  have gI := jdgI_stk ih nd w A h2
  have gL := jdgL_stk ih nd w A h2
  rw [jdg]
  split
  · exact .rfl' A nd
  · split
    · split <;> exact .rfl' A nd
    · simp only
      split <;> split <;> first | exact gI | exact gL
theorem unlessF_stick {w y : Int} {b : Bool} (h : w ≠ 0) : unlessF w b y = w := by simp [unlessF, h]
theorem jdgL_stick {S : List (List Int)} {l : List Pl} (ih : ∀ x ∈ l, ∀ nd w A, w ≠ 0 → (jdg S x nd w A).2.1 = w) : ∀ nd w A, w ≠ 0 → (jdgL S l nd w A).2.1 = w := by
  induction l with
  | nil => intro nd w A _; simp only [jdgL]
  | cons x l ihl =>
    intro nd w A h
    simp only [jdgL]
    have := ih x (by simp) nd w A h
    rw [this]
    exact ihl (fun y hy => ih y (by simp [hy])) nd w _ h
theorem jdg_stick (S : List (List Int)) : ∀ (p : Pl), ∀ nd w A, w ≠ 0 → (jdg S p nd w A).2.1 = w := by
  refine Pl.ind fun k m kids ex cols wth agg rds ih nd w A h => ?_
  have gL := jdgL_stick ih nd w A h
  have gI : (jdgI S kids nd w A).2.1 = w := by
    cases kids with
    | nil => simp only [jdgI]
    | cons x l =>
      simp only [jdgI]
      rw [ih x (by simp) nd w A h]
      exact jdgL_stick (fun y hy => ih y (by simp [hy])) (nd + 1) w _ h
  have hne : (w != 0) = true := by simpa using h
  have one : ∀ l i, oneW l i w = w := fun l i => by unfold oneW; split <;> simp [unlessF_stick h]
  rw [jdg]
  split
  · exact one _ _
  · split
    · split
      · exact unlessF_stick h
      · exact one _ _
    · simp only
      split
      · rw [gI, hne]; rfl
      · rw [gL, hne]; rfl
theorem jdg_zero {S : List (List Int)} {p : Pl} {nd : Nat} {w : Int} {A : List (List Int)} (h : (jdg S p nd w A).2.1 = 0) : w = 0 := by
  by_cases hw : w = 0
  · exact hw
  · rw [jdg_stick S p nd w A hw] at h; exact h
theorem jdgL_zero {S : List (List Int)} {l : List Pl} {nd : Nat} {w : Int} {A : List (List Int)} (h : (jdgL S l nd w A).2.1 = 0) : w = 0 := by
  by_cases hw : w = 0
  · exact hw
  · rw [jdgL_stick (fun x _ => jdg_stick S x) nd w A hw] at h; exact h
end Go.Proofs
end
section
set_option linter.unusedVariables false
set_option linter.unusedSimpArgs false
namespace Go.Proofs
open Go.Flat
set_option maxRecDepth 100000
set_option linter.unusedSimpArgs false
set_option linter.unusedVariables false
attribute [local simp] Bool.and_assoc Bool.or_assoc evalG evalX efD skF guardG guardL isCall stepL evalOp ev evs lk tmpsL app AV.ok fresh vv putCells insV ins del putL place Go.Flat.look fillC fillR getCells loadF storeF binF scalarBin intBin strBin isShift shiftBin unF lenF maxF minF rowsF appendF builtinF idxF natOf sliceP sliceF optEv Flat.cut overwrite toPV toPVs constAV scalarC scalarCs AV.cells TI.isAgg allSome andAll scalarEq buildable Go.Flat.lim retQ resL resAll resOne PartOf noTmp closedIn refs refs.refsL isSomeV hasB ids leA leA.leL renA renA.renL callB refsAll backL dropIds renS LiesAt injB ownB freshB memN locId insAll leA_refl leL_refl okS frzS frzA frzA.frzL evalD feet fine updCells cellsFrom memP footRf footWf noTmpU updIds opOps opIds idsA footR footW guardTs opTs dstTs callR callW renLoc renC inBlockQ thenQ Value.oneCell' IntKind.bits IntKind.signed

attribute [local simp] Pl.av in
theorem spec110_l (S A : List (List Int)) (nd : Nat) (k m : Int) (kids : List Pl) (ex : List E) (cols wth : List Int) (agg rds : Int) (hk10 : (k == 10) = false) (hkb : kids.length ≤ Bnd) (hS : ∀ s ∈ S, s.length ≤ 8) (dd : Nat) (hgl : Pl.goodL kids dd) (hnd : nd < dd) (hnA : nd ≤ A.length) (hA : A.length ≤ 16) (w : Int) (hSh : Sh A nd w) (ih : ∀ x ∈ kids, ∀ (nd : Nat) (w : Int) (A : List (List Int)), nd < dd → nd ≤ A.length → A.length ≤ 16 → Sh A nd w → Flat.Sp Try.prog 59 [.ptr 0 0, x.av] [(.var 0, .n 3), (.cell 0 0, .av (vv (.int .i64 (w)))), (.cell 0 1, .av (.p (.ps (S.map srow)))), (.cell 0 2, .av (.sl 1 (A).length 0 (nd))), (.arr 1, .arr 45 1 ((A).map srow) 0)] (.p (.ps ((jdg S x nd w A).1.map trow))) [(.var 0, .n 3), (.cell 0 0, .av (vv (.int .i64 ((jdg S x nd w A).2.1)))), (.cell 0 1, .av (.p (.ps (S.map srow)))), (.cell 0 2, .av (.sl 1 ((jdg S x nd w A).2.2).length 0 (nd))), (.arr 1, .arr 45 1 (((jdg S x nd w A).2.2).map srow) 0)])  : Flat.Sp Try.prog 110 [.ptr 0 0, (Pl.mk k m kids ex cols wth agg rds).av] [(.var 0, .n 3), (.cell 0 0, .av (vv (.int .i64 (w)))), (.cell 0 1, .av (.p (.ps (S.map srow)))), (.cell 0 2, .av (.sl 1 (A).length 0 (nd))), (.arr 1, .arr 45 1 ((A).map srow) 0)] (.p (.ps ((jdgL S kids nd w A).1.map srow))) [(.var 0, .n 3), (.cell 0 0, .av (vv (.int .i64 ((jdgL S kids nd w A).2.1)))), (.cell 0 1, .av (.p (.ps (S.map srow)))), (.cell 0 2, .av (.sl 1 ((jdgL S kids nd w A).2.2).length 0 (nd))), (.arr 1, .arr 45 1 (((jdgL S kids nd w A).2.2).map srow) 0)] := by
  refine sk Try.func110 ?_
  intro F G hn hG
  have hkl := Bnd_lim hkb
  have hkb2 : kids.length ≤ 1048576 := hkb
  refine sq ?_
  refine rg 1000 ?_
  refine pr [0, 1, 3, 59] ?_
  refine sq ?_
  refine sq ?_
  refine rg 2000 ?_
  refine pr [0, 1, 3, 7, 8, 59] ?_
  refine k_block ?_
  refine ow (.tmp 4) 900 45 1 ?_
  refine k_loop (fun n l => ∃ i, i + n = kids.length ∧ (True) ∧ l = [(.tmp 0, .av (.ptr 0 0)), (.tmp 3, .av (.ptr 1000 0)), (.tmp 4, .av (.sl 900 i 0 i)), (.tmp 8, .av (.p (.ps (kids.map Pl.row)))), (.tmp 9, .av (vv (.int .i64 kids.length))), (.tmp 10, .av (vv (.int .i64 i))), (.var 0, .n 3), (.cell 0 0, .av (vv (.int .i64 ((jdgL S (kids.take i) nd w A).2.1)))), (.cell 0 1, .av (.p (.ps (S.map srow)))), (.cell 0 2, .av (.sl 1 ((jdgL S (kids.take i) nd w A).2.2).length 0 (nd))), (.arr 1, .arr 45 1 (((jdgL S (kids.take i) nd w A).2.2).map srow) 0), (.var 1000, .n 8), (.cell 1000 0, .av (vv (.int .u8 k))), (.cell 1000 1, .av (vv (.int .i64 m))), (.cell 1000 2, .av (.p (.ps (kids.map Pl.row)))), (.cell 1000 3, .av (.p (.ps (ex.map E.row)))), (.cell 1000 4, .av (.p (.ps (cols.map irow)))), (.cell 1000 5, .av (.p (.ps (wth.map irow)))), (.cell 1000 6, .av (vv (.int .u8 agg))), (.cell 1000 7, .av (vv (.int .i64 rds))), (.arr 900, .arr 45 1 ((jdgL S (kids.take i) nd w A).1.map srow) 0)]) (kids.length) hG ⟨_, ⟨by simp [jdgL], by simp, by simp⟩, 0, by simp, trivial, rfl⟩ ?_
  rintro n _ ⟨i, hin, hfa, rfl⟩
  refine sq ?_
  refine rg 3000 ?_
  refine pr [0, 1, 3, 7, 8, 59] ?_
  refine sq ?_
  refine cd ?_ ?_
  · intro h11_1
    have hlt : i < kids.length := by simpa using h11_1
    obtain ⟨x, hxe⟩ : ∃ x, kids[i] = x := ⟨_, rfl⟩
    have hx : kids[i]? = some x := by simp [hlt, hxe]
    have hw := wrap_succ (show i < Flat.lim by omega)
    have hmin : min i kids.length = i := by omega
    have hlim : (i + 1) * 24 ≤ 140737488355328 := by simp only [Flat.lim] at *; omega
    have hlim1 : i + 1 ≤ 140737488355328 := by simp only [Flat.lim] at *; omega
    have hgt : Pl.goodL (kids.take i) dd := Pl.goodL_of fun y hy => Pl.goodL_mem hgl y (List.mem_of_mem_take hy)
    have hgr := jdgL_grows (S := S) (fun y hy nd w A => jdg_grows S y dd (Pl.goodL_mem hgt y hy) nd w A) nd w A hnd hnA hA
    have hok := jdgL_ok (S := S) hgt (fun y hy => jdg_ok hS y dd (Pl.goodL_mem hgt y hy)) nd w A hnd hnA hA hSh
    have hShi : Sh (jdgL S (kids.take i) nd w A).2.2 nd (jdgL S (kids.take i) nd w A).2.1 := fun hz => by rw [hgr.2.2]; exact hSh (hok hz).1
    have hmem : x ∈ kids := hxe ▸ List.getElem_mem hlt
    have hrl : (jdgL S (kids.take i) nd w A).1.length = i := by rw [jdgL_rows, List.length_take]; exact hmin
    obtain ⟨xk, xn, xq, xe, xc, xw, xa, xr⟩ := x
    refine k_skip ?_
    refine sq ?_
    refine k_block ?_
    refine sq ?_
    refine rg 4000 ?_ (h := by simp [*, Pl.row_eq]; exact is_rfl _)
    refine pr [0, 1, 3, 7, 8, 59] ?_
    refine sq ?_
    refine sq ?_
    refine rc 5000 ?_
    iterate 2 (first | refine gp 5150 ?_ | refine os ?_ | refine gt 5150 ?_)
    refine oe 5200 ?_
    refine on ?_
    refine pr [0, 1, 3, 7, 8, 59] ?_
    refine ce ?_
    refine k_skip ?_
    refine rc 7000 ?_ (h := by simp [*, srow]; exact is_rfl _)
    refine oc id (ih _ hmem nd (jdgL S (kids.take i) nd w A).2.1 (jdgL S (kids.take i) nd w A).2.2 hnd (Nat.le_trans hnA hgr.1) hgr.2.1 hShi) ?_ (hg := by simp [*, srow]) (hf := by simp [*, srow]; exact is_rfl _) (hx := by simp [*, srow]; exact is_rfl _) (hargs := by simp [*, srow]) (hB := by simp [*, srow]) (hL := by simp [*, srow]) (hd := by simp [*, srow]; exact is_rfl _)
    refine oe 7100 ?_ (h := by simp [*, srow]; exact is_rfl _)
    refine on ?_
    refine k_nil ?_
    show AK _ _ _ _ _ _
    refine rg 8000 ?_ (h := by simp [*, wrap_succ (show i < Flat.lim by omega)]; exact is_rfl _)
    refine k_nil ?_
    refine ⟨n - 1, by omega, _, ⟨?_, ?_, ?_⟩, i + 1, by omega, trivial, rfl⟩ <;> simp [*, jdgL_take hx, srow]
  · intro h11_1
    have hge : kids.length ≤ i := by simpa using h11_1
    have htk : kids.take i = kids := List.take_of_length_le hge
    obtain rfl : i = kids.length := by omega
    have hrl : (jdgL S kids nd w A).1.length = kids.length := jdgL_rows ..
    have htr : ((jdgL S kids nd w A).1.map srow).take kids.length = (jdgL S kids nd w A).1.map srow := List.take_of_length_le (by simp [hrl])
    refine fz 900 ?_
    refine k_exit ?_
    show AK _ _ _ _ _ _
    refine sq ?_
    refine sq ?_
    refine rg 9000 ?_
    refine pr [0, 1, 4, 5, 43, 59] ?_
    refine ce ?_
    refine k_skip ?_
    refine sq ?_
    refine rg 11000 ?_
    refine pr [4, 5] ?_
    refine k_ret ?_
    show retQ _ _ _ _ _ _ _
    simp [*]

attribute [local simp] Pl.av srow Pl.row_eq in
theorem spec110_i1 (S A : List (List Int)) (m : Int) (ex : List E) (cols wth : List Int) (agg rds : Int) (ak an : Int) (aq : List Pl) (ae : List E) (ac aw : List Int) (aa ar : Int) (bk bn : Int) (bq : List Pl) (be : List E) (bc bw : List Int) (ba br : Int) (w w1 w2 : Int) (o1 o2 : List Int) (A1 B A2 : List (List Int)) (hA1 : A1.length ≤ 16) (hA2 : A1.length + 1 ≤ A2.length) (hnn : A1.length ≤ 16) (hBl : B.length = A1.length + 1) (hBm : B.map srow = A1.map srow ++ [srow o1]) (hx : Flat.Sp Try.prog 59 [.ptr 0 0, (Pl.mk ak an aq ae ac aw aa ar).av] [(.var 0, .n 3), (.cell 0 0, .av (vv (.int .i64 (w)))), (.cell 0 1, .av (.p (.ps (S.map srow)))), (.cell 0 2, .av (.sl 1 (A).length 0 (A1.length))), (.arr 1, .arr 45 1 ((A).map srow) 0)] (.p (.ps (o1.map trow))) [(.var 0, .n 3), (.cell 0 0, .av (vv (.int .i64 (w1)))), (.cell 0 1, .av (.p (.ps (S.map srow)))), (.cell 0 2, .av (.sl 1 (A1).length 0 (A1.length))), (.arr 1, .arr 45 1 ((A1).map srow) 0)]) (hy : Flat.Sp Try.prog 59 [.ptr 0 0, (Pl.mk bk bn bq be bc bw ba br).av] [(.var 0, .n 3), (.cell 0 0, .av (vv (.int .i64 (w1)))), (.cell 0 1, .av (.p (.ps (S.map srow)))), (.cell 0 2, .av (.sl 1 (B).length 0 (A1.length + 1))), (.arr 1, .arr 45 1 ((B).map srow) 0)] (.p (.ps (o2.map trow))) [(.var 0, .n 3), (.cell 0 0, .av (vv (.int .i64 (w2)))), (.cell 0 1, .av (.p (.ps (S.map srow)))), (.cell 0 2, .av (.sl 1 (A2).length 0 (A1.length + 1))), (.arr 1, .arr 45 1 ((A2).map srow) 0)]) : Flat.Sp Try.prog 110 [.ptr 0 0, (Pl.mk 10 m [Pl.mk ak an aq ae ac aw aa ar, Pl.mk bk bn bq be bc bw ba br] ex cols wth agg rds).av] [(.var 0, .n 3), (.cell 0 0, .av (vv (.int .i64 (w)))), (.cell 0 1, .av (.p (.ps (S.map srow)))), (.cell 0 2, .av (.sl 1 (A).length 0 (A1.length))), (.arr 1, .arr 45 1 ((A).map srow) 0)] (.p (.ps [srow o1, srow o2])) [(.var 0, .n 3), (.cell 0 0, .av (vv (.int .i64 (w2)))), (.cell 0 1, .av (.p (.ps (S.map srow)))), (.cell 0 2, .av (.sl 1 (A2).length 0 (A1.length))), (.arr 1, .arr 45 1 ((A2).map srow) 0)] := by
  refine sk Try.func110 ?_
  intro F G hn hG
  have hwn : IntKind.i64.wrap (A1.length : Int) = A1.length := Flat.wrap_small (by simp only [Flat.lim]; omega)
  have hl3 : (A1.length + 1) * 24 ≤ 140737488355328 := by omega
  have hl4 : A1.length + 1 ≤ 140737488355328 := by omega
  refine sq ?_
  refine rg 1000 ?_
  refine pr [0, 1, 3, 59] ?_
  refine sq ?_
  refine sq ?_
  refine rg 2000 ?_
  refine pr [0, 1, 3, 7, 8, 59] ?_
  refine k_block ?_
  refine ow (.tmp 4) 900 45 1 ?_
  refine k_rounds 3 ?_
  show AK _ _ _ _ _ _
  refine sq ?_
  refine rg 3000 ?_
  refine pr [0, 1, 3, 7, 8, 59] ?_
  refine sq ?_
  refine ct ?_
  refine k_skip ?_
  refine sq ?_
  refine k_block ?_
  refine sq ?_
  refine rg 4000 ?_
  refine pr [0, 1, 3, 7, 8, 59] ?_
  refine sq ?_
  refine sq ?_
  refine rc 5000 ?_
  iterate 2 (first | refine gp 5150 ?_ | refine os ?_ | refine gt 5150 ?_)
  refine oe 5200 ?_
  refine on ?_
  refine pr [0, 1, 3, 7, 8, 59] ?_
  refine ce ?_
  refine k_skip ?_
  refine rc 7000 ?_
  refine oc id (hx) ?_
  refine oe 7100 ?_
  refine on ?_
  refine k_nil ?_
  show AK _ _ _ _ _ _
  refine rg 8000 ?_
  refine k_nil ?_
  show AK _ _ _ _ _ _
  refine sq ?_
  refine rg 1003000 ?_
  refine pr [0, 1, 3, 7, 8, 59] ?_
  refine sq ?_
  refine ct ?_
  refine k_skip ?_
  refine sq ?_
  refine k_block ?_
  refine sq ?_
  refine rg 1004000 ?_
  refine pr [0, 1, 3, 7, 8, 59] ?_
  refine sq ?_
  refine sq ?_
  refine rc 1005000 ?_
  iterate 2 (first | refine gp 1005150 ?_ | refine os ?_ | refine gt 1005150 ?_)
  refine oe 1005200 ?_
  refine on ?_
  refine pr [0, 1, 3, 7, 8, 59] ?_
  refine ct ?_
  refine dr ?_
  refine de 6000 ?_
  refine dn ?_
  refine pr [0, 1, 3, 7, 8, 59] ?_
  refine rc 1007000 ?_
  refine oc id (hy) ?_
  refine oe 1007100 ?_
  refine on ?_
  refine k_nil ?_
  show AK _ _ _ _ _ _
  refine rg 1008000 ?_
  refine k_nil ?_
  show AK _ _ _ _ _ _
  refine sq ?_
  refine rg 2003000 ?_
  refine pr [0, 1, 3, 7, 8, 59] ?_
  refine sq ?_
  refine ce ?_
  refine k_exit ?_
  show AK _ _ _ _ _ _
  refine sq ?_
  refine sq ?_
  refine rg 9000 ?_
  refine pr [0, 1, 4, 5, 43, 59] ?_
  refine ct ?_
  refine dr ?_
  refine de 10000 ?_
  refine dn ?_
  refine pr [4, 5, 58, 59] ?_
  refine fz 900 ?_
  refine sq ?_
  refine rg 11000 ?_
  refine pr [4, 5] ?_
  refine k_ret ?_
  show retQ _ _ _ _ _ _ _
  simp [*]

attribute [local simp] Pl.av srow Pl.row_eq in
theorem spec110_i2 (S A : List (List Int)) (nd : Nat) (m : Int) (ex : List E) (cols wth : List Int) (agg rds : Int) (ak an : Int) (aq : List Pl) (ae : List E) (ac aw : List Int) (aa ar : Int) (bk bn : Int) (bq : List Pl) (be : List E) (bc bw : List Int) (ba br : Int) (w w1 w2 : Int) (o1 o2 : List Int) (A1 B A2 : List (List Int)) (hA1 : A1.length ≤ 16) (hA2 : nd + 1 ≤ A2.length) (hnn : nd ≤ 16) (hlt : nd < A1.length) (hBl : B.length = A1.length) (hBm : B.map srow = (A1.map srow).take nd ++ srow o1 :: (A1.map srow).drop (nd + 1)) (hx : Flat.Sp Try.prog 59 [.ptr 0 0, (Pl.mk ak an aq ae ac aw aa ar).av] [(.var 0, .n 3), (.cell 0 0, .av (vv (.int .i64 (w)))), (.cell 0 1, .av (.p (.ps (S.map srow)))), (.cell 0 2, .av (.sl 1 (A).length 0 (nd))), (.arr 1, .arr 45 1 ((A).map srow) 0)] (.p (.ps (o1.map trow))) [(.var 0, .n 3), (.cell 0 0, .av (vv (.int .i64 (w1)))), (.cell 0 1, .av (.p (.ps (S.map srow)))), (.cell 0 2, .av (.sl 1 (A1).length 0 (nd))), (.arr 1, .arr 45 1 ((A1).map srow) 0)]) (hy : Flat.Sp Try.prog 59 [.ptr 0 0, (Pl.mk bk bn bq be bc bw ba br).av] [(.var 0, .n 3), (.cell 0 0, .av (vv (.int .i64 (w1)))), (.cell 0 1, .av (.p (.ps (S.map srow)))), (.cell 0 2, .av (.sl 1 (B).length 0 (nd + 1))), (.arr 1, .arr 45 1 ((B).map srow) 0)] (.p (.ps (o2.map trow))) [(.var 0, .n 3), (.cell 0 0, .av (vv (.int .i64 (w2)))), (.cell 0 1, .av (.p (.ps (S.map srow)))), (.cell 0 2, .av (.sl 1 (A2).length 0 (nd + 1))), (.arr 1, .arr 45 1 ((A2).map srow) 0)]) : Flat.Sp Try.prog 110 [.ptr 0 0, (Pl.mk 10 m [Pl.mk ak an aq ae ac aw aa ar, Pl.mk bk bn bq be bc bw ba br] ex cols wth agg rds).av] [(.var 0, .n 3), (.cell 0 0, .av (vv (.int .i64 (w)))), (.cell 0 1, .av (.p (.ps (S.map srow)))), (.cell 0 2, .av (.sl 1 (A).length 0 (nd))), (.arr 1, .arr 45 1 ((A).map srow) 0)] (.p (.ps [srow o1, srow o2])) [(.var 0, .n 3), (.cell 0 0, .av (vv (.int .i64 (w2)))), (.cell 0 1, .av (.p (.ps (S.map srow)))), (.cell 0 2, .av (.sl 1 (A2).length 0 (nd))), (.arr 1, .arr 45 1 ((A2).map srow) 0)] := by
  refine sk Try.func110 ?_
  intro F G hn hG
  have hwn : IntKind.i64.wrap (nd : Int) = nd := Flat.wrap_small (by simp only [Flat.lim]; omega)
  have hl3 : (nd + 1) * 24 ≤ 140737488355328 := by omega
  have hl4 : nd + 1 ≤ 140737488355328 := by omega
  have hmx : max A1.length (nd + 1) = A1.length := by omega
  have hne : ¬ nd = A1.length := by omega
  have hmn : min nd A1.length = nd := by omega
  refine sq ?_
  refine rg 1000 ?_
  refine pr [0, 1, 3, 59] ?_
  refine sq ?_
  refine sq ?_
  refine rg 2000 ?_
  refine pr [0, 1, 3, 7, 8, 59] ?_
  refine k_block ?_
  refine ow (.tmp 4) 900 45 1 ?_
  refine k_rounds 3 ?_
  show AK _ _ _ _ _ _
  refine sq ?_
  refine rg 3000 ?_
  refine pr [0, 1, 3, 7, 8, 59] ?_
  refine sq ?_
  refine ct ?_
  refine k_skip ?_
  refine sq ?_
  refine k_block ?_
  refine sq ?_
  refine rg 4000 ?_
  refine pr [0, 1, 3, 7, 8, 59] ?_
  refine sq ?_
  refine sq ?_
  refine rc 5000 ?_
  iterate 2 (first | refine gp 5150 ?_ | refine os ?_ | refine gt 5150 ?_)
  refine oe 5200 ?_
  refine on ?_
  refine pr [0, 1, 3, 7, 8, 59] ?_
  refine ce ?_
  refine k_skip ?_
  refine rc 7000 ?_
  refine oc id (hx) ?_
  refine oe 7100 ?_
  refine on ?_
  refine k_nil ?_
  show AK _ _ _ _ _ _
  refine rg 8000 ?_
  refine k_nil ?_
  show AK _ _ _ _ _ _
  refine sq ?_
  refine rg 1003000 ?_
  refine pr [0, 1, 3, 7, 8, 59] ?_
  refine sq ?_
  refine ct ?_
  refine k_skip ?_
  refine sq ?_
  refine k_block ?_
  refine sq ?_
  refine rg 1004000 ?_
  refine pr [0, 1, 3, 7, 8, 59] ?_
  refine sq ?_
  refine sq ?_
  refine rc 1005000 ?_
  iterate 2 (first | refine gp 1005150 ?_ | refine os ?_ | refine gt 1005150 ?_)
  refine oe 1005200 ?_
  refine on ?_
  refine pr [0, 1, 3, 7, 8, 59] ?_
  refine ct ?_
  refine dr ?_
  refine de 6000 ?_
  refine dn ?_
  refine pr [0, 1, 3, 7, 8, 59] ?_
  refine rc 1007000 ?_
  refine oc id (hy) ?_
  refine oe 1007100 ?_
  refine on ?_
  refine k_nil ?_
  show AK _ _ _ _ _ _
  refine rg 1008000 ?_
  refine k_nil ?_
  show AK _ _ _ _ _ _
  refine sq ?_
  refine rg 2003000 ?_
  refine pr [0, 1, 3, 7, 8, 59] ?_
  refine sq ?_
  refine ce ?_
  refine k_exit ?_
  show AK _ _ _ _ _ _
  refine sq ?_
  refine sq ?_
  refine rg 9000 ?_
  refine pr [0, 1, 4, 5, 43, 59] ?_
  refine ct ?_
  refine dr ?_
  refine de 10000 ?_
  refine dn ?_
  refine pr [4, 5, 58, 59] ?_
  refine fz 900 ?_
  refine sq ?_
  refine rg 11000 ?_
  refine pr [4, 5] ?_
  refine k_ret ?_
  show retQ _ _ _ _ _ _ _
  simp [*]

theorem spec110_i (S A : List (List Int)) (nd : Nat) (m : Int) (ex : List E) (cols wth : List Int) (agg rds : Int) (ak an : Int) (aq : List Pl) (ae : List E) (ac aw : List Int) (aa ar : Int) (bk bn : Int) (bq : List Pl) (be : List E) (bc bw : List Int) (ba br : Int) (w w1 w2 : Int) (o1 o2 : List Int) (A1 A2 : List (List Int)) (h5 : nd ≤ A1.length) (hA1 : A1.length ≤ 16) (hA2 : nd + 1 ≤ A2.length) (hnn : nd ≤ 16) (hx : Flat.Sp Try.prog 59 [.ptr 0 0, (Pl.mk ak an aq ae ac aw aa ar).av] [(.var 0, .n 3), (.cell 0 0, .av (vv (.int .i64 (w)))), (.cell 0 1, .av (.p (.ps (S.map srow)))), (.cell 0 2, .av (.sl 1 (A).length 0 (nd))), (.arr 1, .arr 45 1 ((A).map srow) 0)] (.p (.ps (o1.map trow))) [(.var 0, .n 3), (.cell 0 0, .av (vv (.int .i64 (w1)))), (.cell 0 1, .av (.p (.ps (S.map srow)))), (.cell 0 2, .av (.sl 1 (A1).length 0 (nd))), (.arr 1, .arr 45 1 ((A1).map srow) 0)]) (hy : Flat.Sp Try.prog 59 [.ptr 0 0, (Pl.mk bk bn bq be bc bw ba br).av] [(.var 0, .n 3), (.cell 0 0, .av (vv (.int .i64 (w1)))), (.cell 0 1, .av (.p (.ps (S.map srow)))), (.cell 0 2, .av (.sl 1 (pushA A1 nd o1).length 0 (nd + 1))), (.arr 1, .arr 45 1 ((pushA A1 nd o1).map srow) 0)] (.p (.ps (o2.map trow))) [(.var 0, .n 3), (.cell 0 0, .av (vv (.int .i64 (w2)))), (.cell 0 1, .av (.p (.ps (S.map srow)))), (.cell 0 2, .av (.sl 1 (A2).length 0 (nd + 1))), (.arr 1, .arr 45 1 ((A2).map srow) 0)]) : Flat.Sp Try.prog 110 [.ptr 0 0, (Pl.mk 10 m [Pl.mk ak an aq ae ac aw aa ar, Pl.mk bk bn bq be bc bw ba br] ex cols wth agg rds).av] [(.var 0, .n 3), (.cell 0 0, .av (vv (.int .i64 (w)))), (.cell 0 1, .av (.p (.ps (S.map srow)))), (.cell 0 2, .av (.sl 1 (A).length 0 (nd))), (.arr 1, .arr 45 1 ((A).map srow) 0)] (.p (.ps [srow o1, srow o2])) [(.var 0, .n 3), (.cell 0 0, .av (vv (.int .i64 (w2)))), (.cell 0 1, .av (.p (.ps (S.map srow)))), (.cell 0 2, .av (.sl 1 (A2).length 0 (nd))), (.arr 1, .arr 45 1 ((A2).map srow) 0)] := by
  have hp := pushA_len o1 h5
  rcases Nat.lt_or_eq_of_le h5 with hlt | heq
  · refine spec110_i2 S A nd m ex cols wth agg rds ak an aq ae ac aw aa ar bk bn bq be bc bw ba br w w1 w2 o1 o2 A1 _ A2 hA1 hA2 hnn hlt (by rw [hp]; omega) ?_ hx hy
    simp [pushA]
  · subst heq
    refine spec110_i1 S A m ex cols wth agg rds ak an aq ae ac aw aa ar bk bn bq be bc bw ba br w w1 w2 o1 o2 A1 _ A2 hA1 hA2 hnn (by rw [hp]; omega) ?_ hx hy
    simp [pushA]

theorem two_pl {l : List Pl} (h : l.length = 2) : ∃ x y, l = [x, y] := by
  match l, h with
  | [x, y], _ => exact ⟨x, y, rfl⟩
theorem spec110 (S A : List (List Int)) (nd : Nat) (k m : Int) (kids : List Pl) (ex : List E) (cols wth : List Int) (agg rds : Int) (hk2 : (k == 10) = true → kids.length = 2) (hkb : kids.length ≤ Bnd) (hS : ∀ s ∈ S, s.length ≤ 8) (d : Nat) (hd : d ≤ 16) (hgl : Pl.goodL kids (d + 1)) (hnd : nd < d) (hnA : nd ≤ A.length) (hA : A.length ≤ 16) (w : Int) (hSh : Sh A nd w) (ih : ∀ x ∈ kids, ∀ (nd : Nat) (w : Int) (A : List (List Int)), nd < d + 1 → nd ≤ A.length → A.length ≤ 16 → Sh A nd w → Flat.Sp Try.prog 59 [.ptr 0 0, x.av] [(.var 0, .n 3), (.cell 0 0, .av (vv (.int .i64 (w)))), (.cell 0 1, .av (.p (.ps (S.map srow)))), (.cell 0 2, .av (.sl 1 (A).length 0 (nd))), (.arr 1, .arr 45 1 ((A).map srow) 0)] (.p (.ps ((jdg S x nd w A).1.map trow))) [(.var 0, .n 3), (.cell 0 0, .av (vv (.int .i64 ((jdg S x nd w A).2.1)))), (.cell 0 1, .av (.p (.ps (S.map srow)))), (.cell 0 2, .av (.sl 1 ((jdg S x nd w A).2.2).length 0 (nd))), (.arr 1, .arr 45 1 (((jdg S x nd w A).2.2).map srow) 0)])  : Flat.Sp Try.prog 110 [.ptr 0 0, (Pl.mk k m kids ex cols wth agg rds).av] [(.var 0, .n 3), (.cell 0 0, .av (vv (.int .i64 (w)))), (.cell 0 1, .av (.p (.ps (S.map srow)))), (.cell 0 2, .av (.sl 1 (A).length 0 (nd))), (.arr 1, .arr 45 1 ((A).map srow) 0)] (.p (.ps ((jdgK S k kids nd w A).1.map srow))) [(.var 0, .n 3), (.cell 0 0, .av (vv (.int .i64 ((jdgK S k kids nd w A).2.1)))), (.cell 0 1, .av (.p (.ps (S.map srow)))), (.cell 0 2, .av (.sl 1 ((jdgK S k kids nd w A).2.2).length 0 (nd))), (.arr 1, .arr 45 1 (((jdgK S k kids nd w A).2.2).map srow) 0)] := by
  cases hk : (k == 10) with
  | false =>
    have he : jdgK S k kids nd w A = jdgL S kids nd w A := by simp only [jdgK, hk]; rfl
    rw [he]
    exact spec110_l S A nd k m kids ex cols wth agg rds hk hkb hS (d + 1) hgl (by omega) hnA hA w hSh ih
  | true =>
    obtain ⟨a, b, rfl⟩ := two_pl (hk2 hk)
    obtain rfl : k = 10 := eq_of_beq hk
    have hga : a.good (d + 1) := Pl.goodL_mem hgl a (by simp)
    have hgb : b.good (d + 1) := Pl.goodL_mem hgl b (by simp)
    have g := jdg_grows S a (d + 1) hga nd w A (by omega) hnA hA
    have ok := jdg_ok hS a (d + 1) hga nd w A (by omega) hnA hA hSh
    have h5 := Nat.le_trans hnA g.1
    have hp := pushA_len (jdg S a nd w A).1 h5
    have hq := g.2.1
    have hShb : Sh (pushA (jdg S a nd w A).2.2 nd (jdg S a nd w A).1) (nd + 1) (jdg S a nd w A).2.1 := fun hz s hs => by
      rw [pushA_take1 _ h5, g.2.2] at hs
      rcases List.mem_append.1 hs with hs | hs
      · exact hSh (ok hz).1 s hs
      · rw [List.mem_singleton] at hs; rw [hs]; exact (ok hz).2
    have hx := ih a (by simp) nd w A (by omega) hnA hA hSh
    have hy := ih b (by simp) (nd + 1) (jdg S a nd w A).2.1 (pushA (jdg S a nd w A).2.2 nd (jdg S a nd w A).1) (by omega) (by rw [hp]; omega) (by rw [hp]; omega) hShb
    have g2 := jdg_grows S b (d + 1) hgb (nd + 1) (jdg S a nd w A).2.1 (pushA (jdg S a nd w A).2.2 nd (jdg S a nd w A).1) (by omega) (by rw [hp]; omega) (by rw [hp]; omega)
    have hA2 := g2.1
    have he : jdgK S 10 [a, b] nd w A = ([(jdg S a nd w A).1, (jdg S b (nd + 1) (jdg S a nd w A).2.1 (pushA (jdg S a nd w A).2.2 nd (jdg S a nd w A).1)).1], (jdg S b (nd + 1) (jdg S a nd w A).2.1 (pushA (jdg S a nd w A).2.2 nd (jdg S a nd w A).1)).2) := by
      simp only [jdgK, jdgI, jdgL]; rfl
    rw [he]
    obtain ⟨ak, an, aq, ae, ac, aw, aa, ar⟩ := a
    obtain ⟨bk, bn, bq, be, bc, bw, ba, br⟩ := b
    exact spec110_i S A nd m ex cols wth agg rds ak an aq ae ac aw aa ar bk bn bq be bc bw ba br w _ _ _ _ _ _ h5 hq (by rw [hp] at hA2; exact Nat.le_trans (Nat.le_max_right _ _) hA2) (by omega) hx hy

end Go.Proofs
end
section
set_option linter.unusedVariables false
set_option linter.unusedSimpArgs false
namespace Go.Proofs
open Go.Flat
set_option maxRecDepth 100000
set_option linter.unusedSimpArgs false
set_option linter.unusedVariables false
attribute [local simp] Bool.and_assoc Bool.or_assoc evalG evalX efD skF guardG guardL isCall stepL evalOp ev evs lk tmpsL app AV.ok fresh vv putCells insV ins del putL place Go.Flat.look fillC fillR getCells loadF storeF binF scalarBin intBin strBin isShift shiftBin unF lenF maxF minF rowsF appendF builtinF idxF natOf sliceP sliceF optEv Flat.cut overwrite toPV toPVs constAV scalarC scalarCs AV.cells TI.isAgg allSome andAll scalarEq buildable Go.Flat.lim retQ resL resAll resOne PartOf noTmp closedIn refs refs.refsL isSomeV hasB ids leA leA.leL renA renA.renL callB refsAll backL dropIds renS LiesAt injB ownB freshB memN locId insAll leA_refl leL_refl okS frzS frzA frzA.frzL evalD feet fine updCells cellsFrom memP footRf footWf noTmpU updIds opOps opIds idsA footR footW guardTs opTs dstTs callR callW renLoc renC inBlockQ thenQ Value.oneCell' IntKind.bits IntKind.signed

def neS (o ts : List Int) : Bool := !(ts == o)
theorem spec117 (ts o : List Int) (hts : ts.length ≤ Flat.lim) : Flat.Sp Try.prog 117 [.p (.ps (ts.map trow)), .ptr 0 0] [(.var 0, .n 1), (.cell 0 0, .av (.p (.ps (o.map trow))))] (vv (.bool (neS o ts))) [(.var 0, .n 1), (.cell 0 0, .av (.p (.ps (o.map trow))))] := by
  refine sk Try.func117 ?_
  intro F G hn hG
  refine sq ?_
  refine rg 1000 ?_
  refine pr [0, 2, 3, 8] ?_
  refine sq ?_
  refine rc 2000 ?_
  refine oc id (spec114 ts o hts) ?_
  refine oe 2100 ?_
  refine on ?_
  refine pr [3, 4] ?_
  refine k_ret ?_
  show retQ _ _ _ _ _ _ _
  simp [*, neS]

attribute [local simp] srow in
theorem spec118b (ss : List (List Int)) (o : List Int) (hlen : ss.length ≤ Flat.lim) (hs8 : ∀ s ∈ ss, s.length ≤ 8) : Flat.Sp Try.prog 118 [.p (.ps (ss.map srow)), .fn (.func 117) [.ptr 0 0]] [(.var 0, .n 1), (.cell 0 0, .av (.p (.ps (o.map trow))))] (vv (.int .i64 (firstP (neS o) ss 0))) [(.var 0, .n 1), (.cell 0 0, .av (.p (.ps (o.map trow))))] := by
  refine sk Try.func118 ?_
  intro F G hn hG
  refine sq ?_
  refine rg 1000 ?_
  refine pr [0, 2, 4, 19] ?_
  refine sq ?_
  refine sq ?_
  refine rg 2000 ?_
  refine pr [0, 2, 4, 6, 7, 19] ?_
  refine k_block ?_
  refine k_loop (fun n l => ∃ i, i + n = ss.length ∧ (firstP (neS o) ss 0 = firstP (neS o) (ss.drop i) i) ∧ l = [(.tmp 0, .av (.p (.ps (ss.map srow)))), (.tmp 1, .av (.fn (.func 117) [.ptr 0 0])), (.tmp 7, .av (vv (.int .i64 ss.length))), (.tmp 8, .av (vv (.int .i64 i))), (.var 0, .n 1), (.cell 0 0, .av (.p (.ps (o.map trow))))]) (ss.length) hG ⟨_, ⟨by simp, by simp, by simp⟩, 0, by simp, rfl, rfl⟩ ?_
  rintro n _ ⟨i, hin, hfa, rfl⟩
  have hwi : i < Flat.lim → IntKind.i64.wrap ((i : Int) + 1) = (i : Int) + 1 := wrap_succ
  refine sq ?_
  refine rg 3000 ?_
  refine pr [0, 2, 4, 6, 7, 19] ?_
  refine sq ?_
  refine cd ?_ ?_
  · intro h9_1
    have hlt : i < ss.length := by simpa using h9_1
    obtain ⟨x, hxe⟩ : ∃ x, ss[i] = x := ⟨_, rfl⟩
    have hx : ss[i]? = some x := by simp [hlt, hxe]
    have hfd := firstP_drop (p := (neS o)) hx
    have hwi := hwi (by omega)
    have hxl : x.length ≤ Flat.lim := Nat.le_trans (hs8 x (hxe ▸ List.getElem_mem hlt)) (by simp [Flat.lim])
    refine k_skip ?_
    refine sq ?_
    refine k_block ?_
    refine sq ?_
    refine rg 4000 ?_
    refine pr [0, 2, 4, 6, 7, 19] ?_
    refine sq ?_
    refine rc 5000 ?_
    refine oc id (spec117 x o hxl) ?_
    refine on ?_
    refine pr [0, 2, 4, 6, 7, 19] ?_
    refine cd ?_ ?_
    · intro h16_2
      have hr : (neS o) x = true := by simpa using h16_2
      refine sq ?_
      refine rg 6000 ?_
      refine pr [0, 2, 4, 6, 7, 19] ?_
      refine k_ret ?_
      show retQ _ _ _ _ _ _ _
      simp [*]
    · intro h16_2
      have hr : (neS o) x = false := by simpa using h16_2
      refine k_skip ?_
      refine k_nil ?_
      show AK _ _ _ _ _ _
      refine rg 7000 ?_
      refine k_nil ?_
      refine ⟨n - 1, by omega, _, ⟨?_, ?_, ?_⟩, i + 1, by omega, by rw [hfa, hfd, hr, if_neg (by simp)], rfl⟩ <;> simp [*]
  · intro h9_1
    have hge : ss.length ≤ i := by simpa using h9_1
    have hfe : firstP (neS o) (ss.drop i) i = -1 := by rw [List.drop_eq_nil_of_le hge]; rfl
    refine k_exit ?_
    show AK _ _ _ _ _ _
    refine sq ?_
    refine rg 8000 ?_
    refine pr [4, 5] ?_
    refine k_ret ?_
    show retQ _ _ _ _ _ _ _
    simp [*]

attribute [local simp] firstP_any in
theorem spec62b (ss : List (List Int)) (o : List Int) (hlen : ss.length ≤ Flat.lim) (hs8 : ∀ s ∈ ss, s.length ≤ 8) : Flat.Sp Try.prog 62 [.p (.ps (ss.map srow)), .fn (.func 117) [.ptr 0 0]] [(.var 0, .n 1), (.cell 0 0, .av (.p (.ps (o.map trow))))] (vv (.bool (ss.any (neS o)))) [(.var 0, .n 1), (.cell 0 0, .av (.p (.ps (o.map trow))))] := by
  refine sk Try.func62 ?_
  intro F G hn hG
  refine sq ?_
  refine rg 1000 ?_
  refine pr [0, 2, 4, 9] ?_
  refine sq ?_
  refine rc 2000 ?_
  refine oc id (spec118b ss o hlen hs8) ?_
  refine oe 2100 ?_
  refine on ?_
  refine pr [4, 5] ?_
  refine k_ret ?_
  show retQ _ _ _ _ _ _ _
  simp [*]

attribute [local simp] Pl.av in
theorem spec59_1 (S A : List (List Int)) (nd : Nat) (m : Int) (kids : List Pl) (ex : List E) (cols wth : List Int) (agg rds : Int) (w : Int) : Flat.Sp Try.prog 59 [.ptr 0 0, (Pl.mk 1 m kids ex cols wth agg rds).av] [(.var 0, .n 3), (.cell 0 0, .av (vv (.int .i64 (w)))), (.cell 0 1, .av (.p (.ps (S.map srow)))), (.cell 0 2, .av (.sl 1 (A).length 0 (nd))), (.arr 1, .arr 45 1 ((A).map srow) 0)] (.p (.ps ((oneR S m).map trow))) [(.var 0, .n 3), (.cell 0 0, .av (vv (.int .i64 (oneW S m w)))), (.cell 0 1, .av (.p (.ps (S.map srow)))), (.cell 0 2, .av (.sl 1 (A).length 0 (nd))), (.arr 1, .arr 45 1 ((A).map srow) 0)] := by
  refine sk Try.func59 ?_
  intro F G hn hG
  refine sq ?_
  refine rg 1000 ?_
  refine pr [0, 1, 3, 64, 65, 85, 86, 108, 109, 123, 124, 125] ?_
  refine sq ?_
  refine sq ?_
  refine rg 2000 ?_
  refine pr [0, 1, 3, 9, 10, 64, 65, 85, 86, 108, 109, 123, 124, 125] ?_
  refine k_block ?_
  refine sq ?_
  refine rg 3000 ?_
  refine pr [0, 1, 3, 9, 10, 12, 13, 64, 65, 85, 86, 108, 109, 123, 124, 125] ?_
  refine ct ?_
  refine sq ?_
  refine dr ?_
  refine de 4000 ?_
  refine dc id (spec109 S A nd S m w) ?_
  refine de 4100 ?_
  refine dn ?_
  refine pr [0, 1, 3, 9, 43, 64, 65, 85, 86, 108, 109, 123, 124, 125] ?_
  refine k_ret ?_
  show retQ _ _ _ _ _ _ _
  simp [*]

attribute [local simp] Pl.av in
theorem spec59_2n (S A : List (List Int)) (nd : Nat) (m : Int) (kids : List Pl) (ex : List E) (cols wth : List Int) (agg rds : Int) (w : Int) (hm : decide (m < 0) = true) : Flat.Sp Try.prog 59 [.ptr 0 0, (Pl.mk 2 m kids ex cols wth agg rds).av] [(.var 0, .n 3), (.cell 0 0, .av (vv (.int .i64 (w)))), (.cell 0 1, .av (.p (.ps (S.map srow)))), (.cell 0 2, .av (.sl 1 (A).length 0 (nd))), (.arr 1, .arr 45 1 ((A).map srow) 0)] (.p (.ps ([].map trow))) [(.var 0, .n 3), (.cell 0 0, .av (vv (.int .i64 (unlessF w false 1)))), (.cell 0 1, .av (.p (.ps (S.map srow)))), (.cell 0 2, .av (.sl 1 (A).length 0 (nd))), (.arr 1, .arr 45 1 ((A).map srow) 0)] := by
  refine sk Try.func59 ?_
  intro F G hn hG
  refine sq ?_
  refine rg 1000 ?_
  refine pr [0, 1, 3, 64, 65, 85, 86, 108, 109, 123, 124, 125] ?_
  refine sq ?_
  refine sq ?_
  refine rg 2000 ?_
  refine pr [0, 1, 3, 9, 10, 64, 65, 85, 86, 108, 109, 123, 124, 125] ?_
  refine k_block ?_
  refine sq ?_
  refine rg 3000 ?_
  refine pr [0, 1, 3, 9, 10, 12, 13, 64, 65, 85, 86, 108, 109, 123, 124, 125] ?_
  refine ce ?_
  refine sq ?_
  refine rg 5000 ?_
  refine pr [0, 1, 3, 9, 21, 22, 23, 64, 65, 85, 86, 108, 109, 123, 124, 125] ?_
  refine ct ?_
  refine sq ?_
  refine sq ?_
  refine rg 6000 ?_
  refine pr [0, 1, 3, 9, 25, 64, 65, 85, 86, 108, 109, 123, 124, 125] ?_
  refine ct ?_
  refine sq ?_
  refine rc 7000 ?_
  refine oc id (spec109 S A nd [] 0 w) ?_
  refine oe 7100 ?_
  refine on ?_
  refine pr [0, 1, 3, 9, 28, 64, 65, 85, 86, 108, 109, 123, 124, 125] ?_
  refine k_ret ?_
  show retQ _ _ _ _ _ _ _
  simp [*, oneR, oneW, offI]

attribute [local simp] Pl.av in
theorem spec59_2 (S A : List (List Int)) (nd : Nat) (m : Int) (kids : List Pl) (ex : List E) (cols wth : List Int) (agg rds : Int) (w : Int) (hnA : nd ≤ A.length) (hm : decide (m < 0) = false) : Flat.Sp Try.prog 59 [.ptr 0 0, (Pl.mk 2 m kids ex cols wth agg rds).av] [(.var 0, .n 3), (.cell 0 0, .av (vv (.int .i64 (w)))), (.cell 0 1, .av (.p (.ps (S.map srow)))), (.cell 0 2, .av (.sl 1 (A).length 0 (nd))), (.arr 1, .arr 45 1 ((A).map srow) 0)] (.p (.ps ((oneR (A.take nd) (varI nd m)).map trow))) [(.var 0, .n 3), (.cell 0 0, .av (vv (.int .i64 (oneW (A.take nd) (varI nd m) w)))), (.cell 0 1, .av (.p (.ps (S.map srow)))), (.cell 0 2, .av (.sl 1 (A).length 0 (nd))), (.arr 1, .arr 45 1 ((A).map srow) 0)] := by
  refine sk Try.func59 ?_
  intro F G hn hG
  refine sq ?_
  refine rg 1000 ?_
  refine pr [0, 1, 3, 64, 65, 85, 86, 108, 109, 123, 124, 125] ?_
  refine sq ?_
  refine sq ?_
  refine rg 2000 ?_
  refine pr [0, 1, 3, 9, 10, 64, 65, 85, 86, 108, 109, 123, 124, 125] ?_
  refine k_block ?_
  refine sq ?_
  refine rg 3000 ?_
  refine pr [0, 1, 3, 9, 10, 12, 13, 64, 65, 85, 86, 108, 109, 123, 124, 125] ?_
  refine ce ?_
  refine sq ?_
  refine rg 5000 ?_
  refine pr [0, 1, 3, 9, 21, 22, 23, 64, 65, 85, 86, 108, 109, 123, 124, 125] ?_
  refine ct ?_
  refine sq ?_
  refine sq ?_
  refine rg 6000 ?_
  refine pr [0, 1, 3, 9, 25, 64, 65, 85, 86, 108, 109, 123, 124, 125] ?_
  refine ce ?_
  refine k_skip ?_
  refine sq ?_
  refine dr ?_
  refine de 8000 ?_
  refine dc id (spec109o S A nd hnA (varI nd m) w) ?_ (hg := by simp [*, varI]) (hf := by simp [*, varI]; exact is_rfl _) (hx := by simp [*, varI]; exact is_rfl _) (hargs := by simp [*, varI]) (hB := by simp [*, varI]) (hL := by simp [*, varI]) (hd := by simp [*, varI]; exact is_rfl _)
  refine de 8100 ?_
  refine dn ?_
  refine pr [0, 1, 3, 9, 43, 64, 65, 85, 86, 108, 109, 123, 124, 125] ?_
  refine k_ret ?_
  show retQ _ _ _ _ _ _ _
  simp [*, varI]

attribute [local simp] Pl.av in
theorem spec59_err (S A : List (List Int)) (nd : Nat) (k m : Int) (kids : List Pl) (ex : List E) (cols wth : List Int) (agg rds : Int) (l : List (List Int)) (hk1 : (k == 1) = false) (hk2 : (k == 2) = false) (w w1 : Int) (A1 : List (List Int)) (hK : Flat.Sp Try.prog 110 [.ptr 0 0, (Pl.mk k m kids ex cols wth agg rds).av] [(.var 0, .n 3), (.cell 0 0, .av (vv (.int .i64 (w)))), (.cell 0 1, .av (.p (.ps (S.map srow)))), (.cell 0 2, .av (.sl 1 (A).length 0 (nd))), (.arr 1, .arr 45 1 ((A).map srow) 0)] (.p (.ps (l.map srow))) [(.var 0, .n 3), (.cell 0 0, .av (vv (.int .i64 (w1)))), (.cell 0 1, .av (.p (.ps (S.map srow)))), (.cell 0 2, .av (.sl 1 (A1).length 0 (nd))), (.arr 1, .arr 45 1 ((A1).map srow) 0)]) (hw1 : (w1 != 0) = true) : Flat.Sp Try.prog 59 [.ptr 0 0, (Pl.mk k m kids ex cols wth agg rds).av] [(.var 0, .n 3), (.cell 0 0, .av (vv (.int .i64 (w)))), (.cell 0 1, .av (.p (.ps (S.map srow)))), (.cell 0 2, .av (.sl 1 (A).length 0 (nd))), (.arr 1, .arr 45 1 ((A).map srow) 0)] (.p (.ps ([].map trow))) [(.var 0, .n 3), (.cell 0 0, .av (vv (.int .i64 (w1)))), (.cell 0 1, .av (.p (.ps (S.map srow)))), (.cell 0 2, .av (.sl 1 (A1).length 0 (nd))), (.arr 1, .arr 45 1 ((A1).map srow) 0)] := by
  refine sk Try.func59 ?_
  intro F G hn hG
  refine sq ?_
  refine rg 1000 ?_
  refine pr [0, 1, 3, 64, 65, 85, 86, 108, 109, 123, 124, 125] ?_
  refine sq ?_
  refine sq ?_
  refine rg 2000 ?_
  refine pr [0, 1, 3, 9, 10, 64, 65, 85, 86, 108, 109, 123, 124, 125] ?_
  refine k_block ?_
  refine sq ?_
  refine rg 3000 ?_
  refine pr [0, 1, 3, 9, 10, 12, 13, 64, 65, 85, 86, 108, 109, 123, 124, 125] ?_
  refine ce ?_
  refine sq ?_
  refine rg 5000 ?_
  refine pr [0, 1, 3, 9, 21, 22, 23, 64, 65, 85, 86, 108, 109, 123, 124, 125] ?_
  refine ce ?_
  refine k_skip ?_
  refine k_nil ?_
  show AK _ _ _ _ _ _
  refine sq ?_
  refine rc 9000 ?_
  refine oc id (hK) ?_
  refine oe 9100 ?_
  refine on ?_
  refine pr [0, 1, 3, 9, 46, 64, 65, 85, 86, 108, 109, 123, 124, 125] ?_
  refine sq ?_
  refine sq ?_
  refine rg 10000 ?_
  refine pr [0, 1, 3, 9, 51, 64, 65, 85, 86, 108, 109, 123, 124, 125] ?_
  refine ct ?_
  refine sq ?_
  refine rg 11000 ?_
  refine pr [0, 1, 3, 9, 52, 64, 65, 85, 86, 108, 109, 123, 124, 125] ?_
  refine k_ret ?_
  show retQ _ _ _ _ _ _ _
  simp [*]

attribute [local simp] Pl.av in
theorem spec59_3 (S A : List (List Int)) (nd : Nat) (m : Int) (kids : List Pl) (ex : List E) (cols wth : List Int) (agg rds : Int) (o : List Int) (ho8 : o.length ≤ 8) (he : ex.length ≤ Bnd) (w w1 : Int) (A1 : List (List Int)) (hK : Flat.Sp Try.prog 110 [.ptr 0 0, (Pl.mk 3 m kids ex cols wth agg rds).av] [(.var 0, .n 3), (.cell 0 0, .av (vv (.int .i64 (w)))), (.cell 0 1, .av (.p (.ps (S.map srow)))), (.cell 0 2, .av (.sl 1 (A).length 0 (nd))), (.arr 1, .arr 45 1 ((A).map srow) 0)] (.p (.ps ([srow o]))) [(.var 0, .n 3), (.cell 0 0, .av (vv (.int .i64 (w1)))), (.cell 0 1, .av (.p (.ps (S.map srow)))), (.cell 0 2, .av (.sl 1 (A1).length 0 (nd))), (.arr 1, .arr 45 1 ((A1).map srow) 0)]) (hw1 : (w1 != 0) = false)  : Flat.Sp Try.prog 59 [.ptr 0 0, (Pl.mk 3 m kids ex cols wth agg rds).av] [(.var 0, .n 3), (.cell 0 0, .av (vv (.int .i64 (w)))), (.cell 0 1, .av (.p (.ps (S.map srow)))), (.cell 0 2, .av (.sl 1 (A).length 0 (nd))), (.arr 1, .arr 45 1 ((A).map srow) 0)] (.p (.ps ((ex.map (fun e => (inferE o e).1)).map trow))) [(.var 0, .n 3), (.cell 0 0, .av (vv (.int .i64 (unlessF (exsW o ex w1) (decide (((ex.map (fun e => (inferE o e).1)).length : Int) ≤ 8)) 2)))), (.cell 0 1, .av (.p (.ps (S.map srow)))), (.cell 0 2, .av (.sl 1 (A1).length 0 (nd))), (.arr 1, .arr 45 1 ((A1).map srow) 0)] := by
  refine sk Try.func59 ?_
  intro F G hn hG
  have hol : o.length ≤ Flat.lim := Nat.le_trans ho8 (by simp [Flat.lim])
  have hmm : (ex.map (fun e => (inferE o e).1)).map trow = ex.map (fun e => [PV.v (.int .u8 (inferE o e).1)]) := by simp [trow, Function.comp_def]
  refine sq ?_
  refine rg 1000 ?_
  refine pr [0, 1, 3, 64, 65, 85, 86, 108, 109, 123, 124, 125] ?_
  refine sq ?_
  refine sq ?_
  refine rg 2000 ?_
  refine pr [0, 1, 3, 9, 10, 64, 65, 85, 86, 108, 109, 123, 124, 125] ?_
  refine k_block ?_
  refine sq ?_
  refine rg 3000 ?_
  refine pr [0, 1, 3, 9, 10, 12, 13, 64, 65, 85, 86, 108, 109, 123, 124, 125] ?_
  refine ce ?_
  refine sq ?_
  refine rg 5000 ?_
  refine pr [0, 1, 3, 9, 21, 22, 23, 64, 65, 85, 86, 108, 109, 123, 124, 125] ?_
  refine ce ?_
  refine k_skip ?_
  refine k_nil ?_
  show AK _ _ _ _ _ _
  refine sq ?_
  refine rc 9000 ?_
  refine oc id (hK) ?_
  refine oe 9100 ?_
  refine on ?_
  refine pr [0, 1, 3, 9, 46, 64, 65, 85, 86, 108, 109, 123, 124, 125] ?_
  refine sq ?_
  refine sq ?_
  refine rg 10000 ?_
  refine pr [0, 1, 3, 9, 51, 64, 65, 85, 86, 108, 109, 123, 124, 125] ?_
  refine ce ?_
  refine k_skip ?_
  refine sq ?_
  refine rg 12000 ?_ (h := by simp [*, srow]; exact is_rfl _)
  refine pr [0, 1, 3, 9, 55, 64, 65, 85, 86, 108, 109, 123, 124, 125] ?_
  refine sq ?_
  refine sq ?_
  refine rg 13000 ?_
  refine pr [0, 1, 3, 9, 56, 64, 65, 85, 86, 108, 109, 123, 124, 125] ?_
  refine k_block ?_
  refine sq ?_
  refine rg 15000 ?_
  refine pr [0, 1, 3, 9, 56, 64, 65, 66, 67, 85, 86, 108, 109, 123, 124, 125] ?_
  refine ct ?_
  refine rc 16000 ?_
  refine oc id (spec111 S A1 nd o hol ex he w1) ?_
  refine oe 16100 ?_
  refine on ?_
  refine k_nil ?_
  show AK _ _ _ _ _ _
  refine sq ?_
  refine dr ?_
  refine de 25000 ?_
  refine dc id (spec112 S A1 nd (exsW o ex w1) (decide (((ex.map (fun e => (inferE o e).1)).length : Int) ≤ 8)) 2) ?_
  refine dn ?_
  refine pr [4, 5, 6, 7, 124, 125] ?_
  refine sq ?_
  refine rg 26000 ?_
  refine pr [4, 5] ?_
  refine k_ret ?_
  show retQ _ _ _ _ _ _ _
  simp [*]

attribute [local simp] Pl.av in
theorem spec59_4 (S A : List (List Int)) (nd : Nat) (m : Int) (kids : List Pl) (e : E) (cols wth : List Int) (agg rds : Int) (o : List Int) (ho8 : o.length ≤ 8) (w w1 : Int) (A1 : List (List Int)) (hK : Flat.Sp Try.prog 110 [.ptr 0 0, (Pl.mk 4 m kids [e] cols wth agg rds).av] [(.var 0, .n 3), (.cell 0 0, .av (vv (.int .i64 (w)))), (.cell 0 1, .av (.p (.ps (S.map srow)))), (.cell 0 2, .av (.sl 1 (A).length 0 (nd))), (.arr 1, .arr 45 1 ((A).map srow) 0)] (.p (.ps ([srow o]))) [(.var 0, .n 3), (.cell 0 0, .av (vv (.int .i64 (w1)))), (.cell 0 1, .av (.p (.ps (S.map srow)))), (.cell 0 2, .av (.sl 1 (A1).length 0 (nd))), (.arr 1, .arr 45 1 ((A1).map srow) 0)]) (hw1 : (w1 != 0) = false)  : Flat.Sp Try.prog 59 [.ptr 0 0, (Pl.mk 4 m kids [e] cols wth agg rds).av] [(.var 0, .n 3), (.cell 0 0, .av (vv (.int .i64 (w)))), (.cell 0 1, .av (.p (.ps (S.map srow)))), (.cell 0 2, .av (.sl 1 (A).length 0 (nd))), (.arr 1, .arr 45 1 ((A).map srow) 0)] (.p (.ps ((o).map trow))) [(.var 0, .n 3), (.cell 0 0, .av (vv (.int .i64 (unlessF (unlessF (exsW o [e] w1) ((inferE o e).1 == 1) 11) (decide (((o).length : Int) ≤ 8)) 2)))), (.cell 0 1, .av (.p (.ps (S.map srow)))), (.cell 0 2, .av (.sl 1 (A1).length 0 (nd))), (.arr 1, .arr 45 1 ((A1).map srow) 0)] := by
  refine sk Try.func59 ?_
  intro F G hn hG
  have hol : o.length ≤ Flat.lim := Nat.le_trans ho8 (by simp [Flat.lim])
  refine sq ?_
  refine rg 1000 ?_
  refine pr [0, 1, 3, 64, 65, 85, 86, 108, 109, 123, 124, 125] ?_
  refine sq ?_
  refine sq ?_
  refine rg 2000 ?_
  refine pr [0, 1, 3, 9, 10, 64, 65, 85, 86, 108, 109, 123, 124, 125] ?_
  refine k_block ?_
  refine sq ?_
  refine rg 3000 ?_
  refine pr [0, 1, 3, 9, 10, 12, 13, 64, 65, 85, 86, 108, 109, 123, 124, 125] ?_
  refine ce ?_
  refine sq ?_
  refine rg 5000 ?_
  refine pr [0, 1, 3, 9, 21, 22, 23, 64, 65, 85, 86, 108, 109, 123, 124, 125] ?_
  refine ce ?_
  refine k_skip ?_
  refine k_nil ?_
  show AK _ _ _ _ _ _
  refine sq ?_
  refine rc 9000 ?_
  refine oc id (hK) ?_
  refine oe 9100 ?_
  refine on ?_
  refine pr [0, 1, 3, 9, 46, 64, 65, 85, 86, 108, 109, 123, 124, 125] ?_
  refine sq ?_
  refine sq ?_
  refine rg 10000 ?_
  refine pr [0, 1, 3, 9, 51, 64, 65, 85, 86, 108, 109, 123, 124, 125] ?_
  refine ce ?_
  refine k_skip ?_
  refine sq ?_
  refine rg 12000 ?_ (h := by simp [*, srow]; exact is_rfl _)
  refine pr [0, 1, 3, 9, 55, 64, 65, 85, 86, 108, 109, 123, 124, 125] ?_
  refine sq ?_
  refine sq ?_
  refine rg 13000 ?_
  refine pr [0, 1, 3, 9, 56, 64, 65, 85, 86, 108, 109, 123, 124, 125] ?_
  refine k_block ?_
  refine sq ?_
  refine rg 15000 ?_
  refine pr [0, 1, 3, 9, 56, 64, 65, 66, 67, 85, 86, 108, 109, 123, 124, 125] ?_
  refine ce ?_
  refine sq ?_
  refine rg 17000 ?_
  refine pr [0, 1, 3, 9, 56, 64, 72, 73, 74, 85, 86, 108, 109, 123, 124, 125] ?_
  refine ct ?_
  refine dr ?_
  refine de 18000 ?_
  refine dc id (spec111 S A1 nd o hol [e] (by simp [Bnd]) w1) ?_
  refine de 18100 ?_
  refine dc id (spec112 S A1 nd (exsW o [e] w1) ((inferE o e).1 == 1) 11) ?_
  refine dn ?_
  refine k_nil ?_
  show AK _ _ _ _ _ _
  refine sq ?_
  refine dr ?_
  refine de 25000 ?_
  refine dc id (spec112 S A1 nd (unlessF (exsW o [e] w1) ((inferE o e).1 == 1) 11) (decide (((o).length : Int) ≤ 8)) 2) ?_
  refine dn ?_
  refine pr [4, 5, 6, 7, 124, 125] ?_
  refine sq ?_
  refine rg 26000 ?_
  refine pr [4, 5] ?_
  refine k_ret ?_
  show retQ _ _ _ _ _ _ _
  simp [*]

attribute [local simp] Pl.av in
theorem spec59_7 (S A : List (List Int)) (nd : Nat) (m : Int) (kids : List Pl) (ex : List E) (cols wth : List Int) (agg rds : Int) (o1 o2 : List Int) (ho1 : o1.length ≤ 8) (ho2 : o2.length ≤ 8) (hc : cols.length ≤ Bnd) (hw : wth.length ≤ Bnd) (w w1 : Int) (A1 : List (List Int)) (hK : Flat.Sp Try.prog 110 [.ptr 0 0, (Pl.mk 7 m kids ex cols wth agg rds).av] [(.var 0, .n 3), (.cell 0 0, .av (vv (.int .i64 (w)))), (.cell 0 1, .av (.p (.ps (S.map srow)))), (.cell 0 2, .av (.sl 1 (A).length 0 (nd))), (.arr 1, .arr 45 1 ((A).map srow) 0)] (.p (.ps ([srow o1, srow o2]))) [(.var 0, .n 3), (.cell 0 0, .av (vv (.int .i64 (w1)))), (.cell 0 1, .av (.p (.ps (S.map srow)))), (.cell 0 2, .av (.sl 1 (A1).length 0 (nd))), (.arr 1, .arr 45 1 ((A1).map srow) 0)]) (hw1 : (w1 != 0) = false)  : Flat.Sp Try.prog 59 [.ptr 0 0, (Pl.mk 7 m kids ex cols wth agg rds).av] [(.var 0, .n 3), (.cell 0 0, .av (vv (.int .i64 (w)))), (.cell 0 1, .av (.p (.ps (S.map srow)))), (.cell 0 2, .av (.sl 1 (A).length 0 (nd))), (.arr 1, .arr 45 1 ((A).map srow) 0)] (.p (.ps ((o1 ++ o2).map trow))) [(.var 0, .n 3), (.cell 0 0, .av (vv (.int .i64 (unlessF (unlessF (atL o2 wth (atL o1 cols w1).2).2 ((atL o1 cols w1).1 == (atL o2 wth (atL o1 cols w1).2).1) 11) (decide (((o1 ++ o2).length : Int) ≤ 8)) 2)))), (.cell 0 1, .av (.p (.ps (S.map srow)))), (.cell 0 2, .av (.sl 1 (A1).length 0 (nd))), (.arr 1, .arr 45 1 ((A1).map srow) 0)] := by
  refine sk Try.func59 ?_
  intro F G hn hG
  have hla := atL_len o1 cols w1
  have hlb := atL_len o2 wth (atL o1 cols w1).2
  have ht1 : ((atL o1 cols w1).1.map trow).take (atL o1 cols w1).1.length = (atL o1 cols w1).1.map trow := List.take_of_length_le (by simp)
  have ht2 : ((atL o2 wth (atL o1 cols w1).2).1.map trow).take (atL o2 wth (atL o1 cols w1).2).1.length = (atL o2 wth (atL o1 cols w1).2).1.map trow := List.take_of_length_le (by simp)
  refine sq ?_
  refine rg 1000 ?_
  refine pr [0, 1, 3, 64, 65, 85, 86, 108, 109, 123, 124, 125] ?_
  refine sq ?_
  refine sq ?_
  refine rg 2000 ?_
  refine pr [0, 1, 3, 9, 10, 64, 65, 85, 86, 108, 109, 123, 124, 125] ?_
  refine k_block ?_
  refine sq ?_
  refine rg 3000 ?_
  refine pr [0, 1, 3, 9, 10, 12, 13, 64, 65, 85, 86, 108, 109, 123, 124, 125] ?_
  refine ce ?_
  refine sq ?_
  refine rg 5000 ?_
  refine pr [0, 1, 3, 9, 21, 22, 23, 64, 65, 85, 86, 108, 109, 123, 124, 125] ?_
  refine ce ?_
  refine k_skip ?_
  refine k_nil ?_
  show AK _ _ _ _ _ _
  refine sq ?_
  refine rc 9000 ?_
  refine oc id (hK) ?_
  refine oe 9100 ?_
  refine on ?_
  refine pr [0, 1, 3, 9, 46, 64, 65, 85, 86, 108, 109, 123, 124, 125] ?_
  refine sq ?_
  refine sq ?_
  refine rg 10000 ?_
  refine pr [0, 1, 3, 9, 51, 64, 65, 85, 86, 108, 109, 123, 124, 125] ?_
  refine ce ?_
  refine k_skip ?_
  refine sq ?_
  refine rg 12000 ?_ (h := by simp [*, srow]; exact is_rfl _)
  refine pr [0, 1, 3, 9, 55, 64, 65, 85, 86, 108, 109, 123, 124, 125] ?_
  refine sq ?_
  refine sq ?_
  refine rg 13000 ?_
  refine pr [0, 1, 3, 9, 56, 64, 65, 85, 86, 108, 109, 123, 124, 125] ?_
  refine k_block ?_
  refine sq ?_
  refine rg 15000 ?_
  refine pr [0, 1, 3, 9, 56, 64, 65, 66, 67, 85, 86, 108, 109, 123, 124, 125] ?_
  refine ce ?_
  refine sq ?_
  refine rg 17000 ?_
  refine pr [0, 1, 3, 9, 56, 64, 72, 73, 74, 85, 86, 108, 109, 123, 124, 125] ?_
  refine ce ?_
  refine sq ?_
  refine rg 19000 ?_
  refine pr [0, 1, 3, 9, 56, 64, 86, 87, 88, 108, 109, 123, 124, 125] ?_
  refine ct ?_
  refine sq ?_
  refine dr ?_
  refine de 20000 ?_ (h := by simp [*, srow]; exact is_rfl _)
  refine dc (fun k => if k = 900 then 20500 else k) (spec113 S A1 nd o1 cols hc w1) ?_ (hg := by simp [*, srow]) (hf := by simp [*, srow]; exact is_rfl _) (hx := by simp [*, srow]; exact is_rfl _) (hargs := by simp [*, srow]) (hB := by simp [*, srow]) (hL := by simp [*, srow]) (hd := by simp [*, srow]; exact is_rfl _)
  refine de 20100 ?_ (h := by simp [*, srow]; exact is_rfl _)
  refine dc (fun k => if k = 900 then 20600 else k) (spec113 S A1 nd o2 wth hw (atL o1 cols w1).2) ?_ (hg := by simp [*, srow]) (hf := by simp [*, srow]; exact is_rfl _) (hx := by simp [*, srow]; exact is_rfl _) (hargs := by simp [*, srow]) (hB := by simp [*, srow]) (hL := by simp [*, srow]) (hd := by simp [*, srow]; exact is_rfl _)
  refine de 20200 ?_ (h := by simp [*, srow]; exact is_rfl _)
  refine dn ?_
  refine pr [0, 1, 4, 9, 102, 108, 109, 111, 117, 123, 124, 125] ?_
  refine fz 20500 ?_
  refine fz 20600 ?_
  refine sq ?_
  refine dr ?_
  refine de 21000 ?_
  refine dc id (spec114 (atL o1 cols w1).1 (atL o2 wth (atL o1 cols w1).2).1 (Bnd_lim (Nat.le_trans hla hc))) ?_
  refine dc id (spec112 S A1 nd (atL o2 wth (atL o1 cols w1).2).2 ((atL o1 cols w1).1 == (atL o2 wth (atL o1 cols w1).2).1) 11) ?_
  refine dn ?_
  refine pr [0, 1, 4, 7, 109, 111, 117, 123, 124, 125] ?_
  refine rc 22000 ?_ (h := by simp [*, srow]; exact is_rfl _)
  refine oc id (spec115 o1 o2 ho1 ho2) ?_ (hg := by simp [*, srow]) (hf := by simp [*, srow]; exact is_rfl _) (hx := by simp [*, srow]; exact is_rfl _) (hargs := by simp [*, srow]) (hB := by simp [*, srow]) (hL := by simp [*, srow]) (hd := by simp [*, srow]; exact is_rfl _)
  refine oe 22100 ?_ (h := by simp [*, srow]; exact is_rfl _)
  refine on ?_
  refine k_nil ?_
  show AK _ _ _ _ _ _
  refine sq ?_
  refine dr ?_
  refine de 25000 ?_
  refine dc id (spec112 S A1 nd (unlessF (atL o2 wth (atL o1 cols w1).2).2 ((atL o1 cols w1).1 == (atL o2 wth (atL o1 cols w1).2).1) 11) (decide (((o1 ++ o2).length : Int) ≤ 8)) 2) ?_
  refine dn ?_
  refine pr [4, 5, 6, 7, 124, 125] ?_
  refine sq ?_
  refine rg 26000 ?_
  refine pr [4, 5] ?_
  refine k_ret ?_
  show retQ _ _ _ _ _ _ _
  simp [*]

attribute [local simp] Pl.av in
theorem spec59_8 (S A : List (List Int)) (nd : Nat) (m : Int) (kids : List Pl) (ex : List E) (cols wth : List Int) (agg rds : Int) (o : List Int) (ho8 : o.length ≤ 8) (hc : cols.length ≤ Bnd) (w w1 : Int) (A1 : List (List Int)) (hK : Flat.Sp Try.prog 110 [.ptr 0 0, (Pl.mk 8 m kids ex cols wth agg rds).av] [(.var 0, .n 3), (.cell 0 0, .av (vv (.int .i64 (w)))), (.cell 0 1, .av (.p (.ps (S.map srow)))), (.cell 0 2, .av (.sl 1 (A).length 0 (nd))), (.arr 1, .arr 45 1 ((A).map srow) 0)] (.p (.ps ([srow o]))) [(.var 0, .n 3), (.cell 0 0, .av (vv (.int .i64 (w1)))), (.cell 0 1, .av (.p (.ps (S.map srow)))), (.cell 0 2, .av (.sl 1 (A1).length 0 (nd))), (.arr 1, .arr 45 1 ((A1).map srow) 0)]) (hw1 : (w1 != 0) = false)  : Flat.Sp Try.prog 59 [.ptr 0 0, (Pl.mk 8 m kids ex cols wth agg rds).av] [(.var 0, .n 3), (.cell 0 0, .av (vv (.int .i64 (w)))), (.cell 0 1, .av (.p (.ps (S.map srow)))), (.cell 0 2, .av (.sl 1 (A).length 0 (nd))), (.arr 1, .arr 45 1 ((A).map srow) 0)] (.p (.ps (((redR o cols m agg w1).1).map trow))) [(.var 0, .n 3), (.cell 0 0, .av (vv (.int .i64 (unlessF ((redR o cols m agg w1).2) (decide ((((redR o cols m agg w1).1).length : Int) ≤ 8)) 2)))), (.cell 0 1, .av (.p (.ps (S.map srow)))), (.cell 0 2, .av (.sl 1 (A1).length 0 (nd))), (.arr 1, .arr 45 1 ((A1).map srow) 0)] := by
  refine sk Try.func59 ?_
  intro F G hn hG
  refine sq ?_
  refine rg 1000 ?_
  refine pr [0, 1, 3, 64, 65, 85, 86, 108, 109, 123, 124, 125] ?_
  refine sq ?_
  refine sq ?_
  refine rg 2000 ?_
  refine pr [0, 1, 3, 9, 10, 64, 65, 85, 86, 108, 109, 123, 124, 125] ?_
  refine k_block ?_
  refine sq ?_
  refine rg 3000 ?_
  refine pr [0, 1, 3, 9, 10, 12, 13, 64, 65, 85, 86, 108, 109, 123, 124, 125] ?_
  refine ce ?_
  refine sq ?_
  refine rg 5000 ?_
  refine pr [0, 1, 3, 9, 21, 22, 23, 64, 65, 85, 86, 108, 109, 123, 124, 125] ?_
  refine ce ?_
  refine k_skip ?_
  refine k_nil ?_
  show AK _ _ _ _ _ _
  refine sq ?_
  refine rc 9000 ?_
  refine oc id (hK) ?_
  refine oe 9100 ?_
  refine on ?_
  refine pr [0, 1, 3, 9, 46, 64, 65, 85, 86, 108, 109, 123, 124, 125] ?_
  refine sq ?_
  refine sq ?_
  refine rg 10000 ?_
  refine pr [0, 1, 3, 9, 51, 64, 65, 85, 86, 108, 109, 123, 124, 125] ?_
  refine ce ?_
  refine k_skip ?_
  refine sq ?_
  refine rg 12000 ?_ (h := by simp [*, srow]; exact is_rfl _)
  refine pr [0, 1, 3, 9, 55, 64, 65, 85, 86, 108, 109, 123, 124, 125] ?_
  refine sq ?_
  refine sq ?_
  refine rg 13000 ?_
  refine pr [0, 1, 3, 9, 56, 64, 65, 85, 86, 108, 109, 123, 124, 125] ?_
  refine k_block ?_
  refine sq ?_
  refine rg 15000 ?_
  refine pr [0, 1, 3, 9, 56, 64, 65, 66, 67, 85, 86, 108, 109, 123, 124, 125] ?_
  refine ce ?_
  refine sq ?_
  refine rg 17000 ?_
  refine pr [0, 1, 3, 9, 56, 64, 72, 73, 74, 85, 86, 108, 109, 123, 124, 125] ?_
  refine ce ?_
  refine sq ?_
  refine rg 19000 ?_
  refine pr [0, 1, 3, 9, 56, 64, 86, 87, 88, 108, 109, 123, 124, 125] ?_
  refine ce ?_
  refine sq ?_
  refine rg 23000 ?_
  refine pr [0, 1, 3, 7, 57, 64, 111, 112, 113, 123, 124, 125] ?_
  refine ct ?_
  refine rc 24000 ?_
  refine oc id (spec116 S A1 nd 8 m kids ex cols wth agg rds hc o w1) ?_
  refine oe 24100 ?_
  refine on ?_
  refine k_nil ?_
  show AK _ _ _ _ _ _
  refine sq ?_
  refine dr ?_
  refine de 25000 ?_
  refine dc id (spec112 S A1 nd ((redR o cols m agg w1).2) (decide ((((redR o cols m agg w1).1).length : Int) ≤ 8)) 2) ?_
  refine dn ?_
  refine pr [4, 5, 6, 7, 124, 125] ?_
  refine sq ?_
  refine rg 26000 ?_
  refine pr [4, 5] ?_
  refine k_ret ?_
  show retQ _ _ _ _ _ _ _
  simp [*]

attribute [local simp] Pl.av in
theorem spec59_d (S A : List (List Int)) (nd : Nat) (k m : Int) (kids : List Pl) (ex : List E) (cols wth : List Int) (agg rds : Int) (o : List Int) (q : List (List Int)) (hql : (o :: q).length ≤ Flat.lim) (hq8 : ∀ s ∈ o :: q, s.length ≤ 8) (hk1 : (k == 1) = false) (hk2 : (k == 2) = false) (hk3 : (k == 3) = false) (hk4 : (k == 4) = false) (hk7 : (k == 7) = false) (hk8 : (k == 8) = false) (w w1 : Int) (A1 : List (List Int)) (hK : Flat.Sp Try.prog 110 [.ptr 0 0, (Pl.mk k m kids ex cols wth agg rds).av] [(.var 0, .n 3), (.cell 0 0, .av (vv (.int .i64 (w)))), (.cell 0 1, .av (.p (.ps (S.map srow)))), (.cell 0 2, .av (.sl 1 (A).length 0 (nd))), (.arr 1, .arr 45 1 ((A).map srow) 0)] (.p (.ps ((o :: q).map srow))) [(.var 0, .n 3), (.cell 0 0, .av (vv (.int .i64 (w1)))), (.cell 0 1, .av (.p (.ps (S.map srow)))), (.cell 0 2, .av (.sl 1 (A1).length 0 (nd))), (.arr 1, .arr 45 1 ((A1).map srow) 0)]) (hw1 : (w1 != 0) = false)  : Flat.Sp Try.prog 59 [.ptr 0 0, (Pl.mk k m kids ex cols wth agg rds).av] [(.var 0, .n 3), (.cell 0 0, .av (vv (.int .i64 (w)))), (.cell 0 1, .av (.p (.ps (S.map srow)))), (.cell 0 2, .av (.sl 1 (A).length 0 (nd))), (.arr 1, .arr 45 1 ((A).map srow) 0)] (.p (.ps ((o).map trow))) [(.var 0, .n 3), (.cell 0 0, .av (vv (.int .i64 (unlessF (unlessF w1 (!((o :: q).any (neS o))) 11) (decide (((o).length : Int) ≤ 8)) 2)))), (.cell 0 1, .av (.p (.ps (S.map srow)))), (.cell 0 2, .av (.sl 1 (A1).length 0 (nd))), (.arr 1, .arr 45 1 ((A1).map srow) 0)] := by
  refine sk Try.func59 ?_
  intro F G hn hG
  refine sq ?_
  refine rg 1000 ?_
  refine pr [0, 1, 3, 64, 65, 85, 86, 108, 109, 123, 124, 125] ?_
  refine sq ?_
  refine sq ?_
  refine rg 2000 ?_
  refine pr [0, 1, 3, 9, 10, 64, 65, 85, 86, 108, 109, 123, 124, 125] ?_
  refine k_block ?_
  refine sq ?_
  refine rg 3000 ?_
  refine pr [0, 1, 3, 9, 10, 12, 13, 64, 65, 85, 86, 108, 109, 123, 124, 125] ?_
  refine ce ?_
  refine sq ?_
  refine rg 5000 ?_
  refine pr [0, 1, 3, 9, 21, 22, 23, 64, 65, 85, 86, 108, 109, 123, 124, 125] ?_
  refine ce ?_
  refine k_skip ?_
  refine k_nil ?_
  show AK _ _ _ _ _ _
  refine sq ?_
  refine rc 9000 ?_
  refine oc id (hK) ?_
  refine oe 9100 ?_
  refine on ?_
  refine pr [0, 1, 3, 9, 46, 64, 65, 85, 86, 108, 109, 123, 124, 125] ?_
  refine sq ?_
  refine sq ?_
  refine rg 10000 ?_
  refine pr [0, 1, 3, 9, 51, 64, 65, 85, 86, 108, 109, 123, 124, 125] ?_
  refine ce ?_
  refine k_skip ?_
  refine sq ?_
  refine rg 12000 ?_ (h := by simp [*, srow]; exact is_rfl _)
  refine pr [0, 1, 3, 9, 55, 64, 65, 85, 86, 108, 109, 123, 124, 125] ?_
  refine sq ?_
  refine sq ?_
  refine rg 13000 ?_
  refine pr [0, 1, 3, 9, 56, 64, 65, 85, 86, 108, 109, 123, 124, 125] ?_
  refine k_block ?_
  refine sq ?_
  refine rg 15000 ?_
  refine pr [0, 1, 3, 9, 56, 64, 65, 66, 67, 85, 86, 108, 109, 123, 124, 125] ?_
  refine ce ?_
  refine sq ?_
  refine rg 17000 ?_
  refine pr [0, 1, 3, 9, 56, 64, 72, 73, 74, 85, 86, 108, 109, 123, 124, 125] ?_
  refine ce ?_
  refine sq ?_
  refine rg 19000 ?_
  refine pr [0, 1, 3, 9, 56, 64, 86, 87, 88, 108, 109, 123, 124, 125] ?_
  refine ce ?_
  refine sq ?_
  refine rg 23000 ?_
  refine pr [0, 1, 3, 7, 57, 64, 111, 112, 113, 123, 124, 125] ?_
  refine ce ?_
  refine dr ?_
  refine de 14000 ?_
  refine dk [12003] (fun _ => 12003) (spec62b (o :: q) o hql hq8) ?_
  refine de 14100 ?_
  refine dc id (spec112 S A1 nd w1 (!((o :: q).any (neS o))) 11) ?_
  refine dn ?_
  refine k_nil ?_
  show AK _ _ _ _ _ _
  refine sq ?_
  refine dr ?_
  refine de 25000 ?_
  refine dc id (spec112 S A1 nd (unlessF w1 (!((o :: q).any (neS o))) 11) (decide (((o).length : Int) ≤ 8)) 2) ?_
  refine dn ?_
  refine pr [4, 5, 6, 7, 124, 125] ?_
  refine sq ?_
  refine rg 26000 ?_
  refine pr [4, 5] ?_
  refine k_ret ?_
  show retQ _ _ _ _ _ _ _
  simp [*]

end Go.Proofs
end
section
set_option linter.unusedVariables false
set_option linter.unusedSimpArgs false
namespace Go.Proofs
open Go.Flat
set_option maxRecDepth 100000
set_option linter.unusedSimpArgs false
set_option linter.unusedVariables false
attribute [local simp] Bool.and_assoc Bool.or_assoc evalG evalX efD skF guardG guardL isCall stepL evalOp ev evs lk tmpsL app AV.ok fresh vv putCells insV ins del putL place Go.Flat.look fillC fillR getCells loadF storeF binF scalarBin intBin strBin isShift shiftBin unF lenF maxF minF rowsF appendF builtinF idxF natOf sliceP sliceF optEv Flat.cut overwrite toPV toPVs constAV scalarC scalarCs AV.cells TI.isAgg allSome andAll scalarEq buildable Go.Flat.lim retQ resL resAll resOne PartOf noTmp closedIn refs refs.refsL isSomeV hasB ids leA leA.leL renA renA.renL callB refsAll backL dropIds renS LiesAt injB ownB freshB memN locId insAll leA_refl leL_refl okS frzS frzA frzA.frzL evalD feet fine updCells cellsFrom memP footRf footWf noTmpU updIds opOps opIds idsA footR footW guardTs opTs dstTs callR callW renLoc renC inBlockQ thenQ Value.oneCell' IntKind.bits IntKind.signed

theorem formed_shape {k m : Int} {nk : Nat} {ex : List E} {cols wth : List Int} {agg rds : Int} (h : formedP k m nk ex cols wth agg rds = true) : okP1 k nk = true ∧ (k = 4 → ex.length = 1) := by
  have h2 : okP2 k m nk ex cols wth agg rds = true := by
    unfold formedP at h
    split at h
    · exact (Bool.and_eq_true _ _ ▸ h).1
    · split at h
      · exact (Bool.and_eq_true _ _ ▸ h).1
      · split at h
        · exact (Bool.and_eq_true _ _ ▸ h).1
        · exact h
  refine ⟨(Bool.and_eq_true _ _ ▸ h2).1, ?_⟩
  rintro rfl
  have : (okP2 4 m nk ex cols wth agg rds && ((ex.length : Int) == 1)) = true := h
  simp only [Bool.and_eq_true, beq_iff_eq] at this
  omega
theorem kinds {k : Int} {nk : Nat} (h : okP1 k nk = true) : ((k = 1 ∨ k = 2) ∧ nk = 0) ∨ ((k = 3 ∨ k = 4 ∨ k = 8) ∧ nk = 1) ∨ (k = 7 ∧ nk = 2) ∨ ((k == 1) = false ∧ (k == 2) = false ∧ (k == 3) = false ∧ (k == 4) = false ∧ (k == 7) = false ∧ (k == 8) = false ∧ 0 < nk ∧ ((k == 10) = true → nk = 2)) := by
  simp only [okP1, Bool.and_eq_true, decide_eq_true_eq] at h
  obtain ⟨h1, h2, h3⟩ := h
  have : k = 1 ∨ k = 2 ∨ k = 3 ∨ k = 4 ∨ k = 5 ∨ k = 6 ∨ k = 7 ∨ k = 8 ∨ k = 9 ∨ k = 10 := by omega
  rcases this with rfl | rfl | rfl | rfl | rfl | rfl | rfl | rfl | rfl | rfl <;> simp [manyP] at h3 ⊢ <;> omega
theorem one_of_len {α : Type} {l : List α} (h : l.length = 1) : ∃ x, l = [x] := List.length_eq_one_iff.1 h
theorem jdg_other (S : List (List Int)) {k : Int} (h1 : (k == 1) = false) (h2 : (k == 2) = false) (m : Int) (kids : List Pl) (ex : List E) (cols wth : List Int) (agg rds : Int) (nd : Nat) (w : Int) (A : List (List Int)) {l : List (List Int)} {w1 : Int} {A1 : List (List Int)} (hr : jdgK S k kids nd w A = (l, w1, A1)) :
    jdg S (.mk k m kids ex cols wth agg rds) nd w A = if w1 != 0 then ([], w1, A1) else ((finJ k m ex cols wth agg l w1).1, (finJ k m ex cols wth agg l w1).2, A1) := by
  rw [jdg]
  simp only [h1, h2, Bool.false_eq_true, if_false]
  unfold jdgK at hr
  rw [hr]

def JSp (S : List (List Int)) (p : Pl) (d : Nat) : Prop := ∀ (nd : Nat) (w : Int) (A : List (List Int)), nd < d → nd ≤ A.length → A.length ≤ 16 → Sh A nd w → Flat.Sp Try.prog 59 [.ptr 0 0, p.av] [(.var 0, .n 3), (.cell 0 0, .av (vv (.int .i64 (w)))), (.cell 0 1, .av (.p (.ps (S.map srow)))), (.cell 0 2, .av (.sl 1 (A).length 0 (nd))), (.arr 1, .arr 45 1 ((A).map srow) 0)] (.p (.ps ((jdg S p nd w A).1.map trow))) [(.var 0, .n 3), (.cell 0 0, .av (vv (.int .i64 ((jdg S p nd w A).2.1)))), (.cell 0 1, .av (.p (.ps (S.map srow)))), (.cell 0 2, .av (.sl 1 ((jdg S p nd w A).2.2).length 0 (nd))), (.arr 1, .arr 45 1 (((jdg S p nd w A).2.2).map srow) 0)]
theorem spec59 (S : List (List Int)) (hS : ∀ s ∈ S, s.length ≤ 8) : ∀ (p : Pl), p.bnd → ∀ d, p.good d → JSp S p d := by
  refine Pl.ind fun k m kids ex cols wth agg rds ih hb d hg nd w A hnd hnA hA hSh => ?_
  rw [Pl.good] at hg
  obtain ⟨hd, hf, hex, hgl⟩ := hg
  rw [Pl.bnd] at hb
  obtain ⟨hbk, hbe, hbc, hbw, hbl⟩ := hb
  obtain ⟨hok, he4⟩ := formed_shape hf
  have ih' : ∀ x ∈ kids, JSp S x (d + 1) := fun x hx => ih x hx (Pl.bndL_mem hbl x hx) (d + 1) (Pl.goodL_mem hgl x hx)
  have hK2 : (k == 10) = true → kids.length = 2 := by
    intro h10
    obtain rfl : k = 10 := eq_of_beq h10
    have := (kinds hok)
    simp at this
    exact this.2
  have hK := spec110 S A nd k m kids ex cols wth agg rds hK2 hbk hS d hd hgl hnd hnA hA w hSh ih'
  have hrow := jdgK_rows S k nd kids w A
  have hLO := jdgK_ok hS (k := k) hd hgl hnd hnA hA hSh
  obtain ⟨l, w1, A1, hr⟩ : ∃ l w1 A1, jdgK S k kids nd w A = (l, w1, A1) := ⟨_, _, _, rfl⟩
  rw [hr] at hK hrow hLO
  simp only at hK hrow
  rcases kinds hok with ⟨rfl | rfl, hn⟩ | ⟨h348, hn⟩ | ⟨rfl, hn⟩ | ⟨h1, h2, h3, h4, h7, h8, hn, -⟩
  · have : jdg S (.mk 1 m kids ex cols wth agg rds) nd w A = (oneR S m, oneW S m w, A) := by rw [jdg]; rfl
    rw [this]
    exact spec59_1 S A nd m kids ex cols wth agg rds w
  · cases hm : decide (m < 0) with
    | true =>
      have : jdg S (.mk 2 m kids ex cols wth agg rds) nd w A = ([], unlessF w false 1, A) := by rw [jdg, hm]; rfl
      rw [this]
      exact spec59_2n S A nd m kids ex cols wth agg rds w hm
    | false =>
      have : jdg S (.mk 2 m kids ex cols wth agg rds) nd w A = (oneR (A.take nd) (varI nd m), oneW (A.take nd) (varI nd m) w, A) := by rw [jdg, hm]; rfl
      rw [this]
      exact spec59_2 S A nd m kids ex cols wth agg rds w hnA hm
  · have h1 : (k == 1) = false := by rcases h348 with rfl | rfl | rfl <;> rfl
    have h2 : (k == 2) = false := by rcases h348 with rfl | rfl | rfl <;> rfl
    rw [jdg_other S h1 h2 m kids ex cols wth agg rds nd w A hr]
    cases hw : (w1 != 0) with
    | true => exact spec59_err S A nd k m kids ex cols wth agg rds l h1 h2 w w1 A1 hK hw
    | false =>
      obtain ⟨o, rfl⟩ := one_of_len (hrow.trans hn)
      have h8 := (hLO (by simpa using hw)).2
      have ho := h8 o (by simp)
      simp only [Bool.false_eq_true, if_false]
      rcases h348 with rfl | rfl | rfl
      · exact spec59_3 S A nd m kids ex cols wth agg rds o ho hbe w w1 A1 hK hw
      · obtain ⟨e, rfl⟩ := one_of_len (he4 rfl)
        exact spec59_4 S A nd m kids e cols wth agg rds o ho w w1 A1 hK hw
      · exact spec59_8 S A nd m kids ex cols wth agg rds o ho hbc w w1 A1 hK hw
  · rw [jdg_other S rfl rfl m kids ex cols wth agg rds nd w A hr]
    cases hw : (w1 != 0) with
    | true => exact spec59_err S A nd 7 m kids ex cols wth agg rds l rfl rfl w w1 A1 hK hw
    | false =>
      obtain ⟨o1, o2, rfl⟩ := Flat.two_of_length (hrow.trans hn)
      have h8 := (hLO (by simpa using hw)).2
      simp only [Bool.false_eq_true, if_false]
      exact spec59_7 S A nd m kids ex cols wth agg rds o1 o2 (h8 o1 (by simp)) (h8 o2 (by simp)) hbc hbw w w1 A1 hK hw
  · rw [jdg_other S h1 h2 m kids ex cols wth agg rds nd w A hr]
    cases hw : (w1 != 0) with
    | true => exact spec59_err S A nd k m kids ex cols wth agg rds l h1 h2 w w1 A1 hK hw
    | false =>
      obtain ⟨o, q, rfl⟩ : ∃ o q, l = o :: q := by
        cases l with
        | nil => simp at hrow; omega
        | cons o q => exact ⟨o, q, rfl⟩
      have hl8 := (hLO (by simpa using hw)).2
      simp only [Bool.false_eq_true, if_false]
      have hfin : finJ k m ex cols wth agg (o :: q) w1 = (o, unlessF (unlessF w1 (!((o :: q).any (neS o))) 11) (decide ((o.length : Int) ≤ 8)) 2) := by
        simp only [finJ, finR, h3, h4, h7, h8, Bool.false_eq_true, if_false]
        rfl
      rw [hfin]
      exact spec59_d S A nd k m kids ex cols wth agg rds o q (by rw [hrow]; exact Bnd_lim hbk) hl8 h1 h2 h3 h4 h7 h8 w w1 A1 hK hw

end Go.Proofs
end
section
set_option linter.unusedVariables false
set_option linter.unusedSimpArgs false
namespace Go.Proofs
open Go.Flat
theorem inferP_zero {ss : List (List Int)} {p : Pl} (h : (inferP ss p).2 = 0) : checkSch ss = 0 ∧ checkP p = 0 ∧ (jdg ss p 0 0 []).2.1 = 0 ∧ (inferP ss p).1 = (jdg ss p 0 0 []).1 := by
  unfold inferP at h ⊢
  split at h
  · rename_i h1; simp only at h; simp [h] at h1
  · rename_i h1
    rw [if_neg h1]
    split at h
    · rename_i h2; simp only at h; simp [h] at h2
    · rename_i h2
      rw [if_neg h2]
      split at h
      · rename_i h3; simp only at h; simp [h] at h3
      · rename_i h3
        rw [if_neg h3]
        exact ⟨by simpa using h1, by simpa using h2, by simpa using h3, rfl⟩
end Go.Proofs
end
section
set_option linter.unusedVariables false
set_option linter.unusedSimpArgs false
namespace Go.Proofs
open Go.Flat
set_option linter.unusedSimpArgs false
set_option linter.unusedVariables false
theorem formed_kids {k m : Int} {nk : Nat} {ex : List E} {cols wth : List Int} {agg rds : Int} (h : formedP k m nk ex cols wth agg rds = true) : okP1 k nk = true := by
  have : okP2 k m nk ex cols wth agg rds = true := by
    unfold formedP at h
    split at h
    · simp only [Bool.and_eq_true] at h; exact h.1
    · split at h
      · simp only [Bool.and_eq_true] at h; exact h.1
      · split at h
        · simp only [Bool.and_eq_true] at h; exact h.1
        · exact h
  unfold okP2 at this
  simp only [Bool.and_eq_true] at this
  exact this.1
theorem formed_two {k m : Int} {nk : Nat} {ex : List E} {cols wth : List Int} {agg rds : Int} (h : formedP k m nk ex cols wth agg rds = true) (hk : (k == 10) = true) : nk = 2 := by
  have := formed_kids h
  have hk' : k = 10 := by simpa using hk
  subst hk'
  simp [okP1, manyP] at this
  omega
mutual
/-- Variables lead to loops around, sources to sources. -/
def Pl.sok : Pl → Nat → Prop
  | .mk k m kids _ _ _ _ _, n => (k = 1 → 0 ≤ m ∧ m < n) ∧ Pl.sokL kids n
def Pl.sokL : List Pl → Nat → Prop
  | [], _ => True
  | x :: r, n => x.sok n ∧ Pl.sokL r n
end
theorem offI_in {m : Int} {l : List (List Int)} (h : offI m l = false) : 0 ≤ m ∧ m < l.length := by
  simp [offI] at h
  omega
theorem oneW_in {l : List (List Int)} {i w : Int} (h : oneW l i w = 0) : offI i l = false := by
  unfold oneW at h
  split at h
  · exact absurd (unlessF_zero2 (by decide) h).2 (by decide)
  · rename_i hh; simpa using hh
theorem lpL_le {k : Int} : ∀ {l : List Pl} {i : Nat} {x : Pl}, x ∈ l → x.lp ≤ Pl.lpL k i l
  | e :: r, i, x, h => by
    rw [Pl.lpL]
    rcases List.mem_cons.1 h with rfl | h
    · omega
    · have := lpL_le (k := k) (i := i + 1) h; omega
/-- What the judge's silence says. -/
def Fine (S : List (List Int)) (p : Pl) : Prop := ∀ nd w A, nd + p.lp ≤ 2 → nd ≤ A.length → (jdg S p nd w A).2.1 = 0 → p.vok nd ∧ p.sok S.length
theorem jdgL_fine {S : List (List Int)} : ∀ {l : List Pl}, (∀ x ∈ l, Fine S x) → ∀ nd w A, (∀ x ∈ l, nd + x.lp ≤ 2) → nd ≤ A.length → (jdgL S l nd w A).2.1 = 0 → Pl.vokL l nd ∧ Pl.sokL l S.length
  | [], ih, nd, w, A, h1, h2, h => by simp [Pl.vokL, Pl.sokL]
  | x :: r, ih, nd, w, A, h1, h2, h => by
    simp only [jdgL] at h
    have hz := jdgL_zero h
    have hx := ih x (by simp) nd w A (h1 x (by simp)) h2 hz
    have hs := jdg_stk S x nd w A h2
    have hr := jdgL_fine (fun y hy => ih y (by simp [hy])) nd _ _ (fun y hy => h1 y (by simp [hy])) (Nat.le_trans h2 hs.1) h
    rw [Pl.vokL, Pl.sokL]
    exact ⟨⟨hx.1, hr.1⟩, hx.2, hr.2⟩
theorem jdg_fine (S : List (List Int)) : ∀ p : Pl, p.gd → Fine S p := by
  refine Pl.ind fun k m kids ex cols wth agg rds ih hg nd w A h1 h2 h => ?_
  rw [Pl.gd] at hg
  obtain ⟨hf, -, hgl⟩ := hg
  have ih' : ∀ x ∈ kids, Fine S x := fun x hx => ih x hx (Pl.gdL_mem hgl x hx)
  rw [Pl.vok, Pl.sok]
  rw [Pl.lp] at h1
  rw [jdg] at h
  split at h
  · rename_i hk
    have hk' : k = 1 := by simpa using hk
    subst hk'
    have hkids : kids = [] := by
      have := formed_kids hf
      simpa [okP1, manyP] using this
    subst hkids
    have hin := offI_in (oneW_in h)
    exact ⟨⟨fun h => absurd h (by decide), by simp [Pl.vokL]⟩, fun _ => hin, by simp [Pl.sokL]⟩
  · rename_i hk1
    split at h
    · rename_i hk
      have hk' : k = 2 := by simpa using hk
      subst hk'
      have hkids : kids = [] := by
        have := formed_kids hf
        simpa [okP1, manyP] using this
      subst hkids
      refine ⟨⟨fun _ => ?_, by simp [Pl.vokL]⟩, fun h => absurd h (by decide), by simp [Pl.sokL]⟩
      split at h
      · exact absurd (unlessF_zero2 (by decide) h).2 (by decide)
      · have hin := offI_in (oneW_in h)
        have hl : (A.take nd).length = nd := by simp; omega
        rw [hl] at hin
        exact hin
    · rename_i hk2
      have hr0 : (if k == 10 then jdgI S kids nd w A else jdgL S kids nd w A).2.1 = 0 := by
        generalize (if k == 10 then jdgI S kids nd w A else jdgL S kids nd w A) = r at h
        simp only at h
        split at h
        · rename_i hr
          simp only at h
          simp [h] at hr
        · rename_i hr
          simpa using hr
      have hk2' : k = 2 → 0 ≤ varI nd m ∧ varI nd m < nd := fun e => absurd (by simp [e]) hk2
      have hk1' : k = 1 → 0 ≤ m ∧ m < S.length := fun e => absurd (by simp [e]) hk1
      by_cases hk : (k == 10) = true
      · have h2l := formed_two hf hk
        have hk' : k = 10 := by simpa using hk
        subst hk'
        match kids, h2l with
        | [x, y], _ =>
        simp only [Pl.lpL, morN] at h1
        simp at h1
        simp only [beq_self_eq_true, if_true] at hr0 ⊢
        simp only [jdgI, jdgL] at hr0
        have hx0 := jdg_zero hr0
        have hs := jdg_stk S x nd w A h2
        have hx := ih' x (by simp) nd w A (by omega) h2 hx0
        have hpl := pushA_len (jdg S x nd w A).1 (Nat.le_trans h2 hs.1)
        have hy := ih' y (by simp) (nd + 1) _ _ (by omega) (by rw [hpl]; omega) hr0
        simp only [Pl.vokI, Pl.vokL, Pl.sokL]
        exact ⟨⟨hk2', by omega, hx.1, hy.1, trivial⟩, hk1', hx.2, hy.2, trivial⟩
      · rw [if_neg hk] at hr0 ⊢
        have hl := jdgL_fine ih' nd w A (fun x hx => by have := lpL_le (k := k) (i := 0) hx; omega) h2 hr0
        exact ⟨⟨hk2', hl.1⟩, hk1', hl.2⟩
/-- What a schema says of a plan. -/
theorem infer_fine {ss : List (List Int)} {p : Pl} (hs : p.size ≤ 2 ^ 40) (h : (inferP ss p).2 = 0) : p.fits ∧ p.vok 0 ∧ p.sok 8 := by
  obtain ⟨h1, h2, h3, _⟩ := inferP_zero h
  have hf := (checkP_iff hs).1 h2
  have := jdg_fine ss p hf.1 0 0 [] (by have := hf.2.2.2; omega) (by simp) h3
  have hl := (checkSch_ok h1).1
  refine ⟨hf, this.1, ?_⟩
  have mono : ∀ q : Pl, ∀ n n' : Nat, n ≤ n' → q.sok n → q.sok n' := by
    refine Pl.ind fun k m kids ex cols wth agg rds ih n n' hn hq => ?_
    rw [Pl.sok] at hq ⊢
    refine ⟨fun e => by have := hq.1 e; omega, ?_⟩
    have hL := hq.2
    clear hq
    induction kids with
    | nil => simp [Pl.sokL]
    | cons x r ihr =>
      rw [Pl.sokL] at hL ⊢
      exact ⟨ih x (by simp) n n' hn hL.1, ihr (fun y hy => ih y (by simp [hy])) hL.2⟩
  exact mono p _ 8 hl this.2
end Go.Proofs
end
section
set_option linter.unusedVariables false
set_option linter.unusedSimpArgs false
namespace Go.Proofs
open Go.Flat
set_option linter.unusedSimpArgs false
set_option linter.unusedVariables false
theorem pushG_irow (A : List Int) (nd : Nat) (x : Int) : (pushG A nd x).map irow = (A.map irow).take nd ++ [.v (.int .i64 x)] :: (A.map irow).drop (nd + 1) := by
  simp [pushG, irow]
theorem spec67 : ∀ p : Pl, p.bnd → p.gd → GSp p := by
  refine Pl.ind fun k m kids ex cols wth agg rds ih hb hg to nd s hv hrm => ?_
  obtain ⟨ns, A⟩ := s
  rw [Pl.bnd] at hb
  rw [Pl.gd] at hg
  obtain ⟨hbk, hbe, hbc, hbw, hbl⟩ := hb
  obtain ⟨hf, hge, hgl⟩ := hg
  rw [Pl.size] at hrm
  have ih' : ∀ x ∈ kids, GSp x := fun x hx => ih x hx (Pl.bndL_mem hbl x hx) (Pl.gdL_mem hgl x hx)
  have hv0 := hv
  rw [Pl.vok] at hv
  have hns : ns.length ≤ 200 := by have := hrm.len; simp only at this; omega
  have hnd := hrm.dep
  have haln := hrm.aln
  simp only at hnd haln
  rw [bld]
  by_cases h1 : (k == 1) = true
  · obtain rfl : k = 1 := by simpa using h1
    exact spec67_1 ns nd A m kids ex cols wth agg rds to (by omega) hnd
  · rw [if_neg h1]
    by_cases h2 : (k == 2) = true
    · obtain rfl : k = 2 := by simpa using h2
      rw [if_pos h2]
      obtain ⟨hv1, hv2⟩ := hv.1 rfl
      obtain ⟨j, hj⟩ := Int.eq_ofNat_of_zero_le hv1
      have hjn : j < nd := by rw [hj] at hv2; omega
      have hjA : j < A.length := by omega
      have hgA : A[j]? = some A[j] := by simp [hjA]
      have hmem : A[j] ∈ A.take nd := List.mem_iff_getElem?.2 ⟨j, by rw [List.getElem?_take, if_pos hjn]; exact hgA⟩
      obtain ⟨ha0, ha1⟩ := hrm.ard _ hmem
      simp only at ha1
      obtain ⟨i, hi⟩ := Int.eq_ofNat_of_zero_le ha0
      have hin : i < ns.length := by rw [hi] at ha1; omega
      have hgi : ns[i]? = some ns[i] := by simp [hin]
      have hxb := hrm.back ns[i] (List.getElem_mem hin)
      have hvj : varJ A nd m = i := by
        unfold varJ
        rw [hj]
        simp only [Int.ofNat_eq_natCast, Int.toNat_natCast, List.getD_eq_getElem?_getD, hgA, Option.getD_some, hi]
      rw [hvj]
      obtain ⟨x, hx⟩ : ∃ x, ns[i] = x := ⟨_, rfl⟩
      rw [hx] at hgi hxb
      obtain ⟨xk, ⟨pk, pn, pq, pe, pc, pw, pa, pg⟩, xn, xl, xr, xt, xb⟩ := x
      refine spec67_2 ns nd A m kids ex cols wth agg rds to (by omega) hnd (by omega) j hjn ?_ i (by rw [hgA, hi]) xk pk pn pq pe pc pw pa pg xn xl xr xt xb hgi (by simp only at hxb; omega)
      have hw : IntKind.i64.wrap ((nd : Int) - 1) = (nd : Int) - 1 := by rw [w64]; omega
      rw [← hw]
      exact hj
    · rw [if_neg h2]
      by_cases h10 : (k == 10) = true
      · obtain rfl : k = 10 := by simpa using h10
        rw [if_pos h10]
        have h2l := formed_two hf h10
        obtain ⟨-, hvI⟩ := hv
        rw [if_pos h10] at hvI
        obtain ⟨hn1, hvI⟩ := hvI
        match kids, h2l, hvI, ih', hrm with
        | [x, y], _, hvI, ih', hrm =>
        simp only [Pl.vokI, Pl.vokL] at hvI
        simp only [Pl.sizeL] at hrm
        obtain ⟨hvx, hvy, -⟩ := hvI
        have hg0 : Gw (ns, A) (ns ++ [loopN nd rds ns.length] ++ [leaveN nd rds to], A) nd 1 := by
          refine ⟨by simp, by simp, fun z hz => ?_, rfl, Nat.le_refl _, id⟩
          simp only [List.append_assoc, List.mem_append, List.mem_cons, List.not_mem_nil, or_false] at hz
          rcases hz with hz | hz | hz
          · exact .inr ⟨z, hz, by omega⟩
          · subst hz; exact .inl (by simp [loopN])
          · subst hz; exact .inl (by simp [leaveN])
        have hr0 := hg0.rm (d := x.size + (y.size + 0)) hrm
        have hgx := bld_gw x ⟨(ns.length : Int), 0⟩ nd _ hvx (Nat.le_trans hnd hg0.aln)
        have hr1 := hgx.rm (d := y.size + 0) hr0
        have hx := ih' x (by simp) ⟨(ns.length : Int), 0⟩ nd _ hvx (hr0.less (by omega))
        generalize hb1 : bld x ⟨(ns.length : Int), 0⟩ nd (ns ++ [loopN nd rds ns.length] ++ [leaveN nd rds to], A) = b1 at hx hgx hr1
        obtain ⟨ns2, A2⟩ := b1
        have hd2 := hr1.dep
        have hal2 := hr1.aln
        simp only at hd2 hal2 hx
        have hpl := pushG_len (ns.length : Int) hd2
        have hr2 : Rm (ns2, pushG A2 nd ns.length) (nd + 1) (y.size + 0) := by
          refine ⟨hr1.len, hr1.back, by simp only [hpl]; omega, by simp only [hpl]; omega, fun a ha => ?_⟩
          simp only at ha ⊢
          rw [take_pushG' _ hd2] at ha
          rcases List.mem_append.1 ha with ha | ha
          · exact hr1.ard a ha
          · simp only [List.mem_singleton] at ha
            subst ha
            have := hgx.len
            simp at this
            omega
        have hgy := bld_gw y ⟨(ns.length : Int), 1⟩ (nd + 1) _ hvy hr2.dep
        have hy := ih' y (by simp) ⟨(ns.length : Int), 1⟩ (nd + 1) _ hvy (hr2.less (by omega))
        have hbI : bldI [x, y] ns.length nd (ns ++ [loopN nd rds ns.length] ++ [leaveN nd rds to], A) = bld y ⟨(ns.length : Int), 1⟩ (nd + 1) (ns2, pushG A2 nd ns.length) := by
          simp only [bldI, bldL, hb1, if_true]
          rfl
        simp only [hbI]
        generalize bld y ⟨(ns.length : Int), 1⟩ (nd + 1) (ns2, pushG A2 nd ns.length) = b3 at hy hgy
        obtain ⟨ns3, A3⟩ := b3
        have e1 := hgx.len
        have e2 := hgy.len
        simp at e1 e2
        obtain ⟨xk, xn, xq, xe, xc, xw, xa, xr⟩ := x
        obtain ⟨yk, yn, yq, ye, yc, yw, ya, yr⟩ := y
        refine spec67_10 ns nd A m _ ex cols wth agg rds to (ns3, A3) (by simp only; omega) ?_
        rcases Nat.lt_or_eq_of_le hd2 with hlt | heq
        · exact spec122_1 ns ns2 ns3 nd A A2 (pushG A2 nd ns.length) A3 m ex cols wth agg rds to xk xn xq xe xc xw xa xr yk yn yq ye yc yw ya yr (by omega) (by omega) e2 hnd (by omega) (by omega) hlt (by rw [hpl]; omega) (pushG_irow ..).symm hx hy
        · subst heq
          exact spec122_0 ns ns2 ns3 A A2 (pushG A2 A2.length ns.length) A3 m ex cols wth agg rds to xk xn xq xe xc xw xa xr yk yn yq ye yc yw ya yr (by omega) (by omega) e2 hnd (by omega) (by omega) (by rw [hpl]; omega) (by rw [pushG_irow, List.take_of_length_le (by simp), List.drop_eq_nil_of_le (by simp)]) hx hy
      · rw [if_neg h10]
        obtain ⟨-, hvL⟩ := hv
        rw [if_neg h10] at hvL
        have hkl : kids.length ≤ 300 := by
          have hle : ∀ l : List Pl, l.length ≤ Pl.sizeL l := by
            intro l
            induction l with
            | nil => simp
            | cons z r ihr => obtain ⟨zk, zn, zq, ze, zc, zw, za, zr⟩ := z; simp only [List.length_cons, Pl.sizeL, Pl.size]; omega
          have := hle kids
          have := hrm.len
          simp only at this
          omega
        exact spec67_d ns nd A k m kids ex cols wth agg rds to (by simpa using h1) (by simpa using h2) (by simpa using h10) hbe hbc hbw (fun e he => checkE_good (hge e he)) hkl hvL hrm ih'
end Go.Proofs
end
section
set_option linter.unusedVariables false
set_option linter.unusedSimpArgs false
namespace Go.Proofs
open Go.Flat
set_option maxRecDepth 100000
set_option linter.unusedSimpArgs false
set_option linter.unusedVariables false
attribute [local simp] Bool.and_assoc Bool.or_assoc evalG evalX efD skF guardG guardL isCall stepL evalOp ev evs lk tmpsL app AV.ok fresh vv putCells insV ins del putL place Go.Flat.look fillC fillR getCells loadF storeF binF scalarBin intBin strBin isShift shiftBin unF lenF maxF minF rowsF appendF builtinF idxF natOf sliceP sliceF optEv Flat.cut overwrite toPV toPVs constAV scalarC scalarCs AV.cells TI.isAgg allSome andAll scalarEq buildable Go.Flat.lim retQ resL resAll resOne PartOf noTmp closedIn refs refs.refsL isSomeV hasB ids leA leA.leL renA renA.renL callB refsAll backL dropIds renS LiesAt injB ownB freshB memN locId insAll leA_refl leL_refl okS frzS frzA frzA.frzL evalD feet fine updCells cellsFrom memP footRf footWf noTmpU updIds opOps opIds idsA footR footW guardTs opTs dstTs callR callW renLoc renC inBlockQ thenQ Value.oneCell' IntKind.bits IntKind.signed PV.up toPH toPHs

attribute [local simp] Pl.row_eq Pl.av
/-- What building a plan's nodes does, by the document. -/
def GSq (p : Pl) : Prop := ∀ (to : Prt) (nd : Nat) (s : BR), p.vok nd → Rm s nd p.size → Flat.Sp Try.prog 69 [.sl 0 s.1.length 0 s.1.length, p.av, .agg [vv (.int .i64 to.a), vv (.int .i64 to.b)], .p (.ps ((s.2.take nd).map irow))] [(.arr 0, .arr 75 14 (s.1.map Nd.row) 0)] (.sl 0 (bld p to nd s).1.length 0 (bld p to nd s).1.length) [(.arr 0, .arr 75 14 ((bld p to nd s).1.map Nd.row) 0)]

attribute [local simp] prow planN Nd.row in
set_option maxHeartbeats 4000000 in
theorem spec69_d (ns : List Nd) (ar : List Int) (nd : Nat) (A : List Int) (har : A.take nd = ar) (k : Int) (m : Int) (kids : List Pl) (ex : List E) (cols wth : List Int) (agg rds : Int) (to : Prt) (h1 : (k == 1) = false) (h2 : (k == 2) = false) (h10 : (k == 10) = false) (h127 : Flat.Sp Try.prog 127 [(Pl.mk k m kids ex cols wth agg rds).av] [] ((Pl.mk k m [] ex cols wth agg rds).av) []) (hkl : kids.length ≤ 300) (hv : Pl.vokL kids nd) (hrm : Rm (ns, A) nd (1 + Pl.sizeL kids)) (ih : ∀ x ∈ kids, GSq x) : Flat.Sp Try.prog 69 [.sl 0 ns.length 0 ns.length, (Pl.mk k m kids ex cols wth agg rds).av, .agg [vv (.int .i64 to.a), vv (.int .i64 to.b)], .p (.ps (ar.map irow))] [(.arr 0, .arr 75 14 (ns.map Nd.row) 0)] (.sl 0 (bldL kids (k == 7) ns.length 0 nd (ns ++ [planN (.mk k m [] ex cols wth agg rds) to], A)).1.length 0 (bldL kids (k == 7) ns.length 0 nd (ns ++ [planN (.mk k m [] ex cols wth agg rds) to], A)).1.length) [(.arr 0, .arr 75 14 ((bldL kids (k == 7) ns.length 0 nd (ns ++ [planN (.mk k m [] ex cols wth agg rds) to], A)).1.map Nd.row) 0)] := by
  refine sk Try.func69 ?_
  intro F G hn hG
  have hns : ns.length ≤ 300 := by have := hrm.len; simp only at this; omega
  have hnd : nd ≤ A.length := hrm.dep
  have hkl2 : kids.length ≤ Flat.lim := by simp only [Flat.lim]; omega
  have hwn : IntKind.i64.wrap (ns.length : Int) = ns.length := Flat.wrap_small (by simp only [Flat.lim]; omega)
  have hq1 : (ns.length + 1) * 208 ≤ 140737488355328 := by omega
  have hq2 : ns.length + 1 ≤ 140737488355328 := by omega
  have hgwS : ∀ i, Gw (ns, A) (bldL (kids.take i) (k == 7) ns.length 0 nd (ns ++ [planN (.mk k m [] ex cols wth agg rds) to], A)) nd (1 + Pl.sizeL (kids.take i)) := fun i => (Gw.snoc (ns, A) (planN (.mk k m [] ex cols wth agg rds) to) nd rfl).trans (bldL_gw (kids.take i) _ _ 0 nd _ (Pl.vokL_of fun y hy => Pl.vokL_mem hv y (List.mem_of_mem_take hy)) hnd)
  refine sq ?_
  refine rg 1000 ?_
  refine pr [0, 1, 3, 4, 5, 7, 8, 130] ?_
  refine sq ?_
  refine rg 2000 ?_
  refine pr [0, 1, 3, 4, 5, 7, 8, 14, 16, 130] ?_
  refine sq ?_
  refine sq ?_
  refine rg 3000 ?_
  refine pr [0, 1, 3, 4, 5, 7, 8, 14, 17, 130] ?_
  refine k_block ?_
  refine sq ?_
  refine rg 4000 ?_
  refine pr [0, 1, 3, 4, 5, 7, 8, 14, 17, 19, 20, 130] ?_
  refine ce ?_
  refine sq ?_
  refine rg 6000 ?_
  refine pr [0, 1, 3, 4, 5, 7, 8, 14, 17, 18, 28, 29, 30, 130] ?_
  refine ce ?_
  refine sq ?_
  refine rg 10000 ?_
  refine pr [0, 1, 3, 4, 5, 7, 8, 10, 11, 14, 54, 55, 56, 130] ?_
  refine ce ?_
  refine k_skip ?_
  refine k_nil ?_
  show AK _ _ _ _ _ _
  refine sq ?_
  refine dr ?_
  refine de 15000 ?_
  refine dc id (h127) ?_
  refine de 15100 ?_
  refine dn ?_
  refine pr [0, 1, 3, 4, 5, 6, 8, 10, 11, 14, 109, 130] ?_
  refine sq ?_
  refine sq ?_
  refine rg 16000 ?_
  refine pr [0, 1, 3, 4, 5, 6, 8, 10, 11, 14, 110, 130] ?_
  refine k_block ?_
  refine k_loop (fun n l => ∃ i, i + n = kids.length ∧ l = [(.tmp 0, .av (.sl 0 (bldL (kids.take i) (k == 7) ns.length 0 nd (ns ++ [planN (.mk k m [] ex cols wth agg rds) to], A)).1.length 0 (bldL (kids.take i) (k == 7) ns.length 0 nd (ns ++ [planN (.mk k m [] ex cols wth agg rds) to], A)).1.length)), (.tmp 3, .av (.p (.ps (ar.map irow)))), (.tmp 5, .av (.ptr 1000 0)), (.tmp 9, .av (vv (.int .i64 ns.length))), (.tmp 110, .av (.p (.ps (kids.map Pl.row)))), (.tmp 111, .av (vv (.int .i64 kids.length))), (.tmp 112, .av (vv (.int .i64 i))), (.arr 0, .arr 75 14 ((bldL (kids.take i) (k == 7) ns.length 0 nd (ns ++ [planN (.mk k m [] ex cols wth agg rds) to], A)).1.map Nd.row) 0), (.var 1000, .n 8), (.cell 1000 0, .av (vv (.int .u8 k))), (.cell 1000 1, .av (vv (.int .i64 m))), (.cell 1000 2, .av (.p (.ps (kids.map Pl.row)))), (.cell 1000 3, .av (.p (.ps (ex.map E.row)))), (.cell 1000 4, .av (.p (.ps (cols.map irow)))), (.cell 1000 5, .av (.p (.ps (wth.map irow)))), (.cell 1000 6, .av (vv (.int .u8 agg))), (.cell 1000 7, .av (vv (.int .i64 rds))), (.var 1001, .n 2), (.cell 1001 0, .av (vv (.int .i64 to.a))), (.cell 1001 1, .av (vv (.int .i64 to.b)))]) (kids.length) hG ⟨_, ⟨by simp [bldL], by simp [bldL], by simp [bldL]⟩, 0, by simp, rfl⟩ ?_
  rintro n _ ⟨i, hin, rfl⟩
  refine sq ?_
  refine rg 17000 ?_
  refine pr [0, 1, 3, 4, 5, 6, 8, 10, 11, 14, 110, 130] ?_
  refine sq ?_
  refine cd ?_ ?_
  · intro h113_1
    have hlt : i < kids.length := by simpa using h113_1
    obtain ⟨x, hxe⟩ : ∃ x, kids[i] = x := ⟨_, rfl⟩
    have hx : kids[i]? = some x := by simp [hlt, hxe]
    have hw := wrap_succ (show i < Flat.lim by omega)
    have hmem := List.mem_of_getElem? hx
    have hvx := Pl.vokL_mem hv x hmem
    have hgr := hgwS i
    have hrx : Rm (bldL (kids.take i) (k == 7) ns.length 0 nd (ns ++ [planN (.mk k m [] ex cols wth agg rds) to], A)) nd x.size := hgr.rm (hrm.less (by have := sizeL_take hx; omega))
    have hta : (bldL (kids.take i) (k == 7) ns.length 0 nd (ns ++ [planN (.mk k m [] ex cols wth agg rds) to], A)).2.take nd = ar := hgr.take.trans har
    have hsx := ih x hmem ⟨(ns.length : Int), if (k == 7) = true then (i : Int) else 0⟩ nd (bldL (kids.take i) (k == 7) ns.length 0 nd (ns ++ [planN (.mk k m [] ex cols wth agg rds) to], A)) hvx hrx
    rw [hta] at hsx
    clear hrx hgr hta
    obtain ⟨xk, xn, xq, xe, xc, xw, xa, xr⟩ := x
    refine k_skip ?_
    refine sq ?_
    refine k_block ?_
    refine sq ?_
    refine rg 18000 ?_ (h := by simp [*, Pl.row_eq]; exact is_rfl _)
    refine pr [0, 1, 3, 4, 5, 6, 8, 10, 11, 14, 110, 130] ?_
    refine sq ?_
    refine rg 19000 ?_
    refine pr [0, 1, 3, 4, 5, 6, 8, 10, 11, 14, 110, 130] ?_
    refine sq ?_
    refine sq ?_
    refine rg 20000 ?_
    refine pr [0, 1, 3, 4, 5, 6, 8, 10, 11, 14, 110, 130] ?_
    refine cd ?_ ?_
    · intro h119_2
      have h7 : (k == 7) = true := by simpa using h119_2
      simp only [h7, if_true] at hsx
      refine rg 21000 ?_
      refine pr [0, 1, 3, 4, 5, 6, 8, 10, 11, 14, 110, 130] ?_
      refine rc 22000 ?_
      refine oc (id) (hsx) ?_
      refine oe 22100 ?_
      refine on ?_
      refine k_nil ?_
      show AK _ _ _ _ _ _
      refine rg 23000 ?_
      refine k_nil ?_
      refine ⟨n - 1, by omega, _, ⟨?_, ?_, ?_⟩, i + 1, by omega, rfl⟩ <;> simp [*, bldL_take hx]
    · intro h119_2
      have h7 : (k == 7) = false := by simpa using h119_2
      simp only [h7, Bool.false_eq_true, if_false] at hsx
      refine k_skip ?_
      refine rc 22000 ?_
      refine oc (id) (hsx) ?_
      refine oe 22100 ?_
      refine on ?_
      refine k_nil ?_
      show AK _ _ _ _ _ _
      refine rg 23000 ?_
      refine k_nil ?_
      refine ⟨n - 1, by omega, _, ⟨?_, ?_, ?_⟩, i + 1, by omega, rfl⟩ <;> simp [*, bldL_take hx]
  · intro h113_1
    have hge : kids.length ≤ i := by simpa using h113_1
    obtain rfl : i = kids.length := by omega
    have htk : kids.take kids.length = kids := List.take_length
    refine k_exit ?_
    show AK _ _ _ _ _ _
    refine sq ?_
    refine rg 24000 ?_
    refine pr [8, 9] ?_
    refine k_ret ?_
    show retQ _ _ _ _ _ _ _
    simp [*]

end Go.Proofs
end
section
set_option linter.unusedVariables false
set_option linter.unusedSimpArgs false
namespace Go.Proofs
open Go.Flat
set_option maxRecDepth 100000
set_option linter.unusedSimpArgs false
set_option linter.unusedVariables false
attribute [local simp] Bool.and_assoc Bool.or_assoc evalG evalX efD skF guardG guardL isCall stepL evalOp ev evs lk tmpsL app AV.ok fresh vv putCells insV ins del putL place Go.Flat.look fillC fillR getCells loadF storeF binF scalarBin intBin strBin isShift shiftBin unF lenF maxF minF rowsF appendF builtinF idxF natOf sliceP sliceF optEv Flat.cut overwrite toPV toPVs constAV scalarC scalarCs AV.cells TI.isAgg allSome andAll scalarEq buildable Go.Flat.lim retQ resL resAll resOne PartOf noTmp closedIn refs refs.refsL isSomeV hasB ids leA leA.leL renA renA.renL callB refsAll backL dropIds renS LiesAt injB ownB freshB memN locId insAll leA_refl leL_refl okS frzS frzA frzA.frzL evalD feet fine updCells cellsFrom memP footRf footWf noTmpU updIds opOps opIds idsA footR footW guardTs opTs dstTs callR callW renLoc renC inBlockQ thenQ Value.oneCell' IntKind.bits IntKind.signed callWk without

attribute [local simp] Pl.av inferP in
theorem spec29_mk (k m : Int) (kids : List Pl) (ex : List E) (cols wth : List Int) (agg rds : Int) (hb : (Pl.mk k m kids ex cols wth agg rds).bnd) (ss : List (List Int)) : Flat.Sp Try.prog 29 [(Pl.mk k m kids ex cols wth agg rds).av, .p (.ps (ss.map srow))] [] (.tup [.p (.ps ((inferP ss (Pl.mk k m kids ex cols wth agg rds)).1.map trow)), vv (.int .i64 (inferP ss (Pl.mk k m kids ex cols wth agg rds)).2)]) [] := by
  refine sk Try.func29 ?_
  intro F G hn hG
  refine sq ?_
  refine rg 1000 ?_
  refine pr [1, 3, 4, 39] ?_
  refine sq ?_
  refine sq ?_
  refine rc 2000 ?_
  refine oc id (spec30 ss) ?_
  refine oe 2100 ?_
  refine on ?_
  refine pr [1, 3, 4, 10, 12, 39] ?_
  refine sq ?_
  refine rg 3000 ?_
  refine pr [1, 3, 4, 10, 13, 39] ?_
  refine cd ?_ ?_
  · intro h13_1
    have h13_1 : (checkSch ss != 0) = true := by simpa using h13_1
    refine sq ?_
    refine rg 4000 ?_
    refine pr [1, 3, 4, 6, 7, 10, 15, 39] ?_
    refine k_ret ?_
    show retQ _ _ _ _ _ _ _
    simp [*]
  · intro h13_1
    have h13_1 : (checkSch ss != 0) = false := by simpa using h13_1
    have hsc := h13_1
    refine k_skip ?_
    refine sq ?_
    refine sq ?_
    refine rc 5000 ?_
    refine oc id (spec32 k m kids ex cols wth agg rds hb) ?_
    refine oe 5100 ?_
    refine on ?_
    refine pr [1, 3, 4, 6, 7, 10, 17, 39] ?_
    refine sq ?_
    refine rg 6000 ?_
    refine pr [1, 3, 4, 6, 7, 10, 18, 39] ?_
    refine cd ?_ ?_
    · intro h18_2
      have h18_2 : (checkP (Pl.mk k m kids ex cols wth agg rds) != 0) = true := by simpa using h18_2
      refine sq ?_
      refine rg 7000 ?_
      refine pr [1, 3, 4, 6, 8, 10, 20, 39] ?_
      refine k_ret ?_
      show retQ _ _ _ _ _ _ _
      simp [*]
    · intro h18_2
      have h18_2 : (checkP (Pl.mk k m kids ex cols wth agg rds) != 0) = false := by simpa using h18_2
      have hpc := h18_2
      refine k_skip ?_
      refine sq ?_
      refine rg 8000 ?_
      refine pr [2, 3, 4, 6, 8, 10, 23, 39] ?_
      refine ow (.cell 8002 2) 8900 45 1 ?_
      refine sq ?_
      refine rc 9000 ?_
      refine oc (fun k => if k = 0 then 8002 else if k = 1 then 8900 else k) (spec59 ss (checkSch_ok (by simpa using hsc)).2 (Pl.mk k m kids ex cols wth agg rds) hb 1 (checkP_good (by simpa using hpc)) 0 0 [] (by decide) (by decide) (by decide) (fun _ s hs => by simp at hs)) ?_
      refine oe 9100 ?_
      refine on ?_
      refine pr [4, 6, 8, 10, 26, 39] ?_
      refine sq ?_
      refine sq ?_
      refine rg 10000 ?_
      refine pr [4, 6, 8, 10, 31, 39] ?_
      refine cd ?_ ?_
      · intro h31_3
        have h31_3 : ((jdg ss (Pl.mk k m kids ex cols wth agg rds) 0 0 []).2.1 != 0) = true := by simpa using h31_3
        refine sq ?_
        refine dr ?_
        refine de 11000 ?_
        refine dn ?_
        refine pr [4, 6, 9, 10, 37, 39] ?_
        refine k_ret ?_
        show retQ _ _ _ _ _ _ _
        simp [*]
      · intro h31_3
        have h31_3 : ((jdg ss (Pl.mk k m kids ex cols wth agg rds) 0 0 []).2.1 != 0) = false := by simpa using h31_3
        have hl8 : (jdg ss (Pl.mk k m kids ex cols wth agg rds) 0 0 []).1.length ≤ Bnd := Nat.le_trans (jdg_ok (checkSch_ok (by simpa using hsc)).2 (Pl.mk k m kids ex cols wth agg rds) 1 (checkP_good (by simpa using hpc)) 0 0 [] (by decide) (by decide) (by decide) (fun _ s hs => by simp at hs) (by simpa using h31_3)).2 (by simp [Bnd])
        refine k_skip ?_
        refine sq ?_
        refine rc 12000 ?_
        refine oc id (spec60 (jdg ss (Pl.mk k m kids ex cols wth agg rds) 0 0 []).1 hl8) ?_
        refine oe 12100 ?_
        refine on ?_
        refine pr [4, 6] ?_
        refine k_ret ?_
        show retQ _ _ _ _ _ _ _
        simp [*]

end Go.Proofs
end
section
set_option linter.unusedVariables false
set_option linter.unusedSimpArgs false
namespace Go.Proofs
open Go.Flat
set_option maxRecDepth 100000
set_option linter.unusedSimpArgs false
set_option linter.unusedVariables false
attribute [local simp] Bool.and_assoc Bool.or_assoc evalG evalX efD skF guardG guardL isCall stepL evalOp ev evs lk tmpsL app AV.ok fresh vv putCells insV ins del putL place Go.Flat.look fillC fillR getCells loadF storeF binF scalarBin intBin strBin isShift shiftBin unF lenF maxF minF rowsF appendF builtinF idxF natOf sliceP sliceF optEv Flat.cut overwrite toPV toPVs constAV scalarC scalarCs AV.cells TI.isAgg allSome andAll scalarEq buildable Go.Flat.lim retQ resL resAll resOne PartOf noTmp closedIn refs refs.refsL isSomeV hasB ids leA leA.leL renA renA.renL callB refsAll backL dropIds renS LiesAt injB ownB freshB memN locId insAll leA_refl leL_refl okS frzS frzA frzA.frzL evalD feet fine updCells cellsFrom memP footRf footWf noTmpU updIds opOps opIds idsA footR footW guardTs opTs dstTs callR callW renLoc renC inBlockQ thenQ Value.oneCell' IntKind.bits IntKind.signed PV.up toPH toPHs

def outN : Nd := ⟨5, .zero, 0, 0, 0, [], []⟩
/-- A query's nodes, and what is wrong. -/
def bldG (ss : List (List Int)) (p : Pl) : List Nd × Int := if (inferP ss p).2 != 0 then ([], (inferP ss p).2) else ((bld p ⟨0, 0⟩ 0 ([outN], [])).1, 0)
theorem rm0 {p : Pl} (h : p.size ≤ 64) : Rm ([outN], []) 0 p.size := ⟨by simp; omega, by simp [outN]; omega, by simp, by simp, by simp⟩
@[simp] theorem famOK_nil {s : List (Flat.Loc × C)} {i : Nat} : famOK s i [] = true := by simp [famOK]
attribute [local simp] GS Pl.av

theorem spec66_o : Flat.Sp Try.prog 66 [.ptr 3 0, .agg [vv (.int .u8 5), vv (.int .u8 0), vv (.int .i64 0), .p (.ps []), .p (.ps []), .p (.ps []), .p (.ps []), vv (.int .u8 0), vv (.int .i64 0), vv (.int .i64 0), vv (.int .i64 0), vv (.int .i64 0), .psf [], .psf []], .p (.ps [])] (GS [] 0 []) (vv (.int .i64 0)) (GS [outN] 0 []) := spec66 [] 0 [] 5 0 0 [] [] [] [] 0 0 0 0 0 [] (by simp) (by simp) (by simp)

theorem spec34_mk (k m : Int) (kids : List Pl) (ex : List E) (cols wth : List Int) (agg rds : Int) (ss : List (List Int)) (hb : (Pl.mk k m kids ex cols wth agg rds).bnd) (hs : (Pl.mk k m kids ex cols wth agg rds).size ≤ 2 ^ 40) : Flat.Sp Try.prog 34 [(Pl.mk k m kids ex cols wth agg rds).av, .p (.ps (ss.map srow))] [] (.tup [.p (.ps ((bldG ss (Pl.mk k m kids ex cols wth agg rds)).1.map Nd.row)), vv (.int .i64 (bldG ss (Pl.mk k m kids ex cols wth agg rds)).2)]) [] := by
  refine sk Try.func34 ?_
  intro F G hn hG
  have hfin : (inferP ss (Pl.mk k m kids ex cols wth agg rds)).2 = 0 → Flat.Sp Try.prog 67 [.ptr 3 0, (Pl.mk k m kids ex cols wth agg rds).av, .agg [vv (.int .i64 0), vv (.int .i64 0)]] (GS [outN] 0 []) (.tup []) (GS (bld (Pl.mk k m kids ex cols wth agg rds) ⟨0, 0⟩ 0 ([outN], [])).1 0 (bld (Pl.mk k m kids ex cols wth agg rds) ⟨0, 0⟩ 0 ([outN], [])).2) ∧ 1 ≤ (bld (Pl.mk k m kids ex cols wth agg rds) ⟨0, 0⟩ 0 ([outN], [])).1.length := fun h0 => by
    have hfi := infer_fine hs h0
    exact ⟨spec67 _ hb hfi.1.1 ⟨0, 0⟩ 0 ([outN], []) hfi.2.1 (rm0 hfi.1.2.1), by simpa using (bld_gw (Pl.mk k m kids ex cols wth agg rds) ⟨0, 0⟩ 0 ([outN], []) hfi.2.1 (by simp)).len⟩
  refine sq ?_
  refine rg 1000 ?_
  refine pr [1, 3, 4, 6, 7, 30, 31, 35] ?_
  refine sq ?_
  refine sq ?_
  refine rc 2000 ?_
  refine oc id (spec29_mk k m kids ex cols wth agg rds hb ss) ?_
  refine oe 2100 ?_
  refine on ?_
  refine pr [2, 3, 4, 6, 7, 10, 16, 30, 31, 35] ?_
  refine sq ?_
  refine rg 3000 ?_
  refine pr [2, 3, 4, 6, 7, 10, 17, 30, 31, 35] ?_
  refine cd ?_ ?_
  · intro h17_1
    have hq : bldG ss (Pl.mk k m kids ex cols wth agg rds) = ([], (inferP ss (Pl.mk k m kids ex cols wth agg rds)).2) := if_pos h17_1
    refine sq ?_
    refine rg 4000 ?_
    refine pr [2, 3, 4, 6, 8, 10, 19, 30, 31, 35] ?_
    refine k_ret ?_
    show retQ _ _ _ _ _ _ _
    simp [*]
  · intro h17_1
    have hq : bldG ss (Pl.mk k m kids ex cols wth agg rds) = ((bld (Pl.mk k m kids ex cols wth agg rds) ⟨0, 0⟩ 0 ([outN], [])).1, 0) := if_neg (by rw [h17_1]; decide)
    have h0 : (inferP ss (Pl.mk k m kids ex cols wth agg rds)).2 = 0 := by simpa using h17_1
    obtain ⟨hsp, hl1⟩ := hfin h0
    refine k_skip ?_
    refine sq ?_
    refine rg 2 ?_
    refine pr [2, 3, 4, 6, 8, 10, 21, 30, 31, 35] ?_
    refine ow (.cell 3 0) 4294967296 75 14 ?_
    refine ow (.cell 3 1) 1 3 1 ?_
    refine sq ?_
    refine rc 6000 ?_
    refine ocI (spec66_o) ?_
    refine oe 6100 ?_
    refine on ?_
    refine pr [2, 3, 4, 6, 8, 10, 26, 30, 31, 35] ?_
    refine sq ?_
    refine rc 7000 ?_
    refine ocI (hsp) ?_
    refine on ?_
    refine pr [4, 6, 8, 9, 31, 35] ?_
    refine sq ?_
    refine rg 8000 ?_
    refine pr [4, 6] ?_
    refine fw 4294967296 ((bld (Pl.mk k m kids ex cols wth agg rds) ⟨0, 0⟩ 0 ([outN], [])).1.map Nd.row) (new := [(.tmp 4, .av (.p (.ps ((bld (Pl.mk k m kids ex cols wth agg rds) ⟨0, 0⟩ 0 ([outN], [])).1.map Nd.row)))), (.tmp 5, .av (vv (.int .i64 0)))]) ?_ (hz := frz_hrows _ _ (by intro i hi; simp [hi])) (hn := by simp [FwOK])
    refine k_ret ?_
    show retQ _ _ _ _ _ _ _
    simp [*]

theorem spec34 (p : Pl) (hb : p.bnd) (hs : p.size ≤ 2 ^ 40) (ss : List (List Int)) : Flat.Sp Try.prog 34 [p.av, .p (.ps (ss.map srow))] [] (.tup [.p (.ps ((bldG ss p).1.map Nd.row)), vv (.int .i64 (bldG ss p).2)]) [] := by
  obtain ⟨k, m, kids, ex, cols, wth, agg, rds⟩ := p
  exact spec34_mk k m kids ex cols wth agg rds ss hb hs

end Go.Proofs
end
section
set_option linter.unusedVariables false
set_option linter.unusedSimpArgs false
namespace Go.Proofs
open Go.Flat
set_option maxRecDepth 100000
set_option linter.unusedSimpArgs false
set_option linter.unusedVariables false
attribute [local simp] Bool.and_assoc Bool.or_assoc evalG evalX efD skF guardG guardL isCall stepL evalOp ev evs lk tmpsL app AV.ok fresh vv putCells insV ins del putL place Go.Flat.look fillC fillR getCells loadF storeF binF scalarBin intBin strBin isShift shiftBin unF lenF maxF minF rowsF appendF builtinF idxF natOf sliceP sliceF optEv Flat.cut overwrite toPV toPVs constAV scalarC scalarCs AV.cells TI.isAgg allSome andAll scalarEq buildable Go.Flat.lim retQ resL resAll resOne PartOf noTmp closedIn refs refs.refsL isSomeV hasB ids leA leA.leL renA renA.renL callB refsAll backL dropIds renS LiesAt injB ownB freshB memN locId insAll leA_refl leL_refl okS frzS frzA frzA.frzL evalD feet fine updCells cellsFrom memP footRf footWf noTmpU updIds opOps opIds idsA footR footW guardTs opTs dstTs callR callW renLoc renC inBlockQ thenQ Value.oneCell' IntKind.bits IntKind.signed PV.up toPH toPHs

attribute [local simp] Pl.row_eq Pl.av
attribute [local simp] outN leafN Pl.zero prow Nd.row in
theorem spec69_1z (m : Int) (kids : List Pl) (ex : List E) (cols wth : List Int) (agg rds : Int) : Flat.Sp Try.prog 69 [.psf [outN.row], (Pl.mk 1 m kids ex cols wth agg rds).av, .agg [vv (.int .i64 0), vv (.int .i64 0)], .p (.ps [])] [] (.sl 5007 ([outN] ++ [leafN m (⟨0, 0⟩ : Prt)]).length 0 ([outN] ++ [leafN m (⟨0, 0⟩ : Prt)]).length) [(.arr 5007, .arr 75 14 (([outN] ++ [leafN m (⟨0, 0⟩ : Prt)]).map Nd.row) 0)] := by
  refine sk Try.func69 ?_
  intro F G hn hG
  refine sq ?_
  refine rg 1000 ?_
  refine pr [0, 1, 3, 4, 5, 7, 8, 130] ?_
  refine sq ?_
  refine rg 2000 ?_
  refine pr [0, 1, 3, 4, 5, 7, 8, 14, 16, 130] ?_
  refine sq ?_
  refine sq ?_
  refine rg 3000 ?_
  refine pr [0, 1, 3, 4, 5, 7, 8, 14, 17, 130] ?_
  refine k_block ?_
  refine sq ?_
  refine rg 4000 ?_
  refine pr [0, 1, 3, 4, 5, 7, 8, 14, 17, 19, 20, 130] ?_
  refine ct ?_
  refine sq ?_
  refine rg 5000 ?_
  refine pr [0, 1, 3, 4, 5, 7, 8, 10, 11, 14, 101, 130] ?_
  refine k_ret ?_
  show retQ _ _ _ _ _ _ _
  simp [*]

attribute [local simp] outN loopN leaveN Pl.zero prow irow Nd.row in
set_option maxHeartbeats 2000000 in
theorem spec69_10z (ns2 ns3 : List Nd) (xk xn : Int) (xq : List Pl) (xe : List E) (xc xw : List Int) (xa xr : Int) (yk yn : Int) (yq : List Pl) (ye : List E) (yc yw : List Int) (ya yr : Int) (m : Int) (ex : List E) (cols wth : List Int) (agg rds : Int) (hx : Flat.Sp Try.prog 69 [.sl 0 3 0 3, (Pl.mk xk xn xq xe xc xw xa xr).av, .agg [vv (.int .i64 1), vv (.int .i64 0)], .p (.ps [])] [(.arr 0, .arr 75 14 (([outN] ++ [loopN 0 rds 1] ++ [leaveN 0 rds (⟨0, 0⟩ : Prt)]).map Nd.row) 0)] (.sl 0 ns2.length 0 ns2.length) [(.arr 0, .arr 75 14 (ns2.map Nd.row) 0)]) (hy : Flat.Sp Try.prog 69 [.sl 0 ns2.length 0 ns2.length, (Pl.mk yk yn yq ye yc yw ya yr).av, .agg [vv (.int .i64 1), vv (.int .i64 1)], .p (.ps [[.v (.int .i64 1)]])] [(.arr 0, .arr 75 14 (ns2.map Nd.row) 0)] (.sl 0 ns3.length 0 ns3.length) [(.arr 0, .arr 75 14 (ns3.map Nd.row) 0)]) : Flat.Sp Try.prog 69 [.psf [outN.row], (Pl.mk 10 m [(Pl.mk xk xn xq xe xc xw xa xr), (Pl.mk yk yn yq ye yc yw ya yr)] ex cols wth agg rds).av, .agg [vv (.int .i64 0), vv (.int .i64 0)], .p (.ps [])] [] (.sl 11011 ns3.length 0 ns3.length) [(.arr 11011, .arr 75 14 (ns3.map Nd.row) 0)] := by
  refine sk Try.func69 ?_
  intro F G hn hG
  refine sq ?_
  refine rg 1000 ?_
  refine pr [0, 1, 3, 4, 5, 7, 8, 130] ?_
  refine sq ?_
  refine rg 2000 ?_
  refine pr [0, 1, 3, 4, 5, 7, 8, 14, 16, 130] ?_
  refine sq ?_
  refine sq ?_
  refine rg 3000 ?_
  refine pr [0, 1, 3, 4, 5, 7, 8, 14, 17, 130] ?_
  refine k_block ?_
  refine sq ?_
  refine rg 4000 ?_
  refine pr [0, 1, 3, 4, 5, 7, 8, 14, 17, 19, 20, 130] ?_
  refine ce ?_
  refine sq ?_
  refine rg 6000 ?_
  refine pr [0, 1, 3, 4, 5, 7, 8, 14, 17, 18, 28, 29, 30, 130] ?_
  refine ce ?_
  refine sq ?_
  refine rg 10000 ?_
  refine pr [0, 1, 3, 4, 5, 7, 8, 10, 11, 14, 54, 55, 56, 130] ?_
  refine ct ?_
  refine sq ?_
  refine rg 11000 ?_
  refine pr [0, 1, 3, 4, 5, 7, 8, 10, 11, 14, 68, 130] ?_
  refine sq ?_
  refine rg 12000 ?_
  refine pr [0, 1, 3, 4, 5, 7, 8, 10, 11, 14, 78, 130] ?_
  refine sq ?_
  refine rc 13000 ?_
  refine oc (fun _ => 11011) (hx) ?_
  refine oe 13100 ?_
  refine on ?_
  refine pr [0, 1, 3, 4, 5, 7, 8, 10, 11, 14, 87, 130] ?_
  refine sq ?_
  refine dr ?_
  refine dt 14000 ?_
  refine dt 14001 ?_
  refine dt 14002 ?_
  refine dt 14003 ?_
  refine dt 14004 ?_
  refine dt 14005 ?_
  refine dt 14006 ?_
  refine dt 14007 ?_
  refine dt 14008 ?_
  refine dt 14009 ?_
  refine dt 14010 ?_
  refine dt 14011 ?_
  refine dpub 14012 ?_
  refine dc (fun _ => 11011) hy ?_
  refine de 14100 ?_
  refine dn ?_
  refine pr [0, 1, 3, 4, 5, 7, 8, 10, 11, 14, 101, 130] ?_
  refine k_ret ?_
  show retQ _ _ _ _ _ _ _
  simp [*]

attribute [local simp] prow planN outN Pl.zero Nd.row in
set_option maxHeartbeats 4000000 in
theorem spec69_dz (k : Int) (m : Int) (kids : List Pl) (ex : List E) (cols wth : List Int) (agg rds : Int) (h1 : (k == 1) = false) (h2 : (k == 2) = false) (h10 : (k == 10) = false) (h127 : Flat.Sp Try.prog 127 [(Pl.mk k m kids ex cols wth agg rds).av] [] ((Pl.mk k m [] ex cols wth agg rds).av) []) (hkl : kids.length ≤ 300) (hv : Pl.vokL kids 0) (hrm : Rm ([outN], []) 0 (1 + Pl.sizeL kids)) (ih : ∀ x ∈ kids, GSq x) : Flat.Sp Try.prog 69 [.psf [outN.row], (Pl.mk k m kids ex cols wth agg rds).av, .agg [vv (.int .i64 0), vv (.int .i64 0)], .p (.ps [])] [] (.sl 15104 (bldL kids (k == 7) 1 0 0 ([outN] ++ [planN (.mk k m [] ex cols wth agg rds) (⟨0, 0⟩ : Prt)], [])).1.length 0 (bldL kids (k == 7) 1 0 0 ([outN] ++ [planN (.mk k m [] ex cols wth agg rds) (⟨0, 0⟩ : Prt)], [])).1.length) [(.arr 15104, .arr 75 14 ((bldL kids (k == 7) 1 0 0 ([outN] ++ [planN (.mk k m [] ex cols wth agg rds) (⟨0, 0⟩ : Prt)], [])).1.map Nd.row) 0)] := by
  refine sk Try.func69 ?_
  intro F G hn hG
  have hkl2 : kids.length ≤ Flat.lim := by simp only [Flat.lim]; omega
  have hgwS : ∀ i, Gw ([outN], []) (bldL (kids.take i) (k == 7) 1 0 0 ([outN] ++ [planN (.mk k m [] ex cols wth agg rds) (⟨0, 0⟩ : Prt)], [])) 0 (1 + Pl.sizeL (kids.take i)) := fun i => (Gw.snoc ([outN], []) (planN (.mk k m [] ex cols wth agg rds) (⟨0, 0⟩ : Prt)) 0 rfl).trans (bldL_gw (kids.take i) _ _ 0 0 _ (Pl.vokL_of fun y hy => Pl.vokL_mem hv y (List.mem_of_mem_take hy)) (by simp))
  refine sq ?_
  refine rg 1000 ?_
  refine pr [0, 1, 3, 4, 5, 7, 8, 130] ?_
  refine sq ?_
  refine rg 2000 ?_
  refine pr [0, 1, 3, 4, 5, 7, 8, 14, 16, 130] ?_
  refine sq ?_
  refine sq ?_
  refine rg 3000 ?_
  refine pr [0, 1, 3, 4, 5, 7, 8, 14, 17, 130] ?_
  refine k_block ?_
  refine sq ?_
  refine rg 4000 ?_
  refine pr [0, 1, 3, 4, 5, 7, 8, 14, 17, 19, 20, 130] ?_
  refine ce ?_
  refine sq ?_
  refine rg 6000 ?_
  refine pr [0, 1, 3, 4, 5, 7, 8, 14, 17, 18, 28, 29, 30, 130] ?_
  refine ce ?_
  refine sq ?_
  refine rg 10000 ?_
  refine pr [0, 1, 3, 4, 5, 7, 8, 10, 11, 14, 54, 55, 56, 130] ?_
  refine ce ?_
  refine k_skip ?_
  refine k_nil ?_
  show AK _ _ _ _ _ _
  refine sq ?_
  refine dr ?_
  refine de 15000 ?_
  refine dc id (h127) ?_
  refine de 15100 ?_
  refine dn ?_
  refine pr [0, 1, 3, 4, 5, 6, 8, 10, 11, 14, 109, 130] ?_
  refine sq ?_
  refine sq ?_
  refine rg 16000 ?_
  refine pr [0, 1, 3, 4, 5, 6, 8, 10, 11, 14, 110, 130] ?_
  refine k_block ?_
  refine k_loop (fun n l => ∃ i, i + n = kids.length ∧ l = [(.tmp 0, .av (.sl 15104 (bldL (kids.take i) (k == 7) 1 0 0 ([outN] ++ [planN (.mk k m [] ex cols wth agg rds) (⟨0, 0⟩ : Prt)], [])).1.length 0 (bldL (kids.take i) (k == 7) 1 0 0 ([outN] ++ [planN (.mk k m [] ex cols wth agg rds) (⟨0, 0⟩ : Prt)], [])).1.length)), (.tmp 3, .av (.p (.ps []))), (.tmp 5, .av (.ptr 1000 0)), (.tmp 9, .av (vv (.int .i64 1))), (.tmp 110, .av (.p (.ps (kids.map Pl.row)))), (.tmp 111, .av (vv (.int .i64 kids.length))), (.tmp 112, .av (vv (.int .i64 i))), (.arr 15104, .arr 75 14 ((bldL (kids.take i) (k == 7) 1 0 0 ([outN] ++ [planN (.mk k m [] ex cols wth agg rds) (⟨0, 0⟩ : Prt)], [])).1.map Nd.row) 0), (.var 1000, .n 8), (.cell 1000 0, .av (vv (.int .u8 k))), (.cell 1000 1, .av (vv (.int .i64 m))), (.cell 1000 2, .av (.p (.ps (kids.map Pl.row)))), (.cell 1000 3, .av (.p (.ps (ex.map E.row)))), (.cell 1000 4, .av (.p (.ps (cols.map irow)))), (.cell 1000 5, .av (.p (.ps (wth.map irow)))), (.cell 1000 6, .av (vv (.int .u8 agg))), (.cell 1000 7, .av (vv (.int .i64 rds))), (.var 1001, .n 2), (.cell 1001 0, .av (vv (.int .i64 0))), (.cell 1001 1, .av (vv (.int .i64 0)))]) (kids.length) hG ⟨_, ⟨by simp [bldL], by simp [bldL], by simp [bldL]⟩, 0, by simp, rfl⟩ ?_
  rintro n _ ⟨i, hin, rfl⟩
  refine sq ?_
  refine rg 17000 ?_
  refine pr [0, 1, 3, 4, 5, 6, 8, 10, 11, 14, 110, 130] ?_
  refine sq ?_
  refine cd ?_ ?_
  · intro h113_1
    have hlt : i < kids.length := by simpa using h113_1
    obtain ⟨x, hxe⟩ : ∃ x, kids[i] = x := ⟨_, rfl⟩
    have hx : kids[i]? = some x := by simp [hlt, hxe]
    have hw := wrap_succ (show i < Flat.lim by omega)
    have hmem := List.mem_of_getElem? hx
    have hvx := Pl.vokL_mem hv x hmem
    have hgr := hgwS i
    have hrx : Rm (bldL (kids.take i) (k == 7) 1 0 0 ([outN] ++ [planN (.mk k m [] ex cols wth agg rds) (⟨0, 0⟩ : Prt)], [])) 0 x.size := hgr.rm (hrm.less (by have := sizeL_take hx; omega))
    have hsx := ih x hmem ⟨1, if (k == 7) = true then (i : Int) else 0⟩ 0 (bldL (kids.take i) (k == 7) 1 0 0 ([outN] ++ [planN (.mk k m [] ex cols wth agg rds) (⟨0, 0⟩ : Prt)], [])) hvx hrx
    rw [List.take_zero, List.map_nil] at hsx
    clear hrx hgr
    obtain ⟨xk, xn, xq, xe, xc, xw, xa, xr⟩ := x
    refine k_skip ?_
    refine sq ?_
    refine k_block ?_
    refine sq ?_
    refine rg 18000 ?_ (h := by simp [*, Pl.row_eq]; exact is_rfl _)
    refine pr [0, 1, 3, 4, 5, 6, 8, 10, 11, 14, 110, 130] ?_
    refine sq ?_
    refine rg 19000 ?_
    refine pr [0, 1, 3, 4, 5, 6, 8, 10, 11, 14, 110, 130] ?_
    refine sq ?_
    refine sq ?_
    refine rg 20000 ?_
    refine pr [0, 1, 3, 4, 5, 6, 8, 10, 11, 14, 110, 130] ?_
    refine cd ?_ ?_
    · intro h119_2
      have h7 : (k == 7) = true := by simpa using h119_2
      simp only [h7, if_true] at hsx
      refine rg 21000 ?_
      refine pr [0, 1, 3, 4, 5, 6, 8, 10, 11, 14, 110, 130] ?_
      refine rc 22000 ?_
      refine oc (fun _ => 15104) (hsx) ?_
      refine oe 22100 ?_
      refine on ?_
      refine k_nil ?_
      show AK _ _ _ _ _ _
      refine rg 23000 ?_
      refine k_nil ?_
      refine ⟨n - 1, by omega, _, ⟨?_, ?_, ?_⟩, i + 1, by omega, rfl⟩ <;> simp [*, bldL_take hx]
    · intro h119_2
      have h7 : (k == 7) = false := by simpa using h119_2
      simp only [h7, Bool.false_eq_true, if_false] at hsx
      refine k_skip ?_
      refine rc 22000 ?_
      refine oc (fun _ => 15104) (hsx) ?_
      refine oe 22100 ?_
      refine on ?_
      refine k_nil ?_
      show AK _ _ _ _ _ _
      refine rg 23000 ?_
      refine k_nil ?_
      refine ⟨n - 1, by omega, _, ⟨?_, ?_, ?_⟩, i + 1, by omega, rfl⟩ <;> simp [*, bldL_take hx]
  · intro h113_1
    have hge : kids.length ≤ i := by simpa using h113_1
    obtain rfl : i = kids.length := by omega
    have htk : kids.take kids.length = kids := List.take_length
    refine k_exit ?_
    show AK _ _ _ _ _ _
    refine sq ?_
    refine rg 24000 ?_
    refine pr [8, 9] ?_
    refine k_ret ?_
    show retQ _ _ _ _ _ _ _
    simp [*]

end Go.Proofs
end
section
set_option linter.unusedVariables false
set_option linter.unusedSimpArgs false
namespace Go.Proofs
open Go.Flat
set_option linter.unusedSimpArgs false
set_option linter.unusedVariables false
theorem kids_few {kids : List Pl} {n : Nat} (h : n + 2 * (1 + Pl.sizeL kids) ≤ 200) : kids.length ≤ 300 := by
  have hle : ∀ l : List Pl, l.length ≤ Pl.sizeL l := by
    intro l
    induction l with
    | nil => simp
    | cons z r ihr => obtain ⟨zk, zn, zq, ze, zc, zw, za, zr⟩ := z; simp only [List.length_cons, Pl.sizeL, Pl.size]; omega
  have := hle kids
  omega
/-- What the parts of a loop make, the one behind the other. -/
theorem spec69_two {x y : Pl} (ihx : GSq x) (ihy : GSq y) {ns : List Nd} {A : List Int} {nd : Nat} {rds : Int} {to : Prt} (hnd : nd ≤ A.length) (haln : A.length ≤ 2) (hn1 : nd + 1 ≤ 2) (hrm : Rm (ns, A) nd (1 + (x.size + (y.size + 0)))) (hvx : x.vok nd) (hvy : y.vok (nd + 1)) :
    ∃ ns2 : List Nd, Flat.Sp Try.prog 69 [.sl 0 (ns ++ [loopN nd rds ns.length] ++ [leaveN nd rds to]).length 0 (ns ++ [loopN nd rds ns.length] ++ [leaveN nd rds to]).length, x.av, .agg [vv (.int .i64 ns.length), vv (.int .i64 0)], .p (.ps ((A.take nd).map irow))] [(.arr 0, .arr 75 14 ((ns ++ [loopN nd rds ns.length] ++ [leaveN nd rds to]).map Nd.row) 0)] (.sl 0 ns2.length 0 ns2.length) [(.arr 0, .arr 75 14 (ns2.map Nd.row) 0)] ∧
      Flat.Sp Try.prog 69 [.sl 0 ns2.length 0 ns2.length, y.av, .agg [vv (.int .i64 ns.length), vv (.int .i64 1)], .p (.ps ((A.take nd ++ [(ns.length : Int)]).map irow))] [(.arr 0, .arr 75 14 (ns2.map Nd.row) 0)] (.sl 0 (bldI [x, y] ns.length nd (ns ++ [loopN nd rds ns.length] ++ [leaveN nd rds to], A)).1.length 0 (bldI [x, y] ns.length nd (ns ++ [loopN nd rds ns.length] ++ [leaveN nd rds to], A)).1.length) [(.arr 0, .arr 75 14 ((bldI [x, y] ns.length nd (ns ++ [loopN nd rds ns.length] ++ [leaveN nd rds to], A)).1.map Nd.row) 0)] := by
  have hg0 : Gw (ns, A) (ns ++ [loopN nd rds ns.length] ++ [leaveN nd rds to], A) nd 1 := by
    refine ⟨by simp, by simp, fun z hz => ?_, rfl, Nat.le_refl _, id⟩
    simp only [List.append_assoc, List.mem_append, List.mem_cons, List.not_mem_nil, or_false] at hz
    rcases hz with hz | hz | hz
    · exact .inr ⟨z, hz, by omega⟩
    · subst hz; exact .inl (by simp [loopN])
    · subst hz; exact .inl (by simp [leaveN])
  have hr0 := hg0.rm (d := x.size + (y.size + 0)) hrm
  have hgx := bld_gw x ⟨(ns.length : Int), 0⟩ nd _ hvx (Nat.le_trans hnd hg0.aln)
  have hr1 := hgx.rm (d := y.size + 0) hr0
  have hx := ihx ⟨(ns.length : Int), 0⟩ nd _ hvx (hr0.less (by omega))
  have hbI0 : bldI [x, y] ns.length nd (ns ++ [loopN nd rds ns.length] ++ [leaveN nd rds to], A) = bld y ⟨(ns.length : Int), 1⟩ (nd + 1) ((bld x ⟨(ns.length : Int), 0⟩ nd (ns ++ [loopN nd rds ns.length] ++ [leaveN nd rds to], A)).1, pushG (bld x ⟨(ns.length : Int), 0⟩ nd (ns ++ [loopN nd rds ns.length] ++ [leaveN nd rds to], A)).2 nd ns.length) := by
    simp only [bldI, bldL, if_true]
    rfl
  rw [hbI0]
  generalize hb1 : bld x ⟨(ns.length : Int), 0⟩ nd (ns ++ [loopN nd rds ns.length] ++ [leaveN nd rds to], A) = b1 at hx hgx hr1
  obtain ⟨ns2, A2⟩ := b1
  have hd2 := hr1.dep
  have hal2 := hr1.aln
  have htk := hgx.take
  simp only at hd2 hal2 hx htk
  have hpl := pushG_len (ns.length : Int) hd2
  have hr2 : Rm (ns2, pushG A2 nd ns.length) (nd + 1) (y.size + 0) := by
    refine ⟨hr1.len, hr1.back, by simp only [hpl]; omega, by simp only [hpl]; omega, fun a ha => ?_⟩
    simp only at ha ⊢
    rw [take_pushG' _ hd2] at ha
    rcases List.mem_append.1 ha with ha | ha
    · exact hr1.ard a ha
    · simp only [List.mem_singleton] at ha
      subst ha
      have := hgx.len
      simp at this
      omega
  have hy := ihy ⟨(ns.length : Int), 1⟩ (nd + 1) _ hvy (hr2.less (by omega))
  simp only at hy
  rw [take_pushG' _ hd2, htk] at hy
  exact ⟨ns2, hx, hy⟩
theorem spec69 : ∀ p : Pl, p.bnd → p.gd → GSq p := by
  refine Pl.ind fun k m kids ex cols wth agg rds ih hb hg to nd s hv hrm => ?_
  obtain ⟨ns, A⟩ := s
  have h127 := spec127 k m kids ex cols wth agg rds (spec179 _ hg hb)
  rw [Pl.bnd] at hb
  rw [Pl.gd] at hg
  obtain ⟨hbk, hbe, hbc, hbw, hbl⟩ := hb
  obtain ⟨hf, hge, hgl⟩ := hg
  rw [Pl.size] at hrm
  have ih' : ∀ x ∈ kids, GSq x := fun x hx => ih x hx (Pl.bndL_mem hbl x hx) (Pl.gdL_mem hgl x hx)
  rw [Pl.vok] at hv
  have hns : ns.length ≤ 200 := by have := hrm.len; simp only at this; omega
  have hnd := hrm.dep
  have haln := hrm.aln
  simp only at hnd haln
  have hal : (A.take nd).length = nd := by simp; omega
  rw [bld]
  simp only
  by_cases h1 : (k == 1) = true
  · obtain rfl : k = 1 := by simpa using h1
    exact spec69_1 ns (A.take nd) to (by omega) m kids ex cols wth agg rds
  · rw [if_neg h1]
    by_cases h2 : (k == 2) = true
    · obtain rfl : k = 2 := by simpa using h2
      rw [if_pos h2]
      obtain ⟨hv1, hv2⟩ := hv.1 rfl
      obtain ⟨j, hj⟩ := Int.eq_ofNat_of_zero_le hv1
      have hjn : j < nd := by rw [hj] at hv2; omega
      have hjA : j < A.length := by omega
      have hgA : A[j]? = some A[j] := by simp [hjA]
      have hmem : A[j] ∈ A.take nd := List.mem_iff_getElem?.2 ⟨j, by rw [List.getElem?_take, if_pos hjn]; exact hgA⟩
      obtain ⟨ha0, ha1⟩ := hrm.ard _ hmem
      simp only at ha1
      obtain ⟨i, hi⟩ := Int.eq_ofNat_of_zero_le ha0
      have hin : i < ns.length := by rw [hi] at ha1; omega
      have hgi : ns[i]? = some ns[i] := by simp [hin]
      have hxb := hrm.back ns[i] (List.getElem_mem hin)
      have hvj : varJ A nd m = i := by
        unfold varJ
        rw [hj]
        simp only [Int.ofNat_eq_natCast, Int.toNat_natCast, List.getD_eq_getElem?_getD, hgA, Option.getD_some, hi]
      simp only [hvj]
      obtain ⟨x, hx⟩ : ∃ x, ns[i] = x := ⟨_, rfl⟩
      rw [hx] at hgi hxb
      obtain ⟨xk, ⟨pk, pn, pq, pe, pc, pw, pa, pg⟩, xn, xl, xr, xt, xb⟩ := x
      refine spec69_2 ns (A.take nd) to (by omega) m kids ex cols wth agg rds (by omega) j (by omega) ?_ i (by rw [List.getElem_take]; exact hi) xk pk pn pq pe pc pw pa pg xn xl xr xt xb hgi (by simp only at hxb; omega)
      have hw : IntKind.i64.wrap ((nd : Int) - 1) = (nd : Int) - 1 := by rw [w64]; omega
      rw [hal, ← hw]
      exact hj
    · rw [if_neg h2]
      by_cases h10 : (k == 10) = true
      · obtain rfl : k = 10 := by simpa using h10
        rw [if_pos h10]
        have h2l := formed_two hf h10
        obtain ⟨-, hvI⟩ := hv
        rw [if_pos h10] at hvI
        obtain ⟨hn1, hvI⟩ := hvI
        match kids, h2l, hvI, ih', hrm with
        | [x, y], _, hvI, ih', hrm =>
        simp only [Pl.vokI, Pl.vokL] at hvI
        simp only [Pl.sizeL] at hrm
        obtain ⟨hvx, hvy, -⟩ := hvI
        obtain ⟨ns2, hx, hy⟩ := spec69_two (ih' x (by simp)) (ih' y (by simp)) (rds := rds) (to := to) hnd haln hn1 hrm hvx hvy
        obtain ⟨xk, xn, xq, xe, xc, xw, xa, xr⟩ := x
        obtain ⟨yk, yn, yq, ye, yc, yw, ya, yr⟩ := y
        refine spec69_10 ns ns2 _ (A.take nd) xk xn xq xe xc xw xa xr yk yn yq ye yc yw ya yr m ex cols wth agg rds to (by omega) (by omega) ?_ hy
        rw [hal]
        exact hx
      · rw [if_neg h10]
        obtain ⟨-, hvL⟩ := hv
        rw [if_neg h10] at hvL
        have hkl : kids.length ≤ 300 := kids_few hrm.len
        exact spec69_d ns (A.take nd) nd A rfl k m kids ex cols wth agg rds to (by simpa using h1) (by simpa using h2) (by simpa using h10) h127 hkl hvL hrm ih'
end Go.Proofs
end
