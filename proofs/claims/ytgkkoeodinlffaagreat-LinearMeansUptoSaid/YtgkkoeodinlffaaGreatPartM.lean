/-
  The map of the kinds of plans that linear.Do knows. (and 1 texts more)
-/
import Derived.Test.YtgkkoeodinlffaaGreatPartJ
import Derived.Test.YtgkkoeodinlffaaGreatFlatL
import Derived.KernelRfl
import Derived.Test.YtgkkoeodinlffaaGreatPartK
section
set_option linter.unusedVariables false
set_option linter.unusedSimpArgs false
namespace Go.Proofs
open Go.Flat
set_option maxRecDepth 100000
def mapE (k : Int) (n : Nat) : MapEntry := { key := .int .u8 k, val := .bool true, born := n }
def doMap : Array MapEntry := #[mapE 3 0, mapE 4 1, mapE 6 2, mapE 5 3]
theorem run_getObj_m {P : Program} {w : World} {r : Nat} {es : Array MapEntry} {clk : Nat} (h : w.heap[r]? = some (.map es clk)) : (getObj r).run P w = .ok (.map es clk) w := by simp [getObj, Sem.run, h]
theorem run_setObj_m {P : Program} {w : World} {r : Nat} {es : Array MapEntry} {clk : Nat} (o : Obj) (h : w.heap[r]? = some (.map es clk)) : (setObj r o).run P w = .ok () { w with heap := w.heap.setIfInBounds r o } := by simp [setObj, Sem.run, h]
theorem run_checkKey {w : World} {k : Int} {b : Bool} : (Instr.checkKey b 10000 56 (.int .u8 k)).run Tryz.prog w = .ok () w := by
 rw [show (10000 : Nat) = 9999 + 1 from rfl, Instr.checkKey]
 simp [run_underlying Tryz.underlying56]
theorem run_findKey {w : World} {k : Int} {es : List MapEntry} {r : Option (Nat × Value)} (h : Instr.findNow (.int .u8) (.int .u8 k) es 0 = some r) : (Instr.findKey 56 (.int .u8 k) es).run Tryz.prog w = .ok r w := by
 unfold Instr.findKey; simp [run_underlying Tryz.underlying56, h]
theorem run_insert {w : World} {r : Nat} {es : Array MapEntry} {clk : Nat} {k : Int} (hr : w.heap[r]? = some (.map es clk)) (hk : Instr.findNow (.int .u8) (.int .u8 k) es.toList 0 = some none) :
   (Instr.mapUpdate 190 (.map (some r)) (.int .u8 k) (.bool true)).run Tryz.prog w = .ok () { w with heap := w.heap.setIfInBounds r (.map (es.push (mapE k clk)) (clk + 1)) } := by
 unfold Instr.mapUpdate; simp [run_underlying Tryz.underlying190, run_getObj_m hr, run_checkKey, run_findKey hk, run_setObj_m _ hr, mapE]
theorem run_look {w : World} {b : Nat} {k : Int} (h : ∃ clk, w.heap[b]? = some (.map doMap clk)) : (Instr.lookup 190 (.map (some b)) (.int .u8 k) false).run Tryz.prog w = .ok (.bool (k == 3 || k == 4 || k == 6 || k == 5)) w := by
 obtain ⟨clk, h⟩ := h; unfold Instr.lookup
 have hz : (zeroValue 4).run Tryz.prog w = .ok (.bool false) w := by
   have h4 : (Tryz.prog.info? 4).bind (·.zero) = some (.bool false) := by kernel_rfl
   obtain ⟨inf, q1, q2⟩ := Option.bind_eq_some_iff.1 h4; unfold zeroValue typeInfo; simp [q1, q2]
 have hf : Instr.findNow (.int .u8) (.int .u8 k) doMap.toList 0 = some (if k == 3 then some (0, .bool true) else if k == 4 then some (1, .bool true) else if k == 6 then some (2, .bool true) else if k == 5 then some (3, .bool true) else none) := by
   simp only [doMap, mapE, Instr.findNow, Instr.sameNow, if_true]; cases h3 : (k == 3) <;> cases h4 : (k == 4) <;> cases h6 : (k == 6) <;> cases h5 : (k == 5) <;> simp [h3, h4, h6, h5]
 simp only [Sem.run_bind, run_underlying Tryz.underlying190, run_getObj_m h, Result.andThen_ok, Sem.run_pure, run_checkKey, run_findKey hf]
 by_cases h3 : (k == 3) = true
 · simp [h3]
 · by_cases h4 : (k == 4) = true
   · simp [h3, h4]
   · by_cases h6 : (k == 6) = true
     · simp [h3, h4, h6]
     · by_cases h5 : (k == 5) = true
       · simp [h3, h4, h6, h5]
       · simp [h3, h4, h6, h5, hz]
def lmap (b : Nat) (l : List (Flat.Loc × C)) : List (Flat.Loc × C) := ins (.tmp 8) (.av (.p (.v (.map (some b))))) (ins (.tmp 17) (.av .any) (ins (.tmp 16) (.av .any) l))
theorem push_set {α : Type} (xs : Array α) (o o' : α) : (xs.push o).setIfInBounds xs.size o' = xs.push o' := by
 apply Array.ext_getElem?; intro i; rw [Array.getElem?_setIfInBounds, Array.getElem?_push, Array.getElem?_push]
 by_cases h : xs.size = i
 · subst h; simp
 · rw [if_neg h, if_neg (fun e => h e.symm), if_neg (fun e => h e.symm)]
theorem run_insert_op {ρ : Operand → Value} {o : Oper} {w : World} {r : Nat} {k : Int} {w' : World} (h : o.op = .insert 190 (.tmp 16) (.const (.int .u8 k)) (.const (.bool true))) (h1 : ρ (.tmp 16) = .map (some r)) (h2 : ρ (.const (.int .u8 k)) = .int .u8 k) (h3 : ρ (.const (.bool true)) = .bool true)
   (hr : (Instr.mapUpdate 190 (.map (some r)) (.int .u8 k) (.bool true)).run Tryz.prog w = .ok () w') : (execOp ρ o).run Tryz.prog w = .ok .skip w' := by
 simp only [execOp, h, h1, h2, h3, Sem.run_bind, hr, Result.andThen_ok, Sem.run_pure]
theorem map_region {F : Nat → Nat → Prop} {G : Flat.Start} {l : List (Flat.Loc × C)} {ops : Array Oper} {o0 o1 o2 o3 o4 o5 o6 : Oper} (hn : G.n = 62) (hops : ops.toList = [o0, o1, o2, o3, o4, o5, o6])
   (g0 : o0.guard = none ∧ o0.dst = some 16 ∧ o0.op = .makeMap 190 none) (g1 : o1.guard = none ∧ o1.dst = none ∧ o1.op = .insert 190 (.tmp 16) (.const (.int .u8 3)) (.const (.bool true))) (g2 : o2.guard = none ∧ o2.dst = none ∧ o2.op = .insert 190 (.tmp 16) (.const (.int .u8 4)) (.const (.bool true)))
   (g3 : o3.guard = none ∧ o3.dst = none ∧ o3.op = .insert 190 (.tmp 16) (.const (.int .u8 6)) (.const (.bool true))) (g4 : o4.guard = none ∧ o4.dst = none ∧ o4.op = .insert 190 (.tmp 16) (.const (.int .u8 5)) (.const (.bool true)))
   (g5 : o5.guard = none ∧ o5.dst = some 17 ∧ o5.op = .move (.tmp 16)) (g6 : o6.guard = none ∧ o6.dst = some 8 ∧ o6.op = .assign (.tmp 17)) :
   ∀ ρ a w, Rel F G ρ (lk l) a w → ∀ (Q2 : Exit → Act → World → Prop), (∀ a2 w2 ρ2 b, Rel F G ρ2 (lk (lmap b l)) a2 w2 → b < w2.heap.size → (∀ id, live (lk (lmap b l)) id → ρ2 id ≠ some b) → (∃ clk, w2.heap[b]? = some (.map doMap clk)) → Q2 .normal a2 w2) → wpList Tryz.prog ops Q2 ops.toList a w := by
 intro ρ a w hr Q2 hQ; have hsz := hr.siz
 have ht : ∀ (a : Act) (d : Nat) (v : Value), a.tmps.size = 62 → d < 62 → (a.put (some d) v).eval (.tmp d) = v := by
   intro a d v h1 h2; have : d < a.tmps.size := by omega
   simp [Act.eval, Act.put, this]
 have hN : ∀ (a : Act) (v : Value), a.put none v = a := fun a v => rfl
 rw [hops]
 -- the map
 have e0 : ∀ (w : World) (o : Obj), (w.alloc o).heap[w.heap.size]? = some o := fun w o => heap_alloc_new w o
 have st : ∀ (o : Obj) (o' : Obj), ({ w.alloc o with heap := (w.alloc o).heap.setIfInBounds w.heap.size o' } : World) = w.alloc o' := by
   intro o o'; have : (w.alloc o).heap.setIfInBounds w.heap.size o' = (w.alloc o').heap := push_set w.heap o o'; rw [this]; rfl
 refine wpList_plain g0.1 fun K hK => ?_
 have x0 : (execOp a.eval o0).run Tryz.prog w = .ok (.value (.map (some w.heap.size))) (w.alloc (.map #[] 0)) := by
   simp only [execOp, g0.2.2, Instr.makeMap, Option.map_none]; rfl
 unfold Oper.wp; rw [x0]; refine hK _ _ ?_; rw [g0.2.1]; have hs0 : (a.put (some 16) (.map (some w.heap.size))).tmps.size = 62 := by simp [Act.put]; omega
 generalize ha0 : a.put (some 16) (.map (some w.heap.size)) = a0 at hs0; have hv0 : a0.eval (.tmp 16) = .map (some w.heap.size) := by rw [← ha0]; exact ht a 16 _ (by omega) (by omega)
 have insr : ∀ (o : Oper) (rest : List Oper) (es : Array MapEntry) (clk : Nat) (k : Int), o.guard = none → o.dst = none → o.op = .insert 190 (.tmp 16) (.const (.int .u8 k)) (.const (.bool true)) → Instr.findNow (.int .u8) (.int .u8 k) es.toList 0 = some none →
     wpList Tryz.prog ops Q2 rest a0 (w.alloc (.map (es.push (mapE k clk)) (clk + 1))) → wpList Tryz.prog ops Q2 (o :: rest) a0 (w.alloc (.map es clk)) := by
   intro o rest es clk k h1 h2 h3 h4 h5; refine wpList_plain h1 fun K hK => ?_
   have x1 : (execOp a0.eval o).run Tryz.prog (w.alloc (.map es clk)) = .ok .skip (w.alloc (.map (es.push (mapE k clk)) (clk + 1))) := by
     have := run_insert (e0 w (.map es clk)) h4; rw [st] at this; exact run_insert_op h3 hv0 rfl rfl this
   unfold Oper.wp; rw [x1]; refine hK _ _ ?_; rw [h2, hN]; exact h5
 refine insr o1 _ _ _ 3 g1.1 g1.2.1 g1.2.2 rfl ?_; refine insr o2 _ _ _ 4 g2.1 g2.2.1 g2.2.2 rfl ?_; refine insr o3 _ _ _ 6 g3.1 g3.2.1 g3.2.2 rfl ?_; refine insr o4 _ _ _ 5 g4.1 g4.2.1 g4.2.2 rfl ?_; show wpList Tryz.prog ops Q2 [o5, o6] a0 (w.alloc (.map doMap 4)); refine wpList_plain g5.1 fun K hK => ?_
 unfold Oper.wp; rw [show (execOp a0.eval o5).run Tryz.prog (w.alloc (.map doMap 4)) = .ok (.value (.map (some w.heap.size))) (w.alloc (.map doMap 4)) by simp only [execOp, g5.2.2, hv0]; rfl]
 refine hK _ _ ?_; rw [g5.2.1]; have hs1 : (a0.put (some 17) (.map (some w.heap.size))).tmps.size = 62 := by simp [Act.put]; omega
 have hv1 : (a0.put (some 17) (.map (some w.heap.size))).eval (.tmp 17) = .map (some w.heap.size) := ht a0 17 _ hs0 (by omega)
 refine wpList_plain g6.1 fun K hK => ?_
 unfold Oper.wp; rw [show (execOp (a0.put (some 17) (.map (some w.heap.size))).eval o6).run Tryz.prog (w.alloc (.map doMap 4)) = .ok (.value (.map (some w.heap.size))) (w.alloc (.map doMap 4)) by simp only [execOp, g6.2.2, hv1]; rfl]
 refine hK _ _ (wpList_nil ?_); rw [g6.2.1]; obtain ⟨hb1, hb2, hb3⟩ := hr.block (.map doMap 4); have r16 := putL_rel (l := l) (l' := ins (.tmp 16) (.av .any) l) (d := some 16) (x := .any) (v := .map (some w.heap.size)) hb1 .any (by simp [putL, hn])
 have r17 := putL_rel (l' := ins (.tmp 17) (.av .any) (ins (.tmp 16) (.av .any) l)) (d := some 17) (x := .any) (v := .map (some w.heap.size)) r16 .any (by simp [putL, hn])
 have r8 := putL_rel (l' := lmap w.heap.size l) (d := some 8) (x := .p (.v (.map (some w.heap.size)))) (v := .map (some w.heap.size)) r17 (.p (.v rfl)) (by simp [putL, hn, lmap])
 rw [ha0] at r8; refine hQ _ _ _ w.heap.size r8 (by show w.heap.size < (w.heap.push _).size; rw [Array.size_push]; omega) ?_ ⟨4, hb3⟩
 intro id hl; refine hb2 id ?_; unfold lmap at hl; simp only [live, lk_ins, upd_ne _ _ (show (Flat.Loc.var id) ≠ .tmp 8 by simp), upd_ne _ _ (show (Flat.Loc.var id) ≠ .tmp 17 by simp), upd_ne _ _ (show (Flat.Loc.var id) ≠ .tmp 16 by simp), upd_ne _ _ (show (Flat.Loc.arr id) ≠ .tmp 8 by simp), upd_ne _ _ (show (Flat.Loc.arr id) ≠ .tmp 17 by simp), upd_ne _ _ (show (Flat.Loc.arr id) ≠ .tmp 16 by simp)] at hl
 exact hl
theorem k_do {F : Nat → Nat → Prop} {G : Flat.Start} {l l' : List (Flat.Loc × C)} {Q : Post} {i2 i3 : Nat} {ops2 ops3 : Array Oper} {c c2 : Code} {cs : List Code}
   (h2 : ∀ ρ a w, Rel F G ρ (lk l) a w → ∀ (Q2 : Exit → Act → World → Prop), (∀ a2 w2 ρ2 b, Rel F G ρ2 (lk (lmap b l)) a2 w2 → b < w2.heap.size → (∀ id, live (lk (lmap b l)) id → ρ2 id ≠ some b) → (∃ clk, w2.heap[b]? = some (.map doMap clk)) → Q2 .normal a2 w2) → wpList Tryz.prog ops2 Q2 ops2.toList a w)
   (h3 : ∀ (G2 : Flat.Start) (b : Nat), G2.n = G.n → MapAt G2 b doMap → AOps Tryz.prog F G2 ops3 (fun e l3 => e = .normal ∧ l3 = l') ops3.toList (lmap b l))
   (h4 : AK Tryz.prog F G (c :: c2 :: cs) Q l') : AK Tryz.prog F G (.seq (.region i2 ops2 false) (.seq (.seq (.region i3 ops3 false) c) c2) :: cs) Q l := k_two (fun b => lmap b l) h2 h3 h4
end Go.Proofs
end
section
namespace Go.Proofs
open Go.Flat
set_option maxRecDepth 100000
set_option linter.unusedVariables false
set_option linter.unusedSimpArgs false
attribute [local simp] Bool.and_assoc Bool.or_assoc evalG evalX efD skF guardG guardL isCall stepL evalOp ev evs lk tmpsL app AV.ok fresh vv putCells insV ins del putL place Go.Flat.look fillC fillR getCells loadF storeF binF scalarBin intBin strBin isShift shiftBin unF lenF maxF minF rowsF appendF builtinF idxF natOf sliceP sliceF optEv Flat.cut overwrite toPV toPVs constAV scalarC scalarCs AV.cells TI.isAgg allSome andAll scalarEq buildable Go.Flat.lim retQ resL resAll resOne PartOf noTmp closedIn refs refs.refsL isSomeV hasB ids leA leA.leL renA renA.renL callB refsAll backL dropIds renS LiesAt injB ownB freshB memN locId insAll leA_refl leL_refl okS frzS frzA frzA.frzL evalD feet fine updCells cellsFrom memP footRf footWf noTmpU updIds opOps opIds idsA footR footW guardTs opTs dstTs callR callW renLoc renC inBlockQ thenQ Value.oneCell' IntKind.bits IntKind.signed
section
def madS (k : Int) (ex : List E) (a : List Up × Fa) (u : Up) : List Up × Fa := (a.1 ++ (oneR k ex u).1, if (oneR k ex u).2 then a.2 else noteR a.2 u.t)
def madL (k : Int) (ex : List E) (us : List Up) : List Up × Fa := us.foldl (madS k ex) ([], (false, Tm.zero))
def known (k : Int) : Bool := k == 3 || k == 4 || k == 6 || k == 5
def doR (k : Int) (ex : List E) (us : List Up) : List Up × Tm × Int :=
 if chkUs us != 0 then ([], Tm.zero, chkUs us) else if known k then finR3 (doneR (madL k ex us).2 (madL k ex us).1) else ([], Tm.zero, 4)
theorem madL_snoc {k : Int} {ex : List E} {us : List Up} {i : Nat} {x : Up} (h : us[i]? = some x) : madL k ex (us.take (i + 1)) = madS k ex (madL k ex (us.take i)) x := by
 rw [madL, madL, List.take_add_one, h, List.foldl_append]; rfl
theorem kn_of {k : Int} {b : Bool} (h : (k == 3 || k == 4 || k == 6 || k == 5) = b) : (!k == 3 && (!k == 4 && (!k == 6 && !k == 5))) = !b := by
 rw [← h]; cases (k == 3) <;> cases (k == 4) <;> cases (k == 6) <;> cases (k == 5) <;> rfl
theorem oneR_ok (k : Int) {ex : List E} (he : ex.length ≤ Bnd) {u : Up} (hu : u.sm) : Up.sms (oneR k ex u).1 ∧ (oneR k ex u).1.length ≤ 1 := by
 have hb : u.bare.sm := ⟨Nat.zero_le _, hu.2⟩; have h0 : Up.sms ([] : List Up) := fun v hv => by simp at hv
 have h1 : Up.sms [u.bare] := fun v hv => by rw [List.mem_singleton] at hv; rw [hv]; exact hb
 unfold oneR; split
 · exact ⟨h1, Nat.le_refl _⟩
 · split
   · unfold sevR
     split
     · exact ⟨h0, Nat.zero_le _⟩
     · split
       · exact ⟨h0, Nat.zero_le _⟩
       · exact ⟨h1, Nat.le_refl _⟩
   · split
     · exact ⟨h0, Nat.zero_le _⟩
     · split
       · exact ⟨h0, Nat.zero_le _⟩
       · refine ⟨fun v hv => ?_, by rw [List.length_map]; exact oneM_len _ _ _⟩
         obtain ⟨c, hc, rfl⟩ := List.mem_map.1 hv; exact ⟨Nat.zero_le _, oneM_rows k ex ⟨u.r, u.d⟩ he hu.2 c hc⟩
theorem mad_ok (k : Int) {ex : List E} (he : ex.length ≤ Bnd) {us : List Up} (h : Up.sms us) : ∀ i : Nat, i ≤ us.length → Up.sms (madL k ex (us.take i)).1 ∧ (madL k ex (us.take i)).1.length ≤ i
 | 0, _ => ⟨fun u hu => by simp [madL] at hu, by simp [madL]⟩
 | i + 1, hi => by
   obtain ⟨h1, h2⟩ := mad_ok k he h i (by omega)
   obtain ⟨x, hx⟩ : ∃ x, us[i]? = some x := ⟨_, List.getElem?_eq_getElem (by omega)⟩
   obtain ⟨h3, h4⟩ := oneR_ok k he (h x (List.mem_of_getElem? hx)); rw [madL_snoc hx]; refine ⟨fun v hv => ?_, by simp only [madS, List.length_append]; omega⟩
   rcases List.mem_append.1 hv with hv | hv
   · exact h1 v hv
   · exact h3 v hv
attribute [local simp] Pl.av Up.row Tm.av Tm.row finR3 Tm.zero lmap Up.av in
theorem spec44_bad (k m : Int) (kids : List Pl) (ex : List E) (cols wth : List Int) (agg rds : Int) (he : ex.length ≤ Bnd) (us : List Up) (hus : us.length ≤ 4 * Bnd) (hsm : Up.sms us) (h0 : (chkUs us == 0) = false) : Flat.Sp Tryz.prog 33 [(Pl.mk k m kids ex cols wth agg rds).av, .p (.ps (us.map Up.row))] [] (.tup [.p (.ps ((([], Tm.zero, chkUs us) : List Up × Tm × Int).1.map Up.row)), (([], Tm.zero, chkUs us) : List Up × Tm × Int).2.1.av, vv (.int .i64 (([], Tm.zero, chkUs us) : List Up × Tm × Int).2.2)]) [] := by
 refine sk Tryz.func33 ?_; intro F G hn hG; have hcap : Cap ≤ Flat.lim := by decide
 have hcap2 : Cap = 1073741824 := rfl; have hus1 : us.length ≤ 4194304 := hus; have h0b : (chkUs us != 0) = true := by simpa using h0
 refine srp 1000 [1,3,4,10,11,52,53,55,56,62] ?_; refine src 2000 ?_; refine oc id (spec80 us (by omega) hsm) ?_
 refine oe 2100 ?_; refine onp [1,3,4,10,11,14,16,52,53,55,56,62] ?_
 apply k_do
 · refine map_region hn rfl ?_ ?_ ?_ ?_ ?_ ?_ ?_ <;> exact ⟨rfl, rfl, rfl⟩
 · intro G2 b hn2 hM
   have hn3 := hn2.trans hn; refine oe 4000 ?_; iterate 5 (refine os ?_)
   refine oe 4090 ?_; refine odone [1, 2, 5, 7, 26]
 refine ce ?_; refine k_skip ?_; refine sq ?_; refine srp 6000 [1,3,4,8,9,10,11,14,28,52,53,55,56,62] ?_; refine ct ?_; refine srp 7000 [1,3,4,7,9,10,11,14,31,52,53,55,56,62] ?_; refine k_ret ?_; show retQ _ _ _ _ _ _ _; simp [*]
attribute [local simp] Pl.av Up.row Tm.av Tm.row finR3 Tm.zero lmap Up.av in
theorem spec44_form (k m : Int) (kids : List Pl) (ex : List E) (cols wth : List Int) (agg rds : Int) (he : ex.length ≤ Bnd) (us : List Up) (hus : us.length ≤ 4 * Bnd) (hsm : Up.sms us) (h0 : chkUs us = 0) (hk : known k = false) : Flat.Sp Tryz.prog 33 [(Pl.mk k m kids ex cols wth agg rds).av, .p (.ps (us.map Up.row))] [] (.tup [.p (.ps ((([], Tm.zero, 4) : List Up × Tm × Int).1.map Up.row)), (([], Tm.zero, 4) : List Up × Tm × Int).2.1.av, vv (.int .i64 (([], Tm.zero, 4) : List Up × Tm × Int).2.2)]) [] := by
 refine sk Tryz.func33 ?_; intro F G hn hG; have hcap : Cap ≤ Flat.lim := by decide
 have hcap2 : Cap = 1073741824 := rfl; have hus1 : us.length ≤ 4194304 := hus; have hk2 : (k == 3 || k == 4 || k == 6 || k == 5) = false := hk; have hk3 : (!k == 3 && (!k == 4 && (!k == 6 && !k == 5))) = true := kn_of hk2; refine srp 1000 [1,3,4,10,11,52,53,55,56,62] ?_; refine src 2000 ?_; refine oc id (spec80 us (by omega) hsm) ?_
 refine oe 2100 ?_; refine onp [1,3,4,10,11,14,16,52,53,55,56,62] ?_
 apply k_do
 · refine map_region hn rfl ?_ ?_ ?_ ?_ ?_ ?_ ?_ <;> exact ⟨rfl, rfl, rfl⟩
 · intro G2 b hn2 hM
   have hn3 := hn2.trans hn; refine oe 4000 ?_; refine gt 4050 ?_; refine gt 4060 ?_; refine gt 4070 ?_; refine olk hM (fun w hw => run_look hw) ?_
   refine gt 4080 ?_; refine oe 4090 ?_; refine odone [1, 2, 5, 7, 26]
 refine ct ?_; refine rgp 5000 [1,3,4,8,9,10,11,14,27,52,53,55,56,62] ?_; refine sq ?_; refine srp 6000 [1,3,4,8,9,10,11,14,28,52,53,55,56,62] ?_; refine ct ?_; refine srp 7000 [1,3,4,7,9,10,11,14,31,52,53,55,56,62] ?_; refine k_ret ?_; show retQ _ _ _ _ _ _ _; simp [*]
attribute [local simp] Pl.av Up.row Tm.av Tm.row finR3 Tm.zero lmap Up.av in
set_option maxHeartbeats 1000000 in
theorem spec44_ok (k m : Int) (kids : List Pl) (ex : List E) (cols wth : List Int) (agg rds : Int) (he : ex.length ≤ Bnd) (us : List Up) (hus : us.length ≤ 4 * Bnd) (hsm : Up.sms us) (h0 : chkUs us = 0) (hk : known k = true) : Flat.Sp Tryz.prog 33 [(Pl.mk k m kids ex cols wth agg rds).av, .p (.ps (us.map Up.row))] [] (.tup [.p (.ps ((finR3 (doneR (madL k ex us).2 (madL k ex us).1)).1.map Up.row)), (finR3 (doneR (madL k ex us).2 (madL k ex us).1)).2.1.av, vv (.int .i64 (finR3 (doneR (madL k ex us).2 (madL k ex us).1)).2.2)]) [] := by
 refine sk Tryz.func33 ?_; intro F G hn hG; have hcap : Cap ≤ Flat.lim := by decide
 have hcap2 : Cap = 1073741824 := rfl; have hus1 : us.length ≤ 4194304 := hus; have hk2 : (k == 3 || k == 4 || k == 6 || k == 5) = true := hk; have hk3 : (!k == 3 && (!k == 4 && (!k == 6 && !k == 5))) = false := kn_of hk2; have hk4 : k = 3 ∨ k = 4 ∨ k = 5 ∨ k = 6 := by simp [Bool.or_eq_true] at hk2; omega
 have hz0 : madL k ex [] = ([], (false, ⟨0, 0, 0⟩)) := rfl; refine srp 1000 [1,3,4,10,11,52,53,55,56,62] ?_; refine src 2000 ?_; refine oc id (spec80 us (by omega) hsm) ?_
 refine oe 2100 ?_; refine onp [1,3,4,10,11,14,16,52,53,55,56,62] ?_
 apply k_do
 · refine map_region hn rfl ?_ ?_ ?_ ?_ ?_ ?_ ?_ <;> exact ⟨rfl, rfl, rfl⟩
 · intro G2 b hn2 hM
   have hn3 := hn2.trans hn; refine oe 4000 ?_; refine gt 4050 ?_; refine gt 4060 ?_; refine gt 4070 ?_; refine olk hM (fun w hw => run_look hw) ?_
   refine gt 4080 ?_; refine oe 4090 ?_; refine odone [1, 2, 5, 7, 26]
 refine ce ?_; refine k_skip ?_; refine sq ?_; refine srp 6000 [1,3,4,8,9,10,11,14,28,52,53,55,56,62] ?_; refine ce ?_; refine k_skip ?_; refine srp 8000 [1,3,4,7,9,10,11,14,33,52,53,55,56,62] ?_; refine ow (.cell 8001 4) 900 37 6 ?_; refine sq ?_; refine srp 9000 [2,3,4,7,9,10,11,14,33,52,53,55,56,62] ?_; refine k_block ?_; refine k_loop (fun n l => ∃ i, i + n = us.length ∧ (True) ∧ l = [(.tmp 2, .av (.ptr 1000 0)), (.var 1000, .n 8), (.cell 1000 0, .av (vv (.int .u8 k))), (.cell 1000 1, .av (vv (.int .i64 m))), (.cell 1000 2, .av (.p (.ps (kids.map Pl.row)))), (.cell 1000 3, .av (.p (.ps (ex.map E.row)))), (.cell 1000 4, .av (.p (.ps (cols.map irow)))), (.cell 1000 5, .av (.p (.ps (wth.map irow)))), (.cell 1000 6, .av (vv (.int .u8 agg))), (.cell 1000 7, .av (vv (.int .i64 rds))), (.tmp 5, .av (.ptr 1002 0)), (.var 1002, .n 3), (.cell 1002 0, .av (vv (.int .u64 0))), (.cell 1002 1, .av (vv (.int .u64 0))), (.cell 1002 2, .av (vv (.int .u64 0))), (.tmp 9, .av (.ptr 8001 0)), (.tmp 33, .av (.p (.ps (us.map Up.row)))), (.tmp 34, .av (vv (.int .i64 us.length))), (.tmp 35, .av (vv (.int .i64 i))), (.var 8001, .n 5), (.cell 8001 0, .av (vv (.bool (madL k ex (us.take i)).2.1))), (.cell 8001 1, .av (vv (.int .u64 (madL k ex (us.take i)).2.2.e))), (.cell 8001 2, .av (vv (.int .u64 (madL k ex (us.take i)).2.2.a))), (.cell 8001 3, .av (vv (.int .u64 (madL k ex (us.take i)).2.2.b))), (.cell 8001 4, .av (.sl 900 (madL k ex (us.take i)).1.length 0 (madL k ex (us.take i)).1.length)), (.arr 900, .arr 37 6 ((madL k ex (us.take i)).1.map Up.row) 0)]) (us.length) hG ⟨_, ⟨by simp [*], by simp, by simp⟩, 0, by simp, trivial, rfl⟩ ?_
 rintro n _ ⟨i, hin, hfa, rfl⟩; obtain ⟨has, hal⟩ := mad_ok k he hsm i (by omega)
 obtain ⟨a, ha⟩ : ∃ a, madL k ex (us.take i) = a := ⟨_, rfl⟩; rw [ha] at has hal; refine srp 10000 [2,3,4,7,9,10,11,14,33,52,53,55,56,62] ?_; refine sq ?_; refine cd ?_ ?_
 · intro h36_1
   have hlt : i < us.length := by simpa using h36_1
   obtain ⟨x, hxe⟩ : ∃ x, us[i] = x := ⟨_, rfl⟩; have hx : us[i]? = some x := by simp [hlt, hxe]
   have hw := wrap_succ (show i < Flat.lim by omega)
   have hes := madL_snoc (k := k) (ex := ex) hx; rw [ha] at hes; have hxs := hsm x (List.mem_of_getElem? hx); obtain ⟨ho1, ho2⟩ := oneR_ok k he hxs; refine k_skip ?_; refine sq ?_; refine k_block ?_; refine srp 11000 [2,3,4,7,9,10,11,14,33,52,53,55,56,62] ?_; refine src 12000 ?_; refine oc id (spec81 k m kids ex cols wth agg rds he hk4 x hxs) ?_; refine oe 12100 ?_; refine onp [2,3,4,7,9,10,11,14,33,52,53,55,56,62] ?_; refine sq ?_; refine srp 13000 [2,3,4,7,9,10,11,14,33,52,53,55,56,62] ?_; refine cd ?_ ?_
   · intro h46_2
     have hok : (oneR k ex x).2 = false := by simpa using h46_2
     replace hes : madL k ex (us.take (i + 1)) = (a.1 ++ (oneR k ex x).1, noteR a.2 x.t) := by rw [hes, madS, hok]; rfl
     have h83 := spec83 (noteR a.2 x.t) a.1 (oneR k ex x).1 (by omega)
     refine dr ?_; refine de 14000 ?_; refine dc (fun k => if k = 0 then 8001 else 900) (spec82s a.1 a.2 x.t) ?_
     refine dn ?_; refine pr [2,3,4,7,9,10,11,14,33,52,53,55,56,62] ?_; refine rc 15000 ?_; refine oc (fun k => if k = 0 then 8001 else 900) (h83) ?_
     refine on ?_; refine k_nil ?_; show AK _ _ _ _ _ _; refine rg 16000 ?_; refine k_nil ?_; refine ⟨n - 1, by omega, _, ⟨?_, ?_, ?_⟩, i + 1, by omega, trivial, rfl⟩ <;> simp [*, *]
   · intro h46_2
     have hok : (oneR k ex x).2 = true := by simpa using h46_2
     replace hes : madL k ex (us.take (i + 1)) = (a.1 ++ (oneR k ex x).1, a.2) := by rw [hes, madS, hok]; rfl
     have h83 := spec83 a.2 a.1 (oneR k ex x).1 (by omega)
     refine k_skip ?_; refine rc 15000 ?_; refine oc (fun k => if k = 0 then 8001 else 900) (h83) ?_
     refine on ?_; refine k_nil ?_; show AK _ _ _ _ _ _; refine rg 16000 ?_; refine k_nil ?_; refine ⟨n - 1, by omega, _, ⟨?_, ?_, ?_⟩, i + 1, by omega, trivial, rfl⟩ <;> simp [*, *]
 · intro h36_1
   have hge : us.length ≤ i := by simpa using h36_1
   obtain rfl : i = us.length := by omega
   have htk : us.take us.length = us := List.take_length ..; rw [htk] at ha; have hfr : (a.1.map Up.row).take a.1.length = a.1.map Up.row := List.take_of_length_le (by simp)
   rw [ha]; refine fz 900 ?_; refine k_exit ?_; show AK _ _ _ _ _ _; refine src 17000 ?_; refine oc (fun _ => 8001) (spec84 a.2 a.1 (by omega) has) ?_
   refine oe 17100 ?_; refine onp [4,7] ?_; refine k_ret ?_; show retQ _ _ _ _ _ _ _; simp [*]
theorem spec44 (k m : Int) (kids : List Pl) (ex : List E) (cols wth : List Int) (agg rds : Int) (he : ex.length ≤ Bnd) (us : List Up) (hus : us.length ≤ 4 * Bnd) (hsm : Up.sms us) : Flat.Sp Tryz.prog 33 [(Pl.mk k m kids ex cols wth agg rds).av, .p (.ps (us.map Up.row))] [] (.tup [.p (.ps ((doR k ex us).1.map Up.row)), (doR k ex us).2.1.av, vv (.int .i64 (doR k ex us).2.2)]) [] := by
 by_cases h0 : chkUs us = 0
 · cases hk : known k with
   | true =>
     have e : doR k ex us = finR3 (doneR (madL k ex us).2 (madL k ex us).1) := by rw [doR, h0, hk]; rfl
     rw [e]; exact spec44_ok k m kids ex cols wth agg rds he us hus hsm h0 hk
   | false =>
     have e : doR k ex us = ([], Tm.zero, 4) := by rw [doR, h0, hk]; rfl
     rw [e]; exact spec44_form k m kids ex cols wth agg rds he us hus hsm h0 hk
 · have e : doR k ex us = ([], Tm.zero, chkUs us) := by rw [doR, if_pos (by simpa using h0)]
   rw [e]; exact spec44_bad k m kids ex cols wth agg rds he us hus hsm (by simpa using h0)
end
end Go.Proofs
end
