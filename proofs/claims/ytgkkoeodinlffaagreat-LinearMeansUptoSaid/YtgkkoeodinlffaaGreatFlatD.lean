/-
  Flat, part 19: rules in the shape in which they are used: a list of what is still to be done. (and 7 texts more)
-/
import Derived.Test.YtgkkoeodinlffaaGreatFlatC
import Derived.Laws.Cover3
import GoSem.ClaimChange
import Derived.ProofKit
import Derived.JoinedCond
section
set_option linter.unusedVariables false
set_option linter.unusedSimpArgs false
namespace Go.Flat
section
variable {P : Program} {F : Nat → Nat → Prop} {G : Start} {l l' : List (Loc × C)} {Q : Post}
def Is {α : Type} (a b : α) : Prop := a = b
theorem is_rfl {α : Type} (a : α) : Is a a := rfl
def AK (P : Program) (F : Nat → Nat → Prop) (G : Start) : List Code → Post → List (Loc × C) → Prop
 | [], Q, l => Q .normal l
 | c :: cs, Q, l => AWP P F G c (thenQ (AK P F G cs Q) Q) l
theorem awp_of_ak {c : Code} (h : AK P F G [c] Q l) : AWP P F G c Q l := awp_mono h fun e l hq => by cases e <;> exact hq
theorem k_seq {a b : Code} {cs : List Code} (h : AK P F G (a :: b :: cs) Q l) : AK P F G (.seq a b :: cs) Q l :=
 awp_seq (awp_mono h fun e l hq => by cases e <;> exact hq)
theorem k_cond {c : Operand} {x y : Code} {cs : List Code} {b : Bool} (hc : Is (ev (lk l) c) (some (.p (.v (.bool b))))) (h1 : b = true → AK P F G (x :: cs) Q l) (h2 : b = false → AK P F G (y :: cs) Q l) : AK P F G (.cond c x y :: cs) Q l := awp_cond hc h1 h2
theorem k_then {c : Operand} {x y : Code} {cs : List Code} (hc : Is (ev (lk l) c) (some (.p (.v (.bool true))))) (h1 : AK P F G (x :: cs) Q l) : AK P F G (.cond c x y :: cs) Q l := awp_cond hc (fun _ => h1) (fun h => by simp at h)
theorem k_else {c : Operand} {x y : Code} {cs : List Code} (hc : Is (ev (lk l) c) (some (.p (.v (.bool false))))) (h1 : AK P F G (y :: cs) Q l) : AK P F G (.cond c x y :: cs) Q l := awp_cond hc (fun h => by simp at h) (fun _ => h1)
theorem k_skip {cs : List Code} (h : AK P F G cs Q l) : AK P F G (.skip :: cs) Q l := awp_skip h
theorem k_ret {cs : List Code} (h : Q .ret l) : AK P F G (.ret :: cs) Q l := awp_ret h
theorem k_exit {id : Nat} {cs : List Code} (h : Q (.exit id) l) : AK P F G (.exit id :: cs) Q l := awp_exit h
theorem k_block {id : Nat} {c : Code} {cs : List Code} (h : AK P F G [c] (inBlockQ id (thenQ (AK P F G cs Q) Q)) l) : AK P F G (.block id c :: cs) Q l := awp_block (awp_of_ak h)
theorem k_nil (h : Q .normal l) : AK P F G [] Q l := h
theorem o_nil {ops : Array Oper} {cs : List Code} (h : AK P F G cs Q l) : AOps P F G ops (thenQ (AK P F G cs Q) Q) [] l := aops_nil h
theorem o_call {ops : Array Oper} {R : Post} {o : Oper} {rest : List Oper} {n : Nat} (hn : G.n = n) {fo : Operand} {ar : Array Operand} {tys : Array TypeId} {k : Nat} {cap xs cargs : List AV} {s s' : List (Loc × C)} {res : AV} (ι : Nat → Nat)
   (hop : o.op = .call { callee := .value fo, args := ar, argTypes := tys }) (hg : guardL ops l o = some true) (hf : Is (ev (lk l) fo) (some (.fn (.func k) cap))) (hx : Is (evs (lk l) ar.toList) (some xs)) (hE : Enters P k) (hS : Spec P k cargs s res s')
   (hargs : leA.leL (xs ++ cap) (renA.renL ι cargs)) (hB : callB ι cargs s s' l = true) (hL : LiesAt ι l s) (hd : Is (putL n o.dst (renA ι res) (backL ι s' l)) (some l')) (h : AOps P F G ops R rest l') : AOps P F G ops R (o :: rest) l :=
 aops_call ι hop hg hf hx hE hS hargs hB hL (by rw [hn]; exact hd) h
theorem o_ext {ops : Array Oper} {R : Post} {o : Oper} {rest : List Oper} {n : Nat} (hn : G.n = n) {fo : Operand} {ar : Array Operand} {tys : Array TypeId} {k : Nat} {vs rs : List Value}
   (hop : o.op = .call { callee := .value fo, args := ar, argTypes := tys }) (hg : guardL ops l o = some true) (hf : Is (ev (lk l) fo) (some (.fn (.func k) []))) (hx : Is (evs (lk l) ar.toList) (some (vs.map vv)))
   (hr : ∀ w, (callFunc k vs.toArray).run P w = .ok (.value (.tuple rs.toArray)) w) (h1 : ∀ v ∈ rs, v.oneCell' = true) (hd : Is (putL n o.dst (.tup (rs.map vv)) l) (some l')) (h : AOps P F G ops R rest l') : AOps P F G ops R (o :: rest) l := by
 intro ρ a w hrel; unfold wpList; rw [guardL_wanted hrel hg]; simp only [if_true]; refine .inl ?_; have hfv := ev_ar hrel hf; generalize hv : a.eval fo = v at hfv
 cases hfv with
 | fn hnn hA =>
   rename_i us
   obtain ⟨e1, e2⟩ := evs_ar hrel hx; have hus : us = #[] := by simpa using hnn
   subst hus
   have hargs : ar.map a.eval = vs.toArray := by
     apply Array.toList_inj.1; rw [Array.toList_map]; apply List.ext_getElem?; intro j; simp only [List.length_map] at e1
     by_cases hj : j < vs.length
     · have h2 : (vs.map vv)[j]? = some (vv vs[j]) := by simp [hj]
       have h3 : (ar.toList.map a.eval)[j]? = some (a.eval (ar.toList[j]'(by omega))) := by simp [show j < ar.size by simpa using (by omega : j < ar.toList.length)]
       have := (e2 j _ _ h2 h3).vv_inv; rw [h3, this]; simp [hj]
     · rw [List.getElem?_eq_none (by simp; simp at e1; omega), List.getElem?_eq_none (by simp; omega)]
   unfold Oper.wp
   have hrun : (execOp a.eval o).run P w = .ok (.value (.tuple rs.toArray)) w := by
     simp only [execOp, hop, resolve, hv, Deferred.ofValue, Sem.run_bind, Sem.run_pure, Result.andThen_ok, invoke, Array.empty_append, Array.append_empty, hargs]; exact hr w
   rw [hrun]; refine h ρ _ w (putL_rel hrel (.tup (cs := rs.map vv) (by simp) fun j x v hj hv => ?_) (by rw [hn]; exact hd))
   simp only [List.getElem?_map, Option.map_eq_some_iff] at hj; obtain ⟨u, hu, rfl⟩ := hj
   have : v = u := by
     simp only [List.getElem?_toArray] at hv; rw [hu] at hv; exact (Option.some.inj hv).symm
   subst this; exact .p (.v (h1 v (List.mem_of_getElem? hu)))
theorem k_frz {s : List (Loc × C)} {cs : List Code} (id : Nat) {e sz pub : Nat} {xs : List (List PV)} (hne : cs ≠ []) (hG : G.t = lk s) (ha : lk l (.arr id) = some (.arr e sz xs pub)) (hok : okS l = true) (hH : hasB s (frzS id xs l) (ids s) = true) (hid : id < 4294967296)
   (hl : Is (frzS id xs l) l') (h : AK P F G cs Q l') : AK P F G cs Q l := by
 cases cs with
 | nil => exact absurd rfl hne
 | cons c cs =>
   unfold Is at hl; subst hl; exact fun ρ a w hr => h ρ a w (frz_rel hG hr ha hok hH hid)
theorem k_prune {cs : List Code} (ks : List Nat) (hne : cs ≠ []) (hl : Is (keepT ks l) l') (h : AK P F G cs Q l') : AK P F G cs Q l := by
 cases cs with
 | nil => exact absurd rfl hne
 | cons c cs =>
   unfold Is at hl; subst hl; exact fun ρ a w hr => h ρ a w (keep_rel hr)
theorem k_own {s : List (Loc × C)} {cs : List Code} (x : Loc) (id e sz : Nat) (hne : cs ≠ []) (hG : G.t = lk s) (hx : lk l x = some (.av (.psf []))) (hl : ∀ k, x ≠ .var k ∧ x ≠ .arr k) (hf : fresh (lk l) id = true) (hs0 : 0 < sz)
   (hH : hasB s (ins x (.av (.sl id 0 0 0)) (ins (.arr id) (.arr e sz [] 0) l)) (ids s) = true) (hl2 : Is (ins x (.av (.sl id 0 0 0)) (ins (.arr id) (.arr e sz [] 0) l)) l') (h : AK P F G cs Q l') : AK P F G cs Q l := by
 cases cs with
 | nil => exact absurd rfl hne
 | cons c cs =>
   unfold Is at hl2; subst hl2; intro ρ a w hr; obtain ⟨ρ', h2⟩ := own_rel (e := e) (sz := sz) hG hH hr hx hl hf hs0; exact h ρ' a w h2
theorem k_draw {id : Nat} {ops : Array Oper} {cs : List Code} (hm : P.follows .mixedOrders = true) (hord : ordB 0 ops.toList = true) (h : DGo P F G ops (thenQ (AK P F G cs Q) Q) ops.toList l []) : AK P F G (.region id ops true :: cs) Q l := awp_drawn hm hord h
theorem d_nil {ops : Array Oper} {cs : List Code} {acc : List (Foot × Foot)} (h : indepB (masks ops.toList []) [] acc = true) (hq : AK P F G cs Q l) : DGo P F G ops (thenQ (AK P F G cs Q) Q) [] l acc := dgo_nil h hq
theorem d_call {ops : Array Oper} {R : Post} {acc : List (Foot × Foot)} {o : Oper} {rest : List Oper} {n : Nat} (hn : G.n = n) {fo : Operand} {ar : Array Operand} {tys : Array TypeId} {k : Nat} {cap xs cargs : List AV} {s s' : List (Loc × C)} {res : AV} (ι : Nat → Nat)
   (hop : o.op = .call { callee := .value fo, args := ar, argTypes := tys }) (hg : guardL ops l o = some true) (hf : Is (ev (lk l) fo) (some (.fn (.func k) cap))) (hx : Is (evs (lk l) ar.toList) (some xs)) (hE : Enters P k) (hS : Spec P k cargs s res s')
   (hargs : leA.leL (xs ++ cap) (renA.renL ι cargs)) (hB : callB ι cargs s s' l = true) (hL : LiesAt ι l s) (hd : Is (putL n o.dst (renA ι res) (backL ι s' l)) (some l'))
   (h : DGo P F G ops R rest l' (acc ++ [(callR ops o (fo :: ar.toList) ι s s', callW o ι s')])) : DGo P F G ops R (o :: rest) l acc := dgo_call ι hop hg hf hx hE hS hargs hB hL (by rw [hn]; exact hd) h
theorem d_callk {ops : Array Oper} {R : Post} {acc : List (Foot × Foot)} {o : Oper} {rest : List Oper} {n : Nat} (ks : List Nat) (hn : G.n = n) {fo : Operand} {ar : Array Operand} {tys : Array TypeId} {k : Nat} {cap xs cargs : List AV} {s s' : List (Loc × C)} {res : AV} (ι : Nat → Nat)
   (hop : o.op = .call { callee := .value fo, args := ar, argTypes := tys }) (hg : guardL ops l o = some true) (hf : Is (ev (lk l) fo) (some (.fn (.func k) cap))) (hx : Is (evs (lk l) ar.toList) (some xs)) (hE : Enters P k) (hS : Spec P k cargs s res s')
   (hargs : leA.leL (xs ++ cap) (renA.renL ι cargs)) (hB : callB ι cargs s s' l = true) (hL : LiesAt ι l s) (hd : Is (putL n o.dst (renA ι res) (backL ι s' l)) (some l')) (hk : KeptO l l' ks)
   (h : DGo P F G ops R rest l' (acc ++ [(callR ops o (fo :: ar.toList) ι s s', callWk o ι s' ks)])) : DGo P F G ops R (o :: rest) l acc := dgo_callk ι ks hop hg hf hx hE hS hargs hB hL (by rw [hn]; exact hd) hk h
theorem k_loop {s : List (Loc × C)} {c : Code} {cs : List Code} (I : Nat → List (Loc × C) → Prop) (n0 : Nat) (hG : G.t = lk s) (h0 : ∃ l2, Weak s l l2 ∧ I n0 l2)
   (h : ∀ n l, I n l → AK P F G [c] (thenQ (fun l' => ∃ n', n' < n ∧ ∃ l2, Weak s l' l2 ∧ I n' l2) (thenQ (AK P F G cs Q) Q)) l) : AK P F G (.loop c :: cs) Q l :=
 awp_loopw I n0 hG h0 fun n l hI => awp_of_ak (h n l hI)
def RK (P : Program) (F : Nat → Nat → Prop) (G : Start) (c : Code) (cs : List Code) (Q : Post) : Nat → List (Loc × C) → Prop
 | 0, _ => False
 | n + 1, l => AK P F G [c] (thenQ (RK P F G c cs Q n) (thenQ (AK P F G cs Q) Q)) l
theorem k_rounds {c : Code} {cs : List Code} (n : Nat) (h : RK P F G c cs Q n l) : AK P F G (.loop c :: cs) Q l := by
 refine awp_loop (fun n l => RK P F G c cs Q n l) n h fun n l hI => ?_
 cases n with
 | zero => exact hI.elim
 | succ n =>
   refine awp_mono (awp_of_ak hI) fun e l' hq => ?_
   cases e with
   | normal => exact ⟨n, Nat.lt_succ_self n, hq⟩
   | _ => exact hq
theorem k_cut {s : List (Loc × C)} {c : Code} {cs : List Code} (l2 : List (Loc × C)) (hG : G.t = lk s) (h1 : AK P F G [c] (fun e l' => e = .normal ∧ Weak s l' l2) l) (h2 : AK P F G cs Q l2) : AK P F G (c :: cs) Q l := by
 intro ρ a w hr; refine wp_mono (awp_of_ak h1 ρ a w hr) ?_; rintro e a' w' ⟨l', ρ', ⟨rfl, hW⟩, hr'⟩; exact ⟨l2, ρ', h2, hW.rel hG hr'⟩
def insAll : List (Loc × AV) → List (Loc × C) → List (Loc × C)
 | [], l => l
 | (k, x) :: r, l => insAll r (ins k (.av x) l)
theorem k_cutV {s : List (Loc × C)} {c : Code} {cs : List Code} (vals : List (Loc × AV)) (hG : G.t = lk s) (hl : Is (insAll vals l) l') (h1 : AK P F G [c] (fun e l2 => e = .normal ∧ Weak s l2 l') l) (h2 : AK P F G cs Q l') : AK P F G (c :: cs) Q l := k_cut l' hG h1 h2
theorem spec_k {f : Nat} {fn : Func} {c : Code} {args : List AV} {s s' : List (Loc × C)} {res : AV} (hf : P.funcs[f]? = some fn) (hb : fn.body = some c) (hn : args.length ≤ fn.ntmps) (hs : noTmp s = true)
   (h : ∀ F G, G.n = fn.ntmps → G.t = lk s → AK P F G [c] (retQ (tyOf P) fn.results.toList res s s') (app (tmpsL 0 args) s)) : Spec P f args s res s' :=
 spec_of hf hb hn hs fun F G h1 h2 => awp_of_ak (h F G h1 h2)
end
end Go.Flat
end
section
set_option linter.unusedVariables false
set_option linter.unusedSimpArgs false
namespace Go.Flat
def optA (g : Bool) (a : AV) : AV := if g = true then a else .tup []
@[simp] theorem optA_true (a : AV) : optA true a = a := rfl
@[simp] theorem optA_false (a : AV) : optA false a = .tup [] := rfl
def grdL {α : Type} (g : Bool) (x : Option α) : Option α := if g = true then x else none
theorem grdL_of {α : Type} {g : Bool} {x y : Option α} (h : g = true → x = y) : grdL g x = grdL g y := by
 cases g with
 | true => exact h rfl
 | false => rfl
@[simp] theorem pickF_true (a b : AV) : pickF true a b = a := by unfold pickF; split <;> simp [vv]
@[simp] theorem pickF_false (a b : AV) : pickF false a b = b := by unfold pickF; split <;> simp [vv]
@[simp] theorem pick_opt1 (q : Bool) (a b : AV) : pickF q (optA q a) b = pickF q a b := by
 cases q with
 | true => rfl
 | false => rw [pickF_false, pickF_false]
@[simp] theorem pick_opt2 (q : Bool) (a b : AV) : pickF q a (optA (!q) b) = pickF q a b := by
 cases q with
 | false => rfl
 | true => rw [pickF_true, pickF_true]
@[simp] theorem pick_opt3 (q : Bool) (a b : AV) : pickF (!q) a (optA q b) = pickF (!q) a b := by
 cases q with
 | true => rfl
 | false => rw [Bool.not_false, pickF_true, pickF_true]
@[simp low] theorem pick_opt4 {q r : Bool} (a b : AV) (h : q = false → r = true) : pickF q a (optA r b) = pickF q a b := by
 cases q with
 | true => rw [pickF_true, pickF_true]
 | false => rw [h rfl]; rfl
@[simp low] theorem pick_opt5 {q r : Bool} (a b : AV) (h : q = true → r = true) : pickF q (optA r a) b = pickF q a b := by
 cases q with
 | false => rw [pickF_false, pickF_false]
 | true => rw [h rfl]; rfl
@[simp] theorem pick_opt6 (p q : Bool) (a b : AV) : pickF (p && q) a (optA (!p || !q) b) = pickF (p && q) a b := by
 cases p <;> cases q <;> simp [pickF_true, pickF_false]
@[simp] theorem pick_opt7 (p q : Bool) (a b : AV) : pickF (p || q) a (optA (!p && !q) b) = pickF (p || q) a b := by
 cases p <;> cases q <;> simp [pickF_true, pickF_false]
@[simp] theorem pick_and (q x : Bool) : pickF q (.p (.v (.bool x))) (.p (.v (.bool false))) = .p (.v (.bool (q && x))) := by cases q <;> rfl
@[simp] theorem pick_or (q x : Bool) : pickF q (.p (.v (.bool true))) (.p (.v (.bool x))) = .p (.v (.bool (q || x))) := by cases q <;> rfl
def gb (x : AV) (want : Bool) : Option Bool := match x with
 | .p (.v (.bool b)) => some (b == want)
 | .tup [] => some false
 | _ => none
@[simp] theorem gb_bool (b want : Bool) : gb (.p (.v (.bool b))) want = some (b == want) := rfl
@[simp] theorem gb_no (want : Bool) : gb (.tup []) want = some false := rfl
@[simp] theorem gb_opt (g b want : Bool) : gb (optA g (.p (.v (.bool b)))) want = some (g && (b == want)) := by cases g <;> rfl
def guardG (ops : Array Oper) (l : List (Loc × C)) (o : Oper) : Option Bool :=
 match o.guard with
 | none => some true
 | some (j, want) => match (ops[j]?).bind (·.dst) with
   | some d => match lk l (.tmp d) with
     | some (.av x) => gb x want
     | _ => none
   | none => none
theorem guardG_eq {ops : Array Oper} {l : List (Loc × C)} {o : Oper} {b : Bool} (h : guardG ops l o = some b) : guardL ops l o = some b := by
 unfold guardG at h; unfold guardL
 cases hg : o.guard with
 | none => rw [hg] at h; exact h
 | some p =>
   obtain ⟨j, want⟩ := p; rw [hg] at h; simp only at h ⊢
   cases hd : (ops[j]?).bind (·.dst) with
   | none => rw [hd] at h; simp at h
   | some d =>
     rw [hd] at h; simp only at h ⊢
     cases hx : lk l (.tmp d) with
     | none => rw [hx] at h; simp at h
     | some c =>
       rw [hx] at h
       cases c with
       | av x =>
         simp only [gb] at h
         cases x with
         | p y =>
           cases y with
           | v z => cases z <;> first | exact h | simp at h
           | _ => simp at h
         | tup cs => cases cs <;> first | exact h | simp at h
         | _ => simp at h
       | _ => simp at h
def isNilCmp : Op → Bool
 | .binOp .eql _ _ (.const (.slice none 0 0)) _ => true
 | _ => false
def stopB (o : Oper) : Bool := match o.guard with
 | none => isCall o.op || isNilCmp o.op
 | some _ => true
def evalG (T : Nat → Option TI) (n : Nat) (ops : Array Oper) : List Oper → List (Loc × C) → Nat → Option (List (Loc × C) × Nat × List Oper)
 | [], l, nid => some (l, nid, [])
 | o :: rest, l, nid => if stopB o = true then some (l, nid, o :: rest) else match evalOp T (lk l) nid o.op with
   | some f => match putL n o.dst f.val (insV f.u l) with
     | some l' => evalG T n ops rest l' (nid + 1)
     | none => none
   | none => none
theorem stopB_guard {o : Oper} {ops : Array Oper} {l : List (Loc × C)} (h : ¬ stopB o = true) : guardL ops l o = some true := by
 unfold stopB at h; unfold guardL
 cases hg : o.guard with
 | none => rfl
 | some p => rw [hg] at h; exact absurd rfl h
section
variable {P : Program} {F : Nat → Nat → Prop} {G : Start} {ρ : Ren} {t : Sto} {l l' : List (Loc × C)} {a : Act} {w : World} {Q : Post}
theorem aops_evalG {ops : Array Oper} : ∀ {todo : List Oper} {l : List (Loc × C)} {nid : Nat} {l' : List (Loc × C)} {nid' : Nat} {rest : List Oper}, evalG (tyOf P) G.n ops todo l nid = some (l', nid', rest) → AOps P F G ops Q rest l' → AOps P F G ops Q todo l
 | [], l, nid, l', nid', rest, h, hA => by
   simp only [evalG, Option.some.injEq, Prod.mk.injEq] at h; obtain ⟨rfl, rfl, rfl⟩ := h; exact hA
 | o :: todo, l, nid, l', nid', rest, h, hA => by
   simp only [evalG] at h; split at h
   · simp only [Option.some.injEq, Prod.mk.injEq] at h
     obtain ⟨rfl, rfl, rfl⟩ := h; exact hA
   · rename_i hst
     split at h <;> try (simp at h; done)
     rename_i f hf
     split at h <;> try (simp at h; done)
     rename_i l1 hs
     intro ρ a w hr; unfold wpList; rw [guardL_wanted hr (stopB_guard hst)]; simp only [if_true]; refine .inl (stepL_wp (l' := l1) (nid := nid) ?_ hr fun ρ' a' w' hr' => aops_evalG h hA ρ' a' w' hr')
     unfold stepL; rw [hf]; exact hs
theorem o_true {ops : Array Oper} {R : Post} {o : Oper} {rest : List Oper} {n nid : Nat} {f : Eff} (hn : G.n = n) (hg : guardG ops l o = some true) (he : Is (evalOp (tyOf P) (lk l) nid o.op) (some f)) (hd : Is (putL n o.dst f.val (insV f.u l)) (some l')) (h : AOps P F G ops R rest l') : AOps P F G ops R (o :: rest) l := by
 intro ρ a w hr; unfold wpList; rw [guardL_wanted hr (guardG_eq hg)]; simp only [if_true]; refine .inl (stepL_wp (l' := l') (nid := nid) ?_ hr fun ρ' a' w' hr' => h ρ' a' w' hr')
 unfold stepL; rw [show evalOp (tyOf P) (lk l) nid o.op = some f from he, hn]
 exact hd
theorem o_opt {ops : Array Oper} {R : Post} {o : Oper} {rest : List Oper} {n nid : Nat} {g : Bool} {x : AV} (hn : G.n = n) (hg : guardG ops l o = some g) (he : g = true → Is (evalOp (tyOf P) (lk l) nid o.op) (some ⟨x, []⟩)) (hd : Is (putL n o.dst (optA g x) l) (some l')) (h : AOps P F G ops R rest l') : AOps P F G ops R (o :: rest) l := by
 cases g with
 | true => exact o_true hn hg (he rfl) hd h
 | false =>
   intro ρ a w hr; unfold wpList; rw [guardL_wanted hr (guardG_eq hg)]; simp only [Bool.false_eq_true, if_false]; exact h ρ _ w (putL_rel hr (.tup (cs := []) (by rfl) (by simp)) (by rw [hn]; exact hd))
theorem o_skip {ops : Array Oper} {R : Post} {o : Oper} {rest : List Oper} {n : Nat} (hn : G.n = n) (hg : guardG ops l o = some false) (hd : Is (putL n o.dst (.tup []) l) (some l')) (h : AOps P F G ops R rest l') : AOps P F G ops R (o :: rest) l := by
 intro ρ a w hr; unfold wpList; rw [guardL_wanted hr (guardG_eq hg)]; simp only [Bool.false_eq_true, if_false]; exact h ρ _ w (putL_rel hr (.tup (cs := []) (by rfl) (by simp)) (by rw [hn]; exact hd))
theorem o_callg {ops : Array Oper} {R : Post} {o : Oper} {rest : List Oper} {n : Nat} (hn : G.n = n) {g : Bool} {fo : Operand} {ar : Array Operand} {tys : Array TypeId} {k : Nat} {xs cargs : List AV} {res : AV}
   (hop : o.op = .call { callee := .value fo, args := ar, argTypes := tys }) (hg : guardG ops l o = some g) (hf : Is (grdL g (ev (lk l) fo)) (grdL g (some (.fn (.func k) [])))) (hx : Is (grdL g (evs (lk l) ar.toList)) (grdL g (some xs))) (hE : g = true → Enters P k) (hS : g = true → Spec P k cargs [] res [])
   (hargs : g = true → leA.leL xs (renA.renL id cargs)) (hB : g = true → callB id cargs [] [] l = true) (hd : Is (putL n o.dst (optA g (renA id res)) l) (some l')) (h : AOps P F G ops R rest l') : AOps P F G ops R (o :: rest) l := by
 cases g with
 | true =>
   have hd' : putL n o.dst (renA id res) (backL id [] l) = some l' := by
     have : backL id [] l = l := by
       unfold backL; simp only [renS, app, ids, List.map_nil]; clear hd h hB hx hf hg
       induction l with
       | nil => rfl
       | cons p r ih =>
         obtain ⟨k, c⟩ := p; cases k <;> simp [dropIds, memN, ih, locId]
     rw [this]; exact hd
   have hf' : ev (lk l) fo = some (.fn (.func k) []) := hf; have hx' : evs (lk l) ar.toList = some xs := hx; exact o_call (cap := []) hn id hop (guardG_eq hg) hf' hx' (hE rfl) (hS rfl) (by rw [List.append_nil]; exact hargs rfl) (hB rfl) trivial hd' h
 | false => exact o_skip hn hg hd h
end
end Go.Flat
end
section
set_option linter.unusedVariables false
set_option linter.unusedSimpArgs false
namespace Go.Flat
def efD (T : Nat → Option TI) (ops : Array Oper) (t : Sto) (nid : Nat) (o : Oper) : Option (Eff × (Foot × Foot)) :=
 match evalOp T t nid o.op with
 | some f => match feet T ops t nid o f.u with
   | some ft => some (f, ft)
   | none => none
 | none => none
def skF (ops : Array Oper) (o : Oper) : Foot × Foot := ((.mk2 (guardTs ops o) []), (.mk2 (dstTs o.dst) []))
def evalX (T : Nat → Option TI) (n : Nat) (ops : Array Oper) : List Oper → List (Loc × C) → Nat → Option (List (Loc × C) × Nat × List Oper × List (Foot × Foot))
 | [], l, nid => some (l, nid, [], [])
 | o :: rest, l, nid => if stopB o = true then some (l, nid, o :: rest, []) else match evalOp T (lk l) nid o.op with
   | some f => match feet T ops (lk l) nid o f.u with
     | some ft => match putL n o.dst f.val (insV f.u l) with
       | some l' => match evalX T n ops rest l' (nid + 1) with
         | some (l2, n2, r2, E) => some (l2, n2, r2, ft :: E)
         | none => none
       | none => none
     | none => none
   | none => none
section
variable {P : Program} {F : Nat → Nat → Prop} {G : Start} {ops : Array Oper} {l l' : List (Loc × C)}
theorem opOK_mono {o : Oper} {R R' W : Foot} {s s' : Sto} (h : OpOK P F G ops o R W s s') (hR : ∀ x, R.hasL x = true → R'.hasL x = true) : OpOK P F G ops o R' W s s' :=
 ⟨h.out, fun t hag => h.goes t fun x hx => hag x (hR x hx)⟩
theorem dgo_evalX {Q : Post} : ∀ {todo : List Oper} {l : List (Loc × C)} {nid : Nat} {acc : List (Foot × Foot)} {l1 : List (Loc × C)} {n1 : Nat} {rest : List Oper} {E1 : List (Foot × Foot)}, evalX (tyOf P) G.n ops todo l nid = some (l1, n1, rest, E1) → DGo P F G ops Q rest l1 (acc ++ E1) → DGo P F G ops Q todo l acc
 | [], l, nid, acc, l1, n1, rest, E1, h, hd => by
   simp only [evalX, Option.some.injEq, Prod.mk.injEq] at h; obtain ⟨rfl, rfl, rfl, rfl⟩ := h
   simpa using hd
 | o :: todo, l, nid, acc, l1, n1, rest, E1, h, hd => by
   simp only [evalX] at h; split at h
   · simp only [Option.some.injEq, Prod.mk.injEq] at h
     obtain ⟨rfl, rfl, rfl, rfl⟩ := h
     simpa using hd
   · rename_i hst
     split at h <;> try (simp at h; done)
     rename_i f hf
     split at h <;> try (simp at h; done)
     rename_i ft hc
     split at h <;> try (simp at h; done)
     rename_i l2 hp
     split at h <;> try (simp at h; done)
     rename_i l3 n3 r3 E3 hrec
     simp only [Option.some.injEq, Prod.mk.injEq] at h; obtain ⟨rfl, rfl, rfl, rfl⟩ := h
     have hd' : DGo P F G ops Q r3 l3 ((acc ++ [ft]) ++ E3) := by
       rw [List.append_assoc]; exact hd
     obtain ⟨E, Ss, l', g1, g2, g3⟩ := dgo_evalX hrec hd'; exact ⟨_, _, l', .cons (opOK_feet (stopB_guard hst) hf hc hp) g1, by rw [List.append_assoc] at g2; exact g2, g3⟩
def subN (a b : List Nat) : Bool := a.all fun k => memN k b
def leF (f g : Foot) : Bool := subN f.ts g.ts && (subN f.os g.os && (subN f.vs g.vs && f.cs.all fun p => memP p.1 p.2 g.cs))
theorem subN_mem {a b : List Nat} (h : subN a b = true) {k : Nat} (hk : memN k a = true) : memN k b = true := by
 unfold subN at h; rw [List.all_eq_true] at h; exact h k ((memN_iff _ _).1 hk)
theorem leF_has {f g : Foot} (h : leF f g = true) (x : Loc) (hx : f.hasL x = true) : g.hasL x = true := by
 simp only [leF, Bool.and_eq_true] at h; obtain ⟨h1, h2, h3, h4⟩ := h
 cases x with
 | tmp k => exact subN_mem h1 hx
 | arr id => exact subN_mem h2 hx
 | var id =>
   simp only [Foot.hasL, Bool.or_eq_true] at hx ⊢; exact hx.imp (subN_mem h3) (subN_mem h2)
 | cell id j =>
   simp only [Foot.hasL, Bool.or_eq_true] at hx ⊢; refine hx.imp (fun hx => ?_) (subN_mem h2)
   rw [List.all_eq_true] at h4; exact h4 (id, j) ((memP_iff _ _ _).1 hx)
theorem opOK_monoF {o : Oper} {R R' W W' : Foot} {s s' : Sto} (h : OpOK P F G ops o R W s s') (hR : leF R R' = true) (hW : W = W') : OpOK P F G ops o R' W' s s' := by
 subst hW; exact opOK_mono h (leF_has hR)
theorem d_true {Q : Post} {acc : List (Foot × Foot)} {o : Oper} {rest : List Oper} {n nid : Nat} {f : Eff} {ft : Foot × Foot} (hn : G.n = n) (hg : guardG ops l o = some true) (he : Is (efD (tyOf P) ops (lk l) nid o) (some (f, ft))) (hd : Is (putL n o.dst f.val (insV f.u l)) (some l')) (h : DGo P F G ops Q rest l' (acc ++ [ft])) : DGo P F G ops Q (o :: rest) l acc := by
 obtain ⟨E, Ss, m, g1, g2, g3⟩ := h; unfold Is efD at he; split at he <;> try (simp at he; done)
 rename_i f' hf'
 split at he <;> try (simp at he; done)
 rename_i ft' hft
 simp only [Option.some.injEq, Prod.mk.injEq] at he; obtain ⟨rfl, rfl⟩ := he; exact ⟨_, _, m, .cons (opOK_feet (guardG_eq hg) hf' hft (by rw [hn]; exact hd)) g1, by rw [List.append_assoc] at g2; exact g2, g3⟩
theorem d_opt {Q : Post} {acc : List (Foot × Foot)} {o : Oper} {rest : List Oper} {n nid : Nat} {g : Bool} {x : AV} {R W : Foot} (hn : G.n = n) (hg : guardG ops l o = some g) (he : g = true → Is (efD (tyOf P) ops (lk l) nid o) (some (⟨x, []⟩, (R, W)))) (hle : leF (.mk2 (guardTs ops o) []) R = true) (hW : Foot.mk2 (dstTs o.dst) [] = W) (hd : Is (putL n o.dst (optA g x) l) (some l')) (h : DGo P F G ops Q rest l' (acc ++ [(R, W)])) : DGo P F G ops Q (o :: rest) l acc := by
 cases g with
 | true => exact d_true hn hg (he rfl) hd h
 | false =>
   obtain ⟨E, Ss, m, g1, g2, g3⟩ := h; exact ⟨_, _, m, .cons (opOK_monoF (opOK_skip (guardG_eq hg) (by rw [hn]; exact hd)) hle hW) g1, by rw [List.append_assoc] at g2; exact g2, g3⟩
theorem dgo_skip {Q : Post} {acc : List (Foot × Foot)} {o : Oper} {rest : List Oper} {n : Nat} (hn : G.n = n) (hg : guardG ops l o = some false) (hd : Is (putL n o.dst (.tup []) l) (some l')) (h : DGo P F G ops Q rest l' (acc ++ [skF ops o])) : DGo P F G ops Q (o :: rest) l acc := by
 obtain ⟨E, Ss, m, g1, g2, g3⟩ := h; exact ⟨_, _, m, .cons (opOK_skip (guardG_eq hg) (by rw [hn]; exact hd)) g1, by rw [List.append_assoc] at g2; exact g2, g3⟩
theorem backL_nil : ∀ l : List (Loc × C), backL id [] l = l := by
 intro l; unfold backL; simp only [renS, app, ids, List.map_nil]
 induction l with
 | nil => rfl
 | cons p r ih =>
   obtain ⟨k, c⟩ := p; cases k <;> simp [dropIds, memN, ih, locId]
theorem dgo_callg {Q : Post} {acc : List (Foot × Foot)} {o : Oper} {rest : List Oper} {n : Nat} (hn : G.n = n) {g : Bool} {fo : Operand} {ar : Array Operand} {tys : Array TypeId} {k : Nat} {xs cargs : List AV} {res : AV}
   (hop : o.op = .call { callee := .value fo, args := ar, argTypes := tys }) (hg : guardG ops l o = some g) (hf : Is (grdL g (ev (lk l) fo)) (grdL g (some (.fn (.func k) [])))) (hx : Is (grdL g (evs (lk l) ar.toList)) (grdL g (some xs))) (hE : g = true → Enters P k) (hS : g = true → Spec P k cargs [] res [])
   (hargs : g = true → leA.leL xs (renA.renL id cargs)) (hB : g = true → callB id cargs [] [] l = true) (hd : Is (putL n o.dst (optA g (renA id res)) l) (some l')) (h : DGo P F G ops Q rest l' (acc ++ [(callR ops o (fo :: ar.toList) id [] [], callW o id [])])) : DGo P F G ops Q (o :: rest) l acc := by
 obtain ⟨E, Ss, m, g1, g2, g3⟩ := h
 have hok : OpOK P F G ops o (callR ops o (fo :: ar.toList) id [] []) (callW o id []) (lk l) (lk l') := by
   cases g with
   | true =>
     exact opOK_call (cap := []) id hop (guardG_eq hg) hf hx (hE rfl) (hS rfl) (by rw [List.append_nil]; exact hargs rfl) (hB rfl) trivial (by rw [backL_nil, hn]; exact hd)
   | false =>
     refine opOK_mono (opOK_skip (guardG_eq hg) (by rw [hn]; exact hd)) fun x hx => ?_
     cases x with
     | tmp k =>
       simp only [Foot.hasL, callR, memN_iff, List.mem_append] at hx ⊢; exact .inl hx
     | _ => simp [Foot.hasL, memN, memP] at hx
 exact ⟨_, _, m, .cons hok g1, by rw [List.append_assoc] at g2; exact g2, g3⟩
end
end Go.Flat
end
section
set_option linter.unusedVariables false
set_option linter.unusedSimpArgs false
namespace Go.Flat
section
variable {P : Program} {F : Nat → Nat → Prop} {G : Start} {l : List (Loc × C)}
def rowsP : AV → Option (List (List PV))
 | .p (.ps xs) => some xs
 | .psf xs => some xs
 | _ => none
theorem o_nilcmp {ops : Array Oper} {R : Post} {o : Oper} {rest : List Oper} {n d : Nat} {ty ty2 e : TypeId} {i : TI} {x : Operand} {a : AV} {xs : List (List PV)} (hn : G.n = n) (hop : o.op = .binOp .eql ty x (.const (.slice none 0 0)) ty2) (hgd : o.guard = none) (hds : o.dst = some d) (hd : d < n)
   (hT : tyOf P ty = some i) (hk : i.k = .sl e) (hx : ev (lk l) x = some a) (hxs : rowsP a = some xs) (h : ∀ b : Bool, (b = true → xs = []) → AOps P F G ops R rest (ins (.tmp d) (.av (vv (.bool b))) l)) : AOps P F G ops R (o :: rest) l := by
 intro ρ ac w hr; unfold wpList; have hw : Region.wanted o (yielded ops ac.tmps) = true := by unfold Region.wanted; rw [hgd]
 rw [hw]; simp only [if_true]; refine .inl ?_; obtain ⟨fi⟩ := tyOf_facts hT; have hu := kind_slice fi hk; have hv := ev_ar hr hx
 obtain ⟨ad, len, c, he, hnil⟩ : ∃ ad len c, ac.eval x = .slice ad len c ∧ (ad.isNone = true → xs = []) := by
   generalize ac.eval x = v at hv
   have key : ∀ {v : Value}, PR w (Stb F ρ (lk l)) (.ps xs) v → ∃ ad len c, v = .slice ad len c ∧ (ad.isNone = true → xs = []) := by
     intro v hp
     by_cases hne : xs = []
     · subst hne
       obtain ⟨ad, c, rfl, _⟩ := hp.ps_inv; exact ⟨_, _, _, rfl, fun _ => rfl⟩
     · obtain ⟨ad, c, rfl, h2⟩ := hp.ps_inv
       obtain ⟨_, b, o, sz, rfl, _⟩ := h2 hne; exact ⟨_, _, _, rfl, fun h => by simp at h⟩
   unfold rowsP at hxs; split at hxs <;> try (simp at hxs; done)
   · simp only [Option.some.injEq] at hxs
     subst hxs
     cases hv with
     | p hp => exact key hp
   · simp only [Option.some.injEq] at hxs
     subst hxs
     cases hv with
     | psf hp => exact key hp
 unfold Oper.wp
 have hrun : (execOp ac.eval o).run P w = .ok (.value (.bool ad.isNone)) w := by
   simp only [execOp, hop]; have hc : ac.eval (.const (.slice none 0 0)) = .slice none 0 0 := rfl; rw [he, hc]
   have hg : (eqGuard .eql ty x (.const (.slice none 0 0)) (.slice ad len c) (.slice none 0 0)).run P w = .ok () w := by
     unfold eqGuard; rfl
   have hb : (binOp .eql ty (.slice ad len c) (.slice none 0 0)).run P w = .ok (.bool ad.isNone) w := by
     have := run_equal_slice_nil (P := P) (w := w) ty e ad len c hu; simp only [binOp, Sem.run_bind, this, Result.andThen_ok, Sem.run_pure]
   simp only [Sem.run_bind, hg, hb, Result.andThen_ok, Sem.run_pure]
 rw [hrun]; refine h ad.isNone hnil ρ _ w ?_; rw [lk_ins, hds]; exact hr.put (by rw [hn]; exact hd) (.vv_mk rfl)
end
end Go.Flat
end
section
set_option linter.unusedVariables false
set_option linter.unusedSimpArgs false
namespace Go.Flat
section
variable {P : Program} {F : Nat → Nat → Prop} {G : Start} {l l' : List (Loc × C)} {Q : Post}
structure Sp (P : Program) (f : Nat) (args : List AV) (s : List (Loc × C)) (res : AV) (s' : List (Loc × C)) : Prop where
 en : Enters P f
 sp : Spec P f args s res s'
theorem sk {f : Nat} {fn : Func} {c : Code} {args : List AV} {s s' : List (Loc × C)} {res : AV} {rs : List ResultVar} {n : Nat} (hf : P.funcs[f]? = some fn) (h : ∀ F G, G.n = n → G.t = lk s → AK P F G [c] (retQ (tyOf P) rs res s s') (app (tmpsL 0 args) s)) (hb : fn.body = some c := by rfl) (he : (fn.name == "runtime.NumGoroutine") = false ∧ fn.body.isNone = false := by exact ⟨rfl, rfl⟩) (hr : fn.results.toList = rs := by rfl) (hn' : fn.ntmps = n := by rfl) (hn : args.length ≤ n := by simp) (hs : noTmp s = true := by rfl) : Sp P f args s res s' :=
 ⟨⟨fn, hf, he⟩, by subst hr; subst hn'; exact spec_k hf hb hn hs fun F G h1 h2 => h F G h1 h2⟩
theorem sq {a b : Code} {cs : List Code} (h : AK P F G (a :: b :: cs) Q l) : AK P F G (.seq a b :: cs) Q l := k_seq h
theorem rg {id : Nat} {ops : Array Oper} {cs : List Code} {n nid' : Nat} (nid : Nat) (hk : AK P F G cs Q l') (hn : G.n = n := by assumption) (h : Is (evalG (tyOf P) n ops ops.toList l nid) (some (l', nid', [])) := by simp [*]; exact is_rfl _) : AK P F G (.region id ops false :: cs) Q l :=
 awp_region (aops_evalG (by rw [hn]; exact h) (aops_nil hk))
theorem rc {id : Nat} {ops : Array Oper} {cs : List Code} {n nid' : Nat} {rest : List Oper} (nid : Nat) (hk : AOps P F G ops (thenQ (AK P F G cs Q) Q) rest l') (hn : G.n = n := by assumption) (h : Is (evalG (tyOf P) n ops ops.toList l nid) (some (l', nid', rest)) := by simp [*]; exact is_rfl _) : AK P F G (.region id ops false :: cs) Q l :=
 awp_region (aops_evalG (by rw [hn]; exact h) hk)
theorem oe {ops : Array Oper} {R : Post} {todo rest : List Oper} {n nid' : Nat} (nid : Nat) (hk : AOps P F G ops R rest l') (hn : G.n = n := by assumption) (h : Is (evalG (tyOf P) n ops todo l nid) (some (l', nid', rest)) := by simp [*]; exact is_rfl _) : AOps P F G ops R todo l := aops_evalG (by rw [hn]; exact h) hk
theorem oc {ops : Array Oper} {R : Post} {o : Oper} {rest : List Oper} {n : Nat} (ι : Nat → Nat) {fo : Operand} {ar : Array Operand} {tys : Array TypeId} {k : Nat} {cap xs cargs : List AV} {s s' : List (Loc × C)} {res : AV} (hS : Sp P k cargs s res s') (h : AOps P F G ops R rest l') (hn : G.n = n := by assumption) (hop : o.op = .call { callee := .value fo, args := ar, argTypes := tys } := by rfl) (hg : guardL ops l o = some true := by simp [*]) (hf : Is (ev (lk l) fo) (some (.fn (.func k) cap)) := by simp [*]; exact is_rfl _) (hx : Is (evs (lk l) ar.toList) (some xs) := by simp [*]; exact is_rfl _) (hargs : leA.leL (xs ++ cap) (renA.renL ι cargs) := by simp [*] <;> (repeat' (first | exact rfl | constructor))) (hB : callB ι cargs s s' l = true := by simp [*]) (hL : LiesAt ι l s := by simp [*]) (hd : Is (putL n o.dst (renA ι res) (backL ι s' l)) (some l') := by simp [*]; exact is_rfl _) : AOps P F G ops R (o :: rest) l :=
 o_call hn ι hop hg hf hx hS.en hS.sp hargs hB hL hd h
theorem os {ops : Array Oper} {R : Post} {o : Oper} {rest : List Oper} {n : Nat} (h : AOps P F G ops R rest l') (hn : G.n = n := by assumption) (hg : guardG ops l o = some false := by simp [*]) (hd : Is (putL n o.dst (.tup []) l) (some l') := by simp [*]; exact is_rfl _) : AOps P F G ops R (o :: rest) l := o_skip hn hg hd h
theorem og {ops : Array Oper} {R : Post} {o : Oper} {rest : List Oper} {n : Nat} {g : Bool} {fo : Operand} {ar : Array Operand} {tys : Array TypeId} {k : Nat} {xs cargs : List AV} {res : AV} (hS : g = true → Sp P k cargs [] res []) (h : AOps P F G ops R rest l') (hn : G.n = n := by assumption) (hop : o.op = .call { callee := .value fo, args := ar, argTypes := tys } := by rfl) (hg : Is (guardG ops l o) (some g) := by simp [*]; exact is_rfl _) (hf : g = true → Is (ev (lk l) fo) (some (.fn (.func k) [])) := by intro hgg; (try simp only [Bool.and_eq_true] at hgg); simp [*]; exact is_rfl _) (hx : g = true → Is (evs (lk l) ar.toList) (some xs) := by intro hgg; (try simp only [Bool.and_eq_true] at hgg); simp [*]; exact is_rfl _) (hargs : g = true → leA.leL xs (renA.renL id cargs) := by intro _; simp [*]) (hB : g = true → callB id cargs [] [] l = true := by intro _; simp [*]) (hd : Is (putL n o.dst (optA g (renA id res)) l) (some l') := by simp [*]; exact is_rfl _) : AOps P F G ops R (o :: rest) l :=
 o_callg hn hop hg (grdL_of hf) (grdL_of hx) (fun e => (hS e).en) (fun e => (hS e).sp) hargs hB hd h
theorem on {ops : Array Oper} {cs : List Code} (h : AK P F G cs Q l) : AOps P F G ops (thenQ (AK P F G cs Q) Q) [] l := o_nil h
theorem cd {c : Operand} {x y : Code} {cs : List Code} {b : Bool} (h1 : b = true → AK P F G (x :: cs) Q l) (h2 : b = false → AK P F G (y :: cs) Q l) (hc : Is (ev (lk l) c) (some (.p (.v (.bool b)))) := by simp [*]; exact is_rfl _) : AK P F G (.cond c x y :: cs) Q l := k_cond hc h1 h2
theorem ct {c : Operand} {x y : Code} {cs : List Code} (h1 : AK P F G (x :: cs) Q l) (hc : Is (ev (lk l) c) (some (.p (.v (.bool true)))) := by simp [*]; exact is_rfl _) : AK P F G (.cond c x y :: cs) Q l := k_then hc h1
theorem ce {c : Operand} {x y : Code} {cs : List Code} (h1 : AK P F G (y :: cs) Q l) (hc : Is (ev (lk l) c) (some (.p (.v (.bool false)))) := by simp [*]; exact is_rfl _) : AK P F G (.cond c x y :: cs) Q l := k_else hc h1
def inR (k : Nat) : List Nat → Bool
 | lo :: hi :: r => (decide (lo ≤ k) && decide (k < hi)) || inR k r
 | _ => false
def rgs : List Nat → List Nat
 | lo :: hi :: r => List.range' lo (hi - lo) ++ rgs r
 | _ => []
theorem memN_rgs (k : Nat) : ∀ l, memN k (rgs l) = inR k l
 | [] => rfl
 | [_] => rfl
 | lo :: hi :: r => by
   have e : ∀ a b : Bool, (a = true ↔ b = true) → a = b := by decide
   refine e _ _ ?_; rw [memN_iff, rgs, List.mem_append, ← memN_iff k (rgs r), memN_rgs k r, List.mem_range'_1, inR]; simp only [Bool.or_eq_true, Bool.and_eq_true, decide_eq_true_eq]; refine or_congr_left ?_; omega
theorem pr {c : Code} {cs : List Code} (ks : List Nat) (h : AK P F G (c :: cs) Q l') (hl : Is (keepT (rgs ks) l) l' := by simp [keepT, memN_rgs, inR]; exact is_rfl _) : AK P F G (c :: cs) Q l := k_prune (rgs ks) (by simp) hl h
theorem rgp {id : Nat} {ops : Array Oper} {c : Code} {cs : List Code} {n nid' : Nat} {l'' : List (Loc × C)} (nid : Nat) (ks : List Nat) (hk : AK P F G (c :: cs) Q l'') (hn : G.n = n := by assumption) (h : Is (evalG (tyOf P) n ops ops.toList l nid) (some (l', nid', [])) := by simp [*]; exact is_rfl _) (hl : Is (keepT (rgs ks) l') l'' := by simp [keepT, memN_rgs, inR]; exact is_rfl _) : AK P F G (.region id ops false :: c :: cs) Q l := rg nid (pr ks hk hl) hn h
theorem srp {id : Nat} {ops : Array Oper} {c : Code} {cs : List Code} {n nid' : Nat} {l'' : List (Loc × C)} (nid : Nat) (ks : List Nat) (hk : AK P F G (c :: cs) Q l'') (hn : G.n = n := by assumption) (h : Is (evalG (tyOf P) n ops ops.toList l nid) (some (l', nid', [])) := by simp [*]; exact is_rfl _) (hl : Is (keepT (rgs ks) l') l'' := by simp [keepT, memN_rgs, inR]; exact is_rfl _) : AK P F G (.seq (.region id ops false) c :: cs) Q l := sq (rg nid (pr ks hk hl) hn h)
theorem onp {ops : Array Oper} {c : Code} {cs : List Code} (ks : List Nat) (h : AK P F G (c :: cs) Q l') (hl : Is (keepT (rgs ks) l) l' := by simp [keepT, memN_rgs, inR]; exact is_rfl _) : AOps P F G ops (thenQ (AK P F G (c :: cs) Q) Q) [] l := on (pr ks h hl)
theorem src {id : Nat} {ops : Array Oper} {b : Code} {cs : List Code} {n nid' : Nat} {rest : List Oper} (nid : Nat) (hk : AOps P F G ops (thenQ (AK P F G (b :: cs) Q) Q) rest l') (hn : G.n = n := by assumption) (h : Is (evalG (tyOf P) n ops ops.toList l nid) (some (l', nid', rest)) := by simp [*]; exact is_rfl _) : AK P F G (.seq (.region id ops false) b :: cs) Q l := sq (rc nid hk hn h)
theorem dr {id : Nat} {ops : Array Oper} {cs : List Code} (h : DGo P F G ops (thenQ (AK P F G cs Q) Q) ops.toList l []) (hm : P.follows .mixedOrders = true := by rfl) (hord : ordB 0 ops.toList = true := by decide) : AK P F G (.region id ops true :: cs) Q l := k_draw hm hord h
theorem de {ops : Array Oper} {R : Post} {todo rest : List Oper} {acc E1 : List (Foot × Foot)} {n nid' : Nat} (nid : Nat) (hk : DGo P F G ops R rest l' (acc ++ E1)) (hn : G.n = n := by assumption) (h : Is (evalX (tyOf P) n ops todo l nid) (some (l', nid', rest, E1)) := by simp [*]; exact is_rfl _) : DGo P F G ops R todo l acc := dgo_evalX (by rw [hn]; exact h) hk
theorem dn {ops : Array Oper} {cs : List Code} {acc : List (Foot × Foot)} (hq : AK P F G cs Q l) (h : indepB (masks ops.toList []) [] acc = true := by rfl) : DGo P F G ops (thenQ (AK P F G cs Q) Q) [] l acc := d_nil h hq
theorem dt {ops : Array Oper} {R : Post} {acc : List (Foot × Foot)} {o : Oper} {rest : List Oper} {n : Nat} (nid : Nat) {f : Eff} {ft : Foot × Foot} (h : DGo P F G ops R rest l' (acc ++ [ft])) (hn : G.n = n := by assumption) (hg : guardG ops l o = some true := by simp [*]) (he : Is (efD (tyOf P) ops (lk l) nid o) (some (f, ft)) := by simp [*]; exact is_rfl _) (hd : Is (putL n o.dst f.val (insV f.u l)) (some l') := by simp [*]; exact is_rfl _) : DGo P F G ops R (o :: rest) l acc := d_true hn hg he hd h
theorem dp {ops : Array Oper} {R : Post} {acc : List (Foot × Foot)} {o : Oper} {rest : List Oper} {n : Nat} {g : Bool} {x : AV} {ft : Foot × Foot} (nid : Nat) (h : DGo P F G ops R rest l' (acc ++ [ft])) (hn : G.n = n := by assumption) (hg : Is (guardG ops l o) (some g) := by simp [*]; exact is_rfl _) (he : g = true → Is (efD (tyOf P) ops (lk l) nid o) (some (⟨x, []⟩, ft)) := by intro hgg; (try simp only [Bool.and_eq_true] at hgg); simp [*]; exact is_rfl _) (hle : leF (.mk2 (guardTs ops o) []) ft.1 = true := by rfl) (hW : Foot.mk2 (dstTs o.dst) [] = ft.2 := by rfl) (hd : Is (putL n o.dst (optA g x) l) (some l') := by simp [*]; exact is_rfl _) : DGo P F G ops R (o :: rest) l acc := d_opt hn hg he hle hW hd h
theorem ds {ops : Array Oper} {R : Post} {acc : List (Foot × Foot)} {o : Oper} {rest : List Oper} {n : Nat} (h : DGo P F G ops R rest l' (acc ++ [skF ops o])) (hn : G.n = n := by assumption) (hg : guardG ops l o = some false := by simp [*]) (hd : Is (putL n o.dst (.tup []) l) (some l') := by simp [*]; exact is_rfl _) : DGo P F G ops R (o :: rest) l acc := dgo_skip hn hg hd h
theorem dg {ops : Array Oper} {R : Post} {acc : List (Foot × Foot)} {o : Oper} {rest : List Oper} {n : Nat} {g : Bool} {fo : Operand} {ar : Array Operand} {tys : Array TypeId} {k : Nat} {xs cargs : List AV} {res : AV} (hS : g = true → Sp P k cargs [] res []) (h : DGo P F G ops R rest l' (acc ++ [(callR ops o (fo :: ar.toList) id [] [], callW o id [])])) (hn : G.n = n := by assumption)
   (hop : o.op = .call { callee := .value fo, args := ar, argTypes := tys } := by rfl) (hg : Is (guardG ops l o) (some g) := by simp [*]; exact is_rfl _) (hf : g = true → Is (ev (lk l) fo) (some (.fn (.func k) [])) := by intro hgg; (try simp only [Bool.and_eq_true] at hgg); simp [*]; exact is_rfl _) (hx : g = true → Is (evs (lk l) ar.toList) (some xs) := by intro hgg; (try simp only [Bool.and_eq_true] at hgg); simp [*]; exact is_rfl _)
   (hargs : g = true → leA.leL xs (renA.renL id cargs) := by intro _; simp [*]) (hB : g = true → callB id cargs [] [] l = true := by intro _; simp [*]) (hd : Is (putL n o.dst (optA g (renA id res)) l) (some l') := by simp [*]; exact is_rfl _) : DGo P F G ops R (o :: rest) l acc :=
 dgo_callg hn hop hg (grdL_of hf) (grdL_of hx) (fun e => (hS e).en) (fun e => (hS e).sp) hargs hB hd h
theorem dc {ops : Array Oper} {R : Post} {acc : List (Foot × Foot)} {o : Oper} {rest : List Oper} {n : Nat} (ι : Nat → Nat) {fo : Operand} {ar : Array Operand} {tys : Array TypeId} {k : Nat} {cap xs cargs : List AV} {s s' : List (Loc × C)} {res : AV} (hS : Sp P k cargs s res s') (h : DGo P F G ops R rest l' (acc ++ [(callR ops o (fo :: ar.toList) ι s s', callW o ι s')])) (hn : G.n = n := by assumption) (hop : o.op = .call { callee := .value fo, args := ar, argTypes := tys } := by rfl) (hg : guardL ops l o = some true := by simp [*]) (hf : Is (ev (lk l) fo) (some (.fn (.func k) cap)) := by simp [*]; exact is_rfl _) (hx : Is (evs (lk l) ar.toList) (some xs) := by simp [*]; exact is_rfl _) (hargs : leA.leL (xs ++ cap) (renA.renL ι cargs) := by simp [*] <;> (repeat' (first | exact rfl | constructor))) (hB : callB ι cargs s s' l = true := by simp [*]) (hL : LiesAt ι l s := by simp [*]) (hd : Is (putL n o.dst (renA ι res) (backL ι s' l)) (some l') := by simp [*]; exact is_rfl _) : DGo P F G ops R (o :: rest) l acc := d_call hn ι hop hg hf hx hS.en hS.sp hargs hB hL hd h
theorem dk {ops : Array Oper} {R : Post} {acc : List (Foot × Foot)} {o : Oper} {rest : List Oper} {n : Nat} (ks : List Nat) (ι : Nat → Nat) {fo : Operand} {ar : Array Operand} {tys : Array TypeId} {k : Nat} {cap xs cargs : List AV} {s s' : List (Loc × C)} {res : AV} (hS : Sp P k cargs s res s') (h : DGo P F G ops R rest l' (acc ++ [(callR ops o (fo :: ar.toList) ι s s', callWk o ι s' ks)])) (hn : G.n = n := by assumption) (hop : o.op = .call { callee := .value fo, args := ar, argTypes := tys } := by rfl) (hg : guardL ops l o = some true := by simp [*]) (hf : Is (ev (lk l) fo) (some (.fn (.func k) cap)) := by simp [*]; exact is_rfl _) (hx : Is (evs (lk l) ar.toList) (some xs) := by simp [*]; exact is_rfl _) (hargs : leA.leL (xs ++ cap) (renA.renL ι cargs) := by simp [*] <;> (repeat' (first | exact rfl | constructor))) (hB : callB ι cargs s s' l = true := by simp [*]) (hL : LiesAt ι l s := by simp [*]) (hd : Is (putL n o.dst (renA ι res) (backL ι s' l)) (some l') := by simp [*]; exact is_rfl _) (hk : KeptO l l' ks := by simp [KeptO, SubO, *]) : DGo P F G ops R (o :: rest) l acc := d_callk ks hn ι hop hg hf hx hS.en hS.sp hargs hB hL hd hk h
theorem gt {ops : Array Oper} {R : Post} {o : Oper} {rest : List Oper} {n : Nat} (nid : Nat) {f : Eff} (h : AOps P F G ops R rest l') (hn : G.n = n := by assumption) (hg : guardG ops l o = some true := by simp [*]) (he : Is (evalOp (tyOf P) (lk l) nid o.op) (some f) := by simp [*]; exact is_rfl _) (hd : Is (putL n o.dst f.val (insV f.u l)) (some l') := by simp [*]; exact is_rfl _) : AOps P F G ops R (o :: rest) l := o_true hn hg he hd h
theorem gp {ops : Array Oper} {R : Post} {o : Oper} {rest : List Oper} {n : Nat} {g : Bool} {x : AV} (nid : Nat) (h : AOps P F G ops R rest l') (hn : G.n = n := by assumption) (hg : Is (guardG ops l o) (some g) := by simp [*]; exact is_rfl _) (he : g = true → Is (evalOp (tyOf P) (lk l) nid o.op) (some ⟨x, []⟩) := by intro hgg; (try simp only [Bool.and_eq_true] at hgg); simp [*]; exact is_rfl _) (hd : Is (putL n o.dst (optA g x) l) (some l') := by simp [*]; exact is_rfl _) : AOps P F G ops R (o :: rest) l := o_opt hn hg he hd h
theorem nc {ops : Array Oper} {R : Post} {o : Oper} {rest : List Oper} {n d : Nat} {ty ty2 e : TypeId} {i : TI} {x : Operand} {a : AV} {xs : List (List PV)} (h : ∀ b : Bool, (b = true → xs = []) → AOps P F G ops R rest (ins (.tmp d) (.av (vv (.bool b))) l)) (hn : G.n = n := by assumption) (hop : o.op = .binOp .eql ty x (.const (.slice none 0 0)) ty2 := by rfl) (hgd : o.guard = none := by rfl) (hds : o.dst = some d := by rfl) (hd : d < n := by decide)
   (hT : Is (tyOf P ty) (some i) := by simp; exact is_rfl _) (hk : i.k = .sl e := by rfl) (hx : Is (ev (lk l) x) (some a) := by simp [*]; exact is_rfl _) (hxs : Is (rowsP a) (some xs) := by simp only [rowsP]; exact is_rfl _) : AOps P F G ops R (o :: rest) l :=
 o_nilcmp hn hop hgd hds hd hT hk hx hxs h
theorem cv {s : List (Loc × C)} {c : Code} {cs : List Code} (vals : List (Loc × AV)) (h1 : AK P F G [c] (fun e l2 => e = .normal ∧ Weak s l2 l') l) (h2 : AK P F G cs Q l') (hG : G.t = lk s := by assumption) (hl : Is (insAll vals l) l' := by simp [*]; exact is_rfl _) : AK P F G (c :: cs) Q l := k_cutV vals hG hl h1 h2
theorem ow {s : List (Loc × C)} {c : Code} {cs : List Code} (x : Loc) (id e sz : Nat) (h : AK P F G (c :: cs) Q l') (hG : G.t = lk s := by assumption) (hx : lk l x = some (.av (.psf [])) := by simp [*]) (hl : ∀ k, x ≠ .var k ∧ x ≠ .arr k := by simp) (hf : fresh (lk l) id = true := by simp [*]) (hs0 : 0 < sz := by decide)
   (hH : hasB s (ins x (.av (.sl id 0 0 0)) (ins (.arr id) (.arr e sz [] 0) l)) (ids s) = true := by simp [*]) (hl2 : Is (ins x (.av (.sl id 0 0 0)) (ins (.arr id) (.arr e sz [] 0) l)) l' := by simp [*]; exact is_rfl _) : AK P F G (c :: cs) Q l :=
 k_own x id e sz (by simp) hG hx hl hf hs0 hH hl2 h
theorem fz {s : List (Loc × C)} {c : Code} {cs : List Code} (id : Nat) {e sz pub : Nat} {xs : List (List PV)} (h : AK P F G (c :: cs) Q l') (hG : G.t = lk s := by assumption) (ha : Is (lk l (.arr id)) (some (.arr e sz xs pub)) := by simp [*]; exact is_rfl _) (hok : okS l = true := by simp [*]) (hH : hasB s (frzS id xs l) (ids s) = true := by simp [*])
   (hl : Is (frzS id xs l) l' := by simp [*]; exact is_rfl _) (hid : id < 4294967296 := by decide) : AK P F G (c :: cs) Q l :=
 k_frz id (by simp) hG ha hok hH hid hl h
end
end Go.Flat
end
section
set_option linter.unusedVariables false
set_option linter.unusedSimpArgs false
namespace Go.Flat
theorem mapM_at {α β : Type} {f : α → Option β} : ∀ {l : List α} {r : List β}, l.mapM f = some r → r.length = l.length ∧ ∀ (i : Nat) (x : α), l[i]? = some x → ∃ y, r[i]? = some y ∧ f x = some y
 | [], r, h => by
   simp at h; subst h; exact ⟨rfl, fun i x h => by simp at h⟩
 | a :: l, r, h => by
   rw [List.mapM_cons] at h
   cases ha : f a with
   | none => simp [ha] at h
   | some y =>
     cases hl : l.mapM f with
     | none => simp [ha, hl] at h
     | some r' =>
       simp [ha, hl] at h; subst h; obtain ⟨h1, h2⟩ := mapM_at hl; refine ⟨by simp [h1], fun i x hi => ?_⟩
       cases i with
       | zero => simp at hi; subst hi; exact ⟨y, rfl, ha⟩
       | succ i => simpa using h2 i x (by simpa using hi)
section
variable (P : Program)
def contig : Nat → List (Nat × TypeId) → Nat → Bool
 | off, [], n => off == n
 | off, f :: r, n => f.1 == off && contig (off + P.cellsOf f.2) r n
def okDesc (N : Nat) (t : TypeId) : Bool := match P.underlying t with
 | some (.struct fs) => contig P 0 (fs.toList.map fun f => (f.offset, f.type)) (P.cellsOf t) && fs.toList.all fun f => decide (f.type < N)
 | some (.array n e) => P.cellsOf t == n * P.cellsOf e && decide (e < N)
 | some (.slice e) => decide (0 < P.cellsOf e) && decide (e < N)
 | _ => true
def Shp (M : Nat) : Nat → TypeId → List PV → Prop
 | 0, _, _ => False
 | d + 1, t, xs => match P.underlying t with
   | some .bool => ∃ b, xs = [.v (.bool b)]
   | some (.int k) => ∃ n, xs = [.v (.int k n)] ∧ (Lit.int k n).wf = true
   | some .string => ∃ s, xs = [.v (.string s)] ∧ s.size ≤ M
   | some (.slice e) => ∃ rows : List (List PV), xs = [.ps rows] ∧ rows.length ≤ M ∧ ∀ row ∈ rows, row.length = P.cellsOf e ∧ Shp M d e row
   | some (.struct fs) => xs.length = P.cellsOf t ∧ ∀ f ∈ fs, Shp M d f.type ((xs.drop f.offset).take (P.cellsOf f.type))
   | some (.array n e) => xs.length = P.cellsOf t ∧ ∀ i, i < n → Shp M d e ((xs.drop (i * P.cellsOf e)).take (P.cellsOf e))
   | _ => True
def PRs (w : World) (S : Nat → Nat → Prop) (xs : List PV) (cs : List Value) : Prop := xs.length = cs.length ∧ ∀ (j : Nat) (x : PV) (v : Value), xs[j]? = some x → cs[j]? = some v → PR w S x v
end
structure Bulk {H : Type} (B : DataW H → Nat) : Prop where
 str : ∀ bs, bs.length ≤ B (.lit (.string bs))
 len : ∀ es sp, es.length ≤ B (.slice es sp)
 elem : ∀ es sp, ∀ d ∈ es, B d ≤ B (.slice es sp)
 part : ∀ ps, ∀ d ∈ ps, B d ≤ B (.agg ps)
section
variable {M : Nat} {P : Program} {w : World} {S : Nat → Nat → Prop} {H : Type} {enc : TypeId × Value → H} {base : Nat} {spare : Nat → Bool} {held : Bool}
theorem PRs.append {xs ys : List PV} {cs ds : List Value} (h : PRs w S xs cs) (k : PRs w S ys ds) : PRs w S (xs ++ ys) (cs ++ ds) := by
 refine ⟨by simp [h.1, k.1], fun j x v hx hv => ?_⟩
 by_cases hj : j < xs.length
 · rw [List.getElem?_append_left hj] at hx
   rw [List.getElem?_append_left (by rw [← h.1]; exact hj)] at hv
   exact h.2 j x v hx hv
 · rw [List.getElem?_append_right (by omega)] at hx
   rw [List.getElem?_append_right (by rw [← h.1]; omega)] at hv
   rw [← h.1] at hv; exact k.2 _ x v hx hv
theorem PRs.one {x : PV} {v : Value} (h : PR w S x v) : PRs w S [x] [v] := by
 refine ⟨rfl, fun j y u hy hu => ?_⟩
 cases j with
 | zero => simp at hy hu; subst hy; subst hu; exact h
 | succ j => simp at hy
theorem PRs.nil : PRs w S [] [] := ⟨rfl, fun j x v h => by simp at h⟩
theorem contig_le : ∀ (fs : List (Nat × TypeId)) (o n : Nat), contig P o fs n = true → o ≤ n
 | [], o, n, h => by simp [contig] at h; omega
 | g :: gs, o, n, h => by
   simp only [contig, Bool.and_eq_true] at h; have := contig_le gs _ _ h.2; omega
theorem segs_pv {d : Nat} (cs : List Value) : ∀ (fs : List (Nat × TypeId)) (off : Nat), contig P off fs cs.length = true → off ≤ cs.length →
   (∀ f ∈ fs, ∃ xs, PRs w S xs ((cs.drop f.1).take (P.cellsOf f.2)) ∧ Shp P M d f.2 xs) →
   ∃ ys, PRs w S ys (cs.drop off) ∧ ∀ f ∈ fs, off ≤ f.1 ∧ Shp P M d f.2 ((ys.drop (f.1 - off)).take (P.cellsOf f.2))
 | [], off, hc, ho, _ => by
   simp [contig] at hc; subst hc; exact ⟨[], by simpa using PRs.nil, by simp⟩
 | f :: fs, off, hc, ho, h => by
   simp only [contig, Bool.and_eq_true, beq_iff_eq] at hc; obtain ⟨rfl, hc⟩ := hc; obtain ⟨xs, hx, hs⟩ := h f (by simp)
   have hend : f.1 + P.cellsOf f.2 ≤ cs.length := contig_le _ _ _ hc; obtain ⟨ys, hy, hf⟩ := segs_pv cs fs _ hc hend fun g hg => h g (by simp [hg])
   have hxl : xs.length = P.cellsOf f.2 := by rw [hx.1]; simp; omega
   refine ⟨xs ++ ys, ?_, fun g hg => ?_⟩
   · have : cs.drop f.1 = (cs.drop f.1).take (P.cellsOf f.2) ++ cs.drop (f.1 + P.cellsOf f.2) := by
       rw [← List.drop_drop, List.take_append_drop]
     rw [this]; exact hx.append hy
   · rcases List.mem_cons.1 hg with rfl | hg
     · refine ⟨Nat.le_refl _, ?_⟩
       simpa [List.take_append_of_le_length (Nat.le_of_eq hxl.symm), ← hxl] using hs
     · obtain ⟨h1, h2⟩ := hf g hg
       refine ⟨by omega, ?_⟩
       rw [List.drop_append, List.drop_eq_nil_of_le (by omega), List.nil_append, hxl, show g.1 - f.1 - P.cellsOf f.2 = g.1 - (f.1 + P.cellsOf f.2) by omega]
       exact h2
theorem contig_arr (e : TypeId) : ∀ (n k : Nat), contig P (k * P.cellsOf e) ((List.range' k n).map fun i => (i * P.cellsOf e, e)) ((k + n) * P.cellsOf e) = true
 | 0, k => by simp [contig]
 | n + 1, k => by
   have := contig_arr e n (k + 1); rw [List.range'_succ, List.map_cons]; simp only [contig, beq_self_eq_true, Bool.true_and]; rw [show k * P.cellsOf e + P.cellsOf e = (k + 1) * P.cellsOf e by rw [Nat.add_mul, Nat.one_mul], show k + (n + 1) = k + 1 + n by omega]
   exact this
theorem cells_at {a : Addr} {n : Nat} {cs : List Value} (h : w.cells? base a n = some cs) : cs.length = n ∧ ∀ (j : Nat) (v : Value), cs[j]? = some v → w.cell? (a.add j) = some v := by
 unfold World.cells? at h; split at h
 · obtain ⟨h1, h2⟩ := mapM_at h
   refine ⟨by simpa using h1, fun j v hv => ?_⟩
   have hj : j < n := by
     have := (List.getElem?_eq_some_iff.1 hv).1; simp at h1; omega
   obtain ⟨y, e1, e2⟩ := h2 j j (by simp [hj])
   rw [hv] at e1; simp only [Option.some.injEq] at e1; subst e1; exact e2
 · simp at h
theorem cell_spot {a : Addr} {v : Value} (h : w.cell? a = some v) : a = ⟨a.block, a.off, none⟩ := by
 obtain ⟨b, o, s⟩ := a; unfold World.cell? at h; split at h
 · simp only at h
   split at h
   · simp at h
   · rename_i hs
     cases s with
     | none => rfl
     | some s => simp at hs
 · simp at h
theorem PRs.v1 {v : Value} (h : v.oneCell' = true) : PRs w S [.v v] [v] := .one (.v h)
theorem choose_rows {Q : Nat → List PV → Prop} : ∀ n : Nat, (∀ i, i < n → ∃ xs, Q i xs) → ∃ rows : List (List PV), rows.length = n ∧ ∀ (i : Nat) (row : List PV), rows[i]? = some row → Q i row
 | 0, _ => ⟨[], rfl, by simp⟩
 | n + 1, h => by
   obtain ⟨rows, h1, h2⟩ := choose_rows n fun i hi => h i (by omega)
   obtain ⟨xs, hx⟩ := h n (by omega)
   refine ⟨rows ++ [xs], by simp [h1], fun i row hi => ?_⟩
   by_cases hin : i < rows.length
   · rw [List.getElem?_append_left hin] at hi
     exact h2 i row hi
   · have : i = n := by
       have := (List.getElem?_eq_some_iff.1 hi).1; simp at this; omega
     subst this; rw [List.getElem?_append_right (by omega)] at hi
     simp [h1] at hi; subst hi; exact hx
theorem add_add {a : Addr} (i j : Nat) (ha : a.spot = none) : (a.add i).add j = ⟨a.block, a.off + i + j, none⟩ := by
 obtain ⟨b, o, s⟩ := a; simp only at ha; subst ha; unfold Addr.add
 by_cases hi : i = 0 <;> by_cases hj : j = 0 <;> simp [hi, hj]
theorem slice_pv (hS : ∀ b o v, w.cell? ⟨b, o, none⟩ = some v → S b o) {fuel : Nat} {e : TypeId} (hp : 0 < P.cellsOf e) {B : DataW H → Nat} (hB : Bulk B) (ih : ∀ (cs : List Value) (x : DataW H × List MemPlace), DataW.trod enc P w base spare held fuel e cs = some x → B x.1 ≤ M → ∃ xs, PRs w S xs cs ∧ Shp P M fuel e xs)
   {a : Addr} {len cap : Nat} {x : DataW H × List MemPlace} {K : List (DataW H × List MemPlace) → Option (DataW H × List MemPlace)} (hK : ∀ es, K es = some x → ∃ sp, x.1 = .slice (es.map (·.1)) sp) (hM : B x.1 ≤ M) (hc : base ≤ a.block ∧ len ≤ cap ∧ cap ≤ maxLen)
   (h : ((List.range len).mapM fun i => (w.cells? base (a.add (i * P.cellsOf e)) (P.cellsOf e)).bind (DataW.trod enc P w base spare held fuel e)).bind K = some x) :
   ∃ xs, PRs w S xs [.slice (some a) len cap] ∧ ∃ rows : List (List PV), xs = [.ps rows] ∧ rows.length ≤ M ∧ ∀ row ∈ rows, row.length = P.cellsOf e ∧ Shp P M fuel e row := by
 obtain ⟨hb, hlc, hcm⟩ := hc; simp only [Option.bind_eq_some_iff] at h; obtain ⟨elems, he, hk⟩ := h; obtain ⟨sp, hx1⟩ := hK _ hk; obtain ⟨e1, e2⟩ := mapM_at he; simp only [List.length_range] at e1
 have hrow : ∀ i, i < len → ∃ xs : List PV, xs.length = P.cellsOf e ∧ Shp P M fuel e xs ∧ ∃ cs, PRs w S xs cs ∧ cs.length = P.cellsOf e ∧ ∀ (j : Nat) (v : Value), cs[j]? = some v → w.cell? ((a.add (i * P.cellsOf e)).add j) = some v := by
   intro i hi; obtain ⟨y, hye, hy⟩ := e2 i i (by simp [hi])
   simp only [Option.bind_eq_some_iff] at hy; obtain ⟨cs, hcs, hy⟩ := hy; obtain ⟨c1, c2⟩ := cells_at hcs
   have hyb : B y.1 ≤ M := by
     refine Nat.le_trans ?_ hM; rw [hx1]; exact hB.elem _ _ _ (List.mem_map.2 ⟨y, List.mem_of_getElem? hye, rfl⟩)
   obtain ⟨xs, q1, q2⟩ := ih cs y hy hyb; exact ⟨xs, q1.1.trans c1, q2, cs, q1, c1, c2⟩
 obtain ⟨rows, r1, r2⟩ := choose_rows len hrow
 have hsh : ∀ row ∈ rows, row.length = P.cellsOf e ∧ Shp P M fuel e row := by
   intro row hr; obtain ⟨i, hi⟩ := List.getElem?_of_mem hr; exact ⟨(r2 i row hi).1, (r2 i row hi).2.1⟩
 have hlen : rows.length ≤ M := by
   refine Nat.le_trans ?_ hM; rw [hx1]; refine Nat.le_trans ?_ (hB.len _ _); rw [List.length_map, e1, r1]; exact Nat.le_refl _
 refine ⟨[.ps rows], .one ?_, rows, rfl, hlen, hsh⟩
 by_cases hz : len = 0
 · subst hz
   have := List.length_eq_zero_iff.1 r1; subst this; exact .nil
 · have hsp : a.spot = none := by
     cases h0 : rows[0]? with
     | none => simp at h0; subst h0; simp at r1; omega
     | some row =>
       obtain ⟨l1, _, cs, _, l2, l3⟩ := r2 0 row h0; obtain ⟨v, hv⟩ : ∃ v, cs[0]? = some v := ⟨cs[0], List.getElem?_eq_getElem (by omega)⟩
       have := l3 0 v hv; simp [Addr.add] at this; have := cell_spot this; rw [this]
   obtain ⟨b, o, sp⟩ := a; simp only at hsp; subst hsp
   have hat : ∀ (i : Nat) (row : List PV), rows[i]? = some row → ∀ (j : Nat) (x : PV), row[j]? = some x → ∃ v, w.cell? ⟨b, o + i * P.cellsOf e + j, none⟩ = some v ∧ PR w S x v := by
     intro i row hi j x hj; obtain ⟨l1, _, cs, l4, l2, l3⟩ := r2 i row hi; have hjl := (List.getElem?_eq_some_iff.1 hj).1; obtain ⟨v, hv⟩ : ∃ v, cs[j]? = some v := ⟨cs[j], List.getElem?_eq_getElem (by omega)⟩
     have := l3 j v hv; rw [add_add _ _ rfl] at this; exact ⟨v, this, l4.2 j x v hj hv⟩
   have hl : (Value.slice (some ⟨b, o, none⟩) len cap) = .slice (some ⟨b, o, none⟩) rows.length cap := by rw [r1]
   rw [hl]; refine .ps (sz := P.cellsOf e) (fun i j => (w.cell? ⟨b, o + i * P.cellsOf e + j, none⟩).getD default) (by omega) (fun row hr => (hsh row hr).1) ?_ ?_ ?_
   · intro i row hi j x hj
     obtain ⟨v, h1, h2⟩ := hat i row hi j x hj; rw [h1]; rfl
   · intro i row hi j x hj
     obtain ⟨v, h1, h2⟩ := hat i row hi j x hj; exact hS _ _ _ h1
   · intro i row hi j x hj
     obtain ⟨v, h1, h2⟩ := hat i row hi j x hj; rw [h1]; exact h2
theorem trod_pv {N : Nat} {B : DataW H → Nat} (hB : Bulk B) (hS : ∀ b o v, w.cell? ⟨b, o, none⟩ = some v → S b o) (hT : ∀ t, t < N → okDesc P N t = true) : ∀ (fuel : Nat) (t : TypeId) (cs : List Value) (x : DataW H × List MemPlace), t < N → DataW.trod enc P w base spare held fuel t cs = some x → B x.1 ≤ M →
   ∃ xs, PRs w S xs cs ∧ Shp P M fuel t xs
 | 0, t, cs, x, ht, h, hM => by simp [DataW.trod] at h
 | fuel + 1, t, cs, x, ht, h, hM => by
   have ih := trod_pv hB hS hT fuel; have hd := hT t ht; unfold okDesc at hd; unfold DataW.trod at h; unfold Shp
   cases hu : P.underlying t with
   | none => simp [hu] at h
   | some u =>
     rw [hu] at hd h
     cases u with
     | bool =>
       split at h <;> simp_all only [Option.some.injEq, reduceCtorEq]
       exact ⟨_, .v1 rfl, _, rfl⟩
     | int k =>
       rcases cs with _ | ⟨v, _ | ⟨v2, r⟩⟩
       · simp at h
       · cases v <;> simp only [reduceCtorEq] at h
         split at h
         · rename_i hc
           obtain ⟨rfl, hw⟩ := hc; exact ⟨_, .v1 rfl, _, rfl, hw⟩
         · simp at h
       · simp at h
     | string =>
       rcases cs with _ | ⟨v, _ | ⟨v2, r⟩⟩
       · simp at h
       · cases v <;> simp only [reduceCtorEq] at h
         split at h
         · simp only [Option.some.injEq] at h
           subst h; refine ⟨_, .v1 rfl, _, rfl, Nat.le_trans ?_ hM⟩; refine Nat.le_trans ?_ (hB.str _); rw [Array.length_toList]; exact Nat.le_refl _
         · simp at h
       · simp at h
     | slice e =>
       rcases cs with _ | ⟨v, _ | ⟨v2, r⟩⟩
       · simp at h
       · cases v with
         | slice a len cap =>
           cases a with
           | none =>
             rcases len with _ | len
             · exact ⟨[.ps []], .one .nil, [], rfl, by simp, by simp⟩
             · simp at h
           | some a =>
             simp only at h; split at h
             · rename_i hc
               simp only [Bool.and_eq_true, decide_eq_true_eq] at hd; exact slice_pv hS hd.1 hB (fun cs x => ih e cs x hd.2) (fun es hk => by simp only [Option.map_eq_some_iff] at hk; obtain ⟨rest, _, rfl⟩ := hk; exact ⟨_, rfl⟩) hM hc h
             · simp at h
         | _ => simp at h
       · simp at h
     | struct fs =>
       simp only [Bool.and_eq_true, List.all_eq_true, decide_eq_true_eq] at h hd ⊢; obtain ⟨hd, hlt⟩ := hd; split at h
       · rename_i hl
         simp only [Option.map_eq_some_iff] at h; obtain ⟨ys, hy, rfl⟩ := h; obtain ⟨_, m2⟩ := mapM_at hy; have hyb : ∀ y ∈ ys, B y.1 ≤ M := fun y hm => Nat.le_trans (hB.part _ _ (List.mem_map.2 ⟨y, hm, rfl⟩)) hM
         obtain ⟨xs, hx, hs⟩ := segs_pv (S := S) (w := w) (d := fuel) cs (fs.toList.map fun f => (f.offset, f.type)) 0 (by rw [hl]; exact hd) (Nat.zero_le _) (by
           intro f hf; simp only [List.mem_map] at hf; obtain ⟨g, hg, rfl⟩ := hf; obtain ⟨i, hi⟩ := List.getElem?_of_mem hg; obtain ⟨y, hye, hy⟩ := m2 i g hi
           exact ih g.type _ y (hlt g hg) hy (hyb y (List.mem_of_getElem? hye)))
         simp only [List.drop_zero, Nat.sub_zero] at hx hs; refine ⟨xs, hx, by rw [hx.1, hl], fun f hf => ?_⟩
         exact (hs (f.offset, f.type) (List.mem_map.2 ⟨f, by simpa using hf, rfl⟩)).2
       · simp at h
     | array n e =>
       simp only at h hd ⊢; split at h
       · rename_i hl
         simp only [Option.map_eq_some_iff] at h; obtain ⟨ys, hy, rfl⟩ := h; obtain ⟨_, m2⟩ := mapM_at hy; have hyb : ∀ y ∈ ys, B y.1 ≤ M := fun y hm => Nat.le_trans (hB.part _ _ (List.mem_map.2 ⟨y, hm, rfl⟩)) hM
         have hc := contig_arr (P := P) e n 0; simp only [Nat.zero_mul, Nat.zero_add] at hc; simp only [Bool.and_eq_true, beq_iff_eq, decide_eq_true_eq] at hd; obtain ⟨hd, hlt⟩ := hd
         obtain ⟨xs, hx, hs⟩ := segs_pv (S := S) (w := w) (d := fuel) cs ((List.range' 0 n).map fun i => (i * P.cellsOf e, e)) 0 (by rw [hl, hd]; exact hc) (Nat.zero_le _) (by
           intro f hf; simp only [List.mem_map, List.mem_range'_1] at hf; obtain ⟨i, hi, rfl⟩ := hf; obtain ⟨y, hye, hy⟩ := m2 i i (by rw [List.getElem?_range (by omega)])
           exact ih e _ y hlt hy (hyb y (List.mem_of_getElem? hye)))
         simp only [List.drop_zero, Nat.sub_zero] at hx hs; refine ⟨xs, hx, by rw [hx.1, hl], fun i hi => ?_⟩
         exact (hs (i * P.cellsOf e, e) (List.mem_map.2 ⟨i, by simp [List.mem_range'_1]; omega, rfl⟩)).2
       · simp at h
     | _ =>
       rcases cs with _ | ⟨v, _ | ⟨v2, r⟩⟩
       · simp at h
       · cases v <;> first
           | exact ⟨_, .v1 rfl, trivial⟩
           | simp at h
       · simp at h
end
end Go.Flat
end
section
set_option linter.unusedVariables false
set_option linter.unusedSimpArgs false
namespace Go.Flat
open Go.ChangeShapes Go.WideShapes Go.ChangeAt Go.RowKit
def F0 : Nat → Nat → Prop := fun _ _ => False
def r0 : Ren := fun _ => none
section
variable {H : Type} {enc : TypeId × Value → H} {P : Program} {W : World} {base : Nat} {spare : Nat → Bool} {held : Bool}
theorem stb0 (b o : Nat) : Stb F0 r0 (lk []) b o := ⟨fun h => h, fun id h => by simp [r0] at h⟩
theorem relO0 (W : World) : RelO F0 r0 (lk []) W := by
 refine ⟨?_, ?_, ?_, ?_, ?_, ?_, ?_⟩
 · intro id c h; simp [lk] at h
 · intro id j c h; simp [lk] at h
 · intro id c h; simp [lk] at h
 · intro id id' b h; rcases h with h | h <;> simp [lk] at h
 · intro id h; simp [lk] at h
 · intro id b o h; rcases h with h | h <;> simp [lk] at h
 · intro b o h; exact h.elim
theorem post_same {f : Func} {s : ChangeSpec} {apart fresh handsOn again : Bool} {W' : World} {args : Array Value} {v : Value} {ds gs : List (DataW H)} {before pa pv : List MemPlace}
   (hW : DataW.Whole enc P f.params.toList s.vars apart W args.toList ds gs before)
   (hres : ∀ (b : Nat) (sp : Nat → Bool) (hd : Bool), DataW.TrodAll enc P W' b sp hd f.resultTypes.toList (v.resultList f.resultTypes.size) (s.fn H (ds ++ gs)).results [])
   (hargs : ∀ sp : Nat → Bool, (∀ p ∈ before, sp p.block = true) → DataW.TrodAll enc P W' 0 sp true f.params.toList args.toList (s.fn H (ds ++ gs)).args pa)
   (hvars : ∀ sp : Nat → Bool, (∀ p ∈ before, sp p.block = true) → DataW.TrodVars enc P W' sp s.vars (s.fn H (ds ++ gs)).vars pv)
   (hps : before = pa ++ pv) (hb : Below W.heap.size W W')
   (hok : ∀ (j : Nat) (t : TypeId) (r : Value), f.resultTypes[j]? = some t → (v.resultList f.resultTypes.size)[j]? = some r → Value.okWide P W' .any 0 t r) :
   s.post enc P f apart fresh handsOn again W args v W' := by
 have hlt : ∀ p ∈ before, p.block < W.heap.size := fun p hp => hW.lt p hp
 have hold : ∀ p ∈ before, (fun b => decide (b < W.heap.size)) p.block = true := fun p hp => by simpa using hlt p hp
 have hkept : W.keptBut W' (fun _ => False) := by
   refine ⟨hb.os, hb.output, fun i hi => ?_⟩
   rw [hb.block i hi]; have hk := (World.keptBut_refl W (fun _ => False)).2.2 i hi
   exact hk
 refine ⟨ds, gs, before, [], pa, pv, hW, hres _ _ _, hargs _ hold, hvars _ hold, World.keptBut_mono (fun p hp => hp.elim) hkept, fun _ => ?_⟩
 obtain ⟨_, _, _, _, _, hz, hn⟩ := hW; refine ⟨hok, _, _, ([] ++ pa) ++ pv, ⟨[] ++ pa, pv, trodAll_append (hargs _ (fun _ _ => rfl)) (hres _ _ _), hvars _ (fun _ _ => rfl), rfl, ?_, ?_⟩, ?_⟩
 · intro b off hp
   have hp' : MemPlace.cell b off ∈ before := by rw [hps]; simpa using hp
   have h1 := hz b off hp'; have h2 : b < W.heap.size := hlt _ hp'; unfold World.frozen? at h1 ⊢; rw [hb.block b h2]; exact h1
 · intro ha
   have := hn ha; rw [hps] at this
   simpa using this
 · intro p hp _
   rw [hps]
   simpa using hp
theorem trodAll_stays (hl : laidOutB P = true) {W' : World} (hb : Below W.heap.size W W') {sp : Nat → Bool} : ∀ {ts : List TypeId} {vs : List Value} {ds : List (DataW H)} {ps : List MemPlace}, (∀ t ∈ ts, P.readableRec t = true ∧ t < P.types.size) → DataW.TrodAll enc P W 0 (fun _ => true) true ts vs ds ps →
   (∀ p ∈ ps, p.block < W.heap.size) → (∀ p ∈ ps, sp p.block = true) → DataW.TrodAll enc P W' 0 sp true ts vs ds ps
 | [], vs, ds, ps, _, h, _, _ => by
   obtain ⟨rfl, rfl, rfl⟩ := trodAll_nil h; exact trodAll_mk0
 | t :: ts, vs, ds, ps, hr, h, hlt, hs => by
   obtain ⟨v, vs1, d, ds1, a, b, rfl, rfl, rfl, h1, h2⟩ := trodAll_cons h; refine ⟨a, b, WideElems.Trod_stays hl (hr t (by simp)).1 (hr t (by simp)).2 h1 (fun p hp => hb.same (hlt p (by simp [hp]))) (fun p hp => hs p (by simp [hp])), ?_, rfl⟩
   exact trodAll_stays hl hb (fun t ht => hr t (by simp [ht])) h2 (fun p hp => hlt p (by simp [hp])) (fun p hp => hs p (by simp [hp]))
theorem row_post {f : Nat} {fn : Func} {s : ChangeSpec} {args : Array Value} {ds gs : List (DataW H)} {before : List MemPlace} {avs : List AV} {tb : TypeId}
   (hl : laidOutB P = true) (hr : ∀ t ∈ fn.params.toList, P.readableRec t = true ∧ t < P.types.size) (hb : P.underlying tb = some .bool) (hres : fn.resultTypes = #[tb]) (hv : s.vars = [])
   (hW : DataW.Whole enc P fn.params.toList s.vars false W args.toList ds gs before) (hfn : s.fn H ds = { results := [.lit (.bool true)], args := ds })
   (hS : Sp P f avs [] (vv (.bool true)) []) (hn : args.size = avs.length) (hA : ∀ (j : Nat) (x : AV) (v : Value), avs[j]? = some x → args[j]? = some v → AR F0 r0 (lk []) W x v) :
   Calls P f args W fun e W' => ∃ v, e = .returned v ∧ s.post enc P fn false true false false W args v W' := by
 refine (hS.sp F0 r0 W args (relO0 W) hn hA).mono ?_; rintro e W' ⟨v, ρ', rfl, hO, hR, hE, hown, hfrm⟩; have hvb : v = .bool true := hR.vv_inv; subst hvb; have hbl : Below W.heap.size W W' := ⟨hE.os, hE.tape, hE.output, hE.size, fun k hk => hfrm k hk fun id h => by rcases h with h | h <;> simp [lk] at h⟩
 have hgs : gs = [] := by
   obtain ⟨p, q, _, hV, _⟩ := hW; rw [hv] at hV; exact (trodVars_none hV).1
 subst hgs; have hWk := hW; obtain ⟨p, q, hT, hV, hpq, hz, hnd⟩ := hW; have hq : q = [] := by rw [hv] at hV; exact (trodVars_none hV).2
 subst hq; have hlt := hWk.lt; refine ⟨_, rfl, post_same (pa := p) (pv := []) hWk ?_ ?_ ?_ (by rw [hpq]) hbl ?_⟩
 · intro b sp hd
   rw [hres, List.append_nil, hfn]; exact trodAll_mk1 (shut_bool hb true)
 · intro sp hsp
   rw [List.append_nil, hfn]; rw [hpq, List.append_nil] at hsp hlt; exact trodAll_stays hl hbl hr hT hlt hsp
 · intro sp hsp
   rw [hv, List.append_nil, hfn]; rfl
 · exact ok_one hres rfl (okWide_bool_mk hb true)
theorem arg_pv {M N : Nat} {B : DataW H → Nat} (hB : Bulk B) (hT : ∀ t, t < N → okDesc P N t = true) {t : TypeId} {v : Value} {d : DataW H} {ps : List MemPlace} (ht : t < N) (h : DataW.Trod enc P W base spare held t v d ps) (hM : B d ≤ M) :
   ∃ (fuel : Nat) (xs : List PV), PRs W (Stb F0 r0 (lk [])) xs v.cells.toList ∧ Shp P M fuel t xs := by
 obtain ⟨fuel, hf⟩ := h; obtain ⟨xs, h1, h2⟩ := trod_pv hB (S := Stb F0 r0 (lk [])) (fun b o v _ => stb0 b o) hT fuel t _ _ ht hf hM
 exact ⟨fuel, xs, h1, h2⟩
theorem ar_one {x : PV} {v : Value} {r : Reach} {t : TypeId} (hval : Value.okWide P W r base t v) (hs : ∀ fs, P.underlying t ≠ some (.struct fs)) (ha : ∀ n e, P.underlying t ≠ some (.array n e)) (hi : ∀ m, P.underlying t ≠ some (.interface m)) (h : PRs W (Stb F0 r0 (lk [])) [x] v.cells.toList) : AR F0 r0 (lk []) W (.p x) v := by
 have hv : v.cells = #[v] := by
   unfold Value.okWide at hval
   cases v with
   | agg cs =>
     exfalso
     split at hval
     · rename_i fs hu; exact hs _ hu
     · rename_i n e hu; exact ha _ _ hu
     · unfold Cell.okWide at hval
       split at hval <;> simp_all [Cell.ok]
   | _ => rfl
 rw [hv] at h; exact .p (h.2 0 x v rfl rfl)
theorem ar_agg {xs : List PV} {v : Value} {r : Reach} {t : TypeId} {fs : Array Field} (hval : Value.okWide P W r base t v) (hs : P.underlying t = some (.struct fs)) (h : PRs W (Stb F0 r0 (lk [])) xs v.cells.toList) : AR F0 r0 (lk []) W (.agg (xs.map .p)) v := by
 unfold Value.okWide at hval; rw [hs] at hval; obtain ⟨cs, rfl, _, _⟩ := hval; simp only [Value.cells] at h; refine .agg (by simp [h.1]) ?_ ?_
 · intro v hv
   obtain ⟨j, hj, rfl⟩ := Array.mem_iff_getElem.1 hv; have hl := h.1; obtain ⟨x, hx⟩ : ∃ x, xs[j]? = some x := ⟨xs[j]'(by simp at hl; omega), List.getElem?_eq_getElem _⟩
   exact (h.2 j x cs[j] hx (by simp [hj])).one
 · intro j a v hj hv
   simp only [List.getElem?_map, Option.map_eq_some_iff] at hj; obtain ⟨x, hx, rfl⟩ := hj; exact .p (h.2 j x v hx (by simpa using hv))
end
end Go.Flat
end
section
set_option linter.unusedVariables false
set_option linter.unusedSimpArgs false
namespace Go.Flat
mutual
def PV.w : PV → Nat
 | .ps rows => PV.wAll rows
 | _ => 0
def PV.wAll : List (List PV) → Nat
 | [] => 0
 | r :: rs => 1 + PV.wRow r + PV.wAll rs
def PV.wRow : List PV → Nat
 | [] => 0
 | x :: r => x.w + PV.wRow r
end
section
variable {M : Nat} {P : Program} {w : World} {S : Nat → Nat → Prop} {H : Type} {enc : TypeId × Value → H} {base : Nat} {spare : Nat → Bool} {held : Bool}
end
section
variable {P : Program} {W : World} {H : Type} {enc : TypeId × Value → H} {base : Nat} {spare : Nat → Bool} {held : Bool} {F0 : Nat → Nat → Prop} {r0 : Ren}
end
end Go.Flat
end
