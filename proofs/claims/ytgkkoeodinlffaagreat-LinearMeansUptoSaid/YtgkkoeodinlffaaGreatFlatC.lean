/-
  Flat, part 12: append; and all operations together. (and 9 texts more)
-/
import Derived.Test.YtgkkoeodinlffaaGreatFlatB
import Derived.Deep.LoopGhost
section
set_option linter.unusedVariables false
set_option linter.unusedSimpArgs false
namespace Go.Flat
section
variable {P : Program} {F : Nat → Nat → Prop} {G : Start} {ρ ρ' : Ren} {t t' : Sto} {a : Act} {w w' : World}
theorem newNone {id e sz : Nat} (h : Rel F G ρ t a w) (h1 : t (.var id) = none) (h2 : t (.arr id) = none) (hs0 : 0 < sz) :
   Rel F G (fun k => if k = id then none else ρ k) (appU [(.arr id, some (.arr e sz [] 0))] t) a w ∧ ∀ ad : Option Addr, AR F (fun k => if k = id then none else ρ k) (appU [(.arr id, some (.arr e sz [] 0))] t) w (.sl id 0 0 0) (.slice ad 0 0) := by
 generalize ht' : appU [(.arr id, some (.arr e sz [] 0))] t = t'; generalize hρ : (fun k => if k = id then none else ρ k : Ren) = ρ'
 have hρi : ρ' id = none := by rw [← hρ]; simp
 have hρn : ∀ k, k ≠ id → ρ' k = ρ k := by intro k hk; rw [← hρ]; simp [hk]
 have hat : ∀ l, l ≠ .arr id → t' l = t l := by
   intro l hl; rw [← ht']; simp only [appU]; exact upd_ne _ _ hl
 have hid' : t' (.arr id) = some (.arr e sz [] 0) := by rw [← ht']; simp [appU]
 have hv' : ∀ k, t' (.var k) = t (.var k) := fun k => hat _ (by simp)
 have hlive : ∀ k, k ≠ id → (live t' k ↔ live t k) := fun k hk => by simp [live, hv', hat (.arr k) (by simp [hk])]
 have hE : Ext F ρ t w ρ' t' w := by
   refine ⟨rfl, rfl, rfl, Nat.le_refl _, ?_, ?_, ?_⟩
   · intro k hk
     have : k ≠ id := fun e => hk (e ▸ h1)
     exact ⟨by rw [hv' k]; exact hk, hρn k this⟩
   · intro k e2 sz2 xs pub hk
     have : k ≠ id := fun e => by rw [e, h2] at hk; simp at hk
     exact ⟨xs, pub, by rw [hat _ (by simp [this])]; exact hk, Nat.le_refl _, fun _ => ⟨hρn k this, fun _ _ _ hs => hs⟩⟩
   · intro b o u hs hc
     refine ⟨hc, hs.1, fun k hk => ?_⟩
     by_cases ek : k = id
     · subst ek; rw [hρi] at hk; simp at hk
     · rw [hρn k ek] at hk
       rw [hv' k, hat _ (by simp [ek])]
       exact hs.2 k hk
 have hkl : ∀ {k b}, ρ' k = some b → k ≠ id := by
   rintro k b hk rfl; rw [hρi] at hk; simp at hk
 refine ⟨h.step hE ⟨?_, ?_, ?_, ?_, ?_, ?_, ?_⟩ (fun k => hat _ (by simp)) ?_ (fun b hb _ => rfl), fun ad => .sl ⟨e, sz, [], 0, hid', by simp, ad, 0, rfl, fun _ => ⟨by simp, by simp, by simp, .inl rfl⟩⟩⟩
 · intro k c hk
   rw [hv' k] at hk; have ek : k ≠ id := fun e => by rw [e, h1] at hk; simp at hk
   obtain ⟨n, b, cs', e', rfl, q1, q2, q3⟩ := h.o.var k c hk; exact ⟨n, b, cs', e', rfl, by rw [hρn k ek]; exact q1, q2, q3⟩
 · intro k j c hk
   rw [hat _ (by simp)] at hk
   obtain ⟨x, n, b, u, rfl, q1, q2, q3, q4, q5, q6⟩ := h.o.cell k j c hk; have ek : k ≠ id := fun e => by rw [e, h1] at q1; simp at q1
   exact ⟨x, n, b, u, rfl, by rw [hv' k]; exact q1, q2, by rw [hρn k ek]; exact q3, q4, q5.ext hE, q6⟩
 · intro k c hk
   by_cases ek : k = id
   · subst ek
     rw [hid'] at hk; simp only [Option.some.injEq] at hk; exact ⟨e, sz, [], 0, hk.symm, hs0, by simp, by simp, .inl ⟨hρi, rfl⟩⟩
   · rw [hat _ (by simp [ek])] at hk
     obtain ⟨e', sz2, ys, pub2, rfl, q1, q2, q3, q4⟩ := h.o.arr k c hk; refine ⟨e', sz2, ys, pub2, rfl, q1, q2, q3, ?_⟩; rcases q4 with ⟨q4, q5⟩ | ⟨b, cs', q4, q5, q6, q7⟩
     · exact .inl ⟨by rw [hρn k ek]; exact q4, q5⟩
     · refine .inr ⟨b, cs', by rw [hρn k ek]; exact q4, q5, q6, fun i row hi j x hj => ?_⟩
       obtain ⟨u, u1, u2⟩ := q7 i row hi j x hj; exact ⟨u, u1, u2.ext hE⟩
 · intro k k' b hk hk' hb hb'
   have ek := hkl hb; have ek' := hkl hb'; rw [hlive k ek] at hk; rw [hlive k' ek'] at hk'; rw [hρn k ek] at hb; rw [hρn k' ek'] at hb'; exact h.o.inj k k' b hk hk' hb hb'
 · intro k hk
   rw [hv' k] at hk; have ek : k ≠ id := fun e => hk (e ▸ h1)
   rw [hat _ (by simp [ek])]
   exact h.o.excl k hk
 · intro k b o hk hb hF
   have ek := hkl hb; rw [hlive k ek] at hk; rw [hρn k ek] at hb; exact h.o.apart k b o hk hb hF
 · exact h.o.bound
 · intro k b hl hb
   have ek := hkl hb; rw [hlive k ek] at hl; rw [hρn k ek] at hb; exact .inl ⟨hl, hb⟩
theorem rows_drew {x : Value} {sz n : Nat} {vs : Array Value} (h : (Builtin.firstCells sz n x).run P w = .ok vs w) : (Builtin.firstCells sz n x).run P w.drew = .ok vs w.drew := by
 have key : ∀ (a : Addr) (k i : Nat) (acc : Array Value) (r : Array Value), (loadCellsFrom a i k acc).run P w = .ok r w → (loadCellsFrom a i k acc).run P w.drew = .ok r w.drew := by
   intro a k
   induction k with
   | zero => intro i acc r h; simp [loadCellsFrom] at h ⊢; exact h
   | succ k ih =>
     intro i acc r h; simp only [loadCellsFrom, Sem.run_bind, run_load, World.cell?_drew] at h ⊢
     cases hc : w.cell? (a.add i) with
     | some v =>
       simp only [hc, Result.andThen_ok] at h ⊢; exact ih _ _ _ h
     | none =>
       simp only [hc] at h ⊢; have hf : w.drew.farLoad P (a.add i) (Mode.plain == .atomic) = w.farLoad P (a.add i) (Mode.plain == .atomic) := rfl; rw [hf]
       cases hl : w.farLoad P (a.add i) (Mode.plain == .atomic) with
       | ok q =>
         simp only [hl, Result.andThen_ok] at h ⊢; exact ih _ _ _ h
       | error e => simp [hl] at h
 unfold Builtin.firstCells at h ⊢; split at h
 · exact key _ _ _ _ _ h
 · simp only [Sem.run_pure, Result.ok.injEq, and_true] at h ⊢; exact h
 · simp only [Sem.run_pure, Result.ok.injEq, and_true] at h ⊢; exact h
 · simp at h
theorem append_trunc (hr : Rel F G ρ t a w) {ty ty2 ret e e2 : TypeId} {j : TI} (hu : P.underlying ty = some (.slice e)) (hu2 : P.underlying ty2 = some (.slice e2)) (fj : TyFacts P e j)
   {us : Value} {ys : List (List PV)} {f : Eff} {id L off len : Nat} (hs : AR F ρ t w (.sl id L off len) us) (hs0 : 0 < j.size) (hrow : ∀ row ∈ ys, row.length = j.size) {xd : Option Addr} {cx : Nat} {new : Array Value}
   (hn1 : (Builtin.firstCells j.size ys.length (.slice xd ys.length cx)).run P w = .ok new w) (hn2 : new.size = ys.length * j.size) (hn3 : Holds w (Stb F ρ t) j.size ys new.toList)
   {e' sz pub : Nat} {xs : List (List PV)} (ha : t (.arr id) = some (.arr e' sz xs pub))
   (h : (if e' = e ∧ sz = j.size ∧ L = xs.length ∧ off = 0 ∧ len < L ∧ pub ≤ len ∧ (len + ys.length) * j.bytes ≤ lim ∧ len + ys.length ≤ lim then some (⟨.sl id (max L (len + ys.length)) 0 (len + ys.length), [(.arr id, some (.arr e sz (xs.take len ++ ys ++ xs.drop (len + ys.length)) pub))]⟩ : Eff) else none) = some f) :
   ∃ ρ' v w', (Builtin.append_ #[ty, ty2] ret #[us, .slice xd ys.length cx]).run P w = .ok v w' ∧ Rel F G ρ' (appU f.u t) a w' ∧ AR F ρ' (appU f.u t) w' f.val v := by
 split at h <;> try (simp at h; done)
 rename_i hc
 obtain ⟨rfl, rfl, rfl, rfl, hlen, hpub, l1, l2⟩ := hc; simp only [Option.some.injEq] at h; subst h; have hzl : (xs.take len ++ ys ++ xs.drop (len + ys.length)).length = max xs.length (len + ys.length) := by simp; omega
 cases hs with
 | sl hq =>
   obtain ⟨e3, sz3, xs3, pub3, ha3, hL, ad, c, rfl, hq⟩ := hq; rw [ha] at ha3; simp only [Option.some.injEq, C.arr.injEq] at ha3; obtain ⟨rfl, rfl, rfl, rfl⟩ := ha3; obtain ⟨q1, q2, q3, q4⟩ := hq rfl
   by_cases hle : len + ys.length ≤ c
   · rcases q4 with rfl | ⟨b, n, g1, rfl, g2, g3⟩
     · omega
     · obtain ⟨cs, r1, r2, r3, r4, r5, r6⟩ := arr_holds hr.o ha g1
       have hn : n = cs.size := by
         rw [shape_of r1] at g2; simp only [Option.some.injEq, Prod.mk.injEq] at g2; exact g2.2.symm
       subst hn; have hsz : (len + ys.length) * j.size ≤ cs.size := Nat.le_trans (Nat.mul_le_mul_right _ (by omega)) g3
       obtain ⟨w', s1, s2⟩ := run_storeCells P (len * j.size) new.toList 0 w cs r1 (by
         simp only [Array.length_toList, hn2, Nat.add_zero]; rw [Nat.add_mul] at hsz
         exact hsz) hn3.1
       rw [Nat.add_zero] at s2; obtain ⟨k1, k2⟩ := writeAt hr ha g1 r1 (by omega) hpub hrow (by simpa using hn2) hsz hn3 s2
       refine ⟨ρ, _, w', run_append_in (P := P) (ret := ret) hu hu2 fj (n := len) (c := c) hle hn1 ?_, k1, ?_⟩
       · simp only [Nat.zero_mul, addr_add, Nat.zero_add]
         exact s1
       · refine .sl ⟨e', j.size, (xs.take len ++ ys ++ xs.drop (len + ys.length)), pub, by simp only [appU, upd_same], by rw [hzl]; exact Nat.le_refl _, _, c, rfl, fun _ => ⟨by omega, hle, by omega, .inr ⟨b, cs.size, g1, rfl, ?_, g3⟩⟩⟩
         rw [s2.shape r1 (by simp [overwrite_length])]
         exact g2
   · have hrx : ∀ row ∈ xs, row.length = j.size := by
       obtain ⟨e3, sz3, xs3, pub3, hc3, s0, s1, s2, s3⟩ := hr.o.arr id _ ha; simp only [C.arr.injEq] at hc3; obtain ⟨rfl, rfl, rfl, rfl⟩ := hc3; exact s2
     have hrt : ∀ row ∈ xs.take len, row.length = j.size := fun row h => hrx row (List.mem_of_mem_take h)
     have htl : (xs.take len).length = len := by simp; omega
     have hold : ∃ old : Array Value, (Builtin.firstCells j.size len (.slice ad len c)).run P w = .ok old w ∧ old.size = len * j.size ∧ HoldsQ F ρ t w id j.size (xs.take len) old.toList := by
       obtain ⟨ad', c', he, old, o1, o2, o3⟩ := rows_read_q (P := P) (off := 0) hr.o (.sl ⟨e', j.size, xs, pub, ha, hL, ad, c, rfl, hq⟩) ha rfl (by simp) hs0 hrt
       simp only [Value.slice.injEq, htl, true_and] at he; obtain ⟨rfl, rfl⟩ := he; rw [htl] at o1 o2; exact ⟨old, o1, o2, o3⟩
     obtain ⟨old, o1, o2, o3⟩ := hold; obtain ⟨cap, rest, r1, r2, r3, r4⟩ := run_append_new (P := P) (w := w) (ret := ret) hu hu2 fj (ad := ad) (xd := xd) (n := len) (c := c) (m := ys.length) (cx := cx) (by omega) l1 l2 (rows_drew o1) (rows_drew hn1)
     have hd0 : xs.drop (len + ys.length) = [] := List.drop_eq_nil_of_le (by omega)
     have hH : HoldsQ F ρ t w.drew id j.size (xs.take len ++ ys) (old.toList ++ new.toList ++ rest) := by
       refine HoldsQ.append o3.1 (by simpa [htl] using o2) (fun i row hi k x hk => ?_) hrt ?_ (by simpa using hn2) r3
       · obtain ⟨u, u1, u2⟩ := o3.2.2 i row hi k x hk
         exact ⟨u, u1, u2.ext Ext.drew⟩
       · exact ⟨hn3.1, hn3.2.1, fun i row hi k x hk => by
           obtain ⟨u, u1, u2⟩ := hn3.2.2 i row hi k x hk
           exact ⟨u, u1, .inl (u2.ext Ext.drew)⟩⟩
     have hlt : xs.length < (xs.take len ++ ys).length := by rw [List.length_append, htl]; clear hq q4; omega
     have g1 := moveTo (e := e') (cs := ⟨old.toList ++ new.toList ++ rest⟩) (zs := xs.take len ++ ys) hr.drew ha hlt (by
       intro row hrow'; rcases List.mem_append.1 hrow' with h | h
       · exact hrt row h
       · exact hrow row h) hH
     rw [hd0, List.append_nil]; have hm : max xs.length (len + ys.length) = len + ys.length := by clear hq q4; omega
     rw [hm]; refine ⟨_, _, _, r4, g1, .sl ⟨e', j.size, xs.take len ++ ys, pub, by simp only [appU, upd_same], by rw [List.length_append, htl]; exact Nat.le_refl _, _, cap, rfl, fun _ => ⟨by rw [Nat.zero_add]; exact Nat.le_refl _, r1, by rw [Nat.zero_add]; exact r1, .inr ⟨w.heap.size, _, setR_same _ _ _, by simp, shape_of (heap_alloc_new _ _), ?_⟩⟩⟩⟩
     simp only [List.size_toArray, List.length_append, Array.length_toList, hn2, o2, r2, Nat.zero_add]; rw [Nat.sub_mul, Nat.add_mul]; have := Nat.mul_le_mul_right j.size r1; rw [Nat.add_mul] at this; clear hq q4; omega
theorem append_any (hr : Rel F G ρ t a w) {nid : Nat} {ty ty2 ret e e2 : TypeId} {j : TI} (hu : P.underlying ty = some (.slice e)) (hu2 : P.underlying ty2 = some (.slice e2)) (fj : TyFacts P e j)
   {s x : AV} {us ux : Value} {ys : List (List PV)} {f : Eff} (hs : AR F ρ t w s us) (hx : AR F ρ t w x ux) (hy : rowsF t x = some ys) (h : appendF t nid e j s ys = some f) :
   ∃ ρ' v w', (Builtin.append_ #[ty, ty2] ret #[us, ux]).run P w = .ok v w' ∧ Rel F G ρ' (appU f.u t) a w' ∧ AR F ρ' (appU f.u t) w' f.val v := by
 unfold appendF at h; split at h <;> try (simp at h; done)
 rename_i hcond
 obtain ⟨hs0, hrow⟩ := hcond; obtain ⟨xd, cx, rfl, new, hn1, hn2, hn3⟩ := rows_read (P := P) hr.o hx hy hs0 hrow; split at h <;> try (simp at h; done)
 · split at h <;> try (simp at h; done)
   rename_i hl
   obtain ⟨hfr, l1, l2⟩ := hl; obtain ⟨h1, h2⟩ := fresh_inv hfr; simp only [Option.some.injEq] at h; subst h; obtain ⟨ad, rfl, hp⟩ := hs.psf_inv
   try simp only [List.length_nil]
   by_cases hm : ys.length = 0
   · have : ys = [] := List.eq_nil_of_length_eq_zero hm
     subst this; obtain ⟨g1, g2⟩ := newNone (e := e) (sz := j.size) hr h1 h2 hs0; refine ⟨_, .slice ad 0 0, w, ?_, g1, g2 ad⟩
     have hnew : new = #[] := by
       have : new.size = 0 := by simpa using hn2
       exact Array.eq_empty_of_size_eq_zero this
     subst hnew; have := run_append_in (P := P) (w := w) (w' := w) (ret := ret) hu hu2 fj (ad := ad) (xd := xd) (n := 0) (c := 0) (m := 0) (cx := cx) (new := #[]) (by omega) hn1 (by cases ad <;> simp [storeCells])
     simpa using this
   · have hold : (Builtin.firstCells j.size 0 (.slice ad 0 0)).run P w.drew = .ok #[] w.drew := by
       cases ad <;> simp [Builtin.firstCells, loadCells, loadCellsFrom]
     obtain ⟨cap, rest, r1, r2, r3, r4⟩ := run_append_new (P := P) (w := w) (ret := ret) hu hu2 fj (ad := ad) (xd := xd) (n := 0) (c := 0) (m := ys.length) (cx := cx) (by omega) (by rw [Nat.zero_add]; exact l1) (by omega) hold (rows_drew hn1)
     have hH : Holds w.drew (Stb F ρ t) j.size ys (new.toList ++ rest) := by
       obtain ⟨q1, q2, q3⟩ := hn3; refine ⟨?_, ?_, fun i row hi k x hk => ?_⟩
       · intro v hv
         rcases List.mem_append.1 hv with hv | hv
         · exact q1 v hv
         · exact r3 v hv
       · simp only [List.length_append]; omega
       · obtain ⟨u, u1, u2⟩ := q3 i row hi k x hk
         exact ⟨u, by rw [List.getElem?_append_left (List.getElem?_eq_some_iff.1 u1).1]; exact u1, u2.ext Ext.drew⟩
     obtain ⟨g1, g2⟩ := newArr (e := e) (cs := ⟨new.toList ++ rest⟩) (n := ys.length) (c := cap) hr.drew h1 h2 hs0 hrow hH rfl (by omega) (by
       simp only [List.size_toArray, List.length_append, Array.length_toList, hn2, r2, Nat.zero_add]; rw [Nat.sub_mul]; have := Nat.mul_le_mul_right j.size (show ys.length ≤ cap by omega)
       omega)
     refine ⟨_, _, _, ?_, g1, g2⟩; simp only [Nat.zero_add, List.nil_append] at r4; exact r4
 · rename_i x0 r0
   generalize x0 :: r0 = xs at h hs; split at h <;> try (simp at h; done)
   rename_i hl
   obtain ⟨hfr, hpos, hrx, l1, l2⟩ := hl; obtain ⟨h1, h2⟩ := fresh_inv hfr; simp only [Option.some.injEq] at h; subst h; obtain ⟨ad', c', he, old, o1, o2, o3⟩ := rows_read (P := P) hr.o hs (ys := xs) rfl hs0 hrx; obtain ⟨ad, rfl, hp⟩ := hs.psf_inv; simp only [Value.slice.injEq, true_and] at he; obtain ⟨rfl, rfl⟩ := he; obtain ⟨cap, rest, r1, r2, r3, r4⟩ := run_append_new (P := P) (w := w) (ret := ret) hu hu2 fj (ad := ad) (xd := xd) (n := xs.length) (c := xs.length) (m := ys.length) (cx := cx) (by omega) l1 l2 (rows_drew o1) (rows_drew hn1)
   have hH : Holds w.drew (Stb F ρ t) j.size (xs ++ ys) (old.toList ++ new.toList ++ rest) := by
     obtain ⟨p1, p2, p3⟩ := o3; obtain ⟨q1, q2, q3⟩ := hn3; have ol : old.toList.length = xs.length * j.size := by simpa using o2
     refine ⟨?_, ?_, fun i row hi k x hk => ?_⟩
     · intro v hv
       simp only [List.mem_append] at hv; rcases hv with (hv | hv) | hv
       · exact p1 v hv
       · exact q1 v hv
       · exact r3 v hv
     · simp only [List.length_append, Array.length_toList, o2, hn2, Nat.add_mul]; omega
     · rw [List.append_assoc]
       by_cases hlt : i < xs.length
       · rw [List.getElem?_append_left hlt] at hi
         obtain ⟨u, u1, u2⟩ := p3 i row hi k x hk; exact ⟨u, by rw [List.getElem?_append_left (List.getElem?_eq_some_iff.1 u1).1]; exact u1, u2.ext Ext.drew⟩
       · rw [List.getElem?_append_right (by omega)] at hi
         obtain ⟨u, u1, u2⟩ := q3 _ row hi k x hk; refine ⟨u, ?_, u2.ext Ext.drew⟩; have hle : xs.length * j.size ≤ i * j.size := Nat.mul_le_mul_right j.size (by omega)
         rw [Nat.sub_mul] at u1; have hlu := (List.getElem?_eq_some_iff.1 u1).1; rw [List.getElem?_append_right (by rw [ol]; omega), List.getElem?_append_left (by rw [ol]; omega)]
         rw [show i * j.size + k - old.toList.length = i * j.size - xs.length * j.size + k by rw [ol]; omega]
         exact u1
   obtain ⟨g1, g2⟩ := newArr (e := e) (cs := ⟨old.toList ++ new.toList ++ rest⟩) (n := xs.length + ys.length) (c := cap) hr.drew h1 h2 hs0 (by
       intro row hrow'; rcases List.mem_append.1 hrow' with h | h
       · exact hrx row h
       · exact hrow row h) hH (by simp) r1 (by
     simp only [List.size_toArray, List.length_append, Array.length_toList, hn2, o2, r2]; rw [Nat.sub_mul]; have := Nat.mul_le_mul_right j.size r1; rw [Nat.add_mul] at this ⊢
     omega)
   exact ⟨_, _, _, r4, g1, g2⟩
 · rename_i id L off len
   split at h <;> try (simp at h; done)
   rename_i e' sz xs pub ha
   split at h
   rotate_left
   · exact append_trunc hr hu hu2 fj hs hs0 hrow hn1 hn2 hn3 ha h
   rename_i hc
   obtain ⟨rfl, rfl, rfl, rfl, rfl, l1, l2⟩ := hc; simp only [Option.some.injEq] at h; subst h
   cases hs with
   | sl hq =>
     obtain ⟨e3, sz3, xs3, pub3, ha3, hL, ad, c, rfl, hq⟩ := hq; rw [ha] at ha3; simp only [Option.some.injEq, C.arr.injEq] at ha3; obtain ⟨rfl, rfl, rfl, rfl⟩ := ha3; obtain ⟨q1, q2, q3, q4⟩ := hq rfl
     by_cases hle : xs.length + ys.length ≤ c
     · rcases q4 with rfl | ⟨b, n, g1, rfl, g2, g3⟩
       · have hx0 : xs = [] := List.eq_nil_of_length_eq_zero (by omega)
         have hy0 : ys = [] := List.eq_nil_of_length_eq_zero (by omega)
         subst hx0; subst hy0
         have hnew : new = #[] := by
           have : new.size = 0 := by simpa using hn2
           exact Array.eq_empty_of_size_eq_zero this
         subst hnew
         have hsame : appU [(.arr id, some (.arr e' j.size [] pub))] t = t := by
           funext l; simp only [appU]
           by_cases hl : l = .arr id
           · subst hl; simp [ha]
           · exact upd_ne _ _ hl
         refine ⟨ρ, .slice ad 0 0, w, ?_, ?_, ?_⟩
         · have := run_append_in (P := P) (w := w) (w' := w) (ret := ret) hu hu2 fj (ad := ad) (xd := xd) (n := 0) (c := 0) (m := 0) (cx := cx) (new := #[]) (by omega) hn1 (by cases ad <;> simp [storeCells])
           simpa using this
         · simp only [List.append_nil]
           rw [hsame]; exact hr
         · simp only [List.append_nil, List.length_nil, Nat.add_zero]
           rw [hsame]; exact .sl ⟨e', j.size, [], pub, ha, by simp, ad, 0, rfl, fun _ => ⟨by simp, by simp, by simp, .inl rfl⟩⟩
       · obtain ⟨cs, r1, r2, r3, r4, r5, r6⟩ := arr_holds hr.o ha g1
         have hn : n = cs.size := by
           rw [shape_of r1] at g2; simp only [Option.some.injEq, Prod.mk.injEq] at g2; exact g2.2.symm
         subst hn; have hsz : (xs.length + ys.length) * j.size ≤ cs.size := Nat.le_trans (Nat.mul_le_mul_right _ (by omega)) g3
         obtain ⟨w', s1, s2⟩ := run_storeCells P (xs.length * j.size) new.toList 0 w cs r1 (by
           simp only [Array.length_toList, hn2, Nat.add_zero]; rw [Nat.add_mul] at hsz
           exact hsz) hn3.1
         rw [Nat.add_zero] at s2; obtain ⟨k1, k2⟩ := extendAt hr ha g1 r1 hrow (by simpa using hn2) hsz hn3 s2
         refine ⟨ρ, _, w', run_append_in (P := P) (ret := ret) hu hu2 fj (n := xs.length) (c := c) hle hn1 ?_, k1, ?_⟩
         · simp only [Nat.zero_mul, addr_add, Nat.zero_add]
           exact s1
         · refine .sl ⟨e', j.size, xs ++ ys, pub, by simp [appU], by simp, _, c, rfl, fun _ => ⟨by omega, hle, by omega, .inr ⟨b, cs.size, g1, rfl, ?_, g3⟩⟩⟩
           rw [s2.shape r1 (by simp [overwrite_length])]
           exact g2
     · have hm : 0 < ys.length := by omega
       have hold : ∃ old : Array Value, (Builtin.firstCells j.size xs.length (.slice ad xs.length c)).run P w = .ok old w ∧ old.size = xs.length * j.size ∧ HoldsQ F ρ t w id j.size xs old.toList := by
         have hrx : ∀ row ∈ xs, row.length = j.size := by
           obtain ⟨e3, sz3, xs3, pub3, hc3, s0, s1, s2, s3⟩ := hr.o.arr id _ ha; simp only [C.arr.injEq] at hc3; obtain ⟨rfl, rfl, rfl, rfl⟩ := hc3; exact s2
         obtain ⟨ad', c', he, old, o1, o2, o3⟩ := rows_read_q (P := P) (off := 0) (len := xs.length) hr.o (.sl ⟨e', j.size, xs, pub, ha, hL, ad, c, rfl, hq⟩) ha rfl (by simp) hs0 hrx
         simp only [Value.slice.injEq, true_and] at he; obtain ⟨rfl, rfl⟩ := he; exact ⟨old, o1, o2, o3⟩
       obtain ⟨old, o1, o2, o3⟩ := hold; obtain ⟨cap, rest, r1, r2, r3, r4⟩ := run_append_new (P := P) (w := w) (ret := ret) hu hu2 fj (ad := ad) (xd := xd) (n := xs.length) (c := c) (m := ys.length) (cx := cx) (by omega) l1 l2 (rows_drew o1) (rows_drew hn1)
       have hrx : ∀ row ∈ xs, row.length = j.size := by
         obtain ⟨e3, sz3, xs3, pub3, hc3, s0, s1, s2, s3⟩ := hr.o.arr id _ ha; simp only [C.arr.injEq] at hc3; obtain ⟨rfl, rfl, rfl, rfl⟩ := hc3; exact s2
       have hH : HoldsQ F ρ t w.drew id j.size (xs ++ ys) (old.toList ++ new.toList ++ rest) := by
         refine HoldsQ.append o3.1 (by simpa using o2) (fun i row hi k x hk => ?_) hrx ?_ (by simpa using hn2) r3
         · obtain ⟨u, u1, u2⟩ := o3.2.2 i row hi k x hk
           exact ⟨u, u1, u2.ext Ext.drew⟩
         · exact ⟨hn3.1, hn3.2.1, fun i row hi k x hk => by
             obtain ⟨u, u1, u2⟩ := hn3.2.2 i row hi k x hk
             exact ⟨u, u1, .inl (u2.ext Ext.drew)⟩⟩
       have g1 := moveTo (e := e') (cs := ⟨old.toList ++ new.toList ++ rest⟩) (zs := xs ++ ys) hr.drew ha (by simp; omega) (by
         intro row hrow'; rcases List.mem_append.1 hrow' with h | h
         · exact hrx row h
         · exact hrow row h) hH
       refine ⟨_, _, _, r4, g1, .sl ⟨e', j.size, xs ++ ys, pub, by simp [appU], by simp, _, cap, rfl, fun _ => ⟨by omega, r1, by omega, .inr ⟨w.heap.size, _, setR_same _ _ _, by simp, shape_of (heap_alloc_new _ _), ?_⟩⟩⟩⟩
       simp only [List.size_toArray, List.length_append, Array.length_toList, hn2, o2, r2, Nat.zero_add]; rw [Nat.sub_mul, Nat.add_mul]; have := Nat.mul_le_mul_right j.size (show xs.length + ys.length ≤ cap by omega)
       rw [Nat.add_mul] at this; omega
theorem two_of_length {α : Type} {l : List α} (h : l.length = 2) : ∃ x y, l = [x, y] := by
 match l, h with
 | [x, y], _ => exact ⟨x, y, rfl⟩
theorem sl_block (hr : Rel F G ρ t a w) {id e sz pub off len : Nat} {xs : List (List PV)} {v : Value} (ha : t (.arr id) = some (.arr e sz xs pub)) (h : AR F ρ t w (.sl id xs.length off len) v) :
   ∃ ad c, v = .slice ad len c ∧ off + len ≤ xs.length ∧ (0 < len → ∃ b cs, ρ id = some b ∧ ad = some ⟨b, off * sz, none⟩ ∧ w.heap[b]? = some (.cells cs e (0, 0)) ∧ (off + len) * sz ≤ cs.size) := by
 cases h with
 | sl hq =>
   obtain ⟨e3, sz3, xs3, pub3, ha3, hL, ad, c, rfl, hq⟩ := hq; rw [ha] at ha3; simp only [Option.some.injEq, C.arr.injEq] at ha3; obtain ⟨rfl, rfl, rfl, rfl⟩ := ha3; obtain ⟨q1, q2, q3, q4⟩ := hq rfl; refine ⟨ad, c, rfl, q1, fun h0 => ?_⟩
   rcases q4 with rfl | ⟨b, n, g1, rfl, g2, g3⟩
   · omega
   · obtain ⟨cs, r1, r2, r3, r4, r5, r6⟩ := arr_holds hr.o ha g1
     have hn : n = cs.size := by
       rw [shape_of r1] at g2; simp only [Option.some.injEq, Prod.mk.injEq] at g2; exact g2.2.symm
     exact ⟨b, cs, g1, rfl, r1, Nat.le_trans (Nat.mul_le_mul_right _ (by omega)) (hn ▸ g3)⟩
theorem same_arr {id e sz pub : Nat} {xs : List (List PV)} (ha : t (.arr id) = some (.arr e sz xs pub)) : appU [(.arr id, some (.arr e sz xs pub))] t = t := by
 funext l; simp only [appU]
 by_cases hl : l = .arr id
 · subst hl; simp [ha]
 · exact upd_ne _ _ hl
theorem copy_any (hr : Rel F G ρ t a w) {ty ty2 ret e : TypeId} {j : TI} (hu : P.underlying ty = some (.slice e)) (fj : TyFacts P e j) {id : Nat} {xs ys : List (List PV)} {x : AV} {us ux : Value}
   (hs : AR F ρ t w (.sl id xs.length 0 xs.length) us) (hx : AR F ρ t w x ux) (hy : rowsF t x = some ys) (ha : t (.arr id) = some (.arr e j.size xs 0)) (hyl : ys.length = xs.length) (hs0 : 0 < j.size) (hrow : ∀ row ∈ ys, row.length = j.size) :
   ∃ w', (Builtin.copy_ #[ty, ty2] ret #[us, ux]).run P w = .ok (.int .i64 xs.length) w' ∧ Rel F G ρ (appU [(.arr id, some (.arr e j.size ys 0))] t) a w' := by
 obtain ⟨xd, cx, rfl, new, hn1, hn2, hn3⟩ := rows_read (P := P) hr.o hx hy hs0 hrow; obtain ⟨ad, c, rfl, _, hb⟩ := sl_block hr ha hs
 by_cases h0 : 0 < xs.length
 · obtain ⟨b, cs, g1, rfl, g2, g3⟩ := hb h0
   obtain ⟨w', s1, s2⟩ := run_storeCells P 0 new.toList 0 w cs g2 (by
     simp only [Array.length_toList, hn2, Nat.zero_add, hyl] at g3 ⊢
     exact g3) hn3.1
   obtain ⟨k1, k2⟩ := writeAt (n := 0) hr ha g1 g2 (Nat.zero_le _) (Nat.le_refl 0) hrow (by simpa using hn2) (by rw [hyl]; exact g3) hn3 (by simpa using s2)
   have hd : xs.take 0 ++ ys ++ xs.drop (0 + ys.length) = ys := by rw [hyl]; simp
   rw [hd] at k1; refine ⟨w', ?_, k1⟩; unfold Builtin.copy_; simp only [Sem.run_bind, Sem.run_pure, Result.andThen_ok, run_underlying hu, run_sizeOf' fj, Builtin.lenOf, List.getElem?_toArray, List.getElem?_cons_zero, List.getElem?_cons_succ, hyl, Nat.min_self]; rw [hyl] at hn1; rw [hn1]; simp only [Result.andThen_ok, Nat.zero_mul, Sem.run_bind]; rw [s1]; simp [goInt]
 · have hx0 : xs = [] := List.eq_nil_of_length_eq_zero (by omega)
   subst hx0; have hy0 : ys = [] := List.eq_nil_of_length_eq_zero (by simpa using hyl)
   subst hy0
   have hnew : new = #[] := by
     have : new.size = 0 := by simpa using hn2
     exact Array.eq_empty_of_size_eq_zero this
   subst hnew; refine ⟨w, ?_, by rw [same_arr ha]; exact hr⟩
   unfold Builtin.copy_; simp only [Sem.run_bind, Sem.run_pure, Result.andThen_ok, run_underlying hu, run_sizeOf' fj, Builtin.lenOf, List.getElem?_toArray, List.getElem?_cons_zero, List.getElem?_cons_succ, List.length_nil] at hn1 ⊢; rw [show Nat.min 0 0 = 0 from rfl, hn1]
   cases ad <;> simp [goInt, storeCells]
theorem clear_any (hr : Rel F G ρ t a w) {ty ret e : TypeId} {j : TI} (hu : P.underlying ty = some (.slice e)) (fj : TyFacts P e j) {id off len pub : Nat} {xs : List (List PV)} {us : Value} {z : List PV}
   (hs : AR F ρ t w (.sl id xs.length off len) us) (ha : t (.arr id) = some (.arr e j.size xs pub)) (hol : off + len = xs.length) (hpo : pub ≤ off) (hs0 : 0 < j.size) (hz : toPVs j.zero = some z) :
   ∃ w', (Builtin.clear_ #[ty] ret #[us]).run P w = .ok (.tuple #[]) w' ∧ Rel F G ρ (appU [(.arr id, some (.arr e j.size (xs.take off ++ List.replicate len z) pub))] t) a w' := by
 obtain ⟨ad, c, rfl, _, hb⟩ := sl_block hr ha hs
 by_cases h0 : 0 < len
 · obtain ⟨b, cs, g1, rfl, g2, g3⟩ := hb h0
   have hz1 := (zeroPV (F := F) (ρ := ρ) (t := t) (w := w) fj hz).1; have hzh := holds_zero (F := F) (ρ := ρ) (t := t) (w := w) fj hz hs0 len len (Nat.le_refl _)
   have hzc : (Builtin.zeroCells fj.z.cells len).toList = ((Array.range (len * j.size)).map fun k => fj.z.cells[k % fj.z.cells.size]!).toList := by
     unfold Builtin.zeroCells; rw [fj.hzn]
   have hzl : (Builtin.zeroCells fj.z.cells len).size = len * j.size := by simp [Builtin.zeroCells, fj.hzn]
   rw [← hzc] at hzh
   obtain ⟨w', s1, s2⟩ := run_storeCells P (off * j.size) (Builtin.zeroCells fj.z.cells len).toList 0 w cs g2 (by
     simp only [Array.length_toList, hzl, Nat.add_zero]; rw [← Nat.add_mul]
     exact g3) hzh.1
   obtain ⟨k1, k2⟩ := writeAt (n := off) (ys := List.replicate len z) hr ha g1 g2 (by omega) hpo (by intro row hrow; rw [(List.mem_replicate.1 hrow).2]; exact hz1) (by simpa using hzl) (by simpa using g3) hzh (by simpa using s2)
   have hd : xs.take off ++ List.replicate len z ++ xs.drop (off + (List.replicate len z).length) = xs.take off ++ List.replicate len z := by simp [hol]
   rw [hd] at k1; refine ⟨w', ?_, k1⟩; unfold Builtin.clear_; have hne : len ≠ 0 := by omega
   obtain ⟨m, rfl⟩ : ∃ m, len = m + 1 := ⟨len - 1, by omega⟩
   simp only [Sem.run_bind, Sem.run_pure, Result.andThen_ok, run_underlying hu, List.getElem?_toArray, List.getElem?_cons_zero, run_zero fj]; rw [s1]; rfl
 · have hl0 : len = 0 := by omega
   subst hl0
   have hd : xs.take off ++ List.replicate 0 z = xs := by
     rw [List.replicate_zero, List.append_nil, List.take_of_length_le (by omega)]
   rw [hd]; refine ⟨w, ?_, by rw [same_arr ha]; exact hr⟩
   unfold Builtin.clear_; cases ad <;> simp [run_underlying hu]
theorem goes_builtin (hr : Rel F G ρ t a w) {nid : Nat} {o : Oper} {b : Builtin} {args : Array Operand} {tys : Array TypeId} {f : Eff} (ho : o.op = .call { callee := .builtin b, args, argTypes := tys }) (h : evalOp (tyOf P) t nid o.op = some f) : Goes P F G t a w o f := by
 rw [ho] at h; simp only [evalOp] at h; split at h <;> try (simp at h; done)
 rename_i l hl
 obtain ⟨e1, e2⟩ := evs_ar hr hl; have hargs : args.map a.eval = (args.toList.map a.eval).toArray := by apply Array.ext'; simp
 unfold builtinF at h; split at h <;> try (simp at h; done)
 · rename_i x
   split at h <;> try (simp at h; done)
   rename_i ty hty
   split at h <;> try (simp at h; done)
   rename_i i hi
   obtain ⟨fi⟩ := tyOf_facts hi
   cases hq : lenF i.k x with
   | none => simp [hq] at h
   | some n =>
     simp only [hq, Option.map_some, Option.some.injEq] at h; subst h
     obtain ⟨y, hy⟩ : ∃ y, args.toList.map a.eval = [y] := by
       have : (args.toList.map a.eval).length = 1 := by simpa using e1.symm
       exact List.length_eq_one_iff.1 this
     have hx := e2 0 x y (by simp) (by rw [hy]; simp)
     have htys : tys = #[ty] := by apply Array.ext'; simpa using hty
     have hrun := len_any (P := P) (w := w) (ret := o.type) hx fi hq; refine .quiet hr (v := .int .i64 n) ?_ (.vv_mk rfl); simp only [execOp, ho, resolve, hargs, hy, htys, Sem.run_bind, Sem.run_pure, Result.andThen_ok, invoke, builtin]; rw [hrun]; rfl
 · rename_i x
   split at h <;> try (simp at h; done)
   rename_i ty hty
   split at h <;> try (simp at h; done)
   rename_i i hi
   obtain ⟨fi⟩ := tyOf_facts hi; split at h <;> try (simp at h; done)
   rename_i e xs hk
   simp only [Option.some.injEq] at h; subst h
   obtain ⟨y, hy⟩ : ∃ y, args.toList.map a.eval = [y] := by
     have : (args.toList.map a.eval).length = 1 := by simpa using e1.symm
     exact List.length_eq_one_iff.1 this
   have hx := e2 0 (.psf xs) y (by simp) (by rw [hy]; simp)
   have htys : tys = #[ty] := by apply Array.ext'; simpa using hty
   obtain ⟨ad, rfl, hp⟩ := hx.psf_inv; refine .quiet hr (v := .int .i64 xs.length) ?_ (.vv_mk rfl); simp only [execOp, ho, resolve, hargs, hy, htys, Sem.run_bind, Sem.run_pure, Result.andThen_ok, invoke, builtin]; simp [Builtin.cap_, run_underlying (kind_slice fi hk), goInt]
 · rename_i x z
   cases hq : maxF x z with
   | none => simp [hq] at h
   | some n =>
     simp only [hq, Option.map_some, Option.some.injEq] at h; subst h
     obtain ⟨y1, y2, hy⟩ : ∃ y1 y2, args.toList.map a.eval = [y1, y2] := by
       have : (args.toList.map a.eval).length = 2 := by simpa using e1.symm
       exact two_of_length this
     obtain ⟨r, r1, r2⟩ := max_any (P := P) (ts := tys) (ret := o.type) (e2 0 x y1 (by simp) (by rw [hy]; simp)) (e2 1 z y2 (by simp) (by rw [hy]; simp)) hq
     refine .quiet hr (v := r) ?_ r2; simp only [execOp, ho, resolve, hargs, hy, Sem.run_bind, Sem.run_pure, Result.andThen_ok, invoke, builtin]; rw [r1]; rfl
 · rename_i x z
   cases hq : minF x z with
   | none => simp [hq] at h
   | some n =>
     simp only [hq, Option.map_some, Option.some.injEq] at h; subst h
     obtain ⟨y1, y2, hy⟩ : ∃ y1 y2, args.toList.map a.eval = [y1, y2] := by
       have : (args.toList.map a.eval).length = 2 := by simpa using e1.symm
       exact two_of_length this
     obtain ⟨r, r1, r2⟩ := min_any (P := P) (ts := tys) (ret := o.type) (e2 0 x y1 (by simp) (by rw [hy]; simp)) (e2 1 z y2 (by simp) (by rw [hy]; simp)) hq
     refine .quiet hr (v := r) ?_ r2; simp only [execOp, ho, resolve, hargs, hy, Sem.run_bind, Sem.run_pure, Result.andThen_ok, invoke, builtin]; rw [r1]; rfl
 · rename_i x z
   split at h <;> try (simp at h; done)
   rename_i ty ty2 hty
   split at h <;> try (simp at h; done)
   rename_i i i2 hi hi2
   obtain ⟨fi⟩ := tyOf_facts hi; obtain ⟨fi2⟩ := tyOf_facts hi2
   obtain ⟨y1, y2, hy⟩ : ∃ y1 y2, args.toList.map a.eval = [y1, y2] := by
     have : (args.toList.map a.eval).length = 2 := by simpa using e1.symm
     exact two_of_length this
   have htys : tys = #[ty, ty2] := by apply Array.ext'; simpa using hty
   split at h <;> try (simp at h; done)
   · rename_i e e2' hk hk2
     split at h <;> try (simp at h; done)
     rename_i j ys hj hys
     obtain ⟨fj⟩ := tyOf_facts hj; obtain ⟨ρ', v, w', r1, r2, r3⟩ := append_any (P := P) (ret := o.type) hr (kind_slice fi hk) (kind_slice fi2 hk2) fj (e2 0 x y1 (by simp) (by rw [hy]; simp)) (e2 1 z y2 (by simp) (by rw [hy]; simp)) hys h
     refine ⟨ρ', v, w', .value v, ?_, .inl rfl, r2, r3⟩; simp only [execOp, ho, resolve, hargs, hy, htys, Sem.run_bind, Sem.run_pure, Result.andThen_ok, invoke, builtin]; rw [r1]; rfl
   · rename_i e kn hk hk2
     split at h <;> try (simp at h; done)
     rename_i j k n hj
     obtain ⟨fj⟩ := tyOf_facts hj; split at h <;> try (simp at h; done)
     rename_i zr hz
     split at h <;> try (simp at h; done)
     rename_i hc
     obtain ⟨hfr, c1, c2, c3, c4⟩ := hc; obtain ⟨h1, h2⟩ := fresh_inv hfr; simp only [Option.some.injEq] at h; subst h; obtain ⟨m, rfl⟩ := Int.eq_ofNat_of_zero_le (Int.le_of_lt c1); simp only [Int.toNat_natCast] at c3 c4 ⊢; have hx := e2 0 (.psf []) y1 (by simp) (by rw [hy]; simp)
     have hv2 := (e2 1 (.p (.v (.int k m))) y2 (by simp) (by rw [hy]; simp)).v_inv
     subst hv2; obtain ⟨ad, rfl, hp⟩ := hx.psf_inv; obtain ⟨cap, rest, r1, r2, r3, r4⟩ := run_append_zeros (P := P) (w := w) (ret := o.type) (k := k) (ad := ad) (kind_slice fi hk) (kind_int fi2 hk2) fj (n := m) (by omega) c2 c3 c4
     have hz1 := (zeroPV (F := F) (ρ := ρ) (t := t) (w := w) fj hz).1; have hzh := holds_zero (F := F) (ρ := ρ) (t := t) (w := w.drew) fj hz c2 m m (Nat.le_refl _)
     have hzc : (Builtin.zeroCells fj.z.cells m).toList = ((Array.range (m * j.size)).map fun k => fj.z.cells[k % fj.z.cells.size]!).toList := by
       unfold Builtin.zeroCells; rw [fj.hzn]
     have hzl : (Builtin.zeroCells fj.z.cells m).size = m * j.size := by simp [Builtin.zeroCells, fj.hzn]
     rw [← hzc] at hzh
     have hH : Holds w.drew (Stb F ρ t) j.size (List.replicate m zr) ((Builtin.zeroCells fj.z.cells m).toList ++ rest) := by
       obtain ⟨q1, q2, q3⟩ := hzh; refine ⟨?_, ?_, fun i row hi k x hk => ?_⟩
       · intro v hv
         rcases List.mem_append.1 hv with hv | hv
         · exact q1 v hv
         · exact r3 v hv
       · simp only [List.length_append]; omega
       · obtain ⟨u, u1, u2⟩ := q3 i row hi k x hk
         exact ⟨u, by rw [List.getElem?_append_left (List.getElem?_eq_some_iff.1 u1).1]; exact u1, u2⟩
     obtain ⟨g1, g2⟩ := newArr (e := e) (cs := ⟨(Builtin.zeroCells fj.z.cells m).toList ++ rest⟩) (n := m) (c := cap) hr.drew h1 h2 c2 (rows := List.replicate m zr) (by intro row hrow; rw [(List.mem_replicate.1 hrow).2]; exact hz1) hH (by simp) r1 (by
       simp only [List.size_toArray, List.length_append, Array.length_toList, r2, hzl]; rw [Nat.sub_mul]; have := Nat.mul_le_mul_right j.size r1
       omega)
     refine ⟨_, _, _, .value _, ?_, .inl rfl, g1, g2⟩; simp only [execOp, ho, resolve, hargs, hy, htys, Sem.run_bind, Sem.run_pure, Result.andThen_ok, invoke, builtin]; simp only [List.length_nil]; rw [r4]; rfl
 · rename_i d x
   split at h <;> try (simp at h; done)
   rename_i ty ty2 hty
   split at h <;> try (simp at h; done)
   rename_i i hi
   obtain ⟨fi⟩ := tyOf_facts hi
   obtain ⟨y1, y2, hy⟩ : ∃ y1 y2, args.toList.map a.eval = [y1, y2] := by
     have : (args.toList.map a.eval).length = 2 := by simpa using e1.symm
     exact two_of_length this
   have htys : tys = #[ty, ty2] := by apply Array.ext'; simpa using hty
   split at h <;> try (simp at h; done)
   rename_i e id L off len hk
   split at h <;> try (simp at h; done)
   rename_i j ys e' sz xs pub hj hys ha
   obtain ⟨fj⟩ := tyOf_facts hj; split at h <;> try (simp at h; done)
   rename_i hc
   obtain ⟨rfl, rfl, rfl, rfl, rfl, hyl, rfl, hs0, hrow⟩ := hc; simp only [Option.some.injEq] at h; subst h; obtain ⟨w', r1, r2⟩ := copy_any (P := P) (ret := o.type) (ty2 := ty2) hr (kind_slice fi hk) fj (e2 0 _ y1 (by simp) (by rw [hy]; simp)) (e2 1 x y2 (by simp) (by rw [hy]; simp)) hys ha hyl hs0 hrow
   refine ⟨ρ, .int .i64 xs.length, w', .value _, ?_, .inl rfl, r2, .vv_mk rfl⟩; simp only [execOp, ho, resolve, hargs, hy, htys, Sem.run_bind, Sem.run_pure, Result.andThen_ok, invoke, builtin]; rw [r1]; rfl
 · rename_i d
   split at h <;> try (simp at h; done)
   rename_i ty hty
   split at h <;> try (simp at h; done)
   rename_i i hi
   obtain ⟨fi⟩ := tyOf_facts hi
   obtain ⟨y1, hy⟩ : ∃ y1, args.toList.map a.eval = [y1] := by
     have : (args.toList.map a.eval).length = 1 := by simpa using e1.symm
     exact List.length_eq_one_iff.1 this
   have htys : tys = #[ty] := by apply Array.ext'; simpa using hty
   split at h <;> try (simp at h; done)
   rename_i e id L off len hk
   split at h <;> try (simp at h; done)
   rename_i j e' sz xs pub hj ha
   obtain ⟨fj⟩ := tyOf_facts hj; split at h <;> try (simp at h; done)
   rename_i z hz
   split at h <;> try (simp at h; done)
   rename_i hc
   obtain ⟨rfl, rfl, rfl, hol, hpo, hs0⟩ := hc; simp only [Option.some.injEq] at h; subst h; obtain ⟨w', r1, r2⟩ := clear_any (P := P) (ret := o.type) hr (kind_slice fi hk) fj (e2 0 _ y1 (by simp) (by rw [hy]; simp)) ha hol hpo hs0 hz
   refine ⟨ρ, .tuple #[], w', .value _, ?_, .inl rfl, r2, .tup rfl (by simp)⟩
   simp only [execOp, ho, resolve, hargs, hy, htys, Sem.run_bind, Sem.run_pure, Result.andThen_ok, invoke, builtin]; rw [r1]; rfl
theorem evalOp_goes (hr : Rel F G ρ t a w) {nid : Nat} {o : Oper} {f : Eff} (h : evalOp (tyOf P) t nid o.op = some f) : Goes P F G t a w o f := by
 cases ho : o.op with
 | move x => rw [ho] at h; exact goes_move hr ho h
 | assign x => rw [ho] at h; exact goes_assign hr ho h
 | pick c x y => exact goes_pick hr ho h
 | alloc e => exact goes_alloc hr ho h
 | box e x => exact goes_box hr ho h
 | build ty ps => exact goes_build hr ho h
 | buildSlice ty n ps => exact goes_buildSlice hr ho h
 | load ty x => exact goes_load hr ho h
 | store ty x y => exact goes_store hr ho h
 | nilCheck x => exact goes_nilCheck hr ho h
 | binOp op ty x y ty2 => exact goes_binOp hr ho h
 | unOp op ty x => exact goes_unOp hr ho h
 | convert s d x => exact goes_convert hr ho h
 | makeFunc f fi cap => exact goes_makeFunc hr ho h
 | makeSlice ty l c => exact goes_makeSlice hr ho h
 | slice ty x lo hi mx => exact goes_slice hr ho h
 | fieldAddr ty x n => exact goes_fieldAddr hr ho h
 | field ty x n => exact goes_field hr ho h
 | indexAddr ty x ix => exact goes_indexAddr hr ho h
 | extract x k => exact goes_extract hr ho h
 | call c =>
   obtain ⟨callee, args, tys⟩ := c
   cases callee with
   | builtin b => exact goes_builtin hr ho h
   | value f => rw [ho] at h; simp [evalOp] at h
   | invoke r m => rw [ho] at h; simp [evalOp] at h
 | _ => rw [ho] at h; simp [evalOp] at h
end
end Go.Flat
end
section
set_option linter.unusedVariables false
set_option linter.unusedSimpArgs false
namespace Go.Flat
def lk : List (Loc × C) → Sto
 | [] => fun _ => none
 | (k, c) :: r => fun l => if l = k then some c else lk r l
def ins (k : Loc) (c : C) : List (Loc × C) → List (Loc × C)
 | [] => [(k, c)]
 | (k', c') :: r => if k = k' then (k, c) :: r else (k', c') :: ins k c r
theorem lk_ins (k : Loc) (c : C) : ∀ l : List (Loc × C), lk (ins k c l) = upd (lk l) k (some c)
 | [] => by funext x; simp [ins, lk, upd]
 | (k', c') :: r => by
   funext x; simp only [ins]; split
   · rename_i h
     subst h; simp only [lk, upd]; split <;> rfl
   · rename_i h
     simp only [lk, lk_ins k c r, upd]
     by_cases hx : x = k'
     · subst hx
       simp [Ne.symm h]
     · simp [hx]
def Upd.full (u : Upd) : Bool := u.all fun p => p.2.isSome
def renA (f : Nat → Nat) : AV → AV
 | .ptr id off => .ptr (f id) off
 | .sl id L off len => .sl (f id) L off len
 | .eptr id L i off => .eptr (f id) L i off
 | .fn g cap => .fn g (renL f cap)
 | .agg cs => .agg (renL f cs)
 | .tup cs => .tup (renL f cs)
 | x => x
where renL (f : Nat → Nat) : List AV → List AV
 | [] => []
 | a :: r => renA f a :: renL f r
def renLoc (f : Nat → Nat) : Loc → Loc
 | .tmp k => .tmp k
 | .cell id j => .cell (f id) j
 | .var id => .var (f id)
 | .arr id => .arr (f id)
def renC (f : Nat → Nat) : C → C
 | .av a => .av (renA f a)
 | c => c
def refs (ok : Nat → Bool) : AV → Bool
 | .ptr id _ => ok id
 | .sl id _ _ _ => ok id
 | .eptr id _ _ _ => ok id
 | .fn _ cap => refsL ok cap
 | .agg cs => refsL ok cs
 | .tup cs => refsL ok cs
 | _ => true
where refsL (ok : Nat → Bool) : List AV → Bool
 | [] => true
 | a :: r => refs ok a && refsL ok r
theorem renL_at {f : Nat → Nat} : ∀ (l : List AV) (j : Nat), (renA.renL f l)[j]? = (l[j]?).map (renA f)
 | [], j => by simp [renA.renL]
 | a :: r, 0 => by simp [renA.renL]
 | a :: r, j + 1 => by simpa [renA.renL] using renL_at r j
theorem renL_len {f : Nat → Nat} : ∀ l : List AV, (renA.renL f l).length = l.length
 | [] => rfl
 | a :: r => by simp [renA.renL, renL_len r]
theorem refsL_at {ok : Nat → Bool} : ∀ {l : List AV} {j : Nat} {a : AV}, refs.refsL ok l = true → l[j]? = some a → refs ok a = true
 | b :: r, 0, a, h, hj => by
   simp at hj; subst hj; simp only [refs.refsL, Bool.and_eq_true] at h; exact h.1
 | b :: r, j + 1, a, h, hj => by
   simp only [refs.refsL, Bool.and_eq_true] at h; exact refsL_at h.2 (by simpa using hj)
 | [], j, a, h, hj => by simp at hj
section
variable {P : Program}
def Spec (P : Program) (f : Nat) (args : List AV) (s : List (Loc × C)) (res : AV) (s' : List (Loc × C)) : Prop :=
 ∀ (F : Nat → Nat → Prop) (ρ : Ren) (w : World) (vs : Array Value), RelO F ρ (lk s) w → vs.size = args.length →
   (∀ (j : Nat) (x : AV) (v : Value), args[j]? = some x → vs[j]? = some v → AR F ρ (lk s) w x v) →
   Calls P f vs w fun e w' => ∃ v ρ', e = .returned v ∧ RelO F ρ' (lk s') w' ∧ AR F ρ' (lk s') w' res v ∧ Ext F ρ (lk s) w ρ' (lk s') w' ∧
     (∀ id b, live (lk s') id → ρ' id = some b → (live (lk s) id ∧ ρ id = some b) ∨ w.heap.size ≤ b) ∧
     (∀ b, b < w.heap.size → (∀ id, live (lk s) id → ρ id ≠ some b) → w'.heap[b]? = w.heap[b]?)
variable {F : Nat → Nat → Prop} {ρ : Ren} {t t' s s' : Sto} {w w' : World} {ι : Nat → Nat}
def Bar (F : Nat → Nat → Prop) (ρ : Ren) (t s : Sto) (ι : Nat → Nat) : Nat → Nat → Prop := fun b o =>
 F b o ∨ ∃ id, live t id ∧ (∀ k, live s k → ι k ≠ id) ∧ ρ id = some b ∧ ¬ ∃ e sz xs pub, t (.arr id) = some (.arr e sz xs pub) ∧ o < pub * sz
open Classical in
noncomputable def low (ρ : Ren) (s : Sto) (ι : Nat → Nat) : Ren := fun k => if live s k then ρ (ι k) else none
theorem low_live {k : Nat} (h : live s k) : low ρ s ι k = ρ (ι k) := by simp [low, h]
theorem low_some {k b : Nat} (h : low ρ s ι k = some b) : live s k ∧ ρ (ι k) = some b := by
 unfold low at h; split at h
 · exact ⟨by assumption, h⟩
 · simp at h
def HClosed (s : Sto) : Prop := ∀ id e sz xs pub, s (.arr id) = some (.arr e sz xs pub) → (4294967296 ≤ id ∧ id < 8589934592) → ∀ row ∈ xs, ∀ k L off len, PV.han k L off len ∈ row → 8589934592 ≤ k → s (.arr k) ≠ none
structure Lies (s t : Sto) (ι : Nat → Nat) : Prop where
 at_ : ∀ l c, s l = some c → t (renLoc ι l) = some (renC ι c)
 inj : ∀ k k', live s k → live s k' → ι k = ι k' → k = k'
 tmp : ∀ k, s (.tmp k) = none
 own : ∀ id j, s (.cell id j) ≠ none → s (.var id) ≠ none
 ref : ∀ id j a, s (.cell id j) = some (.av a) → refs (fun k => (s (.var k)).isSome || (s (.arr k)).isSome) a = true
 big : ∀ k, live s k → 8589934592 ≤ k → ι k = k
 keep : ∀ k, live s k → ((4294967296 ≤ k ∧ k < 8589934592) ↔ (4294967296 ≤ ι k ∧ ι k < 8589934592))
 fam : HClosed s
theorem liveB {k : Nat} (h : ((s (.var k)).isSome || (s (.arr k)).isSome) = true) : live s k := by
 simp only [Bool.or_eq_true, Option.isSome_iff_ne_none] at h; exact h
theorem Stb.down (ht : RelO F ρ t w) (hl : Lies s t ι) {b o : Nat} (h : Stb F ρ t b o) : Stb (Bar F ρ t s ι) (low ρ s ι) s b o := by
 refine ⟨?_, fun k hk => ?_⟩
 · rintro (hF | ⟨id, h1, h2, h3, h4⟩)
   · exact h.1 hF
   · obtain ⟨g1, g2⟩ := h.2 id h3
     rcases h1 with h1 | h1
     · exact h1 g1
     · obtain ⟨c, hc⟩ := Option.ne_none_iff_exists'.1 h1
       obtain ⟨e, sz, xs, pub, rfl, _⟩ := ht.arr id c hc; exact h4 ⟨e, sz, xs, pub, hc, g2 e sz xs pub hc⟩
 · obtain ⟨hk1, hk2⟩ := low_some hk
   obtain ⟨g1, g2⟩ := h.2 _ hk2; refine ⟨?_, fun e sz xs pub ha => ?_⟩
   · cases hq : s (.var k) with
     | none => rfl
     | some c => have := hl.at_ _ _ hq; simp only [renLoc] at this; rw [g1] at this; simp at this
   · exact g2 e sz xs pub (hl.at_ _ _ ha)
theorem PR.down (ht : RelO F ρ t w) (hl : Lies s t ι) {x : PV} {v : Value} (h : PR w (Stb F ρ t) x v) : PR w (Stb (Bar F ρ t s ι) (low ρ s ι) s) x v :=
 h.mono fun _ _ _ hs hc => ⟨hc, Stb.down ht hl hs⟩
theorem SlOK.down (ht : RelO F ρ t w) (hl : Lies s t ι) {id L off len : Nat} {v : Value} (hlv : live s id) (hs : SlOK ρ t w (ι id) L off len v) : SlOK (low ρ s ι) s w id L off len v := by
 obtain ⟨e, sz, xs, pub, ha, h1, ad, c, rfl, h2⟩ := hs; refine ⟨e, sz, xs, pub, ?_, h1, ad, c, rfl, fun he => ?_⟩
 · rcases hlv with h | h
   · obtain ⟨c, hc⟩ := Option.ne_none_iff_exists'.1 h
     have h1 := hl.at_ _ _ hc; simp only [renLoc] at h1; have := ht.excl _ (by rw [h1]; simp)
     rw [ha] at this; simp at this
   · obtain ⟨c, hc⟩ := Option.ne_none_iff_exists'.1 h
     have h1 := hl.at_ _ _ hc; simp only [renLoc] at h1; rw [ha] at h1; simp only [Option.some.injEq] at h1; rw [hc]; cases c <;> simp [renC] at h1
     obtain ⟨rfl, rfl, rfl, rfl⟩ := h1; rfl
 · obtain ⟨q1, q2, q3, q4⟩ := h2 he
   refine ⟨q1, q2, q3, ?_⟩; rcases q4 with q4 | ⟨b, n, g1, g2, g3, g4⟩
   · exact .inl q4
   · exact .inr ⟨b, n, by rw [low_live hlv]; exact g1, g2, g3, g4⟩
theorem PQ.down (ht : RelO F ρ t w) (hl : Lies s t ι) {id e sz pub : Nat} {xs : List (List PV)} {row : List PV} {x : PV} {v : Value} (ha : s (.arr id) = some (.arr e sz xs pub)) (hrow : row ∈ xs) (hx : x ∈ row) (h : PQ F ρ t w (ι id) x v) : PQ (Bar F ρ t s ι) (low ρ s ι) s w id x v := by
 rcases h with h | ⟨hw, k, L, off, len, rfl, hk, hs⟩
 · exact .inl (h.down ht hl)
 · have hw' := (hl.keep id (.inr (by rw [ha]; simp))).2 hw
   have hlv : live s k := .inr (hl.fam id e sz xs pub ha hw' row hrow k L off len hx hk); refine .inr ⟨hw', k, L, off, len, rfl, hk, SlOK.down ht hl hlv ?_⟩; rw [hl.big k hlv hk]; exact hs
theorem AR.down (ht : RelO F ρ t w) (hl : Lies s t ι) : ∀ {a : AV} {v : Value}, AR F ρ t w (renA ι a) v → refs (fun k => (s (.var k)).isSome || (s (.arr k)).isSome) a = true → AR (Bar F ρ t s ι) (low ρ s ι) s w a v := by
 intro a v h; generalize ha : renA ι a = a' at h
 induction h generalizing a with
 | any =>
   intro _; cases a <;> simp [renA] at ha
   exact .any
 | p hp =>
   intro _; cases a <;> simp [renA] at ha
   subst ha; exact .p (hp.down ht hl)
 | psf hp =>
   intro _; cases a <;> simp [renA] at ha
   subst ha; exact .psf (hp.down ht hl)
 | @ptr id' off' b' hv hb =>
   intro hr; cases a <;> simp only [renA, reduceCtorEq, AV.ptr.injEq] at ha
   rename_i id off
   obtain ⟨rfl, rfl⟩ := ha; simp only [refs] at hr; have hlv := liveB hr; refine .ptr ?_ (by rw [low_live hlv]; exact hb)
   rcases hlv with h | h
   · exact h
   · obtain ⟨c, hc⟩ := Option.ne_none_iff_exists'.1 h
     have h1 := hl.at_ _ _ hc; simp only [renLoc] at h1; have := ht.excl _ hv; rw [this] at h1; simp at h1
 | @sl id' L' off' len' v' hs =>
   intro hr; cases a <;> simp only [renA, reduceCtorEq, AV.sl.injEq] at ha
   rename_i id L off len
   obtain ⟨rfl, rfl, rfl, rfl⟩ := ha; simp only [refs] at hr; have hlv := liveB hr; exact .sl (SlOK.down ht hl hlv hs)
 | @eptr id' L' i' off' v' hs =>
   intro hr; cases a <;> simp only [renA, reduceCtorEq, AV.eptr.injEq] at ha
   rename_i id L i off
   obtain ⟨rfl, rfl, rfl, rfl⟩ := ha; simp only [refs] at hr; have hlv := liveB hr; obtain ⟨e, sz, xs, pub, ha, h1, hi, ad, rfl, h2⟩ := hs; refine .eptr ⟨e, sz, xs, pub, ?_, h1, hi, ad, rfl, fun he => ?_⟩
   · rcases hlv with h | h
     · obtain ⟨c, hc⟩ := Option.ne_none_iff_exists'.1 h
       have h1 := hl.at_ _ _ hc; simp only [renLoc] at h1; have := ht.excl _ (by rw [h1]; simp)
       rw [ha] at this; simp at this
     · obtain ⟨c, hc⟩ := Option.ne_none_iff_exists'.1 h
       have h1 := hl.at_ _ _ hc; simp only [renLoc] at h1; rw [ha] at h1; simp only [Option.some.injEq] at h1; rw [hc]; cases c <;> simp [renC] at h1
       obtain ⟨rfl, rfl, rfl, rfl⟩ := h1; rfl
   · obtain ⟨q1, q2, q3⟩ := h2 he
     exact ⟨by rw [low_live hlv]; exact q1, q2, q3⟩
 | @fn f' cap' vs hn _ ih =>
   intro hr; cases a <;> simp only [renA, reduceCtorEq, AV.fn.injEq] at ha
   rename_i g cap
   obtain ⟨rfl, rfl⟩ := ha; simp only [refs] at hr; refine .fn (by rw [hn, renL_len]) fun j x v hj hv => ?_
   exact ih j (renA ι x) v (by rw [renL_at, hj]; rfl) hv rfl (refsL_at hr hj)
 | @agg cs' vs hn h1 _ ih =>
   intro hr; cases a <;> simp only [renA, reduceCtorEq, AV.agg.injEq] at ha
   rename_i cs
   subst ha; simp only [refs] at hr; refine .agg (by rw [hn, renL_len]) h1 fun j x v hj hv => ?_
   exact ih j (renA ι x) v (by rw [renL_at, hj]; rfl) hv rfl (refsL_at hr hj)
 | @tup cs' vs hn _ ih =>
   intro hr; cases a <;> simp only [renA, reduceCtorEq, AV.tup.injEq] at ha
   rename_i cs
   subst ha; simp only [refs] at hr; refine .tup (by rw [hn, renL_len]) fun j x v hj hv => ?_
   exact ih j (renA ι x) v (by rw [renL_at, hj]; rfl) hv rfl (refsL_at hr hj)
theorem Lies.live (h : Lies s t ι) {k : Nat} (hk : live s k) : live t (ι k) := by
 rcases hk with hk | hk
 · obtain ⟨c, hc⟩ := Option.ne_none_iff_exists'.1 hk
   exact .inl (by have := h.at_ _ _ hc; simp only [renLoc] at this; rw [this]; simp)
 · obtain ⟨c, hc⟩ := Option.ne_none_iff_exists'.1 hk
   exact .inr (by have := h.at_ _ _ hc; simp only [renLoc] at this; rw [this]; simp)
theorem RelO.down (ht : RelO F ρ t w) (hl : Lies s t ι) : RelO (Bar F ρ t s ι) (low ρ s ι) s w := by
 refine ⟨?_, ?_, ?_, ?_, ?_, ?_, ?_⟩
 · intro k c hk
   have hlv : Flat.live s k := .inl (by rw [hk]; simp)
   obtain ⟨n, b, cs, e, h1, h2, h3, h4⟩ := ht.var _ _ (hl.at_ _ _ hk); refine ⟨n, b, cs, e, ?_, by rw [low_live hlv]; exact h2, h3, h4⟩
   cases c <;> simp [renC] at h1
   rw [h1]
 · intro k j c hk
   obtain ⟨a, n, b, u, h1, h2, h3, h4, h5, h6, h7⟩ := ht.cell _ _ _ (hl.at_ _ _ hk); cases c <;> simp only [renC, reduceCtorEq, C.av.injEq] at h1
   rename_i x
   subst h1; have hx := hl.ref k j x hk
   have hv : s (.var k) = some (.n n) := by
     obtain ⟨c', hc'⟩ := Option.ne_none_iff_exists'.1 (hl.own k j (by rw [hk]; simp))
     have h8 := hl.at_ _ _ hc'; simp only [renLoc] at h8; rw [h2] at h8; rw [hc']; cases c' <;> simp [renC] at h8
     rw [h8]
   have hlv : Flat.live s k := .inl (by rw [hv]; simp)
   exact ⟨x, n, b, u, rfl, hv, h3, by rw [low_live hlv]; exact h4, h5, AR.down ht hl h6 hx, h7⟩
 · intro k c hk
   have hlv : Flat.live s k := .inr (by rw [hk]; simp)
   obtain ⟨e, sz, xs, pub, h1, h2, h3, h4, h5⟩ := ht.arr _ _ (hl.at_ _ _ hk)
   have hc : c = .arr e sz xs pub := by
     cases c <;> simp [renC] at h1
     obtain ⟨rfl, rfl, rfl, rfl⟩ := h1; rfl
   have hka := hk; rw [hc] at hka; refine ⟨e, sz, xs, pub, hc, h2, h3, h4, ?_⟩
   · rw [low_live hlv]
     rcases h5 with h5 | ⟨b, cs, h5, h6, h7, h8⟩
     · exact .inl h5
     · exact .inr ⟨b, cs, h5, h6, h7, fun i row hi j x hj => by obtain ⟨u, u1, u2⟩ := h8 i row hi j x hj; exact ⟨u, u1, PQ.down ht hl hka (List.mem_of_getElem? hi) (List.mem_of_getElem? hj) u2⟩⟩
 · intro k k' b hk hk' hb hb'
   rw [low_live hk] at hb; rw [low_live hk'] at hb'; exact hl.inj k k' hk hk' (ht.inj _ _ b (hl.live hk) (hl.live hk') hb hb')
 · intro k hk
   cases hq : s (.arr k) with
   | none => rfl
   | some c =>
     obtain ⟨c', hc'⟩ := Option.ne_none_iff_exists'.1 hk; have h1 := hl.at_ _ _ hq; have h2 := hl.at_ _ _ hc'; simp only [renLoc] at h1 h2; have := ht.excl _ (by rw [h2]; simp)
     rw [h1] at this; simp at this
 · intro k b o hk hb hF
   rw [low_live hk] at hb; rcases hF with hF | ⟨id, h1, h2, h3, h4⟩
   · exact ht.apart _ b o (hl.live hk) hb hF
   · exact h2 k hk (ht.inj _ _ b (hl.live hk) h1 hb h3)
 · intro b o hF
   rcases hF with hF | ⟨id, h1, h2, h3, h4⟩
   · exact ht.bound b o hF
   · exact live_lt ht h1 h3
open Classical in
noncomputable def up (ρ ρc : Ren) (s' : Sto) (ι : Nat → Nat) : Ren := fun id => if h : ∃ k, Flat.live s' k ∧ ι k = id then ρc (Classical.choose h) else ρ id
structure Back (s s' t t' : Sto) (ι : Nat → Nat) : Prop where
 var : ∀ k, Flat.live s' k → t' (.var (ι k)) = (s' (.var k)).map (renC ι)
 arr : ∀ k, Flat.live s' k → t' (.arr (ι k)) = (s' (.arr k)).map (renC ι)
 cell : ∀ k j, Flat.live s' k → t' (.cell (ι k) j) = (s' (.cell k j)).map (renC ι)
 other : ∀ id, (∀ k, Flat.live s' k → ι k ≠ id) → t' (.var id) = t (.var id) ∧ t' (.arr id) = t (.arr id) ∧ ∀ j, t' (.cell id j) = t (.cell id j)
 tmp : ∀ k, t' (.tmp k) = t (.tmp k)
 inj : ∀ k k', Flat.live s' k → Flat.live s' k' → ι k = ι k' → k = k'
 fresh : ∀ k, Flat.live s' k → ¬ Flat.live s k → ¬ Flat.live t (ι k)
 big : ∀ k, Flat.live s' k → 8589934592 ≤ k → ι k = k
 keep : ∀ k, Flat.live s' k → ((4294967296 ≤ k ∧ k < 8589934592) ↔ (4294967296 ≤ ι k ∧ ι k < 8589934592))
 ref : ∀ id j a, s' (.cell id j) = some (.av a) → refs (fun k => (s' (.var k)).isSome || (s' (.arr k)).isSome) a = true
variable {ρc : Ren}
theorem up_at (hi : ∀ k k', Flat.live s' k → Flat.live s' k' → ι k = ι k' → k = k') {k : Nat} (hk : Flat.live s' k) : up ρ ρc s' ι (ι k) = ρc k := by
 have h : ∃ k', Flat.live s' k' ∧ ι k' = ι k := ⟨k, hk, rfl⟩; unfold up; rw [dif_pos h]; have hc := Classical.choose_spec h; rw [hi _ _ hc.1 hk hc.2]
theorem up_other {id : Nat} (h : ∀ k, Flat.live s' k → ι k ≠ id) : up ρ ρc s' ι id = ρ id := by
 unfold up; rw [dif_neg]; rintro ⟨k, h1, h2⟩; exact h k h1 h2
theorem range_cases (id : Nat) : (∃ k, Flat.live s' k ∧ ι k = id) ∨ (∀ k, Flat.live s' k → ι k ≠ id) := by
 by_cases h : ∃ k, Flat.live s' k ∧ ι k = id
 · exact .inl h
 · exact .inr fun k hk e => h ⟨k, hk, e⟩
section
variable (ht : RelO F ρ t w) (hl : Lies s t ι) (hb : Back s s' t t' ι) (hE : Ext (Bar F ρ t s ι) (low ρ s ι) s w ρc s' w')
include hE in
theorem live_kept {k : Nat} (h : Flat.live s k) (hsA : ∀ c, s (.arr k) = some c → ∃ e sz xs pub, c = .arr e sz xs pub) : Flat.live s' k := by
 rcases h with h | h
 · exact .inl (hE.var k h).1
 · obtain ⟨c, hc⟩ := Option.ne_none_iff_exists'.1 h
   obtain ⟨e, sz, xs, pub, rfl⟩ := hsA c hc; obtain ⟨xs', pub', h1, _⟩ := hE.arr k e sz xs pub hc; exact .inr (by rw [h1]; simp)
include ht hl hE in
theorem keeps {k : Nat} (h : Flat.live s k) : Flat.live s' k :=
 live_kept hE h fun c hc => by
   obtain ⟨e, sz, xs, pub, h1, _⟩ := ht.arr _ _ (hl.at_ _ _ hc); cases c <;> simp [renC] at h1
   exact ⟨_, _, _, _, rfl⟩
include ht hl hb hE in
theorem Stb.up {b o : Nat} (h : Stb (Bar F ρ t s ι) ρc s' b o) : Stb F (up ρ ρc s' ι) t' b o := by
 refine ⟨fun hF => h.1 (.inl hF), fun id hid => ?_⟩
 rcases range_cases (s' := s') (ι := ι) id with ⟨k, hk, rfl⟩ | hn
 · rw [up_at hb.inj hk] at hid
   obtain ⟨g1, g2⟩ := h.2 k hid; refine ⟨by rw [hb.var k hk, g1]; rfl, fun e sz xs pub ha => ?_⟩
   rw [hb.arr k hk] at ha
   cases hq : s' (.arr k) with
   | none => simp [hq] at ha
   | some c =>
     simp only [hq, Option.map_some, Option.some.injEq] at ha; cases c <;> simp [renC] at ha
     obtain ⟨rfl, rfl, rfl, rfl⟩ := ha; exact g2 _ _ _ _ hq
 · rw [up_other hn] at hid
   obtain ⟨o1, o2, o3⟩ := hb.other id hn; rw [o1, o2]
   by_cases hlv : Flat.live t id
   · have hpub : ∃ e sz xs pub, t (.arr id) = some (.arr e sz xs pub) ∧ o < pub * sz := by
       apply Classical.byContradiction; intro hc; exact h.1 (.inr ⟨id, hlv, fun k hk => hn k (keeps ht hl hE hk), hid, hc⟩)
     obtain ⟨e, sz, xs, pub, ha, hlt⟩ := hpub; refine ⟨?_, fun e' sz' xs' pub' ha' => ?_⟩
     · cases hq : t (.var id) with
       | none => rfl
       | some c => have := ht.excl id (by rw [hq]; simp); rw [ha] at this; simp at this
     · rw [ha] at ha'
       simp only [Option.some.injEq, C.arr.injEq] at ha'; obtain ⟨rfl, rfl, rfl, rfl⟩ := ha'; exact hlt
   · have h1 : t (.var id) = none := Classical.byContradiction fun h => hlv (.inl h)
     have h2 : t (.arr id) = none := Classical.byContradiction fun h => hlv (.inr h)
     exact ⟨h1, fun e sz xs pub ha => by rw [h2] at ha; simp at ha⟩
include ht hl hb hE in
theorem PR.up {x : PV} {v : Value} (h : PR w' (Stb (Bar F ρ t s ι) ρc s') x v) : PR w' (Stb F (Flat.up ρ ρc s' ι) t') x v :=
 h.mono fun _ _ _ hs hc => ⟨hc, Stb.up ht hl hb hE hs⟩
include hb in
theorem SlOK.up {id L off len : Nat} {v : Value} (hs : SlOK ρc s' w' id L off len v) : SlOK (Flat.up ρ ρc s' ι) t' w' (ι id) L off len v := by
 obtain ⟨e, sz, xs, pub, ha, h1, ad, c, rfl, h2⟩ := hs; have hk : Flat.live s' _ := .inr (by rw [ha]; simp)
 refine ⟨e, sz, xs, pub, by rw [hb.arr _ hk, ha]; rfl, h1, ad, c, rfl, fun he => ?_⟩
 obtain ⟨q1, q2, q3, q4⟩ := h2 he; refine ⟨q1, q2, q3, ?_⟩; rcases q4 with q4 | ⟨b, n, g1, g2, g3, g4⟩
 · exact .inl q4
 · exact .inr ⟨b, n, by rw [up_at hb.inj hk]; exact g1, g2, g3, g4⟩
include ht hl hb hE in
theorem PQ.up' {id : Nat} {x : PV} {v : Value} (hk : Flat.live s' id) (h : PQ (Bar F ρ t s ι) ρc s' w' id x v) : PQ F (Flat.up ρ ρc s' ι) t' w' (ι id) x v := by
 rcases h with h | ⟨hw, k, L, off, len, rfl, hk2, hs⟩
 · exact .inl (h.up ht hl hb hE)
 · have hlv : Flat.live s' k := by obtain ⟨e, sz, xs, pub, ha, _⟩ := hs; exact .inr (by rw [ha]; simp)
   refine .inr ⟨(hb.keep id hk).1 hw, k, L, off, len, rfl, hk2, ?_⟩; have := SlOK.up (ρ := ρ) hb hs; rw [hb.big k hlv hk2] at this; exact this
include ht hl hb hE in
theorem AR.up {a : AV} {v : Value} (h : AR (Bar F ρ t s ι) ρc s' w' a v) : AR F (Flat.up ρ ρc s' ι) t' w' (renA ι a) v := by
 induction h with
 | any => exact .any
 | p hp => exact .p (hp.up ht hl hb hE)
 | psf hp => exact .psf (hp.up ht hl hb hE)
 | ptr hv hbb =>
   have hk : Flat.live s' _ := .inl hv; refine .ptr ?_ (by rw [up_at hb.inj hk]; exact hbb)
   rw [hb.var _ hk]
   simpa using hv
 | sl hs => exact .sl (SlOK.up hb hs)
 | eptr hs =>
   obtain ⟨e, sz, xs, pub, ha, h1, hi, ad, rfl, h2⟩ := hs; have hk : Flat.live s' _ := .inr (by rw [ha]; simp)
   refine .eptr ⟨e, sz, xs, pub, by rw [hb.arr _ hk, ha]; rfl, h1, hi, ad, rfl, fun he => ?_⟩
   obtain ⟨q1, q2, q3⟩ := h2 he; exact ⟨by rw [up_at hb.inj hk]; exact q1, q2, q3⟩
 | fn hn _ ih =>
   refine .fn (by rw [hn, renL_len]) fun j x v hj hv => ?_
   rw [renL_at] at hj; obtain ⟨y, hy, rfl⟩ := Option.map_eq_some_iff.1 hj; exact ih j y v hy hv
 | agg hn h1 _ ih =>
   refine .agg (by rw [hn, renL_len]) h1 fun j x v hj hv => ?_
   rw [renL_at] at hj; obtain ⟨y, hy, rfl⟩ := Option.map_eq_some_iff.1 hj; exact ih j y v hy hv
 | tup hn _ ih =>
   refine .tup (by rw [hn, renL_len]) fun j x v hj hv => ?_
   rw [renL_at] at hj; obtain ⟨y, hy, rfl⟩ := Option.map_eq_some_iff.1 hj; exact ih j y v hy hv
include ht hl hb hE in
theorem Ext.up (hfrm : ∀ b, b < w.heap.size → (∀ k, Flat.live s k → low ρ s ι k ≠ some b) → w'.heap[b]? = w.heap[b]?) : Ext F ρ t w (Flat.up ρ ρc s' ι) t' w' := by
 have hlow : ∀ {id}, Flat.live t id → ∀ k, Flat.live s' k → ι k = id → Flat.live s k := by
   rintro id hid k hk rfl; apply Classical.byContradiction; intro hn; exact hb.fresh k hk hn hid
 refine ⟨hE.os, hE.tape, hE.output, hE.size, ?_, ?_, ?_⟩
 · intro id hv
   rcases range_cases (s' := s') (ι := ι) id with ⟨k, hk, rfl⟩ | hn
   · have hks := hlow (.inl hv) k hk rfl
     have hkv : s (.var k) ≠ none := by
       rcases hks with h | h
       · exact h
       · obtain ⟨c, hc⟩ := Option.ne_none_iff_exists'.1 h
         have h1 := hl.at_ _ _ hc; simp only [renLoc] at h1; have := ht.excl _ hv; rw [h1] at this; simp at this
     obtain ⟨g1, g2⟩ := hE.var k hkv; refine ⟨by rw [hb.var k hk]; simpa using g1, ?_⟩
     rw [up_at hb.inj hk, g2, low_live hks]
   · exact ⟨by rw [(hb.other id hn).1]; exact hv, up_other hn⟩
 · intro id e sz xs pub ha
   have hlv : Flat.live t id := .inr (by rw [ha]; simp)
   rcases range_cases (s' := s') (ι := ι) id with ⟨k, hk, rfl⟩ | hn
   · have hks := hlow hlv k hk rfl
     have hka : s (.arr k) = some (.arr e sz xs pub) := by
       rcases hks with h | h
       · obtain ⟨c, hc⟩ := Option.ne_none_iff_exists'.1 h
         have h1 := hl.at_ _ _ hc; simp only [renLoc] at h1; have := ht.excl _ (by rw [h1]; simp)
         rw [ha] at this; simp at this
       · obtain ⟨c, hc⟩ := Option.ne_none_iff_exists'.1 h
         have h1 := hl.at_ _ _ hc; simp only [renLoc] at h1; rw [ha] at h1; simp only [Option.some.injEq] at h1; rw [hc]; cases c <;> simp [renC] at h1
         obtain ⟨rfl, rfl, rfl, rfl⟩ := h1; rfl
     obtain ⟨xs', pub', g1, g2, g3⟩ := hE.arr k e sz xs pub hka; refine ⟨xs', pub', by rw [hb.arr k hk, g1]; rfl, g2, fun he => ?_⟩
     obtain ⟨g4, g5⟩ := g3 he; rw [up_at hb.inj hk, g4, low_live hks]; rw [low_live hks] at g5; exact ⟨rfl, g5⟩
   · refine ⟨xs, pub, by rw [(hb.other id hn).2.1]; exact ha, Nat.le_refl _, fun _ => ⟨up_other hn, fun b sh hbb hs => ?_⟩⟩
     have hlt := live_lt ht hlv hbb; unfold World.shape? at hs ⊢; rw [hfrm b hlt ?_]
     · exact hs
     · intro k hk he
       obtain ⟨_, he2⟩ := low_some he; exact hn k (keeps ht hl hE hk) (ht.inj _ _ b (hl.live hk) hlv he2 hbb)
 · intro b o u hs hc
   obtain ⟨g1, g2⟩ := hE.stb b o u (Stb.down ht hl hs) hc; exact ⟨g1, Stb.up ht hl hb hE g2⟩
include ht hl hb hE in
theorem RelO.up (hR : RelO (Bar F ρ t s ι) ρc s' w') (hown : ∀ k b, Flat.live s' k → ρc k = some b → (Flat.live s k ∧ low ρ s ι k = some b) ∨ w.heap.size ≤ b)
   (hfrm : ∀ b, b < w.heap.size → (∀ k, Flat.live s k → low ρ s ι k ≠ some b) → w'.heap[b]? = w.heap[b]?) : RelO F (Flat.up ρ ρc s' ι) t' w' := by
 have hX := Ext.up ht hl hb hE hfrm
 have hsame : ∀ {id b}, (∀ k, Flat.live s' k → ι k ≠ id) → Flat.live t id → ρ id = some b → w'.heap[b]? = w.heap[b]? := by
   intro id b hn hlv hbb; refine hfrm b (live_lt ht hlv hbb) fun k hk he => ?_
   obtain ⟨_, he2⟩ := low_some he; exact hn k (keeps ht hl hE hk) (ht.inj _ _ b (hl.live hk) hlv he2 hbb)
 have hlive : ∀ {id}, (∀ k, Flat.live s' k → ι k ≠ id) → (Flat.live t' id ↔ Flat.live t id) := by
   intro id hn; obtain ⟨o1, o2, _⟩ := hb.other id hn; simp [Flat.live, o1, o2]
 refine ⟨?_, ?_, ?_, ?_, ?_, ?_, ?_⟩
 · intro id c hc
   rcases range_cases (s' := s') (ι := ι) id with ⟨k, hk, rfl⟩ | hn
   · rw [hb.var k hk] at hc
     obtain ⟨c', hc', rfl⟩ := Option.map_eq_some_iff.1 hc; obtain ⟨n, b, cs, e, rfl, h2, h3, h4⟩ := hR.var k c' hc'; exact ⟨n, b, cs, e, rfl, by rw [up_at hb.inj hk]; exact h2, h3, h4⟩
   · rw [(hb.other id hn).1] at hc
     obtain ⟨n, b, cs, e, rfl, h2, h3, h4⟩ := ht.var id c hc; exact ⟨n, b, cs, e, rfl, by rw [up_other hn]; exact h2, by rw [hsame hn (.inl (by rw [hc]; simp)) h2]; exact h3, h4⟩
 · intro id j c hc
   rcases range_cases (s' := s') (ι := ι) id with ⟨k, hk, rfl⟩ | hn
   · rw [hb.cell k j hk] at hc
     obtain ⟨c', hc', rfl⟩ := Option.map_eq_some_iff.1 hc; obtain ⟨a, n, b, u, rfl, h2, h3, h4, h5, h6, h7⟩ := hR.cell k j c' hc'; exact ⟨renA ι a, n, b, u, rfl, by rw [hb.var k hk, h2]; rfl, h3, by rw [up_at hb.inj hk]; exact h4, h5, h6.up ht hl hb hE, h7⟩
   · rw [(hb.other id hn).2.2 j] at hc
     obtain ⟨a, n, b, u, rfl, h2, h3, h4, h5, h6, h7⟩ := ht.cell id j c hc; have hlv : Flat.live t id := .inl (by rw [h2]; simp)
     refine ⟨a, n, b, u, rfl, by rw [(hb.other id hn).1]; exact h2, h3, by rw [up_other hn]; exact h4, ?_, h6.ext hX, h7⟩
     rw [World.cell?_of_block (w := w) (a := ⟨b, j, none⟩) (hsame hn hlv h4)]; exact h5
 · intro id c hc
   rcases range_cases (s' := s') (ι := ι) id with ⟨k, hk, rfl⟩ | hn
   · rw [hb.arr k hk] at hc
     obtain ⟨c', hc', rfl⟩ := Option.map_eq_some_iff.1 hc; obtain ⟨e, sz, xs, pub, rfl, h2, h3, h4, h5⟩ := hR.arr k c' hc'; refine ⟨e, sz, xs, pub, rfl, h2, h3, h4, ?_⟩; rw [up_at hb.inj hk]; rcases h5 with h5 | ⟨b, cs, h5, h6, h7, h8⟩
     · exact .inl h5
     · exact .inr ⟨b, cs, h5, h6, h7, fun i row hi j x hj => by obtain ⟨u, u1, u2⟩ := h8 i row hi j x hj; exact ⟨u, u1, PQ.up' ht hl hb hE hk u2⟩⟩
   · rw [(hb.other id hn).2.1] at hc
     obtain ⟨e, sz, xs, pub, rfl, h2, h3, h4, h5⟩ := ht.arr id c hc; refine ⟨e, sz, xs, pub, rfl, h2, h3, h4, ?_⟩; rw [up_other hn]; rcases h5 with h5 | ⟨b, cs, h5, h6, h7, h8⟩
     · exact .inl h5
     · exact .inr ⟨b, cs, h5, by rw [hsame hn (.inr (by rw [hc]; simp)) h5]; exact h6, h7, fun i row hi j x hj => by obtain ⟨u, u1, u2⟩ := h8 i row hi j x hj; exact ⟨u, u1, u2.ext hX⟩⟩
 · intro id id' b h1 h2 h3 h4
   have mixed : ∀ {k id'}, Flat.live s' k → (∀ k, Flat.live s' k → ι k ≠ id') → Flat.live t id' → ρc k = some b → ρ id' = some b → False := by
     intro k id' hk hn hlv h3 h4; rcases hown k b hk h3 with ⟨g1, g2⟩ | g
     · obtain ⟨_, g3⟩ := low_some g2
       exact hn k hk (ht.inj _ _ b (hl.live g1) hlv g3 h4)
     · have := live_lt ht hlv h4
       omega
   rcases range_cases (s' := s') (ι := ι) id with ⟨k, hk, rfl⟩ | hn <;> rcases range_cases (s' := s') (ι := ι) id' with ⟨k', hk', rfl⟩ | hn'
   · rw [up_at hb.inj hk] at h3
     rw [up_at hb.inj hk'] at h4; rw [hR.inj k k' b hk hk' h3 h4]
   · rw [up_at hb.inj hk] at h3
     rw [up_other hn'] at h4; exact (mixed hk hn' ((hlive hn').1 h2) h3 h4).elim
   · rw [up_at hb.inj hk'] at h4
     rw [up_other hn] at h3; exact (mixed hk' hn ((hlive hn).1 h1) h4 h3).elim
   · rw [up_other hn] at h3
     rw [up_other hn'] at h4; exact ht.inj id id' b ((hlive hn).1 h1) ((hlive hn').1 h2) h3 h4
 · intro id hv
   rcases range_cases (s' := s') (ι := ι) id with ⟨k, hk, rfl⟩ | hn
   · rw [hb.var k hk] at hv
     rw [hb.arr k hk, hR.excl k (by simpa using hv)]
     rfl
   · obtain ⟨o1, o2, _⟩ := hb.other id hn
     rw [o1] at hv; rw [o2]; exact ht.excl id hv
 · intro id b o hlv hbb hF
   rcases range_cases (s' := s') (ι := ι) id with ⟨k, hk, rfl⟩ | hn
   · rw [up_at hb.inj hk] at hbb
     exact hR.apart k b o hk hbb (.inl hF)
   · rw [up_other hn] at hbb
     exact ht.apart id b o ((hlive hn).1 hlv) hbb hF
 · intro b o hF
   exact Nat.lt_of_lt_of_le (ht.bound b o hF) hE.size
end
theorem call_spec {G : Start} {a : Act} {f : Nat} {args : List AV} {sl sl' : List (Loc × C)} {res : AV} (hS : Spec P f args sl res sl') (hr : Rel F G ρ t a w) (hl : Lies (lk sl) t ι)
   (hb : Back (lk sl) (lk sl') t t' ι) (hrf : ∀ x ∈ args, refs (fun k => (lk sl (.var k)).isSome || (lk sl (.arr k)).isSome) x = true) {vs : Array Value} (hn : vs.size = args.length)
   (hA : ∀ (j : Nat) (x : AV) (v : Value), args[j]? = some x → vs[j]? = some v → AR F ρ t w (renA ι x) v) :
   Calls P f vs w fun e w' => ∃ v ρ', e = .returned v ∧ Rel F G ρ' t' a w' ∧ AR F ρ' t' w' (renA ι res) v := by
 have h0 := hS (Bar F ρ t (lk sl) ι) (low ρ (lk sl) ι) w vs (hr.o.down hl) hn (fun j x v hj hv => AR.down hr.o hl (hA j x v hj hv) (hrf x (List.mem_of_getElem? hj)))
 refine h0.mono ?_; rintro e w' ⟨v, ρc, rfl, h1, h2, h3, h4, h5⟩; refine ⟨v, up ρ ρc (lk sl') ι, rfl, ?_, h2.up hr.o hl hb h3⟩; refine hr.step (Ext.up hr.o hl hb h3 h5) (RelO.up hr.o hl hb h3 h1 h4 h5) hb.tmp ?_ ?_
 · intro id b hlv hbb
   rcases range_cases (s' := lk sl') (ι := ι) id with ⟨k, hk, rfl⟩ | hn
   · rw [up_at hb.inj hk] at hbb
     rcases h4 k b hk hbb with ⟨g1, g2⟩ | g
     · obtain ⟨_, g3⟩ := low_some g2
       exact .inl ⟨hl.live g1, g3⟩
     · exact .inr g
   · rw [up_other hn] at hbb
     obtain ⟨o1, o2, _⟩ := hb.other id hn; exact .inl ⟨by simpa [Flat.live, o1, o2] using hlv, hbb⟩
 · intro b hb' hn
   refine h5 b hb' fun k hk he => ?_
   obtain ⟨_, he2⟩ := low_some he; exact hn _ (hl.live hk) he2
end
end Go.Flat
end
section
set_option linter.unusedVariables false
set_option linter.unusedSimpArgs false
namespace Go.Flat
def leA : AV → AV → Prop
 | .any, y => y = .any
 | .p x, y => y = .p x ∨ y = .any
 | .psf xs, y => y = .psf xs ∨ y = .p (.ps xs) ∨ y = .any
 | .ptr id off, y => y = .ptr id off ∨ y = .any
 | .sl id L off len, y => y = .sl id L off len ∨ y = .any
 | .eptr id L i off, y => y = .eptr id L i off ∨ y = .any
 | .fn f c, y => y = .any ∨ ∃ d, y = .fn f d ∧ leL c d
 | .agg c, y => y = .any ∨ ∃ d, y = .agg d ∧ leL c d
 | .tup c, y => y = .any ∨ ∃ d, y = .tup d ∧ leL c d
where leL : List AV → List AV → Prop
 | [], [] => True
 | a :: r, b :: s => leA a b ∧ leL r s
 | _, _ => False
open leA (leL)
theorem leA_refl (a : AV) : leA a a := by
 induction a using AV.rec (motive_2 := fun l => leL l l) with
 | nil => simp [leL]
 | cons a r h1 h2 => exact ⟨h1, h2⟩
 | any => simp [leA]
 | p _ => simp [leA]
 | psf _ => simp [leA]
 | ptr _ _ => simp [leA]
 | sl _ _ _ _ => simp [leA]
 | eptr _ _ _ _ => simp [leA]
 | fn _ _ h => simp [leA, h]
 | agg _ h => simp [leA, h]
 | tup _ h => simp [leA, h]
theorem leL_refl : ∀ l : List AV, leL l l
 | [] => by simp [leL]
 | a :: r => ⟨leA_refl a, leL_refl r⟩
theorem leL_len : ∀ {xs ys : List AV}, leL xs ys → xs.length = ys.length
 | [], [], _ => rfl
 | a :: r, b :: s, h => by simp [leL_len h.2]
 | [], _ :: _, h => by simp [leL] at h
 | _ :: _, [], h => by simp [leL] at h
theorem leL_at : ∀ {xs ys : List AV} {j : Nat} {y : AV}, leL xs ys → ys[j]? = some y → ∃ x, xs[j]? = some x ∧ leA x y
 | [], [], j, y, h, hj => by simp at hj
 | a :: r, b :: s, 0, y, h, hj => by
   simp only [List.getElem?_cons_zero, Option.some.injEq] at hj; subst hj; exact ⟨a, rfl, h.1⟩
 | a :: r, b :: s, j + 1, y, h, hj => by
   simp only [List.getElem?_cons_succ] at hj ⊢; exact leL_at h.2 hj
 | [], _ :: _, _, _, h, _ => by simp [leL] at h
 | _ :: _, [], _, _, h, _ => by simp [leL] at h
section
variable {P : Program} {F : Nat → Nat → Prop} {G : Start} {ρ : Ren} {t s : Sto} {a : Act} {w : World}
structure Under (F : Nat → Nat → Prop) (ρ : Ren) (s t : Sto) : Prop where
 stb : ∀ b o, Stb F ρ t b o → Stb F ρ s b o
 var : ∀ k c, s (.var k) = some c → t (.var k) = some c
 arr : ∀ k c, s (.arr k) = some c → t (.arr k) = some c
theorem Under.mk' (hv : ∀ k c, s (.var k) = some c → t (.var k) = some c) (ha : ∀ k c, s (.arr k) = some c → t (.arr k) = some c) : Under F ρ s t := by
 refine ⟨fun b o hs => ⟨hs.1, fun id hb => ?_⟩, hv, ha⟩
 obtain ⟨h1, h2⟩ := hs.2 id hb; refine ⟨?_, fun e sz xs pub hq => h2 e sz xs pub (ha _ _ hq)⟩
 cases hq : s (.var id) with
 | none => rfl
 | some c => have := hv _ _ hq; rw [h1] at this; simp at this
theorem Under.refl : Under F ρ s s := ⟨fun _ _ h => h, fun _ _ h => h, fun _ _ h => h⟩
theorem Under.live (h : Under F ρ s t) {k : Nat} (hk : Flat.live s k) : Flat.live t k := by
 rcases hk with hk | hk
 · obtain ⟨c, hc⟩ := Option.ne_none_iff_exists'.1 hk
   exact .inl (by rw [h.var _ _ hc]; simp)
 · obtain ⟨c, hc⟩ := Option.ne_none_iff_exists'.1 hk
   exact .inr (by rw [h.arr _ _ hc]; simp)
theorem PR.under (h : Under F ρ s t) {x : PV} {v : Value} (hp : PR w (Stb F ρ t) x v) : PR w (Stb F ρ s) x v := hp.mono fun _ _ _ hs hc => ⟨hc, h.stb _ _ hs⟩
theorem SlOK.under (ht : RelO F ρ t w) (h : Under F ρ s t) {id L off len : Nat} {v : Value} (hl : Flat.live s id) (hs : SlOK ρ t w id L off len v) : SlOK ρ s w id L off len v := by
 obtain ⟨e, sz, xs, pub, ha, h1, ad, c, rfl, h2⟩ := hs; refine ⟨e, sz, xs, pub, ?_, h1, ad, c, rfl, h2⟩; rcases hl with hl | hl
 · obtain ⟨c, hc⟩ := Option.ne_none_iff_exists'.1 hl
   have h1 := h.var _ _ hc; have := ht.excl id (by rw [h1]; simp)
   rw [ha] at this; simp at this
 · obtain ⟨c, hc⟩ := Option.ne_none_iff_exists'.1 hl
   rw [hc]; have h1 := h.arr _ _ hc; rw [ha] at h1; exact h1.symm
theorem PQ.under (ht : RelO F ρ t w) (h : Under F ρ s t) (hF : HClosed s) {id e sz pub : Nat} {xs : List (List PV)} {row : List PV} {x : PV} {v : Value} (ha : s (.arr id) = some (.arr e sz xs pub)) (hrow : row ∈ xs) (hx : x ∈ row) (hp : PQ F ρ t w id x v) : PQ F ρ s w id x v := by
 rcases hp with hp | ⟨hw, k, L, off, len, rfl, hk, hs⟩
 · exact .inl (hp.under h)
 · exact .inr ⟨hw, k, L, off, len, rfl, hk, hs.under ht h (.inr (hF id e sz xs pub ha hw row hrow k L off len hx hk))⟩
def Names (s : Sto) (x : AV) : Prop := refs (fun k => (s (.var k)).isSome || (s (.arr k)).isSome) x = true
theorem AR.le (ht : RelO F ρ t w) (h : Under F ρ s t) {x : AV} {v : Value} (hx : AR F ρ t w x v) : ∀ {y : AV}, leA x y → Names s y → AR F ρ s w y v := by
 have harr : ∀ {id e sz xs pub}, Flat.live s id → t (.arr id) = some (.arr e sz xs pub) → s (.arr id) = some (.arr e sz xs pub) := by
   intro id e sz xs pub hl ha; rcases hl with hl | hl
   · obtain ⟨c, hc⟩ := Option.ne_none_iff_exists'.1 hl
     have h1 := h.var _ _ hc; have := ht.excl id (by rw [h1]; simp)
     rw [ha] at this; simp at this
   · obtain ⟨c, hc⟩ := Option.ne_none_iff_exists'.1 hl
     rw [hc]; have h1 := h.arr _ _ hc; rw [ha] at h1; exact h1.symm
 induction hx with
 | any =>
   intro y hy _; simp only [leA] at hy; subst hy; exact .any
 | p hp =>
   intro y hy _; simp only [leA] at hy; rcases hy with rfl | rfl
   · exact .p (hp.under h)
   · exact .any
 | psf hp =>
   intro y hy _; simp only [leA] at hy; rcases hy with rfl | rfl | rfl
   · exact .psf (hp.under h)
   · exact .p (hp.under h)
   · exact .any
 | ptr hv hb =>
   intro y hy hr; simp only [leA] at hy; rcases hy with rfl | rfl
   · simp only [Names, refs] at hr
     refine .ptr ?_ hb; rcases liveB hr with h1 | h1
     · exact h1
     · obtain ⟨c, hc⟩ := Option.ne_none_iff_exists'.1 h1
       have := h.arr _ _ hc; rw [ht.excl _ hv] at this; simp at this
   · exact .any
 | sl hs =>
   intro y hy hr; simp only [leA] at hy; rcases hy with rfl | rfl
   · simp only [Names, refs] at hr
     obtain ⟨e, sz, xs, pub, ha, h1, ad, c, rfl, h2⟩ := hs; exact .sl ⟨e, sz, xs, pub, harr (liveB hr) ha, h1, ad, c, rfl, h2⟩
   · exact .any
 | eptr hs =>
   intro y hy hr; simp only [leA] at hy; rcases hy with rfl | rfl
   · simp only [Names, refs] at hr
     obtain ⟨e, sz, xs, pub, ha, h1, hi, ad, rfl, h2⟩ := hs; exact .eptr ⟨e, sz, xs, pub, harr (liveB hr) ha, h1, hi, ad, rfl, h2⟩
   · exact .any
 | fn hn _ ih =>
   intro y hy hr; simp only [leA] at hy; rcases hy with rfl | ⟨d, rfl, hd⟩
   · exact .any
   · simp only [Names, refs] at hr
     refine .fn (by rw [hn, leL_len hd]) fun j x v hj hv => ?_
     obtain ⟨x', g1, g2⟩ := leL_at hd hj; exact ih j x' v g1 hv g2 (refsL_at hr hj)
 | agg hn h1 _ ih =>
   intro y hy hr; simp only [leA] at hy; rcases hy with rfl | ⟨d, rfl, hd⟩
   · exact .any
   · simp only [Names, refs] at hr
     refine .agg (by rw [hn, leL_len hd]) h1 fun j x v hj hv => ?_
     obtain ⟨x', g1, g2⟩ := leL_at hd hj; exact ih j x' v g1 hv g2 (refsL_at hr hj)
 | tup hn _ ih =>
   intro y hy hr; simp only [leA] at hy; rcases hy with rfl | ⟨d, rfl, hd⟩
   · exact .any
   · simp only [Names, refs] at hr
     refine .tup (by rw [hn, leL_len hd]) fun j x v hj hv => ?_
     obtain ⟨x', g1, g2⟩ := leL_at hd hj; exact ih j x' v g1 hv g2 (refsL_at hr hj)
theorem AR.le_same {x : AV} {v : Value} (hx : AR F ρ t w x v) : ∀ {y : AV}, leA x y → AR F ρ t w y v := by
 induction hx with
 | any => intro y hy; simp only [leA] at hy; subst hy; exact .any
 | p hp =>
   intro y hy; simp only [leA] at hy; rcases hy with rfl | rfl
   · exact .p hp
   · exact .any
 | psf hp =>
   intro y hy; simp only [leA] at hy; rcases hy with rfl | rfl | rfl
   · exact .psf hp
   · exact .p hp
   · exact .any
 | ptr hv hb =>
   intro y hy; simp only [leA] at hy; rcases hy with rfl | rfl
   · exact .ptr hv hb
   · exact .any
 | sl hs =>
   intro y hy; simp only [leA] at hy; rcases hy with rfl | rfl
   · exact .sl hs
   · exact .any
 | eptr hs =>
   intro y hy; simp only [leA] at hy; rcases hy with rfl | rfl
   · exact .eptr hs
   · exact .any
 | fn hn _ ih =>
   intro y hy; simp only [leA] at hy; rcases hy with rfl | ⟨d, rfl, hd⟩
   · exact .any
   · refine .fn (by rw [hn, leL_len hd]) fun j x v hj hv => ?_
     obtain ⟨x', g1, g2⟩ := leL_at hd hj; exact ih j x' v g1 hv g2
 | agg hn h1 _ ih =>
   intro y hy; simp only [leA] at hy; rcases hy with rfl | ⟨d, rfl, hd⟩
   · exact .any
   · refine .agg (by rw [hn, leL_len hd]) h1 fun j x v hj hv => ?_
     obtain ⟨x', g1, g2⟩ := leL_at hd hj; exact ih j x' v g1 hv g2
 | tup hn _ ih =>
   intro y hy; simp only [leA] at hy; rcases hy with rfl | ⟨d, rfl, hd⟩
   · exact .any
   · refine .tup (by rw [hn, leL_len hd]) fun j x v hj hv => ?_
     obtain ⟨x', g1, g2⟩ := leL_at hd hj; exact ih j x' v g1 hv g2
structure Dn (F : Nat → Nat → Prop) (ρ : Ren) (w : World) (s t : Sto) : Prop where
 u : Under F ρ s t
 cell : ∀ k j c, s (.cell k j) = some c → s (.var k) ≠ none ∧ ∃ a a', c = .av a' ∧ t (.cell k j) = some (.av a) ∧ ∀ v, AR F ρ t w a v → AR F ρ s w a' v
 tmp : ∀ k c, s (.tmp k) = some c → ∃ a a', c = .av a' ∧ t (.tmp k) = some (.av a) ∧ ∀ v, AR F ρ t w a v → AR F ρ s w a' v
 fam : HClosed s
theorem RelO.dn (ht : RelO F ρ t w) (h : Dn F ρ w s t) : RelO F ρ s w := by
 refine ⟨fun id c hc => ht.var id c (h.u.var _ _ hc), ?_, ?_, fun id id' b h1 h2 => ht.inj id id' b (h.u.live h1) (h.u.live h2), ?_, fun id b o hl => ht.apart id b o (h.u.live hl), ht.bound⟩
 · intro id j c hc
   obtain ⟨g1, a0, a', rfl, g2, g3⟩ := h.cell id j c hc; obtain ⟨x, n, b, u, hx, h2, h3, h4, h5, h6, h7⟩ := ht.cell id j _ g2; simp only [C.av.injEq] at hx; subst hx; refine ⟨a', n, b, u, rfl, ?_, h3, h4, h5, g3 _ h6, h7⟩; obtain ⟨c', hc'⟩ := Option.ne_none_iff_exists'.1 g1; have := h.u.var _ _ hc'; rw [h2] at this; rw [hc', this]
 · intro id c hc
   obtain ⟨e, sz, xs, pub, rfl, h2, h3, h4, h5⟩ := ht.arr id c (h.u.arr _ _ hc); refine ⟨e, sz, xs, pub, rfl, h2, h3, h4, ?_⟩; rcases h5 with h5 | ⟨b, cs, h5, h6, h7, h8⟩
   · exact .inl h5
   · exact .inr ⟨b, cs, h5, h6, h7, fun i row hi j x hj => by obtain ⟨u, u1, u2⟩ := h8 i row hi j x hj; exact ⟨u, u1, u2.under ht h.u h.fam hc (List.mem_of_getElem? hi) (List.mem_of_getElem? hj)⟩⟩
 · intro id hv
   cases hq : s (.arr id) with
   | none => rfl
   | some c =>
     obtain ⟨c', hc'⟩ := Option.ne_none_iff_exists'.1 hv; have h1 := h.u.var _ _ hc'; have := ht.excl id (by rw [h1]; simp)
     rw [h.u.arr _ _ hq] at this; simp at this
def Has (g s : Sto) : Prop := ∀ id, (g (.var id) ≠ none → s (.var id) ≠ none) ∧ (g (.arr id) ≠ none → s (.arr id) ≠ none)
theorem Ext.dn {g : Sto} {ρ0 : Ren} {w0 : World} (hE : Ext F ρ0 g w0 ρ t w) (h : Under F ρ s t) (hH : Has g s) : Ext F ρ0 g w0 ρ s w := by
 refine ⟨hE.os, hE.tape, hE.output, hE.size, ?_, ?_, ?_⟩
 · intro id hv
   exact ⟨(hH id).1 hv, (hE.var id hv).2⟩
 · intro id e sz xs pub ha
   obtain ⟨xs', pub', h1, h2, h3⟩ := hE.arr id e sz xs pub ha; obtain ⟨c, hc⟩ := Option.ne_none_iff_exists'.1 ((hH id).2 (by rw [ha]; simp))
   have := h.arr _ _ hc; rw [h1] at this; simp only [Option.some.injEq] at this; subst this; exact ⟨xs', pub', hc, h2, h3⟩
 · intro b o u hs hc
   obtain ⟨h1, h2⟩ := hE.stb b o u hs hc; exact ⟨h1, h.stb _ _ h2⟩
theorem Rel.dn (hr : Rel F G ρ t a w) (h : Dn F ρ w s t) (hH : Has G.t s) : Rel F G ρ s a w := by
 refine ⟨hr.o.dn h, ?_, hr.siz, hr.dfr, hr.ext.dn h.u hH, fun id b hl => hr.own id b (h.u.live hl), hr.frm⟩
 intro k c hk; obtain ⟨x, y, rfl, g1, g2⟩ := h.tmp k c hk; obtain ⟨x', e, hA⟩ := hr.tmp k _ g1; simp only [C.av.injEq] at e; subst e; exact ⟨y, rfl, g2 _ hA⟩
theorem frz_slice (ht : RelO F ρ t w) (h : Under F ρ s t) {id L off len e sz pub : Nat} {xs : List (List PV)} {v : Value} (hx : AR F ρ t w (.sl id L off len) v) (ha : t (.arr id) = some (.arr e sz xs pub)) (hL : L = xs.length)
   (hs : s (.var id) = none ∧ s (.arr id) = none) (hnw : ¬ (4294967296 ≤ id ∧ id < 8589934592)) : PR w (Stb F ρ s) (.ps ((xs.drop off).take len)) v := by
 cases hx with
 | sl hx =>
   obtain ⟨e', sz', xs', pub', ha', hL', ad, c, rfl, hq⟩ := hx; rw [ha] at ha'; simp only [Option.some.injEq, C.arr.injEq] at ha'; obtain ⟨rfl, rfl, rfl, rfl⟩ := ha'; obtain ⟨q1, q2, q4, q3⟩ := hq hL.symm; have hlen : ((xs.drop off).take len).length = len := by simp; omega
   obtain ⟨e2, sz2, xs2, pub2, e3, r1, r2, r3, r4⟩ := ht.arr id _ ha; simp only [C.arr.injEq] at e3; obtain ⟨rfl, rfl, rfl, rfl⟩ := e3; rcases q3 with rfl | ⟨b, n, g1, g2, g3, g4⟩
   · have : len = 0 := by omega
     subst this; simp only [List.take_zero]; exact .nil
   · rcases r4 with ⟨r4, rfl⟩ | ⟨b', cs, r4, r5, r6, r7⟩
     · rw [g1] at r4; simp at r4
     · rw [g1] at r4
       simp only [Option.some.injEq] at r4; subst r4; subst g2
       have hat : ∀ i row, ((xs.drop off).take len)[i]? = some row → xs[off + i]? = some row := by
         intro i row hi; rw [List.getElem?_take] at hi; split at hi
         · rwa [List.getElem?_drop] at hi
         · simp at hi
       have hidx : ∀ i j, off * sz + i * sz + j = (off + i) * sz + j := by intro i j; rw [Nat.add_mul]
       have hcell : ∀ o, w.cell? ⟨b, o, none⟩ = cs[o]? := fun o => cell_of_row w b o cs e (0, 0) r5
       have := PR.ps (w := w) (S := Stb F ρ s) (xs := (xs.drop off).take len) (b := b) (o := off * sz) (c := c) (sz := sz) (fun i j => (cs[(off + i) * sz + j]?).getD undef) (by rw [hlen]; exact q2)
         (fun row hrow => r3 row (List.mem_of_mem_drop (List.mem_of_mem_take hrow))) ?_ ?_ ?_
       · rw [hlen] at this
         exact this
       · intro i row hi j x hj
         obtain ⟨u, u1, u2⟩ := r7 _ _ (hat i row hi) j x hj; rw [hcell, hidx, u1]; rfl
       · intro i row hi j x hj
         refine ⟨ht.apart id b _ (.inr (by rw [ha]; simp)) g1, fun k hk => ?_⟩
         have hkd : ¬ Flat.live s k := by
           intro hl; have := ht.inj k id b (h.live hl) (.inr (by rw [ha]; simp)) hk g1
           subst this; rcases hl with hl | hl
           · exact hl hs.1
           · exact hl hs.2
         simp only [Flat.live, not_or, Decidable.not_not, ne_eq] at hkd; exact ⟨hkd.1, fun e1 s1 x1 p1 hq => by rw [hkd.2] at hq; simp at hq⟩
       · intro i row hi j x hj
         obtain ⟨u, u1, u2⟩ := r7 _ _ (hat i row hi) j x hj; rw [u1]; exact (u2.pr hnw).under h
end
end Go.Flat
end
section
set_option linter.unusedVariables false
set_option linter.unusedSimpArgs false
namespace Go.Flat
section
variable {P : Program} {F : Nat → Nat → Prop} {G : Start} {ρ : Ren} {l : List (Loc × C)} {a : Act} {w : World}
abbrev Post := Exit → List (Loc × C) → Prop
def lift (F : Nat → Nat → Prop) (G : Start) (Q : Post) : Exit → Act → World → Prop := fun e a w => ∃ l ρ, Q e l ∧ Rel F G ρ (lk l) a w
def AWP (P : Program) (F : Nat → Nat → Prop) (G : Start) (c : Code) (Q : Post) (l : List (Loc × C)) : Prop :=
 ∀ ρ a w, Rel F G ρ (lk l) a w → c.wp P (lift F G Q) a w
def AOps (P : Program) (F : Nat → Nat → Prop) (G : Start) (ops : Array Oper) (Q : Post) (todo : List Oper) (l : List (Loc × C)) : Prop :=
 ∀ ρ a w, Rel F G ρ (lk l) a w → wpList P ops (lift F G Q) todo a w
theorem awp_skip {Q : Post} (h : Q .normal l) : AWP P F G .skip Q l := fun ρ _ _ hr => wp_skip ⟨l, ρ, h, hr⟩
theorem awp_ret {Q : Post} (h : Q .ret l) : AWP P F G .ret Q l := fun ρ _ _ hr => wp_ret ⟨l, ρ, h, hr⟩
theorem awp_exit {Q : Post} {id : Nat} (h : Q (.exit id) l) : AWP P F G (.exit id) Q l := fun ρ _ _ hr => wp_exit ⟨l, ρ, h, hr⟩
def thenQ (R : List (Loc × C) → Prop) (Q : Post) : Post
 | .normal, l => R l
 | e, l => Q e l
theorem awp_seq {x y : Code} {Q : Post} (h : AWP P F G x (thenQ (AWP P F G y Q) Q) l) : AWP P F G (.seq x y) Q l := by
 intro ρ a w hr; refine wp_seq (wp_mono (h ρ a w hr) ?_); rintro e a' w' ⟨l', ρ', hq, hr'⟩
 cases e with
 | normal => exact hq ρ' a' w' hr'
 | _ => exact ⟨l', ρ', hq, hr'⟩
def inBlockQ (id : Nat) (Q : Post) : Post
 | .exit id', l => if id' = id then Q .normal l else Q (.exit id') l
 | e, l => Q e l
theorem awp_block {id : Nat} {c : Code} {Q : Post} (h : AWP P F G c (inBlockQ id Q) l) : AWP P F G (.block id c) Q l := by
 intro ρ a w hr; refine wp_block (wp_mono (h ρ a w hr) ?_); rintro e a' w' ⟨l', ρ', hq, hr'⟩
 cases e with
 | exit id' =>
   simp only [inBlockQ] at hq; simp only [Exit.inBlock]; split
   · rename_i he; rw [if_pos he] at hq; exact ⟨l', ρ', hq, hr'⟩
   · rename_i he; rw [if_neg he] at hq; exact ⟨l', ρ', hq, hr'⟩
 | _ => exact ⟨l', ρ', hq, hr'⟩
theorem awp_cond {c : Operand} {x y : Code} {Q : Post} {b : Bool} (hc : ev (lk l) c = some (.p (.v (.bool b)))) (h1 : b = true → AWP P F G x Q l) (h2 : b = false → AWP P F G y Q l) : AWP P F G (.cond c x y) Q l := by
 intro ρ a w hr; have := (ev_ar hr hc).v_inv; exact wp_cond_split this (fun h => h1 h ρ a w hr) (fun h => h2 h ρ a w hr)
theorem awp_mono {c : Code} {Q Q' : Post} (h : AWP P F G c Q l) (hq : ∀ e l, Q e l → Q' e l) : AWP P F G c Q' l := by
 intro ρ a w hr; refine wp_mono (h ρ a w hr) ?_; rintro e a' w' ⟨l', ρ', hq', hr'⟩; exact ⟨l', ρ', hq e l' hq', hr'⟩
theorem awp_loop {c : Code} {Q : Post} (I : Nat → List (Loc × C) → Prop) (n0 : Nat) (h0 : I n0 l) (h : ∀ n l, I n l → AWP P F G c (thenQ (fun l' => ∃ n', n' < n ∧ I n' l') Q) l) : AWP P F G (.loop c) Q l := by
 intro ρ a w hr; refine wp_loop_ghost (fun n a w => ∃ l ρ, I n l ∧ Rel F G ρ (lk l) a w) n0 ⟨l, ρ, h0, hr⟩ ?_
 rintro n a w ⟨l, ρ, hI, hr⟩; refine wp_mono (h n l hI ρ a w hr) ?_; rintro e a' w' ⟨l', ρ', hq, hr'⟩
 cases e with
 | normal =>
   obtain ⟨n', h1, h2⟩ := hq; exact ⟨n', h1, l', ρ', h2, hr'⟩
 | _ => exact ⟨l', ρ', hq, hr'⟩
theorem aops_nil {ops : Array Oper} {Q : Post} (h : Q .normal l) : AOps P F G ops Q [] l := fun ρ _ _ hr => wpList_nil ⟨l, ρ, h, hr⟩
theorem awp_region {id : Nat} {ops : Array Oper} {Q : Post} (h : AOps P F G ops Q ops.toList l) : AWP P F G (.region id ops false) Q l := fun ρ a w hr => wp_region_list (h ρ a w hr)
def guardL (ops : Array Oper) (l : List (Loc × C)) (o : Oper) : Option Bool :=
 match o.guard with
 | none => some true
 | some (j, want) => match (ops[j]?).bind (·.dst) with
   | some d => match lk l (.tmp d) with
     | some (.av (.p (.v (.bool b)))) => some (b == want)
     | some (.av (.tup [])) => some false
     | _ => none
   | none => none
theorem wanted_undef {t : Sto} {ops : Array Oper} {j d : Nat} {want : Bool} (hr : Rel F G ρ t a w) (hd : (ops[j]?).bind (·.dst) = some d) (hc : t (.tmp d) = some (.av (.tup []))) : (match some (j, want) with | none => true | some (j, want) => yielded ops a.tmps j == some want) = false := by
 obtain ⟨x, hx, hA⟩ := hr.tmp d _ hc; simp only [C.av.injEq] at hx; subst hx; obtain ⟨vs, hv, hn, _⟩ := hA.tup_inv
 have : yielded ops a.tmps j = none := by
   unfold yielded; rw [hd]; simp only [Option.bind_some]
   by_cases hlt : d < a.tmps.size
   · simp [hlt] at hv
     simp [hlt, hv]
   · simp [hlt]
 simp [this]
theorem guardL_wanted {ops : Array Oper} {o : Oper} {b : Bool} (hr : Rel F G ρ (lk l) a w) (h : guardL ops l o = some b) : Region.wanted o (yielded ops a.tmps) = b := by
 unfold guardL at h; unfold Region.wanted; split at h
 · rename_i hg; simp only [Option.some.injEq] at h; rw [hg, ← h]
 · rename_i j want hg
   rw [hg]; simp only; split at h <;> try (simp at h; done)
   rename_i d hd
   split at h
   · rename_i c hc
     simp only [Option.some.injEq] at h; obtain ⟨x, hx, hA⟩ := hr.tmp d _ hc; simp only [C.av.injEq] at hx; subst hx; have hv := hA.v_inv
     have : a.tmps[d]? = some (.bool c) := by
       by_cases hlt : d < a.tmps.size
       · simp [hlt] at hv
         simp [hlt, hv]
       · simp [hlt, undef] at hv
     unfold yielded; rw [hd]; simp only [Option.bind_some, this]; rw [← h]; cases c <;> cases want <;> rfl
   · rename_i hc
     simp only [Option.some.injEq] at h; rw [← h]; exact wanted_undef hr hd hc
   · simp at h
def del (k : Loc) : List (Loc × C) → List (Loc × C)
 | [] => []
 | (k', c) :: r => if k = k' then del k r else (k', c) :: del k r
theorem lk_del (k : Loc) : ∀ l : List (Loc × C), lk (del k l) = upd (lk l) k none
 | [] => by funext x; simp [del, lk, upd]
 | (k', c) :: r => by
   funext x; simp only [del]; split
   · rename_i h
     subst h; rw [lk_del k r]; simp only [lk, upd]
     by_cases hx : x = k
     · simp [hx]
     · simp [hx]
   · rename_i h
     simp only [lk, lk_del k r, upd]
     by_cases hx : x = k'
     · subst hx
       simp [Ne.symm h]
     · simp [hx]
def insV : Upd → List (Loc × C) → List (Loc × C)
 | [], l => l
 | (k, some c) :: r, l => insV r (ins k c l)
 | (k, none) :: r, l => insV r (del k l)
theorem lk_insV : ∀ (u : Upd) (l : List (Loc × C)), lk (insV u l) = appU u (lk l)
 | [], l => rfl
 | (k, some c) :: r, l => by simp only [insV, appU]; rw [lk_insV r _, lk_ins]
 | (k, none) :: r, l => by simp only [insV, appU]; rw [lk_insV r _, lk_del]
def putL (n : Nat) (d : Option Nat) (x : AV) (l : List (Loc × C)) : Option (List (Loc × C)) :=
 match d with
 | some d => if d < n then some (ins (.tmp d) (.av x) l) else none
 | none => some l
theorem putL_rel {d : Option Nat} {x : AV} {v : Value} {l' : List (Loc × C)} (hr : Rel F G ρ (lk l) a w) (hx : AR F ρ (lk l) w x v) (h : putL G.n d x l = some l') : Rel F G ρ (lk l') (a.put d v) w := by
 unfold putL at h; split at h
 · rename_i d
   split at h <;> try (simp at h; done)
   rename_i hd
   simp only [Option.some.injEq] at h; subst h; rw [lk_ins]; exact hr.put hd hx
 · simp only [Option.some.injEq] at h
   subst h; exact hr
def isCall : Op → Bool
 | .call { callee := .value _, .. } => true
 | _ => false
def stepL (T : Nat → Option TI) (n : Nat) (l : List (Loc × C)) (nid : Nat) (o : Oper) : Option (List (Loc × C)) :=
 match evalOp T (lk l) nid o.op with
 | some f => putL n o.dst f.val (insV f.u l)
 | none => none
theorem stepL_wp {nid : Nat} {o : Oper} {l' : List (Loc × C)} (h : stepL (tyOf P) G.n l nid o = some l') {K Q : _} (hr : Rel F G ρ (lk l) a w) (hK : ∀ ρ' a' w', Rel F G ρ' (lk l') a' w' → K a' w') : o.wp P a w K Q := by
 unfold stepL at h; split at h <;> try (simp at h; done)
 rename_i f hf
 obtain ⟨ρ', v, w', nx, h1, h2, h3, h4⟩ := evalOp_goes hr hf; rw [← lk_insV] at h3 h4; have h5 := putL_rel h3 h4 h; unfold Oper.wp; rw [h1]; rcases h2 with rfl | ⟨rfl, rfl⟩
 · exact hK _ _ _ h5
 · exact hK _ _ _ h5
def locId : Loc → Option Nat
 | .tmp _ => none
 | .cell id _ => some id
 | .var id => some id
 | .arr id => some id
def ids : List (Loc × C) → List Nat
 | [] => []
 | (.var id, _) :: r => id :: ids r
 | (.arr id, _) :: r => id :: ids r
 | _ :: r => ids r
def memN (k : Nat) : List Nat → Bool
 | [] => false
 | j :: r => if k = j then true else memN k r
theorem memN_iff (k : Nat) : ∀ l, memN k l = true ↔ k ∈ l
 | [] => by simp [memN]
 | j :: r => by
   simp only [memN, List.mem_cons]; split
   · rename_i h; simp [h]
   · rename_i h; simp [h, memN_iff k r]
theorem live_ids : ∀ {l : List (Loc × C)} {k : Nat}, Flat.live (lk l) k ↔ k ∈ ids l
 | [], k => by simp [Flat.live, lk, ids]
 | (.tmp j, c) :: r, k => by
   have := live_ids (l := r) (k := k); simp only [Flat.live, lk, ids, reduceCtorEq, if_false] at this ⊢; exact this
 | (.cell i j, c) :: r, k => by
   have := live_ids (l := r) (k := k); simp only [Flat.live, lk, ids, reduceCtorEq, if_false] at this ⊢; exact this
 | (.var i, c) :: r, k => by
   have := live_ids (l := r) (k := k); simp only [Flat.live, lk, ids, reduceCtorEq, if_false, Loc.var.injEq, List.mem_cons] at this ⊢
   by_cases h : k = i
   · simp [h]
   · simp [h]; exact this
 | (.arr i, c) :: r, k => by
   have := live_ids (l := r) (k := k); simp only [Flat.live, lk, ids, reduceCtorEq, if_false, Loc.arr.injEq, List.mem_cons] at this ⊢
   by_cases h : k = i
   · simp [h]
   · simp [h]; exact this
def dropIds (bad : List Nat) : List (Loc × C) → List (Loc × C)
 | [] => []
 | (k, c) :: r => match locId k with
   | some id => if memN id bad = true then dropIds bad r else (k, c) :: dropIds bad r
   | none => (k, c) :: dropIds bad r
theorem lk_dropIds (bad : List Nat) (x : Loc) : ∀ l : List (Loc × C), lk (dropIds bad l) x = match locId x with | some id => if id ∈ bad then none else lk l x | none => lk l x
 | [] => by cases h : locId x <;> simp [dropIds, lk]
 | (k, c) :: r => by
   have ih := lk_dropIds bad x r; simp only [dropIds]
   cases hk : locId k with
   | none =>
     simp only [lk]
     by_cases hx : x = k
     · subst hx
       simp [hk]
     · simp only [hx, if_false, ih]
   | some id =>
     simp only
     by_cases hb : memN id bad = true
     · rw [if_pos hb, ih]
       rw [memN_iff] at hb
       by_cases hx : x = k
       · subst hx
         simp [hk, hb]
       · simp [lk, hx]
     · rw [if_neg hb]
       rw [memN_iff] at hb; simp only [lk]
       by_cases hx : x = k
       · subst hx
         simp [hk, hb]
       · simp only [hx, if_false, ih]
def renS (ι : Nat → Nat) : List (Loc × C) → List (Loc × C)
 | [] => []
 | (k, c) :: r => (renLoc ι k, renC ι c) :: renS ι r
def app : List (Loc × C) → List (Loc × C) → List (Loc × C)
 | [], m => m
 | p :: r, m => p :: app r m
theorem lk_app (x : Loc) : ∀ l m : List (Loc × C), lk (app l m) x = match lk l x with | some c => some c | none => lk m x
 | [], m => rfl
 | (k, c) :: r, m => by
   simp only [app, lk]
   by_cases hx : x = k
   · simp [hx]
   · simp only [hx, if_false, lk_app x r m]
def backL (ι : Nat → Nat) (s' l : List (Loc × C)) : List (Loc × C) := app (renS ι s') (dropIds ((ids s').map ι) l)
def famOK (s : List (Loc × C)) (i : Nat) (xs : List (List PV)) : Bool :=
 decide (i < 4294967296) || (decide (8589934592 ≤ i) || xs.all fun row => row.all fun x => match x with
   | .han k _ _ _ => (lk s (.arr k)).isSome
   | _ => true)
@[simp] theorem famOK_small {s : List (Loc × C)} {i : Nat} {xs : List (List PV)} (h : i < 4294967296) : famOK s i xs = true := by simp [famOK, h]
theorem famOK_spec {s : List (Loc × C)} {i : Nat} {xs : List (List PV)} (h : famOK s i xs = true) (hw : 4294967296 ≤ i ∧ i < 8589934592) : ∀ row ∈ xs, ∀ k L off len, PV.han k L off len ∈ row → lk s (.arr k) ≠ none := by
 intro row hrow k L off len hk; simp only [famOK, Bool.or_eq_true, decide_eq_true_eq, List.all_eq_true] at h; rcases h with h | h | h
 · omega
 · omega
 · have := h row hrow _ hk
   simpa [Option.isSome_iff_ne_none] using this
def bigB (ι : Nat → Nat) (k : Nat) : Bool := (decide (k < 4294967296) && decide (ι k < 4294967296)) || decide (ι k = k)
@[simp] theorem bigB_small {ι : Nat → Nat} {k : Nat} (h1 : k < 4294967296) (h2 : ι k < 4294967296) : bigB ι k = true := by simp [bigB, h1, h2]
theorem bigB_spec {ι : Nat → Nat} {k : Nat} (h : bigB ι k = true) : (8589934592 ≤ k → ι k = k) ∧ ((4294967296 ≤ k ∧ k < 8589934592) ↔ (4294967296 ≤ ι k ∧ ι k < 8589934592)) := by
 simp only [bigB, Bool.or_eq_true, Bool.and_eq_true, decide_eq_true_eq] at h; rcases h with ⟨h1, h2⟩ | h
 · exact ⟨fun q => by omega, by omega⟩
 · exact ⟨fun _ => h, by rw [h]⟩
def injB (ι : Nat → Nat) : List Nat → Bool
 | [] => true
 | k :: r => (r.all fun j => ι k != ι j || k == j) && (bigB ι k && injB ι r)
def noTmp : List (Loc × C) → Bool
 | [] => true
 | (.tmp _, _) :: _ => false
 | _ :: r => noTmp r
def isSomeV (l : List (Loc × C)) (k : Nat) : Bool := (lk l (.var k)).isSome || (lk l (.arr k)).isSome
def ownB (l : List (Loc × C)) : List (Loc × C) → Bool
 | [] => true
 | (.cell id _, .av a) :: r => (lk l (.var id)).isSome && (refs (isSomeV l) a && ownB l r)
 | (.cell _ _, _) :: _ => false
 | (.arr i, .arr _ _ xs _) :: r => famOK l i xs && ownB l r
 | _ :: r => ownB l r
def refsAll (ok : Nat → Bool) : List AV → Bool
 | [] => true
 | a :: r => refs ok a && refsAll ok r
def LiesAt (ι : Nat → Nat) (l : List (Loc × C)) : List (Loc × C) → Prop
 | [] => True
 | (k, c) :: r => lk l (renLoc ι k) = some (renC ι c) ∧ LiesAt ι l r
def freshB (ι : Nat → Nat) (s l : List (Loc × C)) : List Nat → Bool
 | [] => true
 | k :: r => (memN k (ids s) || ((lk l (.var (ι k))).isNone && (lk l (.arr (ι k))).isNone)) && freshB ι s l r
def callB (ι : Nat → Nat) (args : List AV) (s s' l : List (Loc × C)) : Bool :=
 noTmp s && noTmp s' && injB ι (ids s) && injB ι (ids s') && ownB s s && ownB s' s' && refsAll (isSomeV s) args && freshB ι s l (ids s')
theorem injB_spec {ι : Nat → Nat} : ∀ {l : List Nat}, injB ι l = true → ∀ k k', k ∈ l → k' ∈ l → ι k = ι k' → k = k'
 | [], _, k, k', h, _, _ => by simp at h
 | j :: r, h, k, k', hk, hk', he => by
   simp only [injB, Bool.and_eq_true, List.all_eq_true, Bool.or_eq_true, bne_iff_ne, beq_iff_eq] at h; obtain ⟨h1, _, h2⟩ := h; rcases List.mem_cons.1 hk with e1 | g1 <;> rcases List.mem_cons.1 hk' with e2 | g2
   · rw [e1, e2]
   · subst e1
     rcases h1 k' g2 with h | h
     · exact absurd he h
     · exact h
   · subst e2
     rcases h1 k g1 with h | h
     · exact absurd he.symm h
     · exact h.symm
   · exact injB_spec h2 k k' g1 g2 he
theorem injB_big {ι : Nat → Nat} : ∀ {l : List Nat}, injB ι l = true → ∀ k ∈ l, bigB ι k = true
 | [], _, k, h => by simp at h
 | j :: r, h, k, hk => by
   simp only [injB, Bool.and_eq_true] at h; rcases List.mem_cons.1 hk with rfl | hk
   · exact h.2.1
   · exact injB_big h.2.2 k hk
theorem noTmp_spec : ∀ {l : List (Loc × C)}, noTmp l = true → ∀ k, lk l (.tmp k) = none
 | [], _, k => rfl
 | (.tmp _, _) :: _, h, k => by simp [noTmp] at h
 | (.cell _ _, _) :: r, h, k => by simp only [lk, reduceCtorEq, if_false]; exact noTmp_spec (by simpa [noTmp] using h) k
 | (.var _, _) :: r, h, k => by simp only [lk, reduceCtorEq, if_false]; exact noTmp_spec (by simpa [noTmp] using h) k
 | (.arr _, _) :: r, h, k => by simp only [lk, reduceCtorEq, if_false]; exact noTmp_spec (by simpa [noTmp] using h) k
theorem ownB_spec {s : List (Loc × C)} : ∀ {l : List (Loc × C)}, ownB s l = true → ∀ id j c, lk l (.cell id j) = some c → lk s (.var id) ≠ none ∧ ∃ a, c = .av a ∧ refs (fun k => (lk s (.var k)).isSome || (lk s (.arr k)).isSome) a = true
 | [], _, id, j, c, h => by simp [lk] at h
 | (k, c0) :: r, h, id, j, c, hc => by
   cases k with
   | cell i q =>
     cases c0 with
     | av a =>
       simp only [ownB, Bool.and_eq_true] at h; obtain ⟨h1, h2, h3⟩ := h; simp only [lk] at hc; split at hc
       · rename_i he
         simp only [Loc.cell.injEq] at he; obtain ⟨rfl, rfl⟩ := he; simp only [Option.some.injEq] at hc; subst hc; exact ⟨by rw [Option.isSome_iff_ne_none] at h1; exact h1, a, rfl, h2⟩
       · exact ownB_spec h3 id j c hc
     | n _ => simp [ownB] at h
     | arr _ _ _ _ => simp [ownB] at h
   | tmp _ => simp only [lk, reduceCtorEq, if_false] at hc; exact ownB_spec (by simpa [ownB] using h) id j c hc
   | var _ => simp only [lk, reduceCtorEq, if_false] at hc; exact ownB_spec (by simpa [ownB] using h) id j c hc
   | arr _ =>
     simp only [lk, reduceCtorEq, if_false] at hc; refine ownB_spec (s := s) (l := r) ?_ id j c hc; cases c0 <;> simp only [ownB, Bool.and_eq_true] at h <;> first | exact h | exact h.2
theorem ownB_fam {s : List (Loc × C)} : ∀ {l : List (Loc × C)}, ownB s l = true → ∀ id e sz xs pub, lk l (.arr id) = some (.arr e sz xs pub) → famOK s id xs = true
 | [], _, id, e, sz, xs, pub, h => by simp [lk] at h
 | (k, c0) :: r, h, id, e, sz, xs, pub, hl => by
   have hr : ownB s r = true := by
     cases k <;> cases c0 <;> simp only [ownB, Bool.and_eq_true, reduceCtorEq] at h
     all_goals first | exact h | exact h.2 | exact h.2.2 | exact absurd h (by simp)
   simp only [lk] at hl; split at hl
   · rename_i he
     subst he; simp only [Option.some.injEq] at hl; subst hl; simp only [ownB, Bool.and_eq_true] at h; exact h.1
   · exact ownB_fam hr id e sz xs pub hl
theorem refsAll_spec {ok : Nat → Bool} : ∀ {l : List AV}, refsAll ok l = true → ∀ x ∈ l, refs ok x = true
 | [], _, x, h => by simp at h
 | a :: r, h, x, hx => by
   simp only [refsAll, Bool.and_eq_true] at h; rcases List.mem_cons.1 hx with rfl | hx
   · exact h.1
   · exact refsAll_spec h.2 x hx
theorem LiesAt_spec {ι : Nat → Nat} : ∀ {s : List (Loc × C)}, LiesAt ι l s → ∀ k c, lk s k = some c → lk l (renLoc ι k) = some (renC ι c)
 | [], _, k, c, h => by simp [lk] at h
 | (k0, c0) :: r, h, k, c, hk => by
   simp only [lk] at hk; split at hk
   · rename_i he
     subst he; simp only [Option.some.injEq] at hk; subst hk; exact h.1
   · exact LiesAt_spec h.2 k c hk
theorem freshB_spec {ι : Nat → Nat} {s : List (Loc × C)} : ∀ {ks : List Nat}, freshB ι s l ks = true → ∀ k ∈ ks, k ∉ ids s → ¬ Flat.live (lk l) (ι k)
 | [], _, k, h, _ => by simp at h
 | j :: r, h, k, hk, hn => by
   simp only [freshB, Bool.and_eq_true, Bool.or_eq_true, memN_iff, Option.isNone_iff_eq_none] at h; rcases List.mem_cons.1 hk with rfl | hk
   · rcases h.1 with h1 | ⟨h1, h2⟩
     · exact absurd h1 hn
     · rintro (h | h)
       · exact h h1
       · exact h h2
   · exact freshB_spec h.2 k hk hn
theorem lk_renS {ι : Nat → Nat} : ∀ {s : List (Loc × C)} {x : Loc}, (∀ p ∈ s, renLoc ι p.1 = renLoc ι x → p.1 = x) → lk (renS ι s) (renLoc ι x) = (lk s x).map (renC ι)
 | [], x, _ => rfl
 | (k0, c0) :: r, x, h => by
   simp only [renS, lk]
   by_cases he : x = k0
   · subst he
     simp
   · have : renLoc ι x ≠ renLoc ι k0 := fun e => he (h (k0, c0) (by simp) e.symm).symm
     rw [if_neg this, if_neg he]; exact lk_renS fun p hp => h p (by simp [hp])
theorem lk_renS_none {ι : Nat → Nat} : ∀ {s : List (Loc × C)} {x : Loc}, (∀ p ∈ s, renLoc ι p.1 ≠ x) → lk (renS ι s) x = none
 | [], x, _ => rfl
 | (k0, c0) :: r, x, h => by
   simp only [renS, lk]; rw [if_neg (fun e => h (k0, c0) (by simp) e.symm)]
   exact lk_renS_none fun p hp => h p (by simp [hp])
theorem locId_ren {ι : Nat → Nat} (x : Loc) : locId (renLoc ι x) = (locId x).map ι := by cases x <;> rfl
theorem mem_ids {s : List (Loc × C)} (ht : noTmp s = true) (ho : ownB s s = true) : ∀ p ∈ s, ∃ id, locId p.1 = some id ∧ id ∈ ids s := by
 rintro ⟨k, c⟩ hp
 have hne : ∀ x : Loc, (x, c) ∈ s → lk s x ≠ none := by
   intro x; clear ht ho hp
   induction s with
   | nil => simp
   | cons q r ih =>
     obtain ⟨k0, c0⟩ := q; intro hx; simp only [lk]; split
     · simp
     · rename_i he
       rcases List.mem_cons.1 hx with h | h
       · simp only [Prod.mk.injEq] at h; exact absurd h.1 he
       · exact ih h
 have h1 := hne k hp
 cases k with
 | tmp j => exact absurd (noTmp_spec ht j) h1
 | cell id j =>
   obtain ⟨c', hc'⟩ := Option.ne_none_iff_exists'.1 h1; exact ⟨id, rfl, live_ids.1 (.inl (ownB_spec ho id j c' hc').1)⟩
 | var id => exact ⟨id, rfl, live_ids.1 (.inl h1)⟩
 | arr id => exact ⟨id, rfl, live_ids.1 (.inr h1)⟩
theorem call_lies {ι : Nat → Nat} {args : List AV} {s s' : List (Loc × C)} (h : callB ι args s s' l = true) (hl : LiesAt ι l s) : Lies (lk s) (lk l) ι ∧ Back (lk s) (lk s') (lk l) (lk (backL ι s' l)) ι ∧ ∀ x ∈ args, refs (fun k => (lk s (.var k)).isSome || (lk s (.arr k)).isSome) x = true := by
 simp only [callB, Bool.and_eq_true] at h; obtain ⟨⟨⟨⟨⟨⟨⟨h1, h2⟩, h3⟩, h4⟩, h5⟩, h6⟩, h7⟩, h8⟩ := h; have hmem := mem_ids h2 h6
 have hkey : ∀ {k : Nat} {x : Loc}, Flat.live (lk s') k → locId x = some k → lk (backL ι s' l) (renLoc ι x) = (lk s' x).map (renC ι) := by
   intro k x hk hx; have hk' := live_ids.1 hk; unfold backL; rw [lk_app, lk_renS]
   · cases hq : lk s' x with
     | some c => rfl
     | none =>
       simp only [Option.map_none]; rw [lk_dropIds, locId_ren, hx]; simp only [Option.map_some]; rw [if_pos (List.mem_map.2 ⟨k, hk', rfl⟩)]
   · intro p hp he
     obtain ⟨id, e1, e2⟩ := hmem p hp; have e3 := congrArg locId he; rw [locId_ren, locId_ren, hx, e1] at e3; simp only [Option.map_some, Option.some.injEq] at e3; have e4 := injB_spec h4 _ _ e2 hk' e3; subst e4; obtain ⟨p1, p2⟩ := p; simp only at he e1 ⊢; cases p1 <;> cases x <;> simp_all [renLoc, locId]
 refine ⟨⟨LiesAt_spec hl, fun k k' hk hk' => injB_spec h3 k k' (live_ids.1 hk) (live_ids.1 hk'), noTmp_spec h1, ?_, ?_, fun k hk => (bigB_spec (injB_big h3 k (live_ids.1 hk))).1, fun k hk => (bigB_spec (injB_big h3 k (live_ids.1 hk))).2, fun id e sz xs pub q hw row hrow k L off len hk _ => famOK_spec (ownB_fam h5 id e sz xs pub q) hw row hrow k L off len hk⟩,
   ⟨?_, ?_, ?_, ?_, ?_, ?_, ?_, fun k hk => (bigB_spec (injB_big h4 k (live_ids.1 hk))).1, fun k hk => (bigB_spec (injB_big h4 k (live_ids.1 hk))).2, ?_⟩, refsAll_spec h7⟩
 · intro id j hc
   obtain ⟨c, hc⟩ := Option.ne_none_iff_exists'.1 hc; exact (ownB_spec h5 id j c hc).1
 · intro id j x hc
   obtain ⟨y, hy, hr⟩ := (ownB_spec h5 id j _ hc).2; simp only [C.av.injEq] at hy; subst hy; exact hr
 · intro k hk; exact hkey (x := .var k) hk rfl
 · intro k hk; exact hkey (x := .arr k) hk rfl
 · intro k j hk; exact hkey (x := .cell k j) hk rfl
 · intro id hn
   have hout : ∀ x : Loc, locId x = some id → lk (backL ι s' l) x = lk l x := by
     intro x hx; unfold backL; rw [lk_app, lk_renS_none]
     · rw [lk_dropIds, hx]
       simp only; rw [if_neg]; intro hm; obtain ⟨k, hk, e⟩ := List.mem_map.1 hm; exact hn k (live_ids.2 hk) e
     · intro p hp he
       obtain ⟨id', e1, e2⟩ := hmem p hp; have e3 := congrArg locId he; rw [locId_ren, hx, e1] at e3; simp only [Option.map_some, Option.some.injEq] at e3; exact hn id' (live_ids.2 e2) e3
   exact ⟨hout _ rfl, hout _ rfl, fun j => hout _ rfl⟩
 · intro k
   unfold backL; rw [lk_app, lk_renS_none]
   · rw [lk_dropIds]
     rfl
   · intro p hp he
     obtain ⟨id', e1, e2⟩ := hmem p hp; have e3 := congrArg locId he; rw [locId_ren, e1] at e3; simp [locId] at e3
 · intro k k' hk hk'; exact injB_spec h4 k k' (live_ids.1 hk) (live_ids.1 hk')
 · intro k hk hn
   exact freshB_spec h8 k (live_ids.1 hk) (fun hm => hn (live_ids.2 hm))
 · intro id j x hc
   obtain ⟨y, hy, hr⟩ := (ownB_spec h6 id j _ hc).2; simp only [C.av.injEq] at hy; subst hy; exact hr
def Enters (P : Program) (f : Nat) : Prop := ∃ fn, P.funcs[f]? = some fn ∧ (fn.name == "runtime.NumGoroutine") = false ∧ fn.body.isNone = false
theorem run_callFunc {f : Nat} (h : Enters P f) (args : Array Value) : (callFunc f args).run P w = .ok (.enter f args) w := by
 obtain ⟨fn, h1, h2, h3⟩ := h; have h2' : fn.name ≠ "runtime.NumGoroutine" := by simpa using h2
 have h3' : fn.body ≠ none := by intro e; simp [e] at h3
 unfold callFunc; simp [h1, h2', h3']
theorem aops_call {ops : Array Oper} {Q : Post} {o : Oper} {rest : List Oper} {fo : Operand} {ar : Array Operand} {tys : Array TypeId} {k : Nat} {cap xs cargs : List AV} {s s' : List (Loc × C)} {res : AV} (ι : Nat → Nat) {l' : List (Loc × C)}
   (hop : o.op = .call { callee := .value fo, args := ar, argTypes := tys }) (hg : guardL ops l o = some true) (hf : ev (lk l) fo = some (.fn (.func k) cap)) (hx : evs (lk l) ar.toList = some xs) (hE : Enters P k) (hS : Spec P k cargs s res s')
   (hargs : leA.leL (xs ++ cap) (renA.renL ι cargs)) (hB : callB ι cargs s s' l = true) (hL : LiesAt ι l s) (hd : putL G.n o.dst (renA ι res) (backL ι s' l) = some l') (h : AOps P F G ops Q rest l') : AOps P F G ops Q (o :: rest) l := by
 intro ρ a w hr; unfold wpList; rw [guardL_wanted hr hg]; simp only [if_true]; refine .inl ?_; have hfv := ev_ar hr hf; generalize hv : a.eval fo = v at hfv
 cases hfv with
 | fn hn hA =>
   rename_i vs
   obtain ⟨e1, e2⟩ := evs_ar hr hx; obtain ⟨c1, c2, c3⟩ := call_lies hB hL; unfold Oper.wp
   have hrun : (execOp a.eval o).run P w = .ok (.enter k (ar.map a.eval ++ vs)) w := by
     simp only [execOp, hop, resolve, hv, Deferred.ofValue, Sem.run_bind, Sem.run_pure, Result.andThen_ok, invoke, Array.empty_append]; exact run_callFunc hE _
   rw [hrun, Oper.upon_enter]
   have hlen : xs.length + cap.length = cargs.length := by
     have := leL_len hargs; rw [renL_len] at this
     simpa using this
   refine (call_spec hS hr c1 c2 c3 (vs := ar.map a.eval ++ vs) ?_ ?_).mono ?_
   · simp only [Array.size_append, Array.size_map, hn, ← hlen, e1, Array.length_toList]
   · intro j x u hj hu
     obtain ⟨x0, hj', hle⟩ := leL_at (j := j) (y := renA ι x) hargs (by rw [renL_at, hj]; rfl)
     have hsz : (ar.map a.eval).size = xs.length := by simp [e1]
     by_cases hlt : j < xs.length
     · rw [List.getElem?_append_left hlt] at hj'
       rw [Array.getElem?_append_left (by omega)] at hu
       exact (e2 j _ u hj' (by rw [← Array.toList_map]; simpa using hu)).le_same hle
     · rw [List.getElem?_append_right (by omega)] at hj'
       rw [Array.getElem?_append_right (by omega), hsz] at hu
       exact (hA _ _ u hj' hu).le_same hle
   · rintro e w' ⟨u, ρ', rfl, h1, h2⟩
     exact h ρ' _ w' (putL_rel h1 h2 hd)
end
end Go.Flat
end
section
set_option linter.unusedVariables false
set_option linter.unusedSimpArgs false
namespace Go.Flat
section
variable {P : Program} {F : Nat → Nat → Prop} {G : Start} {ρ : Ren} {l : List (Loc × C)} {a : Act} {w : World}
def tmpsL : Nat → List AV → List (Loc × C)
 | _, [] => []
 | i, a :: r => (.tmp i, .av a) :: tmpsL (i + 1) r
theorem lk_tmpsL : ∀ (xs : List AV) (i k : Nat), lk (tmpsL i xs) (.tmp k) = if i ≤ k then (xs[k - i]?).map .av else none
 | [], i, k => by simp [tmpsL, lk]
 | x :: r, i, k => by
   simp only [tmpsL, lk, Loc.tmp.injEq]
   by_cases h : k = i
   · subst h; simp
   · rw [if_neg h, lk_tmpsL r]
     by_cases h2 : i ≤ k
     · rw [if_pos h2, if_pos (by omega), show k - i = (k - (i + 1)) + 1 by omega]
       simp
     · rw [if_neg h2, if_neg (by omega)]
theorem lk_tmpsL_other : ∀ (xs : List AV) (i : Nat) (x : Loc), (∀ k, x ≠ .tmp k) → lk (tmpsL i xs) x = none
 | [], _, _, _ => rfl
 | y :: r, i, x, h => by
   simp only [tmpsL, lk]; rw [if_neg (h i)]; exact lk_tmpsL_other r _ x h
def PartOf (l : List (Loc × C)) : List (Loc × C) → Prop
 | [] => True
 | (k, .av b) :: r => (∃ a, lk l k = some (.av a) ∧ leA a b) ∧ PartOf l r
 | (k, .n n) :: r => lk l k = some (.n n) ∧ PartOf l r
 | (k, .arr e sz xs pub) :: r => lk l k = some (.arr e sz xs pub) ∧ PartOf l r
theorem PartOf_spec : ∀ {s : List (Loc × C)}, PartOf l s → ∀ k c, lk s k = some c → lk l k = some c ∨ ∃ a b, c = .av b ∧ lk l k = some (.av a) ∧ leA a b
 | [], _, k, c, h => by simp [lk] at h
 | (k0, c0) :: r, h, k, c, hk => by
   have hr : PartOf l r := by cases c0 <;> exact h.2
   simp only [lk] at hk; split at hk
   · rename_i he
     subst he; simp only [Option.some.injEq] at hk; subst hk
     cases c0 with
     | av b =>
       obtain ⟨a, h1, h2⟩ := h.1; exact .inr ⟨a, b, rfl, h1, h2⟩
     | n _ => exact .inl h.1
     | arr _ _ _ _ => exact .inl h.1
   · exact PartOf_spec hr k c hk
def closedIn (s : List (Loc × C)) : List (Loc × C) → Bool
 | [] => true
 | (.tmp _, .av a) :: r => refs (isSomeV s) a && closedIn s r
 | (.cell id _, .av a) :: r => (lk s (.var id)).isSome && (refs (isSomeV s) a && closedIn s r)
 | (.cell _ _, _) :: _ => false
 | (.tmp _, _) :: _ => false
 | (.arr i, .arr _ _ xs _) :: r => famOK s i xs && closedIn s r
 | _ :: r => closedIn s r
theorem closedIn_fam {s : List (Loc × C)} : ∀ {l : List (Loc × C)}, closedIn s l = true → ∀ id e sz xs pub, lk l (.arr id) = some (.arr e sz xs pub) → famOK s id xs = true
 | [], _, id, e, sz, xs, pub, h => by simp [lk] at h
 | (k, c0) :: r, h, id, e, sz, xs, pub, hl => by
   have hr : closedIn s r = true := by
     cases k <;> cases c0 <;> simp only [closedIn, Bool.and_eq_true, reduceCtorEq] at h
     all_goals first | exact h | exact h.2 | exact h.2.2 | exact absurd h (by simp)
   simp only [lk] at hl; split at hl
   · rename_i he
     subst he; simp only [Option.some.injEq] at hl; subst hl; simp only [closedIn, Bool.and_eq_true] at h; exact h.1
   · exact closedIn_fam hr id e sz xs pub hl
theorem closedIn_spec {s : List (Loc × C)} : ∀ {l : List (Loc × C)}, closedIn s l = true → (∀ id j, lk l (.cell id j) ≠ none → lk s (.var id) ≠ none) ∧ ∀ x a, lk l x = some (.av a) → (∀ id, x ≠ .var id) → (∀ id, x ≠ .arr id) → refs (fun k => (lk s (.var k)).isSome || (lk s (.arr k)).isSome) a = true
 | [], _ => by simp [lk]
 | (k, c0) :: r, h => by
   cases k with
   | tmp i =>
     cases c0 with
     | av a =>
       simp only [closedIn, Bool.and_eq_true] at h; obtain ⟨h2, h3⟩ := h; obtain ⟨g1, g2⟩ := closedIn_spec h3; refine ⟨fun id j hc => g1 id j (by simpa [lk] using hc), fun x b hx hv ha => ?_⟩
       simp only [lk] at hx; split at hx
       · simp only [Option.some.injEq, C.av.injEq] at hx
         subst hx; exact h2
       · exact g2 x b hx hv ha
     | n _ => simp [closedIn] at h
     | arr _ _ _ _ => simp [closedIn] at h
   | cell i q =>
     cases c0 with
     | av a =>
       simp only [closedIn, Bool.and_eq_true] at h; obtain ⟨h1, h2, h3⟩ := h; obtain ⟨g1, g2⟩ := closedIn_spec h3; refine ⟨fun id j hc => ?_, fun x b hx hv ha => ?_⟩
       · simp only [lk] at hc
         split at hc
         · rename_i he
           simp only [Loc.cell.injEq] at he; obtain ⟨rfl, rfl⟩ := he; rw [Option.isSome_iff_ne_none] at h1; exact h1
         · exact g1 id j hc
       · simp only [lk] at hx
         split at hx
         · simp only [Option.some.injEq, C.av.injEq] at hx
           subst hx; exact h2
         · exact g2 x b hx hv ha
     | n _ => simp [closedIn] at h
     | arr _ _ _ _ => simp [closedIn] at h
   | var i =>
     obtain ⟨g1, g2⟩ := closedIn_spec (s := s) (l := r) (by simpa [closedIn] using h)
     refine ⟨fun id j hc => g1 id j (by simpa [lk] using hc), fun x b hx hv ha => g2 x b ?_ hv ha⟩
     simp only [lk] at hx
     rwa [if_neg (hv i)] at hx
   | arr i =>
     obtain ⟨g1, g2⟩ := closedIn_spec (s := s) (l := r) (by cases c0 <;> simp only [closedIn, Bool.and_eq_true] at h <;> first | exact h | exact h.2)
     refine ⟨fun id j hc => g1 id j (by simpa [lk] using hc), fun x b hx hv ha => g2 x b ?_ hv ha⟩
     simp only [lk] at hx
     rwa [if_neg (ha i)] at hx
theorem closedIn_tmp {s : List (Loc × C)} : ∀ {l : List (Loc × C)}, closedIn s l = true → ∀ k c, (∀ a, c ≠ .av a) → lk l (.tmp k) ≠ some c
 | [], _, k, c, _ => by simp [lk]
 | (x, c0) :: r, h, k, c, hc => by
   have hr : closedIn s r = true := by
     cases x <;> cases c0 <;> simp only [closedIn, Bool.and_eq_true, reduceCtorEq] at h
     all_goals first | exact h | exact h.2 | exact h.2.2 | exact absurd h (by simp)
   simp only [lk]; split
   · rename_i e
     subst e; intro hq; simp only [Option.some.injEq] at hq; subst hq; cases c0 <;> simp_all [closedIn]
   · exact closedIn_tmp hr k c hc
def hasB (s l : List (Loc × C)) : List Nat → Bool
 | [] => true
 | k :: r => (!(lk s (.var k)).isSome || (lk l (.var k)).isSome) && ((!(lk s (.arr k)).isSome || (lk l (.arr k)).isSome) && hasB s l r)
theorem hasB_spec {s l : List (Loc × C)} : ∀ {ks : List Nat}, hasB s l ks = true → ∀ id ∈ ks, (lk s (.var id) ≠ none → lk l (.var id) ≠ none) ∧ (lk s (.arr id) ≠ none → lk l (.arr id) ≠ none)
 | [], _, id, h => by simp at h
 | k :: r, h, id, hm => by
   simp only [hasB, Bool.and_eq_true, Bool.or_eq_true, Bool.not_eq_true', Option.isSome_eq_false_iff, Option.isNone_iff_eq_none, Option.isSome_iff_ne_none] at h; obtain ⟨h1, h2, h3⟩ := h; rcases List.mem_cons.1 hm with rfl | hm
   · exact ⟨fun g => h1.resolve_left g, fun g => h2.resolve_left g⟩
   · exact hasB_spec h3 id hm
theorem hasB_has {s l : List (Loc × C)} (h : hasB s l (ids s) = true) : Has (lk s) (lk l) := by
 intro id
 by_cases hm : id ∈ ids s
 · exact hasB_spec h id hm
 · have : ¬ Flat.live (lk s) id := fun hl => hm (live_ids.1 hl)
   exact ⟨fun g => absurd (Or.inl g) this, fun g => absurd (Or.inr g) this⟩
structure Weak (s l l2 : List (Loc × C)) : Prop where
 part : PartOf l l2
 closed : closedIn l2 l2 = true
 has : hasB s l2 (ids s) = true
theorem part_dn {l2 : List (Loc × C)} {t : Sto} (ht : RelO F ρ t w) (hl : lk l = t) (hp : PartOf l l2) (hc : closedIn l2 l2 = true) : Dn F ρ w (lk l2) t := by
 subst hl; obtain ⟨c1, c2⟩ := closedIn_spec hc
 have hv : ∀ k c, lk l2 (.var k) = some c → lk l (.var k) = some c := by
   intro k c hk; rcases PartOf_spec hp _ _ hk with h | ⟨a, b, rfl, h, _⟩
   · exact h
   · obtain ⟨n, _, _, _, q, _⟩ := ht.var k _ h
     simp at q
 have ha : ∀ k c, lk l2 (.arr k) = some c → lk l (.arr k) = some c := by
   intro k c hk; rcases PartOf_spec hp _ _ hk with h | ⟨a, b, rfl, h, _⟩
   · exact h
   · obtain ⟨_, _, _, _, q, _⟩ := ht.arr k _ h
     simp at q
 have hu : Under F ρ (lk l2) (lk l) := .mk' hv ha
 have hle : ∀ x b, lk l2 x = some (.av b) → (∀ id, x ≠ .var id) → (∀ id, x ≠ .arr id) → ∃ a, lk l x = some (.av a) ∧ ∀ v, AR F ρ (lk l) w a v → AR F ρ (lk l2) w b v := by
   intro x b hx h1 h2; have hn := c2 x b hx h1 h2; rcases PartOf_spec hp _ _ hx with h | ⟨a, b', e, h, hle⟩
   · exact ⟨b, h, fun v hv => hv.le ht hu (leA_refl b) hn⟩
   · simp only [C.av.injEq] at e
     subst e; exact ⟨a, h, fun v hv => hv.le ht hu hle hn⟩
 refine ⟨hu, ?_, ?_, fun id e sz xs pub h1 hw row hrow k L off len hk _ => famOK_spec (closedIn_fam hc id e sz xs pub h1) hw row hrow k L off len hk⟩
 · intro k j c hk
   refine ⟨c1 k j (by rw [hk]; simp), ?_⟩
   cases c with
   | av b =>
     obtain ⟨a, g1, g2⟩ := hle _ b hk (by simp) (by simp)
     exact ⟨a, b, rfl, g1, g2⟩
   | n n =>
     rcases PartOf_spec hp _ _ hk with h | ⟨a, b', e, h, _⟩
     · obtain ⟨_, _, _, _, q, _⟩ := ht.cell k j _ h
       simp at q
     · simp at e
   | arr _ _ _ _ =>
     rcases PartOf_spec hp _ _ hk with h | ⟨a, b', e, h, _⟩
     · obtain ⟨_, _, _, _, q, _⟩ := ht.cell k j _ h
       simp at q
     · simp at e
 · intro k c hk
   cases c with
   | av b =>
     obtain ⟨a, g1, g2⟩ := hle _ b hk (by simp) (by simp)
     exact ⟨a, b, rfl, g1, g2⟩
   | n n => exact absurd hk (closedIn_tmp hc k (.n n) (by simp))
   | arr e sz xs pub => exact absurd hk (closedIn_tmp hc k (.arr e sz xs pub) (by simp))
theorem Weak.rel {s l2 : List (Loc × C)} (h : Weak s l l2) (hG : G.t = lk s) (hr : Rel F G ρ (lk l) a w) : Rel F G ρ (lk l2) a w :=
 hr.dn (part_dn hr.o rfl h.part h.closed) (by rw [hG]; exact hasB_has h.has)
theorem awp_weak {s : List (Loc × C)} {c : Code} {Q : Post} (l2 : List (Loc × C)) (hG : G.t = lk s) (hW : Weak s l l2) (h : AWP P F G c Q l2) : AWP P F G c Q l := fun ρ a w hr => h ρ a w (hW.rel hG hr)
theorem awp_loopw {s : List (Loc × C)} {c : Code} {Q : Post} (I : Nat → List (Loc × C) → Prop) (n0 : Nat) (hG : G.t = lk s) (h0 : ∃ l2, Weak s l l2 ∧ I n0 l2)
   (h : ∀ n l, I n l → AWP P F G c (thenQ (fun l' => ∃ n', n' < n ∧ ∃ l2, Weak s l' l2 ∧ I n' l2) Q) l) : AWP P F G (.loop c) Q l := by
 obtain ⟨l2, hW, hI⟩ := h0; refine awp_weak l2 hG hW (awp_loop I n0 hI fun n l hI => ?_)
 intro ρ a w hr; refine wp_mono (h n l hI ρ a w hr) ?_; rintro e a' w' ⟨l', ρ', hq, hr'⟩
 cases e with
 | normal =>
   obtain ⟨n', h1, l2, hW, h2⟩ := hq; exact ⟨l2, ρ', ⟨n', h1, h2⟩, hW.rel hG hr'⟩
 | _ => exact ⟨l', ρ', hq, hr'⟩
def resOne (T : Nat → Option TI) (l : List (Loc × C)) : ResultVar → Option AV
 | .tmp k => match lk l (.tmp k) with
   | some (.av a) => some a
   | _ => none
 | .cell k ty => match lk l (.tmp k), T ty with
   | some (.av p), some i => loadF (lk l) i p
   | _, _ => none
def resAll (T : Nat → Option TI) (l : List (Loc × C)) : List ResultVar → Option (List AV)
 | [] => some []
 | r :: rs => match resOne T l r with
   | some a => (resAll T l rs).map (a :: ·)
   | none => none
def resL (T : Nat → Option TI) (l : List (Loc × C)) (rs : List ResultVar) : Option AV :=
 match resAll T l rs with
 | some [a] => some a
 | some as => some (.tup as)
 | none => none
def resRun (tmps : Array Value) : ResultVar → Sem Value
 | .tmp t => pure (tmps.getD t undef)
 | .cell p t => do loadVar t (← asAddr (tmps.getD p undef))
theorem results_eq (fn : Func) (tmps : Array Value) : results fn tmps = (do let vs ← fn.results.mapM (resRun tmps); pure (if h : vs.size = 1 then vs[0] else .tuple vs)) := by
 unfold results
 have : (fun x => match x with | .tmp t => pure (tmps.getD t undef) | .cell a t => do loadVar t (← asAddr (tmps.getD a undef)) : ResultVar → Sem Value) = resRun tmps := by
   funext r; cases r <;> rfl
 rw [← this]; rfl
theorem resOne_run (hr : Rel F G ρ (lk l) a w) {r : ResultVar} {x : AV} (h : resOne (tyOf P) l r = some x) :
   ∃ v, (resRun a.tmps r).run P w = .ok v w ∧ AR F ρ (lk l) w x v := by
 unfold resOne at h; split at h
 · rename_i k
   split at h <;> try (simp at h; done)
   rename_i b hb
   simp only [Option.some.injEq] at h; subst h; obtain ⟨y, hy, hA⟩ := hr.tmp _ _ hb; simp only [C.av.injEq] at hy; subst hy; exact ⟨_, rfl, hA⟩
 · rename_i k ty
   split at h <;> try (simp at h; done)
   rename_i p i hp hi
   obtain ⟨fi⟩ := tyOf_facts hi; obtain ⟨y, hy, hA⟩ := hr.tmp _ _ hp; simp only [C.av.injEq] at hy; subst hy; obtain ⟨ad, u, e1, e2, e3⟩ := load_any (P := P) hr.o fi hA h; refine ⟨u, ?_, e3⟩; simp only [resRun, Sem.run_bind, e1, asAddr, Sem.run_pure, Result.andThen_ok]; exact e2
theorem resAll_run (hr : Rel F G ρ (lk l) a w) : ∀ {rs : List ResultVar} {xs : List AV}, resAll (tyOf P) l rs = some xs →
   ∃ vs : List Value, (rs.mapM (resRun a.tmps)).run P w = .ok vs w ∧ vs.length = xs.length ∧ ∀ (j : Nat) (x : AV) (v : Value), xs[j]? = some x → vs[j]? = some v → AR F ρ (lk l) w x v
 | [], xs, h => by
   simp only [resAll, Option.some.injEq] at h; subst h; exact ⟨[], by simp, rfl, by simp⟩
 | r :: rs, xs, h => by
   simp only [resAll] at h; split at h <;> try (simp at h; done)
   rename_i y hy
   cases hq : resAll (tyOf P) l rs with
   | none => simp [hq] at h
   | some ys =>
     simp only [hq, Option.map_some, Option.some.injEq] at h; subst h; obtain ⟨v, e1, e2⟩ := resOne_run (P := P) hr hy; obtain ⟨vs, g1, g2, g3⟩ := resAll_run hr hq; refine ⟨v :: vs, ?_, by simp [g2], fun j x u hj hu => ?_⟩
     · rw [List.mapM_cons]
       simp only [Sem.run_bind, e1, Result.andThen_ok, g1, Sem.run_pure]
     · cases j with
       | zero => simp at hj hu; subst hj; subst hu; exact e2
       | succ j => simp at hj hu; exact g3 j x u hj hu
theorem resL_run {fn : Func} (hr : Rel F G ρ (lk l) a w) {x : AV} (h : resL (tyOf P) l fn.results.toList = some x) : ∃ v, (results fn a.tmps).run P w = .ok v w ∧ AR F ρ (lk l) w x v := by
 unfold resL at h
 have hres : ∀ vs : List Value, (fn.results.toList.mapM (resRun a.tmps)).run P w = .ok vs w →
     (results fn a.tmps).run P w = .ok (if h : vs.toArray.size = 1 then vs.toArray[0] else .tuple vs.toArray) w := by
   intro vs hvs; rw [results_eq]; simp only [Sem.run_bind, Array.mapM_eq_mapM_toList, Sem.run_map, hvs, Result.andThen_ok, Sem.run_pure]
   try rfl
 split at h
 · rename_i y hy
   simp only [Option.some.injEq] at h; subst h; obtain ⟨vs, g1, g2, g3⟩ := resAll_run (P := P) hr hy; obtain ⟨v, rfl⟩ := List.length_eq_one_iff.1 g2; exact ⟨v, by rw [hres _ g1]; simp, g3 0 y v (by simp) (by simp)⟩
 · rename_i ys hne hy
   simp only [Option.some.injEq] at h; subst h; obtain ⟨vs, g1, g2, g3⟩ := resAll_run (P := P) hr hy
   have hn1 : vs.length ≠ 1 := by
     rw [g2]; intro he; obtain ⟨q, rfl⟩ := List.length_eq_one_iff.1 he; exact hne q rfl
   refine ⟨.tuple vs.toArray, by rw [hres _ g1]; simp [hn1], .tup (by simp [g2]) fun j x v hj hv => g3 j x v hj (by simpa using hv)⟩
 · simp at h
def retQ (T : Nat → Option TI) (rs : List ResultVar) (res : AV) (s s' : List (Loc × C)) : Post := fun e l =>
 (e = .ret ∨ e = .normal) ∧ (∃ x, resL T l rs = some x ∧ leA x res) ∧ PartOf l s' ∧ noTmp s' = true ∧ closedIn s' s' = true ∧ refs (isSomeV s') res = true ∧ hasB s s' (ids s) = true
def SpecR (F : Nat → Nat → Prop) (ρ : Ren) (w : World) (s : List (Loc × C)) (res : AV) (s' : List (Loc × C)) : Ending → World → Prop := fun e w' => ∃ v ρ', e = .returned v ∧ RelO F ρ' (lk s') w' ∧ AR F ρ' (lk s') w' res v ∧ Ext F ρ (lk s) w ρ' (lk s') w' ∧
     (∀ id b, live (lk s') id → ρ' id = some b → (live (lk s) id ∧ ρ id = some b) ∨ w.heap.size ≤ b) ∧
     (∀ b, b < w.heap.size → (∀ id, live (lk s) id → ρ id ≠ some b) → w'.heap[b]? = w.heap[b]?)
theorem spec_start {args : List AV} {s : List (Loc × C)} {vs : Array Value} {n : Nat} (hn : args.length ≤ n) (hs : noTmp s = true) (ho : RelO F ρ (lk s) w) (hsz : vs.size = args.length)
   (hA : ∀ (j : Nat) (x : AV) (v : Value), args[j]? = some x → vs[j]? = some v → AR F ρ (lk s) w x v) : Rel F ⟨ρ, lk s, w, n, []⟩ ρ (lk (app (tmpsL 0 args) s)) { tmps := vs ++ Array.replicate (n - vs.size) undef, defers := [] } w := by
 have hother : ∀ x : Loc, (∀ k, x ≠ .tmp k) → lk (app (tmpsL 0 args) s) x = lk s x := by
   intro x hx; rw [lk_app, lk_tmpsL_other _ _ _ hx]
 have hE : Ext F ρ (lk s) w ρ (lk (app (tmpsL 0 args) s)) w := .tmps (fun id => hother _ (by simp)) (fun id => hother _ (by simp))
 exact by
   refine ⟨ho.tmps (fun id => hother _ (by simp)) (fun id => hother _ (by simp)) (fun id j => hother _ (by simp)), ?_, ?_, rfl, hE, ?_, fun b _ _ => rfl⟩
   · intro k c hk
     rw [lk_app, lk_tmpsL] at hk; simp only [Nat.zero_le, if_true, Nat.sub_zero] at hk
     cases hq : args[k]? with
     | some y =>
       simp only [hq, Option.map_some, Option.some.injEq] at hk; refine ⟨y, hk.symm, ?_⟩; have hlt : k < vs.size := by rw [hsz]; exact (List.getElem?_eq_some_iff.1 hq).1
       have : (vs ++ Array.replicate (n - vs.size) undef).getD k undef = vs[k] := by
         simp [Array.getElem?_append_left hlt, hlt]
       show AR F ρ _ w y ((vs ++ Array.replicate (n - vs.size) undef).getD k undef); rw [this]; exact (hA k y vs[k] hq (by simp [hlt])).ext hE
     | none =>
       simp only [hq, Option.map_none] at hk; rw [noTmp_spec hs] at hk; simp at hk
   · show (vs ++ Array.replicate (n - vs.size) undef).size = n
     simp [hsz]; omega
   · intro id b hl hbb
     rw [live_congr (fun id => hother _ (by simp)) (fun id => hother _ (by simp))] at hl
     exact .inl ⟨hl, hbb⟩
theorem body_wp {fn : Func} {c : Code} {args : List AV} {s s' : List (Loc × C)} {res : AV} {vs : Array Value} (hn : args.length ≤ fn.ntmps) (hs : noTmp s = true)
   (h : ∀ F G, G.n = fn.ntmps → G.t = lk s → AWP P F G c (retQ (tyOf P) fn.results.toList res s s') (app (tmpsL 0 args) s)) (ho : RelO F ρ (lk s) w) (hsz : vs.size = args.length)
   (hA : ∀ (j : Nat) (x : AV) (v : Value), args[j]? = some x → vs[j]? = some v → AR F ρ (lk s) w x v) :
   c.wp P (bodyPost P fn (SpecR F ρ w s res s')) { tmps := vs ++ Array.replicate (fn.ntmps - vs.size) undef, defers := [] } w := by
 have hr := spec_start (n := fn.ntmps) hn hs ho hsz hA; refine wp_mono (h F _ rfl rfl ρ _ w hr) ?_; rintro e a' w' ⟨l', ρ', ⟨he, ⟨x0, h1, hle⟩, h2, h3, h4, h5, h6⟩, hr'⟩; obtain ⟨v, g1, g2⟩ := resL_run (P := P) hr' h1; have hsub := part_dn hr'.o rfl h2 h4
 have hpost : a'.defers = [] ∧ ∃ v, (results fn a'.tmps).run P w' = .ok v w' ∧ SpecR F ρ w s res s' (.returned v) w' :=
   ⟨hr'.dfr, v, g1, v, ρ', rfl, hr'.o.dn hsub, g2.le hr'.o hsub.u hle h5, hr'.ext.dn hsub.u (hasB_has h6), fun id b hl => hr'.own id b (hsub.u.live hl), hr'.frm⟩
 rcases he with rfl | rfl
 · exact hpost
 · exact hpost
theorem spec_of {f : Nat} {fn : Func} {c : Code} {args : List AV} {s s' : List (Loc × C)} {res : AV} (hf : P.funcs[f]? = some fn) (hb : fn.body = some c) (hn : args.length ≤ fn.ntmps) (hs : noTmp s = true)
   (h : ∀ F G, G.n = fn.ntmps → G.t = lk s → AWP P F G c (retQ (tyOf P) fn.results.toList res s s') (app (tmpsL 0 args) s)) : Spec P f args s res s' := by
 intro F ρ w vs ho hsz hA; exact calls_of_wp hf hb (body_wp hn hs h ho hsz hA)
end
end Go.Flat
end
section
set_option linter.unusedVariables false
set_option linter.unusedSimpArgs false
namespace Go.Flat
structure Foot where
 ts : List Nat
 os : List Nat
 vs : List Nat
 cs : List (Nat × Nat)
abbrev Foot.mk2 (ts os : List Nat) : Foot := ⟨ts, os, [], []⟩
def memP (id j : Nat) : List (Nat × Nat) → Bool
 | [] => false
 | (a, b) :: r => if id = a then (if j = b then true else memP id j r) else memP id j r
theorem memP_iff (id j : Nat) : ∀ l, memP id j l = true ↔ (id, j) ∈ l
 | [] => by simp [memP]
 | (a, b) :: r => by
   simp only [memP, List.mem_cons, Prod.mk.injEq]; split
   · rename_i h
     split
     · rename_i h2; simp [h, h2]
     · rename_i h2; rw [memP_iff id j r]; simp [h2]
   · rename_i h; rw [memP_iff id j r]; simp [h]
def Foot.hasL (f : Foot) : Loc → Bool
 | .tmp k => memN k f.ts
 | .cell id j => memP id j f.cs || memN id f.os
 | .var id => memN id f.vs || memN id f.os
 | .arr id => memN id f.os
def noneOf (a : List Nat) : List Nat → Bool
 | [] => true
 | k :: r => !memN k a && noneOf a r
def noneP (a : List (Nat × Nat)) : List (Nat × Nat) → Bool
 | [] => true
 | (i, j) :: r => !memP i j a && noneP a r
def fsts : List (Nat × Nat) → List Nat
 | [] => []
 | (i, _) :: r => i :: fsts r
theorem fsts_mem : ∀ {l : List (Nat × Nat)} {i j : Nat}, (i, j) ∈ l → i ∈ fsts l
 | [], i, j, h => by simp at h
 | (a, b) :: r, i, j, h => by
   simp only [fsts]; rcases List.mem_cons.1 h with h | h
   · simp only [Prod.mk.injEq] at h; simp [h.1]
   · simp [fsts_mem h]
def Foot.disj (f g : Foot) : Bool := noneOf f.ts g.ts && (noneOf f.os g.os && (noneOf f.os g.vs && (noneOf f.vs g.os && (noneOf f.vs g.vs && (noneOf f.os (fsts g.cs) && (noneOf (fsts f.cs) g.os && noneP f.cs g.cs))))))
theorem noneOf_spec {a : List Nat} : ∀ {b : List Nat}, noneOf a b = true → ∀ k ∈ b, memN k a = false
 | [], _, k, h => by simp at h
 | j :: r, h, k, hk => by
   simp only [noneOf, Bool.and_eq_true, Bool.not_eq_true'] at h; rcases List.mem_cons.1 hk with rfl | hk
   · exact h.1
   · exact noneOf_spec h.2 k hk
theorem noneP_spec {a : List (Nat × Nat)} : ∀ {b : List (Nat × Nat)}, noneP a b = true → ∀ i j, (i, j) ∈ b → memP i j a = false
 | [], _, i, j, h => by simp at h
 | (x, y) :: r, h, i, j, hk => by
   simp only [noneP, Bool.and_eq_true, Bool.not_eq_true'] at h; rcases List.mem_cons.1 hk with e | hk
   · simp only [Prod.mk.injEq] at e; rw [e.1, e.2]; exact h.1
   · exact noneP_spec h.2 i j hk
theorem noneF {l : List (Nat × Nat)} {i j : Nat} (h : memN i (fsts l) = false) : memP i j l = false := by
 cases hq : memP i j l with
 | false => rfl
 | true =>
   have := (memN_iff _ _).2 (fsts_mem ((memP_iff _ _ _).1 hq)); rw [h] at this; simp at this
theorem Foot.disj_spec {f g : Foot} (h : f.disj g = true) {l : Loc} (hg : g.hasL l = true) : f.hasL l = false := by
 simp only [Foot.disj, Bool.and_eq_true] at h; obtain ⟨h1, h2, h3, h4, h5, h6, h7, h8⟩ := h
 cases l with
 | tmp k =>
   simp only [Foot.hasL, memN_iff] at hg ⊢; exact noneOf_spec h1 _ hg
 | arr id =>
   simp only [Foot.hasL, memN_iff] at hg ⊢; exact noneOf_spec h2 _ hg
 | var id =>
   simp only [Foot.hasL, Bool.or_eq_true, memN_iff] at hg; simp only [Foot.hasL, Bool.or_eq_false_iff]; rcases hg with hg | hg
   · exact ⟨noneOf_spec h5 _ hg, noneOf_spec h3 _ hg⟩
   · exact ⟨noneOf_spec h4 _ hg, noneOf_spec h2 _ hg⟩
 | cell id j =>
   simp only [Foot.hasL, Bool.or_eq_true, memN_iff, memP_iff] at hg; simp only [Foot.hasL, Bool.or_eq_false_iff]; rcases hg with hg | hg
   · exact ⟨noneP_spec h8 _ _ hg, noneOf_spec h6 _ (fsts_mem hg)⟩
   · exact ⟨noneF (noneOf_spec h7 _ hg), noneOf_spec h2 _ hg⟩
def overF (f : Foot) (s t : Sto) : Sto := fun l => if f.hasL l = true then s l else t l
section
variable {P : Program} {F : Nat → Nat → Prop} {G : Start} {ops : Array Oper}
def WO (P : Program) (ops : Array Oper) (o : Oper) (K : Act → World → Prop) (Q : Exit → Act → World → Prop) (a : Act) (w : World) : Prop :=
 if Region.wanted o (yielded ops a.tmps) then o.wp P a w K Q ∨ (o.asks P a w ∧ LetsOut Q) else K (a.put o.dst undef) w
structure OpOK (P : Program) (F : Nat → Nat → Prop) (G : Start) (ops : Array Oper) (o : Oper) (R W : Foot) (s s' : Sto) : Prop where
 out : ∀ l, W.hasL l = false → s' l = s l
 goes : ∀ t, (∀ l, R.hasL l = true → t l = s l) → ∀ ρ a w, Rel F G ρ t a w → ∀ (K : Act → World → Prop) (Q : Exit → Act → World → Prop), (∀ ρ' a' w', Rel F G ρ' (overF W s' t) a' w' → K a' w') → WO P ops o K Q a w
inductive DTr (P : Program) (F : Nat → Nat → Prop) (G : Start) (ops : Array Oper) : List Oper → Sto → List (Foot × Foot) → List Sto → Sto → Prop
 | nil {s : Sto} : DTr P F G ops [] s [] [] s
 | cons {o : Oper} {os : List Oper} {s s1 s' : Sto} {R W : Foot} {E : List (Foot × Foot)} {Ss : List Sto} (h : OpOK P F G ops o R W s s1) (ht : DTr P F G ops os s1 E Ss s') : DTr P F G ops (o :: os) s ((R, W) :: E) (s1 :: Ss) s'
def mix (sel : Nat → Bool) : Nat → List (Foot × Foot) → List Sto → Sto → Sto
 | i, (_, W) :: E, s1 :: Ss, t => mix sel (i + 1) E Ss (if sel i = true then overF W s1 t else t)
 | _, _, _, t => t
theorem mix_congr {sel sel' : Nat → Bool} (l : Loc) : ∀ (E : List (Foot × Foot)) (Ss : List Sto) (i : Nat) (t t' : Sto), (∀ k p, E[k]? = some p → sel (i + k) ≠ sel' (i + k) → p.2.hasL l = false) → t l = t' l → mix sel i E Ss t l = mix sel' i E Ss t' l
 | [], Ss, i, t, t', _, h => by simp [mix]; exact h
 | (R, W) :: E, [], i, t, t', _, h => by simp [mix]; exact h
 | (R, W) :: E, s1 :: Ss, i, t, t', hd, h => by
   simp only [mix]; refine mix_congr l E Ss (i + 1) _ _ (fun k p hk hne => hd (k + 1) p (by simpa using hk) (by rw [show i + (k + 1) = i + 1 + k by omega]; exact hne)) ?_
   by_cases he : sel i = sel' i
   · rw [he]
     cases sel' i
     · simpa using h
     · simp only [if_true, overF]
       split
       · rfl
       · exact h
   · have hw := hd 0 (R, W) (by simp) (by simpa using he)
     simp only at hw
     have e1 : (if sel i = true then overF W s1 t else t) l = t l := by
       split
       · simp [overF, hw]
       · rfl
     have e2 : (if sel' i = true then overF W s1 t' else t') l = t' l := by
       split
       · simp [overF, hw]
       · rfl
     rw [e1, e2, h]
def stOf (s : Sto) : List Sto → Nat → Sto
 | _, 0 => s
 | [], _ + 1 => s
 | s1 :: Ss, i + 1 => stOf s1 Ss i
theorem mix_none {sel : Nat → Bool} : ∀ (E : List (Foot × Foot)) (Ss : List Sto) (i : Nat) (t : Sto), (∀ k, i ≤ k → sel k = false) → mix sel i E Ss t = t
 | [], Ss, i, t, _ => by simp [mix]
 | _ :: E, [], i, t, _ => by simp [mix]
 | (R, W) :: E, s1 :: Ss, i, t, h => by
   simp only [mix]; rw [h i (Nat.le_refl _)]; simp only [Bool.false_eq_true, if_false]; exact mix_none E Ss (i + 1) t (fun k hk => h k (by omega))
theorem DTr.pfx {todo : List Oper} {s s' : Sto} {E : List (Foot × Foot)} {Ss : List Sto} (h : DTr P F G ops todo s E Ss s') : ∀ (i j : Nat), j ≤ E.length → mix (fun k => decide (k < i + j)) i E Ss s = stOf s Ss j := by
 induction h with
 | nil => intro i j hj; simp at hj; subst hj; simp [mix, stOf]
 | @cons o os s s1 s' R W E Ss hO ht ih =>
   intro i j hj
   cases j with
   | zero =>
     simp only [stOf]; refine mix_none _ _ _ _ fun k hk => ?_
     simp; omega
   | succ j =>
     simp only [mix, stOf]; rw [if_pos (by simp)]
     have hov : overF W s1 s = s1 := by
       funext l; unfold overF; split
       · rfl
       · rename_i hw; exact (hO.out l (by simpa using hw)).symm
     rw [hov]; have := ih (i + 1) j (by simpa using hj)
     rw [show i + 1 + j = i + (j + 1) by omega] at this
     exact this
theorem DTr.at_ {todo : List Oper} {s s' : Sto} {E : List (Foot × Foot)} {Ss : List Sto} (h : DTr P F G ops todo s E Ss s') : E.length = todo.length ∧ stOf s Ss E.length = s' ∧ ∀ (j : Nat) (o : Oper), todo[j]? = some o → ∃ R W, E[j]? = some (R, W) ∧ OpOK P F G ops o R W (stOf s Ss j) (stOf s Ss (j + 1)) := by
 induction h with
 | nil => exact ⟨rfl, rfl, by simp⟩
 | @cons o os s s1 s' R W E Ss hO ht ih =>
   obtain ⟨h1, h2, h3⟩ := ih; refine ⟨by simp [h1], by simpa [stOf] using h2, fun j o' hj => ?_⟩
   cases j with
   | zero => simp at hj; subst hj; exact ⟨R, W, by simp, by simpa [stOf] using hO⟩
   | succ j => simp at hj; obtain ⟨R', W', e1, e2⟩ := h3 j o' hj; exact ⟨R', W', by simpa using e1, by simpa [stOf] using e2⟩
def maskOf (acc : List Nat) (es : List Edge) : Nat := es.foldl (fun s e => if Region.binds .any e then s ||| 2 ^ e.on ||| acc.getD e.on 0 else s) 0
def masks : List Oper → List Nat → List Nat
 | [], acc => acc
 | o :: r, acc => masks r (acc ++ [maskOf acc o.after.toList])
theorem maskOf_spec {L : Nat → Prop} {acc : List Nat} (hacc : ∀ k m, acc[k]? = some m → L k → ∀ i, m.testBit i = true → L i) (es : List Edge) (he : ∀ e ∈ es, Region.binds .any e = true → L e.on) : ∀ i, (maskOf acc es).testBit i = true → L i := by
 have key : ∀ (es : List Edge) (s : Nat), (∀ e ∈ es, Region.binds .any e = true → L e.on) → (∀ i, s.testBit i = true → L i) → ∀ i, (es.foldl (fun s e => if Region.binds .any e then s ||| 2 ^ e.on ||| acc.getD e.on 0 else s) s).testBit i = true → L i := by
   intro es
   induction es with
   | nil => intro s _ hs i hi; exact hs i hi
   | cons e es ih =>
     intro s he hs i hi; simp only [List.foldl_cons] at hi; refine ih _ (fun e' h' => he e' (by simp [h'])) ?_ i hi
     intro q hq; split at hq
     · rename_i hb
       have hL := he e (by simp) hb
       simp only [Nat.testBit_or, Bool.or_eq_true, Nat.testBit_two_pow, decide_eq_true_eq] at hq; rcases hq with (hq | hq) | hq
       · exact hs q hq
       · exact hq ▸ hL
       · cases hm : acc[e.on]? with
         | none => simp [List.getD, hm] at hq
         | some m =>
           simp only [List.getD, hm, Option.getD_some] at hq; exact hacc e.on m hm hL q hq
     · exact hs q hq
 exact key es 0 he (by simp)
theorem masks_spec {L : Nat → Prop} : ∀ (os : List Oper) (acc : List Nat), (∀ k m, acc[k]? = some m → L k → ∀ i, m.testBit i = true → L i) → (∀ k o, os[k]? = some o → L (acc.length + k) → ∀ e ∈ o.after.toList, Region.binds .any e = true → L e.on) →
   ∀ k m, (masks os acc)[k]? = some m → L k → ∀ i, m.testBit i = true → L i
 | [], acc, hacc, _ => hacc
 | o :: r, acc, hacc, hc => by
   intro k m hk; refine masks_spec r (acc ++ [maskOf acc o.after.toList]) ?_ ?_ k m hk
   · intro q m' hq hL i hi
     by_cases hlt : q < acc.length
     · rw [List.getElem?_append_left hlt] at hq
       exact hacc q m' hq hL i hi
     · rw [List.getElem?_append_right (by omega)] at hq
       cases hz : q - acc.length with
       | zero =>
         rw [hz] at hq; simp at hq; subst hq; have : q = acc.length := by omega
         subst this; exact maskOf_spec hacc _ (hc 0 o (by simp) (by simpa using hL)) i hi
       | succ z => rw [hz] at hq; simp at hq
   · intro q o' hq hL
     exact hc (q + 1) o' (by simpa using hq) (by simpa [Nat.add_assoc, Nat.add_comm 1 q] using hL)
def pairB (m : Nat) (R W : Foot) : Nat → List (Foot × Foot) → Bool
 | _, [] => true
 | i, (R', W') :: r => (m.testBit i || (W'.disj R && (W'.disj W && W.disj R'))) && pairB m R W (i + 1) r
def indepB : List Nat → List (Foot × Foot) → List (Foot × Foot) → Bool
 | _, _, [] => true
 | [], _, _ :: _ => false
 | m :: ms, done, (R, W) :: r => pairB m R W 0 done && indepB ms (done ++ [(R, W)]) r
theorem pairB_spec {m : Nat} {R W : Foot} : ∀ {E : List (Foot × Foot)} {i : Nat}, pairB m R W i E = true → ∀ k R' W', E[k]? = some (R', W') → m.testBit (i + k) = true ∨ (W'.disj R = true ∧ W'.disj W = true ∧ W.disj R' = true)
 | [], i, _, k, R', W', h => by simp at h
 | (R1, W1) :: E, i, h, k, R', W', hk => by
   simp only [pairB, Bool.and_eq_true, Bool.or_eq_true] at h
   cases k with
   | zero => simp at hk; obtain ⟨rfl, rfl⟩ := hk; simpa using h.1
   | succ k =>
     simp at hk; have := pairB_spec h.2 k R' W' hk
     rwa [show i + 1 + k = i + (k + 1) by omega] at this
theorem indepB_spec : ∀ {E done : List (Foot × Foot)} {ms : List Nat}, indepB ms done E = true → ∀ j R W, E[j]? = some (R, W) → ∃ m, ms[j]? = some m ∧ ∀ k R' W', (done ++ E)[k]? = some (R', W') → k < done.length + j → m.testBit k = true ∨ (W'.disj R = true ∧ W'.disj W = true ∧ W.disj R' = true)
 | [], done, ms, _, j, R, W, h => by simp at h
 | (R1, W1) :: E, done, [], h, j, R, W, hj => by simp [indepB] at h
 | (R1, W1) :: E, done, m :: ms, h, j, R, W, hj => by
   simp only [indepB, Bool.and_eq_true] at h
   cases j with
   | zero =>
     simp at hj; obtain ⟨rfl, rfl⟩ := hj; refine ⟨m, by simp, fun k R' W' hk hlt => ?_⟩
     rw [List.getElem?_append_left (by omega)] at hk
     have := pairB_spec h.1 k R' W' hk
     simpa using this
   | succ j =>
     simp at hj; obtain ⟨m', h1, h2⟩ := indepB_spec h.2 j R W hj; refine ⟨m', by simpa using h1, fun k R' W' hk hlt => ?_⟩
     refine h2 k R' W' ?_ (by simp; omega)
     rw [List.append_assoc]; exact hk
theorem filter_lt {α : Type} {p q : α → Bool} {x : α} : ∀ {l : List α}, x ∈ l → q x = true → p x = false → (∀ y, p y = true → q y = true) → (l.filter p).length < (l.filter q).length
 | [], h, _, _, _ => by simp at h
 | y :: r, h, hq, hp, himp => by
   have hle : ∀ r : List α, (r.filter p).length ≤ (r.filter q).length := by
     intro r
     induction r with
     | nil => simp
     | cons z r ih =>
       simp only [List.filter_cons]; cases hz : p z
       · cases hz' : q z <;> simp <;> omega
       · simp [himp z hz]; omega
   simp only [List.filter_cons]; rcases List.mem_cons.1 h with rfl | h
   · have := hle r
     simp [hp, hq]; omega
   · have := filter_lt h hq hp himp
     cases hz : p y
     · cases hz' : q y <;> simp <;> omega
     · simp [himp y hz]; omega
theorem draw_any {s s' : Sto} {E : List (Foot × Foot)} {Ss : List Sto} (hT : DTr P F G ops ops.toList s E Ss s') (hI : indepB (masks ops.toList []) [] E = true) {Q : Exit → Act → World → Prop} (hQ : ∀ ρ a w, Rel F G ρ s' a w → Q .normal a w)
   (hall : ∀ listed : Array Bool, listed.size = ops.size → Region.ready .any ops listed = [] → (∀ j o, ops[j]? = some o → listed.getD j true = false → False)) :
   ∀ (fuel : Nat) (listed : Array Bool) (ρ : Ren) (a : Act) (w : World), listed.size = ops.size → (∀ i o, ops[i]? = some o → listed.getD i false = true → ∀ e ∈ o.after, Region.binds .any e = true → listed.getD e.on false = true) →
     ((List.range ops.size).filter fun i => !listed.getD i true).length ≤ fuel → Rel F G ρ (mix (fun i => listed.getD i false) 0 E Ss s) a w → wpAny P .any ops Q fuel listed a w := by
 obtain ⟨hlen, hlast, hat⟩ := hT.at_; have hlen' : E.length = ops.size := by rw [hlen]; simp
 have hfin : ∀ (listed : Array Bool) (ρ : Ren) (a : Act) (w : World), listed.size = ops.size → Region.ready .any ops listed = [] → Rel F G ρ (mix (fun i => listed.getD i false) 0 E Ss s) a w → Q .normal a w := by
   intro listed ρ a w hsz hr hrel; refine hQ ρ a w ?_
   have hst : mix (fun i => listed.getD i false) 0 E Ss s = s' := by
     rw [← hlast, ← hT.pfx 0 E.length (Nat.le_refl _)]; funext l; refine mix_congr l E Ss 0 s s (fun k p hk hne => ?_) rfl
     exfalso
     have hk' : k < ops.size := by rw [← hlen']; exact (List.getElem?_eq_some_iff.1 hk).1
     have hkl : k < listed.size := by omega
     apply hne; simp only [Nat.zero_add]; have h1 : decide (k < E.length) = true := by simp; omega
     rw [h1]
     cases hb : listed[k] with
     | true => simp [hkl, hb]
     | false => exact (hall listed hsz hr k ops[k] (by simp [hk']) (by simp [hkl, hb])).elim
   rw [← hst]; exact hrel
 intro fuel
 induction fuel with
 | zero =>
   intro listed ρ a w hsz hcl hf hrel
   have hr : Region.ready .any ops listed = [] := by
     unfold Region.ready; rw [List.filter_eq_nil_iff]; intro i hi hc; simp only [Bool.and_eq_true] at hc
     have : i ∈ (List.range ops.size).filter fun i => !listed.getD i true := by
       rw [List.mem_filter]; exact ⟨hi, hc.1⟩
     have hnil : (List.range ops.size).filter (fun i => !listed.getD i true) = [] := List.eq_nil_of_length_eq_zero (by omega)
     rw [hnil] at this; simp at this
   exact ⟨hr, hfin listed ρ a w hsz hr hrel⟩
 | succ fuel ih =>
   intro listed ρ a w hsz hcl hf hrel; refine ⟨fun hr => hfin listed ρ a w hsz hr hrel, fun j hj => ?_⟩
   rw [mem_ready] at hj; obtain ⟨hnl, o, ho, hed⟩ := hj; have hjl : j < ops.size := (Array.getElem?_eq_some_iff.1 ho).1; have hjs : j < listed.size := by omega
   have hjf : listed.getD j false = false := by simp [hjs] at hnl ⊢; exact hnl
   obtain ⟨R, W, hE, hO⟩ := hat j o (by simpa using ho)
   have hclosed : ∀ k o', ops.toList[k]? = some o' → (listed.getD k false = true ∨ k = j) → ∀ e ∈ o'.after.toList, Region.binds .any e = true → listed.getD e.on false = true := by
     intro k o' hk hL e he hb; have hk' : ops[k]? = some o' := by simpa using hk
     rcases hL with h | rfl
     · exact hcl k o' hk' h e (by simpa using he) hb
     · rw [ho] at hk'
       simp only [Option.some.injEq] at hk'; subst hk'; exact hed e (by simpa using he) hb
   have hA : ∀ m, (masks ops.toList [])[j]? = some m → ∀ k, k < j → m.testBit k = true → listed.getD k false = true := by
     intro m hm k hk hb; have := masks_spec (L := fun q => listed.getD q false = true ∨ q = j) ops.toList [] (by simp) (fun k o' hk hL e he hb => .inl (hclosed k o' hk (by simpa using hL) e he hb)) j m hm (.inr rfl) k hb
     rcases this with h | h
     · exact h
     · omega
   have hB : ∀ q m, listed.getD q false = true → (masks ops.toList [])[q]? = some m → ∀ i, m.testBit i = true → listed.getD i false = true := by
     intro q m hq hm i hi; exact masks_spec (L := fun q => listed.getD q false = true) ops.toList [] (by simp) (fun k o' hk hL e he hb => hclosed k o' hk (.inl (by simpa using hL)) e he hb) q m hm hq i hi
   have hC1 : ∀ k R' W', k < j → E[k]? = some (R', W') → listed.getD k false = false → W'.disj R = true ∧ W'.disj W = true := by
     intro k R' W' hk hE' hf; obtain ⟨m, h1, h2⟩ := indepB_spec hI j R W hE; rcases h2 k R' W' (by simpa using hE') (by simpa using hk) with h | ⟨h3, h4, _⟩
     · rw [hA m h1 k hk h] at hf; simp at hf
     · exact ⟨h3, h4⟩
   have hC2 : ∀ k R' W', j < k → E[k]? = some (R', W') → listed.getD k false = true → W'.disj R = true ∧ W.disj W' = true := by
     intro k R' W' hk hE' hf; obtain ⟨m, h1, h2⟩ := indepB_spec hI k R' W' hE'; rcases h2 j R W (by simpa using hE) (by simpa using hk) with h | ⟨h3, h4, h5⟩
     · rw [hB k m hf h1 j h] at hjf; simp at hjf
     · exact ⟨h5, h4⟩
   have hag : ∀ l, R.hasL l = true → mix (fun i => listed.getD i false) 0 E Ss s l = stOf s Ss j l := by
     intro l hl; rw [← hT.pfx 0 j (by rw [hlen']; omega)]
     refine mix_congr l E Ss 0 s s (fun k p hk hne => ?_) rfl
     obtain ⟨R', W'⟩ := p; simp only [Nat.zero_add] at hne; rcases Nat.lt_trichotomy k j with h | h | h
     · have : listed.getD k false = false := by
         have h1 : decide (k < j) = true := by simpa using h
         rw [h1] at hne
         simpa using hne
       exact Foot.disj_spec (hC1 k R' W' h hk this).1 hl
     · subst h
       have h1 : decide (k < k) = false := by simp
       rw [h1, hjf] at hne; exact absurd rfl hne
     · have h1 : decide (k < j) = false := by simp; omega
       rw [h1] at hne; exact Foot.disj_spec (hC2 k R' W' h hk (by simpa using hne)).1 hl
   have hset : ∀ k, (listed.setIfInBounds j true).getD k false = if k = j then true else listed.getD k false := by
     intro k
     by_cases hkj : k = j
     · subst hkj; simp [hjs]
     · rw [if_neg hkj]; exact getD_set_ne false (Ne.symm hkj)
   have hnext : overF W (stOf s Ss (j + 1)) (mix (fun i => listed.getD i false) 0 E Ss s) = mix (fun i => (listed.setIfInBounds j true).getD i false) 0 E Ss s := by
     funext l; unfold overF; split
     · rename_i hw
       rw [← hT.pfx 0 (j + 1) (by rw [hlen']; omega)]
       refine mix_congr l E Ss 0 s s (fun k p hk hne => ?_) rfl
       obtain ⟨R', W'⟩ := p; simp only [Nat.zero_add, hset] at hne; rcases Nat.lt_trichotomy k j with h | h | h
       · have h1 : decide (k < j + 1) = true := by simp; omega
         rw [h1, if_neg (by omega)] at hne
         exact Foot.disj_spec (hC1 k R' W' h hk (by simpa using Ne.symm hne)).2 hw
       · subst h
         have h1 : decide (k < k + 1) = true := by simp
         rw [h1, if_pos rfl] at hne; exact absurd rfl hne
       · have h1 : decide (k < j + 1) = false := by simp; omega
         rw [h1, if_neg (by omega)] at hne
         have hd := (hC2 k R' W' h hk (by simpa using Ne.symm hne)).2
         cases hw' : W'.hasL l with
         | false => rfl
         | true => rw [Foot.disj_spec hd hw'] at hw; simp at hw
     · rename_i hw
       refine mix_congr l E Ss 0 s s (fun k p hk hne => ?_) rfl
       simp only [Nat.zero_add, hset] at hne
       by_cases hkj : k = j
       · subst hkj
         rw [hE] at hk; simp only [Option.some.injEq] at hk; subst hk
         simpa using hw
       · rw [if_neg hkj] at hne
         exact absurd rfl hne
   have hwo := hO.goes _ hag ρ a w hrel (wpAny P .any ops Q fuel (listed.setIfInBounds j true)) Q (fun ρ' a' w' hr' => by
     rw [hnext] at hr'; refine ih _ ρ' a' w' (by simp [hsz]) ?_ ?_ hr'
     · intro i o' hi hl e he hb
       rw [hset] at hl ⊢; split
       · rfl
       · refine hclosed i o' (by simpa using hi) ?_ e (by simpa using he) hb
         by_cases hij : i = j
         · exact .inr hij
         · rw [if_neg hij] at hl; exact .inl hl
     · have hlt : ((List.range ops.size).filter fun i => !(listed.setIfInBounds j true).getD i true).length < ((List.range ops.size).filter fun i => !listed.getD i true).length := by
         refine filter_lt (x := j) (by simpa using hjl) (by simp at hnl ⊢; exact hnl) (by simp [hjs]) fun i hi => ?_
         by_cases hij : i = j
         · subst hij; simp [hjs] at hi
         · rw [getD_set_ne true (Ne.symm hij)] at hi; exact hi
       omega)
   unfold wpOp; rw [ho]; exact hwo
def ordB : Nat → List Oper → Bool
 | _, [] => true
 | i, o :: r => (o.after.toList.all fun e => !Region.binds .any e || decide (e.on < i)) && ordB (i + 1) r
theorem ordB_spec : ∀ {os : List Oper} {i : Nat}, ordB i os = true → ∀ k o, os[k]? = some o → ∀ e ∈ o.after, Region.binds .any e = true → e.on < i + k
 | [], i, _, k, o, h => by simp at h
 | o1 :: os, i, h, k, o, hk => by
   simp only [ordB, Bool.and_eq_true, List.all_eq_true, Array.mem_toList_iff, Bool.or_eq_true, Bool.not_eq_true', decide_eq_true_eq] at h
   cases k with
   | zero =>
     simp at hk; subst hk; intro e he hb; rcases h.1 e he with h' | h'
     · rw [hb] at h'; simp at h'
     · exact h'
   | succ k =>
     simp at hk; intro e he hb; have := ordB_spec h.2 k o hk e he hb; omega
theorem repl_false (n k : Nat) : (Array.replicate n false).getD k false = false := by
 by_cases h : k < n <;> simp [h]
theorem awp_draw {id : Nat} {l l' : List (Loc × C)} {Q : Post} {E : List (Foot × Foot)} {Ss : List Sto} (hm : P.follows .mixedOrders = true) (hord : ordB 0 ops.toList = true) (hT : DTr P F G ops ops.toList (lk l) E Ss (lk l'))
   (hI : indepB (masks ops.toList []) [] E = true) (hQ : Q .normal l') : AWP P F G (.region id ops true) Q l := by
 intro ρ a w hr; refine wp_region_any hm ?_; refine draw_any hT hI (fun ρ a w h => ⟨l', ρ, hQ, h⟩) ?_ ops.size _ ρ a _ (by simp) ?_ ?_ ?_
 · intro listed hsz hrd
   intro j
   induction j using Nat.strongRecOn with
   | _ j ih =>
     intro o ho hf
     have hmem : j ∈ Region.ready .any ops listed := by
       rw [mem_ready]; refine ⟨hf, o, ho, fun e he hb => ?_⟩
       have hlt := ordB_spec hord j o (by simpa using ho) e he hb
       have hjl : j < ops.size := (Array.getElem?_eq_some_iff.1 ho).1; have hel : e.on < ops.size := by omega
       have hes : e.on < listed.size := by omega
       cases hq : listed[e.on] with
       | true => simp [hes, hq]
       | false => exact (ih e.on (by omega) ops[e.on] (by simp [hel]) (by simp [hes, hq])).elim
     rw [hrd] at hmem; simp at hmem
 · intro i o hi hl
   exfalso
   rw [repl_false] at hl; simp at hl
 · have := List.length_filter_le (fun i => !(Array.replicate ops.size false).getD i true) (List.range ops.size)
   simpa using this
 · rw [mix_none]
   · exact hr.drew
   · intro k _
     exact repl_false _ _
end
end Go.Flat
end
section
set_option linter.unusedVariables false
set_option linter.unusedSimpArgs false
namespace Go.Flat
def opOps : Op → List Operand
 | .move x => [x]
 | .assign x => [x]
 | .pick c a b => [c, a, b]
 | .alloc _ => []
 | .box _ x => [x]
 | .build _ ps => ps.toList.map (·.2)
 | .buildSlice _ _ ps => ps.toList.map (·.2)
 | .load _ x => [x]
 | .store _ x y => [x, y]
 | .nilCheck x => [x]
 | .binOp _ _ x y _ => [x, y]
 | .unOp _ _ x => [x]
 | .convert _ _ x => [x]
 | .makeFunc _ _ cap => cap.toList
 | .makeSlice _ l c => [l, c]
 | .slice _ x lo hi mx => x :: (lo.toList ++ (hi.toList ++ mx.toList))
 | .fieldAddr _ x _ => [x]
 | .field _ x _ => [x]
 | .indexAddr _ x ix => [x, ix]
 | .extract x _ => [x]
 | .call { callee := .builtin _, args, .. } => args.toList
 | _ => []
def opTs : List Operand → List Nat
 | [] => []
 | .tmp k :: r => k :: opTs r
 | _ :: r => opTs r
def idsA : AV → List Nat
 | .ptr id _ => [id]
 | .sl id _ _ _ => [id]
 | .eptr id _ _ _ => [id]
 | _ => []
def opIds (t : Sto) : List Operand → List Nat
 | [] => []
 | .tmp k :: r => match t (.tmp k) with
   | some (.av a) => idsA a ++ opIds t r
   | _ => opIds t r
 | _ :: r => opIds t r
def updIds : Upd → List Nat
 | [] => []
 | (l, _) :: r => match locId l with
   | some id => if memN id (updIds r) = true then updIds r else id :: updIds r
   | none => updIds r
def guardTs (ops : Array Oper) (o : Oper) : List Nat :=
 match o.guard with
 | none => []
 | some (j, _) => match (ops[j]?).bind (·.dst) with
   | some d => [d]
   | none => []
section
variable {T : Nat → Option TI} {t t2 : Sto} {nid : Nat}
theorem ev_local {x : Operand} (h : ∀ k, x = .tmp k → t2 (.tmp k) = t (.tmp k)) : ev t2 x = ev t x := by
 cases x <;> simp only [ev]
 rename_i k
 rw [h k rfl]
theorem evs_local : ∀ {xs : List Operand}, (∀ x ∈ xs, ev t2 x = ev t x) → evs t2 xs = evs t xs
 | [], _ => rfl
 | x :: r, h => by
   simp only [evs]; rw [h x (by simp), evs_local (fun y hy => h y (by simp [hy]))]
theorem fillC_local {i : TI} : ∀ {ps : List (Nat × Operand)} {cs : List AV}, (∀ p ∈ ps, ev t2 p.2 = ev t p.2) → fillC T i t2 cs ps = fillC T i t cs ps
 | [], _, _ => rfl
 | (k, x) :: r, cs, h => by
   simp only [fillC]; rw [h (k, x) (by simp)]
   cases place T i k <;> cases ev t x <;> simp only
   split
   · exact fillC_local (fun p hp => h p (by simp [hp]))
   · rfl
theorem fillR_local {sz : Nat} : ∀ {ps : List (Nat × Operand)} {rows : List (List PV)}, (∀ p ∈ ps, ev t2 p.2 = ev t p.2) → fillR t2 sz rows ps = fillR t sz rows ps
 | [], _, _ => rfl
 | (k, x) :: r, rows, h => by
   simp only [fillR]; rw [h (k, x) (by simp)]
   cases ev t x <;> simp only
   split
   · split
     · exact fillR_local (fun p hp => h p (by simp [hp]))
     · rfl
   · rfl
theorem getCells_local {id : Nat} (h : ∀ j, t2 (.cell id j) = t (.cell id j)) : ∀ (n off : Nat), getCells t2 id off n = getCells t id off n
 | 0, _ => rfl
 | n + 1, off => by
   simp only [getCells]; rw [h off, getCells_local h n (off + 1)]
def Same (os : List Nat) (t t2 : Sto) : Prop := ∀ id ∈ os, t2 (.var id) = t (.var id) ∧ t2 (.arr id) = t (.arr id) ∧ ∀ j, t2 (.cell id j) = t (.cell id j)
theorem loadF_local {i : TI} {a : AV} (h : Same (idsA a) t t2) : loadF t2 i a = loadF t i a := by
 cases a with
 | ptr id off =>
   obtain ⟨h1, h2, h3⟩ := h id (by simp [idsA])
   simp only [loadF]; rw [getCells_local h3, h3]
 | eptr id L k off =>
   obtain ⟨h1, h2, h3⟩ := h id (by simp [idsA])
   simp only [loadF]; rw [h2]
 | p x => cases x <;> rfl
 | _ => rfl
theorem storeF_local {i : TI} {x a : AV} (h : Same (idsA a) t t2) : storeF t2 i x a = storeF t i x a := by
 cases a with
 | ptr id off =>
   obtain ⟨h1, h2, h3⟩ := h id (by simp [idsA])
   simp only [storeF]; rw [h1]
 | eptr id L k off =>
   obtain ⟨h1, h2, h3⟩ := h id (by simp [idsA])
   simp only [storeF]; rw [h2]
 | _ => rfl
theorem rowsF_local {a : AV} (h : Same (idsA a) t t2) : rowsF t2 a = rowsF t a := by
 cases a with
 | sl id L off len =>
   obtain ⟨h1, h2, h3⟩ := h id (by simp [idsA])
   simp only [rowsF]; rw [h2]
 | p x => cases x <;> rfl
 | _ => rfl
theorem idxF_local {i : TI} {k : Int} {a : AV} (h : Same (idsA a) t t2) : idxF T t2 i k a = idxF T t i k a := by
 cases a with
 | sl id L off len =>
   obtain ⟨h1, h2, h3⟩ := h id (by simp [idsA])
   simp only [idxF]; rw [h2]
 | p x => cases x <;> rfl
 | _ => rfl
theorem sliceF_local {i : TI} {lo hi mx : Option AV} {a : AV} (h : Same (idsA a) t t2) : sliceF T t2 i lo hi mx a = sliceF T t i lo hi mx a := by
 cases a with
 | sl id L off len =>
   obtain ⟨h1, h2, h3⟩ := h id (by simp [idsA])
   simp only [sliceF]; rw [h2]
 | p x =>
   cases x with
   | v x => cases x <;> rfl
   | _ => rfl
 | _ => rfl
theorem fresh_local (h : Same [nid] t t2) : fresh t2 nid = fresh t nid := by
 obtain ⟨h1, h2, h3⟩ := h nid (by simp)
 unfold fresh; rw [h1, h2]
theorem appendF_local {e : Nat} {i : TI} {s : AV} {ys : List (List PV)} (h : Same (idsA s ++ [nid]) t t2) : appendF t2 nid e i s ys = appendF t nid e i s ys := by
 have hf := fresh_local (t := t) (t2 := t2) (nid := nid) (fun id hid => h id (by simp at hid; simp [hid]))
 cases s with
 | sl id L off len =>
   obtain ⟨h1, h2, h3⟩ := h id (by simp [idsA])
   simp only [appendF]; rw [h2]
 | psf xs => cases xs <;> simp only [appendF, hf]
 | _ => rfl
theorem builtinF_local {b : Builtin} {tys : List Nat} {args : List AV} (h : ∀ a ∈ args, Same (idsA a ++ [nid]) t t2) : builtinF T t2 nid b tys args = builtinF T t nid b tys args := by
 unfold builtinF; split
 · rfl
 · rfl
 · rfl
 · rfl
 · rename_i s x
   have h1 : rowsF t2 x = rowsF t x := rowsF_local fun id hid => h x (by simp) id (by simp [hid])
   have h2 : fresh t2 nid = fresh t nid := fresh_local (t := t) (t2 := t2) (nid := nid) fun id hid => h s (by simp) id (by simp at hid; simp [hid])
   rw [h1, h2]; split <;> try rfl
   split <;> try rfl
   split <;> try rfl
   split <;> try rfl
   exact appendF_local (h s (by simp))
 · rename_i d x
   have h1 : rowsF t2 x = rowsF t x := rowsF_local fun id hid => h x (by simp) id (by simp [hid])
   rw [h1]; split <;> try rfl
   split <;> try rfl
   split <;> try rfl
   rename_i id L off len hk
   obtain ⟨g1, g2, g3⟩ := h (.sl id L off len) (by simp) id (by simp [idsA])
   rw [g2]
 · rename_i d
   split <;> try rfl
   split <;> try rfl
   split <;> try rfl
   rename_i id L off len hk
   obtain ⟨g1, g2, g3⟩ := h (.sl id L off len) (by simp) id (by simp [idsA])
   rw [g2]
 · rfl
theorem idsA_opIds {a : AV} : ∀ {xs : List Operand} {x : Operand}, x ∈ xs → ev t x = some a → ∀ id ∈ idsA a, id ∈ opIds t xs
 | [], x, h, _, id, _ => by simp at h
 | y :: r, x, hm, he, id, hid => by
   rcases List.mem_cons.1 hm with rfl | hm
   · cases x with
     | tmp k =>
       simp only [ev] at he; simp only [opIds]; split at he
       · rename_i b hb
         simp only [Option.some.injEq] at he; subst he; rw [hb]; simp [hid]
       · simp at he
     | const v =>
       exfalso
       simp only [ev] at he; unfold constAV at he; split at he
       · cases hq : scalarCs ‹Array Value›.toList with
         | none => simp [hq] at he
         | some ys => simp [hq] at he; subst he; simp [idsA] at hid
       · unfold scalarC at he
         split at he <;> first | (simp at he; done) | (simp only [Option.some.injEq] at he; subst he; simp [idsA] at hid)
     | global g => simp [ev] at he
     | func f => simp only [ev, Option.some.injEq] at he; subst he; simp [idsA] at hid
   · have := idsA_opIds hm he id hid
     cases y <;> simp only [opIds]
     · split
       · simp [this]
       · exact this
     · exact this
     · exact this
     · exact this
theorem tmp_opTs : ∀ {xs : List Operand} {k : Nat}, Operand.tmp k ∈ xs → k ∈ opTs xs
 | [], k, h => by simp at h
 | y :: r, k, hm => by
   rcases List.mem_cons.1 hm with h | hm
   · rw [← h]; simp [opTs]
   · have := tmp_opTs hm
     cases y <;> simp [opTs, this]
theorem optEv_local {x : Option Operand} (h : ∀ y, x = some y → ev t2 y = ev t y) : optEv t2 x = optEv t x := by
 cases x with
 | none => rfl
 | some y => simp only [optEv]; rw [h y rfl]
theorem evalOp_local {op : Op} (h1 : ∀ x ∈ opOps op, ev t2 x = ev t x) (h2 : ∀ x ∈ opOps op, ∀ a, ev t x = some a → Same (idsA a) t t2) (h3 : Same [nid] t t2) : evalOp T t2 nid op = evalOp T t nid op := by
 have hf := fresh_local h3
 cases op with
 | move x => simp only [evalOp]; rw [h1 x (by simp [opOps])]
 | assign x => simp only [evalOp]; rw [h1 x (by simp [opOps])]
 | pick c x y => simp only [evalOp]; rw [h1 c (by simp [opOps]), h1 x (by simp [opOps]), h1 y (by simp [opOps])]
 | alloc e => simp only [evalOp]; rw [hf]
 | box e x => simp only [evalOp]; rw [hf, h1 x (by simp [opOps])]
 | build ty ps =>
   simp only [evalOp]; split
   · rw [fillC_local (fun p hp => h1 p.2 (by simp only [opOps, List.mem_map]; exact ⟨p, hp, rfl⟩))]
   · rfl
 | buildSlice ty n ps =>
   simp only [evalOp]; split <;> try rfl
   split <;> try rfl
   split <;> try rfl
   split <;> try rfl
   rw [hf, fillR_local (fun p hp => h1 p.2 (by simp only [opOps, List.mem_map]; exact ⟨p, hp, rfl⟩))]
 | load ty x =>
   simp only [evalOp]; rw [h1 x (by simp [opOps])]
   cases he : ev t x with
   | none => cases T ty <;> rfl
   | some a =>
     cases T ty with
     | none => rfl
     | some i => show Option.map _ (loadF t2 i a) = Option.map _ (loadF t i a); rw [loadF_local (h2 x (by simp [opOps]) a he)]
 | store ty x y =>
   simp only [evalOp]; rw [h1 x (by simp [opOps]), h1 y (by simp [opOps])]
   cases he : ev t x with
   | none => cases T ty <;> rfl
   | some a =>
     cases T ty with
     | none => rfl
     | some i =>
       cases ev t y with
       | none => rfl
       | some b => show Option.map _ (storeF t2 i b a) = Option.map _ (storeF t i b a); rw [storeF_local (h2 x (by simp [opOps]) a he)]
 | nilCheck x => simp only [evalOp]; rw [h1 x (by simp [opOps])]
 | binOp op ty x y ty2 => simp only [evalOp]; rw [h1 x (by simp [opOps]), h1 y (by simp [opOps])]
 | unOp op ty x => simp only [evalOp]; rw [h1 x (by simp [opOps])]
 | convert s d x => simp only [evalOp]; rw [h1 x (by simp [opOps])]
 | makeFunc f fi cap => simp only [evalOp]; rw [evs_local (fun x hx => h1 x (by simpa [opOps] using hx))]
 | makeSlice ty l c => simp only [evalOp]; rw [h1 l (by simp [opOps]), h1 c (by simp [opOps]), hf]
 | slice ty x lo hi mx =>
   simp only [evalOp]; rw [h1 x (by simp [opOps]), optEv_local (x := lo) (fun y hy => h1 y (by simp [opOps, hy])), optEv_local (x := hi) (fun y hy => h1 y (by simp [opOps, hy])), optEv_local (x := mx) (fun y hy => h1 y (by simp [opOps, hy]))]
   cases he : ev t x with
   | none => cases T ty <;> rfl
   | some a =>
     cases T ty with
     | none => rfl
     | some i =>
       cases optEv t lo with
       | none => rfl
       | some lo =>
         cases optEv t hi with
         | none => rfl
         | some hi =>
           cases optEv t mx with
           | none => rfl
           | some mx => show Option.map _ (sliceF T t2 i lo hi mx a) = Option.map _ (sliceF T t i lo hi mx a); rw [sliceF_local (h2 x (by simp [opOps]) a he)]
 | fieldAddr ty x n => simp only [evalOp]; rw [h1 x (by simp [opOps])]
 | field ty x n => simp only [evalOp]; rw [h1 x (by simp [opOps])]
 | indexAddr ty x ix =>
   simp only [evalOp]; rw [h1 x (by simp [opOps]), h1 ix (by simp [opOps])]
   cases he : ev t x with
   | none => cases T ty <;> rfl
   | some a =>
     cases T ty with
     | none => rfl
     | some i =>
       cases ev t ix with
       | none => rfl
       | some b =>
         have := fun k => idxF_local (T := T) (i := i) (k := k) (h2 x (by simp [opOps]) a he)
         cases b with
         | p b =>
           cases b with
           | v b =>
             cases b with
             | int kk k => show Option.map _ (idxF T t2 i k a) = Option.map _ (idxF T t i k a); rw [this]
             | _ => rfl
           | _ => rfl
         | _ => rfl
 | extract x k => simp only [evalOp]; rw [h1 x (by simp [opOps])]
 | call c =>
   obtain ⟨callee, args, tys⟩ := c
   cases callee with
   | builtin b =>
     simp only [evalOp]; rw [evs_local (fun x hx => h1 x (by simpa [opOps] using hx))]
     cases he : evs t args.toList with
     | none => rfl
     | some l =>
       refine builtinF_local fun a ha id hid => ?_
       simp only [List.mem_append, List.mem_singleton] at hid; rcases hid with hid | rfl
       · have hmem : ∀ {xs : List Operand} {l : List AV}, evs t xs = some l → ∀ a ∈ l, ∃ x ∈ xs, ev t x = some a := by
           intro xs
           induction xs with
           | nil => intro l h a ha; simp [evs] at h; subst h; simp at ha
           | cons x xs ih =>
             intro l h a ha; simp only [evs] at h; split at h <;> try (simp at h; done)
             rename_i b hb
             cases hq : evs t xs with
             | none => simp [hq] at h
             | some ys =>
               simp only [hq, Option.map_some, Option.some.injEq] at h; subst h; rcases List.mem_cons.1 ha with rfl | ha
               · exact ⟨x, by simp, hb⟩
               · obtain ⟨y, hy1, hy2⟩ := ih hq a ha
                 exact ⟨y, by simp [hy1], hy2⟩
         obtain ⟨x, hx1, hx2⟩ := hmem he a ha; exact h2 x (by simpa [opOps] using hx1) a hx2 id hid
       · exact h3 id (by simp)
   | value f => simp [evalOp]
   | invoke r m => simp [evalOp]
 | _ => simp [evalOp]
end
section
variable {P : Program} {F : Nat → Nat → Prop} {G : Start} {ops : Array Oper} {l : List (Loc × C)}
def footR (ops : Array Oper) (t : Sto) (nid : Nat) (o : Oper) : Foot := .mk2 (guardTs ops o ++ opTs (opOps o.op)) (nid :: opIds t (opOps o.op))
def dstTs : Option Nat → List Nat
 | some d => [d]
 | none => []
def footW (o : Oper) (u : Upd) : Foot := .mk2 (dstTs o.dst) (updIds u)
theorem updIds_mem : ∀ {u : Upd} {p : Loc × Option C} {id : Nat}, p ∈ u → locId p.1 = some id → id ∈ updIds u
 | [], p, id, h, _ => by simp at h
 | (x, c) :: r, p, id, hm, hid => by
   simp only [updIds]; rcases List.mem_cons.1 hm with rfl | hm
   · simp only at hid
     rw [hid]; simp only; split
     · rename_i h; exact (memN_iff _ _).1 h
     · simp
   · have := updIds_mem hm hid
     split
     · split
       · exact this
       · simp [this]
     · exact this
def noTmpU : Upd → Bool
 | [] => true
 | (.tmp _, _) :: _ => false
 | _ :: r => noTmpU r
theorem noTmpU_spec : ∀ {u : Upd}, noTmpU u = true → ∀ p ∈ u, ∃ id, locId p.1 = some id
 | [], _, p, h => by simp at h
 | (x, c) :: r, h, p, hm => by
   cases x with
   | tmp k => simp [noTmpU] at h
   | _ =>
     rcases List.mem_cons.1 hm with rfl | hm
     · exact ⟨_, rfl⟩
     · exact noTmpU_spec (by simpa [noTmpU] using h) p hm
theorem appU_out {u : Upd} {t : Sto} {x : Loc} (hn : noTmpU u = true) (h : ∀ id, locId x = some id → id ∉ updIds u) : appU u t x = t x := by
 refine appU_ne fun p hp e => ?_
 obtain ⟨id, hid⟩ := noTmpU_spec hn p hp; exact h id (by rw [← e]; exact hid) (updIds_mem hp hid)
theorem appU_agree : ∀ {u : Upd} {t t2 : Sto} {x : Loc}, t2 x = t x → appU u t2 x = appU u t x
 | [], t, t2, x, h => h
 | (y, c) :: r, t, t2, x, h => by
   simp only [appU]; refine appU_agree ?_; unfold upd; split
   · rfl
   · exact h
def cellsFrom (id : Nat) : Nat → Nat → List (Nat × Nat)
 | _, 0 => []
 | off, n + 1 => (id, off) :: cellsFrom id (off + 1) n
theorem cellsFrom_mem {id j : Nat} : ∀ {n off : Nat}, off ≤ j → j < off + n → (id, j) ∈ cellsFrom id off n
 | 0, off, h1, h2 => by omega
 | n + 1, off, h1, h2 => by
   simp only [cellsFrom, List.mem_cons, Prod.mk.injEq, true_and]
   by_cases h : j = off
   · exact .inl h
   · exact .inr (cellsFrom_mem (by omega) (by omega))
def fine (T : Nat → Option TI) (t : Sto) : Op → Option (List Nat × List (Nat × Nat))
 | .load ty x => match T ty, ev t x with
   | some i, some (.ptr id off) => some ([], cellsFrom id off (if i.isAgg then i.size else 1))
   | _, _ => none
 | .store ty x _ => match T ty, ev t x with
   | some i, some (.ptr id off) => some ([id], cellsFrom id off i.size)
   | _, _ => none
 | .fieldAddr _ _ _ => some ([], [])
 | .nilCheck _ => some ([], [])
 | .move _ => some ([], [])
 | .assign _ => some ([], [])
 | .pick _ _ _ => some ([], [])
 | .binOp _ _ _ _ _ => some ([], [])
 | .unOp _ _ _ => some ([], [])
 | .extract _ _ => some ([], [])
 | .build _ _ => some ([], [])
 | _ => none
def updCells : Upd → Option (List (Nat × Nat))
 | [] => some []
 | (.cell id j, some _) :: r => (updCells r).map ((id, j) :: ·)
 | _ => none
theorem getCells_cut {t t2 : Sto} {id : Nat} : ∀ (n off : Nat), (∀ j, off ≤ j → j < off + n → t2 (.cell id j) = t (.cell id j)) → getCells t2 id off n = getCells t id off n
 | 0, _, _ => rfl
 | n + 1, off, h => by
   simp only [getCells]; rw [h off (Nat.le_refl _) (by omega), getCells_cut n (off + 1) (fun j h1 h2 => h j (by omega) (by omega))]
theorem fine_local {T : Nat → Option TI} {t t2 : Sto} {nid : Nat} {op : Op} {vs : List Nat} {cs : List (Nat × Nat)} (hf : fine T t op = some (vs, cs)) (h1 : ∀ x ∈ opOps op, ev t2 x = ev t x) (h2 : ∀ id ∈ vs, t2 (.var id) = t (.var id)) (h3 : ∀ p ∈ cs, t2 (.cell p.1 p.2) = t (.cell p.1 p.2)) : evalOp T t2 nid op = evalOp T t nid op := by
 cases op with
 | move x => simp only [evalOp]; rw [h1 x (by simp [opOps])]
 | assign x => simp only [evalOp]; rw [h1 x (by simp [opOps])]
 | pick c x y => simp only [evalOp]; rw [h1 c (by simp [opOps]), h1 x (by simp [opOps]), h1 y (by simp [opOps])]
 | nilCheck x => simp only [evalOp]; rw [h1 x (by simp [opOps])]
 | binOp op ty x y ty2 => simp only [evalOp]; rw [h1 x (by simp [opOps]), h1 y (by simp [opOps])]
 | unOp op ty x => simp only [evalOp]; rw [h1 x (by simp [opOps])]
 | fieldAddr ty x n => simp only [evalOp]; rw [h1 x (by simp [opOps])]
 | extract x k => simp only [evalOp]; rw [h1 x (by simp [opOps])]
 | build ty ps =>
   simp only [evalOp]; split
   · rw [fillC_local (fun p hp => h1 p.2 (by simp only [opOps, List.mem_map]; exact ⟨p, hp, rfl⟩))]
   · rfl
 | load ty x =>
   simp only [fine] at hf; simp only [evalOp]; rw [h1 x (by simp [opOps])]
   split at hf <;> try (simp at hf; done)
   rename_i i id off hi he
   simp only [Option.some.injEq, Prod.mk.injEq] at hf; obtain ⟨rfl, rfl⟩ := hf; rw [hi, he]; simp only [loadF]
   by_cases hag : i.isAgg = true
   · rw [if_pos hag] at h3
     simp only [hag, if_true]; rw [getCells_cut _ _ fun j g1 g2 => h3 (id, j) (cellsFrom_mem g1 g2)]
   · rw [if_neg hag] at h3
     have := h3 (id, off) (cellsFrom_mem (Nat.le_refl _) (by omega))
     simp only at this; simp only [hag, Bool.false_eq_true, if_false]; rw [this]
 | store ty x y =>
   simp only [fine] at hf; simp only [evalOp]; rw [h1 x (by simp [opOps]), h1 y (by simp [opOps])]
   split at hf <;> try (simp at hf; done)
   rename_i i id off hi he
   simp only [Option.some.injEq, Prod.mk.injEq] at hf; obtain ⟨rfl, rfl⟩ := hf; rw [hi, he]
   cases ev t y with
   | none => rfl
   | some b => simp only [storeF]; rw [h2 id (by simp)]
 | _ => simp [fine] at hf
def footRf (ops : Array Oper) (o : Oper) (vs : List Nat) (cs : List (Nat × Nat)) : Foot := ⟨guardTs ops o ++ opTs (opOps o.op), [], vs, cs⟩
def footWf (o : Oper) (cs : List (Nat × Nat)) : Foot := ⟨dstTs o.dst, [], [], cs⟩
theorem updCells_spec : ∀ {u : Upd} {cs : List (Nat × Nat)}, updCells u = some cs → ∀ p ∈ u, ∃ q ∈ cs, p.1 = .cell q.1 q.2
 | [], cs, h, p, hp => by simp at hp
 | (x, c) :: r, cs, h, p, hp => by
   cases x with
   | cell id j =>
     cases c with
     | none => simp [updCells] at h
     | some c =>
       simp only [updCells] at h
       cases hr : updCells r with
       | none => simp [hr] at h
       | some cs' =>
         simp only [hr, Option.map_some, Option.some.injEq] at h; subst h; rcases List.mem_cons.1 hp with rfl | hp
         · exact ⟨(id, j), by simp, rfl⟩
         · obtain ⟨q, h1, h2⟩ := updCells_spec hr p hp
           exact ⟨q, by simp [h1], h2⟩
   | _ => simp [updCells] at h
def feet (T : Nat → Option TI) (ops : Array Oper) (t : Sto) (nid : Nat) (o : Oper) (u : Upd) : Option (Foot × Foot) :=
 match fine T t o.op with
 | some (vs, cs) => match updCells u with
   | some ws => if ws.all (fun p => memP p.1 p.2 cs) = true then some (footRf ops o vs cs, footWf o ws) else none
   | none => none
 | none => if noTmpU u = true ∧ (updIds u).all (fun id => memN id (nid :: opIds t (opOps o.op))) = true then some (footR ops t nid o, footW o u) else none
def evalD (T : Nat → Option TI) (n : Nat) (ops : Array Oper) : List Oper → List (Loc × C) → Nat → Option (List (Loc × C) × Nat × List Oper × List (Foot × Foot))
 | [], l, nid => some (l, nid, [], [])
 | o :: rest, l, nid => match guardL ops l o with
   | some true => if isCall o.op = true then some (l, nid, o :: rest, []) else match evalOp T (lk l) nid o.op with
     | some f => match feet T ops (lk l) nid o f.u with
       | some ft => match putL n o.dst f.val (insV f.u l) with
         | some l' => match evalD T n ops rest l' (nid + 1) with
           | some (l2, n2, r2, E) => some (l2, n2, r2, ft :: E)
           | none => none
         | none => none
       | none => none
     | none => none
   | some false => match putL n o.dst (.tup []) l with
     | some l' => match evalD T n ops rest l' nid with
       | some (l2, n2, r2, E) => some (l2, n2, r2, ((.mk2 (guardTs ops o) []), (.mk2 (dstTs o.dst) [])) :: E)
       | none => none
     | none => none
   | none => none
theorem lk_putL {d : Option Nat} {x : AV} {l l' : List (Loc × C)} (h : putL G.n d x l = some l') : ∀ y, lk l' y = if (∃ k, d = some k ∧ y = .tmp k) then some (.av x) else lk l y := by
 intro y; unfold putL at h; split at h
 · rename_i k
   split at h <;> try (simp at h; done)
   simp only [Option.some.injEq] at h; subst h; rw [lk_ins]; unfold upd
   by_cases hy : y = .tmp k
   · simp [hy]
   · rw [if_neg hy, if_neg]
     rintro ⟨k', h1, h2⟩; simp only [Option.some.injEq] at h1; exact hy (h1 ▸ h2)
 · simp only [Option.some.injEq] at h
   subst h; rw [if_neg]; rintro ⟨k', h1, _⟩; simp at h1
theorem dst_lt {d : Nat} {x : AV} {l l' : List (Loc × C)} (h : putL G.n (some d) x l = some l') : d < G.n := by
 simp only [putL] at h; split at h
 · assumption
 · simp at h
theorem hasL_dst {d : Option Nat} {os : List Nat} {k : Nat} : Foot.hasL (.mk2 (dstTs d) os) (.tmp k) = true ↔ d = some k := by
 cases d with
 | none => simp [Foot.hasL, dstTs, memN, memP]
 | some j =>
   simp only [Foot.hasL, dstTs, memN]; constructor
   · intro h
     split at h
     · rename_i e; rw [e]
     · simp at h
   · intro h
     simp only [Option.some.injEq] at h; rw [if_pos h.symm]
theorem guard_agree {o : Oper} {b : Bool} {t : Sto} {ρ : Ren} {a : Act} {w : World} (hg : guardL ops l o = some b) (hag : ∀ k ∈ guardTs ops o, t (.tmp k) = lk l (.tmp k)) (hr : Rel F G ρ t a w) : Region.wanted o (yielded ops a.tmps) = b := by
 unfold guardL at hg; unfold Region.wanted; split at hg
 · rename_i h; simp only [Option.some.injEq] at hg; rw [h, ← hg]
 · rename_i j want h
   rw [h]; simp only; split at hg <;> try (simp at hg; done)
   rename_i d hd
   have hk := hag d (by unfold guardTs; rw [h]; simp only [hd]; simp)
   split at hg
   · rename_i c hc
     simp only [Option.some.injEq] at hg; rw [← hk] at hc; obtain ⟨x, hx, hA⟩ := hr.tmp d _ hc; simp only [C.av.injEq] at hx; subst hx; have hv := hA.v_inv
     have : a.tmps[d]? = some (.bool c) := by
       by_cases hlt : d < a.tmps.size
       · simp [hlt] at hv
         simp [hlt, hv]
       · simp [hlt, undef] at hv
     unfold yielded; rw [hd]; simp only [Option.bind_some, this]; rw [← hg]; cases c <;> cases want <;> rfl
   · rename_i hc
     simp only [Option.some.injEq] at hg; rw [← hg]; rw [← hk] at hc; exact wanted_undef hr hd hc
   · simp at hg
theorem opOK_eval {o : Oper} {nid : Nat} {f : Eff} {l' : List (Loc × C)} (hg : guardL ops l o = some true) (he : evalOp (tyOf P) (lk l) nid o.op = some f) (hn : noTmpU f.u = true) (hsub : (updIds f.u).all (fun id => memN id (nid :: opIds (lk l) (opOps o.op))) = true) (hp : putL G.n o.dst f.val (insV f.u l) = some l') :
   OpOK P F G ops o (footR ops (lk l) nid o) (footW o f.u) (lk l) (lk l') := by
 have hlk := lk_putL hp; refine ⟨?_, ?_⟩
 · intro x hx
   rw [hlk x, if_neg, lk_insV]
   · refine appU_out hn fun id hid hm => ?_
     cases x <;> simp only [locId, Option.some.injEq, reduceCtorEq] at hid
     all_goals
       subst hid; simp only [footW, Foot.hasL] at hx; rw [(memN_iff _ _).2 hm] at hx; simp at hx
   · rintro ⟨k, h1, rfl⟩
     unfold footW at hx; rw [hasL_dst.2 h1] at hx; simp at hx
 · intro t hag ρ a w hr K Q hK
   unfold WO; rw [guard_agree hg (fun k hk => hag (.tmp k) (by simp only [footR, Foot.hasL, memN_iff]; simp [hk])) hr]
   simp only [if_true]; refine .inl ?_
   have hobj : ∀ id, id ∈ nid :: opIds (lk l) (opOps o.op) → t (.var id) = lk l (.var id) ∧ t (.arr id) = lk l (.arr id) ∧ ∀ j, t (.cell id j) = lk l (.cell id j) := by
     intro id hid; have hm : memN id (nid :: opIds (lk l) (opOps o.op)) = true := (memN_iff _ _).2 hid; exact ⟨hag (.var id) hm, hag (.arr id) hm, fun j => hag (.cell id j) hm⟩
   have hev : ∀ x ∈ opOps o.op, ev t x = ev (lk l) x := by
     intro x hx; refine ev_local fun k hk => ?_
     subst hk; refine hag (.tmp k) ?_; simp only [footR, Foot.hasL, memN_iff, List.mem_append]; exact .inr (tmp_opTs hx)
   have he2 : evalOp (tyOf P) t nid o.op = some f := by
     rw [← he]; refine evalOp_local hev (fun x hx b hb id hid => hobj id ?_) (fun id hid => hobj id ?_)
     · exact List.mem_cons_of_mem _ (idsA_opIds hx hb id hid)
     · simp at hid; simp [hid]
   obtain ⟨ρ', v, w', nx, h1, h2, h3, h4⟩ := evalOp_goes hr he2
   have hover : overF (footW o f.u) (lk l') t = (match o.dst with | some d => upd (appU f.u t) (.tmp d) (some (.av f.val)) | none => appU f.u t) := by
     have hcore : ∀ x, (∀ k, o.dst = some k → x ≠ .tmp k) → overF (footW o f.u) (lk l') t x = appU f.u t x := by
       intro x hx; unfold overF; split
       · rename_i hw
         rw [hlk x, if_neg, lk_insV]
         · refine (appU_agree ?_).symm
           cases x with
           | tmp k => exact absurd rfl (hx k ((hasL_dst (os := updIds f.u)).1 hw))
           | cell id j =>
             simp only [footW, Foot.hasL, memP, memN, Bool.false_or, memN_iff] at hw; have := List.all_eq_true.1 hsub id hw; exact (hobj id ((memN_iff _ _).1 this)).2.2 j
           | var id =>
             simp only [footW, Foot.hasL, memP, memN, Bool.false_or, memN_iff] at hw; have := List.all_eq_true.1 hsub id hw; exact (hobj id ((memN_iff _ _).1 this)).1
           | arr id =>
             simp only [footW, Foot.hasL, memP, memN, Bool.false_or, memN_iff] at hw; have := List.all_eq_true.1 hsub id hw; exact (hobj id ((memN_iff _ _).1 this)).2.1
         · rintro ⟨k, h1, rfl⟩
           exact hx k h1 rfl
       · rename_i hw
         refine (appU_out hn fun id hid hm => hw ?_).symm
         cases x <;> simp only [locId, Option.some.injEq, reduceCtorEq] at hid
         all_goals
           subst hid; simp only [footW, Foot.hasL]; exact (memN_iff _ _).2 hm
     cases hd : o.dst with
     | none =>
       funext x; exact hcore x (by simp [hd])
     | some d =>
       funext x
       by_cases hx : x = .tmp d
       · subst hx
         simp only [upd_same]; unfold overF; unfold footW; rw [if_pos (hasL_dst.2 hd), hlk, if_pos ⟨d, hd, rfl⟩]
       · show _ = upd _ _ _ x
         rw [upd_ne _ _ hx]; exact hcore x (fun k hk => by rw [hd] at hk; simp only [Option.some.injEq] at hk; exact hk ▸ hx)
   have hrel : Rel F G ρ' (overF (footW o f.u) (lk l') t) (a.put o.dst v) w' := by
     rw [hover]
     cases hd : o.dst with
     | none => exact h3
     | some d =>
       rw [hd] at hp; exact h3.put (dst_lt hp) h4
   unfold Oper.wp; rw [h1]; rcases h2 with rfl | ⟨rfl, rfl⟩
   · exact hK _ _ _ hrel
   · exact hK _ _ _ hrel
theorem opOK_fine {o : Oper} {nid : Nat} {f : Eff} {l' : List (Loc × C)} {vs : List Nat} {cs ws : List (Nat × Nat)} (hg : guardL ops l o = some true) (he : evalOp (tyOf P) (lk l) nid o.op = some f) (hfn : fine (tyOf P) (lk l) o.op = some (vs, cs)) (hu : updCells f.u = some ws) (hsub : ws.all (fun p => memP p.1 p.2 cs) = true) (hp : putL G.n o.dst f.val (insV f.u l) = some l') :
   OpOK P F G ops o (footRf ops o vs cs) (footWf o ws) (lk l) (lk l') := by
 have hlk := lk_putL hp; have hdst : ∀ {k}, Foot.hasL (footWf o ws) (.tmp k) = true ↔ o.dst = some k := hasL_dst (os := []); refine ⟨?_, ?_⟩
 · intro x hx
   rw [hlk x, if_neg, lk_insV]
   · refine appU_ne fun p hpm e => ?_
     obtain ⟨q, q1, q2⟩ := updCells_spec hu p hpm; rw [e] at q2; subst q2
     have : Foot.hasL (footWf o ws) (.cell q.1 q.2) = true := by
       simp only [footWf, Foot.hasL, Bool.or_eq_true, memP_iff]; exact .inl q1
     rw [this] at hx; simp at hx
   · rintro ⟨k, h1, rfl⟩
     rw [hdst.2 h1] at hx; simp at hx
 · intro t hag ρ a w hr K Q hK
   unfold WO; rw [guard_agree hg (fun k hk => hag (.tmp k) (by simp only [footRf, Foot.hasL, memN_iff]; simp [hk])) hr]
   simp only [if_true]; refine .inl ?_
   have hev : ∀ x ∈ opOps o.op, ev t x = ev (lk l) x := by
     intro x hx; refine ev_local fun k hk => ?_
     subst hk; refine hag (.tmp k) ?_; simp only [footRf, Foot.hasL, memN_iff, List.mem_append]; exact .inr (tmp_opTs hx)
   have hcell : ∀ p ∈ cs, t (.cell p.1 p.2) = lk l (.cell p.1 p.2) := by
     intro p hpm; refine hag _ ?_; simp only [footRf, Foot.hasL, Bool.or_eq_true, memP_iff]; exact .inl hpm
   have he2 : evalOp (tyOf P) t nid o.op = some f := by
     rw [← he]; refine fine_local hfn hev (fun id hid => hag _ ?_) hcell
     simp only [footRf, Foot.hasL, Bool.or_eq_true, memN_iff]; exact .inl hid
   obtain ⟨ρ', v, w', nx, h1, h2, h3, h4⟩ := evalOp_goes hr he2
   have hover : overF (footWf o ws) (lk l') t = (match o.dst with | some d => upd (appU f.u t) (.tmp d) (some (.av f.val)) | none => appU f.u t) := by
     have hcore : ∀ x, (∀ k, o.dst = some k → x ≠ .tmp k) → overF (footWf o ws) (lk l') t x = appU f.u t x := by
       intro x hx; unfold overF; split
       · rename_i hw
         rw [hlk x, if_neg, lk_insV]
         · refine (appU_agree ?_).symm
           cases x with
           | tmp k => exact absurd rfl (hx k (hdst.1 hw))
           | cell id j =>
             simp only [footWf, Foot.hasL, memN, Bool.or_false, memP_iff] at hw; have := List.all_eq_true.1 hsub (id, j) hw; exact hcell (id, j) ((memP_iff _ _ _).1 this)
           | var id => simp [footWf, Foot.hasL, memN] at hw
           | arr id => simp [footWf, Foot.hasL, memN] at hw
         · rintro ⟨k, h1, rfl⟩
           exact hx k h1 rfl
       · rename_i hw
         refine (appU_ne fun p hpm e => hw ?_).symm
         obtain ⟨q, q1, q2⟩ := updCells_spec hu p hpm; rw [← e, q2]; simp only [footWf, Foot.hasL, Bool.or_eq_true, memP_iff]; exact .inl q1
     cases hd : o.dst with
     | none =>
       funext x; exact hcore x (by simp [hd])
     | some d =>
       funext x
       by_cases hx : x = .tmp d
       · subst hx
         simp only [upd_same]; unfold overF; rw [if_pos (hdst.2 hd), hlk, if_pos ⟨d, hd, rfl⟩]
       · show _ = upd _ _ _ x
         rw [upd_ne _ _ hx]; exact hcore x (fun k hk => by rw [hd] at hk; simp only [Option.some.injEq] at hk; exact hk ▸ hx)
   have hrel : Rel F G ρ' (overF (footWf o ws) (lk l') t) (a.put o.dst v) w' := by
     rw [hover]
     cases hd : o.dst with
     | none => exact h3
     | some d =>
       rw [hd] at hp; exact h3.put (dst_lt hp) h4
   unfold Oper.wp; rw [h1]; rcases h2 with rfl | ⟨rfl, rfl⟩
   · exact hK _ _ _ hrel
   · exact hK _ _ _ hrel
theorem opOK_feet {o : Oper} {nid : Nat} {f : Eff} {l' : List (Loc × C)} {ft : Foot × Foot} (hg : guardL ops l o = some true) (he : evalOp (tyOf P) (lk l) nid o.op = some f) (hft : feet (tyOf P) ops (lk l) nid o f.u = some ft) (hp : putL G.n o.dst f.val (insV f.u l) = some l') :
   OpOK P F G ops o ft.1 ft.2 (lk l) (lk l') := by
 unfold feet at hft; split at hft
 · rename_i vs cs hfn
   split at hft <;> try (simp at hft; done)
   rename_i ws hu
   split at hft <;> try (simp at hft; done)
   rename_i hs
   simp only [Option.some.injEq] at hft; subst hft; exact opOK_fine hg he hfn hu hs hp
 · split at hft <;> try (simp at hft; done)
   rename_i hc
   simp only [Option.some.injEq] at hft; subst hft; exact opOK_eval hg he hc.1 hc.2 hp
theorem opOK_skip {o : Oper} {l' : List (Loc × C)} (hg : guardL ops l o = some false) (hp : putL G.n o.dst (.tup []) l = some l') : OpOK P F G ops o (.mk2 (guardTs ops o) []) (.mk2 (dstTs o.dst) []) (lk l) (lk l') := by
 have hlk := lk_putL hp; refine ⟨?_, ?_⟩
 · intro x hx
   rw [hlk x, if_neg]; rintro ⟨k, h1, rfl⟩; rw [hasL_dst.2 h1] at hx; simp at hx
 · intro t hag ρ a w hr K Q hK
   unfold WO; rw [guard_agree hg (fun k hk => hag (.tmp k) (by simp only [Foot.hasL, memN_iff]; exact hk)) hr]
   simp only [Bool.false_eq_true, if_false]; refine hK ρ _ w ?_
   have hover : overF (.mk2 (dstTs o.dst) []) (lk l') t = (match o.dst with | some d => upd t (.tmp d) (some (.av (.tup []))) | none => t) := by
     cases hd : o.dst with
     | none =>
       funext x; unfold overF; rw [if_neg]; cases x <;> simp [Foot.hasL, dstTs, memN, memP]
     | some d =>
       funext x; unfold overF
       by_cases hx : x = .tmp d
       · subst hx
         simp only [upd_same]; rw [if_pos (hasL_dst.2 rfl), hlk, if_pos ⟨d, hd, rfl⟩]
       · show _ = upd _ _ _ x
         rw [upd_ne _ _ hx, if_neg]
         cases x with
         | tmp k => rw [hasL_dst]; intro h; simp only [Option.some.injEq] at h; exact hx (h ▸ rfl)
         | _ => simp [Foot.hasL, memN, memP]
   rw [hover]
   cases hd : o.dst with
   | none => exact hr
   | some d =>
     rw [hd] at hp; exact hr.put (dst_lt hp) (.tup (by rfl) (by simp))
def DGo (P : Program) (F : Nat → Nat → Prop) (G : Start) (ops : Array Oper) (Q : Post) (todo : List Oper) (l : List (Loc × C)) (acc : List (Foot × Foot)) : Prop :=
 ∃ E Ss l', DTr P F G ops todo (lk l) E Ss (lk l') ∧ indepB (masks ops.toList []) [] (acc ++ E) = true ∧ Q .normal l'
theorem awp_drawn {id : Nat} {Q : Post} (hm : P.follows .mixedOrders = true) (hord : ordB 0 ops.toList = true) (h : DGo P F G ops Q ops.toList l []) : AWP P F G (.region id ops true) Q l := by
 obtain ⟨E, Ss, l', h1, h2, h3⟩ := h; exact awp_draw hm hord h1 (by simpa using h2) h3
theorem dgo_nil {Q : Post} {acc : List (Foot × Foot)} (h : indepB (masks ops.toList []) [] acc = true) (hq : Q .normal l) : DGo P F G ops Q [] l acc := ⟨[], [], l, .nil, by simpa using h, hq⟩
end
end Go.Flat
end
section
set_option linter.unusedVariables false
set_option linter.unusedSimpArgs false
namespace Go.Flat
section
variable {P : Program} {F : Nat → Nat → Prop} {G : Start} {ops : Array Oper} {l : List (Loc × C)}
def callR (ops : Array Oper) (o : Oper) (xs : List Operand) (ι : Nat → Nat) (s s' : List (Loc × C)) : Foot := .mk2 (guardTs ops o ++ opTs xs) ((ids s).map ι ++ (ids s').map ι)
def callW (o : Oper) (ι : Nat → Nat) (s' : List (Loc × C)) : Foot := .mk2 (dstTs o.dst) ((ids s').map ι)
theorem opOK_call {o : Oper} {fo : Operand} {ar : Array Operand} {tys : Array TypeId} {k : Nat} {cap xs cargs : List AV} {s s' : List (Loc × C)} {res : AV} (ι : Nat → Nat) {l' : List (Loc × C)}
   (hop : o.op = .call { callee := .value fo, args := ar, argTypes := tys }) (hg : guardL ops l o = some true) (hf : ev (lk l) fo = some (.fn (.func k) cap)) (hx : evs (lk l) ar.toList = some xs) (hE : Enters P k) (hS : Spec P k cargs s res s')
   (hargs : leA.leL (xs ++ cap) (renA.renL ι cargs)) (hB : callB ι cargs s s' l = true) (hL : LiesAt ι l s) (hd : putL G.n o.dst (renA ι res) (backL ι s' l) = some l') :
   OpOK P F G ops o (callR ops o (fo :: ar.toList) ι s s') (callW o ι s') (lk l) (lk l') := by
 obtain ⟨c1, c2, c3⟩ := call_lies hB hL; have hlk := lk_putL hd
 have hmemW : ∀ id, memN id ((ids s').map ι) = true ↔ ∃ k, Flat.live (lk s') k ∧ ι k = id := by
   intro id; rw [memN_iff, List.mem_map]; constructor
   · rintro ⟨k, h1, h2⟩; exact ⟨k, live_ids.2 h1, h2⟩
   · rintro ⟨k, h1, h2⟩; exact ⟨k, live_ids.1 h1, h2⟩
 have hotherW : ∀ id, memN id ((ids s').map ι) = false → ∀ k, Flat.live (lk s') k → ι k ≠ id := by
   intro id h k hk he; rw [(hmemW id).2 ⟨k, hk, he⟩] at h; simp at h
 refine ⟨?_, ?_⟩
 · intro x hxx
   rw [hlk x, if_neg]
   · cases x with
     | tmp j => exact c2.tmp j
     | cell id j => exact (c2.other id (hotherW id hxx)).2.2 j
     | var id => exact (c2.other id (hotherW id hxx)).1
     | arr id => exact (c2.other id (hotherW id hxx)).2.1
   · rintro ⟨k, h1, rfl⟩
     unfold callW at hxx; rw [hasL_dst.2 h1] at hxx; simp at hxx
 · intro t hag ρ a w hr K Q hK
   unfold WO; rw [guard_agree hg (fun k hk => hag (.tmp k) (by simp only [callR, Foot.hasL, memN_iff]; simp [hk])) hr]
   simp only [if_true]; refine .inl ?_
   have hobj : ∀ id, id ∈ (ids s).map ι ++ (ids s').map ι → t (.var id) = lk l (.var id) ∧ t (.arr id) = lk l (.arr id) ∧ ∀ j, t (.cell id j) = lk l (.cell id j) := by
     intro id hid; have hm : memN id ((ids s).map ι ++ (ids s').map ι) = true := (memN_iff _ _).2 hid; exact ⟨hag (.var id) hm, hag (.arr id) hm, fun j => hag (.cell id j) hm⟩
   have hev : ∀ x ∈ fo :: ar.toList, ev t x = ev (lk l) x := by
     intro x hxm; refine ev_local fun k hk => ?_
     subst hk; refine hag (.tmp k) ?_; simp only [callR, Foot.hasL, memN_iff, List.mem_append]; exact .inr (tmp_opTs hxm)
   have hf2 : ev t fo = some (.fn (.func k) cap) := by rw [hev fo (by simp)]; exact hf
   have hx2 : evs t ar.toList = some xs := by rw [evs_local (fun x hxm => hev x (by simp [hxm]))]; exact hx
   have hlv : ∀ k, Flat.live (lk s) k → ι k ∈ (ids s).map ι ++ (ids s').map ι := fun k hk => List.mem_append.2 (.inl (List.mem_map.2 ⟨k, live_ids.1 hk, rfl⟩))
   have hlv' : ∀ k, Flat.live (lk s') k → ι k ∈ (ids s).map ι ++ (ids s').map ι := fun k hk => List.mem_append.2 (.inr (List.mem_map.2 ⟨k, live_ids.1 hk, rfl⟩))
   have d1 : Lies (lk s) t ι := by
     refine ⟨?_, c1.inj, c1.tmp, c1.own, c1.ref, c1.big, c1.keep, c1.fam⟩; intro x c hc; have h0 := c1.at_ x c hc
     cases x with
     | tmp j => rw [c1.tmp j] at hc; simp at hc
     | cell id j =>
       have hl1 : Flat.live (lk s) id := .inl (c1.own id j (by rw [hc]; simp))
       exact ((hobj _ (hlv id hl1)).2.2 j).trans h0
     | var id =>
       have hl1 : Flat.live (lk s) id := .inl (by rw [hc]; simp)
       exact (hobj _ (hlv id hl1)).1.trans h0
     | arr id =>
       have hl1 : Flat.live (lk s) id := .inr (by rw [hc]; simp)
       exact (hobj _ (hlv id hl1)).2.1.trans h0
   have hin : ∀ (q : Loc) (k : Nat), Flat.live (lk s') k → (q = .var (ι k) ∨ q = .arr (ι k) ∨ ∃ j, q = .cell (ι k) j) → overF (.mk2 [] ((ids s').map ι)) (lk (backL ι s' l)) t q = lk (backL ι s' l) q := by
     intro q k hk hq; unfold overF
     have : Foot.hasL (.mk2 [] ((ids s').map ι)) q = true := by
       rcases hq with rfl | rfl | ⟨j, rfl⟩ <;> exact (hmemW _).2 ⟨k, hk, rfl⟩
     rw [if_pos this]
   have hout : ∀ (q : Loc) (id : Nat), (∀ k, Flat.live (lk s') k → ι k ≠ id) → (q = .var id ∨ q = .arr id ∨ ∃ j, q = .cell id j) → overF (.mk2 [] ((ids s').map ι)) (lk (backL ι s' l)) t q = t q := by
     intro q id hn hq; unfold overF; rw [if_neg]; intro hh; have : memN id ((ids s').map ι) = true := by rcases hq with rfl | rfl | ⟨j, rfl⟩ <;> exact hh
     obtain ⟨k, h1, h2⟩ := (hmemW id).1 this; exact hn k h1 h2
   have d2 : Back (lk s) (lk s') t (overF (.mk2 [] ((ids s').map ι)) (lk (backL ι s' l)) t) ι := by
     refine ⟨?_, ?_, ?_, ?_, ?_, c2.inj, ?_, c2.big, c2.keep, c2.ref⟩
     · intro k hk; rw [hin _ k hk (.inl rfl)]; exact c2.var k hk
     · intro k hk; rw [hin _ k hk (.inr (.inl rfl))]; exact c2.arr k hk
     · intro k j hk; rw [hin _ k hk (.inr (.inr ⟨j, rfl⟩))]; exact c2.cell k j hk
     · intro id hn
       exact ⟨hout _ id hn (.inl rfl), hout _ id hn (.inr (.inl rfl)), fun j => hout _ id hn (.inr (.inr ⟨j, rfl⟩))⟩
     · intro k
       unfold overF; rw [if_neg]; simp [Foot.hasL, memN, memP]
     · intro k hk hn hlt
       refine c2.fresh k hk hn ?_; obtain ⟨o1, o2, _⟩ := hobj _ (hlv' k hk)
       simpa [Flat.live, o1, o2] using hlt
   have hfv := ev_ar hr hf2; generalize hv : a.eval fo = v at hfv
   cases hfv with
   | fn hn hA =>
     rename_i vs
     obtain ⟨e1, e2⟩ := evs_ar hr hx2; unfold Oper.wp
     have hrun : (execOp a.eval o).run P w = .ok (.enter k (ar.map a.eval ++ vs)) w := by
       simp only [execOp, hop, resolve, hv, Deferred.ofValue, Sem.run_bind, Sem.run_pure, Result.andThen_ok, invoke, Array.empty_append]; exact run_callFunc hE _
     rw [hrun, Oper.upon_enter]
     have hlen : xs.length + cap.length = cargs.length := by
       have := leL_len hargs; rw [renL_len] at this
       simpa using this
     refine (call_spec hS hr d1 d2 c3 (vs := ar.map a.eval ++ vs) ?_ ?_).mono ?_
     · simp only [Array.size_append, Array.size_map, hn, ← hlen, e1, Array.length_toList]
     · intro j x u hj hu
       obtain ⟨x0, hj', hle⟩ := leL_at (j := j) (y := renA ι x) hargs (by rw [renL_at, hj]; rfl)
       have hsz : (ar.map a.eval).size = xs.length := by simp [e1]
       by_cases hlt : j < xs.length
       · rw [List.getElem?_append_left hlt] at hj'
         rw [Array.getElem?_append_left (by omega)] at hu
         exact (e2 j _ u hj' (by rw [← Array.toList_map]; simpa using hu)).le_same hle
       · rw [List.getElem?_append_right (by omega)] at hj'
         rw [Array.getElem?_append_right (by omega), hsz] at hu
         exact (hA _ _ u hj' hu).le_same hle
     · rintro e w' ⟨u, ρ', rfl, h1, h2⟩
       refine hK ρ' _ w' ?_
       have hover : overF (callW o ι s') (lk l') t = (match o.dst with | some d => upd (overF (.mk2 [] ((ids s').map ι)) (lk (backL ι s' l)) t) (.tmp d) (some (.av (renA ι res))) | none => overF (.mk2 [] ((ids s').map ι)) (lk (backL ι s' l)) t) := by
         have hcore : ∀ x, (∀ k, o.dst = some k → x ≠ .tmp k) → overF (callW o ι s') (lk l') t x = overF (.mk2 [] ((ids s').map ι)) (lk (backL ι s' l)) t x := by
           intro x hxx; unfold overF callW
           cases x with
           | tmp j =>
             have h1 : ¬ (Foot.hasL (.mk2 (dstTs o.dst) ((ids s').map ι)) (.tmp j) = true) := by
               rw [hasL_dst]; intro h; exact hxx j h rfl
             have h2 : ¬ (Foot.hasL (.mk2 [] ((ids s').map ι)) (.tmp j) = true) := by simp [Foot.hasL, memN, memP]
             rw [if_neg h1, if_neg h2]
           | _ =>
             simp only [Foot.hasL]; rw [hlk, if_neg (by rintro ⟨k, _, h2⟩; simp at h2)]
             rfl
         cases hdd : o.dst with
         | none => funext x; exact hcore x (by simp [hdd])
         | some d =>
           funext x
           by_cases hxd : x = .tmp d
           · subst hxd
             simp only [upd_same]; unfold overF callW; rw [if_pos (hasL_dst.2 hdd), hlk, if_pos ⟨d, hdd, rfl⟩]
           · show _ = upd _ _ _ x
             rw [upd_ne _ _ hxd]; exact hcore x (fun k hk => by rw [hdd] at hk; simp only [Option.some.injEq] at hk; exact hk ▸ hxd)
       rw [hover]
       cases hdd : o.dst with
       | none => exact h1
       | some d =>
         rw [hdd] at hd; exact h1.put (dst_lt hd) h2
theorem dgo_call {Q : Post} {acc : List (Foot × Foot)} {o : Oper} {rest : List Oper} {fo : Operand} {ar : Array Operand} {tys : Array TypeId} {k : Nat} {cap xs cargs : List AV} {s s' : List (Loc × C)} {res : AV} (ι : Nat → Nat) {l' : List (Loc × C)}
   (hop : o.op = .call { callee := .value fo, args := ar, argTypes := tys }) (hg : guardL ops l o = some true) (hf : ev (lk l) fo = some (.fn (.func k) cap)) (hx : evs (lk l) ar.toList = some xs) (hE : Enters P k) (hS : Spec P k cargs s res s')
   (hargs : leA.leL (xs ++ cap) (renA.renL ι cargs)) (hB : callB ι cargs s s' l = true) (hL : LiesAt ι l s) (hd : putL G.n o.dst (renA ι res) (backL ι s' l) = some l')
   (h : DGo P F G ops Q rest l' (acc ++ [(callR ops o (fo :: ar.toList) ι s s', callW o ι s')])) : DGo P F G ops Q (o :: rest) l acc := by
 obtain ⟨E, Ss, m, g1, g2, g3⟩ := h; exact ⟨_, _, m, .cons (opOK_call ι hop hg hf hx hE hS hargs hB hL hd) g1, by rw [List.append_assoc] at g2; exact g2, g3⟩
end
end Go.Flat
end
section
set_option linter.unusedVariables false
set_option linter.unusedSimpArgs false
namespace Go.Flat
section
variable {P : Program} {F : Nat → Nat → Prop} {G : Start} {ops : Array Oper} {l : List (Loc × C)}
theorem OpOK.shrink {o : Oper} {R W W2 : Foot} {s s' : Sto} (h : OpOK P F G ops o R W s s') (hs : ∀ x, W2.hasL x = true → W.hasL x = true) (hd : ∀ x, W.hasL x = true → W2.hasL x = false → R.hasL x = true ∧ s' x = s x) : OpOK P F G ops o R W2 s s' := by
 refine ⟨fun x hx => ?_, fun t hag ρ a w hr K Q hK => ?_⟩
 · cases hq : W.hasL x with
   | true => exact (hd x hq hx).2
   | false => exact h.out x hq
 · refine h.goes t hag ρ a w hr K Q fun ρ' a' w' hr' => hK ρ' a' w' ?_
   have : overF W2 s' t = overF W s' t := by
     funext x; unfold overF
     cases h2 : W2.hasL x with
     | true => simp [hs x h2]
     | false =>
       cases h1 : W.hasL x with
       | true =>
         obtain ⟨g1, g2⟩ := hd x h1 h2; simp [g2, hag x g1]
       | false => simp
   rw [this]; exact hr'
def SubO (id : Nat) (m : List (Loc × C)) : List (Loc × C) → Prop
 | [] => True
 | (k, c) :: r => (locId k = some id → lk m k = some c) ∧ SubO id m r
theorem SubO_spec {id : Nat} {m : List (Loc × C)} : ∀ {l : List (Loc × C)}, SubO id m l → ∀ x c, locId x = some id → lk l x = some c → lk m x = some c
 | [], _, x, c, _, h => by simp [lk] at h
 | (k, c0) :: r, h, x, c, hx, hl => by
   simp only [lk] at hl; split at hl
   · rename_i e
     subst e; simp only [Option.some.injEq] at hl; subst hl; exact h.1 hx
   · exact SubO_spec h.2 x c hx hl
theorem SubO_eq {id : Nat} {l m : List (Loc × C)} (h1 : SubO id m l) (h2 : SubO id l m) {x : Loc} (hx : locId x = some id) : lk m x = lk l x := by
 cases hl : lk l x with
 | some c => exact SubO_spec h1 x c hx hl
 | none =>
   cases hm : lk m x with
   | none => rfl
   | some c =>
     have := SubO_spec h2 x c hx hm; rw [hl] at this; simp at this
def KeptO (l l' : List (Loc × C)) : List Nat → Prop
 | [] => True
 | id :: r => (SubO id l l' ∧ SubO id l' l) ∧ KeptO l l' r
theorem KeptO_spec {l l' : List (Loc × C)} : ∀ {ks : List Nat}, KeptO l l' ks → ∀ id ∈ ks, SubO id l l' ∧ SubO id l' l
 | [], _, id, h => by simp at h
 | k :: r, h, id, hm => by
   rcases List.mem_cons.1 hm with rfl | hm
   · exact h.1
   · exact KeptO_spec h.2 id hm
def without (ks : List Nat) : List Nat → List Nat
 | [] => []
 | k :: r => if memN k ks = true then without ks r else k :: without ks r
theorem without_mem {ks : List Nat} : ∀ {l : List Nat} {k : Nat}, k ∈ without ks l ↔ k ∈ l ∧ k ∉ ks
 | [], k => by simp [without]
 | a :: r, k => by
   simp only [without]; split
   · rename_i h
     have h' := (memN_iff _ _).1 h; rw [without_mem, List.mem_cons]; constructor
     · rintro ⟨h1, h2⟩; exact ⟨.inr h1, h2⟩
     · rintro ⟨rfl | h1, h2⟩
       · exact absurd h' h2
       · exact ⟨h1, h2⟩
   · rename_i h
     have h' : a ∉ ks := fun hm => h ((memN_iff _ _).2 hm)
     rw [List.mem_cons, without_mem, List.mem_cons]; constructor
     · rintro (rfl | ⟨h1, h2⟩)
       · exact ⟨.inl rfl, h'⟩
       · exact ⟨.inr h1, h2⟩
     · rintro ⟨rfl | h1, h2⟩
       · exact .inl rfl
       · exact .inr ⟨h1, h2⟩
def callWk (o : Oper) (ι : Nat → Nat) (s' : List (Loc × C)) (ks : List Nat) : Foot := .mk2 (dstTs o.dst) (without ks ((ids s').map ι))
theorem dgo_callk {Q : Post} {acc : List (Foot × Foot)} {o : Oper} {rest : List Oper} {fo : Operand} {ar : Array Operand} {tys : Array TypeId} {k : Nat} {cap xs cargs : List AV} {s s' : List (Loc × C)} {res : AV} (ι : Nat → Nat) (ks : List Nat) {l' : List (Loc × C)}
   (hop : o.op = .call { callee := .value fo, args := ar, argTypes := tys }) (hg : guardL ops l o = some true) (hf : ev (lk l) fo = some (.fn (.func k) cap)) (hx : evs (lk l) ar.toList = some xs) (hE : Enters P k) (hS : Spec P k cargs s res s')
   (hargs : leA.leL (xs ++ cap) (renA.renL ι cargs)) (hB : callB ι cargs s s' l = true) (hL : LiesAt ι l s) (hd : putL G.n o.dst (renA ι res) (backL ι s' l) = some l') (hk : KeptO l l' ks)
   (h : DGo P F G ops Q rest l' (acc ++ [(callR ops o (fo :: ar.toList) ι s s', callWk o ι s' ks)])) : DGo P F G ops Q (o :: rest) l acc := by
 obtain ⟨E, Ss, m, g1, g2, g3⟩ := h; have hO := opOK_call (F := F) ι hop hg hf hx hE hS hargs hB hL hd; refine ⟨_, _, m, .cons (hO.shrink (W2 := callWk o ι s' ks) ?_ ?_) g1, by rw [List.append_assoc] at g2; exact g2, g3⟩
 · intro x hx
   cases x with
   | tmp j => exact hx
   | cell id j =>
     simp only [callWk, callW, Foot.hasL, memP, Bool.false_or, memN_iff] at hx ⊢; exact (without_mem.1 hx).1
   | var id =>
     simp only [callWk, callW, Foot.hasL, memN, Bool.false_or, memN_iff] at hx ⊢; exact (without_mem.1 hx).1
   | arr id =>
     simp only [callWk, callW, Foot.hasL, memN_iff] at hx ⊢; exact (without_mem.1 hx).1
 · intro x h1 h2
   have key : ∀ id, locId x = some id → id ∈ (ids s').map ι → id ∉ without ks ((ids s').map ι) → Foot.hasL (callR ops o (fo :: ar.toList) ι s s') x = true ∧ lk l' x = lk l x := by
     intro id hxid hm hn
     have hks : id ∈ ks := by
       by_cases hq : id ∈ ks
       · exact hq
       · exact absurd (without_mem.2 ⟨hm, hq⟩) hn
     obtain ⟨q1, q2⟩ := KeptO_spec hk id hks; refine ⟨?_, SubO_eq q2 q1 hxid⟩; have hm2 : memN id ((ids s).map ι ++ (ids s').map ι) = true := (memN_iff _ _).2 (List.mem_append.2 (.inr hm)); cases x <;> simp only [locId, Option.some.injEq, reduceCtorEq] at hxid
     all_goals
       subst hxid; exact hm2
   cases x with
   | tmp j => rw [show Foot.hasL (callWk o ι s' ks) (.tmp j) = Foot.hasL (callW o ι s') (.tmp j) from rfl, h1] at h2; simp at h2
   | cell id j =>
     refine key id rfl ?_ ?_
     · simpa only [callW, Foot.hasL, memP, Bool.false_or, memN_iff] using h1
     · intro hm; rw [show Foot.hasL (callWk o ι s' ks) (.cell id j) = true from (memN_iff _ _).2 hm] at h2; simp at h2
   | var id =>
     refine key id rfl ?_ ?_
     · simpa only [callW, Foot.hasL, memN, Bool.false_or, memN_iff] using h1
     · intro hm; rw [show Foot.hasL (callWk o ι s' ks) (.var id) = true from (memN_iff _ _).2 hm] at h2; simp at h2
   | arr id =>
     refine key id rfl ?_ ?_
     · simpa only [callW, Foot.hasL, memN_iff] using h1
     · intro hm; rw [show Foot.hasL (callWk o ι s' ks) (.arr id) = true from (memN_iff _ _).2 hm] at h2; simp at h2
end
end Go.Flat
end
section
set_option linter.unusedVariables false
set_option linter.unusedSimpArgs false
namespace Go.Flat
def frzA (id : Nat) (xs : List (List PV)) : AV → AV
 | .sl k L off len => if k = id then (if L = xs.length then .p (.ps ((xs.drop off).take len)) else .any) else .sl k L off len
 | .eptr k L i off => if k = id then .any else .eptr k L i off
 | .ptr k off => if k = id then .any else .ptr k off
 | .fn f c => .fn f (frzL id xs c)
 | .agg c => .agg (frzL id xs c)
 | .tup c => .tup (frzL id xs c)
 | x => x
where frzL (id : Nat) (xs : List (List PV)) : List AV → List AV
 | [] => []
 | a :: r => frzA id xs a :: frzL id xs r
def frzS (id : Nat) (xs : List (List PV)) : List (Loc × C) → List (Loc × C)
 | [] => []
 | (.arr k, c) :: r => if k = id then frzS id xs r else (.arr k, c) :: frzS id xs r
 | (.var k, c) :: r => if k = id then frzS id xs r else (.var k, c) :: frzS id xs r
 | (.tmp k, .av a) :: r => (.tmp k, .av (frzA id xs a)) :: frzS id xs r
 | (.cell k j, .av a) :: r => (.cell k j, .av (frzA id xs a)) :: frzS id xs r
 | _ :: r => frzS id xs r
section
variable {P : Program} {F : Nat → Nat → Prop} {G : Start} {ρ : Ren} {t s : Sto} {l : List (Loc × C)} {a : Act} {w : World} {id : Nat} {xs : List (List PV)}
theorem frzL_at : ∀ (l : List AV) (j : Nat), (frzA.frzL id xs l)[j]? = (l[j]?).map (frzA id xs)
 | [], j => by simp [frzA.frzL]
 | a :: r, 0 => by simp [frzA.frzL]
 | a :: r, j + 1 => by simpa [frzA.frzL] using frzL_at r j
theorem frzL_len : ∀ l : List AV, (frzA.frzL id xs l).length = l.length
 | [] => rfl
 | a :: r => by simp [frzA.frzL, frzL_len r]
theorem HClosed.of (h : RelO F ρ t w) : HClosed t := by
 intro id e sz xs pub ha hw row hrow k L off len hk _; obtain ⟨e', sz', xs', pub', hc, s0, s1, s2, s3⟩ := h.arr id _ ha; simp only [C.arr.injEq] at hc; obtain ⟨rfl, rfl, rfl, rfl⟩ := hc; rcases s3 with ⟨_, rfl⟩ | ⟨b, cs, _, _, _, r4⟩
 · simp at hrow
 · obtain ⟨i, hi⟩ := List.mem_iff_getElem?.1 hrow
   obtain ⟨j, hj⟩ := List.mem_iff_getElem?.1 hk; obtain ⟨u, _, hu⟩ := r4 i row hi j _ hj; rcases hu with hu | ⟨_, k', L', off', len', he, _, hs⟩
   · cases hu
   · simp only [PV.han.injEq] at he
     obtain ⟨rfl, rfl, rfl, rfl⟩ := he; obtain ⟨_, _, _, _, h1, _⟩ := hs; rw [h1]; simp
theorem HClosed.drop (h : HClosed t) (hs : ∀ k, k ≠ id → s (.arr k) = t (.arr k)) (hid : s (.arr id) = none) (hn : t (.arr id) = none ∨ id < 8589934592) : HClosed s := by
 intro q e sz xs pub ha hw row hrow k L off len hk hk2; have hq : q ≠ id := by rintro rfl; rw [hid] at ha; simp at ha
 rw [hs q hq] at ha; have := h q e sz xs pub ha hw row hrow k L off len hk hk2
 by_cases e : k = id
 · subst e
   rcases hn with hn | hn
   · exact absurd hn this
   · omega
 · rw [hs k e]; exact this
theorem HClosed.same (h : HClosed t) (hs : ∀ k, s (.arr k) = t (.arr k)) : HClosed s := by
 intro q e sz xs pub ha hw row hrow k L off len hk hk2; rw [hs] at ha ⊢; exact h q e sz xs pub ha hw row hrow k L off len hk hk2
theorem AR.frz (ht : RelO F ρ t w) (h : Under F ρ s t) {e sz pub : Nat} (ha : t (.arr id) = some (.arr e sz xs pub)) (hs : s (.var id) = none ∧ s (.arr id) = none)
   (hv : ∀ k, k ≠ id → s (.var k) = t (.var k)) (har : ∀ k, k ≠ id → s (.arr k) = t (.arr k)) (hid : id < 4294967296) {x : AV} {v : Value} (hx : AR F ρ t w x v) : AR F ρ s w (frzA id xs x) v := by
 induction hx with
 | any => exact .any
 | p hp => exact .p (hp.under h)
 | psf hp => exact .psf (hp.under h)
 | @ptr k off b hl hb =>
   simp only [frzA]; split
   · exact .any
   · rename_i hk
     exact .ptr (by rw [hv k hk]; exact hl) hb
 | @sl k L off len v hq =>
   simp only [frzA]; split
   · rename_i hk
     subst hk; split
     · rename_i hL
       exact .p (frz_slice ht h (.sl hq) ha hL hs (by omega))
     · exact .any
   · rename_i hk
     obtain ⟨e, sz, ys, pub, g1, g2⟩ := hq; exact .sl ⟨e, sz, ys, pub, by rw [har k hk]; exact g1, g2⟩
 | @eptr k L i off v hq =>
   simp only [frzA]; split
   · exact .any
   · rename_i hk
     obtain ⟨e, sz, ys, pub, g1, g2⟩ := hq; exact .eptr ⟨e, sz, ys, pub, by rw [har k hk]; exact g1, g2⟩
 | fn hn _ ih =>
   refine .fn (by rw [hn, frzL_len]) fun j x v hj hv => ?_
   rw [frzL_at] at hj; obtain ⟨y, h1, rfl⟩ := Option.map_eq_some_iff.1 hj; exact ih j y v h1 hv
 | agg hn h1 _ ih =>
   refine .agg (by rw [hn, frzL_len]) h1 fun j x v hj hv => ?_
   rw [frzL_at] at hj; obtain ⟨y, h1, rfl⟩ := Option.map_eq_some_iff.1 hj; exact ih j y v h1 hv
 | tup hn _ ih =>
   refine .tup (by rw [hn, frzL_len]) fun j x v hj hv => ?_
   rw [frzL_at] at hj; obtain ⟨y, h1, rfl⟩ := Option.map_eq_some_iff.1 hj; exact ih j y v h1 hv
def frzC (id : Nat) (xs : List (List PV)) : C → C
 | .av a => .av (frzA id xs a)
 | c => c
def okS : List (Loc × C) → Bool
 | [] => true
 | (.tmp _, .av _) :: r => okS r
 | (.cell _ _, .av _) :: r => okS r
 | (.arr _, .arr _ _ _ _) :: r => okS r
 | (.var _, .n _) :: r => okS r
 | _ => false
theorem lk_frzS : ∀ {l : List (Loc × C)}, okS l = true → ∀ x, lk (frzS id xs l) x = if x = .arr id ∨ x = .var id then none else (lk l x).map (frzC id xs)
 | [], _, x => by simp [frzS, lk]
 | (k, c) :: r, h, x => by
   cases k with
   | tmp i =>
     cases c <;> simp only [okS, reduceCtorEq] at h <;> try (simp at h; done)
     simp only [frzS, lk, lk_frzS h]
     by_cases hx : x = .tmp i
     · subst hx; simp [frzC]
     · simp only [hx, if_false]
   | cell i j =>
     cases c <;> simp only [okS, reduceCtorEq] at h <;> try (simp at h; done)
     simp only [frzS, lk, lk_frzS h]
     by_cases hx : x = .cell i j
     · subst hx; simp [frzC]
     · simp only [hx, if_false]
   | arr i =>
     cases c <;> simp only [okS, reduceCtorEq] at h <;> try (simp at h; done)
     have ih := lk_frzS (l := r) h x; simp only [frzS, lk]
     by_cases hi : i = id
     · rw [if_pos hi, ih]
       by_cases hx : x = .arr i
       · rw [if_pos (.inl (by rw [hx, hi])), if_pos (.inl (by rw [hx, hi]))]
       · simp only [hx, if_false]
     · simp only [hi, if_false, lk, lk_frzS h]
       by_cases hx : x = .arr i
       · subst hx; simp [frzC, hi]
       · simp only [hx, if_false]
   | var i =>
     cases c <;> simp only [okS, reduceCtorEq] at h <;> try (simp at h; done)
     have ih := lk_frzS (l := r) h x; simp only [frzS, lk]
     by_cases hi : i = id
     · rw [if_pos hi, ih]
       by_cases hx : x = .var i
       · rw [if_pos (.inr (by rw [hx, hi])), if_pos (.inr (by rw [hx, hi]))]
       · simp only [hx, if_false]
     · simp only [hi, if_false, lk, lk_frzS h]
       by_cases hx : x = .var i
       · subst hx; simp [frzC, hi]
       · simp only [hx, if_false]
theorem frz_rel {s0 : List (Loc × C)} {e sz pub : Nat} (hG : G.t = lk s0) (hr : Rel F G ρ (lk l) a w) (ha : lk l (.arr id) = some (.arr e sz xs pub)) (hok : okS l = true) (hH : hasB s0 (frzS id xs l) (ids s0) = true) (hid : id < 4294967296) : Rel F G ρ (lk (frzS id xs l)) a w := by
 have hat := fun x => lk_frzS (id := id) (xs := xs) hok x
 have hvn : ∀ k c, lk l (.var k) = some c → ∃ n, c = .n n := fun k c hk => by obtain ⟨n, _, _, _, q, _⟩ := hr.o.var k c hk; exact ⟨n, q⟩
 have han : ∀ k c, lk l (.arr k) = some c → ∃ e sz xs pub, c = .arr e sz xs pub := fun k c hk => by obtain ⟨e, sz, xs, pub, q, _⟩ := hr.o.arr k c hk; exact ⟨e, sz, xs, pub, q⟩
 have hv : ∀ k, k ≠ id → lk (frzS id xs l) (.var k) = lk l (.var k) := by
   intro k hk; rw [hat, if_neg (by simp [hk])]
   cases hq : lk l (.var k) with
   | none => rfl
   | some c => obtain ⟨n, rfl⟩ := hvn k c hq; rfl
 have har : ∀ k, k ≠ id → lk (frzS id xs l) (.arr k) = lk l (.arr k) := by
   intro k hk; rw [hat, if_neg (by simp [hk])]
   cases hq : lk l (.arr k) with
   | none => rfl
   | some c => obtain ⟨e, sz, xs, pub, rfl⟩ := han k c hq; rfl
 have hd : lk (frzS id xs l) (.var id) = none ∧ lk (frzS id xs l) (.arr id) = none := ⟨by rw [hat, if_pos (by simp)], by rw [hat, if_pos (by simp)]⟩
 have hu : Under F ρ (lk (frzS id xs l)) (lk l) := by
   refine .mk' ?_ ?_
   · intro k c hk
     by_cases e : k = id
     · subst e; rw [hd.1] at hk; simp at hk
     · rwa [hv k e] at hk
   · intro k c hk
     by_cases e : k = id
     · subst e; rw [hd.2] at hk; simp at hk
     · rwa [har k e] at hk
 have hfz : ∀ {x : AV} {v : Value}, AR F ρ (lk l) w x v → AR F ρ (lk (frzS id xs l)) w (frzA id xs x) v := fun hx => hx.frz hr.o hu ha hd hv har hid
 refine hr.dn ⟨hu, ?_, ?_, (HClosed.of hr.o).drop har hd.2 (.inr (by omega))⟩ (by rw [hG]; exact hasB_has hH)
 · intro k j c hk
   rw [hat, if_neg (by simp)] at hk
   obtain ⟨c0, h1, rfl⟩ := Option.map_eq_some_iff.1 hk; obtain ⟨x, n, b, u, rfl, h2, h3, h4, h5, h6, h7⟩ := hr.o.cell k j c0 h1
   have hne : k ≠ id := by
     rintro rfl; have := hr.o.excl k (by rw [h2]; simp)
     rw [ha] at this; simp at this
   exact ⟨by rw [hv k hne, h2]; simp, x, frzA id xs x, rfl, h1, fun v hv => hfz hv⟩
 · intro k c hk
   rw [hat, if_neg (by simp)] at hk
   obtain ⟨c0, h1, rfl⟩ := Option.map_eq_some_iff.1 hk; obtain ⟨x, rfl, _⟩ := hr.tmp k c0 h1; exact ⟨x, frzA id xs x, rfl, h1, fun v hv => hfz hv⟩
theorem own_rel {s0 : List (Loc × C)} {e sz : Nat} {x : Loc} (hG : G.t = lk s0) (hH : hasB s0 (ins x (.av (.sl id 0 0 0)) (ins (.arr id) (.arr e sz [] 0) l)) (ids s0) = true) (hr : Rel F G ρ (lk l) a w) (hx : lk l x = some (.av (.psf []))) (hl : ∀ k, x ≠ .var k ∧ x ≠ .arr k) (hf : fresh (lk l) id = true) (hs0 : 0 < sz) :
   ∃ ρ', Rel F G ρ' (lk (ins x (.av (.sl id 0 0 0)) (ins (.arr id) (.arr e sz [] 0) l))) a w := by
 obtain ⟨h1, h2⟩ := fresh_inv hf; obtain ⟨g1, _⟩ := newNone (e := e) (sz := sz) hr h1 h2 hs0; generalize (fun k => if k = id then none else ρ k : Ren) = ρ' at g1
 refine ⟨ρ', ?_⟩; have e1 : appU [(.arr id, some (.arr e sz [] 0))] (lk l) = lk (ins (.arr id) (.arr e sz [] 0) l) := by rw [lk_ins]; rfl
 rw [e1] at g1; rw [lk_ins]; generalize ht : lk (ins (.arr id) (.arr e sz [] 0) l) = t at g1; have hid : t (.arr id) = some (.arr e sz [] 0) := by rw [← ht, lk_ins]; simp
 have hxt : t x = some (.av (.psf [])) := by
   rw [← ht, lk_ins, upd_ne _ _ (hl id).2]; exact hx
 have hvv : ∀ k, upd t x (some (.av (.sl id 0 0 0))) (.var k) = t (.var k) := fun k => upd_ne _ _ (hl k).1.symm
 have haa : ∀ k, upd t x (some (.av (.sl id 0 0 0))) (.arr k) = t (.arr k) := fun k => upd_ne _ _ (hl k).2.symm
 have hu : Under F ρ' (upd t x (some (.av (.sl id 0 0 0)))) t := .mk' (fun k c hk => by rwa [hvv] at hk) (fun k c hk => by rwa [haa] at hk)
 have hkeep : ∀ {y : AV} {v : Value}, AR F ρ' t w y v → AR F ρ' (upd t x (some (.av (.sl id 0 0 0)))) w y v := by
   intro y v hy; exact hy.ext (Ext.tmps hvv haa)
 have hnew : ∀ v, AR F ρ' t w (.psf []) v → AR F ρ' (upd t x (some (.av (.sl id 0 0 0)))) w (.sl id 0 0 0) v := by
   intro v hv
   cases hv with
   | psf hp =>
     have : ∀ {ad : Option Addr} {n : Nat}, PR w (Stb F ρ' t) (.ps []) (.slice ad n n) → n = 0 := by
       intro ad n hp; generalize hv : Value.slice ad n n = v at hp; generalize hq : PV.ps [] = q at hp
       cases hp with
       | v _ => simp at hq
       | pz => simp at hq
       | nil => simp at hv; omega
       | ps _ _ _ _ _ _ =>
         simp only [PV.ps.injEq] at hq; subst hq; simp at hv; omega
       | pp _ _ _ _ => simp at hq
     have := this hp; subst this; exact .sl ⟨e, sz, [], 0, by rw [haa]; exact hid, by simp, _, 0, rfl, fun _ => ⟨by simp, by simp, by simp, .inl rfl⟩⟩
 refine g1.dn ⟨hu, ?_, ?_, (HClosed.of g1.o).same haa⟩ ?_
 · intro k j c hk
   by_cases e : (Loc.cell k j) = x
   · rw [e] at hk
     simp only [upd_same, Option.some.injEq] at hk; subst hk; refine ⟨?_, .psf [], .sl id 0 0 0, rfl, by rw [e]; exact hxt, hnew⟩
     obtain ⟨_, n, _, _, _, q, _⟩ := g1.o.cell k j _ (by rw [e]; exact hxt)
     rw [hvv, q]; simp
   · rw [upd_ne _ _ e] at hk
     obtain ⟨y, n, _, _, rfl, q, _⟩ := g1.o.cell k j _ hk; exact ⟨by rw [hvv, q]; simp, y, y, rfl, hk, fun v hv => hkeep hv⟩
 · intro k c hk
   by_cases e : (Loc.tmp k) = x
   · rw [e] at hk
     simp only [upd_same, Option.some.injEq] at hk; subst hk; exact ⟨.psf [], .sl id 0 0 0, rfl, by rw [e]; exact hxt, hnew⟩
   · rw [upd_ne _ _ e] at hk
     obtain ⟨y, rfl, _⟩ := g1.tmp k _ hk; exact ⟨y, y, rfl, hk, fun v hv => hkeep hv⟩
 · rw [hG, ← ht, ← lk_ins]
   exact hasB_has hH
def keepT (ks : List Nat) : List (Loc × C) → List (Loc × C)
 | [] => []
 | (.tmp k, c) :: r => if memN k ks = true then (.tmp k, c) :: keepT ks r else keepT ks r
 | p :: r => p :: keepT ks r
def dropped (ks : List Nat) : Loc → Bool
 | .tmp k => !memN k ks
 | _ => false
theorem lk_keepT (ks : List Nat) : ∀ (l : List (Loc × C)) (x : Loc), lk (keepT ks l) x = if dropped ks x = true then none else lk l x
 | [], x => by simp [keepT, lk]
 | (y, c) :: r, x => by
   have ih := lk_keepT ks r x
   cases y with
   | tmp k =>
     simp only [keepT]; split
     · rename_i hm
       simp only [lk, ih]
       by_cases hx : x = .tmp k
       · subst hx; simp [dropped, hm]
       · simp only [hx, if_false]
     · rename_i hm
       rw [ih]
       by_cases hx : x = .tmp k
       · subst hx; simp [dropped, hm]
       · simp only [lk, hx, if_false]
   | _ =>
     simp only [keepT, lk, ih]; split
     · rename_i hx; subst hx; simp [dropped]
     · rfl
theorem keep_rel {ks : List Nat} (hr : Rel F G ρ (lk l) a w) : Rel F G ρ (lk (keepT ks l)) a w := by
 have hat := lk_keepT ks l; have hv : ∀ k, lk (keepT ks l) (.var k) = lk l (.var k) := fun k => by rw [hat, if_neg (by simp [dropped])]
 have ha : ∀ k, lk (keepT ks l) (.arr k) = lk l (.arr k) := fun k => by rw [hat, if_neg (by simp [dropped])]
 have hc : ∀ k j, lk (keepT ks l) (.cell k j) = lk l (.cell k j) := fun k j => by rw [hat, if_neg (by simp [dropped])]
 have hE : Ext F ρ (lk l) w ρ (lk (keepT ks l)) w := .tmps hv ha; refine ⟨hr.o.tmps hv ha hc, ?_, hr.siz, hr.dfr, hr.ext.trans hE, fun id b hl => hr.own id b (by simpa [live, hv, ha] using hl), hr.frm⟩
 intro k c hk; rw [hat] at hk; split at hk
 · simp at hk
 · obtain ⟨x, rfl, hA⟩ := hr.tmp k c hk
   exact ⟨x, rfl, hA.ext hE⟩
end
end Go.Flat
end
