/-
  Proved: whatever loop, rounds, updates, epoch and round LinearRounds is called with, it returns true and leaves its arguments as they were; where what it reads is of bulk at most 1048576.
-/
import Derived.Test.YtgkkoeodinlffaaCFacts
import Derived.Test.YtgkkoeodinlffaaPartM
import Derived.Test.YtgkkoeodinlffaaPartO
set_option linter.unusedVariables false
set_option linter.unusedSimpArgs false
namespace Go.Proofs.Ytgkkoeodinlffaa.LinearRounds
open Go.Flat Go.ChangeShapes Go.WideShapes Go.ChangeAt Go.RowKit
set_option linter.unusedVariables false
theorem own : ownKnob Try.prog.godebug = none := pfOwn
theorem readable : ∀ t ∈ Try.f19.params.toList, Try.prog.readableRec t = true ∧ t < Try.prog.types.size := by
  have h : (Try.f19.params.toList.all fun t => Try.prog.readableRec t && decide (t < Try.prog.types.size)) = true := by kernel_rfl
  rw [List.all_eq_true] at h
  intro t ht
  simpa using h t ht
set_option maxRecDepth 100000 in
theorem contract (H : Type) (enc : TypeId × Value → H) (W : World) (base : Nat) (args : Array Value) (ds gs : List (DataW H)) (before : List MemPlace)
    (hval : ∀ (j : Nat) t v, Try.f19.params[j]? = some t → args[j]? = some v → Value.okWide Try.prog W .any base t v)
    (hW : DataW.Whole enc Try.prog Try.f19.params.toList Rows.linearRoundsSpec.vars false W args.toList ds gs before) (hk : Rows.uptoSmall H (ds ++ gs) = true) :
    Calls Try.prog 19 args W fun e W' => ∃ v, e = .returned v ∧ Rows.linearRoundsSpec.post enc Try.prog Try.f19 false true false false W args v W' := by
  have hW' := hW
  obtain ⟨p, q, hA0, hV, rfl, hfz, hnd⟩ := hW
  have hA : DataW.TrodAll enc Try.prog W 0 (fun _ => true) true Try.f19.params.toList args.toList ds p := hA0
  rw [Try.params19] at hA hval
  obtain ⟨v0, vs0, d0, ds0, p0, q0, hargs, rfl, rfl, h0, tr0⟩ := trodAll_cons hA
  obtain ⟨v1, vs1, d1, ds1, p1, q1, rfl, rfl, rfl, h1, tr1⟩ := trodAll_cons tr0
  obtain ⟨v2, vs2, d2, ds2, p2, q2, rfl, rfl, rfl, h2, tr2⟩ := trodAll_cons tr1
  obtain ⟨v3, vs3, d3, ds3, p3, q3, rfl, rfl, rfl, h3, tr3⟩ := trodAll_cons tr2
  obtain ⟨v4, vs4, d4, ds4, p4, q4, rfl, rfl, rfl, h4, tr4⟩ := trodAll_cons tr3
  obtain ⟨rfl, rfl, rfl⟩ := trodAll_nil tr4
  obtain rfl : args = #[v0, v1, v2, v3, v4] := by cases args; simp_all
  have ok0 := hval 0 3 v0 rfl rfl
  obtain ⟨fu0, x0, pr0, sh0⟩ := arg_pv bulkU okTypes (t := 3) (by decide +kernel) h0 (small_part hk (by simp))
  obtain ⟨l, rfl, hi0⟩ := shp_int sh0 Try.underlying3
  have ar0 := ar_one ok0 (by rw [Try.underlying3]; simp) (by rw [Try.underlying3]; simp) (by rw [Try.underlying3]; simp) pr0
  have ok1 := hval 1 3 v1 rfl rfl
  obtain ⟨fu1, x1, pr1, sh1⟩ := arg_pv bulkU okTypes (t := 3) (by decide +kernel) h1 (small_part hk (by simp))
  obtain ⟨r, rfl, hi1⟩ := shp_int sh1 Try.underlying3
  have ar1 := ar_one ok1 (by rw [Try.underlying3]; simp) (by rw [Try.underlying3]; simp) (by rw [Try.underlying3]; simp) pr1
  have ok2 := hval 2 78 v2 rfl rfl
  obtain ⟨fu2, x2, pr2, sh2⟩ := arg_pv bulkU okTypes (t := 78) (by decide +kernel) h2 (small_part hk (by simp))
  obtain ⟨us, rfl, lus, sus, gus⟩ := shp_ups sh2
  have ar2 := ar_one ok2 (by rw [Try.underlying78]; simp) (by rw [Try.underlying78]; simp) (by rw [Try.underlying78]; simp) pr2
  have ok3 := hval 3 79 v3 rfl rfl
  obtain ⟨fu3, x3, pr3, sh3⟩ := arg_pv bulkU okTypes (t := 79) (by decide +kernel) h3 (small_part hk (by simp))
  obtain ⟨ep, rfl, hi3⟩ := shp_int sh3 Try.underlying79
  have hi3p : 0 ≤ ep := by simp [Lit.wf, IntKind.min, IntKind.max, IntKind.signed, IntKind.bits] at hi3; omega
  have ar3 := ar_one ok3 (by rw [Try.underlying79]; simp) (by rw [Try.underlying79]; simp) (by rw [Try.underlying79]; simp) pr3
  have ok4 := hval 4 79 v4 rfl rfl
  obtain ⟨fu4, x4, pr4, sh4⟩ := arg_pv bulkU okTypes (t := 79) (by decide +kernel) h4 (small_part hk (by simp))
  obtain ⟨rd, rfl, hi4⟩ := shp_int sh4 Try.underlying79
  have hi4p : 0 ≤ rd := by simp [Lit.wf, IntKind.min, IntKind.max, IntKind.signed, IntKind.bits] at hi4; omega
  have ar4 := ar_one ok4 (by rw [Try.underlying79]; simp) (by rw [Try.underlying79]; simp) (by rw [Try.underlying79]; simp) pr4
  refine row_post (P := Try.prog) (fn := Try.f19) (tb := 4) laidTypes readable Try.underlying4 rfl rfl hW' rfl (spec19 l r us lus sus gus ep rd hi4p) rfl ?_
  intro j x v hx hv
  match j, hx, hv with
  | 0, hx, hv => simp at hx hv; subst hx; subst hv; exact ar0
  | 1, hx, hv => simp at hx hv; subst hx; subst hv; exact ar1
  | 2, hx, hv => simp at hx hv; subst hx; subst hv; exact ar2
  | 3, hx, hv => simp at hx hv; subst hx; subst hv; exact ar3
  | 4, hx, hv => simp at hx hv; subst hx; subst hv; exact ar4
  | j + 5, hx, hv => simp at hv
set_option maxRecDepth 100000 in
theorem lifted (os : Os) (started : os.Started) (H : Type) (enc : TypeId × Value → H) (F : Stop.Interp) :
    ReturnsInHanded {} Try.checked os 19 .any ((Rows.OpenSpec.upto Rows.linearRoundsSpec).pre6 enc Try.prog Try.f19 Rows.linearRoundsUptoRow.domain false) (((Rows.OpenSpec.upto Rows.linearRoundsSpec).at F).post enc Try.prog Try.f19 false true false false) := by
  refine returnsInHanded_of_cond (C := Try.checked) (s := Rows.OpenSpec.upto Rows.linearRoundsSpec) (k := Rows.uptoSmall) rfl own started (by kernel_rfl) Try.func19
    (OpenSpec.witness (enc := enc) (C := Try.checked) (s := Rows.OpenSpec.upto Rows.linearRoundsSpec) (k := Rows.uptoSmall) rfl false ⟨#[], #[.int .i64 0, .int .i64 0, .slice none 0 0, .int .u64 0, .int .u64 0], []⟩ 8 (by kernel_rfl) (by kernel_rfl) (by kernel_rfl)
      (x := ([.lit (.int .i64 0), .lit (.int .i64 0), .nil, .lit (.int .u64 0), .lit (.int .u64 0)], [], [])) (by kernel_rfl) rfl (by kernel_rfl)) ?_
  intro W base args ds gs before hval hW _ hk _
  exact contract H enc W base args ds gs before hval hW hk
theorem k10 : (Rows.linearRoundsUptoRow.inPlace == Try.prog.inPlace 19) = true := by kernel_rfl
theorem k11 : (Rows.linearRoundsUptoRow.unfollowed == Try.prog.unfollowed 19) = true := by kernel_rfl
theorem k12 : (Rows.linearRoundsUptoRow.recurses == Try.prog.recurses 19) = true := by kernel_rfl
theorem k13 : (Rows.linearRoundsUptoRow.named == Try.prog.varsNamed 19) = true := by kernel_rfl
theorem k0 : Try.prog.funcNamed Rows.linearRoundsUptoRow.func = some 19 := by kernel_rfl
theorem closed : joinedFacts Try.prog 19 Try.f19 (Rows.OpenSpec.upto Rows.linearRoundsSpec).bare Rows.linearRoundsUptoRow = true :=
  closed_of (by kernel_rfl) pfLaid pfMaps (by kernel_rfl) (by kernel_rfl) (by kernel_rfl) pfStops (by kernel_rfl) pfKnobs k10 k11 k12 k13 (by kernel_rfl) (by kernel_rfl) (by kernel_rfl) (by kernel_rfl) (by kernel_rfl) (by kernel_rfl) (by kernel_rfl) (by kernel_rfl) (by kernel_rfl)
    (by rw [pfKeys]; rfl) rfl pfHeard pfEnter (by rw [pfLift]; rfl) pfMake (by kernel_rfl) (by kernel_rfl) (by kernel_rfl) (by kernel_rfl)
theorem over : Rows.linearRoundsUptoRow.holds Try.pinned (Rows.OpenSpec.upto Rows.linearRoundsSpec) :=
  OpenClaim.holds_of_cond 19 Try.f19 rfl rfl rfl rfl rfl rfl rfl ⟨rfl, rfl, rfl, rfl, rfl⟩ rfl rfl rfl rfl rfl k0 Try.func19 closed
    (of_decide_eq_true (by kernel_rfl)) (by unfold Func.isWrapper; first | (rw [if_pos (by decide +kernel)]; kernel_rfl) | (rw [if_neg (by decide +kernel)]; exact ⟨rfl, rfl⟩))
    (fun os started H enc _ F => lifted os started H enc F)
theorem proved : Rows.LinearRoundsUptoSaid := over
end Go.Proofs.Ytgkkoeodinlffaa.LinearRounds
