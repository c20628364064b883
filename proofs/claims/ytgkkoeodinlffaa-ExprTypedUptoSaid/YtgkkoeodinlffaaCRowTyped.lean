/-
  Proved: whatever expression and row ExprTyped is called with, it returns true and leaves its arguments as they were; where what it reads is of bulk at most 1048576.
-/
import Derived.Test.YtgkkoeodinlffaaCFacts
import Derived.Test.YtgkkoeodinlffaaPartL
import Derived.Test.YtgkkoeodinlffaaPartH
set_option linter.unusedVariables false
set_option linter.unusedSimpArgs false
namespace Go.Proofs.Ytgkkoeodinlffaa.ExprTyped
open Go.Flat Go.ChangeShapes Go.WideShapes Go.ChangeAt Go.RowKit
set_option linter.unusedVariables false
theorem own : ownKnob Try.prog.godebug = none := pfOwn
theorem readable : ∀ t ∈ Try.f7.params.toList, Try.prog.readableRec t = true ∧ t < Try.prog.types.size := by
  have h : (Try.f7.params.toList.all fun t => Try.prog.readableRec t && decide (t < Try.prog.types.size)) = true := by kernel_rfl
  rw [List.all_eq_true] at h
  intro t ht
  simpa using h t ht
set_option maxRecDepth 100000 in
theorem contract (H : Type) (enc : TypeId × Value → H) (W : World) (base : Nat) (args : Array Value) (ds gs : List (DataW H)) (before : List MemPlace)
    (hval : ∀ (j : Nat) t v, Try.f7.params[j]? = some t → args[j]? = some v → Value.okWide Try.prog W .any base t v)
    (hW : DataW.Whole enc Try.prog Try.f7.params.toList Rows.exprTypedSpec.vars false W args.toList ds gs before) (hk : Rows.uptoSmall H (ds ++ gs) = true) :
    Calls Try.prog 7 args W fun e W' => ∃ v, e = .returned v ∧ Rows.exprTypedSpec.post enc Try.prog Try.f7 false true false false W args v W' := by
  have hW' := hW
  obtain ⟨p, q, hA0, hV, rfl, hfz, hnd⟩ := hW
  have hA : DataW.TrodAll enc Try.prog W 0 (fun _ => true) true Try.f7.params.toList args.toList ds p := hA0
  rw [Try.params7] at hA hval
  obtain ⟨v0, vs0, d0, ds0, p0, q0, hargs, rfl, rfl, h0, tr0⟩ := trodAll_cons hA
  obtain ⟨v1, vs1, d1, ds1, p1, q1, rfl, rfl, rfl, h1, tr1⟩ := trodAll_cons tr0
  obtain ⟨rfl, rfl, rfl⟩ := trodAll_nil tr1
  obtain rfl : args = #[v0, v1] := by cases args; simp_all
  have ok0 := hval 0 27 v0 rfl rfl
  obtain ⟨fu0, x0, pr0, sh0⟩ := arg_pv bulkU okTypes (t := 27) (by decide +kernel) h0 (small_part hk (by simp))
  obtain ⟨⟨op, col, c, kids⟩, rfl⟩ := shp_expr fu0 sh0
  have ar0 : AR F0 r0 (lk []) W (E.mk op col c kids).av v0 := by rw [E.av_row]; exact ar_agg ok0 Try.underlying27 pr0
  have ok1 := hval 1 28 v1 rfl rfl
  obtain ⟨fu1, x1, pr1, sh1⟩ := arg_pv bulkU okTypes (t := 28) (by decide +kernel) h1 (small_part hk (by simp))
  obtain ⟨row, rfl, hrow, hrw⟩ := shp_row sh1
  have hrow : row.length ≤ Flat.lim := Nat.le_trans hrow (by decide)
  have ar1 := ar_one ok1 (by rw [Try.underlying28]; simp) (by rw [Try.underlying28]; simp) (by rw [Try.underlying28]; simp) pr1
  refine row_post (P := Try.prog) (fn := Try.f7) (tb := 4) laidTypes readable Try.underlying4 rfl rfl hW' rfl (spec7 op col c kids row hrow) rfl ?_
  intro j x v hx hv
  match j, hx, hv with
  | 0, hx, hv => simp at hx hv; subst hx; subst hv; exact ar0
  | 1, hx, hv => simp at hx hv; subst hx; subst hv; exact ar1
  | j + 2, hx, hv => simp at hv
set_option maxRecDepth 100000 in
theorem lifted (os : Os) (started : os.Started) (H : Type) (enc : TypeId × Value → H) (F : Stop.Interp) :
    ReturnsInHanded {} Try.checked os 7 .any ((Rows.OpenSpec.upto Rows.exprTypedSpec).pre6 enc Try.prog Try.f7 Rows.exprTypedUptoRow.domain false) (((Rows.OpenSpec.upto Rows.exprTypedSpec).at F).post enc Try.prog Try.f7 false true false false) := by
  refine returnsInHanded_of_cond (C := Try.checked) (s := Rows.OpenSpec.upto Rows.exprTypedSpec) (k := Rows.uptoSmall) rfl own started (by kernel_rfl) Try.func7
    (OpenSpec.witness (enc := enc) (C := Try.checked) (s := Rows.OpenSpec.upto Rows.exprTypedSpec) (k := Rows.uptoSmall) rfl false ⟨#[], #[.agg #[.int .u8 0, .int .i64 0, .bool false, .int .i64 0, .string ⟨#[]⟩, .slice none 0 0], .slice none 0 0], []⟩ 8 (by kernel_rfl) (by kernel_rfl) (by kernel_rfl)
      (x := ([.agg [.lit (.int .u8 0), .lit (.int .i64 0), .agg [.lit (.bool false), .lit (.int .i64 0), .lit (.string [])], .nil], .nil], [], [])) (by kernel_rfl) rfl (by kernel_rfl)) ?_
  intro W base args ds gs before hval hW _ hk _
  exact contract H enc W base args ds gs before hval hW hk
theorem k10 : (Rows.exprTypedUptoRow.inPlace == Try.prog.inPlace 7) = true := by kernel_rfl
theorem k11 : (Rows.exprTypedUptoRow.unfollowed == Try.prog.unfollowed 7) = true := by kernel_rfl
theorem k12 : (Rows.exprTypedUptoRow.recurses == Try.prog.recurses 7) = true := by kernel_rfl
theorem k13 : (Rows.exprTypedUptoRow.named == Try.prog.varsNamed 7) = true := by kernel_rfl
theorem k0 : Try.prog.funcNamed Rows.exprTypedUptoRow.func = some 7 := by kernel_rfl
theorem closed : joinedFacts Try.prog 7 Try.f7 (Rows.OpenSpec.upto Rows.exprTypedSpec).bare Rows.exprTypedUptoRow = true :=
  closed_of (by kernel_rfl) pfLaid pfMaps (by kernel_rfl) (by kernel_rfl) (by kernel_rfl) pfStops (by kernel_rfl) pfKnobs k10 k11 k12 k13 (by kernel_rfl) (by kernel_rfl) (by kernel_rfl) (by kernel_rfl) (by kernel_rfl) (by kernel_rfl) (by kernel_rfl) (by kernel_rfl) (by kernel_rfl)
    (by rw [pfKeys]; rfl) rfl pfHeard pfEnter (by rw [pfLift]; rfl) pfMake (by kernel_rfl) (by kernel_rfl) (by kernel_rfl) (by kernel_rfl)
theorem over : Rows.exprTypedUptoRow.holds Try.pinned (Rows.OpenSpec.upto Rows.exprTypedSpec) :=
  OpenClaim.holds_of_cond 7 Try.f7 rfl rfl rfl rfl rfl rfl rfl ⟨rfl, rfl, rfl, rfl, rfl⟩ rfl rfl rfl rfl rfl k0 Try.func7 closed
    (of_decide_eq_true (by kernel_rfl)) (by unfold Func.isWrapper; first | (rw [if_pos (by decide +kernel)]; kernel_rfl) | (rw [if_neg (by decide +kernel)]; exact ⟨rfl, rfl⟩))
    (fun os started H enc _ F => lifted os started H enc F)
theorem proved : Rows.ExprTypedUptoSaid := over
end Go.Proofs.Ytgkkoeodinlffaa.ExprTyped
