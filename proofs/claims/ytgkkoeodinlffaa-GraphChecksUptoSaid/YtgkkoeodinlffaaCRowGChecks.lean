/-
  Proved: whatever nodes GraphChecks is called with, it returns true and leaves its argument as it was; where what it reads is of bulk at most 1048576.
-/
import Derived.Test.YtgkkoeodinlffaaCFacts
import Derived.Test.YtgkkoeodinlffaaPartI
import Derived.Test.YtgkkoeodinlffaaPartM
set_option linter.unusedVariables false
set_option linter.unusedSimpArgs false
namespace Go.Proofs.Ytgkkoeodinlffaa.GraphChecks
open Go.Flat Go.ChangeShapes Go.WideShapes Go.ChangeAt Go.RowKit
set_option linter.unusedVariables false
theorem own : ownKnob Try.prog.godebug = none := pfOwn
theorem readable : ∀ t ∈ Try.f12.params.toList, Try.prog.readableRec t = true ∧ t < Try.prog.types.size := by
  have h : (Try.f12.params.toList.all fun t => Try.prog.readableRec t && decide (t < Try.prog.types.size)) = true := by kernel_rfl
  rw [List.all_eq_true] at h
  intro t ht
  simpa using h t ht
set_option maxRecDepth 100000 in
theorem contract (H : Type) (enc : TypeId × Value → H) (W : World) (base : Nat) (args : Array Value) (ds gs : List (DataW H)) (before : List MemPlace)
    (hval : ∀ (j : Nat) t v, Try.f12.params[j]? = some t → args[j]? = some v → Value.okWide Try.prog W .any base t v)
    (hW : DataW.Whole enc Try.prog Try.f12.params.toList Rows.graphChecksSpec.vars false W args.toList ds gs before) (hk : Rows.uptoSmall H (ds ++ gs) = true) :
    Calls Try.prog 12 args W fun e W' => ∃ v, e = .returned v ∧ Rows.graphChecksSpec.post enc Try.prog Try.f12 false true false false W args v W' := by
  have hW' := hW
  obtain ⟨p, q, hA0, hV, rfl, hfz, hnd⟩ := hW
  have hA : DataW.TrodAll enc Try.prog W 0 (fun _ => true) true Try.f12.params.toList args.toList ds p := hA0
  rw [Try.params12] at hA hval
  obtain ⟨v0, vs0, d0, ds0, p0, q0, hargs, rfl, rfl, h0, tr0⟩ := trodAll_cons hA
  obtain ⟨rfl, rfl, rfl⟩ := trodAll_nil tr0
  obtain rfl : args = #[v0] := by cases args; simp_all
  have ok0 := hval 0 63 v0 rfl rfl
  obtain ⟨fu0, x0, pr0, sh0⟩ := arg_pv bulkU okTypes (t := 63) (by decide +kernel) h0 (small_part hk (by simp))
  obtain ⟨ns, rfl, hns⟩ := shp_nodes sh0
  have ar0 := ar_one ok0 (by rw [Try.underlying63]; simp) (by rw [Try.underlying63]; simp) (by rw [Try.underlying63]; simp) pr0
  refine row_post (P := Try.prog) (fn := Try.f12) (tb := 4) laidTypes readable Try.underlying4 rfl rfl hW' rfl (spec12 ns hns) rfl ?_
  intro j x v hx hv
  match j, hx, hv with
  | 0, hx, hv => simp at hx hv; subst hx; subst hv; exact ar0
  | j + 1, hx, hv => simp at hv
set_option maxRecDepth 100000 in
theorem lifted (os : Os) (started : os.Started) (H : Type) (enc : TypeId × Value → H) (F : Stop.Interp) :
    ReturnsInHanded {} Try.checked os 12 .any ((Rows.OpenSpec.upto Rows.graphChecksSpec).pre6 enc Try.prog Try.f12 Rows.graphChecksUptoRow.domain false) (((Rows.OpenSpec.upto Rows.graphChecksSpec).at F).post enc Try.prog Try.f12 false true false false) := by
  refine returnsInHanded_of_cond (C := Try.checked) (s := Rows.OpenSpec.upto Rows.graphChecksSpec) (k := Rows.uptoSmall) rfl own started (by kernel_rfl) Try.func12
    (OpenSpec.witness (enc := enc) (C := Try.checked) (s := Rows.OpenSpec.upto Rows.graphChecksSpec) (k := Rows.uptoSmall) rfl false ⟨#[], #[.slice none 0 0], []⟩ 8 (by kernel_rfl) (by kernel_rfl) (by kernel_rfl)
      (x := ([.nil], [], [])) (by kernel_rfl) rfl (by kernel_rfl)) ?_
  intro W base args ds gs before hval hW _ hk _
  exact contract H enc W base args ds gs before hval hW hk
theorem k10 : (Rows.graphChecksUptoRow.inPlace == Try.prog.inPlace 12) = true := by kernel_rfl
theorem k11 : (Rows.graphChecksUptoRow.unfollowed == Try.prog.unfollowed 12) = true := by kernel_rfl
theorem k12 : (Rows.graphChecksUptoRow.recurses == Try.prog.recurses 12) = true := by kernel_rfl
theorem k13 : (Rows.graphChecksUptoRow.named == Try.prog.varsNamed 12) = true := by kernel_rfl
theorem k0 : Try.prog.funcNamed Rows.graphChecksUptoRow.func = some 12 := by kernel_rfl
theorem closed : joinedFacts Try.prog 12 Try.f12 (Rows.OpenSpec.upto Rows.graphChecksSpec).bare Rows.graphChecksUptoRow = true :=
  closed_of (by kernel_rfl) pfLaid pfMaps (by kernel_rfl) (by kernel_rfl) (by kernel_rfl) pfStops (by kernel_rfl) pfKnobs k10 k11 k12 k13 (by kernel_rfl) (by kernel_rfl) (by kernel_rfl) (by kernel_rfl) (by kernel_rfl) (by kernel_rfl) (by kernel_rfl) (by kernel_rfl) (by kernel_rfl)
    (by rw [pfKeys]; rfl) rfl pfHeard pfEnter (by rw [pfLift]; rfl) pfMake (by kernel_rfl) (by kernel_rfl) (by kernel_rfl) (by kernel_rfl)
theorem over : Rows.graphChecksUptoRow.holds Try.pinned (Rows.OpenSpec.upto Rows.graphChecksSpec) :=
  OpenClaim.holds_of_cond 12 Try.f12 rfl rfl rfl rfl rfl rfl rfl ⟨rfl, rfl, rfl, rfl, rfl⟩ rfl rfl rfl rfl rfl k0 Try.func12 closed
    (of_decide_eq_true (by kernel_rfl)) (by unfold Func.isWrapper; first | (rw [if_pos (by decide +kernel)]; kernel_rfl) | (rw [if_neg (by decide +kernel)]; exact ⟨rfl, rfl⟩))
    (fun os started H enc _ F => lifted os started H enc F)
theorem proved : Rows.GraphChecksUptoSaid := over
end Go.Proofs.Ytgkkoeodinlffaa.GraphChecks
