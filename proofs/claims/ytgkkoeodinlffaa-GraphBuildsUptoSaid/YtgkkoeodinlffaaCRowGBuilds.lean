/-
  Proved: whatever plan and schemas GraphBuilds is called with, it returns true and leaves its arguments as they were; where what it reads is of bulk at most 1048576.
-/
import Derived.Test.YtgkkoeodinlffaaCFacts
import Derived.Test.YtgkkoeodinlffaaPartI
import Derived.Test.YtgkkoeodinlffaaPartM
set_option linter.unusedVariables false
set_option linter.unusedSimpArgs false
namespace Go.Proofs.Ytgkkoeodinlffaa.GraphBuilds
open Go.Flat Go.ChangeShapes Go.WideShapes Go.ChangeAt Go.RowKit
set_option linter.unusedVariables false
theorem own : ownKnob Try.prog.godebug = none := pfOwn
theorem readable : ∀ t ∈ Try.f11.params.toList, Try.prog.readableRec t = true ∧ t < Try.prog.types.size := by
  have h : (Try.f11.params.toList.all fun t => Try.prog.readableRec t && decide (t < Try.prog.types.size)) = true := by kernel_rfl
  rw [List.all_eq_true] at h
  intro t ht
  simpa using h t ht
set_option maxRecDepth 100000 in
theorem contract (H : Type) (enc : TypeId × Value → H) (W : World) (base : Nat) (args : Array Value) (ds gs : List (DataW H)) (before : List MemPlace)
    (hval : ∀ (j : Nat) t v, Try.f11.params[j]? = some t → args[j]? = some v → Value.okWide Try.prog W .any base t v)
    (hW : DataW.Whole enc Try.prog Try.f11.params.toList Rows.graphBuildsSpec.vars false W args.toList ds gs before) (hk : Rows.uptoSmall H (ds ++ gs) = true) :
    Calls Try.prog 11 args W fun e W' => ∃ v, e = .returned v ∧ Rows.graphBuildsSpec.post enc Try.prog Try.f11 false true false false W args v W' := by
  have hW' := hW
  obtain ⟨p, q, hA0, hV, rfl, hfz, hnd⟩ := hW
  have hA : DataW.TrodAll enc Try.prog W 0 (fun _ => true) true Try.f11.params.toList args.toList ds p := hA0
  rw [Try.params11] at hA hval
  obtain ⟨v0, vs0, d0, ds0, p0, q0, hargs, rfl, rfl, h0, tr0⟩ := trodAll_cons hA
  obtain ⟨v1, vs1, d1, ds1, p1, q1, rfl, rfl, rfl, h1, tr1⟩ := trodAll_cons tr0
  obtain ⟨rfl, rfl, rfl⟩ := trodAll_nil tr1
  obtain rfl : args = #[v0, v1] := by cases args; simp_all
  have ok0 := hval 0 52 v0 rfl rfl
  obtain ⟨fu0, x0, pr0, sh0⟩ := arg_pv bulkU okTypes (t := 52) (by decide +kernel) h0 (small_part hk (by simp))
  obtain ⟨fw0, y0, pw0, sw0, ww0⟩ := arg_pvw bulkW okTypes (t := 52) (by decide +kernel) h0 (small_part hk (by simp))
  have sm0 := small_part hk (d := d0) (by simp)
  obtain ⟨⟨k, m, kids, ex, cols, wth, agg, rds⟩, rfl, hb⟩ := shp_plan fw0 sw0
  have hrg := shp_rng fw0 _ sw0
  have hsz : (Pl.mk k m kids ex cols wth agg rds).size ≤ 2 ^ 38 := by have := Pl.size_w (Pl.mk k m kids ex cols wth agg rds); omega
  have ar0 : AR F0 r0 (lk []) W (Pl.mk k m kids ex cols wth agg rds).av v0 := by rw [Pl.av_row]; exact ar_agg ok0 Try.underlying52 pw0
  have ok1 := hval 1 53 v1 rfl rfl
  obtain ⟨fu1, x1, pr1, sh1⟩ := arg_pv bulkU okTypes (t := 53) (by decide +kernel) h1 (small_part hk (by simp))
  obtain ⟨ss, rfl, hss⟩ := shp_schI sh1
  have ar1 := ar_one ok1 (by rw [Try.underlying53]; simp) (by rw [Try.underlying53]; simp) (by rw [Try.underlying53]; simp) pr1
  refine row_post (P := Try.prog) (fn := Try.f11) (tb := 4) laidTypes readable Try.underlying4 rfl rfl hW' rfl (spec11r k m kids ex cols wth agg rds hb hrg hsz ss hss.1 hss.2) rfl ?_
  intro j x v hx hv
  match j, hx, hv with
  | 0, hx, hv => simp at hx hv; subst hx; subst hv; exact ar0
  | 1, hx, hv => simp at hx hv; subst hx; subst hv; exact ar1
  | j + 2, hx, hv => simp at hv
set_option maxRecDepth 100000 in
theorem lifted (os : Os) (started : os.Started) (H : Type) (enc : TypeId × Value → H) (F : Stop.Interp) :
    ReturnsInHanded {} Try.checked os 11 .any ((Rows.OpenSpec.upto Rows.graphBuildsSpec).pre6 enc Try.prog Try.f11 Rows.graphBuildsUptoRow.domain false) (((Rows.OpenSpec.upto Rows.graphBuildsSpec).at F).post enc Try.prog Try.f11 false true false false) := by
  refine returnsInHanded_of_cond (C := Try.checked) (s := Rows.OpenSpec.upto Rows.graphBuildsSpec) (k := Rows.uptoSmall) rfl own started (by kernel_rfl) Try.func11
    (OpenSpec.witness (enc := enc) (C := Try.checked) (s := Rows.OpenSpec.upto Rows.graphBuildsSpec) (k := Rows.uptoSmall) rfl false ⟨#[], #[.agg #[.int .u8 0, .int .i64 0, .slice none 0 0, .slice none 0 0, .slice none 0 0, .slice none 0 0, .int .u8 0, .int .i64 0], .slice none 0 0], []⟩ 8 (by kernel_rfl) (by kernel_rfl) (by kernel_rfl)
      (x := ([.agg [.lit (.int .u8 0), .lit (.int .i64 0), .nil, .nil, .nil, .nil, .lit (.int .u8 0), .lit (.int .i64 0)], .nil], [], [])) (by kernel_rfl) rfl (by kernel_rfl)) ?_
  intro W base args ds gs before hval hW _ hk _
  exact contract H enc W base args ds gs before hval hW hk
theorem k10 : (Rows.graphBuildsUptoRow.inPlace == Try.prog.inPlace 11) = true := by kernel_rfl
theorem k11 : (Rows.graphBuildsUptoRow.unfollowed == Try.prog.unfollowed 11) = true := by kernel_rfl
theorem k12 : (Rows.graphBuildsUptoRow.recurses == Try.prog.recurses 11) = true := by kernel_rfl
theorem k13 : (Rows.graphBuildsUptoRow.named == Try.prog.varsNamed 11) = true := by kernel_rfl
theorem k0 : Try.prog.funcNamed Rows.graphBuildsUptoRow.func = some 11 := by kernel_rfl
theorem closed : joinedFacts Try.prog 11 Try.f11 (Rows.OpenSpec.upto Rows.graphBuildsSpec).bare Rows.graphBuildsUptoRow = true :=
  closed_of (by kernel_rfl) pfLaid pfMaps (by kernel_rfl) (by kernel_rfl) (by kernel_rfl) pfStops (by kernel_rfl) pfKnobs k10 k11 k12 k13 (by kernel_rfl) (by kernel_rfl) (by kernel_rfl) (by kernel_rfl) (by kernel_rfl) (by kernel_rfl) (by kernel_rfl) (by kernel_rfl) (by kernel_rfl)
    (by rw [pfKeys]; rfl) rfl pfHeard pfEnter (by rw [pfLift]; rfl) pfMake (by kernel_rfl) (by kernel_rfl) (by kernel_rfl) (by kernel_rfl)
theorem over : Rows.graphBuildsUptoRow.holds Try.pinned (Rows.OpenSpec.upto Rows.graphBuildsSpec) :=
  OpenClaim.holds_of_cond 11 Try.f11 rfl rfl rfl rfl rfl rfl rfl ⟨rfl, rfl, rfl, rfl, rfl⟩ rfl rfl rfl rfl rfl k0 Try.func11 closed
    (of_decide_eq_true (by kernel_rfl)) (by unfold Func.isWrapper; first | (rw [if_pos (by decide +kernel)]; kernel_rfl) | (rw [if_neg (by decide +kernel)]; exact ⟨rfl, rfl⟩))
    (fun os started H enc _ F => lifted os started H enc F)
theorem proved : Rows.GraphBuildsUptoSaid := over
end Go.Proofs.Ytgkkoeodinlffaa.GraphBuilds
