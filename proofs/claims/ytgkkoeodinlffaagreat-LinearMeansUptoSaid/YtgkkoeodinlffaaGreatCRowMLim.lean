/-
  Proved: whatever plan, updates, time and schema LinearMeans is called with, it returns true and leaves its arguments as they were; where what it reads is of bulk at most 1048576.
-/
import Derived.Test.YtgkkoeodinlffaaGreatCFacts
import Derived.Test.YtgkkoeodinlffaaGreatPartQ
set_option linter.unusedVariables false
set_option linter.unusedSimpArgs false
namespace Go.Proofs.YtgkkoeodinlffaaGreat.LinearMeans
open Go.Flat Go.ChangeShapes Go.WideShapes Go.ChangeAt Go.RowKit
theorem own : ownKnob Tryz.prog.godebug = none := pfOwn
theorem readable : ∀ t ∈ Tryz.f10.params.toList, Tryz.prog.readableRec t = true ∧ t < Tryz.prog.types.size := by
 have h : (Tryz.f10.params.toList.all fun t => Tryz.prog.readableRec t && decide (t < Tryz.prog.types.size)) = true := by kernel_rfl
 rw [List.all_eq_true] at h; intro t ht
 simpa using h t ht
set_option maxRecDepth 100000 in
theorem contract (H : Type) (enc : TypeId × Value → H) (W : World) (base : Nat) (args : Array Value) (ds gs : List (DataW H)) (before : List MemPlace)
   (hval : ∀ (j : Nat) t v, Tryz.f10.params[j]? = some t → args[j]? = some v → Value.okWide Tryz.prog W .any base t v)
   (hW : DataW.Whole enc Tryz.prog Tryz.f10.params.toList Rows.linearMeansSpec.vars false W args.toList ds gs before) (hk : Rows.uptoSmall H (ds ++ gs) = true) :
   Calls Tryz.prog 10 args W fun e W' => ∃ v, e = .returned v ∧ Rows.linearMeansSpec.post enc Tryz.prog Tryz.f10 false true false false W args v W' := by
 have hW' := hW; obtain ⟨p, q, hA0, hV, rfl, hfz, hnd⟩ := hW; have hA : DataW.TrodAll enc Tryz.prog W 0 (fun _ => true) true Tryz.f10.params.toList args.toList ds p := hA0
 rw [Tryz.params10] at hA hval; obtain ⟨v0, vs0, d0, ds0, p0, q0, hargs, rfl, rfl, h0, tr0⟩ := trodAll_cons hA; obtain ⟨v1, vs1, d1, ds1, p1, q1, rfl, rfl, rfl, h1, tr1⟩ := trodAll_cons tr0; obtain ⟨v2, vs2, d2, ds2, p2, q2, rfl, rfl, rfl, h2, tr2⟩ := trodAll_cons tr1; obtain ⟨v3, vs3, d3, ds3, p3, q3, rfl, rfl, rfl, h3, tr3⟩ := trodAll_cons tr2; obtain ⟨rfl, rfl, rfl⟩ := trodAll_nil tr3; obtain rfl : args = #[v0, v1, v2, v3] := by cases args; simp_all
 have ok0 := hval 0 61 v0 rfl rfl; obtain ⟨fu0, x0, pr0, sh0⟩ := arg_pv bulkU okTypes (t := 61) (by decide +kernel) h0 (small_part hk (by simp))
 obtain ⟨⟨k, m, kids, ex, cols, wth, agg, rds⟩, rfl, hb⟩ := shp_plan fu0 sh0; have ar0 : AR F0 r0 (lk []) W (Pl.mk k m kids ex cols wth agg rds).av v0 := by rw [Pl.av_row]; exact ar_agg ok0 Tryz.underlying61 pr0
 have ok1 := hval 1 30 v1 rfl rfl; obtain ⟨fu1, x1, pr1, sh1⟩ := arg_pv bulkU okTypes (t := 30) (by decide +kernel) h1 (small_part hk (by simp))
 obtain ⟨us, rfl, hus⟩ := shp_ups sh1; have ar1 := ar_one ok1 (by rw [Tryz.underlying30]; simp) (by rw [Tryz.underlying30]; simp) (by rw [Tryz.underlying30]; simp) pr1
 have ok2 := hval 2 35 v2 rfl rfl; obtain ⟨fu2, x2, pr2, sh2⟩ := arg_pv bulkU okTypes (t := 35) (by decide +kernel) h2 (small_part hk (by simp))
 obtain ⟨tm, rfl⟩ := shp_time sh2; have ar2 : AR F0 r0 (lk []) W tm.av v2 := ar_agg ok2 Tryz.underlying35 pr2; have ok3 := hval 3 67 v3 rfl rfl; obtain ⟨fu3, x3, pr3, sh3⟩ := arg_pv bulkU okTypes (t := 67) (by decide +kernel) h3 (small_part hk (by simp))
 obtain ⟨ts, rfl, hts⟩ := shp_types sh3; have ar3 := ar_one ok3 (by rw [Tryz.underlying67]; simp) (by rw [Tryz.underlying67]; simp) (by rw [Tryz.underlying67]; simp) pr3
 refine row_post (P := Tryz.prog) (fn := Tryz.f10) (tb := 4) laidTypes readable Tryz.underlying4 rfl rfl hW' rfl (zs10_all k m kids ex cols wth agg rds hb us hus.1 hus.2.1 hus.2.2 tm ts) rfl ?_; intro j x v hx hv
 match j, hx, hv with
 | 0, hx, hv => simp at hx hv; subst hx; subst hv; exact ar0
 | 1, hx, hv => simp at hx hv; subst hx; subst hv; exact ar1
 | 2, hx, hv => simp at hx hv; subst hx; subst hv; exact ar2
 | 3, hx, hv => simp at hx hv; subst hx; subst hv; exact ar3
 | j + 4, hx, hv => simp at hv
set_option maxRecDepth 100000 in
theorem lifted (os : Os) (started : os.Started) (H : Type) (enc : TypeId × Value → H) (F : Stop.Interp) :
   ReturnsInHanded {} Tryz.checked os 10 .any ((Rows.OpenSpec.upto Rows.linearMeansSpec).pre6 enc Tryz.prog Tryz.f10 Rows.linearMeansUptoRow.domain false) (((Rows.OpenSpec.upto Rows.linearMeansSpec).at F).post enc Tryz.prog Tryz.f10 false true false false) := by
 refine returnsInHanded_of_cond (C := Tryz.checked) (s := Rows.OpenSpec.upto Rows.linearMeansSpec) (k := Rows.uptoSmall) rfl own started (by kernel_rfl) Tryz.func10
   (OpenSpec.witness (enc := enc) (C := Tryz.checked) (s := Rows.OpenSpec.upto Rows.linearMeansSpec) (k := Rows.uptoSmall) rfl false ⟨#[], #[.agg #[.int .u8 0, .int .i64 0, .slice none 0 0, .slice none 0 0, .slice none 0 0, .slice none 0 0, .int .u8 0, .int .i64 0], .slice none 0 0, .agg #[.int .u64 0, .int .u64 0, .int .u64 0], .slice none 0 0], []⟩ 8 (by kernel_rfl) (by kernel_rfl) (by kernel_rfl)
     (x := ([.agg [.lit (.int .u8 0), .lit (.int .i64 0), .nil, .nil, .nil, .nil, .lit (.int .u8 0), .lit (.int .i64 0)], .nil, .agg [.lit (.int .u64 0), .agg [.lit (.int .u64 0), .lit (.int .u64 0)]], .nil], [], [])) (by kernel_rfl) rfl (by kernel_rfl)) ?_
 intro W base args ds gs before hval hW _ hk _; exact contract H enc W base args ds gs before hval hW hk
theorem k10 : (Rows.linearMeansUptoRow.inPlace == Tryz.prog.inPlace 10) = true := by kernel_rfl
theorem k11 : (Rows.linearMeansUptoRow.unfollowed == Tryz.prog.unfollowed 10) = true := by kernel_rfl
theorem k12 : (Rows.linearMeansUptoRow.recurses == Tryz.prog.recurses 10) = true := by kernel_rfl
theorem k13 : (Rows.linearMeansUptoRow.named == Tryz.prog.varsNamed 10) = true := by kernel_rfl
theorem k0 : Tryz.prog.funcNamed Rows.linearMeansUptoRow.func = some 10 := by kernel_rfl
theorem closed : joinedFacts Tryz.prog 10 Tryz.f10 (Rows.OpenSpec.upto Rows.linearMeansSpec).bare Rows.linearMeansUptoRow = true :=
 closed_of (by kernel_rfl) pfLaid pfMaps (by kernel_rfl) (by kernel_rfl) (by kernel_rfl) pfStops (by kernel_rfl) pfKnobs k10 k11 k12 k13 (by kernel_rfl) (by kernel_rfl) (by kernel_rfl) (by kernel_rfl) (by kernel_rfl) (by kernel_rfl) (by kernel_rfl) (by kernel_rfl) (by kernel_rfl)
   (by rw [pfKeys]; rfl) rfl pfHeard pfEnter (by rw [pfLift]; rfl) pfMake (by kernel_rfl) (by kernel_rfl) (by kernel_rfl) (by kernel_rfl)
theorem over : Rows.linearMeansUptoRow.holds Tryz.pinned (Rows.OpenSpec.upto Rows.linearMeansSpec) :=
 OpenClaim.holds_of_cond 10 Tryz.f10 rfl rfl rfl rfl rfl rfl rfl ⟨rfl, rfl, rfl, rfl, rfl⟩ rfl rfl rfl rfl rfl k0 Tryz.func10 closed
   (of_decide_eq_true (by kernel_rfl)) (by unfold Func.isWrapper; first | (rw [if_pos (by decide +kernel)]; kernel_rfl) | (rw [if_neg (by decide +kernel)]; exact ⟨rfl, rfl⟩))
   (fun os started H enc _ F => lifted os started H enc F)
theorem proved : Rows.LinearMeansUptoSaid := over
end Go.Proofs.YtgkkoeodinlffaaGreat.LinearMeans
