/-
  Contracts of the functions over values. (and 12 texts more)
-/
import Derived.Test.YtgkkoeodinlffaaGreatProg
import Derived.Test.YtgkkoeodinlffaaGreatFlatD
import Derived.KernelRfl
import Derived.Shelf.Bits.Mul64
section
set_option linter.unusedVariables false
set_option linter.unusedSimpArgs false
namespace Go.Proofs
open Go.Flat
set_option maxRecDepth 100000
@[simp] theorem ty2 : tyOf Tryz.prog 2 = some ⟨.int .i64, 1, 8, [.p (.v (.int .i64 0))]⟩ := by kernel_rfl
@[simp] theorem ty3 : tyOf Tryz.prog 3 = some ⟨.int .i64, 1, 8, [.p (.v (.int .i64 0))]⟩ := by kernel_rfl
@[simp] theorem ty4 : tyOf Tryz.prog 4 = some ⟨.bool, 1, 1, [.p (.v (.bool false))]⟩ := by kernel_rfl
@[simp] theorem ty5 : tyOf Tryz.prog 5 = some ⟨.int .u8, 1, 1, [.p (.v (.int .u8 0))]⟩ := by kernel_rfl
@[simp] theorem ty9 : tyOf Tryz.prog 9 = some ⟨.str, 1, 16, [.p (.v (.string ⟨#[]⟩))]⟩ := by kernel_rfl
@[simp] theorem ty22 : tyOf Tryz.prog 22 = some ⟨.sl 30, 1, 24, [.psf []]⟩ := by kernel_rfl
@[simp] theorem ty23 : tyOf Tryz.prog 23 = some ⟨.int .u8, 1, 1, [.p (.v (.int .u8 0))]⟩ := by kernel_rfl
@[simp] theorem ty25 : tyOf Tryz.prog 25 = some ⟨.st [(4, 0), (2, 1), (9, 2)], 3, 32, [.p (.v (.bool false)), .p (.v (.int .i64 0)), .p (.v (.string ⟨#[]⟩))]⟩ := by kernel_rfl
@[simp] theorem ty26 : tyOf Tryz.prog 26 = some ⟨.sl 28, 1, 24, [.psf []]⟩ := by kernel_rfl
@[simp] theorem ty28 : tyOf Tryz.prog 28 = some ⟨.st [(23, 0), (3, 1), (25, 2), (26, 5)], 6, 72, [.p (.v (.int .u8 0)), .p (.v (.int .i64 0)), .p (.v (.bool false)), .p (.v (.int .i64 0)), .p (.v (.string ⟨#[]⟩)), .psf []]⟩ := by kernel_rfl
@[simp] theorem ty30 : tyOf Tryz.prog 30 = some ⟨.sl 37, 1, 24, [.psf []]⟩ := by kernel_rfl
@[simp] theorem ty31 : tyOf Tryz.prog 31 = some ⟨.sl 25, 1, 24, [.psf []]⟩ := by kernel_rfl
@[simp] theorem ty32 : tyOf Tryz.prog 32 = some ⟨.int .u64, 1, 8, [.p (.v (.int .u64 0))]⟩ := by kernel_rfl
@[simp] theorem ty33 : tyOf Tryz.prog 33 = some ⟨.arr 2 32, 2, 16, [.p (.v (.int .u64 0)), .p (.v (.int .u64 0))]⟩ := by kernel_rfl
@[simp] theorem ty35 : tyOf Tryz.prog 35 = some ⟨.st [(32, 0), (33, 1)], 3, 24, [.p (.v (.int .u64 0)), .p (.v (.int .u64 0)), .p (.v (.int .u64 0))]⟩ := by kernel_rfl
@[simp] theorem ty37 : tyOf Tryz.prog 37 = some ⟨.st [(31, 0), (31, 1), (35, 2), (2, 5)], 6, 80, [.psf [], .psf [], .p (.v (.int .u64 0)), .p (.v (.int .u64 0)), .p (.v (.int .u64 0)), .p (.v (.int .i64 0))]⟩ := by kernel_rfl
@[simp] theorem ty38 : tyOf Tryz.prog 38 = some ⟨.int .i64, 1, 8, [.p (.v (.int .i64 0))]⟩ := by kernel_rfl
@[simp] theorem ty42 : tyOf Tryz.prog 42 = some ⟨.sl 35, 1, 24, [.psf []]⟩ := by kernel_rfl
@[simp] theorem ty56 : tyOf Tryz.prog 56 = some ⟨.int .u8, 1, 1, [.p (.v (.int .u8 0))]⟩ := by kernel_rfl
@[simp] theorem ty57 : tyOf Tryz.prog 57 = some ⟨.sl 61, 1, 24, [.psf []]⟩ := by kernel_rfl
@[simp] theorem ty58 : tyOf Tryz.prog 58 = some ⟨.sl 3, 1, 24, [.psf []]⟩ := by kernel_rfl
@[simp] theorem ty59 : tyOf Tryz.prog 59 = some ⟨.int .u8, 1, 1, [.p (.v (.int .u8 0))]⟩ := by kernel_rfl
@[simp] theorem ty61 : tyOf Tryz.prog 61 = some ⟨.st [(56, 0), (3, 1), (57, 2), (26, 3), (58, 4), (58, 5), (59, 6), (3, 7)], 8, 128, [.p (.v (.int .u8 0)), .p (.v (.int .i64 0)), .psf [], .psf [], .psf [], .psf [], .p (.v (.int .u8 0)), .p (.v (.int .i64 0))]⟩ := by kernel_rfl
@[simp] theorem ty62 : tyOf Tryz.prog 62 = some ⟨.sl 64, 1, 24, [.psf []]⟩ := by kernel_rfl
@[simp] theorem ty63 : tyOf Tryz.prog 63 = some ⟨.sl 67, 1, 24, [.psf []]⟩ := by kernel_rfl
@[simp] theorem ty64 : tyOf Tryz.prog 64 = some ⟨.sl 71, 1, 24, [.psf []]⟩ := by kernel_rfl
@[simp] theorem ty67 : tyOf Tryz.prog 67 = some ⟨.sl 73, 1, 24, [.psf []]⟩ := by kernel_rfl
@[simp] theorem ty71 : tyOf Tryz.prog 71 = some ⟨.st [(31, 0), (2, 1)], 2, 32, [.psf [], .p (.v (.int .i64 0))]⟩ := by kernel_rfl
@[simp] theorem ty73 : tyOf Tryz.prog 73 = some ⟨.int .u8, 1, 1, [.p (.v (.int .u8 0))]⟩ := by kernel_rfl
@[simp] theorem ty107 : tyOf Tryz.prog 107 = some ⟨.ptr 111, 1, 8, [.p (.v (.pointer none))]⟩ := by kernel_rfl
@[simp] theorem ty109 : tyOf Tryz.prog 109 = some ⟨.st [(38, 0)], 1, 8, [.p (.v (.int .i64 0))]⟩ := by kernel_rfl
@[simp] theorem ty111 : tyOf Tryz.prog 111 = some ⟨.st [(109, 0), (31, 1)], 2, 32, [.p (.v (.int .i64 0)), .psf []]⟩ := by kernel_rfl
@[simp] theorem ty152 : tyOf Tryz.prog 152 = some ⟨.ptr 154, 1, 8, [.p (.v (.pointer none))]⟩ := by kernel_rfl
@[simp] theorem ty154 : tyOf Tryz.prog 154 = some ⟨.st [(38, 0), (62, 1), (62, 2)], 3, 56, [.p (.v (.int .i64 0)), .psf [], .psf []]⟩ := by kernel_rfl
@[simp] theorem ty158 : tyOf Tryz.prog 158 = some ⟨.ptr 162, 1, 8, [.p (.v (.pointer none))]⟩ := by kernel_rfl
@[simp] theorem ty160 : tyOf Tryz.prog 160 = some ⟨.st [(38, 0)], 1, 8, [.p (.v (.int .i64 0))]⟩ := by kernel_rfl
@[simp] theorem ty162 : tyOf Tryz.prog 162 = some ⟨.st [(160, 0), (63, 1), (63, 2)], 3, 56, [.p (.v (.int .i64 0)), .psf [], .psf []]⟩ := by kernel_rfl
@[simp] theorem ty190 : tyOf Tryz.prog 190 = some ⟨.other, 1, 8, [.p (.v (.map none))]⟩ := by kernel_rfl
@[simp] theorem ty191 : tyOf Tryz.prog 191 = some ⟨.ptr 195, 1, 8, [.p (.v (.pointer none))]⟩ := by kernel_rfl
@[simp] theorem ty193 : tyOf Tryz.prog 193 = some ⟨.st [(4, 0), (35, 1)], 4, 32, [.p (.v (.bool false)), .p (.v (.int .u64 0)), .p (.v (.int .u64 0)), .p (.v (.int .u64 0))]⟩ := by kernel_rfl
@[simp] theorem ty195 : tyOf Tryz.prog 195 = some ⟨.st [(193, 0), (30, 4)], 5, 56, [.p (.v (.bool false)), .p (.v (.int .u64 0)), .p (.v (.int .u64 0)), .p (.v (.int .u64 0)), .psf []]⟩ := by kernel_rfl
@[simp] theorem ty216 : tyOf Tryz.prog 216 = some ⟨.st [(3, 0), (3, 1), (4, 2)], 3, 24, [.p (.v (.int .i64 0)), .p (.v (.int .i64 0)), .p (.v (.bool false))]⟩ := by kernel_rfl
@[simp] theorem ty249 : tyOf Tryz.prog 249 = some ⟨.sl 253, 1, 24, [.psf []]⟩ := by kernel_rfl
@[simp] theorem ty251 : tyOf Tryz.prog 251 = some ⟨.st [(32, 0), (32, 1)], 2, 16, [.p (.v (.int .u64 0)), .p (.v (.int .u64 0))]⟩ := by kernel_rfl
@[simp] theorem ty253 : tyOf Tryz.prog 253 = some ⟨.st [(251, 0), (37, 2)], 8, 96, [.p (.v (.int .u64 0)), .p (.v (.int .u64 0)), .psf [], .psf [], .p (.v (.int .u64 0)), .p (.v (.int .u64 0)), .p (.v (.int .u64 0)), .p (.v (.int .i64 0))]⟩ := by kernel_rfl
@[simp] theorem ty262 : tyOf Tryz.prog 262 = some ⟨.sl 32, 1, 24, [.psf []]⟩ := by kernel_rfl
@[simp] theorem ty280 : tyOf Tryz.prog 280 = some ⟨.st [(3, 0), (3, 1), (3, 2), (4, 3), (4, 4)], 5, 32, [.p (.v (.int .i64 0)), .p (.v (.int .i64 0)), .p (.v (.int .i64 0)), .p (.v (.bool false)), .p (.v (.bool false))]⟩ := by kernel_rfl
@[simp] theorem ty294 : tyOf Tryz.prog 294 = some ⟨.sl 38, 1, 24, [.psf []]⟩ := by kernel_rfl
@[simp] theorem ty312 : tyOf Tryz.prog 312 = some ⟨.ptr 193, 1, 8, [.p (.v (.pointer none))]⟩ := by kernel_rfl
@[simp] theorem ty327 : tyOf Tryz.prog 327 = some ⟨.int .u64, 1, 8, [.p (.v (.int .u64 0))]⟩ := by kernel_rfl
@[simp] theorem ty328 : tyOf Tryz.prog 328 = some ⟨.ptr 216, 1, 8, [.p (.v (.pointer none))]⟩ := by kernel_rfl
@[simp] theorem ty331 : tyOf Tryz.prog 331 = some ⟨.ptr 109, 1, 8, [.p (.v (.pointer none))]⟩ := by kernel_rfl
@[simp] theorem ty350 : tyOf Tryz.prog 350 = some ⟨.ptr 251, 1, 8, [.p (.v (.pointer none))]⟩ := by kernel_rfl
@[simp] theorem ty371 : tyOf Tryz.prog 371 = some ⟨.ptr 280, 1, 8, [.p (.v (.pointer none))]⟩ := by kernel_rfl
@[simp] theorem ty375 : tyOf Tryz.prog 375 = some ⟨.ptr 160, 1, 8, [.p (.v (.pointer none))]⟩ := by kernel_rfl
@[simp] theorem ty378 : tyOf Tryz.prog 378 = some ⟨.sl 380, 1, 24, [.psf []]⟩ := by kernel_rfl
@[simp] theorem ty380 : tyOf Tryz.prog 380 = some ⟨.st [(251, 0), (71, 2)], 4, 48, [.p (.v (.int .u64 0)), .p (.v (.int .u64 0)), .psf [], .p (.v (.int .i64 0))]⟩ := by kernel_rfl
@[simp] theorem ty399 : tyOf Tryz.prog 399 = some ⟨.sl 2, 1, 24, [.psf []]⟩ := by kernel_rfl
@[simp] theorem ty413 : tyOf Tryz.prog 413 = some ⟨.ptr 415, 1, 8, [.p (.v (.pointer none))]⟩ := by kernel_rfl
@[simp] theorem ty415 : tyOf Tryz.prog 415 = some ⟨.st [(109, 0), (67, 1)], 2, 32, [.p (.v (.int .i64 0)), .psf []]⟩ := by kernel_rfl
@[simp] theorem ty275 : tyOf Tryz.prog 275 = some ⟨.fn, 1, 8, [.p (.v .nilFunc)]⟩ := by kernel_rfl
@[simp] theorem ty278 : tyOf Tryz.prog 278 = some ⟨.fn, 1, 8, [.p (.v .nilFunc)]⟩ := by kernel_rfl
end Go.Proofs
end
section
namespace Go.Proofs
open Go.Flat
set_option maxRecDepth 100000
set_option linter.unusedVariables false
set_option linter.unusedSimpArgs false
attribute [local simp] Bool.and_assoc Bool.or_assoc evalG evalX efD skF guardG guardL isCall stepL evalOp ev evs lk tmpsL app AV.ok fresh vv putCells insV ins del putL place Go.Flat.look fillC fillR getCells loadF storeF binF scalarBin intBin strBin isShift shiftBin unF lenF maxF minF rowsF appendF builtinF idxF natOf sliceP sliceF optEv Flat.cut overwrite toPV toPVs constAV scalarC scalarCs AV.cells TI.isAgg allSome andAll scalarEq buildable Go.Flat.lim retQ resL resAll resOne PartOf noTmp closedIn refs refs.refsL isSomeV hasB ids leA leA.leL renA renA.renL callB refsAll backL dropIds renS LiesAt injB ownB freshB memN locId insAll leA_refl leL_refl okS frzS frzA frzA.frzL evalD feet fine updCells cellsFrom memP footRf footWf noTmpU updIds opOps opIds idsA footR footW guardTs opTs dstTs callR callW renLoc renC inBlockQ thenQ Value.oneCell' IntKind.bits IntKind.signed
section
@[simp] theorem wrap64_1 : IntKind.i64.wrap 1 = 1 := rfl
@[simp] theorem wrap64_2 : IntKind.i64.wrap 2 = 2 := rfl
@[simp] theorem wrap64_3 : IntKind.i64.wrap 3 = 3 := rfl
@[simp] theorem wrap64_4 : IntKind.i64.wrap 4 = 4 := rfl
structure Val where
 t : Bool
 n : Int
 s : ByteArray
def Val.row (v : Val) : List PV := [.v (.bool v.t), .v (.int .i64 v.n), .v (.string v.s)]
@[simp] theorem Val.row_len (v : Val) : v.row.length = 3 := rfl
def Val.av (v : Val) : AV := .agg [vv (.bool v.t), vv (.int .i64 v.n), vv (.string v.s)]
def Val.right (v : Val) : Bool := if v.t then v.n == 0 && decide ((v.s.size : Int) ≤ 64) else v.s.toList == []
attribute [local simp] Val.av in
theorem spec103 (v : Val) : Flat.Sp Tryz.prog 98 [v.av] [] (vv (.bool v.right)) [] := by
 refine sk Tryz.func98 ?_; intro F G hn hG; refine srp 1000 [1,17] ?_; refine sq ?_; refine srp 2000 [1,3,4,17] ?_; refine cd ?_ ?_
 · intro h4_1
   refine src 3000 ?_; iterate 4 (first | refine gp 3350 ?_ | refine os ?_ | refine gt 3350 ?_)
   refine oe 3400 ?_; refine onp [1,3,14,17] ?_; refine k_ret ?_; show retQ _ _ _ _ _ _ _; simp [*, Val.right]
 · intro h4_1
   refine k_skip ?_; refine srp 4000 [2,3] ?_; refine k_ret ?_; show retQ _ _ _ _ _ _ _; simp [*, Val.right]
attribute [local simp] Val.av in
theorem spec102 (v : Val) : Flat.Sp Tryz.prog 97 [v.av] [] (vv (.bool (!v.right))) [] := by
 refine sk Tryz.func97 ?_; intro F G hn hG; refine srp 1000 [1,6] ?_; refine src 2000 ?_; refine oc id (spec103 v) ?_; refine oe 2100 ?_; refine onp [2,3] ?_; refine k_ret ?_; show retQ _ _ _ _ _ _ _; simp [*]
theorem wrap_succ {i : Nat} (h : i < Flat.lim) : IntKind.i64.wrap ((i : Int) + 1) = (i : Int) + 1 := by
 have := Flat.wrap_small (n := i + 1) (by omega)
 rwa [show ((i + 1 : Nat) : Int) = (i : Int) + 1 by simp] at this
theorem tmap_succ {α β : Type} {f : α → β} {xs : List α} {i : Nat} {x : α} (h : xs[i]? = some x) : (xs.map f).take (i + 1) = (xs.map f).take i ++ [f x] := by
 rw [List.take_add_one, List.getElem?_map, h]; rfl
theorem tmap_all {α β : Type} {f : α → β} {xs : List α} {n : Nat} (h : xs.length ≤ n) : (xs.map f).take n = xs.map f := List.take_of_length_le (by simpa using h)
def firstBad : List Val → Nat → Int
 | [], _ => -1
 | v :: r, i => if v.right then firstBad r (i + 1) else i
theorem firstBad_drop {xs : List Val} {i : Nat} {x : Val} (h : xs[i]? = some x) : firstBad (xs.drop i) i = if x.right then firstBad (xs.drop (i + 1)) (i + 1) else i := by
 obtain ⟨h1, h2⟩ := List.getElem?_eq_some_iff.1 h; rw [List.drop_eq_getElem_cons h1, h2]; rfl
attribute [local simp] Val.row Val.av in
theorem spec157 (xs : List Val) (hlen : xs.length ≤ Flat.lim) : Flat.Sp Tryz.prog 195 [.p (.ps (xs.map Val.row)), .fn (.func 97) []] [] (vv (.int .i64 (firstBad xs 0))) [] := by
 refine sk Tryz.func195 ?_; intro F G hn hG; refine srp 1000 [0,2,4,19] ?_; refine sq ?_; refine srp 2000 [0,2,4,6,7,19] ?_; refine k_block ?_; refine k_loop (fun n l => ∃ i, i + n = xs.length ∧ (firstBad xs 0 = firstBad (xs.drop i) i) ∧ l = [(.tmp 0, .av (.p (.ps (xs.map Val.row)))), (.tmp 1, .av (.fn (.func 97) [])), (.tmp 7, .av (vv (.int .i64 xs.length))), (.tmp 8, .av (vv (.int .i64 i)))]) (xs.length) hG ⟨_, ⟨by simp, by simp, by simp⟩, 0, by simp, rfl, rfl⟩ ?_
 rintro n _ ⟨i, hin, hfa, rfl⟩; have hwi : i < Flat.lim → IntKind.i64.wrap ((i : Int) + 1) = (i : Int) + 1 := wrap_succ; refine srp 3000 [0,2,4,6,7,19] ?_; refine sq ?_; refine cd ?_ ?_
 · intro h9_1
   have hlt : i < xs.length := by simpa using h9_1
   obtain ⟨x, hxe⟩ : ∃ x, xs[i] = x := ⟨_, rfl⟩; have hx : xs[i]? = some x := by simp [hlt, hxe]
   have hfd := firstBad_drop hx; have hwi := hwi (by omega)
   refine k_skip ?_; refine sq ?_; refine k_block ?_; refine srp 4000 [0,2,4,6,7,19] ?_; refine src 5000 ?_; refine oc id (spec102 x) ?_; refine onp [0,2,4,6,7,19] ?_; refine cd ?_ ?_
   · intro h16_2
     have hr : x.right = false := by simpa using h16_2
     refine srp 6000 [0,2,4,6,7,19] ?_; refine k_ret ?_; show retQ _ _ _ _ _ _ _; simp [*]
   · intro h16_2
     have hr : x.right = true := by simpa using h16_2
     refine k_skip ?_; refine k_nil ?_; show AK _ _ _ _ _ _; refine rg 7000 ?_; refine k_nil ?_; refine ⟨n - 1, by omega, _, ⟨?_, ?_, ?_⟩, i + 1, by omega, by rw [hfa, hfd, hr, if_pos rfl], rfl⟩ <;> simp [*]
 · intro h9_1
   have hge : xs.length ≤ i := by simpa using h9_1
   have hfe : firstBad (xs.drop i) i = -1 := by rw [List.drop_eq_nil_of_le hge]; rfl
   refine k_exit ?_; show AK _ _ _ _ _ _; refine srp 8000 [4,5] ?_; refine k_ret ?_; show retQ _ _ _ _ _ _ _; simp [*]
end
section
theorem spec101 (xs : List Val) (hlen : xs.length ≤ Flat.lim) : Flat.Sp Tryz.prog 96 [.p (.ps (xs.map Val.row)), .fn (.func 97) []] [] (vv (.bool (decide (0 ≤ firstBad xs 0)))) [] := by
 refine sk Tryz.func96 ?_; intro F G hn hG; refine srp 1000 [0,2,4,9] ?_; refine src 2000 ?_; refine oc id (spec157 xs hlen) ?_; refine oe 2100 ?_; refine onp [4,5] ?_; refine k_ret ?_; show retQ _ _ _ _ _ _ _; simp [*]
theorem spec192 (x : Int) : Flat.Sp Tryz.prog 257 [vv (.int .i64 x)] [] (vv (.bool false)) [] := by
 refine sk Tryz.func257 ?_; intro F G hn hG; refine srp 1000 [0,1,2,6] ?_; refine srp 2000 [2,3] ?_; refine k_ret ?_; show retQ _ _ _ _ _ _ _; simp [*]
theorem spec193 (x : ByteArray) : Flat.Sp Tryz.prog 256 [vv (.string x)] [] (vv (.bool false)) [] := by
 refine sk Tryz.func256 ?_; intro F G hn hG; refine srp 1000 [0,1,2,6] ?_; refine srp 2000 [2,3] ?_; refine k_ret ?_; show retQ _ _ _ _ _ _ _; simp [*]
theorem spec194 (x : Int) : Flat.Sp Tryz.prog 258 [vv (.int .i64 x)] [] (vv (.bool false)) [] := by
 refine sk Tryz.func258 ?_; intro F G hn hG; refine srp 1000 [0,1,2,6] ?_; refine srp 2000 [2,3] ?_; refine k_ret ?_; show retQ _ _ _ _ _ _ _; simp [*]
def cmpI (x y : Int) : Int := if x < y then -1 else if x > y then 1 else 0
def cmpS (x y : ByteArray) : Int := if Op.bytesLess x.toList y.toList then -1 else if !(Op.bytesLess x.toList y.toList || x.toList == y.toList) then 1 else 0
attribute [local simp] cmpI in
theorem spec158 (x y : Int) : Flat.Sp Tryz.prog 196 [vv (.int .i64 x), vv (.int .i64 y)] [] (vv (.int .i64 (cmpI x y))) [] := by
 refine sk Tryz.func196 ?_; intro F G hn hG; refine srp 1000 [0,2,4,20] ?_; refine src 2000 ?_; refine oc id (spec192 x) ?_; refine oe 2100 ?_; refine onp [0,2,4,7,9,20] ?_; refine src 3000 ?_; refine oc id (spec192 y) ?_; refine oe 3100 ?_; refine onp [0,2,4,7,11,20] ?_; refine sq ?_; refine srp 4000 [0,2,4,5,6,7,11,20] ?_; refine ce ?_; refine k_skip ?_; refine sq ?_; refine srp 8000 [0,2,4,5,13,20] ?_; refine ce ?_; refine k_skip ?_; refine sq ?_; refine srp 10000 [0,2,4,5,16,20] ?_; refine cd ?_ ?_
 · intro h16_1
   have h16_1 : x < y := by simpa using h16_1
   refine srp 11000 [0,2,4,5,17,20] ?_; refine k_ret ?_; show retQ _ _ _ _ _ _ _; simp [*]
 · intro h16_1
   have h16_1 : ¬ x < y := by simpa using h16_1
   refine k_skip ?_; refine sq ?_; refine srp 12000 [4,5,19,20] ?_; refine cd ?_ ?_
   · intro h19_2
     have h19_2 : y < x := by simpa using h19_2
     refine srp 13000 [4,5] ?_; refine k_ret ?_; show retQ _ _ _ _ _ _ _; simp [*]
   · intro h19_2
     have h19_2 : ¬ y < x := by simpa using h19_2
     refine k_skip ?_; refine srp 14000 [4,5] ?_; refine k_ret ?_; show retQ _ _ _ _ _ _ _; simp [*]
attribute [local simp] cmpI in
theorem spec161 (x y : Int) : Flat.Sp Tryz.prog 198 [vv (.int .i64 x), vv (.int .i64 y)] [] (vv (.int .i64 (cmpI x y))) [] := by
 refine sk Tryz.func198 ?_; intro F G hn hG; refine srp 1000 [0,2,4,20] ?_; refine src 2000 ?_; refine oc id (spec194 x) ?_; refine oe 2100 ?_; refine onp [0,2,4,7,9,20] ?_; refine src 3000 ?_; refine oc id (spec194 y) ?_; refine oe 3100 ?_; refine onp [0,2,4,7,11,20] ?_; refine sq ?_; refine srp 4000 [0,2,4,5,6,7,11,20] ?_; refine ce ?_; refine k_skip ?_; refine sq ?_; refine srp 8000 [0,2,4,5,13,20] ?_; refine ce ?_; refine k_skip ?_; refine sq ?_; refine srp 10000 [0,2,4,5,16,20] ?_; refine cd ?_ ?_
 · intro h16_1
   have h16_1 : x < y := by simpa using h16_1
   refine srp 11000 [0,2,4,5,17,20] ?_; refine k_ret ?_; show retQ _ _ _ _ _ _ _; simp [*]
 · intro h16_1
   have h16_1 : ¬ x < y := by simpa using h16_1
   refine k_skip ?_; refine sq ?_; refine srp 12000 [4,5,19,20] ?_; refine cd ?_ ?_
   · intro h19_2
     have h19_2 : y < x := by simpa using h19_2
     refine srp 13000 [4,5] ?_; refine k_ret ?_; show retQ _ _ _ _ _ _ _; simp [*]
   · intro h19_2
     have h19_2 : ¬ y < x := by simpa using h19_2
     refine k_skip ?_; refine srp 14000 [4,5] ?_; refine k_ret ?_; show retQ _ _ _ _ _ _ _; simp [*]
attribute [local simp] cmpS in
theorem spec160 (x y : ByteArray) : Flat.Sp Tryz.prog 193 [vv (.string x), vv (.string y)] [] (vv (.int .i64 (cmpS x y))) [] := by
 refine sk Tryz.func193 ?_; intro F G hn hG; refine srp 1000 [0,2,4,20] ?_; refine src 2000 ?_; refine oc id (spec193 x) ?_; refine oe 2100 ?_; refine onp [0,2,4,7,9,20] ?_; refine src 3000 ?_; refine oc id (spec193 y) ?_; refine oe 3100 ?_; refine onp [0,2,4,7,11,20] ?_; refine sq ?_; refine srp 4000 [0,2,4,5,6,7,11,20] ?_; refine ce ?_; refine k_skip ?_; refine sq ?_; refine srp 8000 [0,2,4,5,13,20] ?_; refine ce ?_; refine k_skip ?_; refine sq ?_; refine srp 10000 [0,2,4,5,16,20] ?_; refine cd ?_ ?_
 · intro h16_1
   refine srp 11000 [0,2,4,5,17,20] ?_; refine k_ret ?_; show retQ _ _ _ _ _ _ _; simp [*]
 · intro h16_1
   refine k_skip ?_; refine sq ?_; refine srp 12000 [4,5,19,20] ?_; refine cd ?_ ?_
   · intro h19_2
     refine srp 13000 [4,5] ?_; refine k_ret ?_; show retQ _ _ _ _ _ _ _; simp [*]
   · intro h19_2
     refine k_skip ?_; refine srp 14000 [4,5] ?_; refine k_ret ?_; show retQ _ _ _ _ _ _ _; simp [*]
attribute [local simp] Val.av in
theorem spec159 (v : Val) : Flat.Sp Tryz.prog 197 [v.av] [] (vv (.int .i64 (if v.t then 1 else 0))) [] := by
 refine sk Tryz.func197 ?_; intro F G hn hG; refine srp 1000 [1,5] ?_; refine sq ?_; refine srp 2000 [2,3,4,5] ?_; refine cd ?_ ?_
 · intro h4_1
   refine srp 3000 [2,3] ?_; refine k_ret ?_; show retQ _ _ _ _ _ _ _; simp [*]
 · intro h4_1
   refine k_skip ?_; refine srp 4000 [2,3] ?_; refine k_ret ?_; show retQ _ _ _ _ _ _ _; simp [*]
def Val.cmp (a b : Val) : Int := if a.t != b.t then cmpI (if a.t then 1 else 0) (if b.t then 1 else 0) else if a.t then cmpS a.s b.s else cmpI a.n b.n
attribute [local simp] Val.av Val.cmp in
theorem spec105 (a b : Val) : Flat.Sp Tryz.prog 100 [a.av, b.av] [] (vv (.int .i64 (a.cmp b))) [] := by
 refine sk Tryz.func100 ?_; intro F G hn hG; refine srp 1000 [2,29] ?_; refine sq ?_; refine k_block ?_; refine srp 2000 [2,6,11,29] ?_; refine cd ?_ ?_
 · intro h5_1
   have h5_1 : ¬ a.t = b.t := by simpa using h5_1
   refine sq ?_; refine dr ?_; refine de 3000 ?_; refine dc id (spec159 a) ?_; refine de 3100 ?_; refine dc id (spec159 b) ?_; refine dc id (spec158 (if a.t then 1 else 0) (if b.t then 1 else 0)) ?_
   refine de 3300 ?_; refine dn ?_; refine pr [2,5,24,29] ?_; refine k_ret ?_; show retQ _ _ _ _ _ _ _; simp [*]
 · intro h5_1
   have h5_1 : a.t = b.t := by simpa using h5_1
   refine srp 4000 [2,5,16,17,19,29] ?_; refine cd ?_ ?_
   · intro h16_2
     refine src 5000 ?_; refine oc id (spec160 a.s b.s) ?_; refine oe 5100 ?_; refine onp [2,5,24,29] ?_; refine k_ret ?_; show retQ _ _ _ _ _ _ _; simp [*]
   · intro h16_2
     refine k_skip ?_; refine k_nil ?_; show AK _ _ _ _ _ _; refine src 6000 ?_; refine oc id (spec161 a.n b.n) ?_; refine oe 6100 ?_; refine onp [4,5] ?_; refine k_ret ?_; show retQ _ _ _ _ _ _ _; simp [*]
def tOf (v : Val) : Int := if v.t then 2 else 1
attribute [local simp] Val.av tOf in
theorem spec57 (v : Val) : Flat.Sp Tryz.prog 69 [v.av] [] (vv (.int .u8 (tOf v))) [] := by
 refine sk Tryz.func69 ?_; intro F G hn hG; refine srp 1000 [1,5] ?_; refine sq ?_; refine srp 2000 [2,3,4,5] ?_; refine cd ?_ ?_
 · intro h4_1
   refine srp 3000 [2,3] ?_; refine k_ret ?_; show retQ _ _ _ _ _ _ _; simp [*]
 · intro h4_1
   refine k_skip ?_; refine srp 4000 [2,3] ?_; refine k_ret ?_; show retQ _ _ _ _ _ _ _; simp [*]
def Val.num (n : Int) : Val := ⟨false, n, ⟨#[]⟩⟩
attribute [local simp] Val.av Val.num in
theorem spec106 (b : Bool) : Flat.Sp Tryz.prog 101 [vv (.bool b)] [] ((Val.num (if b then 1 else 0)).av) [] := by
 refine sk Tryz.func101 ?_; intro F G hn hG; refine srp 1000 [0,1,2,6] ?_; refine sq ?_; refine srp 2000 [2,6] ?_; refine cd ?_ ?_
 · intro h3_1
   refine srp 3000 [2,3,5,6] ?_; refine k_ret ?_; show retQ _ _ _ _ _ _ _; simp [*]
 · intro h3_1
   refine k_skip ?_; refine srp 4000 [2,3] ?_; refine k_ret ?_; show retQ _ _ _ _ _ _ _; simp [*]
end
section
def badRow (xs : List Val) : Bool := decide ((8 : Int) < xs.length) || decide (0 ≤ firstBad xs 0)
def checkRow (xs : List Val) : Int := if badRow xs then 4 else 0
attribute [local simp] checkRow badRow in
theorem spec54 (xs : List Val) (hlen : xs.length ≤ Flat.lim) : Flat.Sp Tryz.prog 38 [.p (.ps (xs.map Val.row))] [] (vv (.int .i64 (checkRow xs))) [] := by
 refine sk Tryz.func38 ?_; intro F G hn hG; refine srp 1000 [0,1,2,10] ?_; refine sq ?_; refine src 2000 ?_; first | refine gp 2050 ?_ | refine os ?_ | refine gt 2050 ?_
 refine og (fun hg => spec101 xs hlen) ?_
 refine oe 2200 ?_; refine onp [2,3,9,10] ?_; refine cd ?_ ?_
 · intro h9_1
   refine srp 3000 [2,3] ?_; refine k_ret ?_; show retQ _ _ _ _ _ _ _; simp [*]
 · intro h9_1
   refine k_skip ?_; refine srp 4000 [2,3] ?_; refine k_ret ?_; show retQ _ _ _ _ _ _ _; simp [*]
theorem ext187 (x y c : Int) (hx : 0 ≤ x) (hy : 0 ≤ y) (h0 : 0 ≤ c) (h1 : c ≤ 1) (w : World) : (callFunc 217 [Value.int .u64 x, .int .u64 y, .int .u64 c].toArray).run Tryz.prog w = .ok (.value (.tuple [Value.int .u64 ((x + y + c) % 18446744073709551616), .int .u64 ((x + y + c) / 18446744073709551616)].toArray)) w := by
 rw [run_callFunc_extern Tryz.func217 rfl rfl rfl (e := add64Entry) rfl]; show (((add64Entry #[.int .u64 x, .int .u64 y, .int .u64 c]).run Tryz.prog w).andThen _) = _; rw [run_add64 x y c hx hy h0 h1]; rfl
def tadd (p : Int × Int) (n : Int) : Int × Int :=
 ((p.1 + IntKind.u64.wrap (n.fdiv 9223372036854775808) + (p.2 + IntKind.u64.wrap n) / 18446744073709551616) % 18446744073709551616, (p.2 + IntKind.u64.wrap n) % 18446744073709551616)
def tin (p : Int × Int) : Prop := 0 ≤ p.1 ∧ p.1 < 18446744073709551616 ∧ 0 ≤ p.2 ∧ p.2 < 18446744073709551616
theorem wrapU_in (n : Int) : 0 ≤ IntKind.u64.wrap n ∧ IntKind.u64.wrap n < 18446744073709551616 := by
 have : IntKind.u64.wrap n = n % 18446744073709551616 := rfl; omega
theorem tadd_in {p : Int × Int} (h : tin p) (n : Int) : tin (tadd p n) := by
 unfold tin tadd; simp only; omega
attribute [local simp] tadd in
theorem spec143 (p : Int × Int) (hp : tin p) (n : Int) : Flat.Sp Tryz.prog 125 [.ptr 0 0, vv (.int .i64 n)] [(.var 0, .n 2), (.cell 0 0, .av (vv (.int .u64 p.1))), (.cell 0 1, .av (vv (.int .u64 p.2)))] (.tup []) [(.var 0, .n 2), (.cell 0 0, .av (vv (.int .u64 (tadd p n).1))), (.cell 0 1, .av (vv (.int .u64 (tadd p n).2)))] := by
 refine sk Tryz.func125 ?_; intro F G hn hG; have hU := wrapU_in n; have hU2 := wrapU_in (n.fdiv 9223372036854775808); obtain ⟨q1, q2, q3, q4⟩ := hp; refine srp 1000 [0,2,4,30,31,33] ?_; refine src 2000 ?_; refine o_ext hn (vs := [.int .u64 p.2, .int .u64 (IntKind.u64.wrap n), .int .u64 0]) (rs := [.int .u64 ((p.2 + IntKind.u64.wrap n + 0) % 18446744073709551616), .int .u64 ((p.2 + IntKind.u64.wrap n + 0) / 18446744073709551616)]) rfl (by simp [*]) (by simp [*]; exact is_rfl _) (by simp [*]; exact is_rfl _) (fun w => ext187 _ _ _ q3 hU.1 (by omega) (by omega) w) (by simp [*]) (by simp [*]; exact is_rfl _) ?_
 refine oe 2100 ?_; refine onp [0,2,4,5,18,30,31,33] ?_; refine rc 3000 ?_; refine o_ext hn (vs := [.int .u64 p.1, .int .u64 (IntKind.u64.wrap (n.fdiv 9223372036854775808)), .int .u64 ((p.2 + IntKind.u64.wrap n) / 18446744073709551616)]) (rs := [.int .u64 ((p.1 + IntKind.u64.wrap (n.fdiv 9223372036854775808) + (p.2 + IntKind.u64.wrap n) / 18446744073709551616) % 18446744073709551616), .int .u64 ((p.1 + IntKind.u64.wrap (n.fdiv 9223372036854775808) + (p.2 + IntKind.u64.wrap n) / 18446744073709551616) / 18446744073709551616)]) rfl (by simp [*]) (by simp [*]; exact is_rfl _) (by simp [*]; exact is_rfl _) (fun w => ext187 _ _ _ q1 hU2.1 (by omega) (by omega) w) (by simp [*]) (by simp [*]; exact is_rfl _) ?_
 refine oe 3100 ?_; refine on ?_; refine k_nil ?_; show retQ _ _ _ _ _ _ _; simp [*]
def tfits (p : Int × Int) : Bool := p.1 == IntKind.u64.wrap ((IntKind.i64.wrap p.2).fdiv 9223372036854775808)
def tfit (p : Int × Int) : Int × Int := if tfits p then (IntKind.i64.wrap p.2, 0) else (0, 10)
attribute [local simp] tfit in
theorem spec144 (p : Int × Int) : Flat.Sp Tryz.prog 126 [.ptr 0 0] [(.var 0, .n 2), (.cell 0 0, .av (vv (.int .u64 p.1))), (.cell 0 1, .av (vv (.int .u64 p.2)))] (.tup [vv (.int .i64 (tfit p).1), vv (.int .i64 (tfit p).2)]) [(.var 0, .n 2), (.cell 0 0, .av (vv (.int .u64 p.1))), (.cell 0 1, .av (vv (.int .u64 p.2)))] := by
 refine sk Tryz.func126 ?_; intro F G hn hG; refine srp 1000 [0,1,2,21] ?_; refine sq ?_; refine sq ?_; refine dr ?_; refine de 2000 ?_; refine dn ?_; refine pr [0,1,2,4,15,21] ?_; refine cd ?_ ?_
 · intro h15_1
   have h15_1 : tfits p = false := by simpa [tfits, IntKind.bits] using h15_1
   refine srp 3000 [0,1,2,4,16,21] ?_; refine k_ret ?_; show retQ _ _ _ _ _ _ _; simp [*]
 · intro h15_1
   have h15_1 : tfits p = true := by simpa [tfits, IntKind.bits] using h15_1
   refine k_skip ?_; refine srp 4000 [2,4] ?_; refine k_ret ?_; show retQ _ _ _ _ _ _ _; simp [*]
def irow (n : Int) : List PV := [.v (.int .i64 n)]
def tsum (xs : List Int) : Int × Int := xs.foldl tadd (0, 0)
theorem tfold_in (xs : List Int) : ∀ p, tin p → tin (xs.foldl tadd p) := by
 induction xs with
 | nil => intro p h; exact h
 | cons n r ih => intro p h; exact ih _ (tadd_in h n)
theorem tsum_in (xs : List Int) : tin (tsum xs) := tfold_in xs _ (by simp [tin])
theorem tsum_take {xs : List Int} {i : Nat} {x : Int} (h : xs[i]? = some x) : tsum (xs.take (i + 1)) = tadd (tsum (xs.take i)) x := by
 rw [List.take_add_one, h]; simp [tsum]
theorem spec165 (xs : List Int) (hlen : xs.length ≤ Flat.lim) : Flat.Sp Tryz.prog 202 [.p (.ps (xs.map irow))] [] (.tup [vv (.int .i64 (tfit (tsum xs)).1), vv (.int .i64 (tfit (tsum xs)).2)]) [] := by
 refine sk Tryz.func202 ?_; intro F G hn hG; refine srp 1000 [0,1,2,5,6,14,15,19] ?_; refine srp 2000 [0,1,2,5,6,14,15,19] ?_; refine sq ?_; refine srp 3000 [2,5,6,14,15,19] ?_; refine k_block ?_; refine k_loop (fun n l => ∃ i, i + n = xs.length ∧ (True) ∧ l = [(.tmp 4, .av (.ptr 2000 0)), (.tmp 7, .av (.p (.ps (xs.map irow)))), (.tmp 8, .av (vv (.int .i64 xs.length))), (.tmp 9, .av (vv (.int .i64 i))), (.var 2000, .n 2), (.cell 2000 0, .av (vv (.int .u64 (tsum (xs.take i)).1))), (.cell 2000 1, .av (vv (.int .u64 (tsum (xs.take i)).2)))]) (xs.length) hG ⟨_, ⟨by simp [tsum], by simp, by simp⟩, 0, by simp, trivial, rfl⟩ ?_
 rintro n _ ⟨i, hin, hfa, rfl⟩; refine srp 4000 [2,5,6,14,15,19] ?_; refine sq ?_; refine cd ?_ ?_
 · intro h10_1
   have hlt : i < xs.length := by simpa using h10_1
   obtain ⟨x, hxe⟩ : ∃ x, xs[i] = x := ⟨_, rfl⟩; have hx : xs[i]? = some x := by simp [hlt, hxe]
   refine k_skip ?_; refine sq ?_; refine k_block ?_; refine sq ?_; refine rg 5000 ?_ (h := by simp [*, irow]; exact is_rfl _)
   refine pr [2,5,6,14,15,19] ?_; refine rc 6000 ?_; refine oc (fun _ => 2000) (spec143 (tsum (xs.take i)) (tsum_in _) x) ?_
   refine on ?_; refine k_nil ?_; show AK _ _ _ _ _ _; refine rg 7000 ?_ (h := by simp [*, wrap_succ (show i < Flat.lim by omega)]; exact is_rfl _)
   refine k_nil ?_; refine ⟨n - 1, by omega, _, ⟨?_, ?_, ?_⟩, i + 1, by omega, trivial, rfl⟩ <;> simp [*, tsum_take hx]
 · intro h10_1
   have hge : xs.length ≤ i := by simpa using h10_1
   have htk : xs.take i = xs := List.take_of_length_le hge; refine k_exit ?_; show AK _ _ _ _ _ _; refine src 8000 ?_; refine oc (fun _ => 2000) (spec144 (tsum xs)) ?_
   refine oe 8100 ?_; refine onp [2,4] ?_; refine k_ret ?_; show retQ _ _ _ _ _ _ _; simp [*]
end
section
def size64 (n : Int) : Int := if n < 0 then IntKind.u64.wrap (0 - IntKind.u64.wrap n) else IntKind.u64.wrap n
attribute [local simp] size64 in
theorem spec150 (n : Int) : Flat.Sp Tryz.prog 249 [vv (.int .i64 n)] [] (vv (.int .u64 (size64 n))) [] := by
 refine sk Tryz.func249 ?_; intro F G hn hG; refine srp 1000 [0,1,2,10] ?_; refine sq ?_; refine srp 2000 [0,1,2,3,4,10] ?_; refine cd ?_ ?_
 · intro h4_1
   have h4_1 : n < 0 := by simpa using h4_1
   refine srp 3000 [0,1,2,3,8,10] ?_; refine k_ret ?_; show retQ _ _ _ _ _ _ _; simp [*]
 · intro h4_1
   have h4_1 : ¬ n < 0 := by simpa using h4_1
   refine k_skip ?_; refine srp 4000 [2,3] ?_; refine k_ret ?_; show retQ _ _ _ _ _ _ _; simp [*]
theorem andm (z : Int) : bandN .u64 z 4294967295 = z % 4294967296 := by
 unfold bandN; show (((BitVec.ofInt 64 z &&& BitVec.ofInt 64 4294967295).toNat : Nat) : Int) = _; rw [BitVec.toNat_and, BitVec.toNat_ofInt]; have e : ∀ a : Nat, a &&& 4294967295 = a % 4294967296 := fun a => Nat.and_two_pow_sub_one_eq_mod a 32
 show (((z % _).toNat &&& 4294967295 : Nat) : Int) = _; rw [e]; omega
theorem wrapU (z : Int) : IntKind.u64.wrap z = z % 18446744073709551616 := rfl
theorem em32 (z : Int) : z % 4294967296 % 18446744073709551616 = z % 4294967296 := by omega
theorem fdiv32 (z : Int) : z.fdiv 4294967296 = z / 4294967296 := Int.fdiv_eq_ediv_of_nonneg _ (by omega)
theorem spec149 (x y : Int) (hx0 : 0 ≤ x) (hx : x < 18446744073709551616) (hy0 : 0 ≤ y) (hy : y < 18446744073709551616) : Flat.Sp Tryz.prog 248 [vv (.int .u64 x), vv (.int .u64 y)] [] (.tup [vv (.int .u64 (x * y / 18446744073709551616)), vv (.int .u64 (x * y % 18446744073709551616))]) [] := by
 refine sk Tryz.func248 ?_; intro F G hn hG; refine srp 1000 [0,2,4,51] ?_; refine srp 2000 [0,2,4,14,16,51] ?_; refine srp 3000 [0,2,4,14,18,51] ?_; refine srp 4000 [0,2,4,14,20,51] ?_; refine srp 5000 [0,2,4,14,22,51] ?_; refine srp 6000 [0,2,4,14,25,51] ?_; refine srp 7000 [0,2,4,8,9,10,11,14,31,51] ?_; refine srp 8000 [0,2,4,8,9,10,11,14,33,51] ?_; refine srp 9000 [0,2,4,8,9,10,12,14,35,51] ?_; refine srp 10000 [0,2,4,6,7,8,9,10,12,14,40,51] ?_; refine srp 11000 [0,2,4,6,48,51] ?_; refine srp 12000 [4,6] ?_; refine k_ret ?_; show retQ _ _ _ _ _ _ _; rw [← mul64_arith x y hx0 hx hy0 hy]; simp [*, wrapU, andm, em32, fdiv32]
 try omega
def timesR (a b : Int) : Int × Int :=
 if (size64 a * size64 b / 18446744073709551616 != 0) || decide (size64 a * size64 b % 18446744073709551616 > (if decide (a < 0) == decide (b < 0) then 9223372036854775807 else 9223372036854775808)) then (0, 10) else (IntKind.i64.wrap (a * b), 0)
theorem size64_in (n : Int) : 0 ≤ size64 n ∧ size64 n < 18446744073709551616 := by
 unfold size64; split
 · exact wrapU_in _
 · exact wrapU_in _
theorem spec95 (a b : Int) : Flat.Sp Tryz.prog 175 [vv (.int .i64 a), vv (.int .i64 b)] [] (.tup [vv (.int .i64 (timesR a b).1), vv (.int .i64 (timesR a b).2)]) [] := by
 refine sk Tryz.func175 ?_; intro F G hn hG; refine srp 1000 [0,2,4,34] ?_; refine src 2000 ?_; refine oc id (spec150 a) ?_; refine oe 2100 ?_; refine oc id (spec150 b) ?_; refine oc id (spec149 (size64 a) (size64 b) (size64_in a).1 (size64_in a).2 (size64_in b).1 (size64_in b).2) ?_; refine oe 2300 ?_; refine onp [0,2,4,9,17,34] ?_; refine srp 3000 [0,2,4,9,17,34] ?_; refine sq ?_; refine srp 4000 [0,2,4,9,21,34] ?_; refine cd ?_ ?_
 · intro h21_1
   refine rg 5000 ?_ (h := by simp [*, wrapU]; exact is_rfl _)
   refine pr [0,2,4,9,24,34] ?_; refine sq ?_; refine sq ?_; refine cv [(.tmp 30, vv (.bool ((size64 a * size64 b / 18446744073709551616 != 0) || decide (size64 a * size64 b % 18446744073709551616 > (if decide (a < 0) == decide (b < 0) then 9223372036854775807 else 9223372036854775808)))))] ?_ ?_
   · skip
     rcases h0 : (size64 a * size64 b / 18446744073709551616 != 0 : Bool) with _ | _
     · skip
       refine rc 6000 ?_ (h := by simp [*, wrapU]; exact is_rfl _)
       iterate 3 (first | refine gp 6250 ?_ (he := by intro hgg; (try simp only [Bool.and_eq_true] at hgg); simp [*, wrapU]; exact is_rfl _) | refine os ?_ | refine gt 6250 ?_ (he := by simp [*, wrapU]; exact is_rfl _))
       refine oe 6300 ?_ (h := by simp [*, wrapU]; exact is_rfl _)
       refine on ?_; refine k_nil ?_; refine ⟨rfl, ?_, ?_, ?_⟩ <;> simp [*, wrapU]
     · skip
       refine rc 1006000 ?_ (h := by simp [*, wrapU]; exact is_rfl _)
       iterate 3 (first | refine gp 1006250 ?_ (he := by intro hgg; (try simp only [Bool.and_eq_true] at hgg); simp [*, wrapU]; exact is_rfl _) | refine os ?_ | refine gt 1006250 ?_ (he := by simp [*, wrapU]; exact is_rfl _))
       refine oe 1006300 ?_ (h := by simp [*, wrapU]; exact is_rfl _)
       refine on ?_; refine k_nil ?_; refine ⟨rfl, ?_, ?_, ?_⟩ <;> simp [*, wrapU]
   refine pr [0,2,4,6,30,34] ?_; refine cd ?_ ?_
   · intro h30_2
     refine srp 7000 [0,2,4,6,31,34] ?_; refine k_ret ?_; show retQ _ _ _ _ _ _ _; simp [*, timesR]
   · intro h30_2
     refine k_skip ?_; refine srp 8000 [4,6] ?_; refine k_ret ?_; show retQ _ _ _ _ _ _ _; simp [*, timesR]
 · intro h21_1
   refine k_skip ?_; refine sq ?_; refine sq ?_; refine cv [(.tmp 30, vv (.bool ((size64 a * size64 b / 18446744073709551616 != 0) || decide (size64 a * size64 b % 18446744073709551616 > (if decide (a < 0) == decide (b < 0) then 9223372036854775807 else 9223372036854775808)))))] ?_ ?_
   · skip
     rcases h0 : (size64 a * size64 b / 18446744073709551616 != 0 : Bool) with _ | _
     · skip
       refine rc 6000 ?_ (h := by simp [*, wrapU]; exact is_rfl _)
       iterate 3 (first | refine gp 6250 ?_ (he := by intro hgg; (try simp only [Bool.and_eq_true] at hgg); simp [*, wrapU]; exact is_rfl _) | refine os ?_ | refine gt 6250 ?_ (he := by simp [*, wrapU]; exact is_rfl _))
       refine oe 6300 ?_ (h := by simp [*, wrapU]; exact is_rfl _)
       refine on ?_; refine k_nil ?_; refine ⟨rfl, ?_, ?_, ?_⟩ <;> simp [*, wrapU]
     · skip
       refine rc 1006000 ?_ (h := by simp [*, wrapU]; exact is_rfl _)
       iterate 3 (first | refine gp 1006250 ?_ (he := by intro hgg; (try simp only [Bool.and_eq_true] at hgg); simp [*, wrapU]; exact is_rfl _) | refine os ?_ | refine gt 1006250 ?_ (he := by simp [*, wrapU]; exact is_rfl _))
       refine oe 1006300 ?_ (h := by simp [*, wrapU]; exact is_rfl _)
       refine on ?_; refine k_nil ?_; refine ⟨rfl, ?_, ?_, ?_⟩ <;> simp [*, wrapU]
   refine pr [0,2,4,6,30,34] ?_; refine cd ?_ ?_
   · intro h30_3
     refine srp 7000 [0,2,4,6,31,34] ?_; refine k_ret ?_; show retQ _ _ _ _ _ _ _; simp [*, timesR]
   · intro h30_3
     refine k_skip ?_; refine srp 8000 [4,6] ?_; refine k_ret ?_; show retQ _ _ _ _ _ _ _; simp [*, timesR]
def unlessF (f : Int) (ok : Bool) (why : Int) : Int := if (f == 0) && !ok then why else f
theorem spec104 (f : Int) (q : PV) (ok : Bool) (why : Int) : Flat.Sp Tryz.prog 99 [.ptr 0 0, vv (.bool ok), vv (.int .i64 why)] [(.var 0, .n 2), (.cell 0 0, .av (vv (.int .i64 f))), (.cell 0 1, .av (.p q))] (.tup []) [(.var 0, .n 2), (.cell 0 0, .av (vv (.int .i64 (unlessF f ok why)))), (.cell 0 1, .av (.p q))] := by
 refine sk Tryz.func99 ?_; intro F G hn hG; refine sq ?_; refine cv [(.tmp 14, vv (.bool ((f == 0) && !ok)))] ?_ ?_
 · skip
   rcases h0 : (f == 0 : Bool) with _ | _
   · skip
     refine rc 1000 ?_; iterate 2 (first | refine gp 1150 ?_ | refine os ?_ | refine gt 1150 ?_)
     refine oe 1200 ?_; refine on ?_; refine k_nil ?_; refine ⟨rfl, ?_, ?_, ?_⟩ <;> simp [*]
   · skip
     refine rc 1001000 ?_; iterate 2 (first | refine gp 1001150 ?_ | refine os ?_ | refine gt 1001150 ?_)
     refine oe 1001200 ?_; refine on ?_; refine k_nil ?_; refine ⟨rfl, ?_, ?_, ?_⟩ <;> simp [*]
 refine pr [0,1,2,3,14,19] ?_; refine cd ?_ ?_
 · intro h14_1
   refine rg 2000 ?_; refine k_nil ?_; show retQ _ _ _ _ _ _ _; simp [*, unlessF]
 · intro h14_1
   refine k_skip ?_; refine k_nil ?_; show retQ _ _ _ _ _ _ _; simp [*, unlessF]
attribute [local simp] Val.av Val.num in
theorem spec163 (f : Int) (q : PV) (n why : Int) : Flat.Sp Tryz.prog 200 [.ptr 0 0, vv (.int .i64 n), vv (.int .i64 why)] [(.var 0, .n 2), (.cell 0 0, .av (vv (.int .i64 f))), (.cell 0 1, .av (.p q))] ((Val.num n).av) [(.var 0, .n 2), (.cell 0 0, .av (vv (.int .i64 (unlessF f (why == 0) why)))), (.cell 0 1, .av (.p q))] := by
 refine sk Tryz.func200 ?_; intro F G hn hG; refine srp 1000 [0,3,6,13,14,16] ?_; refine src 2000 ?_; refine oc id (spec104 f q (why == 0) why) ?_; refine onp [1,2,6,7,14,16] ?_; refine srp 3000 [6,7] ?_; refine k_ret ?_; show retQ _ _ _ _ _ _ _; simp [*]
def lessR (a b : Int) : Int × Int := tfit (tsum [a, IntKind.i64.wrap (bxorN .i64 (-1) b), 1])
attribute [local simp] lessR in
theorem spec164 (a b : Int) : Flat.Sp Tryz.prog 201 [vv (.int .i64 a), vv (.int .i64 b)] [] (.tup [vv (.int .i64 (lessR a b).1), vv (.int .i64 (lessR a b).2)]) [] := by
 refine sk Tryz.func201 ?_; intro F G hn hG; refine srp 1000 [0,2,4,13] ?_; refine src 2000 ?_; refine oc id (spec165 [a, IntKind.i64.wrap (bxorN .i64 (-1) b), 1] (by simp [Flat.lim])) ?_ (hg := by simp [*, irow]) (hf := by simp [*, irow]; exact is_rfl _) (hx := by simp [*, irow]; exact is_rfl _) (hargs := by simp [*, irow]) (hB := by simp [*, irow]) (hL := by simp [*, irow]) (hd := by simp [*, irow]; exact is_rfl _)
 refine oe 2100 ?_; refine onp [4,6] ?_; refine k_ret ?_; show retQ _ _ _ _ _ _ _; simp [*]
def kidsOf (o : Int) : Int := if o == 1 then 0 else if o == 2 then 0 else if o == 6 then 1 else if o == 11 then 1 else if o == 12 then 3 else 2
attribute [local simp] kidsOf in
theorem spec100 (o : Int) : Flat.Sp Tryz.prog 194 [vv (.int .u8 o)] [] (vv (.int .i64 (kidsOf o))) [] := by
 refine sk Tryz.func194 ?_; intro F G hn hG; refine srp 1000 [0,1,2,12] ?_; refine sq ?_; refine srp 2000 [2,12] ?_; refine k_block ?_; refine sq ?_; refine srp 3000 [2,5,6,12] ?_; refine cd ?_ ?_
 · intro h4_1
   refine k_skip ?_; refine ct ?_; refine srp 5000 [2,3] ?_; refine k_ret ?_; show retQ _ _ _ _ _ _ _; simp [*]
 · intro h4_1
   refine rgp 4000 [2,5,7,12] ?_; refine cd ?_ ?_
   · intro h4_2
     refine srp 5000 [2,3] ?_; refine k_ret ?_; show retQ _ _ _ _ _ _ _; simp [*]
   · intro h4_2
     refine sq ?_; refine srp 6000 [2,4,7,8,9,12] ?_; refine cd ?_ ?_
     · intro h7_3
       refine k_skip ?_; refine ct ?_; refine srp 8000 [2,3] ?_; refine k_ret ?_; show retQ _ _ _ _ _ _ _; simp [*]
     · intro h7_3
       refine rgp 7000 [2,4,7,8,10,12] ?_; refine cd ?_ ?_
       · intro h7_4
         refine srp 8000 [2,3] ?_; refine k_ret ?_; show retQ _ _ _ _ _ _ _; simp [*]
       · intro h7_4
         refine srp 9000 [2,3,10,11] ?_; refine cd ?_ ?_
         · intro h10_5
           refine srp 10000 [2,3] ?_; refine k_ret ?_; show retQ _ _ _ _ _ _ _; simp [*]
         · intro h10_5
           refine k_skip ?_; refine k_nil ?_; show AK _ _ _ _ _ _; refine srp 11000 [2,3] ?_; refine k_ret ?_; show retQ _ _ _ _ _ _ _; simp [*]
end
section
inductive E where
 | mk (op col : Int) (c : Val) (kids : List E)
mutual
def E.row : E → List PV
 | .mk op col c kids => [.v (.int .u8 op), .v (.int .i64 col), .v (.bool c.t), .v (.int .i64 c.n), .v (.string c.s), .ps (E.rows kids)]
def E.rows : List E → List (List PV)
 | [] => []
 | e :: r => e.row :: E.rows r
end
theorem E.rows_eq : ∀ l : List E, E.rows l = l.map E.row
 | [] => by simp [E.rows]
 | e :: r => by simp [E.rows, E.rows_eq r]
theorem E.row_eq (op col : Int) (c : Val) (kids : List E) : (E.mk op col c kids).row = [.v (.int .u8 op), .v (.int .i64 col), .v (.bool c.t), .v (.int .i64 c.n), .v (.string c.s), .ps (kids.map E.row)] := by rw [E.row, E.rows_eq]
theorem E.row_len (e : E) : e.row.length = 6 := by cases e; rw [E.row_eq]; rfl
def E.av : E → AV
 | .mk op col c kids => .agg [vv (.int .u8 op), vv (.int .i64 col), vv (.bool c.t), vv (.int .i64 c.n), vv (.string c.s), .p (.ps (kids.map E.row))]
theorem E.ind {p : E → Prop} (h : ∀ op col c kids, (∀ k ∈ kids, p k) → p (.mk op col c kids)) : ∀ e, p e := by
 intro e
 induction e using E.rec (motive_2 := fun l => ∀ k ∈ l, p k) with
 | mk op col c kids ih => exact h op col c kids ih
 | nil => rename_i k hk; simp at hk
 | cons e r h1 h2 =>
   rename_i k hk
   rcases List.mem_cons.1 hk with rfl | hk
   · exact h1
   · exact h2 k hk
def okA (op : Int) (nk : Nat) : Bool := decide (0 < op) && (decide (op < 13) && ((nk : Int) == kidsOf op))
def Val.eqB (a b : Val) : Bool := (a.t == b.t) && ((a.n == b.n) && (a.s.toList == b.s.toList))
@[simp] theorem Val.eta (c : Val) : Val.mk c.t c.n c.s = c := rfl
@[simp] theorem eqVal (t1 t2 : Bool) (n1 n2 : Int) (s1 s2 : ByteArray) : eqT (tyOf Tryz.prog) 8 25 (.agg [.p (.v (.bool t1)), .p (.v (.int .i64 n1)), .p (.v (.string s1))]) (.agg [.p (.v (.bool t2)), .p (.v (.int .i64 n2)), .p (.v (.string s2))]) = some (Val.eqB ⟨t1, n1, s1⟩ ⟨t2, n2, s2⟩) := by
 simp [eqT, eqCut, Val.eqB]
def Val.zero : Val := ⟨false, 0, ⟨#[]⟩⟩
def okE (op col : Int) (c : Val) (nk : Nat) : Bool := okA op nk && ((col == 0 || op == 1) && ((c.eqB ⟨false, 0, ⟨#[]⟩⟩ || op == 2) && (checkRow [c] == 0)))
theorem kidsOf_le (o : Int) : 0 ≤ kidsOf o ∧ kidsOf o ≤ 3 := by
 unfold kidsOf
 repeat' split
 all_goals omega
theorem okE_len {op col : Int} {c : Val} {nk : Nat} (h : okE op col c nk = true) : nk ≤ 3 := by
 have h2 := (kidsOf_le op).2; simp only [okE, okA, Bool.and_eq_true, beq_iff_eq] at h; omega
abbrev Srv := Int × Int × Bool
mutual
def look : E → Int → Srv → Srv
 | .mk op col c kids, d, s =>
   let ok := okE op col c kids.length
   let s := (IntKind.i64.wrap (s.1 + 1), (if d > s.2.1 then d else s.2.1), s.2.2 || !ok)
   if !ok || decide (d > 16) then s else lookL kids (IntKind.i64.wrap (d + 1)) s
def lookL : List E → Int → Srv → Srv
 | [], _, s => s
 | e :: r, d, s => lookL r d (look e d s)
end
theorem lookL_append (d : Int) : ∀ (l r : List E) (s : Srv), lookL (l ++ r) d s = lookL r d (lookL l d s)
 | [], r, s => by simp [lookL]
 | e :: l, r, s => by simp [lookL, lookL_append d l r]
theorem lookL_take {kids : List E} {d : Int} {s : Srv} {i : Nat} {x : E} (h : kids[i]? = some x) : lookL (kids.take (i + 1)) d s = look x d (lookL (kids.take i) d s) := by
 rw [List.take_add_one, h, lookL_append]; simp [lookL]
attribute [local simp] E.av in
theorem spec53_step (op col : Int) (c : Val) (kids : List E) (ih : ∀ k ∈ kids, ∀ d s, Flat.Sp Tryz.prog 95 [.ptr 0 0, k.av, vv (.int .i64 d)] [(.var 0, .n 3), (.cell 0 0, .av (vv (.int .i64 (s).1))), (.cell 0 1, .av (vv (.int .i64 (s).2.1))), (.cell 0 2, .av (vv (.bool (s).2.2)))] (.tup []) [(.var 0, .n 3), (.cell 0 0, .av (vv (.int .i64 (look k d s).1))), (.cell 0 1, .av (vv (.int .i64 (look k d s).2.1))), (.cell 0 2, .av (vv (.bool (look k d s).2.2)))]) (d : Int) (s : Srv) : Flat.Sp Tryz.prog 95 [.ptr 0 0, (E.mk op col c kids).av, vv (.int .i64 d)] [(.var 0, .n 3), (.cell 0 0, .av (vv (.int .i64 (s).1))), (.cell 0 1, .av (vv (.int .i64 (s).2.1))), (.cell 0 2, .av (vv (.bool (s).2.2)))] (.tup []) [(.var 0, .n 3), (.cell 0 0, .av (vv (.int .i64 (look (E.mk op col c kids) d s).1))), (.cell 0 1, .av (vv (.int .i64 (look (E.mk op col c kids) d s).2.1))), (.cell 0 2, .av (vv (.bool (look (E.mk op col c kids) d s).2.2)))] := by
 refine sk Tryz.func95 ?_; intro F G hn hG; refine srp 1000 [0,1,2,3,4,5,6,7,8,100,101,102] ?_; refine sq ?_; refine dr ?_; refine de 2000 ?_; refine dn ?_; refine pr [0,1,2,3,4,5,6,7,8,9,26,100,101,102] ?_; refine sq ?_; refine cv [(.tmp 6, vv (.bool (okA op kids.length)))] ?_ ?_
 · skip
   refine dr ?_; refine de 3000 ?_ (h := by simp [*, okA]; exact is_rfl _)
   iterate 3 (first | refine dp 3250 ?_ (he := by intro hgg; (try simp only [Bool.and_eq_true] at hgg); simp [*, okA]; exact is_rfl _) | refine ds ?_ | refine dt 3250 ?_ (he := by simp [*, okA]; exact is_rfl _))
   refine de 3300 ?_ (h := by simp [*, okA]; exact is_rfl _)
   iterate 5 (first | refine dp 3750 ?_ (he := by intro hgg; (try simp only [Bool.and_eq_true] at hgg); simp [*, okA]; exact is_rfl _) | refine ds ?_ | refine dt 3750 ?_ (he := by simp [*, okA]; exact is_rfl _))
   refine dg (fun hg => spec100 op) ?_ (hf := by intro hgg; (try simp only [Bool.and_eq_true] at hgg); simp [*, okA]; exact is_rfl _) (hx := by intro hgg; (try simp only [Bool.and_eq_true] at hgg); simp [*, okA]; exact is_rfl _) (hargs := by intro hgg; (try simp only [Bool.and_eq_true] at hgg); simp [*, okA]) (hd := by simp [*, okA]; exact is_rfl _)
   first | refine dp 3950 ?_ (he := by intro hgg; (try simp only [Bool.and_eq_true] at hgg); simp [*, okA]; exact is_rfl _) | refine ds ?_ | refine dt 3950 ?_ (he := by simp [*, okA]; exact is_rfl _)
   refine de 4000 ?_ (h := by simp [*, okA]; exact is_rfl _)
   refine dn ?_; refine k_nil ?_; refine ⟨rfl, ?_, ?_, ?_⟩ <;> simp [*, okA]
 refine pr [0,1,2,3,4,5,6,7,8,9,43,100,101,102] ?_; refine sq ?_; refine cv [(.tmp 6, vv (.bool (okE op col c kids.length)))] ?_ ?_
 · skip
   refine rc 4000 ?_ (h := by simp [*, okE]; exact is_rfl _)
   iterate 8 (first | refine gp 4750 ?_ (he := by intro hgg; (try simp only [Bool.and_eq_true] at hgg); simp [*, okE]; exact is_rfl _) | refine os ?_ | refine gt 4750 ?_ (he := by simp [*, okE]; exact is_rfl _))
   refine oe 4800 ?_ (h := by simp [*, okE]; exact is_rfl _)
   iterate 9 (first | refine gp 5650 ?_ (he := by intro hgg; (try simp only [Bool.and_eq_true] at hgg); simp [*, okE]; exact is_rfl _) | refine os ?_ | refine gt 5650 ?_ (he := by simp [*, okE]; exact is_rfl _))
   refine oe 5700 ?_ (h := by simp [*, okE]; exact is_rfl _)
   iterate 3 (first | refine gp 5950 ?_ (he := by intro hgg; (try simp only [Bool.and_eq_true] at hgg); simp [*, okE]; exact is_rfl _) | refine os ?_ | refine gt 5950 ?_ (he := by simp [*, okE]; exact is_rfl _))
   refine og (fun hg => spec54 [c] (by simp [Flat.lim])) ?_ (hf := by intro hgg; (try simp only [Bool.and_eq_true] at hgg); simp [*, okE, Val.row]; exact is_rfl _) (hx := by intro hgg; (try simp only [Bool.and_eq_true] at hgg); simp [*, okE, Val.row]; exact is_rfl _) (hargs := by intro hgg; (try simp only [Bool.and_eq_true] at hgg); simp [*, okE, Val.row]) (hd := by simp [*, okE, Val.row]; exact is_rfl _)
   first | refine gp 6150 ?_ (he := by intro hgg; (try simp only [Bool.and_eq_true] at hgg); simp [*, okE]; exact is_rfl _) | refine os ?_ | refine gt 6150 ?_ (he := by simp [*, okE]; exact is_rfl _)
   refine oe 6200 ?_ (h := by simp [*, okE]; exact is_rfl _)
   refine on ?_; refine k_nil ?_; refine ⟨rfl, ?_, ?_, ?_⟩ <;> simp [*, okE]
 refine pr [0,1,2,3,4,5,6,7,8,9,72,100,101,102] ?_; refine src 5000 ?_; iterate 2 (first | refine gp 5150 ?_ | refine os ?_ | refine gt 5150 ?_)
 refine oe 5200 ?_; refine onp [0,1,2,3,4,5,6,7,8,9,83,100,101,102] ?_; refine sq ?_; refine src 6000 ?_; iterate 2 (first | refine gp 6150 ?_ | refine os ?_ | refine gt 6150 ?_)
 refine oe 6200 ?_; refine onp [0,1,2,3,4,5,8,9,88,100,101,102] ?_; refine cd ?_ ?_
 · intro h88_1
   have h88_1 : (!(okE op col c kids.length) || decide (d > 16)) = true := h88_1; refine k_ret ?_; show retQ _ _ _ _ _ _ _; simp [*, look]
 · intro h88_1
   have h88_1 : (!(okE op col c kids.length) || decide (d > 16)) = false := h88_1; have hk : kids.length ≤ Flat.lim := Nat.le_trans (okE_len (by simp at h88_1; exact h88_1.1)) (by simp [Flat.lim])
   refine k_skip ?_; refine srp 7000 [0,1,2,3,8,9,90,100,101,102] ?_; refine k_block ?_; refine k_loop (fun n l => ∃ i, i + n = kids.length ∧ (True) ∧ l = [(.tmp 0, .av (.ptr 0 0)), (.tmp 2, .av (vv (.int .i64 d))), (.tmp 90, .av (.p (.ps (kids.map E.row)))), (.tmp 91, .av (vv (.int .i64 kids.length))), (.tmp 92, .av (vv (.int .i64 i))), (.var 0, .n 3), (.cell 0 0, .av (vv (.int .i64 (lookL (kids.take i) (IntKind.i64.wrap (d + 1)) ((IntKind.i64.wrap (s.1 + 1), (if d > s.2.1 then d else s.2.1), s.2.2 || !(okE op col c kids.length)) : Srv)).1))), (.cell 0 1, .av (vv (.int .i64 (lookL (kids.take i) (IntKind.i64.wrap (d + 1)) ((IntKind.i64.wrap (s.1 + 1), (if d > s.2.1 then d else s.2.1), s.2.2 || !(okE op col c kids.length)) : Srv)).2.1))), (.cell 0 2, .av (vv (.bool (lookL (kids.take i) (IntKind.i64.wrap (d + 1)) ((IntKind.i64.wrap (s.1 + 1), (if d > s.2.1 then d else s.2.1), s.2.2 || !(okE op col c kids.length)) : Srv)).2.2)))]) (kids.length) hG ⟨_, ⟨by simp [lookL], by simp, by simp⟩, 0, by simp, trivial, rfl⟩ ?_
   rintro n _ ⟨i, hin, hfa, rfl⟩; refine srp 8000 [0,1,2,3,8,9,90,100,101,102] ?_; refine sq ?_; refine cd ?_ ?_
   · intro h93_2
     have hlt : i < kids.length := by simpa using h93_2
     obtain ⟨x, hxe⟩ : ∃ x, kids[i] = x := ⟨_, rfl⟩; have hx : kids[i]? = some x := by simp [hlt, hxe]
     obtain ⟨xo, xc, xv, xk⟩ := x; have hmem : E.mk xo xc xv xk ∈ kids := hxe ▸ List.getElem_mem hlt; refine k_skip ?_; refine sq ?_; refine k_block ?_; refine sq ?_; refine rg 9000 ?_ (h := by simp [*, E.row_eq]; exact is_rfl _)
     refine pr [0,1,2,3,8,9,90,100,101,102] ?_; refine rc 10000 ?_; refine oc id (ih _ hmem (IntKind.i64.wrap (d + 1)) (lookL (kids.take i) (IntKind.i64.wrap (d + 1)) ((IntKind.i64.wrap (s.1 + 1), (if d > s.2.1 then d else s.2.1), s.2.2 || !(okE op col c kids.length)) : Srv))) ?_
     refine on ?_; refine k_nil ?_; show AK _ _ _ _ _ _; refine rg 11000 ?_ (h := by simp [*, wrap_succ (show i < Flat.lim by omega)]; exact is_rfl _)
     refine k_nil ?_; refine ⟨n - 1, by omega, _, ⟨?_, ?_, ?_⟩, i + 1, by omega, trivial, rfl⟩ <;> simp [*, lookL_take hx]
   · intro h93_2
     have hge : kids.length ≤ i := by simpa using h93_2
     have htk : kids.take i = kids := List.take_of_length_le hge; refine k_exit ?_; show AK _ _ _ _ _ _; refine k_nil ?_; show retQ _ _ _ _ _ _ _; simp [*, look]
theorem spec53 : ∀ (e : E) (d : Int) (s : Srv), Flat.Sp Tryz.prog 95 [.ptr 0 0, e.av, vv (.int .i64 d)] [(.var 0, .n 3), (.cell 0 0, .av (vv (.int .i64 (s).1))), (.cell 0 1, .av (vv (.int .i64 (s).2.1))), (.cell 0 2, .av (vv (.bool (s).2.2)))] (.tup []) [(.var 0, .n 3), (.cell 0 0, .av (vv (.int .i64 (look e d s).1))), (.cell 0 1, .av (vv (.int .i64 (look e d s).2.1))), (.cell 0 2, .av (vv (.bool (look e d s).2.2)))] :=
 E.ind fun op col c kids ih d s => spec53_step op col c kids ih d s
def checkE (e : E) : Int := let s := look e 1 (0, 0, false); if s.2.2 then 4 else if decide (64 < s.1) then 2 else if decide (16 < s.2.1) then 2 else 0
attribute [local simp] E.av in
theorem spec22 (op col : Int) (c : Val) (kids : List E) : Flat.Sp Tryz.prog 37 [(E.mk op col c kids).av] [] (vv (.int .i64 (checkE (E.mk op col c kids)))) [] := by
 refine sk Tryz.func37 ?_; intro F G hn hG; refine srp 1000 [1,5,6,16] ?_; refine srp 2000 [1,5,6,16] ?_; refine src 3000 ?_; refine oc (fun _ => 2000) (spec53 (E.mk op col c kids) 1 (0, 0, false)) ?_
 refine onp [2,4,6,16] ?_; refine sq ?_; refine k_block ?_; refine srp 4000 [2,4,6,7,9,16] ?_; refine cd ?_ ?_
 · intro h6_1
   refine srp 5000 [2,3] ?_; refine k_ret ?_; show retQ _ _ _ _ _ _ _; simp [*, checkE]
 · intro h6_1
   refine sq ?_; refine srp 6000 [2,4,9,10,13,16] ?_; refine cd ?_ ?_
   · intro h9_2
     refine k_skip ?_; refine ct ?_; refine srp 8000 [2,3] ?_; refine k_ret ?_; show retQ _ _ _ _ _ _ _; simp [*, checkE]
   · intro h9_2
     refine rgp 7000 [2,3,9,10] ?_; refine cd ?_ ?_
     · intro h9_3
       refine srp 8000 [2,3] ?_; refine k_ret ?_; show retQ _ _ _ _ _ _ _; simp [*, checkE]
     · intro h9_3
       refine k_skip ?_; refine k_nil ?_; show AK _ _ _ _ _ _; refine srp 9000 [2,3] ?_; refine k_ret ?_; show retQ _ _ _ _ _ _ _; simp [*, checkE]
end
section
def trow (t : Int) : List PV := [.v (.int .u8 t)]
mutual
def E.good : E → Prop
 | .mk op col c kids => okE op col c kids.length = true ∧ E.goodL kids
def E.goodL : List E → Prop
 | [] => True
 | e :: r => e.good ∧ E.goodL r
end
theorem E.goodL_mem : ∀ {l : List E}, E.goodL l → ∀ k ∈ l, k.good
 | [], _, k, h => by simp at h
 | e :: r, h, k, hk => by
   simp only [E.goodL] at h; rcases List.mem_cons.1 hk with rfl | hk
   · exact h.1
   · exact E.goodL_mem h.2 k hk
def at3 (l : List Int) (i : Nat) : Int := l.getD i 0
mutual
def judge (ts : List Int) : E → Int → Int × Int
 | .mk op col c kids, w =>
   if op == 1 then
     let w := unlessF w (decide (0 ≤ col) && decide (col < ts.length)) 1
     if w != 0 then (0, w) else (ts.getD col.toNat 0, w)
   else if op == 2 then (tOf c, w)
   else
     let r := judgeL ts kids w
     if op == 7 || op == 8 then (1, unlessF r.2 (at3 r.1 0 == at3 r.1 1) 11)
     else if op == 12 then (at3 r.1 1, unlessF r.2 (at3 r.1 0 == 1 && at3 r.1 1 == at3 r.1 2) 11)
     else (1, r.1.foldl (fun w t => unlessF w (t == 1) 11) r.2)
def judgeL (ts : List Int) : List E → Int → List Int × Int
 | [], w => ([], w)
 | e :: r, w => ((judge ts e w).1 :: (judgeL ts r (judge ts e w).2).1, (judgeL ts r (judge ts e w).2).2)
end
theorem unless_ok {w y : Int} {b : Bool} (hy : y ≠ 0) (h : (unlessF w b y != 0) = false) : w = 0 ∧ b = true := by
 unfold unlessF at h; cases b <;> simp at h ⊢
 · by_cases hw : w = 0
   · simp [hw] at h; exact hy h
   · simp [hw] at h
 · exact h
attribute [local simp] E.av in
theorem spec56_col (ts : List Int) (hts : ts.length ≤ Flat.lim) (col : Int) (c : Val) (w : Int) : Flat.Sp Tryz.prog 281 [.ptr 0 0, (E.mk 1 col c []).av] [(.var 0, .n 2), (.cell 0 0, .av (vv (.int .i64 w))), (.cell 0 1, .av (.p (.ps (ts.map trow))))] (vv (.int .u8 (judge ts (E.mk 1 col c []) w).1)) [(.var 0, .n 2), (.cell 0 0, .av (vv (.int .i64 (judge ts (E.mk 1 col c []) w).2))), (.cell 0 1, .av (.p (.ps (ts.map trow))))] := by
 refine sk Tryz.func281 ?_; intro F G hn hG; refine srp 1000 [0,1,3,29,30,80,81,99,100,117,118,119] ?_; refine sq ?_; refine srp 2000 [0,1,3,9,10,29,30,80,81,99,100,117,118,119] ?_; refine k_block ?_; refine srp 3000 [0,1,3,9,10,12,13,29,30,80,81,99,100,117,118,119] ?_; refine ct ?_; refine sq ?_; refine dr ?_; refine de 4000 ?_; iterate 8 (first | refine dp 4750 ?_ | refine ds ?_ | refine dt 4750 ?_)
 refine de 4800 ?_; refine dc id (spec104 w (.ps (ts.map trow)) (decide (0 ≤ col) && decide (col < ts.length)) 1) ?_; refine dn ?_; refine pr [0,1,3,9,30,44,49,80,81,99,100,117,118,119] ?_; refine sq ?_; refine srp 5000 [0,1,3,9,35,44,49,80,81,99,100,117,118,119] ?_; refine cd ?_ ?_
 · intro h35_1
   have h35_1 : (unlessF w (decide (0 ≤ col) && decide (col < ts.length)) 1 != 0) = true := by simpa using h35_1
   refine srp 6000 [0,1,3,9,36,44,49,80,81,99,100,117,118,119] ?_; refine k_ret ?_; show retQ _ _ _ _ _ _ _; simp [*, judge]
 · intro h35_1
   have h35_1 : (unlessF w (decide (0 ≤ col) && decide (col < ts.length)) 1 != 0) = false := by simpa using h35_1
   obtain ⟨rfl, hcb⟩ := unless_ok (by omega) h35_1
   simp only [Bool.and_eq_true, decide_eq_true_eq] at hcb; obtain ⟨k, rfl⟩ := Int.eq_ofNat_of_zero_le hcb.1; have hlt : k < ts.length := by omega
   obtain ⟨t, hte⟩ : ∃ t, ts[k] = t := ⟨_, rfl⟩; have hu0 : unlessF 0 true 1 = 0 := rfl; refine k_skip ?_; refine sq ?_; refine dr ?_; refine de 7000 ?_ (h := by simp [*, trow]; exact is_rfl _)
   refine dn ?_; refine pr [0,1,3,9,49,80,81,99,100,117,118,119] ?_; refine k_ret ?_; show retQ _ _ _ _ _ _ _; simp [*, judge, trow]
attribute [local simp] E.av in
theorem spec56_con (ts : List Int) (col : Int) (c : Val) (w : Int) : Flat.Sp Tryz.prog 281 [.ptr 0 0, (E.mk 2 col c []).av] [(.var 0, .n 2), (.cell 0 0, .av (vv (.int .i64 w))), (.cell 0 1, .av (.p (.ps (ts.map trow))))] (vv (.int .u8 (judge ts (E.mk 2 col c []) w).1)) [(.var 0, .n 2), (.cell 0 0, .av (vv (.int .i64 (judge ts (E.mk 2 col c []) w).2))), (.cell 0 1, .av (.p (.ps (ts.map trow))))] := by
 refine sk Tryz.func281 ?_; intro F G hn hG; refine srp 1000 [0,1,3,29,30,80,81,99,100,117,118,119] ?_; refine sq ?_; refine srp 2000 [0,1,3,9,10,29,30,80,81,99,100,117,118,119] ?_; refine k_block ?_; refine srp 3000 [0,1,3,9,10,12,13,29,30,80,81,99,100,117,118,119] ?_; refine ce ?_; refine srp 8000 [0,1,3,9,44,45,46,80,81,99,100,117,118,119] ?_; refine ct ?_; refine src 9000 ?_; refine oc id (spec57 c) ?_ (hg := by simp [*, Val.av]) (hf := by simp [*, Val.av]; exact is_rfl _) (hx := by simp [*, Val.av]; exact is_rfl _) (hargs := by simp [*, Val.av]) (hB := by simp [*, Val.av]) (hL := by simp [*, Val.av]) (hd := by simp [*, Val.av]; exact is_rfl _)
 refine oe 9100 ?_; refine onp [0,1,3,9,49,80,81,99,100,117,118,119] ?_; refine k_ret ?_; show retQ _ _ _ _ _ _ _; simp [*, judge]
attribute [local simp] E.av E.row_eq in
theorem spec56_one (ts : List Int) (op col : Int) (c : Val) (ao ac : Int) (av : Val) (ak : List E) (hop : op = 6 ∨ op = 11) (ha : ∀ w : Int, Flat.Sp Tryz.prog 281 [.ptr 0 0, (E.mk ao ac av ak).av] [(.var 0, .n 2), (.cell 0 0, .av (vv (.int .i64 w))), (.cell 0 1, .av (.p (.ps (ts.map trow))))] (vv (.int .u8 (judge ts (E.mk ao ac av ak) w).1)) [(.var 0, .n 2), (.cell 0 0, .av (vv (.int .i64 (judge ts (E.mk ao ac av ak) w).2))), (.cell 0 1, .av (.p (.ps (ts.map trow))))]) (w : Int) : Flat.Sp Tryz.prog 281 [.ptr 0 0, (E.mk op col c [E.mk ao ac av ak]).av] [(.var 0, .n 2), (.cell 0 0, .av (vv (.int .i64 w))), (.cell 0 1, .av (.p (.ps (ts.map trow))))] (vv (.int .u8 (judge ts (E.mk op col c [E.mk ao ac av ak]) w).1)) [(.var 0, .n 2), (.cell 0 0, .av (vv (.int .i64 (judge ts (E.mk op col c [E.mk ao ac av ak]) w).2))), (.cell 0 1, .av (.p (.ps (ts.map trow))))] := by
 refine sk Tryz.func281 ?_; intro F G hn hG; have ho1 : (op == 1) = false := by rcases hop with rfl | rfl <;> rfl
 have ho2 : (op == 2) = false := by rcases hop with rfl | rfl <;> rfl
 have ho7 : (op == 7) = false := by rcases hop with rfl | rfl <;> rfl
 have ho8 : (op == 8) = false := by rcases hop with rfl | rfl <;> rfl
 have ho12 : (op == 12) = false := by rcases hop with rfl | rfl <;> rfl
 refine srp 1000 [0,1,3,29,30,80,81,99,100,117,118,119] ?_; refine sq ?_; refine srp 2000 [0,1,3,9,10,29,30,80,81,99,100,117,118,119] ?_; refine k_block ?_; refine srp 3000 [0,1,3,9,10,12,13,29,30,80,81,99,100,117,118,119] ?_; refine ce ?_; refine srp 8000 [0,1,3,9,44,45,46,80,81,99,100,117,118,119] ?_; refine ce ?_; refine k_skip ?_; refine k_nil ?_; show AK _ _ _ _ _ _; refine srp 10000 [0,1,3,9,50,80,81,99,100,117,118,119] ?_; refine sq ?_; refine srp 11000 [0,1,3,9,51,80,81,99,100,117,118,119] ?_; refine k_block ?_; refine k_rounds 2 ?_; show AK _ _ _ _ _ _; refine srp 12000 [0,1,3,9,51,80,81,99,100,117,118,119] ?_; refine sq ?_; refine ct ?_; refine k_skip ?_; refine sq ?_; refine k_block ?_; refine srp 13000 [0,1,3,9,51,80,81,99,100,117,118,119] ?_; refine rc 14000 ?_; refine oc id (ha w) ?_; refine oe 14100 ?_; refine on ?_; refine k_nil ?_; show AK _ _ _ _ _ _; refine rg 15000 ?_; refine k_nil ?_; show AK _ _ _ _ _ _; refine srp 1012000 [0,1,3,9,51,80,81,99,100,117,118,119] ?_; refine sq ?_; refine ce ?_; refine k_exit ?_; show AK _ _ _ _ _ _; refine sq ?_; refine srp 16000 [0,1,3,6,8,9,66,80,81,99,100,117,118,119] ?_; refine k_block ?_; refine sq ?_; refine srp 17000 [0,1,3,6,8,9,66,68,69,80,81,99,100,117,118,119] ?_; refine ce ?_; refine rgp 18000 [0,1,3,6,8,9,66,68,70,80,81,99,100,117,118,119] ?_; refine ce ?_; refine srp 21000 [0,1,3,6,8,9,81,82,83,99,100,117,118,119] ?_; refine ce ?_; refine k_skip ?_; refine k_nil ?_; show AK _ _ _ _ _ _; refine sq ?_; refine srp 24000 [0,1,4,6,8,9,105,117,118,119] ?_; refine k_block ?_; refine k_rounds 2 ?_; show AK _ _ _ _ _ _; refine srp 25000 [0,1,4,6,8,9,105,117,118,119] ?_; refine sq ?_; refine ct ?_; refine k_skip ?_; refine sq ?_; refine k_block ?_; refine srp 26000 [0,1,4,6,8,9,105,117,118,119] ?_; refine dr ?_; refine de 27000 ?_; refine dc id (spec104 ((judge ts (E.mk ao ac av ak) w).2) (.ps (ts.map trow)) ((judge ts (E.mk ao ac av ak) w).1 == 1) 11) ?_; refine dn ?_; refine k_nil ?_; show AK _ _ _ _ _ _; refine rg 28000 ?_; refine k_nil ?_; show AK _ _ _ _ _ _; refine srp 1025000 [0,1,4,6,8,9,105,117,118,119] ?_; refine sq ?_; refine ce ?_; refine k_exit ?_; show AK _ _ _ _ _ _; refine srp 29000 [4,5] ?_; refine k_ret ?_; show retQ _ _ _ _ _ _ _; simp [*, judge, judgeL, at3]
attribute [local simp] E.av E.row_eq in
theorem spec56_two (ts : List Int) (op col : Int) (c : Val) (ao ac : Int) (av : Val) (ak : List E) (bo bc : Int) (bv : Val) (bk : List E) (hop : op = 3 ∨ op = 4 ∨ op = 5 ∨ op = 9 ∨ op = 10) (ha : ∀ w : Int, Flat.Sp Tryz.prog 281 [.ptr 0 0, (E.mk ao ac av ak).av] [(.var 0, .n 2), (.cell 0 0, .av (vv (.int .i64 w))), (.cell 0 1, .av (.p (.ps (ts.map trow))))] (vv (.int .u8 (judge ts (E.mk ao ac av ak) w).1)) [(.var 0, .n 2), (.cell 0 0, .av (vv (.int .i64 (judge ts (E.mk ao ac av ak) w).2))), (.cell 0 1, .av (.p (.ps (ts.map trow))))]) (hb : ∀ w : Int, Flat.Sp Tryz.prog 281 [.ptr 0 0, (E.mk bo bc bv bk).av] [(.var 0, .n 2), (.cell 0 0, .av (vv (.int .i64 w))), (.cell 0 1, .av (.p (.ps (ts.map trow))))] (vv (.int .u8 (judge ts (E.mk bo bc bv bk) w).1)) [(.var 0, .n 2), (.cell 0 0, .av (vv (.int .i64 (judge ts (E.mk bo bc bv bk) w).2))), (.cell 0 1, .av (.p (.ps (ts.map trow))))]) (w : Int) : Flat.Sp Tryz.prog 281 [.ptr 0 0, (E.mk op col c [E.mk ao ac av ak, E.mk bo bc bv bk]).av] [(.var 0, .n 2), (.cell 0 0, .av (vv (.int .i64 w))), (.cell 0 1, .av (.p (.ps (ts.map trow))))] (vv (.int .u8 (judge ts (E.mk op col c [E.mk ao ac av ak, E.mk bo bc bv bk]) w).1)) [(.var 0, .n 2), (.cell 0 0, .av (vv (.int .i64 (judge ts (E.mk op col c [E.mk ao ac av ak, E.mk bo bc bv bk]) w).2))), (.cell 0 1, .av (.p (.ps (ts.map trow))))] := by
 refine sk Tryz.func281 ?_; intro F G hn hG; have ho1 : (op == 1) = false := by rcases hop with rfl | rfl | rfl | rfl | rfl <;> rfl
 have ho2 : (op == 2) = false := by rcases hop with rfl | rfl | rfl | rfl | rfl <;> rfl
 have ho7 : (op == 7) = false := by rcases hop with rfl | rfl | rfl | rfl | rfl <;> rfl
 have ho8 : (op == 8) = false := by rcases hop with rfl | rfl | rfl | rfl | rfl <;> rfl
 have ho12 : (op == 12) = false := by rcases hop with rfl | rfl | rfl | rfl | rfl <;> rfl
 refine srp 1000 [0,1,3,29,30,80,81,99,100,117,118,119] ?_; refine sq ?_; refine srp 2000 [0,1,3,9,10,29,30,80,81,99,100,117,118,119] ?_; refine k_block ?_; refine srp 3000 [0,1,3,9,10,12,13,29,30,80,81,99,100,117,118,119] ?_; refine ce ?_; refine srp 8000 [0,1,3,9,44,45,46,80,81,99,100,117,118,119] ?_; refine ce ?_; refine k_skip ?_; refine k_nil ?_; show AK _ _ _ _ _ _; refine srp 10000 [0,1,3,9,50,80,81,99,100,117,118,119] ?_; refine sq ?_; refine srp 11000 [0,1,3,9,51,80,81,99,100,117,118,119] ?_; refine k_block ?_; refine k_rounds 3 ?_; show AK _ _ _ _ _ _; refine srp 12000 [0,1,3,9,51,80,81,99,100,117,118,119] ?_; refine sq ?_; refine ct ?_; refine k_skip ?_; refine sq ?_; refine k_block ?_; refine srp 13000 [0,1,3,9,51,80,81,99,100,117,118,119] ?_; refine rc 14000 ?_; refine oc id (ha w) ?_; refine oe 14100 ?_; refine on ?_; refine k_nil ?_; show AK _ _ _ _ _ _; refine rg 15000 ?_; refine k_nil ?_; show AK _ _ _ _ _ _; refine srp 1012000 [0,1,3,9,51,80,81,99,100,117,118,119] ?_; refine sq ?_; refine ct ?_; refine k_skip ?_; refine sq ?_; refine k_block ?_; refine srp 1013000 [0,1,3,9,51,80,81,99,100,117,118,119] ?_; refine rc 1014000 ?_; refine oc id (hb ((judge ts (E.mk ao ac av ak) w).2)) ?_; refine oe 1014100 ?_; refine on ?_; refine k_nil ?_; show AK _ _ _ _ _ _; refine rg 1015000 ?_; refine k_nil ?_; show AK _ _ _ _ _ _; refine srp 2012000 [0,1,3,9,51,80,81,99,100,117,118,119] ?_; refine sq ?_; refine ce ?_; refine k_exit ?_; show AK _ _ _ _ _ _; refine sq ?_; refine srp 16000 [0,1,3,6,8,9,66,80,81,99,100,117,118,119] ?_; refine k_block ?_; refine sq ?_; refine srp 17000 [0,1,3,6,8,9,66,68,69,80,81,99,100,117,118,119] ?_; refine ce ?_; refine rgp 18000 [0,1,3,6,8,9,66,68,70,80,81,99,100,117,118,119] ?_; refine ce ?_; refine srp 21000 [0,1,3,6,8,9,81,82,83,99,100,117,118,119] ?_; refine ce ?_; refine k_skip ?_; refine k_nil ?_; show AK _ _ _ _ _ _; refine sq ?_; refine srp 24000 [0,1,4,6,8,9,105,117,118,119] ?_; refine k_block ?_; refine k_rounds 3 ?_; show AK _ _ _ _ _ _; refine srp 25000 [0,1,4,6,8,9,105,117,118,119] ?_; refine sq ?_; refine ct ?_; refine k_skip ?_; refine sq ?_; refine k_block ?_; refine srp 26000 [0,1,4,6,8,9,105,117,118,119] ?_; refine dr ?_; refine de 27000 ?_; refine dc id (spec104 ((judge ts (E.mk bo bc bv bk) (judge ts (E.mk ao ac av ak) w).2).2) (.ps (ts.map trow)) ((judge ts (E.mk ao ac av ak) w).1 == 1) 11) ?_; refine dn ?_; refine k_nil ?_; show AK _ _ _ _ _ _; refine rg 28000 ?_; refine k_nil ?_; show AK _ _ _ _ _ _; refine srp 1025000 [0,1,4,6,8,9,105,117,118,119] ?_; refine sq ?_; refine ct ?_; refine k_skip ?_; refine sq ?_; refine k_block ?_; refine srp 1026000 [0,1,4,6,8,9,105,117,118,119] ?_; refine dr ?_; refine de 1027000 ?_; refine dc id (spec104 (unlessF ((judge ts (E.mk bo bc bv bk) (judge ts (E.mk ao ac av ak) w).2).2) ((judge ts (E.mk ao ac av ak) w).1 == 1) 11) (.ps (ts.map trow)) ((judge ts (E.mk bo bc bv bk) (judge ts (E.mk ao ac av ak) w).2).1 == 1) 11) ?_; refine dn ?_; refine k_nil ?_; show AK _ _ _ _ _ _
 refine rg 1028000 ?_; refine k_nil ?_; show AK _ _ _ _ _ _; refine srp 2025000 [0,1,4,6,8,9,105,117,118,119] ?_; refine sq ?_; refine ce ?_; refine k_exit ?_; show AK _ _ _ _ _ _; refine srp 29000 [4,5] ?_; refine k_ret ?_; show retQ _ _ _ _ _ _ _; simp [*, judge, judgeL, at3]
attribute [local simp] E.av E.row_eq in
theorem spec56_cmp7 (ts : List Int) (op col : Int) (c : Val) (ao ac : Int) (av : Val) (ak : List E) (bo bc : Int) (bv : Val) (bk : List E) (hop : op = 7) (ha : ∀ w : Int, Flat.Sp Tryz.prog 281 [.ptr 0 0, (E.mk ao ac av ak).av] [(.var 0, .n 2), (.cell 0 0, .av (vv (.int .i64 w))), (.cell 0 1, .av (.p (.ps (ts.map trow))))] (vv (.int .u8 (judge ts (E.mk ao ac av ak) w).1)) [(.var 0, .n 2), (.cell 0 0, .av (vv (.int .i64 (judge ts (E.mk ao ac av ak) w).2))), (.cell 0 1, .av (.p (.ps (ts.map trow))))]) (hb : ∀ w : Int, Flat.Sp Tryz.prog 281 [.ptr 0 0, (E.mk bo bc bv bk).av] [(.var 0, .n 2), (.cell 0 0, .av (vv (.int .i64 w))), (.cell 0 1, .av (.p (.ps (ts.map trow))))] (vv (.int .u8 (judge ts (E.mk bo bc bv bk) w).1)) [(.var 0, .n 2), (.cell 0 0, .av (vv (.int .i64 (judge ts (E.mk bo bc bv bk) w).2))), (.cell 0 1, .av (.p (.ps (ts.map trow))))]) (w : Int) : Flat.Sp Tryz.prog 281 [.ptr 0 0, (E.mk op col c [E.mk ao ac av ak, E.mk bo bc bv bk]).av] [(.var 0, .n 2), (.cell 0 0, .av (vv (.int .i64 w))), (.cell 0 1, .av (.p (.ps (ts.map trow))))] (vv (.int .u8 (judge ts (E.mk op col c [E.mk ao ac av ak, E.mk bo bc bv bk]) w).1)) [(.var 0, .n 2), (.cell 0 0, .av (vv (.int .i64 (judge ts (E.mk op col c [E.mk ao ac av ak, E.mk bo bc bv bk]) w).2))), (.cell 0 1, .av (.p (.ps (ts.map trow))))] := by
 refine sk Tryz.func281 ?_; intro F G hn hG; have ho1 : (op == 1) = false := by rcases hop with rfl <;> rfl
 have ho2 : (op == 2) = false := by rcases hop with rfl <;> rfl
 have ho7 : (op == 7) = true := by subst hop; rfl
 have ho8 : (op == 8) = false := by rcases hop with rfl <;> rfl
 have ho12 : (op == 12) = false := by rcases hop with rfl <;> rfl
 refine srp 1000 [0,1,3,29,30,80,81,99,100,117,118,119] ?_; refine sq ?_; refine srp 2000 [0,1,3,9,10,29,30,80,81,99,100,117,118,119] ?_; refine k_block ?_; refine srp 3000 [0,1,3,9,10,12,13,29,30,80,81,99,100,117,118,119] ?_; refine ce ?_; refine srp 8000 [0,1,3,9,44,45,46,80,81,99,100,117,118,119] ?_; refine ce ?_; refine k_skip ?_; refine k_nil ?_; show AK _ _ _ _ _ _; refine srp 10000 [0,1,3,9,50,80,81,99,100,117,118,119] ?_; refine sq ?_; refine srp 11000 [0,1,3,9,51,80,81,99,100,117,118,119] ?_; refine k_block ?_; refine k_rounds 3 ?_; show AK _ _ _ _ _ _; refine srp 12000 [0,1,3,9,51,80,81,99,100,117,118,119] ?_; refine sq ?_; refine ct ?_; refine k_skip ?_; refine sq ?_; refine k_block ?_; refine srp 13000 [0,1,3,9,51,80,81,99,100,117,118,119] ?_; refine rc 14000 ?_; refine oc id (ha w) ?_; refine oe 14100 ?_; refine on ?_; refine k_nil ?_; show AK _ _ _ _ _ _; refine rg 15000 ?_; refine k_nil ?_; show AK _ _ _ _ _ _; refine srp 1012000 [0,1,3,9,51,80,81,99,100,117,118,119] ?_; refine sq ?_; refine ct ?_; refine k_skip ?_; refine sq ?_; refine k_block ?_; refine srp 1013000 [0,1,3,9,51,80,81,99,100,117,118,119] ?_; refine rc 1014000 ?_; refine oc id (hb ((judge ts (E.mk ao ac av ak) w).2)) ?_; refine oe 1014100 ?_; refine on ?_; refine k_nil ?_; show AK _ _ _ _ _ _; refine rg 1015000 ?_; refine k_nil ?_; show AK _ _ _ _ _ _; refine srp 2012000 [0,1,3,9,51,80,81,99,100,117,118,119] ?_; refine sq ?_; refine ce ?_; refine k_exit ?_; show AK _ _ _ _ _ _; refine sq ?_; refine srp 16000 [0,1,3,6,8,9,66,80,81,99,100,117,118,119] ?_; refine k_block ?_; refine sq ?_; refine srp 17000 [0,1,3,6,8,9,66,68,69,80,81,99,100,117,118,119] ?_; refine ct ?_; refine k_skip ?_; refine ct ?_; refine sq ?_; refine dr ?_; refine de 19000 ?_; refine dc id (spec104 ((judge ts (E.mk bo bc bv bk) (judge ts (E.mk ao ac av ak) w).2).2) (.ps (ts.map trow)) ((judge ts (E.mk ao ac av ak) w).1 == (judge ts (E.mk bo bc bv bk) (judge ts (E.mk ao ac av ak) w).2).1) 11) ?_; refine dn ?_; refine pr [0,1,3,6,8,9,103,117,118,119] ?_; refine srp 20000 [0,1,3,6,8,9,103,117,118,119] ?_; refine k_ret ?_; show retQ _ _ _ _ _ _ _; simp [*, judge, judgeL, at3]
attribute [local simp] E.av E.row_eq in
theorem spec56_cmp8 (ts : List Int) (op col : Int) (c : Val) (ao ac : Int) (av : Val) (ak : List E) (bo bc : Int) (bv : Val) (bk : List E) (hop : op = 8) (ha : ∀ w : Int, Flat.Sp Tryz.prog 281 [.ptr 0 0, (E.mk ao ac av ak).av] [(.var 0, .n 2), (.cell 0 0, .av (vv (.int .i64 w))), (.cell 0 1, .av (.p (.ps (ts.map trow))))] (vv (.int .u8 (judge ts (E.mk ao ac av ak) w).1)) [(.var 0, .n 2), (.cell 0 0, .av (vv (.int .i64 (judge ts (E.mk ao ac av ak) w).2))), (.cell 0 1, .av (.p (.ps (ts.map trow))))]) (hb : ∀ w : Int, Flat.Sp Tryz.prog 281 [.ptr 0 0, (E.mk bo bc bv bk).av] [(.var 0, .n 2), (.cell 0 0, .av (vv (.int .i64 w))), (.cell 0 1, .av (.p (.ps (ts.map trow))))] (vv (.int .u8 (judge ts (E.mk bo bc bv bk) w).1)) [(.var 0, .n 2), (.cell 0 0, .av (vv (.int .i64 (judge ts (E.mk bo bc bv bk) w).2))), (.cell 0 1, .av (.p (.ps (ts.map trow))))]) (w : Int) : Flat.Sp Tryz.prog 281 [.ptr 0 0, (E.mk op col c [E.mk ao ac av ak, E.mk bo bc bv bk]).av] [(.var 0, .n 2), (.cell 0 0, .av (vv (.int .i64 w))), (.cell 0 1, .av (.p (.ps (ts.map trow))))] (vv (.int .u8 (judge ts (E.mk op col c [E.mk ao ac av ak, E.mk bo bc bv bk]) w).1)) [(.var 0, .n 2), (.cell 0 0, .av (vv (.int .i64 (judge ts (E.mk op col c [E.mk ao ac av ak, E.mk bo bc bv bk]) w).2))), (.cell 0 1, .av (.p (.ps (ts.map trow))))] := by
 refine sk Tryz.func281 ?_; intro F G hn hG; have ho1 : (op == 1) = false := by rcases hop with rfl <;> rfl
 have ho2 : (op == 2) = false := by rcases hop with rfl <;> rfl
 have ho7 : (op == 7) = false := by rcases hop with rfl <;> rfl
 have ho8 : (op == 8) = true := by subst hop; rfl
 have ho12 : (op == 12) = false := by rcases hop with rfl <;> rfl
 refine srp 1000 [0,1,3,29,30,80,81,99,100,117,118,119] ?_; refine sq ?_; refine srp 2000 [0,1,3,9,10,29,30,80,81,99,100,117,118,119] ?_; refine k_block ?_; refine srp 3000 [0,1,3,9,10,12,13,29,30,80,81,99,100,117,118,119] ?_; refine ce ?_; refine srp 8000 [0,1,3,9,44,45,46,80,81,99,100,117,118,119] ?_; refine ce ?_; refine k_skip ?_; refine k_nil ?_; show AK _ _ _ _ _ _; refine srp 10000 [0,1,3,9,50,80,81,99,100,117,118,119] ?_; refine sq ?_; refine srp 11000 [0,1,3,9,51,80,81,99,100,117,118,119] ?_; refine k_block ?_; refine k_rounds 3 ?_; show AK _ _ _ _ _ _; refine srp 12000 [0,1,3,9,51,80,81,99,100,117,118,119] ?_; refine sq ?_; refine ct ?_; refine k_skip ?_; refine sq ?_; refine k_block ?_; refine srp 13000 [0,1,3,9,51,80,81,99,100,117,118,119] ?_; refine rc 14000 ?_; refine oc id (ha w) ?_; refine oe 14100 ?_; refine on ?_; refine k_nil ?_; show AK _ _ _ _ _ _; refine rg 15000 ?_; refine k_nil ?_; show AK _ _ _ _ _ _; refine srp 1012000 [0,1,3,9,51,80,81,99,100,117,118,119] ?_; refine sq ?_; refine ct ?_; refine k_skip ?_; refine sq ?_; refine k_block ?_; refine srp 1013000 [0,1,3,9,51,80,81,99,100,117,118,119] ?_; refine rc 1014000 ?_; refine oc id (hb ((judge ts (E.mk ao ac av ak) w).2)) ?_; refine oe 1014100 ?_; refine on ?_; refine k_nil ?_; show AK _ _ _ _ _ _; refine rg 1015000 ?_; refine k_nil ?_; show AK _ _ _ _ _ _; refine srp 2012000 [0,1,3,9,51,80,81,99,100,117,118,119] ?_; refine sq ?_; refine ce ?_; refine k_exit ?_; show AK _ _ _ _ _ _; refine sq ?_; refine srp 16000 [0,1,3,6,8,9,66,80,81,99,100,117,118,119] ?_; refine k_block ?_; refine sq ?_; refine srp 17000 [0,1,3,6,8,9,66,68,69,80,81,99,100,117,118,119] ?_; refine ce ?_; refine rgp 18000 [0,1,3,6,8,9,66,68,70,80,81,99,100,117,118,119] ?_; refine ct ?_; refine sq ?_; refine dr ?_; refine de 19000 ?_; refine dc id (spec104 ((judge ts (E.mk bo bc bv bk) (judge ts (E.mk ao ac av ak) w).2).2) (.ps (ts.map trow)) ((judge ts (E.mk ao ac av ak) w).1 == (judge ts (E.mk bo bc bv bk) (judge ts (E.mk ao ac av ak) w).2).1) 11) ?_; refine dn ?_; refine pr [0,1,3,6,8,9,103,117,118,119] ?_; refine srp 20000 [0,1,3,6,8,9,103,117,118,119] ?_; refine k_ret ?_; show retQ _ _ _ _ _ _ _; simp [*, judge, judgeL, at3]
attribute [local simp] E.av E.row_eq in
theorem spec56_if (ts : List Int) (op col : Int) (c : Val) (ao ac : Int) (av : Val) (ak : List E) (bo bc : Int) (bv : Val) (bk : List E) (eo ec : Int) (ev : Val) (ek : List E) (hop : op = 12) (ha : ∀ w : Int, Flat.Sp Tryz.prog 281 [.ptr 0 0, (E.mk ao ac av ak).av] [(.var 0, .n 2), (.cell 0 0, .av (vv (.int .i64 w))), (.cell 0 1, .av (.p (.ps (ts.map trow))))] (vv (.int .u8 (judge ts (E.mk ao ac av ak) w).1)) [(.var 0, .n 2), (.cell 0 0, .av (vv (.int .i64 (judge ts (E.mk ao ac av ak) w).2))), (.cell 0 1, .av (.p (.ps (ts.map trow))))]) (hb : ∀ w : Int, Flat.Sp Tryz.prog 281 [.ptr 0 0, (E.mk bo bc bv bk).av] [(.var 0, .n 2), (.cell 0 0, .av (vv (.int .i64 w))), (.cell 0 1, .av (.p (.ps (ts.map trow))))] (vv (.int .u8 (judge ts (E.mk bo bc bv bk) w).1)) [(.var 0, .n 2), (.cell 0 0, .av (vv (.int .i64 (judge ts (E.mk bo bc bv bk) w).2))), (.cell 0 1, .av (.p (.ps (ts.map trow))))]) (he : ∀ w : Int, Flat.Sp Tryz.prog 281 [.ptr 0 0, (E.mk eo ec ev ek).av] [(.var 0, .n 2), (.cell 0 0, .av (vv (.int .i64 w))), (.cell 0 1, .av (.p (.ps (ts.map trow))))] (vv (.int .u8 (judge ts (E.mk eo ec ev ek) w).1)) [(.var 0, .n 2), (.cell 0 0, .av (vv (.int .i64 (judge ts (E.mk eo ec ev ek) w).2))), (.cell 0 1, .av (.p (.ps (ts.map trow))))]) (w : Int) : Flat.Sp Tryz.prog 281 [.ptr 0 0, (E.mk op col c [E.mk ao ac av ak, E.mk bo bc bv bk, E.mk eo ec ev ek]).av] [(.var 0, .n 2), (.cell 0 0, .av (vv (.int .i64 w))), (.cell 0 1, .av (.p (.ps (ts.map trow))))] (vv (.int .u8 (judge ts (E.mk op col c [E.mk ao ac av ak, E.mk bo bc bv bk, E.mk eo ec ev ek]) w).1)) [(.var 0, .n 2), (.cell 0 0, .av (vv (.int .i64 (judge ts (E.mk op col c [E.mk ao ac av ak, E.mk bo bc bv bk, E.mk eo ec ev ek]) w).2))), (.cell 0 1, .av (.p (.ps (ts.map trow))))] := by
 refine sk Tryz.func281 ?_; intro F G hn hG; have ho1 : (op == 1) = false := by rcases hop with rfl <;> rfl
 have ho2 : (op == 2) = false := by rcases hop with rfl <;> rfl
 have ho7 : (op == 7) = false := by rcases hop with rfl <;> rfl
 have ho8 : (op == 8) = false := by rcases hop with rfl <;> rfl
 have ho12 : (op == 12) = true := by subst hop; rfl
 refine srp 1000 [0,1,3,29,30,80,81,99,100,117,118,119] ?_; refine sq ?_; refine srp 2000 [0,1,3,9,10,29,30,80,81,99,100,117,118,119] ?_; refine k_block ?_; refine srp 3000 [0,1,3,9,10,12,13,29,30,80,81,99,100,117,118,119] ?_; refine ce ?_; refine srp 8000 [0,1,3,9,44,45,46,80,81,99,100,117,118,119] ?_; refine ce ?_; refine k_skip ?_; refine k_nil ?_; show AK _ _ _ _ _ _; refine srp 10000 [0,1,3,9,50,80,81,99,100,117,118,119] ?_; refine sq ?_; refine srp 11000 [0,1,3,9,51,80,81,99,100,117,118,119] ?_; refine k_block ?_; refine k_rounds 4 ?_; show AK _ _ _ _ _ _; refine srp 12000 [0,1,3,9,51,80,81,99,100,117,118,119] ?_; refine sq ?_; refine ct ?_; refine k_skip ?_; refine sq ?_; refine k_block ?_; refine srp 13000 [0,1,3,9,51,80,81,99,100,117,118,119] ?_; refine rc 14000 ?_; refine oc id (ha w) ?_; refine oe 14100 ?_; refine on ?_; refine k_nil ?_; show AK _ _ _ _ _ _; refine rg 15000 ?_; refine k_nil ?_; show AK _ _ _ _ _ _; refine srp 1012000 [0,1,3,9,51,80,81,99,100,117,118,119] ?_; refine sq ?_; refine ct ?_; refine k_skip ?_; refine sq ?_; refine k_block ?_; refine srp 1013000 [0,1,3,9,51,80,81,99,100,117,118,119] ?_; refine rc 1014000 ?_; refine oc id (hb ((judge ts (E.mk ao ac av ak) w).2)) ?_; refine oe 1014100 ?_; refine on ?_; refine k_nil ?_; show AK _ _ _ _ _ _; refine rg 1015000 ?_; refine k_nil ?_; show AK _ _ _ _ _ _; refine srp 2012000 [0,1,3,9,51,80,81,99,100,117,118,119] ?_; refine sq ?_; refine ct ?_; refine k_skip ?_; refine sq ?_; refine k_block ?_; refine srp 2013000 [0,1,3,9,51,80,81,99,100,117,118,119] ?_; refine rc 2014000 ?_; refine oc id (he ((judge ts (E.mk bo bc bv bk) (judge ts (E.mk ao ac av ak) w).2).2)) ?_; refine oe 2014100 ?_; refine on ?_; refine k_nil ?_; show AK _ _ _ _ _ _; refine rg 2015000 ?_; refine k_nil ?_; show AK _ _ _ _ _ _; refine srp 3012000 [0,1,3,9,51,80,81,99,100,117,118,119] ?_; refine sq ?_; refine ce ?_; refine k_exit ?_; show AK _ _ _ _ _ _; refine sq ?_; refine srp 16000 [0,1,3,6,8,9,66,80,81,99,100,117,118,119] ?_; refine k_block ?_; refine sq ?_; refine srp 17000 [0,1,3,6,8,9,66,68,69,80,81,99,100,117,118,119] ?_; refine ce ?_; refine rgp 18000 [0,1,3,6,8,9,66,68,70,80,81,99,100,117,118,119] ?_; refine ce ?_; refine srp 21000 [0,1,3,6,8,9,81,82,83,99,100,117,118,119] ?_; refine ct ?_; refine sq ?_; refine cv [(.cell 0 0, vv (.int .i64 (unlessF ((judge ts (E.mk eo ec ev ek) (judge ts (E.mk bo bc bv bk) (judge ts (E.mk ao ac av ak) w).2).2).2) ((judge ts (E.mk ao ac av ak) w).1 == 1 && (judge ts (E.mk bo bc bv bk) (judge ts (E.mk ao ac av ak) w).2).1 == (judge ts (E.mk eo ec ev ek) (judge ts (E.mk bo bc bv bk) (judge ts (E.mk ao ac av ak) w).2).2).1) 11)))] ?_ ?_
 · skip
   rcases h0 : ((judge ts (E.mk ao ac av ak) w).1 == 1 : Bool) with _ | _
   · skip
     refine dr ?_; refine de 22000 ?_; iterate 7 (first | refine dp 22650 ?_ | refine ds ?_ | refine dt 22650 ?_)
     refine de 22700 ?_; refine dc id (spec104 ((judge ts (E.mk eo ec ev ek) (judge ts (E.mk bo bc bv bk) (judge ts (E.mk ao ac av ak) w).2).2).2) (.ps (ts.map trow)) ((judge ts (E.mk ao ac av ak) w).1 == 1 && (judge ts (E.mk bo bc bv bk) (judge ts (E.mk ao ac av ak) w).2).1 == (judge ts (E.mk eo ec ev ek) (judge ts (E.mk bo bc bv bk) (judge ts (E.mk ao ac av ak) w).2).2).1) 11) ?_; refine dn ?_; refine k_nil ?_; refine ⟨rfl, ?_, ?_, ?_⟩ <;> simp [*]
   · skip
     refine dr ?_; refine de 1022000 ?_; iterate 7 (first | refine dp 1022650 ?_ | refine ds ?_ | refine dt 1022650 ?_)
     refine de 1022700 ?_; refine dc id (spec104 ((judge ts (E.mk eo ec ev ek) (judge ts (E.mk bo bc bv bk) (judge ts (E.mk ao ac av ak) w).2).2).2) (.ps (ts.map trow)) ((judge ts (E.mk ao ac av ak) w).1 == 1 && (judge ts (E.mk bo bc bv bk) (judge ts (E.mk ao ac av ak) w).2).1 == (judge ts (E.mk eo ec ev ek) (judge ts (E.mk bo bc bv bk) (judge ts (E.mk ao ac av ak) w).2).2).1) 11) ?_; refine dn ?_; refine k_nil ?_; refine ⟨rfl, ?_, ?_, ?_⟩ <;> simp [*]
 refine pr [0,1,3,6,8,9,100,117,118,119] ?_; refine srp 23000 [0,1,3,6,8,9,103,117,118,119] ?_; refine k_ret ?_; show retQ _ _ _ _ _ _ _; simp [*, judge, judgeL, at3]
end
section
theorem okE_shape {op col : Int} {c : Val} {nk : Nat} (h : okE op col c nk = true) : (op = 1 ∧ nk = 0) ∨ (op = 2 ∧ nk = 0) ∨ ((op = 6 ∨ op = 11) ∧ nk = 1) ∨ ((op = 3 ∨ op = 4 ∨ op = 5 ∨ op = 9 ∨ op = 10) ∧ nk = 2) ∨ (op = 7 ∧ nk = 2) ∨ (op = 8 ∧ nk = 2) ∨ (op = 12 ∧ nk = 3) := by
 simp only [okE, okA, Bool.and_eq_true, beq_iff_eq, decide_eq_true_eq] at h; obtain ⟨⟨h1, h2, h3⟩, _⟩ := h; have : op = 1 ∨ op = 2 ∨ op = 3 ∨ op = 4 ∨ op = 5 ∨ op = 6 ∨ op = 7 ∨ op = 8 ∨ op = 9 ∨ op = 10 ∨ op = 11 ∨ op = 12 := by omega
 rcases this with rfl | rfl | rfl | rfl | rfl | rfl | rfl | rfl | rfl | rfl | rfl | rfl <;> simp [kidsOf] at h3 ⊢ <;> omega
theorem three_of_length {α : Type} {l : List α} (h : l.length = 3) : ∃ x y z, l = [x, y, z] := by
 match l, h with
 | [x, y, z], _ => exact ⟨x, y, z, rfl⟩
theorem spec56 (ts : List Int) (hts : ts.length ≤ Flat.lim) : ∀ e : E, e.good → ∀ w : Int, Flat.Sp Tryz.prog 281 [.ptr 0 0, e.av] [(.var 0, .n 2), (.cell 0 0, .av (vv (.int .i64 w))), (.cell 0 1, .av (.p (.ps (ts.map trow))))] (vv (.int .u8 (judge ts e w).1)) [(.var 0, .n 2), (.cell 0 0, .av (vv (.int .i64 (judge ts e w).2))), (.cell 0 1, .av (.p (.ps (ts.map trow))))] := by
 refine E.ind fun op col c kids ih hg w => ?_
 rw [E.good] at hg; obtain ⟨hok, hgk⟩ := hg; have ih' : ∀ k ∈ kids, ∀ w, _ := fun k hk => ih k hk (E.goodL_mem hgk k hk)
 rcases okE_shape hok with ⟨rfl, hn⟩ | ⟨rfl, hn⟩ | ⟨ho, hn⟩ | ⟨ho, hn⟩ | ⟨ho, hn⟩ | ⟨ho, hn⟩ | ⟨ho, hn⟩
 · obtain rfl := List.length_eq_zero_iff.1 hn
   exact spec56_col ts hts col c w
 · obtain rfl := List.length_eq_zero_iff.1 hn
   exact spec56_con ts col c w
 · obtain ⟨⟨ao, ac, av, ak⟩, rfl⟩ := List.length_eq_one_iff.1 hn
   exact spec56_one ts op col c ao ac av ak ho (ih' _ (by simp)) w
 · obtain ⟨⟨ao, ac, av, ak⟩, ⟨bo, bc, bv, bk⟩, rfl⟩ := Flat.two_of_length hn
   exact spec56_two ts op col c ao ac av ak bo bc bv bk ho (ih' _ (by simp)) (ih' _ (by simp)) w
 · obtain ⟨⟨ao, ac, av, ak⟩, ⟨bo, bc, bv, bk⟩, rfl⟩ := Flat.two_of_length hn
   exact spec56_cmp7 ts op col c ao ac av ak bo bc bv bk ho (ih' _ (by simp)) (ih' _ (by simp)) w
 · obtain ⟨⟨ao, ac, av, ak⟩, ⟨bo, bc, bv, bk⟩, rfl⟩ := Flat.two_of_length hn
   exact spec56_cmp8 ts op col c ao ac av ak bo bc bv bk ho (ih' _ (by simp)) (ih' _ (by simp)) w
 · obtain ⟨⟨ao, ac, av, ak⟩, ⟨bo, bc, bv, bk⟩, ⟨eo, ec, ev, ek⟩, rfl⟩ := three_of_length hn
   exact spec56_if ts op col c ao ac av ak bo bc bv bk eo ec ev ek ho (ih' _ (by simp)) (ih' _ (by simp)) (ih' _ (by simp)) w
theorem lookL_mono {l : List E} (h : ∀ k ∈ l, ∀ d (s : Srv), (s.2.2 = true → (look k d s).2.2 = true) ∧ s.2.1 ≤ (look k d s).2.1) : ∀ d (s : Srv), (s.2.2 = true → (lookL l d s).2.2 = true) ∧ s.2.1 ≤ (lookL l d s).2.1 := by
 induction l with
 | nil => intro d s; simp [lookL]
 | cons k r ih =>
   intro d s; obtain ⟨h1, h2⟩ := h k (by simp) d s
   obtain ⟨g1, g2⟩ := ih (fun k hk => h k (by simp [hk])) d (look k d s)
   rw [lookL]; exact ⟨fun e => g1 (h1 e), Int.le_trans h2 g2⟩
theorem look_mono : ∀ (e : E) (d : Int) (s : Srv), (s.2.2 = true → (look e d s).2.2 = true) ∧ s.2.1 ≤ (look e d s).2.1 := by
 refine E.ind fun op col c kids ih d s => ?_
 rw [look]; have hmax : s.2.1 ≤ (if d > s.2.1 then d else s.2.1) := by split <;> omega
 split
 · exact ⟨fun h => by simp [h], hmax⟩
 · obtain ⟨g1, g2⟩ := lookL_mono ih (IntKind.i64.wrap (d + 1)) (IntKind.i64.wrap (s.1 + 1), (if d > s.2.1 then d else s.2.1), s.2.2 || !okE op col c kids.length)
   exact ⟨fun h => g1 (by simp [h]), Int.le_trans hmax g2⟩
theorem lookL_good {l : List E} (h : ∀ k ∈ l, ∀ d (s : Srv), (look k d s).2.2 = false → (look k d s).2.1 ≤ 16 → k.good) : ∀ d (s : Srv), (lookL l d s).2.2 = false → (lookL l d s).2.1 ≤ 16 → E.goodL l := by
 induction l with
 | nil => intro d s _ _; simp [E.goodL]
 | cons k r ih =>
   intro d s h1 h2; rw [lookL] at h1 h2; obtain ⟨g1, g2⟩ := lookL_mono (l := r) (fun k _ => look_mono k) d (look k d s)
   rw [E.goodL]; refine ⟨h k (by simp) d s ?_ (Int.le_trans g2 h2), ih (fun k hk => h k (by simp [hk])) d _ h1 h2⟩
   cases hq : (look k d s).2.2 with
   | false => rfl
   | true => rw [g1 hq] at h1; simp at h1
theorem look_good : ∀ (e : E) (d : Int) (s : Srv), (look e d s).2.2 = false → (look e d s).2.1 ≤ 16 → e.good := by
 refine E.ind fun op col c kids ih d s h1 h2 => ?_
 rw [look] at h1 h2; rw [E.good]; split at h1
 · rename_i hc
   rw [if_pos hc] at h2; simp only [Bool.or_eq_false_iff, Bool.not_eq_false'] at h1; simp only [Bool.or_eq_true, Bool.not_eq_true', decide_eq_true_eq] at hc; rcases hc with hc | hc
   · rw [h1.2] at hc; simp at hc
   · simp only at h2
     split at h2 <;> omega
 · rename_i hc
   rw [if_neg hc] at h2; simp only [Bool.or_eq_true, Bool.not_eq_true', decide_eq_true_eq, not_or, Bool.not_eq_false] at hc; exact ⟨hc.1, lookL_good ih _ _ h1 h2⟩
theorem checkE_good {e : E} (h : checkE e = 0) : e.good := by
 unfold checkE at h; simp only at h; split at h
 · simp at h
 · rename_i h1
   split at h
   · simp at h
   · split at h
     · simp at h
     · rename_i h3
       exact look_good e 1 (0, 0, false) (by simpa using h1) (by simpa using h3)
def inferE (ts : List Int) (e : E) : Int × Int :=
 if checkE e != 0 then (0, checkE e) else if (judge ts e 0).2 != 0 then (0, (judge ts e 0).2) else ((judge ts e 0).1, 0)
attribute [local simp] E.av in
theorem spec26 (ts : List Int) (hts : ts.length ≤ Flat.lim) (op col : Int) (c : Val) (kids : List E) : Flat.Sp Tryz.prog 234 [(E.mk op col c kids).av, .p (.ps (ts.map trow))] [] (.tup [vv (.int .u8 (inferE ts (E.mk op col c kids)).1), vv (.int .i64 (inferE ts (E.mk op col c kids)).2)]) [] := by
 refine sk Tryz.func234 ?_; intro F G hn hG; refine srp 1000 [1,3,4,32] ?_; refine sq ?_; refine src 2000 ?_; refine oc id (spec22 op col c kids) ?_; refine oe 2100 ?_; refine onp [1,3,4,9,11,32] ?_; refine srp 3000 [1,3,4,9,12,32] ?_; refine cd ?_ ?_
 · intro h12_1
   have h12_1 : (checkE (E.mk op col c kids) != 0) = true := by simpa using h12_1
   refine srp 4000 [1,3,4,6,7,9,14,32] ?_; refine k_ret ?_; show retQ _ _ _ _ _ _ _; simp [*, inferE]
 · intro h12_1
   have h12_1 : (checkE (E.mk op col c kids) != 0) = false := by simpa using h12_1
   have hgood := checkE_good (e := E.mk op col c kids) (by simpa using h12_1)
   refine k_skip ?_; refine srp 5000 [2,3,4,6,7,9,17,32] ?_; refine src 6000 ?_; refine oc (fun _ => 5002) (spec56 ts hts (E.mk op col c kids) hgood 0) ?_
   refine oe 6100 ?_; refine onp [4,6,7,9,20,32] ?_; refine sq ?_; refine srp 7000 [4,6,7,9,25,32] ?_; refine cd ?_ ?_
   · intro h25_2
     have h25_2 : ((judge ts (E.mk op col c kids) 0).2 != 0) = true := by simpa using h25_2
     refine sq ?_; refine dr ?_; refine de 8000 ?_; refine dn ?_; refine pr [4,6,8,9,31,32] ?_; refine k_ret ?_; show retQ _ _ _ _ _ _ _; simp [*, inferE]
   · intro h25_2
     have h25_2 : ((judge ts (E.mk op col c kids) 0).2 != 0) = false := by simpa using h25_2
     refine k_skip ?_; refine srp 9000 [4,6] ?_; refine k_ret ?_; show retQ _ _ _ _ _ _ _; simp [*, inferE]
end
section
def numF (f : Int → Val × Int) (w : Int) : Int × Int := ((f w).1.n, unlessF (f w).2 (!(f w).1.t) 11)
def fitF (r : Int × Int) (w : Int) : Val × Int := (Val.num r.1, unlessF w (r.2 == 0) r.2)
def bitV (b : Bool) : Val := Val.num (if b then 1 else 0)
def sumR (op n : Int) (b e : Int → Val × Int) (w : Int) : Val × Int :=
 if w != 0 then (⟨false, 0, ⟨#[]⟩⟩, w)
 else if op == 11 then (bitV (n == 0), w)
 else if op == 6 then fitF (lessR 0 n) w
 else if op == 9 then (if n != 0 then (bitV ((numF b w).1 != 0), (numF b w).2) else (bitV false, w))
 else if op == 10 then (if n != 0 then (bitV true, w) else (bitV ((numF b w).1 != 0), (numF b w).2))
 else if op == 12 then (if n != 0 then b w else e w)
 else if op == 3 then fitF (tfit (tsum [n, (numF b w).1])) (numF b w).2
 else if op == 4 then fitF (lessR n (numF b w).1) (numF b w).2
 else fitF (timesR n (numF b w).1) (numF b w).2
def noF : Int → Val × Int := fun w => (⟨false, 0, ⟨#[]⟩⟩, w)
def stepR (row : List Val) (op col : Int) (c : Val) (fs : List (Int → Val × Int)) (w : Int) : Val × Int :=
 if w != 0 then (⟨false, 0, ⟨#[]⟩⟩, w)
 else if op == 2 then (c, w)
 else if op == 1 then (if decide (col < 0) || decide ((row.length : Int) ≤ col) then (⟨false, 0, ⟨#[]⟩⟩, unlessF w false 1) else (row.getD col.toNat ⟨false, 0, ⟨#[]⟩⟩, w))
 else if op == 7 || op == 8 then
   let x := fs.getD 0 noF w
   let y := fs.getD 1 noF x.2
   (bitV ((decide (x.1.cmp y.1 < 0) && op == 7) || (x.1.cmp y.1 == 0 && op == 8)), unlessF y.2 (x.1.t == y.1.t) 11)
 else sumR op (numF (fs.getD 0 noF) w).1 (fs.getD 1 noF) (fs.getD 2 noF) (numF (fs.getD 0 noF) w).2
mutual
def reck (row : List Val) : E → Int → Val × Int
 | .mk op col c kids => stepR row op col c (recks row kids)
def recks (row : List Val) : List E → List (Int → Val × Int)
 | [] => []
 | e :: r => reck row e :: recks row r
end
attribute [local simp] E.av in
theorem spec55_err (row : List Val) (hrow : row.length ≤ Flat.lim) (op col : Int) (c : Val) (kids : List E) (w : Int) (hw : (w != 0) = true) : Flat.Sp Tryz.prog 39 [.ptr 0 0, (E.mk op col c kids).av] [(.var 0, .n 2), (.cell 0 0, .av (vv (.int .i64 w))), (.cell 0 1, .av (.p (.ps (row.map Val.row))))] ((reck row (E.mk op col c kids) w).1.av) [(.var 0, .n 2), (.cell 0 0, .av (vv (.int .i64 (reck row (E.mk op col c kids) w).2))), (.cell 0 1, .av (.p (.ps (row.map Val.row))))] := by
 refine sk Tryz.func39 ?_; intro F G hn hG; refine srp 1000 [0,1,3,42,43,79,80,109] ?_; refine sq ?_; refine k_block ?_; refine srp 2000 [0,1,3,9,15,42,43,79,80,109] ?_; refine ct ?_; refine srp 3000 [0,1,3,5,100,109] ?_; refine k_ret ?_; show retQ _ _ _ _ _ _ _; simp [*, reck, stepR, Val.av]
attribute [local simp] E.av in
theorem spec55_con (row : List Val) (hrow : row.length ≤ Flat.lim) (col : Int) (c : Val) (w : Int) (hw : (w != 0) = false) : Flat.Sp Tryz.prog 39 [.ptr 0 0, (E.mk 2 col c []).av] [(.var 0, .n 2), (.cell 0 0, .av (vv (.int .i64 w))), (.cell 0 1, .av (.p (.ps (row.map Val.row))))] ((reck row (E.mk 2 col c []) w).1.av) [(.var 0, .n 2), (.cell 0 0, .av (vv (.int .i64 (reck row (E.mk 2 col c []) w).2))), (.cell 0 1, .av (.p (.ps (row.map Val.row))))] := by
 refine sk Tryz.func39 ?_; intro F G hn hG; refine srp 1000 [0,1,3,42,43,79,80,109] ?_; refine sq ?_; refine k_block ?_; refine srp 2000 [0,1,3,9,15,42,43,79,80,109] ?_; refine ce ?_; refine srp 4000 [0,1,3,8,16,17,20,42,43,79,80,109] ?_; refine ct ?_; refine srp 5000 [0,1,3,5,100,109] ?_; refine k_ret ?_; show retQ _ _ _ _ _ _ _; simp [*, reck, stepR, Val.av]
attribute [local simp] E.av in
theorem spec55_col (row : List Val) (hrow : row.length ≤ Flat.lim) (col : Int) (c : Val) (w : Int) (hw : (w != 0) = false) : Flat.Sp Tryz.prog 39 [.ptr 0 0, (E.mk 1 col c []).av] [(.var 0, .n 2), (.cell 0 0, .av (vv (.int .i64 w))), (.cell 0 1, .av (.p (.ps (row.map Val.row))))] ((reck row (E.mk 1 col c []) w).1.av) [(.var 0, .n 2), (.cell 0 0, .av (vv (.int .i64 (reck row (E.mk 1 col c []) w).2))), (.cell 0 1, .av (.p (.ps (row.map Val.row))))] := by
 refine sk Tryz.func39 ?_; intro F G hn hG; refine srp 1000 [0,1,3,42,43,79,80,109] ?_; refine sq ?_; refine k_block ?_; refine srp 2000 [0,1,3,9,15,42,43,79,80,109] ?_; refine ce ?_; refine srp 4000 [0,1,3,8,16,17,20,42,43,79,80,109] ?_; refine ce ?_; refine srp 6000 [0,1,3,8,22,23,26,42,43,79,80,109] ?_; refine ct ?_; refine sq ?_; refine sq ?_; refine cv [(.tmp 38, vv (.bool (decide (col < 0) || decide ((row.length : Int) ≤ col))))] ?_ ?_
 · skip
   rcases h0 : (decide (col < 0) : Bool) with _ | _
   · skip
     refine dr ?_; refine de 7000 ?_; iterate 8 (first | refine dp 7750 ?_ | refine ds ?_ | refine dt 7750 ?_)
     refine de 7800 ?_; refine dn ?_; refine k_nil ?_; refine ⟨rfl, ?_, ?_, ?_⟩ <;> simp [*]
   · skip
     refine dr ?_; refine de 1007000 ?_; iterate 8 (first | refine dp 1007750 ?_ | refine ds ?_ | refine dt 1007750 ?_)
     refine de 1007800 ?_; refine dn ?_; refine k_nil ?_; refine ⟨rfl, ?_, ?_, ?_⟩ <;> simp [*]
 refine pr [0,1,3,5,38,42,43,52,100,109] ?_; refine cd ?_ ?_
 · intro h38_1
   have h38_1 : (decide (col < 0) || decide ((row.length : Int) ≤ col)) = true := h38_1; refine src 8000 ?_; refine oc id (spec104 w (.ps (row.map Val.row)) false 1) ?_; refine onp [0,1,3,5,43,52,100,109] ?_; refine srp 9000 [0,1,3,5,44,52,100,109] ?_; refine k_ret ?_; show retQ _ _ _ _ _ _ _; simp [*, reck, stepR, Val.av]
 · intro h38_1
   have h38_1 : (decide (col < 0) || decide ((row.length : Int) ≤ col)) = false := h38_1; simp only [Bool.or_eq_false_iff, decide_eq_false_iff_not, Int.not_lt, Int.not_le] at h38_1; obtain ⟨k, rfl⟩ := Int.eq_ofNat_of_zero_le h38_1.1; have hlt : k < row.length := by omega
   have hnl : ¬ row.length ≤ k := by omega
   have hnk : ¬ ((k : Int) < 0) := by omega
   obtain ⟨t, hte⟩ : ∃ t, row[k] = t := ⟨_, rfl⟩; refine k_skip ?_; refine sq ?_; refine dr ?_; refine de 10000 ?_ (h := by simp [*, Val.row]; exact is_rfl _)
   refine dn ?_; refine pr [0,1,3,5,100,109] ?_; refine k_ret ?_; show retQ _ _ _ _ _ _ _; simp [*, reck, stepR, Val.av, Val.row]
attribute [local simp] E.av Val.av numF in
theorem spec108 (row : List Val) (hrow : row.length ≤ Flat.lim) (ao ac : Int) (av : Val) (ak : List E) (FA : Int → Val × Int) (ha : ∀ w : Int, Flat.Sp Tryz.prog 39 [.ptr 0 0, (E.mk ao ac av ak).av] [(.var 0, .n 2), (.cell 0 0, .av (vv (.int .i64 w))), (.cell 0 1, .av (.p (.ps (row.map Val.row))))] (FA w).1.av [(.var 0, .n 2), (.cell 0 0, .av (vv (.int .i64 (FA w).2))), (.cell 0 1, .av (.p (.ps (row.map Val.row))))]) (w : Int) : Flat.Sp Tryz.prog 103 [.ptr 0 0, (E.mk ao ac av ak).av] [(.var 0, .n 2), (.cell 0 0, .av (vv (.int .i64 w))), (.cell 0 1, .av (.p (.ps (row.map Val.row))))] (vv (.int .i64 (numF FA w).1)) [(.var 0, .n 2), (.cell 0 0, .av (vv (.int .i64 (numF FA w).2))), (.cell 0 1, .av (.p (.ps (row.map Val.row))))] := by
 refine sk Tryz.func103 ?_; intro F G hn hG; refine srp 1000 [0,1,3,15,16,18] ?_; refine src 2000 ?_; refine oc id (ha w) ?_; refine oe 2100 ?_; refine onp [0,1,4,6,9,15,16,18] ?_; refine sq ?_; refine dr ?_; refine de 3000 ?_; refine dc id (spec104 (FA w).2 (.ps (row.map Val.row)) (!(FA w).1.t) 11) ?_; refine dn ?_; refine pr [4,6,16,18] ?_; refine srp 4000 [4,5] ?_; refine k_ret ?_; show retQ _ _ _ _ _ _ _; simp [*]
attribute [local simp] E.av E.row_eq in
theorem spec162 (row : List Val) (hrow : row.length ≤ Flat.lim) (op col : Int) (c : Val) (kids : List E) (bo bc : Int) (bv : Val) (bk : List E) (FB : Int → Val × Int) (hb : ∀ w : Int, Flat.Sp Tryz.prog 39 [.ptr 0 0, (E.mk bo bc bv bk).av] [(.var 0, .n 2), (.cell 0 0, .av (vv (.int .i64 w))), (.cell 0 1, .av (.p (.ps (row.map Val.row))))] (FB w).1.av [(.var 0, .n 2), (.cell 0 0, .av (vv (.int .i64 (FB w).2))), (.cell 0 1, .av (.p (.ps (row.map Val.row))))]) (hk1 : 1 < kids.length) (hkb : kids[1] = E.mk bo bc bv bk) (w : Int) : Flat.Sp Tryz.prog 199 [.ptr 1 0, .ptr 2 0] [(.var 0, .n 2), (.cell 0 0, .av (vv (.int .i64 w))), (.cell 0 1, .av (.p (.ps (row.map Val.row)))), (.var 1, .n 1), (.cell 1 0, .av (.ptr 0 0)), (.var 2, .n 6), (.cell 2 0, .av (vv (.int .u8 op))), (.cell 2 1, .av (vv (.int .i64 col))), (.cell 2 2, .av (vv (.bool c.t))), (.cell 2 3, .av (vv (.int .i64 c.n))), (.cell 2 4, .av (vv (.string c.s))), (.cell 2 5, .av (.p (.ps (kids.map E.row))))] (vv (.int .i64 (numF FB w).1)) [(.var 0, .n 2), (.cell 0 0, .av (vv (.int .i64 (numF FB w).2))), (.cell 0 1, .av (.p (.ps (row.map Val.row)))), (.var 1, .n 1), (.cell 1 0, .av (.ptr 0 0)), (.var 2, .n 6), (.cell 2 0, .av (vv (.int .u8 op))), (.cell 2 1, .av (vv (.int .i64 col))), (.cell 2 2, .av (vv (.bool c.t))), (.cell 2 3, .av (vv (.int .i64 c.n))), (.cell 2 4, .av (vv (.string c.s))), (.cell 2 5, .av (.p (.ps (kids.map E.row))))] := by
 refine sk Tryz.func199 ?_; intro F G hn hG; have hk2 : (1 : Int) < (kids.length : Int) := by omega
 refine srp 1000 [0,9] ?_; refine sq ?_; refine dr ?_; refine de 2000 ?_; refine dc id (spec108 row hrow bo bc bv bk FB hb w) ?_; refine de 2100 ?_; refine dn ?_; refine pr [2,3] ?_; refine k_ret ?_; show retQ _ _ _ _ _ _ _; simp [*]
attribute [local simp] E.av E.row_eq Val.av Val.num fitF bitV sumR in
theorem spec107_err (row : List Val) (hrow : row.length ≤ Flat.lim) (op : Int) (col : Int) (c : Val) (kids : List E) (FB : Int → Val × Int) (FE : Int → Val × Int) (n w : Int) (hw : (w != 0) = true) : Flat.Sp Tryz.prog 102 [.ptr 0 0, (E.mk op col c kids).av, vv (.int .i64 n)] [(.var 0, .n 2), (.cell 0 0, .av (vv (.int .i64 w))), (.cell 0 1, .av (.p (.ps (row.map Val.row))))] ((sumR op n FB FE w).1.av) [(.var 0, .n 2), (.cell 0 0, .av (vv (.int .i64 (sumR op n FB FE w).2))), (.cell 0 1, .av (.p (.ps (row.map Val.row))))] := by
 refine sk Tryz.func102 ?_; intro F G hn hG; refine srp 1000 [2,5,6,96] ?_; refine sq ?_; refine srp 2000 [2,5,6,8,13,96] ?_; refine ct ?_; refine srp 3000 [2,5,6,8,15,96] ?_; refine k_ret ?_; show retQ _ _ _ _ _ _ _; simp [*]
attribute [local simp] E.av E.row_eq Val.av Val.num fitF bitV sumR in
theorem spec107_not (row : List Val) (hrow : row.length ≤ Flat.lim) (col : Int) (c : Val) (kids : List E) (FB : Int → Val × Int) (FE : Int → Val × Int) (n w : Int) (hw : (w != 0) = false) : Flat.Sp Tryz.prog 102 [.ptr 0 0, (E.mk 11 col c kids).av, vv (.int .i64 n)] [(.var 0, .n 2), (.cell 0 0, .av (vv (.int .i64 w))), (.cell 0 1, .av (.p (.ps (row.map Val.row))))] ((sumR 11 n FB FE w).1.av) [(.var 0, .n 2), (.cell 0 0, .av (vv (.int .i64 (sumR 11 n FB FE w).2))), (.cell 0 1, .av (.p (.ps (row.map Val.row))))] := by
 refine sk Tryz.func102 ?_; intro F G hn hG; refine srp 1000 [2,5,6,96] ?_; refine sq ?_; refine srp 2000 [2,5,6,8,13,96] ?_; refine ce ?_; refine k_skip ?_; refine srp 4000 [2,5,6,8,16,96] ?_; refine sq ?_; refine srp 5000 [2,5,6,8,17,96] ?_; refine k_block ?_; refine srp 6000 [2,5,6,8,17,19,20,96] ?_; refine ct ?_; refine src 7000 ?_; refine oc id (spec106 (n == 0)) ?_; refine oe 7100 ?_; refine onp [2,4,6,8,88,96] ?_; refine k_ret ?_; show retQ _ _ _ _ _ _ _; simp [*]
attribute [local simp] E.av E.row_eq Val.av Val.num fitF bitV sumR in
theorem spec107_neg (row : List Val) (hrow : row.length ≤ Flat.lim) (col : Int) (c : Val) (kids : List E) (FB : Int → Val × Int) (FE : Int → Val × Int) (n w : Int) (hw : (w != 0) = false) : Flat.Sp Tryz.prog 102 [.ptr 0 0, (E.mk 6 col c kids).av, vv (.int .i64 n)] [(.var 0, .n 2), (.cell 0 0, .av (vv (.int .i64 w))), (.cell 0 1, .av (.p (.ps (row.map Val.row))))] ((sumR 6 n FB FE w).1.av) [(.var 0, .n 2), (.cell 0 0, .av (vv (.int .i64 (sumR 6 n FB FE w).2))), (.cell 0 1, .av (.p (.ps (row.map Val.row))))] := by
 refine sk Tryz.func102 ?_; intro F G hn hG; refine srp 1000 [2,5,6,96] ?_; refine sq ?_; refine srp 2000 [2,5,6,8,13,96] ?_; refine ce ?_; refine k_skip ?_; refine srp 4000 [2,5,6,8,16,96] ?_; refine sq ?_; refine srp 5000 [2,5,6,8,17,96] ?_; refine k_block ?_; refine srp 6000 [2,5,6,8,17,19,20,96] ?_; refine ce ?_; refine srp 8000 [2,5,6,8,17,18,23,24,25,96] ?_; refine ct ?_; refine sq ?_; refine dr ?_; refine de 9000 ?_; refine dc id (spec164 0 n) ?_; refine de 9100 ?_; refine dc id (spec163 w (.ps (row.map Val.row)) (lessR 0 n).1 (lessR 0 n).2) ?_; refine de 9200 ?_; refine dn ?_; refine pr [2,4,6,8,88,96] ?_; refine k_ret ?_; show retQ _ _ _ _ _ _ _; simp [*]
end
section
attribute [local simp] callWk without
attribute [local simp] E.av E.row_eq Val.av Val.num fitF bitV sumR in
theorem spec107_and1 (row : List Val) (hrow : row.length ≤ Flat.lim) (col : Int) (c : Val) (kids : List E) (bo bc : Int) (bv : Val) (bk : List E) (FB : Int → Val × Int) (hb : ∀ w : Int, Flat.Sp Tryz.prog 39 [.ptr 0 0, (E.mk bo bc bv bk).av] [(.var 0, .n 2), (.cell 0 0, .av (vv (.int .i64 w))), (.cell 0 1, .av (.p (.ps (row.map Val.row))))] (FB w).1.av [(.var 0, .n 2), (.cell 0 0, .av (vv (.int .i64 (FB w).2))), (.cell 0 1, .av (.p (.ps (row.map Val.row))))]) (hk1 : 1 < kids.length) (hkb : kids[1] = E.mk bo bc bv bk) (FE : Int → Val × Int) (n w : Int) (hw : (w != 0) = false)(hn0 : (n != 0) = true) : Flat.Sp Tryz.prog 102 [.ptr 0 0, (E.mk 9 col c kids).av, vv (.int .i64 n)] [(.var 0, .n 2), (.cell 0 0, .av (vv (.int .i64 w))), (.cell 0 1, .av (.p (.ps (row.map Val.row))))] ((sumR 9 n FB FE w).1.av) [(.var 0, .n 2), (.cell 0 0, .av (vv (.int .i64 (sumR 9 n FB FE w).2))), (.cell 0 1, .av (.p (.ps (row.map Val.row))))] := by
 refine sk Tryz.func102 ?_; intro F G hn hG; have hk2 : (1 : Int) < (kids.length : Int) := by omega
 refine srp 1000 [2,5,6,96] ?_; refine sq ?_; refine srp 2000 [2,5,6,8,13,96] ?_; refine ce ?_; refine k_skip ?_; refine srp 4000 [2,5,6,8,16,96] ?_; refine sq ?_; refine srp 5000 [2,5,6,8,17,96] ?_; refine k_block ?_; refine srp 6000 [2,5,6,8,17,19,20,96] ?_; refine ce ?_; refine srp 8000 [2,5,6,8,17,18,23,24,25,96] ?_; refine ce ?_; refine srp 10000 [2,5,6,8,17,18,31,32,33,96] ?_; refine ct ?_; refine src 11000 ?_; first | refine gp 11050 ?_ | refine os ?_ | refine gt 11050 ?_
 refine oc (fun k => if k = 1 then 1000 else if k = 2 then 1001 else k) (spec162 row hrow 9 col c kids bo bc bv bk FB hb hk1 hkb w) ?_
 first | refine gp 11250 ?_ | refine os ?_ | refine gt 11250 ?_
 refine oe 11300 ?_; refine oc id (spec106 ((numF FB w).1 != 0)) ?_; refine oe 11400 ?_; refine onp [2,4,6,8,88,96] ?_; refine k_ret ?_; show retQ _ _ _ _ _ _ _; simp [*]
attribute [local simp] E.av E.row_eq Val.av Val.num fitF bitV sumR in
theorem spec107_and0 (row : List Val) (hrow : row.length ≤ Flat.lim) (col : Int) (c : Val) (kids : List E) (FB : Int → Val × Int) (FE : Int → Val × Int) (n w : Int) (hw : (w != 0) = false)(hn0 : (n != 0) = false) : Flat.Sp Tryz.prog 102 [.ptr 0 0, (E.mk 9 col c kids).av, vv (.int .i64 n)] [(.var 0, .n 2), (.cell 0 0, .av (vv (.int .i64 w))), (.cell 0 1, .av (.p (.ps (row.map Val.row))))] ((sumR 9 n FB FE w).1.av) [(.var 0, .n 2), (.cell 0 0, .av (vv (.int .i64 (sumR 9 n FB FE w).2))), (.cell 0 1, .av (.p (.ps (row.map Val.row))))] := by
 refine sk Tryz.func102 ?_; intro F G hn hG; refine srp 1000 [2,5,6,96] ?_; refine sq ?_; refine srp 2000 [2,5,6,8,13,96] ?_; refine ce ?_; refine k_skip ?_; refine srp 4000 [2,5,6,8,16,96] ?_; refine sq ?_; refine srp 5000 [2,5,6,8,17,96] ?_; refine k_block ?_; refine srp 6000 [2,5,6,8,17,19,20,96] ?_; refine ce ?_; refine srp 8000 [2,5,6,8,17,18,23,24,25,96] ?_; refine ce ?_; refine srp 10000 [2,5,6,8,17,18,31,32,33,96] ?_; refine ct ?_; refine src 11000 ?_; first | refine gp 11050 ?_ | refine os ?_ | refine gt 11050 ?_
 refine os ?_; first | refine gp 11250 ?_ | refine os ?_ | refine gt 11250 ?_
 refine oe 11300 ?_; refine oc id (spec106 false) ?_; refine oe 11400 ?_; refine onp [2,4,6,8,88,96] ?_; refine k_ret ?_; show retQ _ _ _ _ _ _ _; simp [*]
attribute [local simp] E.av E.row_eq Val.av Val.num fitF bitV sumR in
theorem spec107_or0 (row : List Val) (hrow : row.length ≤ Flat.lim) (col : Int) (c : Val) (kids : List E) (bo bc : Int) (bv : Val) (bk : List E) (FB : Int → Val × Int) (hb : ∀ w : Int, Flat.Sp Tryz.prog 39 [.ptr 0 0, (E.mk bo bc bv bk).av] [(.var 0, .n 2), (.cell 0 0, .av (vv (.int .i64 w))), (.cell 0 1, .av (.p (.ps (row.map Val.row))))] (FB w).1.av [(.var 0, .n 2), (.cell 0 0, .av (vv (.int .i64 (FB w).2))), (.cell 0 1, .av (.p (.ps (row.map Val.row))))]) (hk1 : 1 < kids.length) (hkb : kids[1] = E.mk bo bc bv bk) (FE : Int → Val × Int) (n w : Int) (hw : (w != 0) = false)(hn0 : (n != 0) = false) : Flat.Sp Tryz.prog 102 [.ptr 0 0, (E.mk 10 col c kids).av, vv (.int .i64 n)] [(.var 0, .n 2), (.cell 0 0, .av (vv (.int .i64 w))), (.cell 0 1, .av (.p (.ps (row.map Val.row))))] ((sumR 10 n FB FE w).1.av) [(.var 0, .n 2), (.cell 0 0, .av (vv (.int .i64 (sumR 10 n FB FE w).2))), (.cell 0 1, .av (.p (.ps (row.map Val.row))))] := by
 refine sk Tryz.func102 ?_; intro F G hn hG; have hk2 : (1 : Int) < (kids.length : Int) := by omega
 refine srp 1000 [2,5,6,96] ?_; refine sq ?_; refine srp 2000 [2,5,6,8,13,96] ?_; refine ce ?_; refine k_skip ?_; refine srp 4000 [2,5,6,8,16,96] ?_; refine sq ?_; refine srp 5000 [2,5,6,8,17,96] ?_; refine k_block ?_; refine srp 6000 [2,5,6,8,17,19,20,96] ?_; refine ce ?_; refine srp 8000 [2,5,6,8,17,18,23,24,25,96] ?_; refine ce ?_; refine srp 10000 [2,5,6,8,17,18,31,32,33,96] ?_; refine ce ?_; refine srp 12000 [2,5,6,8,17,18,41,42,43,96] ?_; refine ct ?_; refine src 13000 ?_; first | refine gp 13050 ?_ | refine os ?_ | refine gt 13050 ?_
 refine oc (fun k => if k = 1 then 1000 else if k = 2 then 1001 else k) (spec162 row hrow 10 col c kids bo bc bv bk FB hb hk1 hkb w) ?_
 first | refine gp 13250 ?_ | refine os ?_ | refine gt 13250 ?_
 refine oe 13300 ?_; refine oc id (spec106 ((numF FB w).1 != 0)) ?_; refine oe 13400 ?_; refine onp [2,4,6,8,88,96] ?_; refine k_ret ?_; show retQ _ _ _ _ _ _ _; simp [*]
attribute [local simp] E.av E.row_eq Val.av Val.num fitF bitV sumR in
theorem spec107_or1 (row : List Val) (hrow : row.length ≤ Flat.lim) (col : Int) (c : Val) (kids : List E) (FB : Int → Val × Int) (FE : Int → Val × Int) (n w : Int) (hw : (w != 0) = false)(hn0 : (n != 0) = true) : Flat.Sp Tryz.prog 102 [.ptr 0 0, (E.mk 10 col c kids).av, vv (.int .i64 n)] [(.var 0, .n 2), (.cell 0 0, .av (vv (.int .i64 w))), (.cell 0 1, .av (.p (.ps (row.map Val.row))))] ((sumR 10 n FB FE w).1.av) [(.var 0, .n 2), (.cell 0 0, .av (vv (.int .i64 (sumR 10 n FB FE w).2))), (.cell 0 1, .av (.p (.ps (row.map Val.row))))] := by
 refine sk Tryz.func102 ?_; intro F G hn hG; refine srp 1000 [2,5,6,96] ?_; refine sq ?_; refine srp 2000 [2,5,6,8,13,96] ?_; refine ce ?_; refine k_skip ?_; refine srp 4000 [2,5,6,8,16,96] ?_; refine sq ?_; refine srp 5000 [2,5,6,8,17,96] ?_; refine k_block ?_; refine srp 6000 [2,5,6,8,17,19,20,96] ?_; refine ce ?_; refine srp 8000 [2,5,6,8,17,18,23,24,25,96] ?_; refine ce ?_; refine srp 10000 [2,5,6,8,17,18,31,32,33,96] ?_; refine ce ?_; refine srp 12000 [2,5,6,8,17,18,41,42,43,96] ?_; refine ct ?_; refine src 13000 ?_; first | refine gp 13050 ?_ | refine os ?_ | refine gt 13050 ?_
 refine os ?_; first | refine gp 13250 ?_ | refine os ?_ | refine gt 13250 ?_
 refine oe 13300 ?_; refine oc id (spec106 true) ?_; refine oe 13400 ?_; refine onp [2,4,6,8,88,96] ?_; refine k_ret ?_; show retQ _ _ _ _ _ _ _; simp [*]
attribute [local simp] E.av E.row_eq Val.av Val.num fitF bitV sumR in
theorem spec107_if1 (row : List Val) (hrow : row.length ≤ Flat.lim) (col : Int) (c : Val) (kids : List E) (bo bc : Int) (bv : Val) (bk : List E) (FB : Int → Val × Int) (hb : ∀ w : Int, Flat.Sp Tryz.prog 39 [.ptr 0 0, (E.mk bo bc bv bk).av] [(.var 0, .n 2), (.cell 0 0, .av (vv (.int .i64 w))), (.cell 0 1, .av (.p (.ps (row.map Val.row))))] (FB w).1.av [(.var 0, .n 2), (.cell 0 0, .av (vv (.int .i64 (FB w).2))), (.cell 0 1, .av (.p (.ps (row.map Val.row))))]) (hk1 : 1 < kids.length) (hkb : kids[1] = E.mk bo bc bv bk) (FE : Int → Val × Int) (n w : Int) (hw : (w != 0) = false)(hn0 : (n != 0) = true) : Flat.Sp Tryz.prog 102 [.ptr 0 0, (E.mk 12 col c kids).av, vv (.int .i64 n)] [(.var 0, .n 2), (.cell 0 0, .av (vv (.int .i64 w))), (.cell 0 1, .av (.p (.ps (row.map Val.row))))] ((sumR 12 n FB FE w).1.av) [(.var 0, .n 2), (.cell 0 0, .av (vv (.int .i64 (sumR 12 n FB FE w).2))), (.cell 0 1, .av (.p (.ps (row.map Val.row))))] := by
 refine sk Tryz.func102 ?_; intro F G hn hG; have hk2 : (1 : Int) < (kids.length : Int) := by omega
 refine srp 1000 [2,5,6,96] ?_; refine sq ?_; refine srp 2000 [2,5,6,8,13,96] ?_; refine ce ?_; refine k_skip ?_; refine srp 4000 [2,5,6,8,16,96] ?_; refine sq ?_; refine srp 5000 [2,5,6,8,17,96] ?_; refine k_block ?_; refine srp 6000 [2,5,6,8,17,19,20,96] ?_; refine ce ?_; refine srp 8000 [2,5,6,8,17,18,23,24,25,96] ?_; refine ce ?_; refine srp 10000 [2,5,6,8,17,18,31,32,33,96] ?_; refine ce ?_; refine srp 12000 [2,5,6,8,17,18,41,42,43,96] ?_; refine ce ?_; refine srp 14000 [2,5,6,8,17,18,51,52,53,96] ?_; refine ct ?_; refine sq ?_; refine srp 15000 [2,5,6,8,54,67,88,96] ?_; refine ct ?_; refine sq ?_; refine dr ?_; refine de 16000 ?_; refine dc id (hb w) ?_; refine de 16100 ?_; refine dn ?_; refine pr [2,5,6,8,61,67,88,96] ?_; refine k_ret ?_; show retQ _ _ _ _ _ _ _; simp [*]
attribute [local simp] E.av E.row_eq Val.av Val.num fitF bitV sumR in
theorem spec107_if0 (row : List Val) (hrow : row.length ≤ Flat.lim) (col : Int) (c : Val) (kids : List E) (eo ec : Int) (ev : Val) (ek : List E) (FE : Int → Val × Int) (he : ∀ w : Int, Flat.Sp Tryz.prog 39 [.ptr 0 0, (E.mk eo ec ev ek).av] [(.var 0, .n 2), (.cell 0 0, .av (vv (.int .i64 w))), (.cell 0 1, .av (.p (.ps (row.map Val.row))))] (FE w).1.av [(.var 0, .n 2), (.cell 0 0, .av (vv (.int .i64 (FE w).2))), (.cell 0 1, .av (.p (.ps (row.map Val.row))))]) (hk3 : 2 < kids.length) (hke : kids[2] = E.mk eo ec ev ek) (FB : Int → Val × Int) (n w : Int) (hw : (w != 0) = false)(hn0 : (n != 0) = false) : Flat.Sp Tryz.prog 102 [.ptr 0 0, (E.mk 12 col c kids).av, vv (.int .i64 n)] [(.var 0, .n 2), (.cell 0 0, .av (vv (.int .i64 w))), (.cell 0 1, .av (.p (.ps (row.map Val.row))))] ((sumR 12 n FB FE w).1.av) [(.var 0, .n 2), (.cell 0 0, .av (vv (.int .i64 (sumR 12 n FB FE w).2))), (.cell 0 1, .av (.p (.ps (row.map Val.row))))] := by
 refine sk Tryz.func102 ?_; intro F G hn hG; have hk4 : (2 : Int) < (kids.length : Int) := by omega
 refine srp 1000 [2,5,6,96] ?_; refine sq ?_; refine srp 2000 [2,5,6,8,13,96] ?_; refine ce ?_; refine k_skip ?_; refine srp 4000 [2,5,6,8,16,96] ?_; refine sq ?_; refine srp 5000 [2,5,6,8,17,96] ?_; refine k_block ?_; refine srp 6000 [2,5,6,8,17,19,20,96] ?_; refine ce ?_; refine srp 8000 [2,5,6,8,17,18,23,24,25,96] ?_; refine ce ?_; refine srp 10000 [2,5,6,8,17,18,31,32,33,96] ?_; refine ce ?_; refine srp 12000 [2,5,6,8,17,18,41,42,43,96] ?_; refine ce ?_; refine srp 14000 [2,5,6,8,17,18,51,52,53,96] ?_; refine ct ?_; refine sq ?_; refine srp 15000 [2,5,6,8,54,67,88,96] ?_; refine ce ?_; refine k_skip ?_; refine sq ?_; refine dr ?_; refine de 17000 ?_; refine dc id (he w) ?_; refine de 17100 ?_; refine dn ?_; refine pr [2,4,6,8,88,96] ?_; refine k_ret ?_; show retQ _ _ _ _ _ _ _; simp [*]
attribute [local simp] E.av E.row_eq Val.av Val.num fitF bitV sumR in
theorem spec107_add (row : List Val) (hrow : row.length ≤ Flat.lim) (col : Int) (c : Val) (kids : List E) (bo bc : Int) (bv : Val) (bk : List E) (FB : Int → Val × Int) (hb : ∀ w : Int, Flat.Sp Tryz.prog 39 [.ptr 0 0, (E.mk bo bc bv bk).av] [(.var 0, .n 2), (.cell 0 0, .av (vv (.int .i64 w))), (.cell 0 1, .av (.p (.ps (row.map Val.row))))] (FB w).1.av [(.var 0, .n 2), (.cell 0 0, .av (vv (.int .i64 (FB w).2))), (.cell 0 1, .av (.p (.ps (row.map Val.row))))]) (hk1 : 1 < kids.length) (hkb : kids[1] = E.mk bo bc bv bk) (FE : Int → Val × Int) (n w : Int) (hw : (w != 0) = false) : Flat.Sp Tryz.prog 102 [.ptr 0 0, (E.mk 3 col c kids).av, vv (.int .i64 n)] [(.var 0, .n 2), (.cell 0 0, .av (vv (.int .i64 w))), (.cell 0 1, .av (.p (.ps (row.map Val.row))))] ((sumR 3 n FB FE w).1.av) [(.var 0, .n 2), (.cell 0 0, .av (vv (.int .i64 (sumR 3 n FB FE w).2))), (.cell 0 1, .av (.p (.ps (row.map Val.row))))] := by
 refine sk Tryz.func102 ?_; intro F G hn hG; have hk2 : (1 : Int) < (kids.length : Int) := by omega
 refine srp 1000 [2,5,6,96] ?_; refine sq ?_; refine srp 2000 [2,5,6,8,13,96] ?_; refine ce ?_; refine k_skip ?_; refine srp 4000 [2,5,6,8,16,96] ?_; refine sq ?_; refine srp 5000 [2,5,6,8,17,96] ?_; refine k_block ?_; refine srp 6000 [2,5,6,8,17,19,20,96] ?_; refine ce ?_; refine srp 8000 [2,5,6,8,17,18,23,24,25,96] ?_; refine ce ?_; refine srp 10000 [2,5,6,8,17,18,31,32,33,96] ?_; refine ce ?_; refine srp 12000 [2,5,6,8,17,18,41,42,43,96] ?_; refine ce ?_; refine srp 14000 [2,5,6,8,17,18,51,52,53,96] ?_; refine ce ?_; refine srp 18000 [2,4,6,8,17,18,67,68,69,96] ?_; refine ct ?_; refine sq ?_; refine dr ?_; refine de 19000 ?_; refine dk [1000, 1001] (fun k => if k = 1 then 1000 else if k = 2 then 1001 else k) (spec162 row hrow 3 col c kids bo bc bv bk FB hb hk1 hkb w) ?_
 refine de 19100 ?_; refine dc id (spec165 [n, (numF FB w).1] (by simp [Flat.lim])) ?_ (hg := by simp [*, irow]) (hf := by simp [*, irow]; exact is_rfl _) (hx := by simp [*, irow]; exact is_rfl _) (hargs := by simp [*, irow]) (hB := by simp [*, irow]) (hL := by simp [*, irow]) (hd := by simp [*, irow]; exact is_rfl _)
 refine de 19200 ?_; refine dc id (spec163 (numF FB w).2 (.ps (row.map Val.row)) (tfit (tsum [n, (numF FB w).1])).1 (tfit (tsum [n, (numF FB w).1])).2) ?_; refine de 19300 ?_; refine dn ?_; refine pr [2,4,6,8,88,96] ?_; refine k_ret ?_; show retQ _ _ _ _ _ _ _; simp [*]
attribute [local simp] E.av E.row_eq Val.av Val.num fitF bitV sumR in
theorem spec107_sub (row : List Val) (hrow : row.length ≤ Flat.lim) (col : Int) (c : Val) (kids : List E) (bo bc : Int) (bv : Val) (bk : List E) (FB : Int → Val × Int) (hb : ∀ w : Int, Flat.Sp Tryz.prog 39 [.ptr 0 0, (E.mk bo bc bv bk).av] [(.var 0, .n 2), (.cell 0 0, .av (vv (.int .i64 w))), (.cell 0 1, .av (.p (.ps (row.map Val.row))))] (FB w).1.av [(.var 0, .n 2), (.cell 0 0, .av (vv (.int .i64 (FB w).2))), (.cell 0 1, .av (.p (.ps (row.map Val.row))))]) (hk1 : 1 < kids.length) (hkb : kids[1] = E.mk bo bc bv bk) (FE : Int → Val × Int) (n w : Int) (hw : (w != 0) = false) : Flat.Sp Tryz.prog 102 [.ptr 0 0, (E.mk 4 col c kids).av, vv (.int .i64 n)] [(.var 0, .n 2), (.cell 0 0, .av (vv (.int .i64 w))), (.cell 0 1, .av (.p (.ps (row.map Val.row))))] ((sumR 4 n FB FE w).1.av) [(.var 0, .n 2), (.cell 0 0, .av (vv (.int .i64 (sumR 4 n FB FE w).2))), (.cell 0 1, .av (.p (.ps (row.map Val.row))))] := by
 refine sk Tryz.func102 ?_; intro F G hn hG; have hk2 : (1 : Int) < (kids.length : Int) := by omega
 refine srp 1000 [2,5,6,96] ?_; refine sq ?_; refine srp 2000 [2,5,6,8,13,96] ?_; refine ce ?_; refine k_skip ?_; refine srp 4000 [2,5,6,8,16,96] ?_; refine sq ?_; refine srp 5000 [2,5,6,8,17,96] ?_; refine k_block ?_; refine srp 6000 [2,5,6,8,17,19,20,96] ?_; refine ce ?_; refine srp 8000 [2,5,6,8,17,18,23,24,25,96] ?_; refine ce ?_; refine srp 10000 [2,5,6,8,17,18,31,32,33,96] ?_; refine ce ?_; refine srp 12000 [2,5,6,8,17,18,41,42,43,96] ?_; refine ce ?_; refine srp 14000 [2,5,6,8,17,18,51,52,53,96] ?_; refine ce ?_; refine srp 18000 [2,4,6,8,17,18,67,68,69,96] ?_; refine ce ?_; refine srp 20000 [2,4,6,8,78,79,80,96] ?_; refine ct ?_; refine sq ?_; refine dr ?_; refine de 21000 ?_; refine dk [1000, 1001] (fun k => if k = 1 then 1000 else if k = 2 then 1001 else k) (spec162 row hrow 4 col c kids bo bc bv bk FB hb hk1 hkb w) ?_
 refine dc id (spec164 n (numF FB w).1) ?_; refine de 21200 ?_; refine dc id (spec163 (numF FB w).2 (.ps (row.map Val.row)) (lessR n (numF FB w).1).1 (lessR n (numF FB w).1).2) ?_; refine de 21300 ?_; refine dn ?_; refine pr [2,4,6,8,88,96] ?_; refine k_ret ?_; show retQ _ _ _ _ _ _ _; simp [*]
attribute [local simp] E.av E.row_eq Val.av Val.num fitF bitV sumR in
theorem spec107_mul (row : List Val) (hrow : row.length ≤ Flat.lim) (col : Int) (c : Val) (kids : List E) (bo bc : Int) (bv : Val) (bk : List E) (FB : Int → Val × Int) (hb : ∀ w : Int, Flat.Sp Tryz.prog 39 [.ptr 0 0, (E.mk bo bc bv bk).av] [(.var 0, .n 2), (.cell 0 0, .av (vv (.int .i64 w))), (.cell 0 1, .av (.p (.ps (row.map Val.row))))] (FB w).1.av [(.var 0, .n 2), (.cell 0 0, .av (vv (.int .i64 (FB w).2))), (.cell 0 1, .av (.p (.ps (row.map Val.row))))]) (hk1 : 1 < kids.length) (hkb : kids[1] = E.mk bo bc bv bk) (FE : Int → Val × Int) (n w : Int) (hw : (w != 0) = false) : Flat.Sp Tryz.prog 102 [.ptr 0 0, (E.mk 5 col c kids).av, vv (.int .i64 n)] [(.var 0, .n 2), (.cell 0 0, .av (vv (.int .i64 w))), (.cell 0 1, .av (.p (.ps (row.map Val.row))))] ((sumR 5 n FB FE w).1.av) [(.var 0, .n 2), (.cell 0 0, .av (vv (.int .i64 (sumR 5 n FB FE w).2))), (.cell 0 1, .av (.p (.ps (row.map Val.row))))] := by
 refine sk Tryz.func102 ?_; intro F G hn hG; have hk2 : (1 : Int) < (kids.length : Int) := by omega
 refine srp 1000 [2,5,6,96] ?_; refine sq ?_; refine srp 2000 [2,5,6,8,13,96] ?_; refine ce ?_; refine k_skip ?_; refine srp 4000 [2,5,6,8,16,96] ?_; refine sq ?_; refine srp 5000 [2,5,6,8,17,96] ?_; refine k_block ?_; refine srp 6000 [2,5,6,8,17,19,20,96] ?_; refine ce ?_; refine srp 8000 [2,5,6,8,17,18,23,24,25,96] ?_; refine ce ?_; refine srp 10000 [2,5,6,8,17,18,31,32,33,96] ?_; refine ce ?_; refine srp 12000 [2,5,6,8,17,18,41,42,43,96] ?_; refine ce ?_; refine srp 14000 [2,5,6,8,17,18,51,52,53,96] ?_; refine ce ?_; refine srp 18000 [2,4,6,8,17,18,67,68,69,96] ?_; refine ce ?_; refine srp 20000 [2,4,6,8,78,79,80,96] ?_; refine ce ?_; refine k_skip ?_; refine k_nil ?_; show AK _ _ _ _ _ _; refine sq ?_; refine dr ?_; refine de 22000 ?_; refine dk [1000, 1001] (fun k => if k = 1 then 1000 else if k = 2 then 1001 else k) (spec162 row hrow 5 col c kids bo bc bv bk FB hb hk1 hkb w) ?_
 refine dc id (spec95 n (numF FB w).1) ?_; refine de 22200 ?_; refine dc id (spec163 (numF FB w).2 (.ps (row.map Val.row)) (timesR n (numF FB w).1).1 (timesR n (numF FB w).1).2) ?_; refine de 22300 ?_; refine dn ?_; refine pr [6,7] ?_; refine k_ret ?_; show retQ _ _ _ _ _ _ _; simp [*]
theorem spec107_one (row : List Val) (hrow : row.length ≤ Flat.lim) (op col : Int) (c : Val) (kids : List E) (hop : op = 6 ∨ op = 11) (FB FE : Int → Val × Int) (n w : Int) : Flat.Sp Tryz.prog 102 [.ptr 0 0, (E.mk op col c kids).av, vv (.int .i64 n)] [(.var 0, .n 2), (.cell 0 0, .av (vv (.int .i64 w))), (.cell 0 1, .av (.p (.ps (row.map Val.row))))] ((sumR op n FB FE w).1.av) [(.var 0, .n 2), (.cell 0 0, .av (vv (.int .i64 (sumR op n FB FE w).2))), (.cell 0 1, .av (.p (.ps (row.map Val.row))))] := by
 cases hw : (w != 0) with
 | true => exact spec107_err row hrow op col c kids FB FE n w hw
 | false =>
   rcases hop with rfl | rfl
   · exact spec107_neg row hrow col c kids FB FE n w hw
   · exact spec107_not row hrow col c kids FB FE n w hw
theorem spec107_two (row : List Val) (hrow : row.length ≤ Flat.lim) (op col : Int) (c : Val) (kids : List E) (hop : op = 3 ∨ op = 4 ∨ op = 5 ∨ op = 9 ∨ op = 10) (bo bc : Int) (bv : Val) (bk : List E) (FB : Int → Val × Int) (hb : ∀ w : Int, Flat.Sp Tryz.prog 39 [.ptr 0 0, (E.mk bo bc bv bk).av] [(.var 0, .n 2), (.cell 0 0, .av (vv (.int .i64 w))), (.cell 0 1, .av (.p (.ps (row.map Val.row))))] (FB w).1.av [(.var 0, .n 2), (.cell 0 0, .av (vv (.int .i64 (FB w).2))), (.cell 0 1, .av (.p (.ps (row.map Val.row))))]) (hk1 : 1 < kids.length) (hkb : kids[1] = E.mk bo bc bv bk) (FE : Int → Val × Int) (n w : Int) : Flat.Sp Tryz.prog 102 [.ptr 0 0, (E.mk op col c kids).av, vv (.int .i64 n)] [(.var 0, .n 2), (.cell 0 0, .av (vv (.int .i64 w))), (.cell 0 1, .av (.p (.ps (row.map Val.row))))] ((sumR op n FB FE w).1.av) [(.var 0, .n 2), (.cell 0 0, .av (vv (.int .i64 (sumR op n FB FE w).2))), (.cell 0 1, .av (.p (.ps (row.map Val.row))))] := by
 cases hw : (w != 0) with
 | true => exact spec107_err row hrow op col c kids FB FE n w hw
 | false =>
   rcases hop with rfl | rfl | rfl | rfl | rfl
   · exact spec107_add row hrow col c kids bo bc bv bk FB hb hk1 hkb FE n w hw
   · exact spec107_sub row hrow col c kids bo bc bv bk FB hb hk1 hkb FE n w hw
   · exact spec107_mul row hrow col c kids bo bc bv bk FB hb hk1 hkb FE n w hw
   · cases hn0 : (n != 0) with
     | true => exact spec107_and1 row hrow col c kids bo bc bv bk FB hb hk1 hkb FE n w hw hn0
     | false => exact spec107_and0 row hrow col c kids FB FE n w hw hn0
   · cases hn0 : (n != 0) with
     | true => exact spec107_or1 row hrow col c kids FB FE n w hw hn0
     | false => exact spec107_or0 row hrow col c kids bo bc bv bk FB hb hk1 hkb FE n w hw hn0
theorem spec107_if (row : List Val) (hrow : row.length ≤ Flat.lim) (col : Int) (c : Val) (kids : List E) (bo bc : Int) (bv : Val) (bk : List E) (FB : Int → Val × Int) (hb : ∀ w : Int, Flat.Sp Tryz.prog 39 [.ptr 0 0, (E.mk bo bc bv bk).av] [(.var 0, .n 2), (.cell 0 0, .av (vv (.int .i64 w))), (.cell 0 1, .av (.p (.ps (row.map Val.row))))] (FB w).1.av [(.var 0, .n 2), (.cell 0 0, .av (vv (.int .i64 (FB w).2))), (.cell 0 1, .av (.p (.ps (row.map Val.row))))]) (hk1 : 1 < kids.length) (hkb : kids[1] = E.mk bo bc bv bk) (eo ec : Int) (ev : Val) (ek : List E) (FE : Int → Val × Int) (he : ∀ w : Int, Flat.Sp Tryz.prog 39 [.ptr 0 0, (E.mk eo ec ev ek).av] [(.var 0, .n 2), (.cell 0 0, .av (vv (.int .i64 w))), (.cell 0 1, .av (.p (.ps (row.map Val.row))))] (FE w).1.av [(.var 0, .n 2), (.cell 0 0, .av (vv (.int .i64 (FE w).2))), (.cell 0 1, .av (.p (.ps (row.map Val.row))))]) (hk3 : 2 < kids.length) (hke : kids[2] = E.mk eo ec ev ek) (n w : Int) : Flat.Sp Tryz.prog 102 [.ptr 0 0, (E.mk 12 col c kids).av, vv (.int .i64 n)] [(.var 0, .n 2), (.cell 0 0, .av (vv (.int .i64 w))), (.cell 0 1, .av (.p (.ps (row.map Val.row))))] ((sumR 12 n FB FE w).1.av) [(.var 0, .n 2), (.cell 0 0, .av (vv (.int .i64 (sumR 12 n FB FE w).2))), (.cell 0 1, .av (.p (.ps (row.map Val.row))))] := by
 cases hw : (w != 0) with
 | true => exact spec107_err row hrow 12 col c kids FB FE n w hw
 | false =>
   cases hn0 : (n != 0) with
   | true => exact spec107_if1 row hrow col c kids bo bc bv bk FB hb hk1 hkb FE n w hw hn0
   | false => exact spec107_if0 row hrow col c kids eo ec ev ek FE he hk3 hke FB n w hw hn0
end
section
attribute [local simp] callWk without
attribute [local simp] E.av E.row_eq Val.av in
theorem spec55_one (row : List Val) (hrow : row.length ≤ Flat.lim) (op : Int) (col : Int) (c : Val) (ao ac : Int) (av : Val) (ak : List E) (hop : op = 6 ∨ op = 11) (ha : ∀ w : Int, Flat.Sp Tryz.prog 39 [.ptr 0 0, (E.mk ao ac av ak).av] [(.var 0, .n 2), (.cell 0 0, .av (vv (.int .i64 w))), (.cell 0 1, .av (.p (.ps (row.map Val.row))))] (reck row (E.mk ao ac av ak) w).1.av [(.var 0, .n 2), (.cell 0 0, .av (vv (.int .i64 (reck row (E.mk ao ac av ak) w).2))), (.cell 0 1, .av (.p (.ps (row.map Val.row))))]) (w : Int) (hw : (w != 0) = false) : Flat.Sp Tryz.prog 39 [.ptr 0 0, (E.mk op col c [E.mk ao ac av ak]).av] [(.var 0, .n 2), (.cell 0 0, .av (vv (.int .i64 w))), (.cell 0 1, .av (.p (.ps (row.map Val.row))))] ((reck row (E.mk op col c [E.mk ao ac av ak]) w).1.av) [(.var 0, .n 2), (.cell 0 0, .av (vv (.int .i64 (reck row (E.mk op col c [E.mk ao ac av ak]) w).2))), (.cell 0 1, .av (.p (.ps (row.map Val.row))))] := by
 refine sk Tryz.func39 ?_; intro F G hn hG; have ho1 : (op == 1) = false := by rcases hop with rfl | rfl <;> rfl
 have ho2 : (op == 2) = false := by rcases hop with rfl | rfl <;> rfl
 have ho7 : (op == 7) = false := by rcases hop with rfl | rfl <;> rfl
 have ho8 : (op == 8) = false := by rcases hop with rfl | rfl <;> rfl
 refine srp 1000 [0,1,3,42,43,79,80,109] ?_; refine sq ?_; refine k_block ?_; refine srp 2000 [0,1,3,9,15,42,43,79,80,109] ?_; refine ce ?_; refine srp 4000 [0,1,3,8,16,17,20,42,43,79,80,109] ?_; refine ce ?_; refine srp 6000 [0,1,3,8,22,23,26,42,43,79,80,109] ?_; refine ce ?_; refine sq ?_; refine srp 11000 [0,1,3,8,52,53,56,79,80,109] ?_; refine ce ?_; refine rgp 12000 [0,1,3,8,52,53,59,79,80,109] ?_; refine ce ?_; refine k_skip ?_; refine k_nil ?_; show AK _ _ _ _ _ _; refine sq ?_; refine dr ?_; refine de 17000 ?_; refine dc id (spec108 row hrow ao ac av ak (reck row (E.mk ao ac av ak)) ha w) ?_; refine dc id (spec107_one row hrow op col c [E.mk ao ac av ak] hop noF noF (numF (reck row (E.mk ao ac av ak)) w).1 (numF (reck row (E.mk ao ac av ak)) w).2) ?_; refine de 17200 ?_; refine dn ?_; refine pr [4,5] ?_; refine k_ret ?_; show retQ _ _ _ _ _ _ _; simp [*, reck, recks, stepR, Val.av]
attribute [local simp] E.av E.row_eq Val.av in
theorem spec55_two (row : List Val) (hrow : row.length ≤ Flat.lim) (op : Int) (col : Int) (c : Val) (ao ac : Int) (av : Val) (ak : List E) (bo bc : Int) (bv : Val) (bk : List E) (hop : op = 3 ∨ op = 4 ∨ op = 5 ∨ op = 9 ∨ op = 10) (ha : ∀ w : Int, Flat.Sp Tryz.prog 39 [.ptr 0 0, (E.mk ao ac av ak).av] [(.var 0, .n 2), (.cell 0 0, .av (vv (.int .i64 w))), (.cell 0 1, .av (.p (.ps (row.map Val.row))))] (reck row (E.mk ao ac av ak) w).1.av [(.var 0, .n 2), (.cell 0 0, .av (vv (.int .i64 (reck row (E.mk ao ac av ak) w).2))), (.cell 0 1, .av (.p (.ps (row.map Val.row))))]) (hb : ∀ w : Int, Flat.Sp Tryz.prog 39 [.ptr 0 0, (E.mk bo bc bv bk).av] [(.var 0, .n 2), (.cell 0 0, .av (vv (.int .i64 w))), (.cell 0 1, .av (.p (.ps (row.map Val.row))))] (reck row (E.mk bo bc bv bk) w).1.av [(.var 0, .n 2), (.cell 0 0, .av (vv (.int .i64 (reck row (E.mk bo bc bv bk) w).2))), (.cell 0 1, .av (.p (.ps (row.map Val.row))))]) (w : Int) (hw : (w != 0) = false) : Flat.Sp Tryz.prog 39 [.ptr 0 0, (E.mk op col c [E.mk ao ac av ak, E.mk bo bc bv bk]).av] [(.var 0, .n 2), (.cell 0 0, .av (vv (.int .i64 w))), (.cell 0 1, .av (.p (.ps (row.map Val.row))))] ((reck row (E.mk op col c [E.mk ao ac av ak, E.mk bo bc bv bk]) w).1.av) [(.var 0, .n 2), (.cell 0 0, .av (vv (.int .i64 (reck row (E.mk op col c [E.mk ao ac av ak, E.mk bo bc bv bk]) w).2))), (.cell 0 1, .av (.p (.ps (row.map Val.row))))] := by
 refine sk Tryz.func39 ?_; intro F G hn hG; have ho1 : (op == 1) = false := by rcases hop with rfl | rfl | rfl | rfl | rfl <;> rfl
 have ho2 : (op == 2) = false := by rcases hop with rfl | rfl | rfl | rfl | rfl <;> rfl
 have ho7 : (op == 7) = false := by rcases hop with rfl | rfl | rfl | rfl | rfl <;> rfl
 have ho8 : (op == 8) = false := by rcases hop with rfl | rfl | rfl | rfl | rfl <;> rfl
 refine srp 1000 [0,1,3,42,43,79,80,109] ?_; refine sq ?_; refine k_block ?_; refine srp 2000 [0,1,3,9,15,42,43,79,80,109] ?_; refine ce ?_; refine srp 4000 [0,1,3,8,16,17,20,42,43,79,80,109] ?_; refine ce ?_; refine srp 6000 [0,1,3,8,22,23,26,42,43,79,80,109] ?_; refine ce ?_; refine sq ?_; refine srp 11000 [0,1,3,8,52,53,56,79,80,109] ?_; refine ce ?_; refine rgp 12000 [0,1,3,8,52,53,59,79,80,109] ?_; refine ce ?_; refine k_skip ?_; refine k_nil ?_; show AK _ _ _ _ _ _; refine sq ?_; refine dr ?_; refine de 17000 ?_; refine dc id (spec108 row hrow ao ac av ak (reck row (E.mk ao ac av ak)) ha w) ?_; refine dc id (spec107_two row hrow op col c [E.mk ao ac av ak, E.mk bo bc bv bk] hop bo bc bv bk (reck row (E.mk bo bc bv bk)) hb (by simp) rfl noF (numF (reck row (E.mk ao ac av ak)) w).1 (numF (reck row (E.mk ao ac av ak)) w).2) ?_
 refine de 17200 ?_; refine dn ?_; refine pr [4,5] ?_; refine k_ret ?_; show retQ _ _ _ _ _ _ _; simp [*, reck, recks, stepR, Val.av]
attribute [local simp] E.av E.row_eq Val.av in
theorem spec55_if (row : List Val) (hrow : row.length ≤ Flat.lim) (col : Int) (c : Val) (ao ac : Int) (av : Val) (ak : List E) (bo bc : Int) (bv : Val) (bk : List E) (eo ec : Int) (ev : Val) (ek : List E) (ha : ∀ w : Int, Flat.Sp Tryz.prog 39 [.ptr 0 0, (E.mk ao ac av ak).av] [(.var 0, .n 2), (.cell 0 0, .av (vv (.int .i64 w))), (.cell 0 1, .av (.p (.ps (row.map Val.row))))] (reck row (E.mk ao ac av ak) w).1.av [(.var 0, .n 2), (.cell 0 0, .av (vv (.int .i64 (reck row (E.mk ao ac av ak) w).2))), (.cell 0 1, .av (.p (.ps (row.map Val.row))))]) (hb : ∀ w : Int, Flat.Sp Tryz.prog 39 [.ptr 0 0, (E.mk bo bc bv bk).av] [(.var 0, .n 2), (.cell 0 0, .av (vv (.int .i64 w))), (.cell 0 1, .av (.p (.ps (row.map Val.row))))] (reck row (E.mk bo bc bv bk) w).1.av [(.var 0, .n 2), (.cell 0 0, .av (vv (.int .i64 (reck row (E.mk bo bc bv bk) w).2))), (.cell 0 1, .av (.p (.ps (row.map Val.row))))]) (he : ∀ w : Int, Flat.Sp Tryz.prog 39 [.ptr 0 0, (E.mk eo ec ev ek).av] [(.var 0, .n 2), (.cell 0 0, .av (vv (.int .i64 w))), (.cell 0 1, .av (.p (.ps (row.map Val.row))))] (reck row (E.mk eo ec ev ek) w).1.av [(.var 0, .n 2), (.cell 0 0, .av (vv (.int .i64 (reck row (E.mk eo ec ev ek) w).2))), (.cell 0 1, .av (.p (.ps (row.map Val.row))))]) (w : Int) (hw : (w != 0) = false) : Flat.Sp Tryz.prog 39 [.ptr 0 0, (E.mk 12 col c [E.mk ao ac av ak, E.mk bo bc bv bk, E.mk eo ec ev ek]).av] [(.var 0, .n 2), (.cell 0 0, .av (vv (.int .i64 w))), (.cell 0 1, .av (.p (.ps (row.map Val.row))))] ((reck row (E.mk 12 col c [E.mk ao ac av ak, E.mk bo bc bv bk, E.mk eo ec ev ek]) w).1.av) [(.var 0, .n 2), (.cell 0 0, .av (vv (.int .i64 (reck row (E.mk 12 col c [E.mk ao ac av ak, E.mk bo bc bv bk, E.mk eo ec ev ek]) w).2))), (.cell 0 1, .av (.p (.ps (row.map Val.row))))] := by
 refine sk Tryz.func39 ?_; intro F G hn hG; refine srp 1000 [0,1,3,42,43,79,80,109] ?_; refine sq ?_; refine k_block ?_; refine srp 2000 [0,1,3,9,15,42,43,79,80,109] ?_; refine ce ?_; refine srp 4000 [0,1,3,8,16,17,20,42,43,79,80,109] ?_; refine ce ?_; refine srp 6000 [0,1,3,8,22,23,26,42,43,79,80,109] ?_; refine ce ?_; refine sq ?_; refine srp 11000 [0,1,3,8,52,53,56,79,80,109] ?_; refine ce ?_; refine rgp 12000 [0,1,3,8,52,53,59,79,80,109] ?_; refine ce ?_; refine k_skip ?_; refine k_nil ?_; show AK _ _ _ _ _ _; refine sq ?_; refine dr ?_; refine de 17000 ?_; refine dc id (spec108 row hrow ao ac av ak (reck row (E.mk ao ac av ak)) ha w) ?_; refine dc id (spec107_if row hrow col c [E.mk ao ac av ak, E.mk bo bc bv bk, E.mk eo ec ev ek] bo bc bv bk (reck row (E.mk bo bc bv bk)) hb (by simp) rfl eo ec ev ek (reck row (E.mk eo ec ev ek)) he (by simp) rfl (numF (reck row (E.mk ao ac av ak)) w).1 (numF (reck row (E.mk ao ac av ak)) w).2) ?_
 refine de 17200 ?_; refine dn ?_; refine pr [4,5] ?_; refine k_ret ?_; show retQ _ _ _ _ _ _ _; simp [*, reck, recks, stepR, Val.av]
attribute [local simp] E.av E.row_eq Val.av bitV Val.num in
theorem spec55_cmp7 (row : List Val) (hrow : row.length ≤ Flat.lim) (col : Int) (c : Val) (ao ac : Int) (av : Val) (ak : List E) (bo bc : Int) (bv : Val) (bk : List E) (ha : ∀ w : Int, Flat.Sp Tryz.prog 39 [.ptr 0 0, (E.mk ao ac av ak).av] [(.var 0, .n 2), (.cell 0 0, .av (vv (.int .i64 w))), (.cell 0 1, .av (.p (.ps (row.map Val.row))))] (reck row (E.mk ao ac av ak) w).1.av [(.var 0, .n 2), (.cell 0 0, .av (vv (.int .i64 (reck row (E.mk ao ac av ak) w).2))), (.cell 0 1, .av (.p (.ps (row.map Val.row))))]) (hb : ∀ w : Int, Flat.Sp Tryz.prog 39 [.ptr 0 0, (E.mk bo bc bv bk).av] [(.var 0, .n 2), (.cell 0 0, .av (vv (.int .i64 w))), (.cell 0 1, .av (.p (.ps (row.map Val.row))))] (reck row (E.mk bo bc bv bk) w).1.av [(.var 0, .n 2), (.cell 0 0, .av (vv (.int .i64 (reck row (E.mk bo bc bv bk) w).2))), (.cell 0 1, .av (.p (.ps (row.map Val.row))))]) (w : Int) (hw : (w != 0) = false) : Flat.Sp Tryz.prog 39 [.ptr 0 0, (E.mk 7 col c [E.mk ao ac av ak, E.mk bo bc bv bk]).av] [(.var 0, .n 2), (.cell 0 0, .av (vv (.int .i64 w))), (.cell 0 1, .av (.p (.ps (row.map Val.row))))] ((reck row (E.mk 7 col c [E.mk ao ac av ak, E.mk bo bc bv bk]) w).1.av) [(.var 0, .n 2), (.cell 0 0, .av (vv (.int .i64 (reck row (E.mk 7 col c [E.mk ao ac av ak, E.mk bo bc bv bk]) w).2))), (.cell 0 1, .av (.p (.ps (row.map Val.row))))] := by
 refine sk Tryz.func39 ?_; intro F G hn hG; refine srp 1000 [0,1,3,42,43,79,80,109] ?_; refine sq ?_; refine k_block ?_; refine srp 2000 [0,1,3,9,15,42,43,79,80,109] ?_; refine ce ?_; refine srp 4000 [0,1,3,8,16,17,20,42,43,79,80,109] ?_; refine ce ?_; refine srp 6000 [0,1,3,8,22,23,26,42,43,79,80,109] ?_; refine ce ?_; refine sq ?_; refine srp 11000 [0,1,3,8,52,53,56,79,80,109] ?_; refine ct ?_; refine k_skip ?_; refine ct ?_; refine sq ?_; refine dr ?_; refine de 13000 ?_; refine dc id (ha w) ?_; refine de 13100 ?_; refine dc id (hb ((reck row (E.mk ao ac av ak)) w).2) ?_; refine de 13200 ?_; refine dn ?_; refine pr [0,1,3,8,71,79,80,109] ?_; refine sq ?_; refine dr ?_; refine de 14000 ?_; refine dc id (spec104 ((reck row (E.mk bo bc bv bk)) ((reck row (E.mk ao ac av ak)) w).2).2 (.ps (row.map Val.row)) (((reck row (E.mk ao ac av ak)) w).1.t == ((reck row (E.mk bo bc bv bk)) ((reck row (E.mk ao ac av ak)) w).2).1.t) 11) ?_; refine dn ?_; refine pr [0,1,3,8,80,109] ?_; refine src 15000 ?_; refine oc id (spec105 ((reck row (E.mk ao ac av ak)) w).1 ((reck row (E.mk bo bc bv bk)) ((reck row (E.mk ao ac av ak)) w).2).1) ?_; refine oe 15100 ?_; refine onp [0,1,3,5,7,8,83,109] ?_; refine src 16000 ?_; iterate 3 (first | refine gp 16250 ?_ | refine os ?_ | refine gt 16250 ?_)
 refine oe 16300 ?_; iterate 7 (first | refine gp 16950 ?_ | refine os ?_ | refine gt 16950 ?_)
 refine oe 17000 ?_; refine oc id (spec106 ((decide ((((reck row (E.mk ao ac av ak)) w).1.cmp ((reck row (E.mk bo bc bv bk)) ((reck row (E.mk ao ac av ak)) w).2).1) < 0) && (7 : Int) == 7) || ((((reck row (E.mk ao ac av ak)) w).1.cmp ((reck row (E.mk bo bc bv bk)) ((reck row (E.mk ao ac av ak)) w).2).1) == 0 && (7 : Int) == 8))) ?_; refine oe 17100 ?_; refine onp [0,1,3,5,100,109] ?_; refine k_ret ?_; show retQ _ _ _ _ _ _ _; simp [*, reck, recks, stepR, Val.av]
attribute [local simp] E.av E.row_eq Val.av bitV Val.num in
theorem spec55_cmp8 (row : List Val) (hrow : row.length ≤ Flat.lim) (col : Int) (c : Val) (ao ac : Int) (av : Val) (ak : List E) (bo bc : Int) (bv : Val) (bk : List E) (ha : ∀ w : Int, Flat.Sp Tryz.prog 39 [.ptr 0 0, (E.mk ao ac av ak).av] [(.var 0, .n 2), (.cell 0 0, .av (vv (.int .i64 w))), (.cell 0 1, .av (.p (.ps (row.map Val.row))))] (reck row (E.mk ao ac av ak) w).1.av [(.var 0, .n 2), (.cell 0 0, .av (vv (.int .i64 (reck row (E.mk ao ac av ak) w).2))), (.cell 0 1, .av (.p (.ps (row.map Val.row))))]) (hb : ∀ w : Int, Flat.Sp Tryz.prog 39 [.ptr 0 0, (E.mk bo bc bv bk).av] [(.var 0, .n 2), (.cell 0 0, .av (vv (.int .i64 w))), (.cell 0 1, .av (.p (.ps (row.map Val.row))))] (reck row (E.mk bo bc bv bk) w).1.av [(.var 0, .n 2), (.cell 0 0, .av (vv (.int .i64 (reck row (E.mk bo bc bv bk) w).2))), (.cell 0 1, .av (.p (.ps (row.map Val.row))))]) (w : Int) (hw : (w != 0) = false) : Flat.Sp Tryz.prog 39 [.ptr 0 0, (E.mk 8 col c [E.mk ao ac av ak, E.mk bo bc bv bk]).av] [(.var 0, .n 2), (.cell 0 0, .av (vv (.int .i64 w))), (.cell 0 1, .av (.p (.ps (row.map Val.row))))] ((reck row (E.mk 8 col c [E.mk ao ac av ak, E.mk bo bc bv bk]) w).1.av) [(.var 0, .n 2), (.cell 0 0, .av (vv (.int .i64 (reck row (E.mk 8 col c [E.mk ao ac av ak, E.mk bo bc bv bk]) w).2))), (.cell 0 1, .av (.p (.ps (row.map Val.row))))] := by
 refine sk Tryz.func39 ?_; intro F G hn hG; refine srp 1000 [0,1,3,42,43,79,80,109] ?_; refine sq ?_; refine k_block ?_; refine srp 2000 [0,1,3,9,15,42,43,79,80,109] ?_; refine ce ?_; refine srp 4000 [0,1,3,8,16,17,20,42,43,79,80,109] ?_; refine ce ?_; refine srp 6000 [0,1,3,8,22,23,26,42,43,79,80,109] ?_; refine ce ?_; refine sq ?_; refine srp 11000 [0,1,3,8,52,53,56,79,80,109] ?_; refine ce ?_; refine rgp 12000 [0,1,3,8,52,53,59,79,80,109] ?_; refine ct ?_; refine sq ?_; refine dr ?_; refine de 13000 ?_; refine dc id (ha w) ?_; refine de 13100 ?_; refine dc id (hb ((reck row (E.mk ao ac av ak)) w).2) ?_; refine de 13200 ?_; refine dn ?_; refine pr [0,1,3,8,71,79,80,109] ?_; refine sq ?_; refine dr ?_; refine de 14000 ?_; refine dc id (spec104 ((reck row (E.mk bo bc bv bk)) ((reck row (E.mk ao ac av ak)) w).2).2 (.ps (row.map Val.row)) (((reck row (E.mk ao ac av ak)) w).1.t == ((reck row (E.mk bo bc bv bk)) ((reck row (E.mk ao ac av ak)) w).2).1.t) 11) ?_; refine dn ?_; refine pr [0,1,3,8,80,109] ?_; refine src 15000 ?_; refine oc id (spec105 ((reck row (E.mk ao ac av ak)) w).1 ((reck row (E.mk bo bc bv bk)) ((reck row (E.mk ao ac av ak)) w).2).1) ?_; refine oe 15100 ?_; refine onp [0,1,3,5,7,8,83,109] ?_; refine src 16000 ?_; iterate 3 (first | refine gp 16250 ?_ | refine os ?_ | refine gt 16250 ?_)
 refine oe 16300 ?_; iterate 7 (first | refine gp 16950 ?_ | refine os ?_ | refine gt 16950 ?_)
 refine oe 17000 ?_; refine oc id (spec106 ((decide ((((reck row (E.mk ao ac av ak)) w).1.cmp ((reck row (E.mk bo bc bv bk)) ((reck row (E.mk ao ac av ak)) w).2).1) < 0) && (8 : Int) == 7) || ((((reck row (E.mk ao ac av ak)) w).1.cmp ((reck row (E.mk bo bc bv bk)) ((reck row (E.mk ao ac av ak)) w).2).1) == 0 && (8 : Int) == 8))) ?_; refine oe 17100 ?_; refine onp [0,1,3,5,100,109] ?_; refine k_ret ?_; show retQ _ _ _ _ _ _ _; simp [*, reck, recks, stepR, Val.av]
end
section
attribute [local simp] callWk without
theorem spec55 (row : List Val) (hrow : row.length ≤ Flat.lim) : ∀ e : E, e.good → ∀ w : Int, Flat.Sp Tryz.prog 39 [.ptr 0 0, e.av] [(.var 0, .n 2), (.cell 0 0, .av (vv (.int .i64 w))), (.cell 0 1, .av (.p (.ps (row.map Val.row))))] (reck row e w).1.av [(.var 0, .n 2), (.cell 0 0, .av (vv (.int .i64 (reck row e w).2))), (.cell 0 1, .av (.p (.ps (row.map Val.row))))] := by
 refine E.ind fun op col c kids ih hg w => ?_
 rw [E.good] at hg; obtain ⟨hok, hgk⟩ := hg; have ih' : ∀ k ∈ kids, ∀ w, _ := fun k hk => ih k hk (E.goodL_mem hgk k hk)
 cases hw : (w != 0) with
 | true => exact spec55_err row hrow op col c kids w hw
 | false =>
   rcases okE_shape hok with ⟨rfl, hn⟩ | ⟨rfl, hn⟩ | ⟨ho, hn⟩ | ⟨ho, hn⟩ | ⟨rfl, hn⟩ | ⟨rfl, hn⟩ | ⟨rfl, hn⟩
   · obtain rfl := List.length_eq_zero_iff.1 hn
     exact spec55_col row hrow col c w hw
   · obtain rfl := List.length_eq_zero_iff.1 hn
     exact spec55_con row hrow col c w hw
   · obtain ⟨⟨ao, ac, av, ak⟩, rfl⟩ := List.length_eq_one_iff.1 hn
     exact spec55_one row hrow op col c ao ac av ak ho (ih' _ (by simp)) w hw
   · obtain ⟨⟨ao, ac, av, ak⟩, ⟨bo, bc, bv, bk⟩, rfl⟩ := Flat.two_of_length hn
     exact spec55_two row hrow op col c ao ac av ak bo bc bv bk ho (ih' _ (by simp)) (ih' _ (by simp)) w hw
   · obtain ⟨⟨ao, ac, av, ak⟩, ⟨bo, bc, bv, bk⟩, rfl⟩ := Flat.two_of_length hn
     exact spec55_cmp7 row hrow col c ao ac av ak bo bc bv bk (ih' _ (by simp)) (ih' _ (by simp)) w hw
   · obtain ⟨⟨ao, ac, av, ak⟩, ⟨bo, bc, bv, bk⟩, rfl⟩ := Flat.two_of_length hn
     exact spec55_cmp8 row hrow col c ao ac av ak bo bc bv bk (ih' _ (by simp)) (ih' _ (by simp)) w hw
   · obtain ⟨⟨ao, ac, av, ak⟩, ⟨bo, bc, bv, bk⟩, ⟨eo, ec, ev, ek⟩, rfl⟩ := three_of_length hn
     exact spec55_if row hrow col c ao ac av ak bo bc bv bk eo ec ev ek (ih' _ (by simp)) (ih' _ (by simp)) (ih' _ (by simp)) w hw
def evalE (row : List Val) (e : E) : Val × Int :=
 if checkE e != 0 then (⟨false, 0, ⟨#[]⟩⟩, checkE e) else if checkRow row != 0 then (⟨false, 0, ⟨#[]⟩⟩, checkRow row) else if (reck row e 0).2 != 0 then (⟨false, 0, ⟨#[]⟩⟩, (reck row e 0).2) else ((reck row e 0).1, 0)
attribute [local simp] E.av Val.av evalE in
theorem spec23_mk (row : List Val) (hrow : row.length ≤ Flat.lim) (op col : Int) (c : Val) (kids : List E) : Flat.Sp Tryz.prog 13 [(E.mk op col c kids).av, .p (.ps (row.map Val.row))] [] (.tup [(evalE row (E.mk op col c kids)).1.av, vv (.int .i64 (evalE row (E.mk op col c kids)).2)]) [] := by
 refine sk Tryz.func13 ?_; intro F G hn hG; refine srp 1000 [1,3,4,41] ?_; refine sq ?_; refine src 2000 ?_; refine oc id (spec22 op col c kids) ?_; refine oe 2100 ?_; refine onp [1,3,4,10,12,41] ?_; refine srp 3000 [1,3,4,10,13,41] ?_; refine cd ?_ ?_
 · intro h13_1
   have h13_1 : (checkE (E.mk op col c kids) != 0) = true := by simpa using h13_1
   refine srp 4000 [1,3,4,6,7,10,16,41] ?_; refine k_ret ?_; show retQ _ _ _ _ _ _ _; simp [*]
 · intro h13_1
   have h13_1 : (checkE (E.mk op col c kids) != 0) = false := by simpa using h13_1
   have hgood := checkE_good (e := (E.mk op col c kids)) (by simpa using h13_1)
   refine k_skip ?_; refine sq ?_; refine src 5000 ?_; refine oc id (spec54 row hrow) ?_; refine oe 5100 ?_; refine onp [1,3,4,6,7,10,18,41] ?_; refine srp 6000 [1,3,4,6,7,10,19,41] ?_; refine cd ?_ ?_
   · intro h19_2
     have h19_2 : (checkRow row != 0) = true := by simpa using h19_2
     refine srp 7000 [1,3,4,6,8,10,22,41] ?_; refine k_ret ?_; show retQ _ _ _ _ _ _ _; simp [*]
   · intro h19_2
     have h19_2 : (checkRow row != 0) = false := by simpa using h19_2
     refine k_skip ?_; refine srp 8000 [2,3,4,6,8,10,25,41] ?_; refine src 9000 ?_; refine oc (fun k => 8002) (spec55 row hrow (E.mk op col c kids) hgood 0) ?_
     refine oe 9100 ?_; refine onp [4,6,8,10,28,41] ?_; refine sq ?_; refine srp 10000 [4,6,8,10,33,41] ?_; refine cd ?_ ?_
     · intro h33_3
       have h33_3 : ((reck row (E.mk op col c kids) 0).2 != 0) = true := by simpa using h33_3
       refine sq ?_; refine dr ?_; refine de 11000 ?_; refine dn ?_; refine pr [4,6,9,10,40,41] ?_; refine k_ret ?_; show retQ _ _ _ _ _ _ _; simp [*]
     · intro h33_3
       have h33_3 : ((reck row (E.mk op col c kids) 0).2 != 0) = false := by simpa using h33_3
       refine k_skip ?_; refine srp 12000 [4,6] ?_; refine k_ret ?_; show retQ _ _ _ _ _ _ _; simp [*]
theorem spec23 (row : List Val) (hrow : row.length ≤ Flat.lim) (e : E) : Flat.Sp Tryz.prog 13 [e.av, .p (.ps (row.map Val.row))] [] (.tup [(evalE row e).1.av, vv (.int .i64 (evalE row e).2)]) [] := by
 obtain ⟨op, col, c, kids⟩ := e; exact spec23_mk row hrow op col c kids
attribute [local simp] Val.row Val.av in
theorem spec27 (row : List Val) (hrow : row.length ≤ Flat.lim) : Flat.Sp Tryz.prog 22 [.p (.ps (row.map Val.row))] [] (.p (.ps (row.map fun v => [PV.v (.int .u8 (tOf v))]))) [] := by
 refine sk Tryz.func22 ?_; intro F G hn hG; refine srp 1000 [0,1,2,4,5,19] ?_; refine srp 2000 [0,1,2,4,5,19] ?_; refine sq ?_; refine srp 3000 [2,4,5,19] ?_; refine k_block ?_; refine ow (.tmp 3) 900 73 1 ?_; refine k_loop (fun n l => ∃ i, i + n = row.length ∧ (True) ∧ l = [(.tmp 3, .av (.sl 900 i 0 i)), (.tmp 6, .av (.p (.ps (row.map Val.row)))), (.tmp 7, .av (vv (.int .i64 row.length))), (.tmp 8, .av (vv (.int .i64 i))), (.arr 900, .arr 73 1 ((row.map (fun v => [PV.v (.int .u8 (tOf v))])).take i) 0)]) (row.length) hG ⟨_, ⟨by simp, by simp, by simp⟩, 0, by simp, trivial, rfl⟩ ?_
 rintro n _ ⟨i, hin, hfa, rfl⟩; refine srp 4000 [2,4,5,19] ?_; refine sq ?_; refine cd ?_ ?_
 · intro h9_1
   have hlt : i < row.length := by simpa using h9_1
   obtain ⟨x, hxe⟩ : ∃ x, row[i] = x := ⟨_, rfl⟩; have hx : row[i]? = some x := by simp [hlt, hxe]
   have hw := wrap_succ (show i < Flat.lim by omega)
   have hmin : min i row.length = i := by omega
   have hlim : (i + 1) * 1 ≤ 140737488355328 := by simp only [Flat.lim] at *; omega
   have hlim1 : i + 1 ≤ 140737488355328 := by simp only [Flat.lim] at *; omega
   have htm0 := tmap_succ (f := (fun v => [PV.v (.int .u8 (tOf v))])) hx
   refine k_skip ?_; refine sq ?_; refine k_block ?_; refine srp 5000 [2,4,5,19] ?_; refine rc 6000 ?_; refine oc id (spec57 x) ?_; refine oe 6100 ?_; refine on ?_; refine k_nil ?_; show AK _ _ _ _ _ _; refine rg 7000 ?_; refine k_nil ?_; refine ⟨n - 1, by omega, _, ⟨?_, ?_, ?_⟩, i + 1, by omega, trivial, rfl⟩ <;> simp [*]
 · intro h9_1
   have hge : row.length ≤ i := by simpa using h9_1
   obtain rfl : i = row.length := by omega
   have htm0 := tmap_all (f := (fun v => [PV.v (.int .u8 (tOf v))])) (Nat.le_refl row.length)
   refine fz 900 ?_; refine k_exit ?_; show AK _ _ _ _ _ _; refine srp 8000 [2,3] ?_; refine k_ret ?_; show retQ _ _ _ _ _ _ _; simp [*]
end
end Go.Proofs
end
section
set_option linter.unusedVariables false
set_option linter.unusedSimpArgs false
namespace Go.Proofs
open Go.Flat
theorem w64 (n : Int) : IntKind.i64.wrap n = (n + 9223372036854775808) % 18446744073709551616 - 9223372036854775808 := by
 unfold IntKind.wrap; simp [IntKind.bits, IntKind.signed]; omega
def vZ : Val := ⟨false, 0, ⟨#[]⟩⟩
@[simp] theorem okE_con (n : Int) : okE 2 0 ⟨false, n, ⟨#[]⟩⟩ 0 = true := by simp [okE, okA, kidsOf, Val.eqB, checkRow, badRow, firstBad, Val.right]
@[simp] theorem okE_col (n : Int) : okE 1 n vZ 0 = true := by simp [okE, okA, kidsOf, Val.eqB, checkRow, badRow, firstBad, Val.right, vZ]
@[simp] theorem okE_if : okE 12 0 vZ 3 = true := by simp [okE, okA, kidsOf, Val.eqB, checkRow, badRow, firstBad, Val.right, vZ]
end Go.Proofs
end
section
set_option linter.unusedVariables false
set_option linter.unusedSimpArgs false
namespace Go.Proofs
open Go.Flat
def i64 (n : Int) : Prop := -9223372036854775808 ≤ n ∧ n < 9223372036854775808
theorem fdiv63 (n : Int) : n.fdiv 9223372036854775808 = n / 9223372036854775808 := Int.fdiv_eq_ediv_of_nonneg _ (by omega)
def V (p : Int × Int) : Int := p.1 * 18446744073709551616 + p.2
theorem tadd_V {p : Int × Int} (hp : tin p) {n : Int} (hn : i64 n) : ∃ k : Int, V (tadd p n) = V p + n + k * 340282366920938463463374607431768211456 := by
 unfold tin at hp; unfold i64 at hn; unfold V tadd; simp only [fdiv63, wrapU]
 by_cases h0 : 0 ≤ n
 · have e : n / 9223372036854775808 = 0 := by omega
   rw [e]; exact ⟨-((p.1 + 0 % 18446744073709551616 + (p.2 + n % 18446744073709551616) / 18446744073709551616) / 18446744073709551616), by omega⟩
 · have e : n / 9223372036854775808 = -1 := by omega
   rw [e]; exact ⟨1 - ((p.1 + -1 % 18446744073709551616 + (p.2 + n % 18446744073709551616) / 18446744073709551616) / 18446744073709551616), by omega⟩
theorem tsum_V {xs : List Int} (h : ∀ x ∈ xs, i64 x) : ∀ p, tin p → ∃ k : Int, V (xs.foldl tadd p) = V p + xs.sum + k * 340282366920938463463374607431768211456 := by
 induction xs with
 | nil => intro p hp; exact ⟨0, by simp⟩
 | cons x r ih =>
   intro p hp; obtain ⟨k, hk⟩ := tadd_V hp (h x (by simp))
   obtain ⟨k', hk'⟩ := ih (fun y hy => h y (by simp [hy])) (tadd p x) (tadd_in hp x)
   refine ⟨k + k', ?_⟩; rw [List.foldl_cons, hk', hk, List.sum_cons]; omega
theorem sum_bound {xs : List Int} (h : ∀ x ∈ xs, i64 x) : -(xs.length * 9223372036854775808 : Int) ≤ xs.sum ∧ xs.sum ≤ xs.length * 9223372036854775808 := by
 induction xs with
 | nil => simp
 | cons x r ih =>
   have h1 := h x (by simp)
   have h2 := ih fun y hy => h y (by simp [hy])
   unfold i64 at h1; rw [List.sum_cons, List.length_cons]; omega
theorem tfit_V {p : Int × Int} (hp : tin p) {s k : Int} (h : V p = s + k * 340282366920938463463374607431768211456) (hs1 : -85070591730234615865843651857942052864 ≤ s) (hs2 : s ≤ 85070591730234615865843651857942052864) :
   tfit p = if -9223372036854775808 ≤ s ∧ s < 9223372036854775808 then (s, 0) else (0, 10) := by
 unfold tin at hp; unfold V at h; unfold tfit tfits; rw [fdiv63, wrapU, w64]
 by_cases hc : -9223372036854775808 ≤ s ∧ s < 9223372036854775808
 · rw [if_pos hc]
   have e1 : (p.2 + 9223372036854775808) % 18446744073709551616 - 9223372036854775808 = s := by omega
   rw [e1, if_pos]; simp only [beq_iff_eq]; omega
 · rw [if_neg hc, if_neg]
   simp only [beq_iff_eq]; generalize hx : (p.2 + 9223372036854775808) % 18446744073709551616 - 9223372036854775808 = x; have : x / 9223372036854775808 = 0 ∨ x / 9223372036854775808 = -1 := by omega
   rcases this with e | e <;> rw [e] <;> omega
end Go.Proofs
end
