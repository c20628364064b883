/-
  Contracts of the functions over values.
  Contracts of small functions.
  Contracts: rows, sums.
  Contracts: products, reasons.
  Contracts: expressions: whether one is right.
  Contracts: expressions: types.
  Contracts: expressions: the type of one.
  Contracts: plans: whether one is right.
  Contracts: plans: the small functions over schemas.
  Contracts: plans: the judge's small functions.
  Contracts: plans: joined schemas, reduced schemas.
  Contracts: plans: reduced schemas.
  Plans: what the judge comes to, and plain facts of it.
  Plans: schemas are short where there is no fault.
  Plans: what is checked is right, all the way down.
  Plans: a check's measures.
-/
import Derived.Test.YtgkkoeodinlffaaProg
import Derived.Test.YtgkkoeodinlffaaFlatD
import Derived.KernelRfl
import Derived.Shelf.Bits.Mul64
section
set_option linter.unusedVariables false
set_option linter.unusedSimpArgs false
namespace Go.Proofs
open Go.Flat
set_option maxRecDepth 100000
@[simp] theorem ty2 : tyOf Try.prog 2 = some ⟨.int .i64, 1, 8, [.p (.v (.int .i64 0))]⟩ := by kernel_rfl
@[simp] theorem ty3 : tyOf Try.prog 3 = some ⟨.int .i64, 1, 8, [.p (.v (.int .i64 0))]⟩ := by kernel_rfl
@[simp] theorem ty4 : tyOf Try.prog 4 = some ⟨.bool, 1, 1, [.p (.v (.bool false))]⟩ := by kernel_rfl
@[simp] theorem ty5 : tyOf Try.prog 5 = some ⟨.int .u8, 1, 1, [.p (.v (.int .u8 0))]⟩ := by kernel_rfl
@[simp] theorem ty9 : tyOf Try.prog 9 = some ⟨.str, 1, 16, [.p (.v (.string ⟨#[]⟩))]⟩ := by kernel_rfl
@[simp] theorem ty12 : tyOf Try.prog 12 = some ⟨.int .u64, 1, 8, [.p (.v (.int .u64 0))]⟩ := by kernel_rfl
@[simp] theorem ty21 : tyOf Try.prog 21 = some ⟨.int .i32, 1, 4, [.p (.v (.int .i32 0))]⟩ := by kernel_rfl
@[simp] theorem ty22 : tyOf Try.prog 22 = some ⟨.int .u8, 1, 1, [.p (.v (.int .u8 0))]⟩ := by kernel_rfl
@[simp] theorem ty23 : tyOf Try.prog 23 = some ⟨.st [(4, 0), (2, 1), (9, 2)], 3, 32, [.p (.v (.bool false)), .p (.v (.int .i64 0)), .p (.v (.string ⟨#[]⟩))]⟩ := by kernel_rfl
@[simp] theorem ty24 : tyOf Try.prog 24 = some ⟨.st [(4, 0), (2, 1), (9, 2)], 3, 32, [.p (.v (.bool false)), .p (.v (.int .i64 0)), .p (.v (.string ⟨#[]⟩))]⟩ := by kernel_rfl
@[simp] theorem ty25 : tyOf Try.prog 25 = some ⟨.sl 27, 1, 24, [.psf []]⟩ := by kernel_rfl
@[simp] theorem ty26 : tyOf Try.prog 26 = some ⟨.st [(22, 0), (3, 1), (24, 2), (25, 5)], 6, 72, [.p (.v (.int .u8 0)), .p (.v (.int .i64 0)), .p (.v (.bool false)), .p (.v (.int .i64 0)), .p (.v (.string ⟨#[]⟩)), .psf []]⟩ := by kernel_rfl
@[simp] theorem ty27 : tyOf Try.prog 27 = some ⟨.st [(22, 0), (3, 1), (24, 2), (25, 5)], 6, 72, [.p (.v (.int .u8 0)), .p (.v (.int .i64 0)), .p (.v (.bool false)), .p (.v (.int .i64 0)), .p (.v (.string ⟨#[]⟩)), .psf []]⟩ := by kernel_rfl
@[simp] theorem ty28 : tyOf Try.prog 28 = some ⟨.sl 24, 1, 24, [.psf []]⟩ := by kernel_rfl
@[simp] theorem ty31 : tyOf Try.prog 31 = some ⟨.int .i64, 1, 8, [.p (.v (.int .i64 0))]⟩ := by kernel_rfl
@[simp] theorem ty40 : tyOf Try.prog 40 = some ⟨.sl 22, 1, 24, [.psf []]⟩ := by kernel_rfl
@[simp] theorem ty42 : tyOf Try.prog 42 = some ⟨.int .u8, 1, 1, [.p (.v (.int .u8 0))]⟩ := by kernel_rfl
@[simp] theorem ty45 : tyOf Try.prog 45 = some ⟨.sl 42, 1, 24, [.psf []]⟩ := by kernel_rfl
@[simp] theorem ty47 : tyOf Try.prog 47 = some ⟨.int .u8, 1, 1, [.p (.v (.int .u8 0))]⟩ := by kernel_rfl
@[simp] theorem ty48 : tyOf Try.prog 48 = some ⟨.sl 52, 1, 24, [.psf []]⟩ := by kernel_rfl
@[simp] theorem ty49 : tyOf Try.prog 49 = some ⟨.sl 3, 1, 24, [.psf []]⟩ := by kernel_rfl
@[simp] theorem ty50 : tyOf Try.prog 50 = some ⟨.int .u8, 1, 1, [.p (.v (.int .u8 0))]⟩ := by kernel_rfl
@[simp] theorem ty51 : tyOf Try.prog 51 = some ⟨.st [(47, 0), (3, 1), (48, 2), (25, 3), (49, 4), (49, 5), (50, 6), (3, 7)], 8, 128, [.p (.v (.int .u8 0)), .p (.v (.int .i64 0)), .psf [], .psf [], .psf [], .psf [], .p (.v (.int .u8 0)), .p (.v (.int .i64 0))]⟩ := by kernel_rfl
@[simp] theorem ty52 : tyOf Try.prog 52 = some ⟨.st [(47, 0), (3, 1), (48, 2), (25, 3), (49, 4), (49, 5), (50, 6), (3, 7)], 8, 128, [.p (.v (.int .u8 0)), .p (.v (.int .i64 0)), .psf [], .psf [], .psf [], .psf [], .p (.v (.int .u8 0)), .p (.v (.int .i64 0))]⟩ := by kernel_rfl
@[simp] theorem ty53 : tyOf Try.prog 53 = some ⟨.sl 45, 1, 24, [.psf []]⟩ := by kernel_rfl
@[simp] theorem ty63 : tyOf Try.prog 63 = some ⟨.sl 75, 1, 24, [.psf []]⟩ := by kernel_rfl
@[simp] theorem ty72 : tyOf Try.prog 72 = some ⟨.int .u8, 1, 1, [.p (.v (.int .u8 0))]⟩ := by kernel_rfl
@[simp] theorem ty73 : tyOf Try.prog 73 = some ⟨.sl 77, 1, 24, [.psf []]⟩ := by kernel_rfl
@[simp] theorem ty74 : tyOf Try.prog 74 = some ⟨.st [(72, 0), (52, 1), (3, 9), (3, 10), (3, 11), (73, 12), (73, 13)], 14, 208, [.p (.v (.int .u8 0)), .p (.v (.int .u8 0)), .p (.v (.int .i64 0)), .psf [], .psf [], .psf [], .psf [], .p (.v (.int .u8 0)), .p (.v (.int .i64 0)), .p (.v (.int .i64 0)), .p (.v (.int .i64 0)), .p (.v (.int .i64 0)), .psf [], .psf []]⟩ := by kernel_rfl
@[simp] theorem ty75 : tyOf Try.prog 75 = some ⟨.st [(72, 0), (52, 1), (3, 9), (3, 10), (3, 11), (73, 12), (73, 13)], 14, 208, [.p (.v (.int .u8 0)), .p (.v (.int .u8 0)), .p (.v (.int .i64 0)), .psf [], .psf [], .psf [], .psf [], .p (.v (.int .u8 0)), .p (.v (.int .i64 0)), .p (.v (.int .i64 0)), .p (.v (.int .i64 0)), .p (.v (.int .i64 0)), .psf [], .psf []]⟩ := by kernel_rfl
@[simp] theorem ty76 : tyOf Try.prog 76 = some ⟨.st [(3, 0), (3, 1)], 2, 16, [.p (.v (.int .i64 0)), .p (.v (.int .i64 0))]⟩ := by kernel_rfl
@[simp] theorem ty77 : tyOf Try.prog 77 = some ⟨.st [(3, 0), (3, 1)], 2, 16, [.p (.v (.int .i64 0)), .p (.v (.int .i64 0))]⟩ := by kernel_rfl
@[simp] theorem ty78 : tyOf Try.prog 78 = some ⟨.sl 92, 1, 24, [.psf []]⟩ := by kernel_rfl
@[simp] theorem ty79 : tyOf Try.prog 79 = some ⟨.int .u64, 1, 8, [.p (.v (.int .u64 0))]⟩ := by kernel_rfl
@[simp] theorem ty80 : tyOf Try.prog 80 = some ⟨.arr 2 79, 2, 16, [.p (.v (.int .u64 0)), .p (.v (.int .u64 0))]⟩ := by kernel_rfl
@[simp] theorem ty81 : tyOf Try.prog 81 = some ⟨.st [(79, 0), (80, 1)], 3, 24, [.p (.v (.int .u64 0)), .p (.v (.int .u64 0)), .p (.v (.int .u64 0))]⟩ := by kernel_rfl
@[simp] theorem ty82 : tyOf Try.prog 82 = some ⟨.st [(79, 0), (80, 1)], 3, 24, [.p (.v (.int .u64 0)), .p (.v (.int .u64 0)), .p (.v (.int .u64 0))]⟩ := by kernel_rfl
@[simp] theorem ty91 : tyOf Try.prog 91 = some ⟨.st [(28, 0), (28, 1), (82, 2), (2, 5)], 6, 80, [.psf [], .psf [], .p (.v (.int .u64 0)), .p (.v (.int .u64 0)), .p (.v (.int .u64 0)), .p (.v (.int .i64 0))]⟩ := by kernel_rfl
@[simp] theorem ty92 : tyOf Try.prog 92 = some ⟨.st [(28, 0), (28, 1), (82, 2), (2, 5)], 6, 80, [.psf [], .psf [], .p (.v (.int .u64 0)), .p (.v (.int .u64 0)), .p (.v (.int .u64 0)), .p (.v (.int .i64 0))]⟩ := by kernel_rfl
@[simp] theorem ty95 : tyOf Try.prog 95 = some ⟨.sl 175, 1, 24, [.psf []]⟩ := by kernel_rfl
@[simp] theorem ty101 : tyOf Try.prog 101 = some ⟨.st [(3, 0), (3, 1), (4, 2)], 3, 24, [.p (.v (.int .i64 0)), .p (.v (.int .i64 0)), .p (.v (.bool false))]⟩ := by kernel_rfl
@[simp] theorem ty102 : tyOf Try.prog 102 = some ⟨.st [(3, 0), (3, 1), (4, 2)], 3, 24, [.p (.v (.int .i64 0)), .p (.v (.int .i64 0)), .p (.v (.bool false))]⟩ := by kernel_rfl
@[simp] theorem ty105 : tyOf Try.prog 105 = some ⟨.ptr 109, 1, 8, [.p (.v (.pointer none))]⟩ := by kernel_rfl
@[simp] theorem ty106 : tyOf Try.prog 106 = some ⟨.st [(31, 0)], 1, 8, [.p (.v (.int .i64 0))]⟩ := by kernel_rfl
@[simp] theorem ty107 : tyOf Try.prog 107 = some ⟨.st [(31, 0)], 1, 8, [.p (.v (.int .i64 0))]⟩ := by kernel_rfl
@[simp] theorem ty108 : tyOf Try.prog 108 = some ⟨.st [(107, 0), (28, 1)], 2, 32, [.p (.v (.int .i64 0)), .psf []]⟩ := by kernel_rfl
@[simp] theorem ty109 : tyOf Try.prog 109 = some ⟨.st [(107, 0), (28, 1)], 2, 32, [.p (.v (.int .i64 0)), .psf []]⟩ := by kernel_rfl
@[simp] theorem ty111 : tyOf Try.prog 111 = some ⟨.ptr 113, 1, 8, [.p (.v (.pointer none))]⟩ := by kernel_rfl
@[simp] theorem ty112 : tyOf Try.prog 112 = some ⟨.st [(107, 0), (45, 1)], 2, 32, [.p (.v (.int .i64 0)), .psf []]⟩ := by kernel_rfl
@[simp] theorem ty113 : tyOf Try.prog 113 = some ⟨.st [(107, 0), (45, 1)], 2, 32, [.p (.v (.int .i64 0)), .psf []]⟩ := by kernel_rfl
@[simp] theorem ty117 : tyOf Try.prog 117 = some ⟨.ptr 121, 1, 8, [.p (.v (.pointer none))]⟩ := by kernel_rfl
@[simp] theorem ty118 : tyOf Try.prog 118 = some ⟨.st [(31, 0)], 1, 8, [.p (.v (.int .i64 0))]⟩ := by kernel_rfl
@[simp] theorem ty119 : tyOf Try.prog 119 = some ⟨.st [(31, 0)], 1, 8, [.p (.v (.int .i64 0))]⟩ := by kernel_rfl
@[simp] theorem ty120 : tyOf Try.prog 120 = some ⟨.st [(119, 0), (53, 1), (53, 2)], 3, 56, [.p (.v (.int .i64 0)), .psf [], .psf []]⟩ := by kernel_rfl
@[simp] theorem ty121 : tyOf Try.prog 121 = some ⟨.st [(119, 0), (53, 1), (53, 2)], 3, 56, [.p (.v (.int .i64 0)), .psf [], .psf []]⟩ := by kernel_rfl
@[simp] theorem ty128 : tyOf Try.prog 128 = some ⟨.st [(3, 0), (3, 1), (3, 2), (4, 3), (4, 4)], 5, 32, [.p (.v (.int .i64 0)), .p (.v (.int .i64 0)), .p (.v (.int .i64 0)), .p (.v (.bool false)), .p (.v (.bool false))]⟩ := by kernel_rfl
@[simp] theorem ty129 : tyOf Try.prog 129 = some ⟨.st [(3, 0), (3, 1), (3, 2), (4, 3), (4, 4)], 5, 32, [.p (.v (.int .i64 0)), .p (.v (.int .i64 0)), .p (.v (.int .i64 0)), .p (.v (.bool false)), .p (.v (.bool false))]⟩ := by kernel_rfl
@[simp] theorem ty131 : tyOf Try.prog 131 = some ⟨.ptr 134, 1, 8, [.p (.v (.pointer none))]⟩ := by kernel_rfl
@[simp] theorem ty132 : tyOf Try.prog 132 = some ⟨.sl 75, 1, 24, [.psf []]⟩ := by kernel_rfl
@[simp] theorem ty133 : tyOf Try.prog 133 = some ⟨.st [(132, 0), (49, 1)], 2, 48, [.psf [], .psf []]⟩ := by kernel_rfl
@[simp] theorem ty134 : tyOf Try.prog 134 = some ⟨.st [(132, 0), (49, 1)], 2, 48, [.psf [], .psf []]⟩ := by kernel_rfl
@[simp] theorem ty147 : tyOf Try.prog 147 = some ⟨.other, 1, 8, [.p (.v (.map none))]⟩ := by kernel_rfl
@[simp] theorem ty148 : tyOf Try.prog 148 = some ⟨.ptr 152, 1, 8, [.p (.v (.pointer none))]⟩ := by kernel_rfl
@[simp] theorem ty149 : tyOf Try.prog 149 = some ⟨.st [(4, 0), (82, 1)], 4, 32, [.p (.v (.bool false)), .p (.v (.int .u64 0)), .p (.v (.int .u64 0)), .p (.v (.int .u64 0))]⟩ := by kernel_rfl
@[simp] theorem ty150 : tyOf Try.prog 150 = some ⟨.st [(4, 0), (82, 1)], 4, 32, [.p (.v (.bool false)), .p (.v (.int .u64 0)), .p (.v (.int .u64 0)), .p (.v (.int .u64 0))]⟩ := by kernel_rfl
@[simp] theorem ty151 : tyOf Try.prog 151 = some ⟨.st [(150, 0), (78, 4)], 5, 56, [.p (.v (.bool false)), .p (.v (.int .u64 0)), .p (.v (.int .u64 0)), .p (.v (.int .u64 0)), .psf []]⟩ := by kernel_rfl
@[simp] theorem ty152 : tyOf Try.prog 152 = some ⟨.st [(150, 0), (78, 4)], 5, 56, [.p (.v (.bool false)), .p (.v (.int .u64 0)), .p (.v (.int .u64 0)), .p (.v (.int .u64 0)), .psf []]⟩ := by kernel_rfl
@[simp] theorem ty158 : tyOf Try.prog 158 = some ⟨.sl 78, 1, 24, [.psf []]⟩ := by kernel_rfl
@[simp] theorem ty174 : tyOf Try.prog 174 = some ⟨.st [(28, 0), (2, 1)], 2, 32, [.psf [], .p (.v (.int .i64 0))]⟩ := by kernel_rfl
@[simp] theorem ty175 : tyOf Try.prog 175 = some ⟨.st [(28, 0), (2, 1)], 2, 32, [.psf [], .p (.v (.int .i64 0))]⟩ := by kernel_rfl
@[simp] theorem ty177 : tyOf Try.prog 177 = some ⟨.ptr 102, 1, 8, [.p (.v (.pointer none))]⟩ := by kernel_rfl
@[simp] theorem ty194 : tyOf Try.prog 194 = some ⟨.ptr 129, 1, 8, [.p (.v (.pointer none))]⟩ := by kernel_rfl
@[simp] theorem ty196 : tyOf Try.prog 196 = some ⟨.ptr 132, 1, 8, [.p (.v (.pointer none))]⟩ := by kernel_rfl
@[simp] theorem ty198 : tyOf Try.prog 198 = some ⟨.ptr 75, 1, 8, [.p (.v (.pointer none))]⟩ := by kernel_rfl
@[simp] theorem ty207 : tyOf Try.prog 207 = some ⟨.ptr 150, 1, 8, [.p (.v (.pointer none))]⟩ := by kernel_rfl
@[simp] theorem ty211 : tyOf Try.prog 211 = some ⟨.sl 215, 1, 24, [.psf []]⟩ := by kernel_rfl
@[simp] theorem ty212 : tyOf Try.prog 212 = some ⟨.st [(79, 0), (79, 1)], 2, 16, [.p (.v (.int .u64 0)), .p (.v (.int .u64 0))]⟩ := by kernel_rfl
@[simp] theorem ty213 : tyOf Try.prog 213 = some ⟨.st [(79, 0), (79, 1)], 2, 16, [.p (.v (.int .u64 0)), .p (.v (.int .u64 0))]⟩ := by kernel_rfl
@[simp] theorem ty214 : tyOf Try.prog 214 = some ⟨.st [(213, 0), (92, 2)], 8, 96, [.p (.v (.int .u64 0)), .p (.v (.int .u64 0)), .psf [], .psf [], .p (.v (.int .u64 0)), .p (.v (.int .u64 0)), .p (.v (.int .u64 0)), .p (.v (.int .i64 0))]⟩ := by kernel_rfl
@[simp] theorem ty215 : tyOf Try.prog 215 = some ⟨.st [(213, 0), (92, 2)], 8, 96, [.p (.v (.int .u64 0)), .p (.v (.int .u64 0)), .psf [], .psf [], .p (.v (.int .u64 0)), .p (.v (.int .u64 0)), .p (.v (.int .u64 0)), .p (.v (.int .i64 0))]⟩ := by kernel_rfl
@[simp] theorem ty225 : tyOf Try.prog 225 = some ⟨.sl 82, 1, 24, [.psf []]⟩ := by kernel_rfl
@[simp] theorem ty227 : tyOf Try.prog 227 = some ⟨.sl 79, 1, 24, [.psf []]⟩ := by kernel_rfl
@[simp] theorem ty228 : tyOf Try.prog 228 = some ⟨.sl 31, 1, 24, [.psf []]⟩ := by kernel_rfl
@[simp] theorem ty235 : tyOf Try.prog 235 = some ⟨.ptr 107, 1, 8, [.p (.v (.pointer none))]⟩ := by kernel_rfl
@[simp] theorem ty243 : tyOf Try.prog 243 = some ⟨.ptr 119, 1, 8, [.p (.v (.pointer none))]⟩ := by kernel_rfl
@[simp] theorem ty255 : tyOf Try.prog 255 = some ⟨.sl 47, 1, 24, [.psf []]⟩ := by kernel_rfl
@[simp] theorem ty262 : tyOf Try.prog 262 = some ⟨.ptr 213, 1, 8, [.p (.v (.pointer none))]⟩ := by kernel_rfl
@[simp] theorem ty264 : tyOf Try.prog 264 = some ⟨.int .u64, 1, 8, [.p (.v (.int .u64 0))]⟩ := by kernel_rfl
@[simp] theorem ty269 : tyOf Try.prog 269 = some ⟨.sl 271, 1, 24, [.psf []]⟩ := by kernel_rfl
@[simp] theorem ty270 : tyOf Try.prog 270 = some ⟨.st [(213, 0), (175, 2)], 4, 48, [.p (.v (.int .u64 0)), .p (.v (.int .u64 0)), .psf [], .p (.v (.int .i64 0))]⟩ := by kernel_rfl
@[simp] theorem ty271 : tyOf Try.prog 271 = some ⟨.st [(213, 0), (175, 2)], 4, 48, [.p (.v (.int .u64 0)), .p (.v (.int .u64 0)), .psf [], .p (.v (.int .i64 0))]⟩ := by kernel_rfl
@[simp] theorem ty275 : tyOf Try.prog 275 = some ⟨.sl 2, 1, 24, [.psf []]⟩ := by kernel_rfl
@[simp] theorem ty295 : tyOf Try.prog 295 = some ⟨.int .u32, 1, 4, [.p (.v (.int .u32 0))]⟩ := by kernel_rfl
@[simp] theorem ty299 : tyOf Try.prog 299 = some ⟨.ptr 5, 1, 8, [.p (.v (.pointer none))]⟩ := by kernel_rfl
@[simp] theorem ty124 : tyOf Try.prog 124 = some ⟨.fn, 1, 8, [.p (.v .nilFunc)]⟩ := by kernel_rfl
@[simp] theorem ty127 : tyOf Try.prog 127 = some ⟨.fn, 1, 8, [.p (.v .nilFunc)]⟩ := by kernel_rfl
end Go.Proofs
end
section
set_option linter.unusedVariables false
set_option linter.unusedSimpArgs false
namespace Go.Proofs
open Go.Flat
set_option maxRecDepth 100000
set_option linter.unusedSimpArgs false
set_option linter.unusedVariables false
attribute [local simp] Bool.and_assoc Bool.or_assoc evalG evalX efD skF guardG guardL isCall stepL evalOp ev evs lk tmpsL app AV.ok fresh vv putCells insV ins del putL place Go.Flat.look fillC fillR getCells loadF storeF binF scalarBin intBin strBin isShift shiftBin unF lenF maxF minF rowsF appendF builtinF idxF natOf sliceP sliceF optEv Flat.cut overwrite toPV toPVs constAV scalarC scalarCs AV.cells TI.isAgg allSome andAll scalarEq buildable Go.Flat.lim retQ resL resAll resOne PartOf noTmp closedIn refs refs.refsL isSomeV hasB ids leA leA.leL renA renA.renL callB refsAll backL dropIds renS LiesAt injB ownB freshB memN locId insAll leA_refl leL_refl okS frzS frzA frzA.frzL evalD feet fine updCells cellsFrom memP footRf footWf noTmpU updIds opOps opIds idsA footR footW guardTs opTs dstTs callR callW renLoc renC inBlockQ thenQ Value.oneCell' IntKind.bits IntKind.signed
@[simp] theorem wrap64_1 : IntKind.i64.wrap 1 = 1 := rfl
@[simp] theorem wrap64_2 : IntKind.i64.wrap 2 = 2 := rfl
@[simp] theorem wrap64_3 : IntKind.i64.wrap 3 = 3 := rfl
@[simp] theorem wrap64_4 : IntKind.i64.wrap 4 = 4 := rfl
structure Val where
  t : Bool
  n : Int
  s : ByteArray
def Val.row (v : Val) : List PV := [.v (.bool v.t), .v (.int .i64 v.n), .v (.string v.s)]
@[simp] theorem Val.row_len (v : Val) : v.row.length = 3 := rfl
def Val.av (v : Val) : AV := .agg [vv (.bool v.t), vv (.int .i64 v.n), vv (.string v.s)]
def Val.right (v : Val) : Bool := if v.t then v.n == 0 && decide ((v.s.size : Int) ≤ 64) else v.s.toList == []

attribute [local simp] Val.av in
theorem spec103 (v : Val) : Flat.Sp Try.prog 103 [v.av] [] (vv (.bool v.right)) [] := by
  refine sk Try.func103 ?_
  intro F G hn hG
  refine sq ?_
  refine rg 1000 ?_
  refine pr [1, 17] ?_
  refine sq ?_
  refine sq ?_
  refine rg 2000 ?_
  refine pr [1, 3, 4, 17] ?_
  refine cd ?_ ?_
  · intro h4_1
    refine sq ?_
    refine rc 3000 ?_
    iterate 4 (first | refine gp 3350 ?_ | refine os ?_ | refine gt 3350 ?_)
    refine oe 3400 ?_
    refine on ?_
    refine pr [1, 3, 14, 17] ?_
    refine k_ret ?_
    show retQ _ _ _ _ _ _ _
    simp [*, Val.right]
  · intro h4_1
    refine k_skip ?_
    refine sq ?_
    refine rg 4000 ?_
    refine pr [2, 3] ?_
    refine k_ret ?_
    show retQ _ _ _ _ _ _ _
    simp [*, Val.right]

attribute [local simp] Val.av in
theorem spec102 (v : Val) : Flat.Sp Try.prog 102 [v.av] [] (vv (.bool (!v.right))) [] := by
  refine sk Try.func102 ?_
  intro F G hn hG
  refine sq ?_
  refine rg 1000 ?_
  refine pr [1, 6] ?_
  refine sq ?_
  refine rc 2000 ?_
  refine oc id (spec103 v) ?_
  refine oe 2100 ?_
  refine on ?_
  refine pr [2, 3] ?_
  refine k_ret ?_
  show retQ _ _ _ _ _ _ _
  simp [*]

theorem wrap_succ {i : Nat} (h : i < Flat.lim) : IntKind.i64.wrap ((i : Int) + 1) = (i : Int) + 1 := by
  have := Flat.wrap_small (n := i + 1) (by omega)
  rwa [show ((i + 1 : Nat) : Int) = (i : Int) + 1 by simp] at this
theorem tmap_succ {α β : Type} {f : α → β} {xs : List α} {i : Nat} {x : α} (h : xs[i]? = some x) : (xs.map f).take (i + 1) = (xs.map f).take i ++ [f x] := by
  rw [List.take_add_one, List.getElem?_map, h]; rfl
theorem tmap_all {α β : Type} {f : α → β} {xs : List α} {n : Nat} (h : xs.length ≤ n) : (xs.map f).take n = xs.map f := List.take_of_length_le (by simpa using h)
/-- Where the first wrong value stands. -/
def firstBad : List Val → Nat → Int
  | [], _ => -1
  | v :: r, i => if v.right then firstBad r (i + 1) else i
theorem firstBad_drop {xs : List Val} {i : Nat} {x : Val} (h : xs[i]? = some x) : firstBad (xs.drop i) i = if x.right then firstBad (xs.drop (i + 1)) (i + 1) else i := by
  obtain ⟨h1, h2⟩ := List.getElem?_eq_some_iff.1 h
  rw [List.drop_eq_getElem_cons h1, h2]
  rfl

attribute [local simp] Val.row Val.av in
theorem spec157 (xs : List Val) (hlen : xs.length ≤ Flat.lim) : Flat.Sp Try.prog 157 [.p (.ps (xs.map Val.row)), .fn (.func 102) []] [] (vv (.int .i64 (firstBad xs 0))) [] := by
  refine sk Try.func157 ?_
  intro F G hn hG
  refine sq ?_
  refine rg 1000 ?_
  refine pr [0, 2, 4, 19] ?_
  refine sq ?_
  refine sq ?_
  refine rg 2000 ?_
  refine pr [0, 2, 4, 6, 7, 19] ?_
  refine k_block ?_
  refine k_loop (fun n l => ∃ i, i + n = xs.length ∧ (firstBad xs 0 = firstBad (xs.drop i) i) ∧ l = [(.tmp 0, .av (.p (.ps (xs.map Val.row)))), (.tmp 1, .av (.fn (.func 102) [])), (.tmp 7, .av (vv (.int .i64 xs.length))), (.tmp 8, .av (vv (.int .i64 i)))]) (xs.length) hG ⟨_, ⟨by simp, by simp, by simp⟩, 0, by simp, rfl, rfl⟩ ?_
  rintro n _ ⟨i, hin, hfa, rfl⟩
  have hwi : i < Flat.lim → IntKind.i64.wrap ((i : Int) + 1) = (i : Int) + 1 := wrap_succ
  refine sq ?_
  refine rg 3000 ?_
  refine pr [0, 2, 4, 6, 7, 19] ?_
  refine sq ?_
  refine cd ?_ ?_
  · intro h9_1
    have hlt : i < xs.length := by simpa using h9_1
    obtain ⟨x, hxe⟩ : ∃ x, xs[i] = x := ⟨_, rfl⟩
    have hx : xs[i]? = some x := by simp [hlt, hxe]
    have hfd := firstBad_drop hx
    have hwi := hwi (by omega)
    refine k_skip ?_
    refine sq ?_
    refine k_block ?_
    refine sq ?_
    refine rg 4000 ?_
    refine pr [0, 2, 4, 6, 7, 19] ?_
    refine sq ?_
    refine rc 5000 ?_
    refine oc id (spec102 x) ?_
    refine on ?_
    refine pr [0, 2, 4, 6, 7, 19] ?_
    refine cd ?_ ?_
    · intro h16_2
      have hr : x.right = false := by simpa using h16_2
      refine sq ?_
      refine rg 6000 ?_
      refine pr [0, 2, 4, 6, 7, 19] ?_
      refine k_ret ?_
      show retQ _ _ _ _ _ _ _
      simp [*]
    · intro h16_2
      have hr : x.right = true := by simpa using h16_2
      refine k_skip ?_
      refine k_nil ?_
      show AK _ _ _ _ _ _
      refine rg 7000 ?_
      refine k_nil ?_
      refine ⟨n - 1, by omega, _, ⟨?_, ?_, ?_⟩, i + 1, by omega, by rw [hfa, hfd, hr, if_pos rfl], rfl⟩ <;> simp [*]
  · intro h9_1
    have hge : xs.length ≤ i := by simpa using h9_1
    have hfe : firstBad (xs.drop i) i = -1 := by rw [List.drop_eq_nil_of_le hge]; rfl
    refine k_exit ?_
    show AK _ _ _ _ _ _
    refine sq ?_
    refine rg 8000 ?_
    refine pr [4, 5] ?_
    refine k_ret ?_
    show retQ _ _ _ _ _ _ _
    simp [*]

end Go.Proofs
end
section
set_option linter.unusedVariables false
set_option linter.unusedSimpArgs false
namespace Go.Proofs
open Go.Flat
set_option maxRecDepth 100000
set_option linter.unusedSimpArgs false
set_option linter.unusedVariables false
attribute [local simp] Bool.and_assoc Bool.or_assoc evalG evalX efD skF guardG guardL isCall stepL evalOp ev evs lk tmpsL app AV.ok fresh vv putCells insV ins del putL place Go.Flat.look fillC fillR getCells loadF storeF binF scalarBin intBin strBin isShift shiftBin unF lenF maxF minF rowsF appendF builtinF idxF natOf sliceP sliceF optEv Flat.cut overwrite toPV toPVs constAV scalarC scalarCs AV.cells TI.isAgg allSome andAll scalarEq buildable Go.Flat.lim retQ resL resAll resOne PartOf noTmp closedIn refs refs.refsL isSomeV hasB ids leA leA.leL renA renA.renL callB refsAll backL dropIds renS LiesAt injB ownB freshB memN locId insAll leA_refl leL_refl okS frzS frzA frzA.frzL evalD feet fine updCells cellsFrom memP footRf footWf noTmpU updIds opOps opIds idsA footR footW guardTs opTs dstTs callR callW renLoc renC inBlockQ thenQ Value.oneCell' IntKind.bits IntKind.signed

theorem spec101 (xs : List Val) (hlen : xs.length ≤ Flat.lim) : Flat.Sp Try.prog 101 [.p (.ps (xs.map Val.row)), .fn (.func 102) []] [] (vv (.bool (decide (0 ≤ firstBad xs 0)))) [] := by
  refine sk Try.func101 ?_
  intro F G hn hG
  refine sq ?_
  refine rg 1000 ?_
  refine pr [0, 2, 4, 9] ?_
  refine sq ?_
  refine rc 2000 ?_
  refine oc id (spec157 xs hlen) ?_
  refine oe 2100 ?_
  refine on ?_
  refine pr [4, 5] ?_
  refine k_ret ?_
  show retQ _ _ _ _ _ _ _
  simp [*]

def tOf (v : Val) : Int := if v.t then 2 else 1

attribute [local simp] Val.av tOf in
theorem spec57 (v : Val) : Flat.Sp Try.prog 57 [v.av] [] (vv (.int .u8 (tOf v))) [] := by
  refine sk Try.func57 ?_
  intro F G hn hG
  refine sq ?_
  refine rg 1000 ?_
  refine pr [1, 5] ?_
  refine sq ?_
  refine sq ?_
  refine rg 2000 ?_
  refine pr [2, 3, 4, 5] ?_
  refine cd ?_ ?_
  · intro h4_1
    refine sq ?_
    refine rg 3000 ?_
    refine pr [2, 3] ?_
    refine k_ret ?_
    show retQ _ _ _ _ _ _ _
    simp [*]
  · intro h4_1
    refine k_skip ?_
    refine sq ?_
    refine rg 4000 ?_
    refine pr [2, 3] ?_
    refine k_ret ?_
    show retQ _ _ _ _ _ _ _
    simp [*]

end Go.Proofs
end
section
set_option linter.unusedVariables false
set_option linter.unusedSimpArgs false
namespace Go.Proofs
open Go.Flat
set_option maxRecDepth 100000
set_option linter.unusedSimpArgs false
set_option linter.unusedVariables false
attribute [local simp] Bool.and_assoc Bool.or_assoc evalG evalX efD skF guardG guardL isCall stepL evalOp ev evs lk tmpsL app AV.ok fresh vv putCells insV ins del putL place Go.Flat.look fillC fillR getCells loadF storeF binF scalarBin intBin strBin isShift shiftBin unF lenF maxF minF rowsF appendF builtinF idxF natOf sliceP sliceF optEv Flat.cut overwrite toPV toPVs constAV scalarC scalarCs AV.cells TI.isAgg allSome andAll scalarEq buildable Go.Flat.lim retQ resL resAll resOne PartOf noTmp closedIn refs refs.refsL isSomeV hasB ids leA leA.leL renA renA.renL callB refsAll backL dropIds renS LiesAt injB ownB freshB memN locId insAll leA_refl leL_refl okS frzS frzA frzA.frzL evalD feet fine updCells cellsFrom memP footRf footWf noTmpU updIds opOps opIds idsA footR footW guardTs opTs dstTs callR callW renLoc renC inBlockQ thenQ Value.oneCell' IntKind.bits IntKind.signed

/-- Why a row is none. -/
def badRow (xs : List Val) : Bool := decide ((8 : Int) < xs.length) || decide (0 ≤ firstBad xs 0)
def checkRow (xs : List Val) : Int := if badRow xs then 4 else 0

attribute [local simp] checkRow badRow in
theorem spec54 (xs : List Val) (hlen : xs.length ≤ Flat.lim) : Flat.Sp Try.prog 54 [.p (.ps (xs.map Val.row))] [] (vv (.int .i64 (checkRow xs))) [] := by
  refine sk Try.func54 ?_
  intro F G hn hG
  refine sq ?_
  refine rg 1000 ?_
  refine pr [0, 1, 2, 10] ?_
  refine sq ?_
  refine sq ?_
  refine rc 2000 ?_
  first | refine gp 2050 ?_ | refine os ?_ | refine gt 2050 ?_
  refine og (fun hg => spec101 xs hlen) ?_
  refine oe 2200 ?_
  refine on ?_
  refine pr [2, 3, 9, 10] ?_
  refine cd ?_ ?_
  · intro h9_1
    refine sq ?_
    refine rg 3000 ?_
    refine pr [2, 3] ?_
    refine k_ret ?_
    show retQ _ _ _ _ _ _ _
    simp [*]
  · intro h9_1
    refine k_skip ?_
    refine sq ?_
    refine rg 4000 ?_
    refine pr [2, 3] ?_
    refine k_ret ?_
    show retQ _ _ _ _ _ _ _
    simp [*]

def irow (n : Int) : List PV := [.v (.int .i64 n)]
end Go.Proofs
end
section
set_option linter.unusedVariables false
set_option linter.unusedSimpArgs false
namespace Go.Proofs
open Go.Flat
set_option maxRecDepth 100000
set_option linter.unusedSimpArgs false
set_option linter.unusedVariables false
attribute [local simp] Bool.and_assoc Bool.or_assoc evalG evalX efD skF guardG guardL isCall stepL evalOp ev evs lk tmpsL app AV.ok fresh vv putCells insV ins del putL place Go.Flat.look fillC fillR getCells loadF storeF binF scalarBin intBin strBin isShift shiftBin unF lenF maxF minF rowsF appendF builtinF idxF natOf sliceP sliceF optEv Flat.cut overwrite toPV toPVs constAV scalarC scalarCs AV.cells TI.isAgg allSome andAll scalarEq buildable Go.Flat.lim retQ resL resAll resOne PartOf noTmp closedIn refs refs.refsL isSomeV hasB ids leA leA.leL renA renA.renL callB refsAll backL dropIds renS LiesAt injB ownB freshB memN locId insAll leA_refl leL_refl okS frzS frzA frzA.frzL evalD feet fine updCells cellsFrom memP footRf footWf noTmpU updIds opOps opIds idsA footR footW guardTs opTs dstTs callR callW renLoc renC inBlockQ thenQ Value.oneCell' IntKind.bits IntKind.signed
def unlessF (f : Int) (ok : Bool) (why : Int) : Int := if (f == 0) && !ok then why else f

theorem spec104 (f : Int) (q : PV) (ok : Bool) (why : Int) : Flat.Sp Try.prog 104 [.ptr 0 0, vv (.bool ok), vv (.int .i64 why)] [(.var 0, .n 2), (.cell 0 0, .av (vv (.int .i64 f))), (.cell 0 1, .av (.p q))] (.tup []) [(.var 0, .n 2), (.cell 0 0, .av (vv (.int .i64 (unlessF f ok why)))), (.cell 0 1, .av (.p q))] := by
  refine sk Try.func104 ?_
  intro F G hn hG
  refine sq ?_
  refine cv [(.tmp 14, vv (.bool ((f == 0) && !ok)))] ?_ ?_
  · skip
    rcases h0 : (f == 0 : Bool) with _ | _
    · skip
      refine rc 1000 ?_
      iterate 2 (first | refine gp 1150 ?_ | refine os ?_ | refine gt 1150 ?_)
      refine oe 1200 ?_
      refine on ?_
      refine k_nil ?_
      refine ⟨rfl, ?_, ?_, ?_⟩ <;> simp [*]
    · skip
      refine rc 1001000 ?_
      iterate 2 (first | refine gp 1001150 ?_ | refine os ?_ | refine gt 1001150 ?_)
      refine oe 1001200 ?_
      refine on ?_
      refine k_nil ?_
      refine ⟨rfl, ?_, ?_, ?_⟩ <;> simp [*]
  refine pr [0, 1, 2, 3, 14, 19] ?_
  refine cd ?_ ?_
  · intro h14_1
    refine rg 2000 ?_
    refine k_nil ?_
    show retQ _ _ _ _ _ _ _
    simp [*, unlessF]
  · intro h14_1
    refine k_skip ?_
    refine k_nil ?_
    show retQ _ _ _ _ _ _ _
    simp [*, unlessF]

def kidsOf (o : Int) : Int := if o == 1 then 0 else if o == 2 then 0 else if o == 6 then 1 else if o == 11 then 1 else if o == 12 then 3 else 2

attribute [local simp] kidsOf in
theorem spec100 (o : Int) : Flat.Sp Try.prog 100 [vv (.int .u8 o)] [] (vv (.int .i64 (kidsOf o))) [] := by
  refine sk Try.func100 ?_
  intro F G hn hG
  refine sq ?_
  refine rg 1000 ?_
  refine pr [0, 1, 2, 12] ?_
  refine sq ?_
  refine sq ?_
  refine rg 2000 ?_
  refine pr [2, 12] ?_
  refine k_block ?_
  refine sq ?_
  refine sq ?_
  refine rg 3000 ?_
  refine pr [2, 5, 6, 12] ?_
  refine cd ?_ ?_
  · intro h4_1
    refine k_skip ?_
    refine ct ?_
    refine sq ?_
    refine rg 5000 ?_
    refine pr [2, 3] ?_
    refine k_ret ?_
    show retQ _ _ _ _ _ _ _
    simp [*]
  · intro h4_1
    refine rg 4000 ?_
    refine pr [2, 5, 7, 12] ?_
    refine cd ?_ ?_
    · intro h4_2
      refine sq ?_
      refine rg 5000 ?_
      refine pr [2, 3] ?_
      refine k_ret ?_
      show retQ _ _ _ _ _ _ _
      simp [*]
    · intro h4_2
      refine sq ?_
      refine sq ?_
      refine rg 6000 ?_
      refine pr [2, 4, 7, 8, 9, 12] ?_
      refine cd ?_ ?_
      · intro h7_3
        refine k_skip ?_
        refine ct ?_
        refine sq ?_
        refine rg 8000 ?_
        refine pr [2, 3] ?_
        refine k_ret ?_
        show retQ _ _ _ _ _ _ _
        simp [*]
      · intro h7_3
        refine rg 7000 ?_
        refine pr [2, 4, 7, 8, 10, 12] ?_
        refine cd ?_ ?_
        · intro h7_4
          refine sq ?_
          refine rg 8000 ?_
          refine pr [2, 3] ?_
          refine k_ret ?_
          show retQ _ _ _ _ _ _ _
          simp [*]
        · intro h7_4
          refine sq ?_
          refine rg 9000 ?_
          refine pr [2, 3, 10, 11] ?_
          refine cd ?_ ?_
          · intro h10_5
            refine sq ?_
            refine rg 10000 ?_
            refine pr [2, 3] ?_
            refine k_ret ?_
            show retQ _ _ _ _ _ _ _
            simp [*]
          · intro h10_5
            refine k_skip ?_
            refine k_nil ?_
            show AK _ _ _ _ _ _
            refine sq ?_
            refine rg 11000 ?_
            refine pr [2, 3] ?_
            refine k_ret ?_
            show retQ _ _ _ _ _ _ _
            simp [*]

end Go.Proofs
end
section
set_option linter.unusedVariables false
set_option linter.unusedSimpArgs false
namespace Go.Proofs
open Go.Flat
set_option maxRecDepth 100000
set_option linter.unusedSimpArgs false
set_option linter.unusedVariables false
attribute [local simp] Bool.and_assoc Bool.or_assoc evalG evalX efD skF guardG guardL isCall stepL evalOp ev evs lk tmpsL app AV.ok fresh vv putCells insV ins del putL place Go.Flat.look fillC fillR getCells loadF storeF binF scalarBin intBin strBin isShift shiftBin unF lenF maxF minF rowsF appendF builtinF idxF natOf sliceP sliceF optEv Flat.cut overwrite toPV toPVs constAV scalarC scalarCs AV.cells TI.isAgg allSome andAll scalarEq buildable Go.Flat.lim retQ resL resAll resOne PartOf noTmp closedIn refs refs.refsL isSomeV hasB ids leA leA.leL renA renA.renL callB refsAll backL dropIds renS LiesAt injB ownB freshB memN locId insAll leA_refl leL_refl okS frzS frzA frzA.frzL evalD feet fine updCells cellsFrom memP footRf footWf noTmpU updIds opOps opIds idsA footR footW guardTs opTs dstTs callR callW renLoc renC inBlockQ thenQ Value.oneCell' IntKind.bits IntKind.signed
/-- An expression. -/
inductive E where
  | mk (op col : Int) (c : Val) (kids : List E)
mutual
def E.row : E → List PV
  | .mk op col c kids => [.v (.int .u8 op), .v (.int .i64 col), .v (.bool c.t), .v (.int .i64 c.n), .v (.string c.s), .ps (E.rows kids)]
def E.rows : List E → List (List PV)
  | [] => []
  | e :: r => e.row :: E.rows r
end
theorem E.rows_eq : ∀ l : List E, E.rows l = l.map E.row
  | [] => by simp [E.rows]
  | e :: r => by simp [E.rows, E.rows_eq r]
theorem E.row_eq (op col : Int) (c : Val) (kids : List E) : (E.mk op col c kids).row = [.v (.int .u8 op), .v (.int .i64 col), .v (.bool c.t), .v (.int .i64 c.n), .v (.string c.s), .ps (kids.map E.row)] := by rw [E.row, E.rows_eq]
theorem E.row_len (e : E) : e.row.length = 6 := by cases e; rw [E.row_eq]; rfl
def E.av : E → AV
  | .mk op col c kids => .agg [vv (.int .u8 op), vv (.int .i64 col), vv (.bool c.t), vv (.int .i64 c.n), vv (.string c.s), .p (.ps (kids.map E.row))]
theorem E.ind {p : E → Prop} (h : ∀ op col c kids, (∀ k ∈ kids, p k) → p (.mk op col c kids)) : ∀ e, p e := by
  intro e
  induction e using E.rec (motive_2 := fun l => ∀ k ∈ l, p k) with
  | mk op col c kids ih => exact h op col c kids ih
  | nil => rename_i k hk; simp at hk
  | cons e r h1 h2 =>
    rename_i k hk
    rcases List.mem_cons.1 hk with rfl | hk
    · exact h1
    · exact h2 k hk
def okA (op : Int) (nk : Nat) : Bool := decide (0 < op) && (decide (op < 13) && ((nk : Int) == kidsOf op))
def Val.eqB (a b : Val) : Bool := (a.t == b.t) && ((a.n == b.n) && (a.s.toList == b.s.toList))
@[simp] theorem Val.eta (c : Val) : Val.mk c.t c.n c.s = c := rfl
@[simp] theorem eqVal (t1 t2 : Bool) (n1 n2 : Int) (s1 s2 : ByteArray) : eqT (tyOf Try.prog) 8 24 (.agg [.p (.v (.bool t1)), .p (.v (.int .i64 n1)), .p (.v (.string s1))]) (.agg [.p (.v (.bool t2)), .p (.v (.int .i64 n2)), .p (.v (.string s2))]) = some (Val.eqB ⟨t1, n1, s1⟩ ⟨t2, n2, s2⟩) := by
  simp [eqT, eqCut, Val.eqB]
def Val.zero : Val := ⟨false, 0, ⟨#[]⟩⟩
def okE (op col : Int) (c : Val) (nk : Nat) : Bool := okA op nk && ((col == 0 || op == 1) && ((c.eqB ⟨false, 0, ⟨#[]⟩⟩ || op == 2) && (checkRow [c] == 0)))
theorem kidsOf_le (o : Int) : 0 ≤ kidsOf o ∧ kidsOf o ≤ 3 := by
  unfold kidsOf
  repeat' split
  all_goals omega
theorem okE_len {op col : Int} {c : Val} {nk : Nat} (h : okE op col c nk = true) : nk ≤ 3 := by
  have h2 := (kidsOf_le op).2
  simp only [okE, okA, Bool.and_eq_true, beq_iff_eq] at h
  omega
abbrev Srv := Int × Int × Bool
mutual
def look : E → Int → Srv → Srv
  | .mk op col c kids, d, s =>
    let ok := okE op col c kids.length
    let s := (IntKind.i64.wrap (s.1 + 1), (if d > s.2.1 then d else s.2.1), s.2.2 || !ok)
    if !ok || decide (d > 16) then s else lookL kids (IntKind.i64.wrap (d + 1)) s
def lookL : List E → Int → Srv → Srv
  | [], _, s => s
  | e :: r, d, s => lookL r d (look e d s)
end
theorem lookL_append (d : Int) : ∀ (l r : List E) (s : Srv), lookL (l ++ r) d s = lookL r d (lookL l d s)
  | [], r, s => by simp [lookL]
  | e :: l, r, s => by simp [lookL, lookL_append d l r]
theorem lookL_take {kids : List E} {d : Int} {s : Srv} {i : Nat} {x : E} (h : kids[i]? = some x) : lookL (kids.take (i + 1)) d s = look x d (lookL (kids.take i) d s) := by
  rw [List.take_add_one, h, lookL_append]
  simp [lookL]

attribute [local simp] E.av in
theorem spec53_step (op col : Int) (c : Val) (kids : List E) (ih : ∀ k ∈ kids, ∀ d s, Flat.Sp Try.prog 53 [.ptr 0 0, k.av, vv (.int .i64 d)] [(.var 0, .n 3), (.cell 0 0, .av (vv (.int .i64 (s).1))), (.cell 0 1, .av (vv (.int .i64 (s).2.1))), (.cell 0 2, .av (vv (.bool (s).2.2)))] (.tup []) [(.var 0, .n 3), (.cell 0 0, .av (vv (.int .i64 (look k d s).1))), (.cell 0 1, .av (vv (.int .i64 (look k d s).2.1))), (.cell 0 2, .av (vv (.bool (look k d s).2.2)))]) (d : Int) (s : Srv) : Flat.Sp Try.prog 53 [.ptr 0 0, (E.mk op col c kids).av, vv (.int .i64 d)] [(.var 0, .n 3), (.cell 0 0, .av (vv (.int .i64 (s).1))), (.cell 0 1, .av (vv (.int .i64 (s).2.1))), (.cell 0 2, .av (vv (.bool (s).2.2)))] (.tup []) [(.var 0, .n 3), (.cell 0 0, .av (vv (.int .i64 (look (E.mk op col c kids) d s).1))), (.cell 0 1, .av (vv (.int .i64 (look (E.mk op col c kids) d s).2.1))), (.cell 0 2, .av (vv (.bool (look (E.mk op col c kids) d s).2.2)))] := by
  refine sk Try.func53 ?_
  intro F G hn hG
  refine sq ?_
  refine rg 1000 ?_
  refine pr [0, 1, 2, 3, 4, 5, 6, 7, 8, 100, 101, 102] ?_
  refine sq ?_
  refine dr ?_
  refine de 2000 ?_
  refine dn ?_
  refine pr [0, 1, 2, 3, 4, 5, 6, 7, 8, 9, 26, 100, 101, 102] ?_
  refine sq ?_
  refine cv [(.tmp 6, vv (.bool (okA op kids.length)))] ?_ ?_
  · skip
    refine dr ?_
    refine de 3000 ?_ (h := by simp [*, okA]; exact is_rfl _)
    iterate 3 (first | refine dp 3250 ?_ (he := by intro hgg; (try simp only [Bool.and_eq_true] at hgg); simp [*, okA]; exact is_rfl _) | refine ds ?_ | refine dt 3250 ?_ (he := by simp [*, okA]; exact is_rfl _))
    refine de 3300 ?_ (h := by simp [*, okA]; exact is_rfl _)
    iterate 5 (first | refine dp 3750 ?_ (he := by intro hgg; (try simp only [Bool.and_eq_true] at hgg); simp [*, okA]; exact is_rfl _) | refine ds ?_ | refine dt 3750 ?_ (he := by simp [*, okA]; exact is_rfl _))
    refine dg (fun hg => spec100 op) ?_ (hf := by intro hgg; (try simp only [Bool.and_eq_true] at hgg); simp [*, okA]; exact is_rfl _) (hx := by intro hgg; (try simp only [Bool.and_eq_true] at hgg); simp [*, okA]; exact is_rfl _) (hargs := by intro hgg; (try simp only [Bool.and_eq_true] at hgg); simp [*, okA]) (hd := by simp [*, okA]; exact is_rfl _)
    first | refine dp 3950 ?_ (he := by intro hgg; (try simp only [Bool.and_eq_true] at hgg); simp [*, okA]; exact is_rfl _) | refine ds ?_ | refine dt 3950 ?_ (he := by simp [*, okA]; exact is_rfl _)
    refine de 4000 ?_ (h := by simp [*, okA]; exact is_rfl _)
    refine dn ?_
    refine k_nil ?_
    refine ⟨rfl, ?_, ?_, ?_⟩ <;> simp [*, okA]
  refine pr [0, 1, 2, 3, 4, 5, 6, 7, 8, 9, 43, 100, 101, 102] ?_
  refine sq ?_
  refine cv [(.tmp 6, vv (.bool (okE op col c kids.length)))] ?_ ?_
  · skip
    refine rc 4000 ?_ (h := by simp [*, okE]; exact is_rfl _)
    iterate 8 (first | refine gp 4750 ?_ (he := by intro hgg; (try simp only [Bool.and_eq_true] at hgg); simp [*, okE]; exact is_rfl _) | refine os ?_ | refine gt 4750 ?_ (he := by simp [*, okE]; exact is_rfl _))
    refine oe 4800 ?_ (h := by simp [*, okE]; exact is_rfl _)
    iterate 9 (first | refine gp 5650 ?_ (he := by intro hgg; (try simp only [Bool.and_eq_true] at hgg); simp [*, okE]; exact is_rfl _) | refine os ?_ | refine gt 5650 ?_ (he := by simp [*, okE]; exact is_rfl _))
    refine oe 5700 ?_ (h := by simp [*, okE]; exact is_rfl _)
    iterate 3 (first | refine gp 5950 ?_ (he := by intro hgg; (try simp only [Bool.and_eq_true] at hgg); simp [*, okE]; exact is_rfl _) | refine os ?_ | refine gt 5950 ?_ (he := by simp [*, okE]; exact is_rfl _))
    refine og (fun hg => spec54 [c] (by simp [Flat.lim])) ?_ (hf := by intro hgg; (try simp only [Bool.and_eq_true] at hgg); simp [*, okE, Val.row]; exact is_rfl _) (hx := by intro hgg; (try simp only [Bool.and_eq_true] at hgg); simp [*, okE, Val.row]; exact is_rfl _) (hargs := by intro hgg; (try simp only [Bool.and_eq_true] at hgg); simp [*, okE, Val.row]) (hd := by simp [*, okE, Val.row]; exact is_rfl _)
    first | refine gp 6150 ?_ (he := by intro hgg; (try simp only [Bool.and_eq_true] at hgg); simp [*, okE]; exact is_rfl _) | refine os ?_ | refine gt 6150 ?_ (he := by simp [*, okE]; exact is_rfl _)
    refine oe 6200 ?_ (h := by simp [*, okE]; exact is_rfl _)
    refine on ?_
    refine k_nil ?_
    refine ⟨rfl, ?_, ?_, ?_⟩ <;> simp [*, okE]
  refine pr [0, 1, 2, 3, 4, 5, 6, 7, 8, 9, 72, 100, 101, 102] ?_
  refine sq ?_
  refine rc 5000 ?_
  iterate 2 (first | refine gp 5150 ?_ | refine os ?_ | refine gt 5150 ?_)
  refine oe 5200 ?_
  refine on ?_
  refine pr [0, 1, 2, 3, 4, 5, 6, 7, 8, 9, 83, 100, 101, 102] ?_
  refine sq ?_
  refine sq ?_
  refine rc 6000 ?_
  iterate 2 (first | refine gp 6150 ?_ | refine os ?_ | refine gt 6150 ?_)
  refine oe 6200 ?_
  refine on ?_
  refine pr [0, 1, 2, 3, 4, 5, 8, 9, 88, 100, 101, 102] ?_
  refine cd ?_ ?_
  · intro h88_1
    have h88_1 : (!(okE op col c kids.length) || decide (d > 16)) = true := h88_1
    refine k_ret ?_
    show retQ _ _ _ _ _ _ _
    simp [*, look]
  · intro h88_1
    have h88_1 : (!(okE op col c kids.length) || decide (d > 16)) = false := h88_1
    have hk : kids.length ≤ Flat.lim := Nat.le_trans (okE_len (by simp at h88_1; exact h88_1.1)) (by simp [Flat.lim])
    refine k_skip ?_
    refine sq ?_
    refine rg 7000 ?_
    refine pr [0, 1, 2, 3, 8, 9, 90, 100, 101, 102] ?_
    refine k_block ?_
    refine k_loop (fun n l => ∃ i, i + n = kids.length ∧ (True) ∧ l = [(.tmp 0, .av (.ptr 0 0)), (.tmp 2, .av (vv (.int .i64 d))), (.tmp 90, .av (.p (.ps (kids.map E.row)))), (.tmp 91, .av (vv (.int .i64 kids.length))), (.tmp 92, .av (vv (.int .i64 i))), (.var 0, .n 3), (.cell 0 0, .av (vv (.int .i64 (lookL (kids.take i) (IntKind.i64.wrap (d + 1)) ((IntKind.i64.wrap (s.1 + 1), (if d > s.2.1 then d else s.2.1), s.2.2 || !(okE op col c kids.length)) : Srv)).1))), (.cell 0 1, .av (vv (.int .i64 (lookL (kids.take i) (IntKind.i64.wrap (d + 1)) ((IntKind.i64.wrap (s.1 + 1), (if d > s.2.1 then d else s.2.1), s.2.2 || !(okE op col c kids.length)) : Srv)).2.1))), (.cell 0 2, .av (vv (.bool (lookL (kids.take i) (IntKind.i64.wrap (d + 1)) ((IntKind.i64.wrap (s.1 + 1), (if d > s.2.1 then d else s.2.1), s.2.2 || !(okE op col c kids.length)) : Srv)).2.2)))]) (kids.length) hG ⟨_, ⟨by simp [lookL], by simp, by simp⟩, 0, by simp, trivial, rfl⟩ ?_
    rintro n _ ⟨i, hin, hfa, rfl⟩
    refine sq ?_
    refine rg 8000 ?_
    refine pr [0, 1, 2, 3, 8, 9, 90, 100, 101, 102] ?_
    refine sq ?_
    refine cd ?_ ?_
    · intro h93_2
      have hlt : i < kids.length := by simpa using h93_2
      obtain ⟨x, hxe⟩ : ∃ x, kids[i] = x := ⟨_, rfl⟩
      have hx : kids[i]? = some x := by simp [hlt, hxe]
      obtain ⟨xo, xc, xv, xk⟩ := x
      have hmem : E.mk xo xc xv xk ∈ kids := hxe ▸ List.getElem_mem hlt
      refine k_skip ?_
      refine sq ?_
      refine k_block ?_
      refine sq ?_
      refine rg 9000 ?_ (h := by simp [*, E.row_eq]; exact is_rfl _)
      refine pr [0, 1, 2, 3, 8, 9, 90, 100, 101, 102] ?_
      refine rc 10000 ?_
      refine oc id (ih _ hmem (IntKind.i64.wrap (d + 1)) (lookL (kids.take i) (IntKind.i64.wrap (d + 1)) ((IntKind.i64.wrap (s.1 + 1), (if d > s.2.1 then d else s.2.1), s.2.2 || !(okE op col c kids.length)) : Srv))) ?_
      refine on ?_
      refine k_nil ?_
      show AK _ _ _ _ _ _
      refine rg 11000 ?_ (h := by simp [*, wrap_succ (show i < Flat.lim by omega)]; exact is_rfl _)
      refine k_nil ?_
      refine ⟨n - 1, by omega, _, ⟨?_, ?_, ?_⟩, i + 1, by omega, trivial, rfl⟩ <;> simp [*, lookL_take hx]
    · intro h93_2
      have hge : kids.length ≤ i := by simpa using h93_2
      have htk : kids.take i = kids := List.take_of_length_le hge
      refine k_exit ?_
      show AK _ _ _ _ _ _
      refine k_nil ?_
      show retQ _ _ _ _ _ _ _
      simp [*, look]

theorem spec53 : ∀ (e : E) (d : Int) (s : Srv), Flat.Sp Try.prog 53 [.ptr 0 0, e.av, vv (.int .i64 d)] [(.var 0, .n 3), (.cell 0 0, .av (vv (.int .i64 (s).1))), (.cell 0 1, .av (vv (.int .i64 (s).2.1))), (.cell 0 2, .av (vv (.bool (s).2.2)))] (.tup []) [(.var 0, .n 3), (.cell 0 0, .av (vv (.int .i64 (look e d s).1))), (.cell 0 1, .av (vv (.int .i64 (look e d s).2.1))), (.cell 0 2, .av (vv (.bool (look e d s).2.2)))] :=
  E.ind fun op col c kids ih d s => spec53_step op col c kids ih d s
def checkE (e : E) : Int := let s := look e 1 (0, 0, false); if s.2.2 then 4 else if decide (64 < s.1) then 2 else if decide (16 < s.2.1) then 2 else 0

attribute [local simp] E.av in
theorem spec22 (op col : Int) (c : Val) (kids : List E) : Flat.Sp Try.prog 22 [(E.mk op col c kids).av] [] (vv (.int .i64 (checkE (E.mk op col c kids)))) [] := by
  refine sk Try.func22 ?_
  intro F G hn hG
  refine sq ?_
  refine rg 1000 ?_
  refine pr [1, 5, 6, 16] ?_
  refine sq ?_
  refine rg 2000 ?_
  refine pr [1, 5, 6, 16] ?_
  refine sq ?_
  refine rc 3000 ?_
  refine oc (fun _ => 2000) (spec53 (E.mk op col c kids) 1 (0, 0, false)) ?_
  refine on ?_
  refine pr [2, 4, 6, 16] ?_
  refine sq ?_
  refine k_block ?_
  refine sq ?_
  refine rg 4000 ?_
  refine pr [2, 4, 6, 7, 9, 16] ?_
  refine cd ?_ ?_
  · intro h6_1
    refine sq ?_
    refine rg 5000 ?_
    refine pr [2, 3] ?_
    refine k_ret ?_
    show retQ _ _ _ _ _ _ _
    simp [*, checkE]
  · intro h6_1
    refine sq ?_
    refine sq ?_
    refine rg 6000 ?_
    refine pr [2, 4, 9, 10, 13, 16] ?_
    refine cd ?_ ?_
    · intro h9_2
      refine k_skip ?_
      refine ct ?_
      refine sq ?_
      refine rg 8000 ?_
      refine pr [2, 3] ?_
      refine k_ret ?_
      show retQ _ _ _ _ _ _ _
      simp [*, checkE]
    · intro h9_2
      refine rg 7000 ?_
      refine pr [2, 3, 9, 10] ?_
      refine cd ?_ ?_
      · intro h9_3
        refine sq ?_
        refine rg 8000 ?_
        refine pr [2, 3] ?_
        refine k_ret ?_
        show retQ _ _ _ _ _ _ _
        simp [*, checkE]
      · intro h9_3
        refine k_skip ?_
        refine k_nil ?_
        show AK _ _ _ _ _ _
        refine sq ?_
        refine rg 9000 ?_
        refine pr [2, 3] ?_
        refine k_ret ?_
        show retQ _ _ _ _ _ _ _
        simp [*, checkE]

end Go.Proofs
end
section
set_option linter.unusedVariables false
set_option linter.unusedSimpArgs false
namespace Go.Proofs
open Go.Flat
set_option maxRecDepth 100000
set_option linter.unusedSimpArgs false
set_option linter.unusedVariables false
attribute [local simp] Bool.and_assoc Bool.or_assoc evalG evalX efD skF guardG guardL isCall stepL evalOp ev evs lk tmpsL app AV.ok fresh vv putCells insV ins del putL place Go.Flat.look fillC fillR getCells loadF storeF binF scalarBin intBin strBin isShift shiftBin unF lenF maxF minF rowsF appendF builtinF idxF natOf sliceP sliceF optEv Flat.cut overwrite toPV toPVs constAV scalarC scalarCs AV.cells TI.isAgg allSome andAll scalarEq buildable Go.Flat.lim retQ resL resAll resOne PartOf noTmp closedIn refs refs.refsL isSomeV hasB ids leA leA.leL renA renA.renL callB refsAll backL dropIds renS LiesAt injB ownB freshB memN locId insAll leA_refl leL_refl okS frzS frzA frzA.frzL evalD feet fine updCells cellsFrom memP footRf footWf noTmpU updIds opOps opIds idsA footR footW guardTs opTs dstTs callR callW renLoc renC inBlockQ thenQ Value.oneCell' IntKind.bits IntKind.signed
def trow (t : Int) : List PV := [.v (.int .u8 t)]
mutual
/-- A right expression, all the way down. -/
def E.good : E → Prop
  | .mk op col c kids => okE op col c kids.length = true ∧ E.goodL kids
def E.goodL : List E → Prop
  | [] => True
  | e :: r => e.good ∧ E.goodL r
end
theorem E.goodL_mem : ∀ {l : List E}, E.goodL l → ∀ k ∈ l, k.good
  | [], _, k, h => by simp at h
  | e :: r, h, k, hk => by
    simp only [E.goodL] at h
    rcases List.mem_cons.1 hk with rfl | hk
    · exact h.1
    · exact E.goodL_mem h.2 k hk
def at3 (l : List Int) (i : Nat) : Int := l.getD i 0
mutual
def judge (ts : List Int) : E → Int → Int × Int
  | .mk op col c kids, w =>
    if op == 1 then
      let w := unlessF w (decide (0 ≤ col) && decide (col < ts.length)) 1
      if w != 0 then (0, w) else (ts.getD col.toNat 0, w)
    else if op == 2 then (tOf c, w)
    else
      let r := judgeL ts kids w
      if op == 7 || op == 8 then (1, unlessF r.2 (at3 r.1 0 == at3 r.1 1) 11)
      else if op == 12 then (at3 r.1 1, unlessF r.2 (at3 r.1 0 == 1 && at3 r.1 1 == at3 r.1 2) 11)
      else (1, r.1.foldl (fun w t => unlessF w (t == 1) 11) r.2)
def judgeL (ts : List Int) : List E → Int → List Int × Int
  | [], w => ([], w)
  | e :: r, w => ((judge ts e w).1 :: (judgeL ts r (judge ts e w).2).1, (judgeL ts r (judge ts e w).2).2)
end

theorem unless_ok {w y : Int} {b : Bool} (hy : y ≠ 0) (h : (unlessF w b y != 0) = false) : w = 0 ∧ b = true := by
  unfold unlessF at h
  cases b <;> simp at h ⊢
  · by_cases hw : w = 0
    · simp [hw] at h; exact hy h
    · simp [hw] at h
  · exact h

attribute [local simp] E.av in
theorem spec56_col (ts : List Int) (hts : ts.length ≤ Flat.lim) (col : Int) (c : Val) (w : Int) : Flat.Sp Try.prog 56 [.ptr 0 0, (E.mk 1 col c []).av] [(.var 0, .n 2), (.cell 0 0, .av (vv (.int .i64 w))), (.cell 0 1, .av (.p (.ps (ts.map trow))))] (vv (.int .u8 (judge ts (E.mk 1 col c []) w).1)) [(.var 0, .n 2), (.cell 0 0, .av (vv (.int .i64 (judge ts (E.mk 1 col c []) w).2))), (.cell 0 1, .av (.p (.ps (ts.map trow))))] := by
  refine sk Try.func56 ?_
  intro F G hn hG
  refine sq ?_
  refine rg 1000 ?_
  refine pr [0, 1, 3, 29, 30, 80, 81, 99, 100, 117, 118, 119] ?_
  refine sq ?_
  refine sq ?_
  refine rg 2000 ?_
  refine pr [0, 1, 3, 9, 10, 29, 30, 80, 81, 99, 100, 117, 118, 119] ?_
  refine k_block ?_
  refine sq ?_
  refine rg 3000 ?_
  refine pr [0, 1, 3, 9, 10, 12, 13, 29, 30, 80, 81, 99, 100, 117, 118, 119] ?_
  refine ct ?_
  refine sq ?_
  refine dr ?_
  refine de 4000 ?_
  iterate 8 (first | refine dp 4750 ?_ | refine ds ?_ | refine dt 4750 ?_)
  refine de 4800 ?_
  refine dc id (spec104 w (.ps (ts.map trow)) (decide (0 ≤ col) && decide (col < ts.length)) 1) ?_
  refine dn ?_
  refine pr [0, 1, 3, 9, 30, 44, 49, 80, 81, 99, 100, 117, 118, 119] ?_
  refine sq ?_
  refine sq ?_
  refine rg 5000 ?_
  refine pr [0, 1, 3, 9, 35, 44, 49, 80, 81, 99, 100, 117, 118, 119] ?_
  refine cd ?_ ?_
  · intro h35_1
    have h35_1 : (unlessF w (decide (0 ≤ col) && decide (col < ts.length)) 1 != 0) = true := by simpa using h35_1
    refine sq ?_
    refine rg 6000 ?_
    refine pr [0, 1, 3, 9, 36, 44, 49, 80, 81, 99, 100, 117, 118, 119] ?_
    refine k_ret ?_
    show retQ _ _ _ _ _ _ _
    simp [*, judge]
  · intro h35_1
    have h35_1 : (unlessF w (decide (0 ≤ col) && decide (col < ts.length)) 1 != 0) = false := by simpa using h35_1
    obtain ⟨rfl, hcb⟩ := unless_ok (by omega) h35_1
    simp only [Bool.and_eq_true, decide_eq_true_eq] at hcb
    obtain ⟨k, rfl⟩ := Int.eq_ofNat_of_zero_le hcb.1
    have hlt : k < ts.length := by omega
    obtain ⟨t, hte⟩ : ∃ t, ts[k] = t := ⟨_, rfl⟩
    have hu0 : unlessF 0 true 1 = 0 := rfl
    refine k_skip ?_
    refine sq ?_
    refine dr ?_
    refine de 7000 ?_ (h := by simp [*, trow]; exact is_rfl _)
    refine dn ?_
    refine pr [0, 1, 3, 9, 49, 80, 81, 99, 100, 117, 118, 119] ?_
    refine k_ret ?_
    show retQ _ _ _ _ _ _ _
    simp [*, judge, trow]

attribute [local simp] E.av in
theorem spec56_con (ts : List Int) (col : Int) (c : Val) (w : Int) : Flat.Sp Try.prog 56 [.ptr 0 0, (E.mk 2 col c []).av] [(.var 0, .n 2), (.cell 0 0, .av (vv (.int .i64 w))), (.cell 0 1, .av (.p (.ps (ts.map trow))))] (vv (.int .u8 (judge ts (E.mk 2 col c []) w).1)) [(.var 0, .n 2), (.cell 0 0, .av (vv (.int .i64 (judge ts (E.mk 2 col c []) w).2))), (.cell 0 1, .av (.p (.ps (ts.map trow))))] := by
  refine sk Try.func56 ?_
  intro F G hn hG
  refine sq ?_
  refine rg 1000 ?_
  refine pr [0, 1, 3, 29, 30, 80, 81, 99, 100, 117, 118, 119] ?_
  refine sq ?_
  refine sq ?_
  refine rg 2000 ?_
  refine pr [0, 1, 3, 9, 10, 29, 30, 80, 81, 99, 100, 117, 118, 119] ?_
  refine k_block ?_
  refine sq ?_
  refine rg 3000 ?_
  refine pr [0, 1, 3, 9, 10, 12, 13, 29, 30, 80, 81, 99, 100, 117, 118, 119] ?_
  refine ce ?_
  refine sq ?_
  refine rg 8000 ?_
  refine pr [0, 1, 3, 9, 44, 45, 46, 80, 81, 99, 100, 117, 118, 119] ?_
  refine ct ?_
  refine sq ?_
  refine rc 9000 ?_
  refine oc id (spec57 c) ?_ (hg := by simp [*, Val.av]) (hf := by simp [*, Val.av]; exact is_rfl _) (hx := by simp [*, Val.av]; exact is_rfl _) (hargs := by simp [*, Val.av]) (hB := by simp [*, Val.av]) (hL := by simp [*, Val.av]) (hd := by simp [*, Val.av]; exact is_rfl _)
  refine oe 9100 ?_
  refine on ?_
  refine pr [0, 1, 3, 9, 49, 80, 81, 99, 100, 117, 118, 119] ?_
  refine k_ret ?_
  show retQ _ _ _ _ _ _ _
  simp [*, judge]

attribute [local simp] E.av E.row_eq in
theorem spec56_one (ts : List Int) (op col : Int) (c : Val) (ao ac : Int) (av : Val) (ak : List E) (hop : op = 6 ∨ op = 11) (ha : ∀ w : Int, Flat.Sp Try.prog 56 [.ptr 0 0, (E.mk ao ac av ak).av] [(.var 0, .n 2), (.cell 0 0, .av (vv (.int .i64 w))), (.cell 0 1, .av (.p (.ps (ts.map trow))))] (vv (.int .u8 (judge ts (E.mk ao ac av ak) w).1)) [(.var 0, .n 2), (.cell 0 0, .av (vv (.int .i64 (judge ts (E.mk ao ac av ak) w).2))), (.cell 0 1, .av (.p (.ps (ts.map trow))))]) (w : Int) : Flat.Sp Try.prog 56 [.ptr 0 0, (E.mk op col c [E.mk ao ac av ak]).av] [(.var 0, .n 2), (.cell 0 0, .av (vv (.int .i64 w))), (.cell 0 1, .av (.p (.ps (ts.map trow))))] (vv (.int .u8 (judge ts (E.mk op col c [E.mk ao ac av ak]) w).1)) [(.var 0, .n 2), (.cell 0 0, .av (vv (.int .i64 (judge ts (E.mk op col c [E.mk ao ac av ak]) w).2))), (.cell 0 1, .av (.p (.ps (ts.map trow))))] := by
  refine sk Try.func56 ?_
  intro F G hn hG
  have ho1 : (op == 1) = false := by rcases hop with rfl | rfl <;> rfl
  have ho2 : (op == 2) = false := by rcases hop with rfl | rfl <;> rfl
  have ho7 : (op == 7) = false := by rcases hop with rfl | rfl <;> rfl
  have ho8 : (op == 8) = false := by rcases hop with rfl | rfl <;> rfl
  have ho12 : (op == 12) = false := by rcases hop with rfl | rfl <;> rfl
  refine sq ?_
  refine rg 1000 ?_
  refine pr [0, 1, 3, 29, 30, 80, 81, 99, 100, 117, 118, 119] ?_
  refine sq ?_
  refine sq ?_
  refine rg 2000 ?_
  refine pr [0, 1, 3, 9, 10, 29, 30, 80, 81, 99, 100, 117, 118, 119] ?_
  refine k_block ?_
  refine sq ?_
  refine rg 3000 ?_
  refine pr [0, 1, 3, 9, 10, 12, 13, 29, 30, 80, 81, 99, 100, 117, 118, 119] ?_
  refine ce ?_
  refine sq ?_
  refine rg 8000 ?_
  refine pr [0, 1, 3, 9, 44, 45, 46, 80, 81, 99, 100, 117, 118, 119] ?_
  refine ce ?_
  refine k_skip ?_
  refine k_nil ?_
  show AK _ _ _ _ _ _
  refine sq ?_
  refine rg 10000 ?_
  refine pr [0, 1, 3, 9, 50, 80, 81, 99, 100, 117, 118, 119] ?_
  refine sq ?_
  refine sq ?_
  refine rg 11000 ?_
  refine pr [0, 1, 3, 9, 51, 80, 81, 99, 100, 117, 118, 119] ?_
  refine k_block ?_
  refine k_rounds 2 ?_
  show AK _ _ _ _ _ _
  refine sq ?_
  refine rg 12000 ?_
  refine pr [0, 1, 3, 9, 51, 80, 81, 99, 100, 117, 118, 119] ?_
  refine sq ?_
  refine ct ?_
  refine k_skip ?_
  refine sq ?_
  refine k_block ?_
  refine sq ?_
  refine rg 13000 ?_
  refine pr [0, 1, 3, 9, 51, 80, 81, 99, 100, 117, 118, 119] ?_
  refine rc 14000 ?_
  refine oc id (ha w) ?_
  refine oe 14100 ?_
  refine on ?_
  refine k_nil ?_
  show AK _ _ _ _ _ _
  refine rg 15000 ?_
  refine k_nil ?_
  show AK _ _ _ _ _ _
  refine sq ?_
  refine rg 1012000 ?_
  refine pr [0, 1, 3, 9, 51, 80, 81, 99, 100, 117, 118, 119] ?_
  refine sq ?_
  refine ce ?_
  refine k_exit ?_
  show AK _ _ _ _ _ _
  refine sq ?_
  refine sq ?_
  refine rg 16000 ?_
  refine pr [0, 1, 3, 6, 8, 9, 66, 80, 81, 99, 100, 117, 118, 119] ?_
  refine k_block ?_
  refine sq ?_
  refine sq ?_
  refine rg 17000 ?_
  refine pr [0, 1, 3, 6, 8, 9, 66, 68, 69, 80, 81, 99, 100, 117, 118, 119] ?_
  refine ce ?_
  refine rg 18000 ?_
  refine pr [0, 1, 3, 6, 8, 9, 66, 68, 70, 80, 81, 99, 100, 117, 118, 119] ?_
  refine ce ?_
  refine sq ?_
  refine rg 21000 ?_
  refine pr [0, 1, 3, 6, 8, 9, 81, 82, 83, 99, 100, 117, 118, 119] ?_
  refine ce ?_
  refine k_skip ?_
  refine k_nil ?_
  show AK _ _ _ _ _ _
  refine sq ?_
  refine sq ?_
  refine rg 24000 ?_
  refine pr [0, 1, 4, 6, 8, 9, 105, 117, 118, 119] ?_
  refine k_block ?_
  refine k_rounds 2 ?_
  show AK _ _ _ _ _ _
  refine sq ?_
  refine rg 25000 ?_
  refine pr [0, 1, 4, 6, 8, 9, 105, 117, 118, 119] ?_
  refine sq ?_
  refine ct ?_
  refine k_skip ?_
  refine sq ?_
  refine k_block ?_
  refine sq ?_
  refine rg 26000 ?_
  refine pr [0, 1, 4, 6, 8, 9, 105, 117, 118, 119] ?_
  refine dr ?_
  refine de 27000 ?_
  refine dc id (spec104 ((judge ts (E.mk ao ac av ak) w).2) (.ps (ts.map trow)) ((judge ts (E.mk ao ac av ak) w).1 == 1) 11) ?_
  refine dn ?_
  refine k_nil ?_
  show AK _ _ _ _ _ _
  refine rg 28000 ?_
  refine k_nil ?_
  show AK _ _ _ _ _ _
  refine sq ?_
  refine rg 1025000 ?_
  refine pr [0, 1, 4, 6, 8, 9, 105, 117, 118, 119] ?_
  refine sq ?_
  refine ce ?_
  refine k_exit ?_
  show AK _ _ _ _ _ _
  refine sq ?_
  refine rg 29000 ?_
  refine pr [4, 5] ?_
  refine k_ret ?_
  show retQ _ _ _ _ _ _ _
  simp [*, judge, judgeL, at3]

attribute [local simp] E.av E.row_eq in
theorem spec56_two (ts : List Int) (op col : Int) (c : Val) (ao ac : Int) (av : Val) (ak : List E) (bo bc : Int) (bv : Val) (bk : List E) (hop : op = 3 ∨ op = 4 ∨ op = 5 ∨ op = 9 ∨ op = 10) (ha : ∀ w : Int, Flat.Sp Try.prog 56 [.ptr 0 0, (E.mk ao ac av ak).av] [(.var 0, .n 2), (.cell 0 0, .av (vv (.int .i64 w))), (.cell 0 1, .av (.p (.ps (ts.map trow))))] (vv (.int .u8 (judge ts (E.mk ao ac av ak) w).1)) [(.var 0, .n 2), (.cell 0 0, .av (vv (.int .i64 (judge ts (E.mk ao ac av ak) w).2))), (.cell 0 1, .av (.p (.ps (ts.map trow))))]) (hb : ∀ w : Int, Flat.Sp Try.prog 56 [.ptr 0 0, (E.mk bo bc bv bk).av] [(.var 0, .n 2), (.cell 0 0, .av (vv (.int .i64 w))), (.cell 0 1, .av (.p (.ps (ts.map trow))))] (vv (.int .u8 (judge ts (E.mk bo bc bv bk) w).1)) [(.var 0, .n 2), (.cell 0 0, .av (vv (.int .i64 (judge ts (E.mk bo bc bv bk) w).2))), (.cell 0 1, .av (.p (.ps (ts.map trow))))]) (w : Int) : Flat.Sp Try.prog 56 [.ptr 0 0, (E.mk op col c [E.mk ao ac av ak, E.mk bo bc bv bk]).av] [(.var 0, .n 2), (.cell 0 0, .av (vv (.int .i64 w))), (.cell 0 1, .av (.p (.ps (ts.map trow))))] (vv (.int .u8 (judge ts (E.mk op col c [E.mk ao ac av ak, E.mk bo bc bv bk]) w).1)) [(.var 0, .n 2), (.cell 0 0, .av (vv (.int .i64 (judge ts (E.mk op col c [E.mk ao ac av ak, E.mk bo bc bv bk]) w).2))), (.cell 0 1, .av (.p (.ps (ts.map trow))))] := by
  refine sk Try.func56 ?_
  intro F G hn hG
  have ho1 : (op == 1) = false := by rcases hop with rfl | rfl | rfl | rfl | rfl <;> rfl
  have ho2 : (op == 2) = false := by rcases hop with rfl | rfl | rfl | rfl | rfl <;> rfl
  have ho7 : (op == 7) = false := by rcases hop with rfl | rfl | rfl | rfl | rfl <;> rfl
  have ho8 : (op == 8) = false := by rcases hop with rfl | rfl | rfl | rfl | rfl <;> rfl
  have ho12 : (op == 12) = false := by rcases hop with rfl | rfl | rfl | rfl | rfl <;> rfl
  refine sq ?_
  refine rg 1000 ?_
  refine pr [0, 1, 3, 29, 30, 80, 81, 99, 100, 117, 118, 119] ?_
  refine sq ?_
  refine sq ?_
  refine rg 2000 ?_
  refine pr [0, 1, 3, 9, 10, 29, 30, 80, 81, 99, 100, 117, 118, 119] ?_
  refine k_block ?_
  refine sq ?_
  refine rg 3000 ?_
  refine pr [0, 1, 3, 9, 10, 12, 13, 29, 30, 80, 81, 99, 100, 117, 118, 119] ?_
  refine ce ?_
  refine sq ?_
  refine rg 8000 ?_
  refine pr [0, 1, 3, 9, 44, 45, 46, 80, 81, 99, 100, 117, 118, 119] ?_
  refine ce ?_
  refine k_skip ?_
  refine k_nil ?_
  show AK _ _ _ _ _ _
  refine sq ?_
  refine rg 10000 ?_
  refine pr [0, 1, 3, 9, 50, 80, 81, 99, 100, 117, 118, 119] ?_
  refine sq ?_
  refine sq ?_
  refine rg 11000 ?_
  refine pr [0, 1, 3, 9, 51, 80, 81, 99, 100, 117, 118, 119] ?_
  refine k_block ?_
  refine k_rounds 3 ?_
  show AK _ _ _ _ _ _
  refine sq ?_
  refine rg 12000 ?_
  refine pr [0, 1, 3, 9, 51, 80, 81, 99, 100, 117, 118, 119] ?_
  refine sq ?_
  refine ct ?_
  refine k_skip ?_
  refine sq ?_
  refine k_block ?_
  refine sq ?_
  refine rg 13000 ?_
  refine pr [0, 1, 3, 9, 51, 80, 81, 99, 100, 117, 118, 119] ?_
  refine rc 14000 ?_
  refine oc id (ha w) ?_
  refine oe 14100 ?_
  refine on ?_
  refine k_nil ?_
  show AK _ _ _ _ _ _
  refine rg 15000 ?_
  refine k_nil ?_
  show AK _ _ _ _ _ _
  refine sq ?_
  refine rg 1012000 ?_
  refine pr [0, 1, 3, 9, 51, 80, 81, 99, 100, 117, 118, 119] ?_
  refine sq ?_
  refine ct ?_
  refine k_skip ?_
  refine sq ?_
  refine k_block ?_
  refine sq ?_
  refine rg 1013000 ?_
  refine pr [0, 1, 3, 9, 51, 80, 81, 99, 100, 117, 118, 119] ?_
  refine rc 1014000 ?_
  refine oc id (hb ((judge ts (E.mk ao ac av ak) w).2)) ?_
  refine oe 1014100 ?_
  refine on ?_
  refine k_nil ?_
  show AK _ _ _ _ _ _
  refine rg 1015000 ?_
  refine k_nil ?_
  show AK _ _ _ _ _ _
  refine sq ?_
  refine rg 2012000 ?_
  refine pr [0, 1, 3, 9, 51, 80, 81, 99, 100, 117, 118, 119] ?_
  refine sq ?_
  refine ce ?_
  refine k_exit ?_
  show AK _ _ _ _ _ _
  refine sq ?_
  refine sq ?_
  refine rg 16000 ?_
  refine pr [0, 1, 3, 6, 8, 9, 66, 80, 81, 99, 100, 117, 118, 119] ?_
  refine k_block ?_
  refine sq ?_
  refine sq ?_
  refine rg 17000 ?_
  refine pr [0, 1, 3, 6, 8, 9, 66, 68, 69, 80, 81, 99, 100, 117, 118, 119] ?_
  refine ce ?_
  refine rg 18000 ?_
  refine pr [0, 1, 3, 6, 8, 9, 66, 68, 70, 80, 81, 99, 100, 117, 118, 119] ?_
  refine ce ?_
  refine sq ?_
  refine rg 21000 ?_
  refine pr [0, 1, 3, 6, 8, 9, 81, 82, 83, 99, 100, 117, 118, 119] ?_
  refine ce ?_
  refine k_skip ?_
  refine k_nil ?_
  show AK _ _ _ _ _ _
  refine sq ?_
  refine sq ?_
  refine rg 24000 ?_
  refine pr [0, 1, 4, 6, 8, 9, 105, 117, 118, 119] ?_
  refine k_block ?_
  refine k_rounds 3 ?_
  show AK _ _ _ _ _ _
  refine sq ?_
  refine rg 25000 ?_
  refine pr [0, 1, 4, 6, 8, 9, 105, 117, 118, 119] ?_
  refine sq ?_
  refine ct ?_
  refine k_skip ?_
  refine sq ?_
  refine k_block ?_
  refine sq ?_
  refine rg 26000 ?_
  refine pr [0, 1, 4, 6, 8, 9, 105, 117, 118, 119] ?_
  refine dr ?_
  refine de 27000 ?_
  refine dc id (spec104 ((judge ts (E.mk bo bc bv bk) (judge ts (E.mk ao ac av ak) w).2).2) (.ps (ts.map trow)) ((judge ts (E.mk ao ac av ak) w).1 == 1) 11) ?_
  refine dn ?_
  refine k_nil ?_
  show AK _ _ _ _ _ _
  refine rg 28000 ?_
  refine k_nil ?_
  show AK _ _ _ _ _ _
  refine sq ?_
  refine rg 1025000 ?_
  refine pr [0, 1, 4, 6, 8, 9, 105, 117, 118, 119] ?_
  refine sq ?_
  refine ct ?_
  refine k_skip ?_
  refine sq ?_
  refine k_block ?_
  refine sq ?_
  refine rg 1026000 ?_
  refine pr [0, 1, 4, 6, 8, 9, 105, 117, 118, 119] ?_
  refine dr ?_
  refine de 1027000 ?_
  refine dc id (spec104 (unlessF ((judge ts (E.mk bo bc bv bk) (judge ts (E.mk ao ac av ak) w).2).2) ((judge ts (E.mk ao ac av ak) w).1 == 1) 11) (.ps (ts.map trow)) ((judge ts (E.mk bo bc bv bk) (judge ts (E.mk ao ac av ak) w).2).1 == 1) 11) ?_
  refine dn ?_
  refine k_nil ?_
  show AK _ _ _ _ _ _
  refine rg 1028000 ?_
  refine k_nil ?_
  show AK _ _ _ _ _ _
  refine sq ?_
  refine rg 2025000 ?_
  refine pr [0, 1, 4, 6, 8, 9, 105, 117, 118, 119] ?_
  refine sq ?_
  refine ce ?_
  refine k_exit ?_
  show AK _ _ _ _ _ _
  refine sq ?_
  refine rg 29000 ?_
  refine pr [4, 5] ?_
  refine k_ret ?_
  show retQ _ _ _ _ _ _ _
  simp [*, judge, judgeL, at3]

attribute [local simp] E.av E.row_eq in
theorem spec56_cmp7 (ts : List Int) (op col : Int) (c : Val) (ao ac : Int) (av : Val) (ak : List E) (bo bc : Int) (bv : Val) (bk : List E) (hop : op = 7) (ha : ∀ w : Int, Flat.Sp Try.prog 56 [.ptr 0 0, (E.mk ao ac av ak).av] [(.var 0, .n 2), (.cell 0 0, .av (vv (.int .i64 w))), (.cell 0 1, .av (.p (.ps (ts.map trow))))] (vv (.int .u8 (judge ts (E.mk ao ac av ak) w).1)) [(.var 0, .n 2), (.cell 0 0, .av (vv (.int .i64 (judge ts (E.mk ao ac av ak) w).2))), (.cell 0 1, .av (.p (.ps (ts.map trow))))]) (hb : ∀ w : Int, Flat.Sp Try.prog 56 [.ptr 0 0, (E.mk bo bc bv bk).av] [(.var 0, .n 2), (.cell 0 0, .av (vv (.int .i64 w))), (.cell 0 1, .av (.p (.ps (ts.map trow))))] (vv (.int .u8 (judge ts (E.mk bo bc bv bk) w).1)) [(.var 0, .n 2), (.cell 0 0, .av (vv (.int .i64 (judge ts (E.mk bo bc bv bk) w).2))), (.cell 0 1, .av (.p (.ps (ts.map trow))))]) (w : Int) : Flat.Sp Try.prog 56 [.ptr 0 0, (E.mk op col c [E.mk ao ac av ak, E.mk bo bc bv bk]).av] [(.var 0, .n 2), (.cell 0 0, .av (vv (.int .i64 w))), (.cell 0 1, .av (.p (.ps (ts.map trow))))] (vv (.int .u8 (judge ts (E.mk op col c [E.mk ao ac av ak, E.mk bo bc bv bk]) w).1)) [(.var 0, .n 2), (.cell 0 0, .av (vv (.int .i64 (judge ts (E.mk op col c [E.mk ao ac av ak, E.mk bo bc bv bk]) w).2))), (.cell 0 1, .av (.p (.ps (ts.map trow))))] := by
  refine sk Try.func56 ?_
  intro F G hn hG
  have ho1 : (op == 1) = false := by rcases hop with rfl <;> rfl
  have ho2 : (op == 2) = false := by rcases hop with rfl <;> rfl
  have ho7 : (op == 7) = true := by subst hop; rfl
  have ho8 : (op == 8) = false := by rcases hop with rfl <;> rfl
  have ho12 : (op == 12) = false := by rcases hop with rfl <;> rfl
  refine sq ?_
  refine rg 1000 ?_
  refine pr [0, 1, 3, 29, 30, 80, 81, 99, 100, 117, 118, 119] ?_
  refine sq ?_
  refine sq ?_
  refine rg 2000 ?_
  refine pr [0, 1, 3, 9, 10, 29, 30, 80, 81, 99, 100, 117, 118, 119] ?_
  refine k_block ?_
  refine sq ?_
  refine rg 3000 ?_
  refine pr [0, 1, 3, 9, 10, 12, 13, 29, 30, 80, 81, 99, 100, 117, 118, 119] ?_
  refine ce ?_
  refine sq ?_
  refine rg 8000 ?_
  refine pr [0, 1, 3, 9, 44, 45, 46, 80, 81, 99, 100, 117, 118, 119] ?_
  refine ce ?_
  refine k_skip ?_
  refine k_nil ?_
  show AK _ _ _ _ _ _
  refine sq ?_
  refine rg 10000 ?_
  refine pr [0, 1, 3, 9, 50, 80, 81, 99, 100, 117, 118, 119] ?_
  refine sq ?_
  refine sq ?_
  refine rg 11000 ?_
  refine pr [0, 1, 3, 9, 51, 80, 81, 99, 100, 117, 118, 119] ?_
  refine k_block ?_
  refine k_rounds 3 ?_
  show AK _ _ _ _ _ _
  refine sq ?_
  refine rg 12000 ?_
  refine pr [0, 1, 3, 9, 51, 80, 81, 99, 100, 117, 118, 119] ?_
  refine sq ?_
  refine ct ?_
  refine k_skip ?_
  refine sq ?_
  refine k_block ?_
  refine sq ?_
  refine rg 13000 ?_
  refine pr [0, 1, 3, 9, 51, 80, 81, 99, 100, 117, 118, 119] ?_
  refine rc 14000 ?_
  refine oc id (ha w) ?_
  refine oe 14100 ?_
  refine on ?_
  refine k_nil ?_
  show AK _ _ _ _ _ _
  refine rg 15000 ?_
  refine k_nil ?_
  show AK _ _ _ _ _ _
  refine sq ?_
  refine rg 1012000 ?_
  refine pr [0, 1, 3, 9, 51, 80, 81, 99, 100, 117, 118, 119] ?_
  refine sq ?_
  refine ct ?_
  refine k_skip ?_
  refine sq ?_
  refine k_block ?_
  refine sq ?_
  refine rg 1013000 ?_
  refine pr [0, 1, 3, 9, 51, 80, 81, 99, 100, 117, 118, 119] ?_
  refine rc 1014000 ?_
  refine oc id (hb ((judge ts (E.mk ao ac av ak) w).2)) ?_
  refine oe 1014100 ?_
  refine on ?_
  refine k_nil ?_
  show AK _ _ _ _ _ _
  refine rg 1015000 ?_
  refine k_nil ?_
  show AK _ _ _ _ _ _
  refine sq ?_
  refine rg 2012000 ?_
  refine pr [0, 1, 3, 9, 51, 80, 81, 99, 100, 117, 118, 119] ?_
  refine sq ?_
  refine ce ?_
  refine k_exit ?_
  show AK _ _ _ _ _ _
  refine sq ?_
  refine sq ?_
  refine rg 16000 ?_
  refine pr [0, 1, 3, 6, 8, 9, 66, 80, 81, 99, 100, 117, 118, 119] ?_
  refine k_block ?_
  refine sq ?_
  refine sq ?_
  refine rg 17000 ?_
  refine pr [0, 1, 3, 6, 8, 9, 66, 68, 69, 80, 81, 99, 100, 117, 118, 119] ?_
  refine ct ?_
  refine k_skip ?_
  refine ct ?_
  refine sq ?_
  refine dr ?_
  refine de 19000 ?_
  refine dc id (spec104 ((judge ts (E.mk bo bc bv bk) (judge ts (E.mk ao ac av ak) w).2).2) (.ps (ts.map trow)) ((judge ts (E.mk ao ac av ak) w).1 == (judge ts (E.mk bo bc bv bk) (judge ts (E.mk ao ac av ak) w).2).1) 11) ?_
  refine dn ?_
  refine pr [0, 1, 3, 6, 8, 9, 103, 117, 118, 119] ?_
  refine sq ?_
  refine rg 20000 ?_
  refine pr [0, 1, 3, 6, 8, 9, 103, 117, 118, 119] ?_
  refine k_ret ?_
  show retQ _ _ _ _ _ _ _
  simp [*, judge, judgeL, at3]

attribute [local simp] E.av E.row_eq in
theorem spec56_cmp8 (ts : List Int) (op col : Int) (c : Val) (ao ac : Int) (av : Val) (ak : List E) (bo bc : Int) (bv : Val) (bk : List E) (hop : op = 8) (ha : ∀ w : Int, Flat.Sp Try.prog 56 [.ptr 0 0, (E.mk ao ac av ak).av] [(.var 0, .n 2), (.cell 0 0, .av (vv (.int .i64 w))), (.cell 0 1, .av (.p (.ps (ts.map trow))))] (vv (.int .u8 (judge ts (E.mk ao ac av ak) w).1)) [(.var 0, .n 2), (.cell 0 0, .av (vv (.int .i64 (judge ts (E.mk ao ac av ak) w).2))), (.cell 0 1, .av (.p (.ps (ts.map trow))))]) (hb : ∀ w : Int, Flat.Sp Try.prog 56 [.ptr 0 0, (E.mk bo bc bv bk).av] [(.var 0, .n 2), (.cell 0 0, .av (vv (.int .i64 w))), (.cell 0 1, .av (.p (.ps (ts.map trow))))] (vv (.int .u8 (judge ts (E.mk bo bc bv bk) w).1)) [(.var 0, .n 2), (.cell 0 0, .av (vv (.int .i64 (judge ts (E.mk bo bc bv bk) w).2))), (.cell 0 1, .av (.p (.ps (ts.map trow))))]) (w : Int) : Flat.Sp Try.prog 56 [.ptr 0 0, (E.mk op col c [E.mk ao ac av ak, E.mk bo bc bv bk]).av] [(.var 0, .n 2), (.cell 0 0, .av (vv (.int .i64 w))), (.cell 0 1, .av (.p (.ps (ts.map trow))))] (vv (.int .u8 (judge ts (E.mk op col c [E.mk ao ac av ak, E.mk bo bc bv bk]) w).1)) [(.var 0, .n 2), (.cell 0 0, .av (vv (.int .i64 (judge ts (E.mk op col c [E.mk ao ac av ak, E.mk bo bc bv bk]) w).2))), (.cell 0 1, .av (.p (.ps (ts.map trow))))] := by
  refine sk Try.func56 ?_
  intro F G hn hG
  have ho1 : (op == 1) = false := by rcases hop with rfl <;> rfl
  have ho2 : (op == 2) = false := by rcases hop with rfl <;> rfl
  have ho7 : (op == 7) = false := by rcases hop with rfl <;> rfl
  have ho8 : (op == 8) = true := by subst hop; rfl
  have ho12 : (op == 12) = false := by rcases hop with rfl <;> rfl
  refine sq ?_
  refine rg 1000 ?_
  refine pr [0, 1, 3, 29, 30, 80, 81, 99, 100, 117, 118, 119] ?_
  refine sq ?_
  refine sq ?_
  refine rg 2000 ?_
  refine pr [0, 1, 3, 9, 10, 29, 30, 80, 81, 99, 100, 117, 118, 119] ?_
  refine k_block ?_
  refine sq ?_
  refine rg 3000 ?_
  refine pr [0, 1, 3, 9, 10, 12, 13, 29, 30, 80, 81, 99, 100, 117, 118, 119] ?_
  refine ce ?_
  refine sq ?_
  refine rg 8000 ?_
  refine pr [0, 1, 3, 9, 44, 45, 46, 80, 81, 99, 100, 117, 118, 119] ?_
  refine ce ?_
  refine k_skip ?_
  refine k_nil ?_
  show AK _ _ _ _ _ _
  refine sq ?_
  refine rg 10000 ?_
  refine pr [0, 1, 3, 9, 50, 80, 81, 99, 100, 117, 118, 119] ?_
  refine sq ?_
  refine sq ?_
  refine rg 11000 ?_
  refine pr [0, 1, 3, 9, 51, 80, 81, 99, 100, 117, 118, 119] ?_
  refine k_block ?_
  refine k_rounds 3 ?_
  show AK _ _ _ _ _ _
  refine sq ?_
  refine rg 12000 ?_
  refine pr [0, 1, 3, 9, 51, 80, 81, 99, 100, 117, 118, 119] ?_
  refine sq ?_
  refine ct ?_
  refine k_skip ?_
  refine sq ?_
  refine k_block ?_
  refine sq ?_
  refine rg 13000 ?_
  refine pr [0, 1, 3, 9, 51, 80, 81, 99, 100, 117, 118, 119] ?_
  refine rc 14000 ?_
  refine oc id (ha w) ?_
  refine oe 14100 ?_
  refine on ?_
  refine k_nil ?_
  show AK _ _ _ _ _ _
  refine rg 15000 ?_
  refine k_nil ?_
  show AK _ _ _ _ _ _
  refine sq ?_
  refine rg 1012000 ?_
  refine pr [0, 1, 3, 9, 51, 80, 81, 99, 100, 117, 118, 119] ?_
  refine sq ?_
  refine ct ?_
  refine k_skip ?_
  refine sq ?_
  refine k_block ?_
  refine sq ?_
  refine rg 1013000 ?_
  refine pr [0, 1, 3, 9, 51, 80, 81, 99, 100, 117, 118, 119] ?_
  refine rc 1014000 ?_
  refine oc id (hb ((judge ts (E.mk ao ac av ak) w).2)) ?_
  refine oe 1014100 ?_
  refine on ?_
  refine k_nil ?_
  show AK _ _ _ _ _ _
  refine rg 1015000 ?_
  refine k_nil ?_
  show AK _ _ _ _ _ _
  refine sq ?_
  refine rg 2012000 ?_
  refine pr [0, 1, 3, 9, 51, 80, 81, 99, 100, 117, 118, 119] ?_
  refine sq ?_
  refine ce ?_
  refine k_exit ?_
  show AK _ _ _ _ _ _
  refine sq ?_
  refine sq ?_
  refine rg 16000 ?_
  refine pr [0, 1, 3, 6, 8, 9, 66, 80, 81, 99, 100, 117, 118, 119] ?_
  refine k_block ?_
  refine sq ?_
  refine sq ?_
  refine rg 17000 ?_
  refine pr [0, 1, 3, 6, 8, 9, 66, 68, 69, 80, 81, 99, 100, 117, 118, 119] ?_
  refine ce ?_
  refine rg 18000 ?_
  refine pr [0, 1, 3, 6, 8, 9, 66, 68, 70, 80, 81, 99, 100, 117, 118, 119] ?_
  refine ct ?_
  refine sq ?_
  refine dr ?_
  refine de 19000 ?_
  refine dc id (spec104 ((judge ts (E.mk bo bc bv bk) (judge ts (E.mk ao ac av ak) w).2).2) (.ps (ts.map trow)) ((judge ts (E.mk ao ac av ak) w).1 == (judge ts (E.mk bo bc bv bk) (judge ts (E.mk ao ac av ak) w).2).1) 11) ?_
  refine dn ?_
  refine pr [0, 1, 3, 6, 8, 9, 103, 117, 118, 119] ?_
  refine sq ?_
  refine rg 20000 ?_
  refine pr [0, 1, 3, 6, 8, 9, 103, 117, 118, 119] ?_
  refine k_ret ?_
  show retQ _ _ _ _ _ _ _
  simp [*, judge, judgeL, at3]

attribute [local simp] E.av E.row_eq in
theorem spec56_if (ts : List Int) (op col : Int) (c : Val) (ao ac : Int) (av : Val) (ak : List E) (bo bc : Int) (bv : Val) (bk : List E) (eo ec : Int) (ev : Val) (ek : List E) (hop : op = 12) (ha : ∀ w : Int, Flat.Sp Try.prog 56 [.ptr 0 0, (E.mk ao ac av ak).av] [(.var 0, .n 2), (.cell 0 0, .av (vv (.int .i64 w))), (.cell 0 1, .av (.p (.ps (ts.map trow))))] (vv (.int .u8 (judge ts (E.mk ao ac av ak) w).1)) [(.var 0, .n 2), (.cell 0 0, .av (vv (.int .i64 (judge ts (E.mk ao ac av ak) w).2))), (.cell 0 1, .av (.p (.ps (ts.map trow))))]) (hb : ∀ w : Int, Flat.Sp Try.prog 56 [.ptr 0 0, (E.mk bo bc bv bk).av] [(.var 0, .n 2), (.cell 0 0, .av (vv (.int .i64 w))), (.cell 0 1, .av (.p (.ps (ts.map trow))))] (vv (.int .u8 (judge ts (E.mk bo bc bv bk) w).1)) [(.var 0, .n 2), (.cell 0 0, .av (vv (.int .i64 (judge ts (E.mk bo bc bv bk) w).2))), (.cell 0 1, .av (.p (.ps (ts.map trow))))]) (he : ∀ w : Int, Flat.Sp Try.prog 56 [.ptr 0 0, (E.mk eo ec ev ek).av] [(.var 0, .n 2), (.cell 0 0, .av (vv (.int .i64 w))), (.cell 0 1, .av (.p (.ps (ts.map trow))))] (vv (.int .u8 (judge ts (E.mk eo ec ev ek) w).1)) [(.var 0, .n 2), (.cell 0 0, .av (vv (.int .i64 (judge ts (E.mk eo ec ev ek) w).2))), (.cell 0 1, .av (.p (.ps (ts.map trow))))]) (w : Int) : Flat.Sp Try.prog 56 [.ptr 0 0, (E.mk op col c [E.mk ao ac av ak, E.mk bo bc bv bk, E.mk eo ec ev ek]).av] [(.var 0, .n 2), (.cell 0 0, .av (vv (.int .i64 w))), (.cell 0 1, .av (.p (.ps (ts.map trow))))] (vv (.int .u8 (judge ts (E.mk op col c [E.mk ao ac av ak, E.mk bo bc bv bk, E.mk eo ec ev ek]) w).1)) [(.var 0, .n 2), (.cell 0 0, .av (vv (.int .i64 (judge ts (E.mk op col c [E.mk ao ac av ak, E.mk bo bc bv bk, E.mk eo ec ev ek]) w).2))), (.cell 0 1, .av (.p (.ps (ts.map trow))))] := by
  refine sk Try.func56 ?_
  intro F G hn hG
  have ho1 : (op == 1) = false := by rcases hop with rfl <;> rfl
  have ho2 : (op == 2) = false := by rcases hop with rfl <;> rfl
  have ho7 : (op == 7) = false := by rcases hop with rfl <;> rfl
  have ho8 : (op == 8) = false := by rcases hop with rfl <;> rfl
  have ho12 : (op == 12) = true := by subst hop; rfl
  refine sq ?_
  refine rg 1000 ?_
  refine pr [0, 1, 3, 29, 30, 80, 81, 99, 100, 117, 118, 119] ?_
  refine sq ?_
  refine sq ?_
  refine rg 2000 ?_
  refine pr [0, 1, 3, 9, 10, 29, 30, 80, 81, 99, 100, 117, 118, 119] ?_
  refine k_block ?_
  refine sq ?_
  refine rg 3000 ?_
  refine pr [0, 1, 3, 9, 10, 12, 13, 29, 30, 80, 81, 99, 100, 117, 118, 119] ?_
  refine ce ?_
  refine sq ?_
  refine rg 8000 ?_
  refine pr [0, 1, 3, 9, 44, 45, 46, 80, 81, 99, 100, 117, 118, 119] ?_
  refine ce ?_
  refine k_skip ?_
  refine k_nil ?_
  show AK _ _ _ _ _ _
  refine sq ?_
  refine rg 10000 ?_
  refine pr [0, 1, 3, 9, 50, 80, 81, 99, 100, 117, 118, 119] ?_
  refine sq ?_
  refine sq ?_
  refine rg 11000 ?_
  refine pr [0, 1, 3, 9, 51, 80, 81, 99, 100, 117, 118, 119] ?_
  refine k_block ?_
  refine k_rounds 4 ?_
  show AK _ _ _ _ _ _
  refine sq ?_
  refine rg 12000 ?_
  refine pr [0, 1, 3, 9, 51, 80, 81, 99, 100, 117, 118, 119] ?_
  refine sq ?_
  refine ct ?_
  refine k_skip ?_
  refine sq ?_
  refine k_block ?_
  refine sq ?_
  refine rg 13000 ?_
  refine pr [0, 1, 3, 9, 51, 80, 81, 99, 100, 117, 118, 119] ?_
  refine rc 14000 ?_
  refine oc id (ha w) ?_
  refine oe 14100 ?_
  refine on ?_
  refine k_nil ?_
  show AK _ _ _ _ _ _
  refine rg 15000 ?_
  refine k_nil ?_
  show AK _ _ _ _ _ _
  refine sq ?_
  refine rg 1012000 ?_
  refine pr [0, 1, 3, 9, 51, 80, 81, 99, 100, 117, 118, 119] ?_
  refine sq ?_
  refine ct ?_
  refine k_skip ?_
  refine sq ?_
  refine k_block ?_
  refine sq ?_
  refine rg 1013000 ?_
  refine pr [0, 1, 3, 9, 51, 80, 81, 99, 100, 117, 118, 119] ?_
  refine rc 1014000 ?_
  refine oc id (hb ((judge ts (E.mk ao ac av ak) w).2)) ?_
  refine oe 1014100 ?_
  refine on ?_
  refine k_nil ?_
  show AK _ _ _ _ _ _
  refine rg 1015000 ?_
  refine k_nil ?_
  show AK _ _ _ _ _ _
  refine sq ?_
  refine rg 2012000 ?_
  refine pr [0, 1, 3, 9, 51, 80, 81, 99, 100, 117, 118, 119] ?_
  refine sq ?_
  refine ct ?_
  refine k_skip ?_
  refine sq ?_
  refine k_block ?_
  refine sq ?_
  refine rg 2013000 ?_
  refine pr [0, 1, 3, 9, 51, 80, 81, 99, 100, 117, 118, 119] ?_
  refine rc 2014000 ?_
  refine oc id (he ((judge ts (E.mk bo bc bv bk) (judge ts (E.mk ao ac av ak) w).2).2)) ?_
  refine oe 2014100 ?_
  refine on ?_
  refine k_nil ?_
  show AK _ _ _ _ _ _
  refine rg 2015000 ?_
  refine k_nil ?_
  show AK _ _ _ _ _ _
  refine sq ?_
  refine rg 3012000 ?_
  refine pr [0, 1, 3, 9, 51, 80, 81, 99, 100, 117, 118, 119] ?_
  refine sq ?_
  refine ce ?_
  refine k_exit ?_
  show AK _ _ _ _ _ _
  refine sq ?_
  refine sq ?_
  refine rg 16000 ?_
  refine pr [0, 1, 3, 6, 8, 9, 66, 80, 81, 99, 100, 117, 118, 119] ?_
  refine k_block ?_
  refine sq ?_
  refine sq ?_
  refine rg 17000 ?_
  refine pr [0, 1, 3, 6, 8, 9, 66, 68, 69, 80, 81, 99, 100, 117, 118, 119] ?_
  refine ce ?_
  refine rg 18000 ?_
  refine pr [0, 1, 3, 6, 8, 9, 66, 68, 70, 80, 81, 99, 100, 117, 118, 119] ?_
  refine ce ?_
  refine sq ?_
  refine rg 21000 ?_
  refine pr [0, 1, 3, 6, 8, 9, 81, 82, 83, 99, 100, 117, 118, 119] ?_
  refine ct ?_
  refine sq ?_
  refine cv [(.cell 0 0, vv (.int .i64 (unlessF ((judge ts (E.mk eo ec ev ek) (judge ts (E.mk bo bc bv bk) (judge ts (E.mk ao ac av ak) w).2).2).2) ((judge ts (E.mk ao ac av ak) w).1 == 1 && (judge ts (E.mk bo bc bv bk) (judge ts (E.mk ao ac av ak) w).2).1 == (judge ts (E.mk eo ec ev ek) (judge ts (E.mk bo bc bv bk) (judge ts (E.mk ao ac av ak) w).2).2).1) 11)))] ?_ ?_
  · skip
    rcases h0 : ((judge ts (E.mk ao ac av ak) w).1 == 1 : Bool) with _ | _
    · skip
      refine dr ?_
      refine de 22000 ?_
      iterate 7 (first | refine dp 22650 ?_ | refine ds ?_ | refine dt 22650 ?_)
      refine de 22700 ?_
      refine dc id (spec104 ((judge ts (E.mk eo ec ev ek) (judge ts (E.mk bo bc bv bk) (judge ts (E.mk ao ac av ak) w).2).2).2) (.ps (ts.map trow)) ((judge ts (E.mk ao ac av ak) w).1 == 1 && (judge ts (E.mk bo bc bv bk) (judge ts (E.mk ao ac av ak) w).2).1 == (judge ts (E.mk eo ec ev ek) (judge ts (E.mk bo bc bv bk) (judge ts (E.mk ao ac av ak) w).2).2).1) 11) ?_
      refine dn ?_
      refine k_nil ?_
      refine ⟨rfl, ?_, ?_, ?_⟩ <;> simp [*]
    · skip
      refine dr ?_
      refine de 1022000 ?_
      iterate 7 (first | refine dp 1022650 ?_ | refine ds ?_ | refine dt 1022650 ?_)
      refine de 1022700 ?_
      refine dc id (spec104 ((judge ts (E.mk eo ec ev ek) (judge ts (E.mk bo bc bv bk) (judge ts (E.mk ao ac av ak) w).2).2).2) (.ps (ts.map trow)) ((judge ts (E.mk ao ac av ak) w).1 == 1 && (judge ts (E.mk bo bc bv bk) (judge ts (E.mk ao ac av ak) w).2).1 == (judge ts (E.mk eo ec ev ek) (judge ts (E.mk bo bc bv bk) (judge ts (E.mk ao ac av ak) w).2).2).1) 11) ?_
      refine dn ?_
      refine k_nil ?_
      refine ⟨rfl, ?_, ?_, ?_⟩ <;> simp [*]
  refine pr [0, 1, 3, 6, 8, 9, 100, 117, 118, 119] ?_
  refine sq ?_
  refine rg 23000 ?_
  refine pr [0, 1, 3, 6, 8, 9, 103, 117, 118, 119] ?_
  refine k_ret ?_
  show retQ _ _ _ _ _ _ _
  simp [*, judge, judgeL, at3]

end Go.Proofs
end
section
set_option linter.unusedVariables false
set_option linter.unusedSimpArgs false
namespace Go.Proofs
open Go.Flat
set_option maxRecDepth 100000
set_option linter.unusedSimpArgs false
set_option linter.unusedVariables false
attribute [local simp] Bool.and_assoc Bool.or_assoc evalG evalX efD skF guardG guardL isCall stepL evalOp ev evs lk tmpsL app AV.ok fresh vv putCells insV ins del putL place Go.Flat.look fillC fillR getCells loadF storeF binF scalarBin intBin strBin isShift shiftBin unF lenF maxF minF rowsF appendF builtinF idxF natOf sliceP sliceF optEv Flat.cut overwrite toPV toPVs constAV scalarC scalarCs AV.cells TI.isAgg allSome andAll scalarEq buildable Go.Flat.lim retQ resL resAll resOne PartOf noTmp closedIn refs refs.refsL isSomeV hasB ids leA leA.leL renA renA.renL callB refsAll backL dropIds renS LiesAt injB ownB freshB memN locId insAll leA_refl leL_refl okS frzS frzA frzA.frzL evalD feet fine updCells cellsFrom memP footRf footWf noTmpU updIds opOps opIds idsA footR footW guardTs opTs dstTs callR callW renLoc renC inBlockQ thenQ Value.oneCell' IntKind.bits IntKind.signed
theorem okE_shape {op col : Int} {c : Val} {nk : Nat} (h : okE op col c nk = true) : (op = 1 ∧ nk = 0) ∨ (op = 2 ∧ nk = 0) ∨ ((op = 6 ∨ op = 11) ∧ nk = 1) ∨ ((op = 3 ∨ op = 4 ∨ op = 5 ∨ op = 9 ∨ op = 10) ∧ nk = 2) ∨ (op = 7 ∧ nk = 2) ∨ (op = 8 ∧ nk = 2) ∨ (op = 12 ∧ nk = 3) := by
  simp only [okE, okA, Bool.and_eq_true, beq_iff_eq, decide_eq_true_eq] at h
  obtain ⟨⟨h1, h2, h3⟩, _⟩ := h
  have : op = 1 ∨ op = 2 ∨ op = 3 ∨ op = 4 ∨ op = 5 ∨ op = 6 ∨ op = 7 ∨ op = 8 ∨ op = 9 ∨ op = 10 ∨ op = 11 ∨ op = 12 := by omega
  rcases this with rfl | rfl | rfl | rfl | rfl | rfl | rfl | rfl | rfl | rfl | rfl | rfl <;> simp [kidsOf] at h3 ⊢ <;> omega
theorem three_of_length {α : Type} {l : List α} (h : l.length = 3) : ∃ x y z, l = [x, y, z] := by
  match l, h with
  | [x, y, z], _ => exact ⟨x, y, z, rfl⟩
theorem spec56 (ts : List Int) (hts : ts.length ≤ Flat.lim) : ∀ e : E, e.good → ∀ w : Int, Flat.Sp Try.prog 56 [.ptr 0 0, e.av] [(.var 0, .n 2), (.cell 0 0, .av (vv (.int .i64 w))), (.cell 0 1, .av (.p (.ps (ts.map trow))))] (vv (.int .u8 (judge ts e w).1)) [(.var 0, .n 2), (.cell 0 0, .av (vv (.int .i64 (judge ts e w).2))), (.cell 0 1, .av (.p (.ps (ts.map trow))))] := by
  refine E.ind fun op col c kids ih hg w => ?_
  rw [E.good] at hg
  obtain ⟨hok, hgk⟩ := hg
  have ih' : ∀ k ∈ kids, ∀ w, _ := fun k hk => ih k hk (E.goodL_mem hgk k hk)
  rcases okE_shape hok with ⟨rfl, hn⟩ | ⟨rfl, hn⟩ | ⟨ho, hn⟩ | ⟨ho, hn⟩ | ⟨ho, hn⟩ | ⟨ho, hn⟩ | ⟨ho, hn⟩
  · obtain rfl := List.length_eq_zero_iff.1 hn
    exact spec56_col ts hts col c w
  · obtain rfl := List.length_eq_zero_iff.1 hn
    exact spec56_con ts col c w
  · obtain ⟨⟨ao, ac, av, ak⟩, rfl⟩ := List.length_eq_one_iff.1 hn
    exact spec56_one ts op col c ao ac av ak ho (ih' _ (by simp)) w
  · obtain ⟨⟨ao, ac, av, ak⟩, ⟨bo, bc, bv, bk⟩, rfl⟩ := Flat.two_of_length hn
    exact spec56_two ts op col c ao ac av ak bo bc bv bk ho (ih' _ (by simp)) (ih' _ (by simp)) w
  · obtain ⟨⟨ao, ac, av, ak⟩, ⟨bo, bc, bv, bk⟩, rfl⟩ := Flat.two_of_length hn
    exact spec56_cmp7 ts op col c ao ac av ak bo bc bv bk ho (ih' _ (by simp)) (ih' _ (by simp)) w
  · obtain ⟨⟨ao, ac, av, ak⟩, ⟨bo, bc, bv, bk⟩, rfl⟩ := Flat.two_of_length hn
    exact spec56_cmp8 ts op col c ao ac av ak bo bc bv bk ho (ih' _ (by simp)) (ih' _ (by simp)) w
  · obtain ⟨⟨ao, ac, av, ak⟩, ⟨bo, bc, bv, bk⟩, ⟨eo, ec, ev, ek⟩, rfl⟩ := three_of_length hn
    exact spec56_if ts op col c ao ac av ak bo bc bv bk eo ec ev ek ho (ih' _ (by simp)) (ih' _ (by simp)) (ih' _ (by simp)) w

theorem lookL_mono {l : List E} (h : ∀ k ∈ l, ∀ d (s : Srv), (s.2.2 = true → (look k d s).2.2 = true) ∧ s.2.1 ≤ (look k d s).2.1) : ∀ d (s : Srv), (s.2.2 = true → (lookL l d s).2.2 = true) ∧ s.2.1 ≤ (lookL l d s).2.1 := by
  induction l with
  | nil => intro d s; simp [lookL]
  | cons k r ih =>
    intro d s
    obtain ⟨h1, h2⟩ := h k (by simp) d s
    obtain ⟨g1, g2⟩ := ih (fun k hk => h k (by simp [hk])) d (look k d s)
    rw [lookL]
    exact ⟨fun e => g1 (h1 e), Int.le_trans h2 g2⟩
theorem look_mono : ∀ (e : E) (d : Int) (s : Srv), (s.2.2 = true → (look e d s).2.2 = true) ∧ s.2.1 ≤ (look e d s).2.1 := by
  refine E.ind fun op col c kids ih d s => ?_
  rw [look]
  have hmax : s.2.1 ≤ (if d > s.2.1 then d else s.2.1) := by split <;> omega
  split
  · exact ⟨fun h => by simp [h], hmax⟩
  · obtain ⟨g1, g2⟩ := lookL_mono ih (IntKind.i64.wrap (d + 1)) (IntKind.i64.wrap (s.1 + 1), (if d > s.2.1 then d else s.2.1), s.2.2 || !okE op col c kids.length)
    exact ⟨fun h => g1 (by simp [h]), Int.le_trans hmax g2⟩
theorem lookL_good {l : List E} (h : ∀ k ∈ l, ∀ d (s : Srv), (look k d s).2.2 = false → (look k d s).2.1 ≤ 16 → k.good) : ∀ d (s : Srv), (lookL l d s).2.2 = false → (lookL l d s).2.1 ≤ 16 → E.goodL l := by
  induction l with
  | nil => intro d s _ _; simp [E.goodL]
  | cons k r ih =>
    intro d s h1 h2
    rw [lookL] at h1 h2
    obtain ⟨g1, g2⟩ := lookL_mono (l := r) (fun k _ => look_mono k) d (look k d s)
    rw [E.goodL]
    refine ⟨h k (by simp) d s ?_ (Int.le_trans g2 h2), ih (fun k hk => h k (by simp [hk])) d _ h1 h2⟩
    cases hq : (look k d s).2.2 with
    | false => rfl
    | true => rw [g1 hq] at h1; simp at h1
theorem look_good : ∀ (e : E) (d : Int) (s : Srv), (look e d s).2.2 = false → (look e d s).2.1 ≤ 16 → e.good := by
  refine E.ind fun op col c kids ih d s h1 h2 => ?_
  rw [look] at h1 h2
  rw [E.good]
  split at h1
  · rename_i hc
    rw [if_pos hc] at h2
    simp only [Bool.or_eq_false_iff, Bool.not_eq_false'] at h1
    simp only [Bool.or_eq_true, Bool.not_eq_true', decide_eq_true_eq] at hc
    rcases hc with hc | hc
    · rw [h1.2] at hc; simp at hc
    · simp only at h2
      split at h2 <;> omega
  · rename_i hc
    rw [if_neg hc] at h2
    simp only [Bool.or_eq_true, Bool.not_eq_true', decide_eq_true_eq, not_or, Bool.not_eq_false] at hc
    exact ⟨hc.1, lookL_good ih _ _ h1 h2⟩
theorem checkE_good {e : E} (h : checkE e = 0) : e.good := by
  unfold checkE at h
  simp only at h
  split at h
  · simp at h
  · rename_i h1
    split at h
    · simp at h
    · split at h
      · simp at h
      · rename_i h3
        exact look_good e 1 (0, 0, false) (by simpa using h1) (by simpa using h3)
def inferE (ts : List Int) (e : E) : Int × Int :=
  if checkE e != 0 then (0, checkE e) else if (judge ts e 0).2 != 0 then (0, (judge ts e 0).2) else ((judge ts e 0).1, 0)

attribute [local simp] E.av in
theorem spec26 (ts : List Int) (hts : ts.length ≤ Flat.lim) (op col : Int) (c : Val) (kids : List E) : Flat.Sp Try.prog 26 [(E.mk op col c kids).av, .p (.ps (ts.map trow))] [] (.tup [vv (.int .u8 (inferE ts (E.mk op col c kids)).1), vv (.int .i64 (inferE ts (E.mk op col c kids)).2)]) [] := by
  refine sk Try.func26 ?_
  intro F G hn hG
  refine sq ?_
  refine rg 1000 ?_
  refine pr [1, 3, 4, 32] ?_
  refine sq ?_
  refine sq ?_
  refine rc 2000 ?_
  refine oc id (spec22 op col c kids) ?_
  refine oe 2100 ?_
  refine on ?_
  refine pr [1, 3, 4, 9, 11, 32] ?_
  refine sq ?_
  refine rg 3000 ?_
  refine pr [1, 3, 4, 9, 12, 32] ?_
  refine cd ?_ ?_
  · intro h12_1
    have h12_1 : (checkE (E.mk op col c kids) != 0) = true := by simpa using h12_1
    refine sq ?_
    refine rg 4000 ?_
    refine pr [1, 3, 4, 6, 7, 9, 14, 32] ?_
    refine k_ret ?_
    show retQ _ _ _ _ _ _ _
    simp [*, inferE]
  · intro h12_1
    have h12_1 : (checkE (E.mk op col c kids) != 0) = false := by simpa using h12_1
    have hgood := checkE_good (e := E.mk op col c kids) (by simpa using h12_1)
    refine k_skip ?_
    refine sq ?_
    refine rg 5000 ?_
    refine pr [2, 3, 4, 6, 7, 9, 17, 32] ?_
    refine sq ?_
    refine rc 6000 ?_
    refine oc (fun _ => 5002) (spec56 ts hts (E.mk op col c kids) hgood 0) ?_
    refine oe 6100 ?_
    refine on ?_
    refine pr [4, 6, 7, 9, 20, 32] ?_
    refine sq ?_
    refine sq ?_
    refine rg 7000 ?_
    refine pr [4, 6, 7, 9, 25, 32] ?_
    refine cd ?_ ?_
    · intro h25_2
      have h25_2 : ((judge ts (E.mk op col c kids) 0).2 != 0) = true := by simpa using h25_2
      refine sq ?_
      refine dr ?_
      refine de 8000 ?_
      refine dn ?_
      refine pr [4, 6, 8, 9, 31, 32] ?_
      refine k_ret ?_
      show retQ _ _ _ _ _ _ _
      simp [*, inferE]
    · intro h25_2
      have h25_2 : ((judge ts (E.mk op col c kids) 0).2 != 0) = false := by simpa using h25_2
      refine k_skip ?_
      refine sq ?_
      refine rg 9000 ?_
      refine pr [4, 6] ?_
      refine k_ret ?_
      show retQ _ _ _ _ _ _ _
      simp [*, inferE]

end Go.Proofs
end
section
set_option linter.unusedVariables false
set_option linter.unusedSimpArgs false
namespace Go.Proofs
open Go.Flat
set_option maxRecDepth 100000
set_option linter.unusedSimpArgs false
set_option linter.unusedVariables false
attribute [local simp] Bool.and_assoc Bool.or_assoc evalG evalX efD skF guardG guardL isCall stepL evalOp ev evs lk tmpsL app AV.ok fresh vv putCells insV ins del putL place Go.Flat.look fillC fillR getCells loadF storeF binF scalarBin intBin strBin isShift shiftBin unF lenF maxF minF rowsF appendF builtinF idxF natOf sliceP sliceF optEv Flat.cut overwrite toPV toPVs constAV scalarC scalarCs AV.cells TI.isAgg allSome andAll scalarEq buildable Go.Flat.lim retQ resL resAll resOne PartOf noTmp closedIn refs refs.refsL isSomeV hasB ids leA leA.leL renA renA.renL callB refsAll backL dropIds renS LiesAt injB ownB freshB memN locId insAll leA_refl leL_refl okS frzS frzA frzA.frzL evalD feet fine updCells cellsFrom memP footRf footWf noTmpU updIds opOps opIds idsA footR footW guardTs opTs dstTs callR callW renLoc renC inBlockQ thenQ Value.oneCell' IntKind.bits IntKind.signed
/-- A plan. -/
inductive Pl where
  | mk (k n : Int) (kids : List Pl) (ex : List E) (cols wth : List Int) (agg rds : Int)
mutual
def Pl.row : Pl → List PV
  | .mk k n kids ex cols wth agg rds => [.v (.int .u8 k), .v (.int .i64 n), .ps (Pl.rows kids), .ps (ex.map E.row), .ps (cols.map irow), .ps (wth.map irow), .v (.int .u8 agg), .v (.int .i64 rds)]
def Pl.rows : List Pl → List (List PV)
  | [] => []
  | e :: r => e.row :: Pl.rows r
end
theorem Pl.rows_eq : ∀ l : List Pl, Pl.rows l = l.map Pl.row
  | [] => by simp [Pl.rows]
  | e :: r => by simp [Pl.rows, Pl.rows_eq r]
theorem Pl.row_eq (k n : Int) (kids : List Pl) (ex : List E) (cols wth : List Int) (agg rds : Int) : (Pl.mk k n kids ex cols wth agg rds).row = [.v (.int .u8 k), .v (.int .i64 n), .ps (kids.map Pl.row), .ps (ex.map E.row), .ps (cols.map irow), .ps (wth.map irow), .v (.int .u8 agg), .v (.int .i64 rds)] := by rw [Pl.row, Pl.rows_eq]
theorem Pl.row_len (p : Pl) : p.row.length = 8 := by cases p; rw [Pl.row_eq]; rfl
def Pl.av : Pl → AV
  | .mk k n kids ex cols wth agg rds => .agg [vv (.int .u8 k), vv (.int .i64 n), .p (.ps (kids.map Pl.row)), .p (.ps (ex.map E.row)), .p (.ps (cols.map irow)), .p (.ps (wth.map irow)), vv (.int .u8 agg), vv (.int .i64 rds)]
theorem Pl.ind {p : Pl → Prop} (h : ∀ k n kids ex cols wth agg rds, (∀ x ∈ kids, p x) → p (.mk k n kids ex cols wth agg rds)) : ∀ e, p e := by
  intro e
  induction e using Pl.rec (motive_2 := fun l => ∀ k ∈ l, p k) with
  | mk k n kids ex cols wth agg rds ih => exact h k n kids ex cols wth agg rds ih
  | nil => rename_i k hk; simp at hk
  | cons e r h1 h2 =>
    rename_i k hk
    rcases List.mem_cons.1 hk with rfl | hk
    · exact h1
    · exact h2 k hk
def manyP (k nk : Int) : Bool := if k == 1 || k == 2 then nk == 0 else if k == 7 || k == 10 then nk == 2 else if k == 5 then decide (0 < nk) else nk == 1
def bareN (k n : Int) : Int := if k == 1 || k == 2 || k == 8 then n else 0
def bareE (k : Int) (ex : List E) : List E := if k == 3 || k == 4 then ex else []
def bareC (k : Int) (c : List Int) : List Int := if k == 7 || k == 8 then c else []
def bareW (k : Int) (c : List Int) : List Int := if k == 7 then c else []
def bareA (k a : Int) : Int := if k == 8 then a else 0
def bareR (k r : Int) : Int := if k == 10 then r else 0
def okP1 (k : Int) (nk : Nat) : Bool := decide (0 < k) && (decide (k < 11) && manyP k nk)
def okP2 (k n : Int) (nk : Nat) (ex : List E) (cols wth : List Int) (agg rds : Int) : Bool := okP1 k nk && ((n == bareN k n) && ((((ex.length : Int)) == ((bareE k ex).length : Int)) && ((((cols.length : Int)) == ((bareC k cols).length : Int)) && ((((wth.length : Int)) == ((bareW k wth).length : Int)) && ((agg == bareA k agg) && (rds == bareR k rds))))))
def formedP (k n : Int) (nk : Nat) (ex : List E) (cols wth : List Int) (agg rds : Int) : Bool :=
  if k == 4 then okP2 k n nk ex cols wth agg rds && ((ex.length : Int) == 1)
  else if k == 8 then okP2 k n nk ex cols wth agg rds && (decide (0 < agg) && (decide (agg < 6) && ((n == 0) || agg != 1)))
  else if k == 10 then okP2 k n nk ex cols wth agg rds && (decide (1 ≤ rds) && decide (rds ≤ 16))
  else okP2 k n nk ex cols wth agg rds

theorem spec168 (k nk : Int) : Flat.Sp Try.prog 168 [vv (.int .u8 k), vv (.int .i64 nk)] [] (vv (.bool (manyP k nk))) [] := by
  refine sk Try.func168 ?_
  intro F G hn hG
  refine sq ?_
  refine rg 1000 ?_
  refine pr [0, 2, 4, 22] ?_
  refine sq ?_
  refine sq ?_
  refine rg 2000 ?_
  refine pr [1, 2, 4, 22] ?_
  refine k_block ?_
  refine sq ?_
  refine sq ?_
  refine rg 3000 ?_
  refine pr [1, 2, 4, 7, 8, 22] ?_
  refine cd ?_ ?_
  · intro h6_1
    refine k_skip ?_
    refine ct ?_
    refine sq ?_
    refine rg 5000 ?_
    refine pr [1, 2, 4, 5, 20, 22] ?_
    refine k_ret ?_
    show retQ _ _ _ _ _ _ _
    simp [*, manyP]
  · intro h6_1
    refine rg 4000 ?_
    refine pr [1, 2, 4, 7, 9, 22] ?_
    refine cd ?_ ?_
    · intro h6_2
      refine sq ?_
      refine rg 5000 ?_
      refine pr [1, 2, 4, 5, 20, 22] ?_
      refine k_ret ?_
      show retQ _ _ _ _ _ _ _
      simp [*, manyP]
    · intro h6_2
      refine sq ?_
      refine sq ?_
      refine rg 6000 ?_
      refine pr [1, 2, 4, 6, 11, 12, 13, 22] ?_
      refine cd ?_ ?_
      · intro h11_3
        refine k_skip ?_
        refine ct ?_
        refine sq ?_
        refine rg 8000 ?_
        refine pr [1, 2, 4, 5, 20, 22] ?_
        refine k_ret ?_
        show retQ _ _ _ _ _ _ _
        simp [*, manyP]
      · intro h11_3
        refine rg 7000 ?_
        refine pr [1, 2, 4, 6, 11, 12, 14, 22] ?_
        refine cd ?_ ?_
        · intro h11_4
          refine sq ?_
          refine rg 8000 ?_
          refine pr [1, 2, 4, 5, 20, 22] ?_
          refine k_ret ?_
          show retQ _ _ _ _ _ _ _
          simp [*, manyP]
        · intro h11_4
          refine sq ?_
          refine rg 9000 ?_
          refine pr [1, 2, 4, 5, 16, 17, 18, 22] ?_
          refine cd ?_ ?_
          · intro h16_5
            refine sq ?_
            refine rg 10000 ?_
            refine pr [1, 2, 4, 5, 20, 22] ?_
            refine k_ret ?_
            show retQ _ _ _ _ _ _ _
            simp [*, manyP]
          · intro h16_5
            refine k_skip ?_
            refine k_nil ?_
            show AK _ _ _ _ _ _
            refine sq ?_
            refine rg 11000 ?_
            refine pr [4, 5] ?_
            refine k_ret ?_
            show retQ _ _ _ _ _ _ _
            simp [*, manyP]

attribute [local simp] Pl.av in
theorem spec167 (k m : Int) (kids : List Pl) (ex : List E) (cols wth : List Int) (agg rds : Int) : Flat.Sp Try.prog 167 [(Pl.mk k m kids ex cols wth agg rds).av] [] (.agg [vv (.int .u8 k), vv (.int .i64 (bareN k m)), .p (.ps (kids.map Pl.row)), .p (.ps ((bareE k ex).map E.row)), .p (.ps ((bareC k cols).map irow)), .p (.ps ((bareW k wth).map irow)), vv (.int .u8 (bareA k agg)), vv (.int .i64 (bareR k rds))]) [] := by
  refine sk Try.func167 ?_
  intro F G hn hG
  refine sq ?_
  refine rg 1000 ?_
  refine pr [1, 48] ?_
  refine sq ?_
  refine rg 2000 ?_
  refine pr [1, 4, 9, 48] ?_
  refine sq ?_
  refine sq ?_
  refine rg 3000 ?_
  refine pr [1, 4, 10, 48] ?_
  refine k_block ?_
  refine sq ?_
  refine sq ?_
  refine rg 4000 ?_
  refine pr [1, 4, 10, 12, 13, 48] ?_
  refine cd ?_ ?_
  · intro h11_1
    obtain rfl := eq_of_beq h11_1
    refine k_skip ?_
    refine ct ?_
    refine rg 6000 ?_
    refine k_nil ?_
    show AK _ _ _ _ _ _
    refine sq ?_
    refine rg 16000 ?_
    refine pr [2, 3] ?_
    refine k_ret ?_
    show retQ _ _ _ _ _ _ _
    simp [*, bareN, bareE, bareC, bareW, bareA, bareR]
  · intro h11_1
    refine rg 5000 ?_
    refine pr [1, 4, 10, 12, 14, 48] ?_
    refine cd ?_ ?_
    · intro h11_2
      obtain rfl := eq_of_beq h11_2
      refine rg 6000 ?_
      refine k_nil ?_
      show AK _ _ _ _ _ _
      refine sq ?_
      refine rg 16000 ?_
      refine pr [2, 3] ?_
      refine k_ret ?_
      show retQ _ _ _ _ _ _ _
      simp [*, bareN, bareE, bareC, bareW, bareA, bareR]
    · intro h11_2
      refine sq ?_
      refine sq ?_
      refine rg 7000 ?_
      refine pr [1, 4, 10, 11, 17, 18, 19, 48] ?_
      refine cd ?_ ?_
      · intro h17_3
        obtain rfl := eq_of_beq h17_3
        refine k_skip ?_
        refine ct ?_
        refine rg 9000 ?_
        refine k_nil ?_
        show AK _ _ _ _ _ _
        refine sq ?_
        refine rg 16000 ?_
        refine pr [2, 3] ?_
        refine k_ret ?_
        show retQ _ _ _ _ _ _ _
        simp [*, bareN, bareE, bareC, bareW, bareA, bareR]
      · intro h17_3
        refine rg 8000 ?_
        refine pr [1, 4, 10, 11, 17, 18, 20, 48] ?_
        refine cd ?_ ?_
        · intro h17_4
          obtain rfl := eq_of_beq h17_4
          refine rg 9000 ?_
          refine k_nil ?_
          show AK _ _ _ _ _ _
          refine sq ?_
          refine rg 16000 ?_
          refine pr [2, 3] ?_
          refine k_ret ?_
          show retQ _ _ _ _ _ _ _
          simp [*, bareN, bareE, bareC, bareW, bareA, bareR]
        · intro h17_4
          refine sq ?_
          refine rg 10000 ?_
          refine pr [1, 4, 10, 11, 23, 24, 25, 48] ?_
          refine cd ?_ ?_
          · intro h23_5
            obtain rfl := eq_of_beq h23_5
            refine dr ?_
            refine de 11000 ?_
            refine dn ?_
            refine k_nil ?_
            show AK _ _ _ _ _ _
            refine sq ?_
            refine rg 16000 ?_
            refine pr [2, 3] ?_
            refine k_ret ?_
            show retQ _ _ _ _ _ _ _
            simp [*, bareN, bareE, bareC, bareW, bareA, bareR]
          · intro h23_5
            refine sq ?_
            refine rg 12000 ?_
            refine pr [1, 4, 10, 11, 31, 32, 33, 48] ?_
            refine cd ?_ ?_
            · intro h31_6
              obtain rfl := eq_of_beq h31_6
              refine dr ?_
              refine de 13000 ?_
              refine dn ?_
              refine k_nil ?_
              show AK _ _ _ _ _ _
              refine sq ?_
              refine rg 16000 ?_
              refine pr [2, 3] ?_
              refine k_ret ?_
              show retQ _ _ _ _ _ _ _
              simp [*, bareN, bareE, bareC, bareW, bareA, bareR]
            · intro h31_6
              refine sq ?_
              refine rg 14000 ?_
              refine pr [1, 4, 42, 43, 44, 48] ?_
              refine cd ?_ ?_
              · intro h42_7
                obtain rfl := eq_of_beq h42_7
                refine rg 15000 ?_
                refine k_nil ?_
                show AK _ _ _ _ _ _
                refine sq ?_
                refine rg 16000 ?_
                refine pr [2, 3] ?_
                refine k_ret ?_
                show retQ _ _ _ _ _ _ _
                simp [*, bareN, bareE, bareC, bareW, bareA, bareR]
              · intro h42_7
                refine k_skip ?_
                refine k_nil ?_
                show AK _ _ _ _ _ _
                refine sq ?_
                refine rg 16000 ?_
                refine pr [2, 3] ?_
                refine k_ret ?_
                show retQ _ _ _ _ _ _ _
                simp [*, bareN, bareE, bareC, bareW, bareA, bareR]

attribute [local simp] Pl.av in
set_option maxHeartbeats 2000000 in
theorem spec120 (k m : Int) (kids : List Pl) (ex : List E) (cols wth : List Int) (agg rds : Int) : Flat.Sp Try.prog 120 [(Pl.mk k m kids ex cols wth agg rds).av] [] (vv (.bool (formedP k m kids.length ex cols wth agg rds))) [] := by
  refine sk Try.func120 ?_
  intro F G hn hG
  refine sq ?_
  refine rg 1000 ?_
  refine pr [1, 120] ?_
  refine sq ?_
  refine rc 2000 ?_
  refine oc id (spec167 k m kids ex cols wth agg rds) ?_
  refine oe 2100 ?_
  refine on ?_
  refine pr [1, 5, 7, 120] ?_
  refine sq ?_
  refine cv [(.tmp 4, vv (.bool (okP1 k kids.length)))] ?_ ?_
  · skip
    refine rc 3000 ?_ (h := by simp [*, okP1]; exact is_rfl _)
    iterate 3 (first | refine gp 3250 ?_ (he := by intro hgg; (try simp only [Bool.and_eq_true] at hgg); simp [*, okP1]; exact is_rfl _) | refine os ?_ | refine gt 3250 ?_ (he := by simp [*, okP1]; exact is_rfl _))
    refine oe 3300 ?_ (h := by simp [*, okP1]; exact is_rfl _)
    iterate 5 (first | refine gp 3750 ?_ (he := by intro hgg; (try simp only [Bool.and_eq_true] at hgg); simp [*, okP1]; exact is_rfl _) | refine os ?_ | refine gt 3750 ?_ (he := by simp [*, okP1]; exact is_rfl _))
    refine og (fun hg => spec168 k kids.length) ?_ (hf := by intro hgg; (try simp only [Bool.and_eq_true] at hgg); simp [*, okP1]; exact is_rfl _) (hx := by intro hgg; (try simp only [Bool.and_eq_true] at hgg); simp [*, okP1]; exact is_rfl _) (hargs := by intro hgg; (try simp only [Bool.and_eq_true] at hgg); simp [*, okP1]) (hd := by simp [*, okP1]; exact is_rfl _)
    refine oe 3900 ?_ (h := by simp [*, okP1]; exact is_rfl _)
    refine on ?_
    refine k_nil ?_
    refine ⟨rfl, ?_, ?_, ?_⟩ <;> simp [*, okP1]
  refine pr [1, 5, 23, 120] ?_
  refine sq ?_
  refine cv [(.tmp 4, vv (.bool (okP2 k m kids.length ex cols wth agg rds)))] ?_ ?_
  · skip
    refine rc 4000 ?_ (h := by simp [*, okP2]; exact is_rfl _)
    iterate 5 (first | refine gp 4450 ?_ (he := by intro hgg; (try simp only [Bool.and_eq_true] at hgg); simp [*, okP2]; exact is_rfl _) | refine os ?_ | refine gt 4450 ?_ (he := by simp [*, okP2]; exact is_rfl _))
    refine oe 4500 ?_ (h := by simp [*, okP2]; exact is_rfl _)
    iterate 7 (first | refine gp 5150 ?_ (he := by intro hgg; (try simp only [Bool.and_eq_true] at hgg); simp [*, okP2]; exact is_rfl _) | refine os ?_ | refine gt 5150 ?_ (he := by simp [*, okP2]; exact is_rfl _))
    refine oe 5200 ?_ (h := by simp [*, okP2]; exact is_rfl _)
    iterate 7 (first | refine gp 5850 ?_ (he := by intro hgg; (try simp only [Bool.and_eq_true] at hgg); simp [*, okP2]; exact is_rfl _) | refine os ?_ | refine gt 5850 ?_ (he := by simp [*, okP2]; exact is_rfl _))
    refine oe 5900 ?_ (h := by simp [*, okP2]; exact is_rfl _)
    iterate 7 (first | refine gp 6550 ?_ (he := by intro hgg; (try simp only [Bool.and_eq_true] at hgg); simp [*, okP2]; exact is_rfl _) | refine os ?_ | refine gt 6550 ?_ (he := by simp [*, okP2]; exact is_rfl _))
    refine oe 6600 ?_ (h := by simp [*, okP2]; exact is_rfl _)
    iterate 5 (first | refine gp 7050 ?_ (he := by intro hgg; (try simp only [Bool.and_eq_true] at hgg); simp [*, okP2]; exact is_rfl _) | refine os ?_ | refine gt 7050 ?_ (he := by simp [*, okP2]; exact is_rfl _))
    refine oe 7100 ?_ (h := by simp [*, okP2]; exact is_rfl _)
    iterate 5 (first | refine gp 7550 ?_ (he := by intro hgg; (try simp only [Bool.and_eq_true] at hgg); simp [*, okP2]; exact is_rfl _) | refine os ?_ | refine gt 7550 ?_ (he := by simp [*, okP2]; exact is_rfl _))
    refine oe 7600 ?_ (h := by simp [*, okP2]; exact is_rfl _)
    refine on ?_
    refine k_nil ?_
    refine ⟨rfl, ?_, ?_, ?_⟩ <;> simp [*, okP2]
  refine pr [1, 3, 4, 5, 72, 120] ?_
  refine sq ?_
  refine sq ?_
  refine rg 5000 ?_
  refine pr [1, 3, 4, 5, 73, 120] ?_
  refine k_block ?_
  refine sq ?_
  refine rg 6000 ?_
  refine pr [1, 3, 4, 5, 73, 75, 76, 120] ?_
  refine cd ?_ ?_
  · intro h74_1
    refine rc 7000 ?_
    iterate 4 (first | refine gp 7350 ?_ | refine os ?_ | refine gt 7350 ?_)
    refine oe 7400 ?_
    refine on ?_
    refine k_nil ?_
    show AK _ _ _ _ _ _
    refine sq ?_
    refine rg 12000 ?_
    refine pr [2, 3] ?_
    refine k_ret ?_
    show retQ _ _ _ _ _ _ _
    simp [*, formedP]
  · intro h74_1
    refine sq ?_
    refine rg 8000 ?_
    refine pr [1, 3, 4, 5, 73, 74, 83, 84, 85, 120] ?_
    refine cd ?_ ?_
    · intro h83_2
      refine rc 9000 ?_
      iterate 3 (first | refine gp 9250 ?_ | refine os ?_ | refine gt 9250 ?_)
      refine oe 9300 ?_
      iterate 3 (first | refine gp 9550 ?_ | refine os ?_ | refine gt 9550 ?_)
      refine oe 9600 ?_
      iterate 8 (first | refine gp 10350 ?_ | refine os ?_ | refine gt 10350 ?_)
      refine oe 10400 ?_
      refine on ?_
      refine k_nil ?_
      show AK _ _ _ _ _ _
      refine sq ?_
      refine rg 12000 ?_
      refine pr [2, 3] ?_
      refine k_ret ?_
      show retQ _ _ _ _ _ _ _
      simp [*, formedP]
    · intro h83_2
      refine sq ?_
      refine rg 10000 ?_
      refine pr [1, 3, 4, 5, 106, 107, 108, 120] ?_
      refine cd ?_ ?_
      · intro h106_3
        refine rc 11000 ?_
        iterate 3 (first | refine gp 11250 ?_ | refine os ?_ | refine gt 11250 ?_)
        refine oe 11300 ?_
        iterate 3 (first | refine gp 11550 ?_ | refine os ?_ | refine gt 11550 ?_)
        refine oe 11600 ?_
        refine on ?_
        refine k_nil ?_
        show AK _ _ _ _ _ _
        refine sq ?_
        refine rg 12000 ?_
        refine pr [2, 3] ?_
        refine k_ret ?_
        show retQ _ _ _ _ _ _ _
        simp [*, formedP]
      · intro h106_3
        refine k_skip ?_
        refine k_nil ?_
        show AK _ _ _ _ _ _
        refine sq ?_
        refine rg 12000 ?_
        refine pr [2, 3] ?_
        refine k_ret ?_
        show retQ _ _ _ _ _ _ _
        simp [*, formedP]

/-- All lists of a plan are short. -/
def Bnd : Nat := 1048576
mutual
def Pl.bnd : Pl → Prop
  | .mk _ _ kids ex cols wth _ _ => kids.length ≤ Bnd ∧ ex.length ≤ Bnd ∧ cols.length ≤ Bnd ∧ wth.length ≤ Bnd ∧ Pl.bndL kids
def Pl.bndL : List Pl → Prop
  | [] => True
  | e :: r => e.bnd ∧ Pl.bndL r
end
theorem Pl.bndL_mem : ∀ {l : List Pl}, Pl.bndL l → ∀ k ∈ l, k.bnd
  | [], _, k, h => by simp at h
  | e :: r, h, k, hk => by
    simp only [Pl.bndL] at h
    rcases List.mem_cons.1 hk with rfl | hk
    · exact h.1
    · exact Pl.bndL_mem h.2 k hk
theorem Bnd_lim {n : Nat} (h : n ≤ Bnd) : n ≤ Flat.lim := by simp only [Bnd, Flat.lim] at *; omega
abbrev PSrv := Int × Int × Int × Bool × Bool
def exF (r : Bool × Bool) (e : E) : Bool × Bool := (r.1 && checkE e != 4, r.2 || checkE e == 2)
def exL (ex : List E) (r : Bool × Bool) : Bool × Bool := ex.foldl exF r
theorem exL_take {ex : List E} {r : Bool × Bool} {i : Nat} {x : E} (h : ex[i]? = some x) : exL (ex.take (i + 1)) r = exF (exL (ex.take i) r) x := by
  simp [exL, List.take_add_one, h, List.foldl_append]
def morP (k i : Int) : Int := if k == 10 && i == 1 then 1 else 0
mutual
def plook : Pl → Int → Int → PSrv → PSrv
  | .mk k n kids ex cols wth agg rds, d, l, s =>
    let r := exL ex (formedP k n kids.length ex cols wth agg rds, s.2.2.2.2)
    let s := (IntKind.i64.wrap (s.1 + 1), (if d > s.2.1 then d else s.2.1), (if l > s.2.2.1 then l else s.2.2.1), s.2.2.2.1 || !r.1, r.2)
    if !r.1 || decide (d > 16) then s else plookL kids k 0 d l s
def plookL : List Pl → Int → Int → Int → Int → PSrv → PSrv
  | [], _, _, _, _, s => s
  | x :: r, k, i, d, l, s => plookL r k (i + 1) d l (plook x (IntKind.i64.wrap (d + 1)) (IntKind.i64.wrap (l + morP k i)) s)
end
theorem plookL_append (k d l : Int) : ∀ (a r : List Pl) (i : Int) (s : PSrv), plookL (a ++ r) k i d l s = plookL r k (i + a.length) d l (plookL a k i d l s)
  | [], r, i, s => by simp [plookL]
  | e :: a, r, i, s => by
    simp only [List.cons_append, plookL, plookL_append k d l a r, List.length_cons]
    congr 1
    omega
theorem plookL_take {kids : List Pl} {k d l : Int} {s : PSrv} {i : Nat} {x : Pl} (h : kids[i]? = some x) : plookL (kids.take (i + 1)) k 0 d l s = plook x (IntKind.i64.wrap (d + 1)) (IntKind.i64.wrap (l + morP k i)) (plookL (kids.take i) k 0 d l s) := by
  have hi : i < kids.length := (List.getElem?_eq_some_iff.1 h).1
  have hm : min i kids.length = i := by omega
  rw [List.take_add_one, h, plookL_append]
  simp [plookL, hm]

attribute [local simp] Pl.av E.av in
theorem spec65_step (k m : Int) (kids : List Pl) (ex : List E) (cols wth : List Int) (agg rds : Int) (hb : (Pl.mk k m kids ex cols wth agg rds).bnd) (ih : ∀ k ∈ kids, ∀ d lo s, Flat.Sp Try.prog 65 [.ptr 0 0, k.av, vv (.int .i64 d), vv (.int .i64 lo)] [(.var 0, .n 5), (.cell 0 0, .av (vv (.int .i64 (s).1))), (.cell 0 1, .av (vv (.int .i64 (s).2.1))), (.cell 0 2, .av (vv (.int .i64 (s).2.2.1))), (.cell 0 3, .av (vv (.bool (s).2.2.2.1))), (.cell 0 4, .av (vv (.bool (s).2.2.2.2)))] (.tup []) [(.var 0, .n 5), (.cell 0 0, .av (vv (.int .i64 (plook k d lo s).1))), (.cell 0 1, .av (vv (.int .i64 (plook k d lo s).2.1))), (.cell 0 2, .av (vv (.int .i64 (plook k d lo s).2.2.1))), (.cell 0 3, .av (vv (.bool (plook k d lo s).2.2.2.1))), (.cell 0 4, .av (vv (.bool (plook k d lo s).2.2.2.2)))]) (d lo : Int) (s : PSrv) : Flat.Sp Try.prog 65 [.ptr 0 0, (Pl.mk k m kids ex cols wth agg rds).av, vv (.int .i64 d), vv (.int .i64 lo)] [(.var 0, .n 5), (.cell 0 0, .av (vv (.int .i64 (s).1))), (.cell 0 1, .av (vv (.int .i64 (s).2.1))), (.cell 0 2, .av (vv (.int .i64 (s).2.2.1))), (.cell 0 3, .av (vv (.bool (s).2.2.2.1))), (.cell 0 4, .av (vv (.bool (s).2.2.2.2)))] (.tup []) [(.var 0, .n 5), (.cell 0 0, .av (vv (.int .i64 (plook (Pl.mk k m kids ex cols wth agg rds) d lo s).1))), (.cell 0 1, .av (vv (.int .i64 (plook (Pl.mk k m kids ex cols wth agg rds) d lo s).2.1))), (.cell 0 2, .av (vv (.int .i64 (plook (Pl.mk k m kids ex cols wth agg rds) d lo s).2.2.1))), (.cell 0 3, .av (vv (.bool (plook (Pl.mk k m kids ex cols wth agg rds) d lo s).2.2.2.1))), (.cell 0 4, .av (vv (.bool (plook (Pl.mk k m kids ex cols wth agg rds) d lo s).2.2.2.2)))] := by
  refine sk Try.func65 ?_
  intro F G hn hG
  rw [Pl.bnd] at hb
  obtain ⟨hbk, hbe, -, -, hbl⟩ := hb
  have hk := Bnd_lim hbk
  have he := Bnd_lim hbe
  refine sq ?_
  refine rg 1000 ?_
  refine pr [0, 1, 2, 4, 5, 6, 8, 9, 10, 108, 109, 110] ?_
  refine sq ?_
  refine dr ?_
  refine de 2000 ?_
  refine dn ?_
  refine pr [0, 1, 2, 4, 5, 6, 8, 9, 10, 15, 41, 108, 109, 110] ?_
  refine sq ?_
  refine rc 3000 ?_
  refine oc id (spec120 k m kids ex cols wth agg rds) ?_
  refine oe 3100 ?_
  refine on ?_
  refine pr [0, 1, 2, 4, 5, 6, 8, 9, 10, 15, 43, 108, 109, 110] ?_
  refine sq ?_
  refine sq ?_
  refine rg 4000 ?_
  refine pr [0, 1, 2, 4, 5, 6, 8, 9, 10, 15, 44, 108, 109, 110] ?_
  refine k_block ?_
  refine k_loop (fun n l => ∃ i, i + n = ex.length ∧ (True) ∧ l = [(.tmp 0, .av (.ptr 0 0)), (.tmp 2, .av (vv (.int .i64 d))), (.tmp 3, .av (vv (.int .i64 lo))), (.tmp 5, .av (.ptr 1000 0)), (.tmp 8, .av (vv (.bool (exL (ex.take i) ((formedP k m kids.length ex cols wth agg rds), s.2.2.2.2)).1))), (.tmp 44, .av (.p (.ps (ex.map E.row)))), (.tmp 45, .av (vv (.int .i64 ex.length))), (.tmp 46, .av (vv (.int .i64 i))), (.var 0, .n 5), (.cell 0 0, .av (vv (.int .i64 (((IntKind.i64.wrap (s.1 + 1), (if d > s.2.1 then d else s.2.1), (if lo > s.2.2.1 then lo else s.2.2.1), s.2.2.2.1, (exL (ex.take i) ((formedP k m kids.length ex cols wth agg rds), s.2.2.2.2)).2) : PSrv)).1))), (.cell 0 1, .av (vv (.int .i64 (((IntKind.i64.wrap (s.1 + 1), (if d > s.2.1 then d else s.2.1), (if lo > s.2.2.1 then lo else s.2.2.1), s.2.2.2.1, (exL (ex.take i) ((formedP k m kids.length ex cols wth agg rds), s.2.2.2.2)).2) : PSrv)).2.1))), (.cell 0 2, .av (vv (.int .i64 (((IntKind.i64.wrap (s.1 + 1), (if d > s.2.1 then d else s.2.1), (if lo > s.2.2.1 then lo else s.2.2.1), s.2.2.2.1, (exL (ex.take i) ((formedP k m kids.length ex cols wth agg rds), s.2.2.2.2)).2) : PSrv)).2.2.1))), (.cell 0 3, .av (vv (.bool (((IntKind.i64.wrap (s.1 + 1), (if d > s.2.1 then d else s.2.1), (if lo > s.2.2.1 then lo else s.2.2.1), s.2.2.2.1, (exL (ex.take i) ((formedP k m kids.length ex cols wth agg rds), s.2.2.2.2)).2) : PSrv)).2.2.2.1))), (.cell 0 4, .av (vv (.bool (((IntKind.i64.wrap (s.1 + 1), (if d > s.2.1 then d else s.2.1), (if lo > s.2.2.1 then lo else s.2.2.1), s.2.2.2.1, (exL (ex.take i) ((formedP k m kids.length ex cols wth agg rds), s.2.2.2.2)).2) : PSrv)).2.2.2.2))), (.var 1000, .n 8), (.cell 1000 0, .av (vv (.int .u8 k))), (.cell 1000 1, .av (vv (.int .i64 m))), (.cell 1000 2, .av (.p (.ps (kids.map Pl.row)))), (.cell 1000 3, .av (.p (.ps (ex.map E.row)))), (.cell 1000 4, .av (.p (.ps (cols.map irow)))), (.cell 1000 5, .av (.p (.ps (wth.map irow)))), (.cell 1000 6, .av (vv (.int .u8 agg))), (.cell 1000 7, .av (vv (.int .i64 rds)))]) (ex.length) hG ⟨_, ⟨by simp [exL], by simp, by simp⟩, 0, by simp, trivial, rfl⟩ ?_
  rintro n _ ⟨i, hin, hfa, rfl⟩
  refine sq ?_
  refine rg 5000 ?_
  refine pr [0, 1, 2, 4, 5, 6, 8, 9, 10, 15, 44, 108, 109, 110] ?_
  refine sq ?_
  refine cd ?_ ?_
  · intro h47_1
    have hlt : i < ex.length := by simpa using h47_1
    obtain ⟨x, hxe⟩ : ∃ x, ex[i] = x := ⟨_, rfl⟩
    have hx : ex[i]? = some x := by simp [hlt, hxe]
    obtain ⟨eo, ec, ev, ek⟩ := x
    refine k_skip ?_
    refine sq ?_
    refine k_block ?_
    refine sq ?_
    refine rg 6000 ?_ (h := by simp [*, E.row_eq]; exact is_rfl _)
    refine pr [0, 1, 2, 4, 5, 6, 8, 9, 10, 15, 44, 108, 109, 110] ?_
    refine sq ?_
    refine rc 7000 ?_
    refine oc id (spec22 eo ec ev ek) ?_
    refine oe 7100 ?_
    refine on ?_
    refine pr [0, 1, 2, 4, 5, 6, 8, 9, 10, 15, 44, 108, 109, 110] ?_
    refine rc 8000 ?_
    iterate 2 (first | refine gp 8150 ?_ | refine os ?_ | refine gt 8150 ?_)
    refine oe 8200 ?_
    iterate 2 (first | refine gp 8350 ?_ | refine os ?_ | refine gt 8350 ?_)
    refine oe 8400 ?_
    refine on ?_
    refine k_nil ?_
    show AK _ _ _ _ _ _
    refine rg 9000 ?_ (h := by simp [*, wrap_succ (show i < Flat.lim by omega)]; exact is_rfl _)
    refine k_nil ?_
    refine ⟨n - 1, by omega, _, ⟨?_, ?_, ?_⟩, i + 1, by omega, trivial, rfl⟩ <;> simp [*, exL_take hx, exF]
  · intro h47_1
    have hge : ex.length ≤ i := by simpa using h47_1
    have htk : ex.take i = ex := List.take_of_length_le hge
    refine k_exit ?_
    show AK _ _ _ _ _ _
    refine sq ?_
    refine rc 10000 ?_
    iterate 2 (first | refine gp 10150 ?_ | refine os ?_ | refine gt 10150 ?_)
    refine oe 10200 ?_
    refine on ?_
    refine pr [0, 1, 2, 4, 5, 6, 8, 9, 12, 15, 80, 108, 109, 110] ?_
    refine sq ?_
    refine sq ?_
    refine rc 11000 ?_
    iterate 2 (first | refine gp 11150 ?_ | refine os ?_ | refine gt 11150 ?_)
    refine oe 11200 ?_
    refine on ?_
    refine pr [0, 1, 2, 4, 5, 6, 12, 15, 85, 108, 109, 110] ?_
    refine cd ?_ ?_
    · intro h85_2
      have h85_2 : (!(exL ex ((formedP k m kids.length ex cols wth agg rds), s.2.2.2.2)).1 || decide (d > 16)) = true := h85_2
      refine k_ret ?_
      show retQ _ _ _ _ _ _ _
      simp [*, plook]
    · intro h85_2
      have h85_2 : (!(exL ex ((formedP k m kids.length ex cols wth agg rds), s.2.2.2.2)).1 || decide (d > 16)) = false := h85_2
      refine k_skip ?_
      refine sq ?_
      refine rg 12000 ?_
      refine pr [0, 1, 2, 4, 5, 6, 12, 15, 87, 108, 109, 110] ?_
      refine k_block ?_
      refine k_loop (fun n l => ∃ i, i + n = kids.length ∧ (True) ∧ l = [(.tmp 0, .av (.ptr 0 0)), (.tmp 2, .av (vv (.int .i64 d))), (.tmp 3, .av (vv (.int .i64 lo))), (.tmp 5, .av (.ptr 1000 0)), (.tmp 87, .av (.p (.ps (kids.map Pl.row)))), (.tmp 88, .av (vv (.int .i64 kids.length))), (.tmp 89, .av (vv (.int .i64 i))), (.var 0, .n 5), (.cell 0 0, .av (vv (.int .i64 (plookL (kids.take i) k 0 d lo ((IntKind.i64.wrap (s.1 + 1), (if d > s.2.1 then d else s.2.1), (if lo > s.2.2.1 then lo else s.2.2.1), s.2.2.2.1 || !(exL ex ((formedP k m kids.length ex cols wth agg rds), s.2.2.2.2)).1, (exL ex ((formedP k m kids.length ex cols wth agg rds), s.2.2.2.2)).2) : PSrv)).1))), (.cell 0 1, .av (vv (.int .i64 (plookL (kids.take i) k 0 d lo ((IntKind.i64.wrap (s.1 + 1), (if d > s.2.1 then d else s.2.1), (if lo > s.2.2.1 then lo else s.2.2.1), s.2.2.2.1 || !(exL ex ((formedP k m kids.length ex cols wth agg rds), s.2.2.2.2)).1, (exL ex ((formedP k m kids.length ex cols wth agg rds), s.2.2.2.2)).2) : PSrv)).2.1))), (.cell 0 2, .av (vv (.int .i64 (plookL (kids.take i) k 0 d lo ((IntKind.i64.wrap (s.1 + 1), (if d > s.2.1 then d else s.2.1), (if lo > s.2.2.1 then lo else s.2.2.1), s.2.2.2.1 || !(exL ex ((formedP k m kids.length ex cols wth agg rds), s.2.2.2.2)).1, (exL ex ((formedP k m kids.length ex cols wth agg rds), s.2.2.2.2)).2) : PSrv)).2.2.1))), (.cell 0 3, .av (vv (.bool (plookL (kids.take i) k 0 d lo ((IntKind.i64.wrap (s.1 + 1), (if d > s.2.1 then d else s.2.1), (if lo > s.2.2.1 then lo else s.2.2.1), s.2.2.2.1 || !(exL ex ((formedP k m kids.length ex cols wth agg rds), s.2.2.2.2)).1, (exL ex ((formedP k m kids.length ex cols wth agg rds), s.2.2.2.2)).2) : PSrv)).2.2.2.1))), (.cell 0 4, .av (vv (.bool (plookL (kids.take i) k 0 d lo ((IntKind.i64.wrap (s.1 + 1), (if d > s.2.1 then d else s.2.1), (if lo > s.2.2.1 then lo else s.2.2.1), s.2.2.2.1 || !(exL ex ((formedP k m kids.length ex cols wth agg rds), s.2.2.2.2)).1, (exL ex ((formedP k m kids.length ex cols wth agg rds), s.2.2.2.2)).2) : PSrv)).2.2.2.2))), (.var 1000, .n 8), (.cell 1000 0, .av (vv (.int .u8 k))), (.cell 1000 1, .av (vv (.int .i64 m))), (.cell 1000 2, .av (.p (.ps (kids.map Pl.row)))), (.cell 1000 3, .av (.p (.ps (ex.map E.row)))), (.cell 1000 4, .av (.p (.ps (cols.map irow)))), (.cell 1000 5, .av (.p (.ps (wth.map irow)))), (.cell 1000 6, .av (vv (.int .u8 agg))), (.cell 1000 7, .av (vv (.int .i64 rds)))]) (kids.length) hG ⟨_, ⟨by simp [plookL], by simp, by simp⟩, 0, by simp, trivial, rfl⟩ ?_
      rintro n _ ⟨i, hin, hfa, rfl⟩
      refine sq ?_
      refine rg 13000 ?_
      refine pr [0, 1, 2, 4, 5, 6, 12, 15, 87, 108, 109, 110] ?_
      refine sq ?_
      refine cd ?_ ?_
      · intro h90_3
        have hlt : i < kids.length := by simpa using h90_3
        obtain ⟨x, hxe⟩ : ∃ x, kids[i] = x := ⟨_, rfl⟩
        have hx : kids[i]? = some x := by simp [hlt, hxe]
        obtain ⟨xk, xn, xq, xe, xc, xw, xa, xr⟩ := x
        have hmem : Pl.mk xk xn xq xe xc xw xa xr ∈ kids := hxe ▸ List.getElem_mem hlt
        refine k_skip ?_
        refine sq ?_
        refine k_block ?_
        refine sq ?_
        refine rg 14000 ?_ (h := by simp [*, Pl.row_eq]; exact is_rfl _)
        refine pr [0, 1, 2, 4, 5, 6, 12, 15, 87, 108, 109, 110] ?_
        refine sq ?_
        refine rg 15000 ?_
        refine pr [0, 1, 2, 4, 5, 6, 12, 15, 87, 108, 109, 110] ?_
        refine sq ?_
        refine sq ?_
        refine rc 16000 ?_
        iterate 2 (first | refine gp 16150 ?_ | refine os ?_ | refine gt 16150 ?_)
        refine oe 16200 ?_
        refine on ?_
        refine pr [0, 1, 2, 4, 5, 6, 12, 15, 87, 108, 109, 110] ?_
        refine cd ?_ ?_
        · intro h100_4
          have hmo : morP k i = 1 := if_pos h100_4
          refine rg 17000 ?_
          refine pr [0, 1, 2, 4, 5, 6, 12, 15, 87, 108, 109, 110] ?_
          refine rc 18000 ?_
          refine oc id (ih _ hmem (IntKind.i64.wrap (d + 1)) (IntKind.i64.wrap (lo + morP k i)) (plookL (kids.take i) k 0 d lo ((IntKind.i64.wrap (s.1 + 1), (if d > s.2.1 then d else s.2.1), (if lo > s.2.2.1 then lo else s.2.2.1), s.2.2.2.1 || !(exL ex ((formedP k m kids.length ex cols wth agg rds), s.2.2.2.2)).1, (exL ex ((formedP k m kids.length ex cols wth agg rds), s.2.2.2.2)).2) : PSrv))) ?_
          refine on ?_
          refine k_nil ?_
          show AK _ _ _ _ _ _
          refine rg 19000 ?_ (h := by simp [*, wrap_succ (show i < Flat.lim by omega)]; exact is_rfl _)
          refine k_nil ?_
          refine ⟨n - 1, by omega, _, ⟨?_, ?_, ?_⟩, i + 1, by omega, trivial, rfl⟩ <;> simp [*, plookL_take hx]
        · intro h100_4
          have hmo : morP k i = 0 := if_neg (by simp [h100_4])
          refine k_skip ?_
          refine rc 18000 ?_
          refine oc id (ih _ hmem (IntKind.i64.wrap (d + 1)) (IntKind.i64.wrap (lo + morP k i)) (plookL (kids.take i) k 0 d lo ((IntKind.i64.wrap (s.1 + 1), (if d > s.2.1 then d else s.2.1), (if lo > s.2.2.1 then lo else s.2.2.1), s.2.2.2.1 || !(exL ex ((formedP k m kids.length ex cols wth agg rds), s.2.2.2.2)).1, (exL ex ((formedP k m kids.length ex cols wth agg rds), s.2.2.2.2)).2) : PSrv))) ?_
          refine on ?_
          refine k_nil ?_
          show AK _ _ _ _ _ _
          refine rg 19000 ?_ (h := by simp [*, wrap_succ (show i < Flat.lim by omega)]; exact is_rfl _)
          refine k_nil ?_
          refine ⟨n - 1, by omega, _, ⟨?_, ?_, ?_⟩, i + 1, by omega, trivial, rfl⟩ <;> simp [*, plookL_take hx]
      · intro h90_3
        have hge : kids.length ≤ i := by simpa using h90_3
        have htk : kids.take i = kids := List.take_of_length_le hge
        refine k_exit ?_
        show AK _ _ _ _ _ _
        refine k_nil ?_
        show retQ _ _ _ _ _ _ _
        simp [*, plook]

theorem spec65 : ∀ (p : Pl), p.bnd → ∀ (d lo : Int) (s : PSrv), Flat.Sp Try.prog 65 [.ptr 0 0, p.av, vv (.int .i64 d), vv (.int .i64 lo)] [(.var 0, .n 5), (.cell 0 0, .av (vv (.int .i64 (s).1))), (.cell 0 1, .av (vv (.int .i64 (s).2.1))), (.cell 0 2, .av (vv (.int .i64 (s).2.2.1))), (.cell 0 3, .av (vv (.bool (s).2.2.2.1))), (.cell 0 4, .av (vv (.bool (s).2.2.2.2)))] (.tup []) [(.var 0, .n 5), (.cell 0 0, .av (vv (.int .i64 (plook p d lo s).1))), (.cell 0 1, .av (vv (.int .i64 (plook p d lo s).2.1))), (.cell 0 2, .av (vv (.int .i64 (plook p d lo s).2.2.1))), (.cell 0 3, .av (vv (.bool (plook p d lo s).2.2.2.1))), (.cell 0 4, .av (vv (.bool (plook p d lo s).2.2.2.2)))] := by
  refine Pl.ind fun k m kids ex cols wth agg rds ih hb d lo s => ?_
  refine spec65_step k m kids ex cols wth agg rds hb (fun x hx => ih x hx ?_) d lo s
  rw [Pl.bnd] at hb
  exact Pl.bndL_mem hb.2.2.2.2 x hx
def surveyP (p : Pl) : PSrv := plook p 1 0 (0, 0, 0, false, false)
def checkP (p : Pl) : Int := let s := surveyP p; if s.2.2.2.1 then 4 else if s.2.2.2.2 then 2 else if decide (64 < s.1) then 2 else if decide (16 < s.2.1) then 2 else if decide (2 < s.2.2.1) then 2 else 0
attribute [local simp] Pl.av in
theorem spec32 (k m : Int) (kids : List Pl) (ex : List E) (cols wth : List Int) (agg rds : Int) (hb : (Pl.mk k m kids ex cols wth agg rds).bnd) : Flat.Sp Try.prog 32 [(Pl.mk k m kids ex cols wth agg rds).av] [] (vv (.int .i64 (checkP (Pl.mk k m kids ex cols wth agg rds)))) [] := by
  refine sk Try.func32 ?_
  intro F G hn hG
  refine sq ?_
  refine rg 1000 ?_
  refine pr [1, 5, 6, 21] ?_
  refine sq ?_
  refine rg 2000 ?_
  refine pr [1, 5, 6, 21] ?_
  refine sq ?_
  refine rc 3000 ?_
  refine oc (fun _ => 2000) (spec65 (Pl.mk k m kids ex cols wth agg rds) hb 1 0 (0, 0, 0, false, false)) ?_
  refine on ?_
  refine pr [2, 4, 6, 21] ?_
  refine sq ?_
  refine k_block ?_
  refine sq ?_
  refine rg 4000 ?_
  refine pr [2, 4, 6, 7, 9, 21] ?_
  refine cd ?_ ?_
  · intro h6_1
    refine sq ?_
    refine rg 5000 ?_
    refine pr [2, 3] ?_
    refine k_ret ?_
    show retQ _ _ _ _ _ _ _
    first | (simp [*, checkP, surveyP]; done) | (simp only [checkP, surveyP, *]; rfl) | (simp only [decide_eq_true_eq, decide_eq_false_iff_not] at *; simp [*, checkP, surveyP])
  · intro h6_1
    refine sq ?_
    refine sq ?_
    refine rg 6000 ?_
    refine pr [2, 4, 9, 10, 12, 21] ?_
    refine cd ?_ ?_
    · intro h9_2
      refine k_skip ?_
      refine ct ?_
      refine sq ?_
      refine rg 10000 ?_
      refine pr [2, 3] ?_
      refine k_ret ?_
      show retQ _ _ _ _ _ _ _
      first | (simp [*, checkP, surveyP]; done) | (simp only [checkP, surveyP, *]; rfl) | (simp only [decide_eq_true_eq, decide_eq_false_iff_not] at *; simp [*, checkP, surveyP])
    · intro h9_2
      refine sq ?_
      refine rg 7000 ?_
      refine pr [2, 4, 9, 10, 15, 21] ?_
      refine cd ?_ ?_
      · intro h9_3
        refine k_skip ?_
        refine ct ?_
        refine sq ?_
        refine rg 10000 ?_
        refine pr [2, 3] ?_
        refine k_ret ?_
        show retQ _ _ _ _ _ _ _
        first | (simp [*, checkP, surveyP]; done) | (simp only [checkP, surveyP, *]; rfl) | (simp only [decide_eq_true_eq, decide_eq_false_iff_not] at *; simp [*, checkP, surveyP])
      · intro h9_3
        refine sq ?_
        refine rg 8000 ?_
        refine pr [2, 4, 9, 10, 18, 21] ?_
        refine cd ?_ ?_
        · intro h9_4
          refine k_skip ?_
          refine ct ?_
          refine sq ?_
          refine rg 10000 ?_
          refine pr [2, 3] ?_
          refine k_ret ?_
          show retQ _ _ _ _ _ _ _
          first | (simp [*, checkP, surveyP]; done) | (simp only [checkP, surveyP, *]; rfl) | (simp only [decide_eq_true_eq, decide_eq_false_iff_not] at *; simp [*, checkP, surveyP])
        · intro h9_4
          refine rg 9000 ?_
          refine pr [2, 3, 9, 10] ?_
          refine cd ?_ ?_
          · intro h9_5
            refine sq ?_
            refine rg 10000 ?_
            refine pr [2, 3] ?_
            refine k_ret ?_
            show retQ _ _ _ _ _ _ _
            first | (simp [*, checkP, surveyP]; done) | (simp only [checkP, surveyP, *]; rfl) | (simp only [decide_eq_true_eq, decide_eq_false_iff_not] at *; simp [*, checkP, surveyP])
          · intro h9_5
            refine k_skip ?_
            refine k_nil ?_
            show AK _ _ _ _ _ _
            refine sq ?_
            refine rg 11000 ?_
            refine pr [2, 3] ?_
            refine k_ret ?_
            show retQ _ _ _ _ _ _ _
            first | (simp [*, checkP, surveyP]; done) | (simp only [checkP, surveyP, *]; rfl) | (simp only [decide_eq_true_eq, decide_eq_false_iff_not] at *; simp [*, checkP, surveyP])

end Go.Proofs
end
section
set_option linter.unusedVariables false
set_option linter.unusedSimpArgs false
namespace Go.Proofs
open Go.Flat
set_option maxRecDepth 100000
set_option linter.unusedSimpArgs false
set_option linter.unusedVariables false
attribute [local simp] Bool.and_assoc Bool.or_assoc evalG evalX efD skF guardG guardL isCall stepL evalOp ev evs lk tmpsL app AV.ok fresh vv putCells insV ins del putL place Go.Flat.look fillC fillR getCells loadF storeF binF scalarBin intBin strBin isShift shiftBin unF lenF maxF minF rowsF appendF builtinF idxF natOf sliceP sliceF optEv Flat.cut overwrite toPV toPVs constAV scalarC scalarCs AV.cells TI.isAgg allSome andAll scalarEq buildable Go.Flat.lim retQ resL resAll resOne PartOf noTmp closedIn refs refs.refsL isSomeV hasB ids leA leA.leL renA renA.renL callB refsAll backL dropIds renS LiesAt injB ownB freshB memN locId insAll leA_refl leL_refl okS frzS frzA frzA.frzL evalD feet fine updCells cellsFrom memP footRf footWf noTmpU updIds opOps opIds idsA footR footW guardTs opTs dstTs callR callW renLoc renC inBlockQ thenQ Value.oneCell' IntKind.bits IntKind.signed
def srow (ts : List Int) : List PV := [.ps (ts.map trow)]
/-- Where the first element stands of which something holds. -/
def firstP {α : Type} (p : α → Bool) : List α → Nat → Int
  | [], _ => -1
  | v :: r, i => if p v then i else firstP p r (i + 1)
theorem firstP_drop {α : Type} {p : α → Bool} {xs : List α} {i : Nat} {x : α} (h : xs[i]? = some x) : firstP p (xs.drop i) i = if p x then (i : Int) else firstP p (xs.drop (i + 1)) (i + 1) := by
  obtain ⟨h1, h2⟩ := List.getElem?_eq_some_iff.1 h
  rw [List.drop_eq_getElem_cons h1, h2]
  rfl
theorem firstP_any {α : Type} {p : α → Bool} : ∀ (xs : List α) (i : Nat), decide (0 ≤ firstP p xs i) = xs.any p
  | [], _ => by simp [firstP]
  | v :: r, i => by
    cases h : p v with
    | true =>
      have : firstP p (v :: r) i = i := by simp [firstP, h]
      simp [this, h, Int.natCast_nonneg]
    | false =>
      have : firstP p (v :: r) i = firstP p r (i + 1) := by simp [firstP, h]
      rw [this, firstP_any r (i + 1)]
      simp [h]
def badT (t : Int) : Bool := t != 1 && t != 2

theorem spec61 (t : Int) : Flat.Sp Try.prog 61 [vv (.int .u8 t)] [] (vv (.bool (badT t))) [] := by
  refine sk Try.func61 ?_
  intro F G hn hG
  refine sq ?_
  refine rg 1000 ?_
  refine pr [0, 1, 2, 9] ?_
  refine sq ?_
  refine cv [(.tmp 2, vv (.bool (badT t)))] ?_ ?_
  · skip
    refine rc 2000 ?_ (h := by simp [*, badT]; exact is_rfl _)
    iterate 2 (first | refine gp 2150 ?_ (he := by intro hgg; (try simp only [Bool.and_eq_true] at hgg); simp [*, badT]; exact is_rfl _) | refine os ?_ | refine gt 2150 ?_ (he := by simp [*, badT]; exact is_rfl _))
    refine oe 2200 ?_ (h := by simp [*, badT]; exact is_rfl _)
    refine on ?_
    refine k_nil ?_
    refine ⟨rfl, ?_, ?_, ?_⟩ <;> simp [*, badT]
  refine pr [2, 3] ?_
  refine k_ret ?_
  show retQ _ _ _ _ _ _ _
  simp [*, badT]

attribute [local simp] trow in
theorem spec119 (ts : List Int) (hlen : ts.length ≤ Flat.lim) : Flat.Sp Try.prog 119 [.p (.ps (ts.map trow)), .fn (.func 61) []] [] (vv (.int .i64 (firstP badT ts 0))) [] := by
  refine sk Try.func119 ?_
  intro F G hn hG
  refine sq ?_
  refine rg 1000 ?_
  refine pr [0, 2, 4, 19] ?_
  refine sq ?_
  refine sq ?_
  refine rg 2000 ?_
  refine pr [0, 2, 4, 6, 7, 19] ?_
  refine k_block ?_
  refine k_loop (fun n l => ∃ i, i + n = ts.length ∧ (firstP badT ts 0 = firstP badT (ts.drop i) i) ∧ l = [(.tmp 0, .av (.p (.ps (ts.map trow)))), (.tmp 1, .av (.fn (.func 61) [])), (.tmp 7, .av (vv (.int .i64 ts.length))), (.tmp 8, .av (vv (.int .i64 i)))]) (ts.length) hG ⟨_, ⟨by simp, by simp, by simp⟩, 0, by simp, rfl, rfl⟩ ?_
  rintro n _ ⟨i, hin, hfa, rfl⟩
  have hwi : i < Flat.lim → IntKind.i64.wrap ((i : Int) + 1) = (i : Int) + 1 := wrap_succ
  refine sq ?_
  refine rg 3000 ?_
  refine pr [0, 2, 4, 6, 7, 19] ?_
  refine sq ?_
  refine cd ?_ ?_
  · intro h9_1
    have hlt : i < ts.length := by simpa using h9_1
    obtain ⟨x, hxe⟩ : ∃ x, ts[i] = x := ⟨_, rfl⟩
    have hx : ts[i]? = some x := by simp [hlt, hxe]
    have hfd := firstP_drop (p := badT) hx
    have hwi := hwi (by omega)
    refine k_skip ?_
    refine sq ?_
    refine k_block ?_
    refine sq ?_
    refine rg 4000 ?_
    refine pr [0, 2, 4, 6, 7, 19] ?_
    refine sq ?_
    refine rc 5000 ?_
    refine oc id (spec61 x) ?_
    refine on ?_
    refine pr [0, 2, 4, 6, 7, 19] ?_
    refine cd ?_ ?_
    · intro h16_2
      have hr : badT x = true := by simpa using h16_2
      refine sq ?_
      refine rg 6000 ?_
      refine pr [0, 2, 4, 6, 7, 19] ?_
      refine k_ret ?_
      show retQ _ _ _ _ _ _ _
      simp [*]
    · intro h16_2
      have hr : badT x = false := by simpa using h16_2
      refine k_skip ?_
      refine k_nil ?_
      show AK _ _ _ _ _ _
      refine rg 7000 ?_
      refine k_nil ?_
      refine ⟨n - 1, by omega, _, ⟨?_, ?_, ?_⟩, i + 1, by omega, by rw [hfa, hfd, hr, if_neg (by simp)], rfl⟩ <;> simp [*]
  · intro h9_1
    have hge : ts.length ≤ i := by simpa using h9_1
    have hfe : firstP badT (ts.drop i) i = -1 := by rw [List.drop_eq_nil_of_le hge]; rfl
    refine k_exit ?_
    show AK _ _ _ _ _ _
    refine sq ?_
    refine rg 8000 ?_
    refine pr [4, 5] ?_
    refine k_ret ?_
    show retQ _ _ _ _ _ _ _
    simp [*]

attribute [local simp] firstP_any in
theorem spec64 (ts : List Int) (hlen : ts.length ≤ Flat.lim) : Flat.Sp Try.prog 64 [.p (.ps (ts.map trow)), .fn (.func 61) []] [] (vv (.bool (ts.any badT))) [] := by
  refine sk Try.func64 ?_
  intro F G hn hG
  refine sq ?_
  refine rg 1000 ?_
  refine pr [0, 2, 4, 9] ?_
  refine sq ?_
  refine rc 2000 ?_
  refine oc id (spec119 ts hlen) ?_
  refine oe 2100 ?_
  refine on ?_
  refine pr [4, 5] ?_
  refine k_ret ?_
  show retQ _ _ _ _ _ _ _
  simp [*]

def badS (ts : List Int) : Bool := decide ((8 : Int) < ts.length) || ts.any badT
theorem len8_lim {n : Nat} (h : (!decide ((8 : Int) < n)) = true) : n ≤ Flat.lim := by simp only [Flat.lim, Bool.not_eq_true', decide_eq_false_iff_not] at *; omega

attribute [local simp] badS in
theorem spec63 (ts : List Int) : Flat.Sp Try.prog 63 [.p (.ps (ts.map trow)), .ptr 0 0] [(.var 0, .n 1), (.cell 0 0, .av (.fn (.func 61) []))] (vv (.bool (badS ts))) [(.var 0, .n 1), (.cell 0 0, .av (.fn (.func 61) []))] := by
  refine sk Try.func63 ?_
  intro F G hn hG
  refine sq ?_
  refine rg 1000 ?_
  refine pr [0, 2, 3, 12] ?_
  refine sq ?_
  refine rc 2000 ?_
  iterate 2 (first | refine gp 2150 ?_ | refine os ?_ | refine gt 2150 ?_)
  refine og (fun hg => spec64 ts (len8_lim hg)) ?_
  refine oe 2300 ?_
  refine on ?_
  refine pr [3, 4] ?_
  refine k_ret ?_
  show retQ _ _ _ _ _ _ _
  simp [*]

attribute [local simp] srow in
theorem spec118a (ss : List (List Int)) (hlen : ss.length ≤ Flat.lim) : Flat.Sp Try.prog 118 [.p (.ps (ss.map srow)), .fn (.func 63) [.ptr 0 0]] [(.var 0, .n 1), (.cell 0 0, .av (.fn (.func 61) []))] (vv (.int .i64 (firstP badS ss 0))) [(.var 0, .n 1), (.cell 0 0, .av (.fn (.func 61) []))] := by
  refine sk Try.func118 ?_
  intro F G hn hG
  refine sq ?_
  refine rg 1000 ?_
  refine pr [0, 2, 4, 19] ?_
  refine sq ?_
  refine sq ?_
  refine rg 2000 ?_
  refine pr [0, 2, 4, 6, 7, 19] ?_
  refine k_block ?_
  refine k_loop (fun n l => ∃ i, i + n = ss.length ∧ (firstP badS ss 0 = firstP badS (ss.drop i) i) ∧ l = [(.tmp 0, .av (.p (.ps (ss.map srow)))), (.tmp 1, .av (.fn (.func 63) [.ptr 0 0])), (.tmp 7, .av (vv (.int .i64 ss.length))), (.tmp 8, .av (vv (.int .i64 i))), (.var 0, .n 1), (.cell 0 0, .av (.fn (.func 61) []))]) (ss.length) hG ⟨_, ⟨by simp, by simp, by simp⟩, 0, by simp, rfl, rfl⟩ ?_
  rintro n _ ⟨i, hin, hfa, rfl⟩
  have hwi : i < Flat.lim → IntKind.i64.wrap ((i : Int) + 1) = (i : Int) + 1 := wrap_succ
  refine sq ?_
  refine rg 3000 ?_
  refine pr [0, 2, 4, 6, 7, 19] ?_
  refine sq ?_
  refine cd ?_ ?_
  · intro h9_1
    have hlt : i < ss.length := by simpa using h9_1
    obtain ⟨x, hxe⟩ : ∃ x, ss[i] = x := ⟨_, rfl⟩
    have hx : ss[i]? = some x := by simp [hlt, hxe]
    have hfd := firstP_drop (p := badS) hx
    have hwi := hwi (by omega)
    refine k_skip ?_
    refine sq ?_
    refine k_block ?_
    refine sq ?_
    refine rg 4000 ?_
    refine pr [0, 2, 4, 6, 7, 19] ?_
    refine sq ?_
    refine rc 5000 ?_
    refine oc id (spec63 x) ?_
    refine on ?_
    refine pr [0, 2, 4, 6, 7, 19] ?_
    refine cd ?_ ?_
    · intro h16_2
      have hr : badS x = true := by simpa using h16_2
      refine sq ?_
      refine rg 6000 ?_
      refine pr [0, 2, 4, 6, 7, 19] ?_
      refine k_ret ?_
      show retQ _ _ _ _ _ _ _
      simp [*]
    · intro h16_2
      have hr : badS x = false := by simpa using h16_2
      refine k_skip ?_
      refine k_nil ?_
      show AK _ _ _ _ _ _
      refine rg 7000 ?_
      refine k_nil ?_
      refine ⟨n - 1, by omega, _, ⟨?_, ?_, ?_⟩, i + 1, by omega, by rw [hfa, hfd, hr, if_neg (by simp)], rfl⟩ <;> simp [*]
  · intro h9_1
    have hge : ss.length ≤ i := by simpa using h9_1
    have hfe : firstP badS (ss.drop i) i = -1 := by rw [List.drop_eq_nil_of_le hge]; rfl
    refine k_exit ?_
    show AK _ _ _ _ _ _
    refine sq ?_
    refine rg 8000 ?_
    refine pr [4, 5] ?_
    refine k_ret ?_
    show retQ _ _ _ _ _ _ _
    simp [*]

attribute [local simp] firstP_any in
theorem spec62a (ss : List (List Int)) (hlen : ss.length ≤ Flat.lim) : Flat.Sp Try.prog 62 [.p (.ps (ss.map srow)), .fn (.func 63) [.ptr 0 0]] [(.var 0, .n 1), (.cell 0 0, .av (.fn (.func 61) []))] (vv (.bool (ss.any badS))) [(.var 0, .n 1), (.cell 0 0, .av (.fn (.func 61) []))] := by
  refine sk Try.func62 ?_
  intro F G hn hG
  refine sq ?_
  refine rg 1000 ?_
  refine pr [0, 2, 4, 9] ?_
  refine sq ?_
  refine rc 2000 ?_
  refine oc id (spec118a ss hlen) ?_
  refine oe 2100 ?_
  refine on ?_
  refine pr [4, 5] ?_
  refine k_ret ?_
  show retQ _ _ _ _ _ _ _
  simp [*]

def checkSch (ss : List (List Int)) : Int := if decide ((8 : Int) < ss.length) || ss.any badS then 4 else 0

attribute [local simp] checkSch in
theorem spec30 (ss : List (List Int)) : Flat.Sp Try.prog 30 [.p (.ps (ss.map srow))] [] (vv (.int .i64 (checkSch ss))) [] := by
  refine sk Try.func30 ?_
  intro F G hn hG
  refine sq ?_
  refine rg 1000 ?_
  refine pr [0, 1, 2, 12] ?_
  refine sq ?_
  refine rg 2000 ?_
  refine pr [0, 1, 2, 12] ?_
  refine sq ?_
  refine sq ?_
  refine cv [(.tmp 11, vv (.bool (decide ((8 : Int) < ss.length) || ss.any badS)))] ?_ ?_
  · skip
    rcases h0 : (decide ((8 : Int) < ss.length) : Bool) with _ | _
    · skip
      refine rc 3000 ?_
      iterate 2 (first | refine gp 3150 ?_ | refine os ?_ | refine gt 3150 ?_)
      refine oc (fun _ => 2000) (spec62a ss (len8_lim (by rw [h0]; rfl))) ?_
      refine oe 3300 ?_
      refine on ?_
      refine k_nil ?_
      refine ⟨rfl, ?_, ?_, ?_⟩ <;> simp [*]
    · skip
      refine rc 1003000 ?_
      iterate 2 (first | refine gp 1003150 ?_ | refine os ?_ | refine gt 1003150 ?_)
      refine os ?_
      refine oe 1003300 ?_
      refine on ?_
      refine k_nil ?_
      refine ⟨rfl, ?_, ?_, ?_⟩ <;> simp [*]
  refine pr [2, 3, 11, 12] ?_
  refine cd ?_ ?_
  · intro h11_1
    refine sq ?_
    refine rg 4000 ?_
    refine pr [2, 3] ?_
    refine k_ret ?_
    show retQ _ _ _ _ _ _ _
    simp [*]
  · intro h11_1
    refine k_skip ?_
    refine sq ?_
    refine rg 5000 ?_
    refine pr [2, 3] ?_
    refine k_ret ?_
    show retQ _ _ _ _ _ _ _
    simp [*]

theorem eq_stop {a b : List Int} {i : Nat} (ha : i < a.length) (hb : i < b.length) (h : a[i] ≠ b[i]) : (a == b) = false := by
  rw [beq_eq_false_iff_ne]
  rintro rfl
  exact h rfl
theorem eq_step {a b : List Int} {i : Nat} (ha : i < a.length) (hb : i < b.length) (h0 : a.take i = b.take i) (h : a[i] = b[i]) : a.take (i + 1) = b.take (i + 1) := by
  rw [List.take_succ_eq_append_getElem ha, List.take_succ_eq_append_getElem hb, h0, h]
theorem eq_all {a b : List Int} {i : Nat} (hl : a.length = b.length) (hi : a.length ≤ i) (h0 : a.take i = b.take i) : (a == b) = true := by
  rw [List.take_of_length_le hi, List.take_of_length_le (by omega)] at h0
  simp [h0]
theorem eq_len {a b : List Int} (h : a.length ≠ b.length) : (a == b) = false := by
  rw [beq_eq_false_iff_ne]
  rintro rfl
  exact h rfl

attribute [local simp] trow in
theorem spec114 (a b : List Int) (ha : a.length ≤ Flat.lim) : Flat.Sp Try.prog 114 [.p (.ps (a.map trow)), .p (.ps (b.map trow))] [] (vv (.bool (a == b))) [] := by
  refine sk Try.func114 ?_
  intro F G hn hG
  refine sq ?_
  refine rg 1000 ?_
  refine pr [0, 2, 4, 26] ?_
  refine sq ?_
  refine sq ?_
  refine rg 2000 ?_
  refine pr [0, 2, 4, 6, 10, 26] ?_
  refine cd ?_ ?_
  · intro h10_1
    have hq : (a == b) = false := eq_len (by have := h10_1; simp at this; omega)
    clear h10_1
    refine sq ?_
    refine rg 3000 ?_
    refine pr [0, 2, 4, 6, 11, 26] ?_
    refine k_ret ?_
    show retQ _ _ _ _ _ _ _
    simp [*]
  · intro h10_1
    have hll : ¬ a.length < b.length ∧ ¬ b.length < a.length := by have := h10_1; simp at this; omega
    clear h10_1
    refine k_skip ?_
    refine sq ?_
    refine sq ?_
    refine rg 4000 ?_
    refine pr [0, 2, 4, 6, 12, 26] ?_
    refine k_block ?_
    refine k_loop (fun n l => ∃ i, i + n = a.length ∧ (a.take i = b.take i) ∧ l = [(.tmp 0, .av (.p (.ps (a.map trow)))), (.tmp 1, .av (.p (.ps (b.map trow)))), (.tmp 12, .av (vv (.int .i64 a.length))), (.tmp 13, .av (vv (.int .i64 i)))]) (a.length) hG ⟨_, ⟨by simp, by simp, by simp⟩, 0, by simp, rfl, rfl⟩ ?_
    rintro n _ ⟨i, hin, hfa, rfl⟩
    refine sq ?_
    refine rg 5000 ?_
    refine pr [0, 2, 4, 6, 12, 26] ?_
    refine sq ?_
    refine cd ?_ ?_
    · intro h14_2
      have hlt : i < a.length := by simpa using h14_2
      obtain ⟨x, hxe⟩ : ∃ x, a[i] = x := ⟨_, rfl⟩
      have hx : a[i]? = some x := by simp [hlt, hxe]
      have hltb : i < b.length := by omega
      obtain ⟨y, hye⟩ : ∃ y, b[i] = y := ⟨_, rfl⟩
      refine k_skip ?_
      refine sq ?_
      refine k_block ?_
      refine sq ?_
      refine rg 6000 ?_
      refine pr [0, 2, 4, 6, 12, 26] ?_
      refine sq ?_
      refine dr ?_
      refine de 7000 ?_
      refine dn ?_
      refine pr [0, 2, 4, 6, 12, 26] ?_
      refine cd ?_ ?_
      · intro h24_3
        have hxy : ¬ x = y := by simpa using h24_3
        have hq := eq_stop hlt hltb (by rw [hxe, hye]; exact hxy)
        refine sq ?_
        refine rg 8000 ?_
        refine pr [0, 2, 4, 6, 12, 26] ?_
        refine k_ret ?_
        show retQ _ _ _ _ _ _ _
        simp [*]
      · intro h24_3
        have hxy : x = y := by simpa using h24_3
        have hst := eq_step hlt hltb hfa (by rw [hxe, hye]; exact hxy)
        refine k_skip ?_
        refine k_nil ?_
        show AK _ _ _ _ _ _
        refine rg 9000 ?_ (h := by simp [*, wrap_succ (show i < Flat.lim by omega)]; exact is_rfl _)
        refine k_nil ?_
        refine ⟨n - 1, by omega, _, ⟨?_, ?_, ?_⟩, i + 1, by omega, hst, rfl⟩ <;> simp [*]
    · intro h14_2
      have hge : a.length ≤ i := by simpa using h14_2
      have hq := eq_all (by omega) hge hfa
      refine k_exit ?_
      show AK _ _ _ _ _ _
      refine sq ?_
      refine rg 10000 ?_
      refine pr [4, 5] ?_
      refine k_ret ?_
      show retQ _ _ _ _ _ _ _
      simp [*]

attribute [local simp] trow in
theorem spec31 (a b : List Int) (ha : a.length ≤ Flat.lim) : Flat.Sp Try.prog 31 [.p (.ps (a.map trow)), .p (.ps (b.map trow))] [] (vv (.bool (a == b))) [] := by
  refine sk Try.func31 ?_
  intro F G hn hG
  refine sq ?_
  refine rg 1000 ?_
  refine pr [0, 2, 4, 26] ?_
  refine sq ?_
  refine sq ?_
  refine rg 2000 ?_
  refine pr [0, 2, 4, 6, 10, 26] ?_
  refine cd ?_ ?_
  · intro h10_1
    have hq : (a == b) = false := eq_len (by have := h10_1; simp at this; omega)
    clear h10_1
    refine sq ?_
    refine rg 3000 ?_
    refine pr [0, 2, 4, 6, 11, 26] ?_
    refine k_ret ?_
    show retQ _ _ _ _ _ _ _
    simp [*]
  · intro h10_1
    have hll : ¬ a.length < b.length ∧ ¬ b.length < a.length := by have := h10_1; simp at this; omega
    clear h10_1
    refine k_skip ?_
    refine sq ?_
    refine sq ?_
    refine rg 4000 ?_
    refine pr [0, 2, 4, 6, 12, 26] ?_
    refine k_block ?_
    refine k_loop (fun n l => ∃ i, i + n = a.length ∧ (a.take i = b.take i) ∧ l = [(.tmp 0, .av (.p (.ps (a.map trow)))), (.tmp 1, .av (.p (.ps (b.map trow)))), (.tmp 12, .av (vv (.int .i64 a.length))), (.tmp 13, .av (vv (.int .i64 i)))]) (a.length) hG ⟨_, ⟨by simp, by simp, by simp⟩, 0, by simp, rfl, rfl⟩ ?_
    rintro n _ ⟨i, hin, hfa, rfl⟩
    refine sq ?_
    refine rg 5000 ?_
    refine pr [0, 2, 4, 6, 12, 26] ?_
    refine sq ?_
    refine cd ?_ ?_
    · intro h14_2
      have hlt : i < a.length := by simpa using h14_2
      obtain ⟨x, hxe⟩ : ∃ x, a[i] = x := ⟨_, rfl⟩
      have hx : a[i]? = some x := by simp [hlt, hxe]
      have hltb : i < b.length := by omega
      obtain ⟨y, hye⟩ : ∃ y, b[i] = y := ⟨_, rfl⟩
      refine k_skip ?_
      refine sq ?_
      refine k_block ?_
      refine sq ?_
      refine rg 6000 ?_
      refine pr [0, 2, 4, 6, 12, 26] ?_
      refine sq ?_
      refine dr ?_
      refine de 7000 ?_
      refine dn ?_
      refine pr [0, 2, 4, 6, 12, 26] ?_
      refine cd ?_ ?_
      · intro h24_3
        have hxy : ¬ x = y := by simpa using h24_3
        have hq := eq_stop hlt hltb (by rw [hxe, hye]; exact hxy)
        refine sq ?_
        refine rg 8000 ?_
        refine pr [0, 2, 4, 6, 12, 26] ?_
        refine k_ret ?_
        show retQ _ _ _ _ _ _ _
        simp [*]
      · intro h24_3
        have hxy : x = y := by simpa using h24_3
        have hst := eq_step hlt hltb hfa (by rw [hxe, hye]; exact hxy)
        refine k_skip ?_
        refine k_nil ?_
        show AK _ _ _ _ _ _
        refine rg 9000 ?_ (h := by simp [*, wrap_succ (show i < Flat.lim by omega)]; exact is_rfl _)
        refine k_nil ?_
        refine ⟨n - 1, by omega, _, ⟨?_, ?_, ?_⟩, i + 1, by omega, hst, rfl⟩ <;> simp [*]
    · intro h14_2
      have hge : a.length ≤ i := by simpa using h14_2
      have hq := eq_all (by omega) hge hfa
      refine k_exit ?_
      show AK _ _ _ _ _ _
      refine sq ?_
      refine rg 10000 ?_
      refine pr [4, 5] ?_
      refine k_ret ?_
      show retQ _ _ _ _ _ _ _
      simp [*]

end Go.Proofs
end
section
set_option linter.unusedVariables false
set_option linter.unusedSimpArgs false
namespace Go.Proofs
open Go.Flat
set_option maxRecDepth 100000
set_option linter.unusedSimpArgs false
set_option linter.unusedVariables false
attribute [local simp] Bool.and_assoc Bool.or_assoc evalG evalX efD skF guardG guardL isCall stepL evalOp ev evs lk tmpsL app AV.ok fresh vv putCells insV ins del putL place Go.Flat.look fillC fillR getCells loadF storeF binF scalarBin intBin strBin isShift shiftBin unF lenF maxF minF rowsF appendF builtinF idxF natOf sliceP sliceF optEv Flat.cut overwrite toPV toPVs constAV scalarC scalarCs AV.cells TI.isAgg allSome andAll scalarEq buildable Go.Flat.lim retQ resL resAll resOne PartOf noTmp closedIn refs refs.refsL isSomeV hasB ids leA leA.leL renA renA.renL callB refsAll backL dropIds renS LiesAt injB ownB freshB memN locId insAll leA_refl leL_refl okS frzS frzA frzA.frzL evalD feet fine updCells cellsFrom memP footRf footWf noTmpU updIds opOps opIds idsA footR footW guardTs opTs dstTs callR callW renLoc renC inBlockQ thenQ Value.oneCell' IntKind.bits IntKind.signed

theorem spec112 (S A : List (List Int)) (nd : Nat) (f : Int) (ok : Bool) (why : Int) : Flat.Sp Try.prog 112 [.ptr 0 0, vv (.bool ok), vv (.int .i64 why)] [(.var 0, .n 3), (.cell 0 0, .av (vv (.int .i64 (f)))), (.cell 0 1, .av (.p (.ps (S.map srow)))), (.cell 0 2, .av (.sl 1 (A).length 0 (nd))), (.arr 1, .arr 45 1 ((A).map srow) 0)] (.tup []) [(.var 0, .n 3), (.cell 0 0, .av (vv (.int .i64 (unlessF f ok why)))), (.cell 0 1, .av (.p (.ps (S.map srow)))), (.cell 0 2, .av (.sl 1 (A).length 0 (nd))), (.arr 1, .arr 45 1 ((A).map srow) 0)] := by
  refine sk Try.func112 ?_
  intro F G hn hG
  refine sq ?_
  refine cv [(.tmp 14, vv (.bool ((f == 0) && !ok)))] ?_ ?_
  · skip
    rcases h0 : (f == 0 : Bool) with _ | _
    · skip
      refine rc 1000 ?_
      iterate 2 (first | refine gp 1150 ?_ | refine os ?_ | refine gt 1150 ?_)
      refine oe 1200 ?_
      refine on ?_
      refine k_nil ?_
      refine ⟨rfl, ?_, ?_, ?_⟩ <;> simp [*]
    · skip
      refine rc 1001000 ?_
      iterate 2 (first | refine gp 1001150 ?_ | refine os ?_ | refine gt 1001150 ?_)
      refine oe 1001200 ?_
      refine on ?_
      refine k_nil ?_
      refine ⟨rfl, ?_, ?_, ?_⟩ <;> simp [*]
  refine pr [0, 1, 2, 3, 14, 19] ?_
  refine cd ?_ ?_
  · intro h14_1
    refine rg 2000 ?_
    refine k_nil ?_
    show retQ _ _ _ _ _ _ _
    simp [*, unlessF]
  · intro h14_1
    refine k_skip ?_
    refine k_nil ?_
    show retQ _ _ _ _ _ _ _
    simp [*, unlessF]

def offI (i : Int) (l : List (List Int)) : Bool := decide (i < 0) || decide ((l.length : Int) ≤ i)
def oneR (l : List (List Int)) (i : Int) : List Int := if offI i l then [] else l.getD i.toNat []
def oneW (l : List (List Int)) (i w : Int) : Int := if offI i l then unlessF w false 1 else w

attribute [local simp] srow in
theorem spec109 (S A : List (List Int)) (nd : Nat) (l : List (List Int)) (i w : Int) : Flat.Sp Try.prog 109 [.ptr 0 0, .p (.ps (l.map srow)), vv (.int .i64 i)] [(.var 0, .n 3), (.cell 0 0, .av (vv (.int .i64 (w)))), (.cell 0 1, .av (.p (.ps (S.map srow)))), (.cell 0 2, .av (.sl 1 (A).length 0 (nd))), (.arr 1, .arr 45 1 ((A).map srow) 0)] (.p (.ps ((oneR l i).map trow))) [(.var 0, .n 3), (.cell 0 0, .av (vv (.int .i64 (oneW l i w)))), (.cell 0 1, .av (.p (.ps (S.map srow)))), (.cell 0 2, .av (.sl 1 (A).length 0 (nd))), (.arr 1, .arr 45 1 ((A).map srow) 0)] := by
  refine sk Try.func109 ?_
  intro F G hn hG
  refine sq ?_
  refine rg 1000 ?_
  refine pr [0, 3, 6, 18, 19, 23] ?_
  refine sq ?_
  refine sq ?_
  refine cv [(.tmp 14, vv (.bool (offI i l)))] ?_ ?_
  · skip
    rcases h0 : (decide (i < 0) : Bool) with _ | _
    · skip
      refine rc 2000 ?_ (h := by simp [*, offI]; exact is_rfl _)
      iterate 4 (first | refine gp 2350 ?_ (he := by intro hgg; (try simp only [Bool.and_eq_true] at hgg); simp [*, offI]; exact is_rfl _) | refine os ?_ | refine gt 2350 ?_ (he := by simp [*, offI]; exact is_rfl _))
      refine oe 2400 ?_ (h := by simp [*, offI]; exact is_rfl _)
      refine on ?_
      refine k_nil ?_
      refine ⟨rfl, ?_, ?_, ?_⟩ <;> simp [*, offI]
    · skip
      refine rc 1002000 ?_ (h := by simp [*, offI]; exact is_rfl _)
      iterate 4 (first | refine gp 1002350 ?_ (he := by intro hgg; (try simp only [Bool.and_eq_true] at hgg); simp [*, offI]; exact is_rfl _) | refine os ?_ | refine gt 1002350 ?_ (he := by simp [*, offI]; exact is_rfl _))
      refine oe 1002400 ?_ (h := by simp [*, offI]; exact is_rfl _)
      refine on ?_
      refine k_nil ?_
      refine ⟨rfl, ?_, ?_, ?_⟩ <;> simp [*, offI]
  refine pr [0, 3, 6, 7, 14, 18, 19, 23] ?_
  refine cd ?_ ?_
  · intro h14_1
    have h14_1 : offI i l = true := h14_1
    refine sq ?_
    refine rc 3000 ?_
    refine oc id (spec112 S A nd w false 1) ?_
    refine on ?_
    refine pr [1, 3, 6, 7, 19, 23] ?_
    refine sq ?_
    refine rg 4000 ?_
    refine pr [1, 3, 6, 7, 19, 23] ?_
    refine k_ret ?_
    show retQ _ _ _ _ _ _ _
    simp [*, oneR, oneW]
  · intro h14_1
    have h14_1 : offI i l = false := h14_1
    have hoff := h14_1
    simp only [offI, Bool.or_eq_false_iff, decide_eq_false_iff_not, Int.not_lt, Int.not_le] at hoff
    obtain ⟨k, rfl⟩ := Int.eq_ofNat_of_zero_le hoff.1
    have hlt : k < l.length := by omega
    obtain ⟨t, hte⟩ : ∃ t, l[k] = t := ⟨_, rfl⟩
    refine k_skip ?_
    refine sq ?_
    refine rg 5000 ?_
    refine pr [6, 7] ?_
    refine k_ret ?_
    show retQ _ _ _ _ _ _ _
    simp [*, oneR, oneW]

def offN (i : Int) (n : Nat) : Bool := decide (i < 0) || decide ((n : Int) ≤ i)
attribute [local simp] srow in
theorem spec109o (S A : List (List Int)) (nd : Nat) (hnd : nd ≤ A.length) (i w : Int) : Flat.Sp Try.prog 109 [.ptr 0 0, .sl 1 A.length 0 nd, vv (.int .i64 i)] [(.var 0, .n 3), (.cell 0 0, .av (vv (.int .i64 (w)))), (.cell 0 1, .av (.p (.ps (S.map srow)))), (.cell 0 2, .av (.sl 1 (A).length 0 (nd))), (.arr 1, .arr 45 1 ((A).map srow) 0)] (.p (.ps ((oneR (A.take nd) i).map trow))) [(.var 0, .n 3), (.cell 0 0, .av (vv (.int .i64 (oneW (A.take nd) i w)))), (.cell 0 1, .av (.p (.ps (S.map srow)))), (.cell 0 2, .av (.sl 1 (A).length 0 (nd))), (.arr 1, .arr 45 1 ((A).map srow) 0)] := by
  refine sk Try.func109 ?_
  intro F G hn hG
  have hmn : min nd A.length = nd := Nat.min_eq_left hnd
  refine sq ?_
  refine rg 1000 ?_
  refine pr [0, 3, 6, 18, 19, 23] ?_
  refine sq ?_
  refine sq ?_
  refine cv [(.tmp 14, vv (.bool (offN i nd)))] ?_ ?_
  · skip
    rcases h0 : (decide (i < 0) : Bool) with _ | _
    · skip
      refine rc 2000 ?_ (h := by simp [*, offN]; exact is_rfl _)
      iterate 4 (first | refine gp 2350 ?_ (he := by intro hgg; (try simp only [Bool.and_eq_true] at hgg); simp [*, offN]; exact is_rfl _) | refine os ?_ | refine gt 2350 ?_ (he := by simp [*, offN]; exact is_rfl _))
      refine oe 2400 ?_ (h := by simp [*, offN]; exact is_rfl _)
      refine on ?_
      refine k_nil ?_
      refine ⟨rfl, ?_, ?_, ?_⟩ <;> simp [*, offN]
    · skip
      refine rc 1002000 ?_ (h := by simp [*, offN]; exact is_rfl _)
      iterate 4 (first | refine gp 1002350 ?_ (he := by intro hgg; (try simp only [Bool.and_eq_true] at hgg); simp [*, offN]; exact is_rfl _) | refine os ?_ | refine gt 1002350 ?_ (he := by simp [*, offN]; exact is_rfl _))
      refine oe 1002400 ?_ (h := by simp [*, offN]; exact is_rfl _)
      refine on ?_
      refine k_nil ?_
      refine ⟨rfl, ?_, ?_, ?_⟩ <;> simp [*, offN]
  refine pr [0, 3, 6, 7, 14, 18, 19, 23] ?_
  refine cd ?_ ?_
  · intro h14_1
    have h14_1 : offN i nd = true := h14_1
    have hoo : offI i (A.take nd) = true := by simpa [offI, offN, hmn] using h14_1
    refine sq ?_
    refine rc 3000 ?_
    refine oc id (spec112 S A nd w false 1) ?_
    refine on ?_
    refine pr [1, 3, 6, 7, 19, 23] ?_
    refine sq ?_
    refine rg 4000 ?_
    refine pr [1, 3, 6, 7, 19, 23] ?_
    refine k_ret ?_
    show retQ _ _ _ _ _ _ _
    simp [*, oneR, oneW]
  · intro h14_1
    have h14_1 : offN i nd = false := h14_1
    have hoo : offI i (A.take nd) = false := by simpa [offI, offN, hmn] using h14_1
    have hoff := h14_1
    simp only [offN, Bool.or_eq_false_iff, decide_eq_false_iff_not, Int.not_lt, Int.not_le] at hoff
    obtain ⟨k, rfl⟩ := Int.eq_ofNat_of_zero_le hoff.1
    have hlt : k < nd := by omega
    have hlt2 : k < A.length := by omega
    obtain ⟨t, hte⟩ : ∃ t, A[k] = t := ⟨_, rfl⟩
    refine k_skip ?_
    refine sq ?_
    refine rg 5000 ?_
    refine pr [6, 7] ?_
    refine k_ret ?_
    show retQ _ _ _ _ _ _ _
    simp [*, oneR, oneW]

def atF (ts : List Int) (r : List Int × Int) (c : Int) : List Int × Int :=
  let w := unlessF r.2 (decide (0 ≤ c) && decide (c < ts.length)) 1
  if w == 0 then (r.1 ++ [ts.getD c.toNat 0], w) else (r.1, w)
def atL (ts : List Int) (cols : List Int) (w : Int) : List Int × Int := cols.foldl (atF ts) ([], w)
theorem atL_take {ts cols : List Int} {w : Int} {i : Nat} {x : Int} (h : cols[i]? = some x) : atL ts (cols.take (i + 1)) w = atF ts (atL ts (cols.take i) w) x := by
  simp [atL, List.take_add_one, h, List.foldl_append]
theorem atF_len (ts : List Int) (r : List Int × Int) (c : Int) : (atF ts r c).1.length ≤ r.1.length + 1 := by
  simp only [atF]
  split <;> simp
theorem foldl_at_len (ts : List Int) : ∀ (cols : List Int) (r : List Int × Int), (cols.foldl (atF ts) r).1.length ≤ r.1.length + cols.length
  | [], r => by simp
  | c :: q, r => by
    have h1 := atF_len ts r c
    have h2 := foldl_at_len ts q (atF ts r c)
    simp only [List.foldl_cons, List.length_cons]
    omega
theorem atL_len (ts cols : List Int) (w : Int) : (atL ts cols w).1.length ≤ cols.length := by
  have := foldl_at_len ts cols ([], w)
  simpa [atL] using this

attribute [local simp] irow in
theorem spec113 (S A : List (List Int)) (nd : Nat) (ts cols : List Int) (hc : cols.length ≤ Bnd) (w : Int) : Flat.Sp Try.prog 113 [.ptr 0 0, .p (.ps (ts.map trow)), .p (.ps (cols.map irow))] [(.var 0, .n 3), (.cell 0 0, .av (vv (.int .i64 (w)))), (.cell 0 1, .av (.p (.ps (S.map srow)))), (.cell 0 2, .av (.sl 1 (A).length 0 (nd))), (.arr 1, .arr 45 1 ((A).map srow) 0)] (.sl 900 (atL ts cols w).1.length 0 (atL ts cols w).1.length) [(.var 0, .n 3), (.cell 0 0, .av (vv (.int .i64 ((atL ts cols w).2)))), (.cell 0 1, .av (.p (.ps (S.map srow)))), (.cell 0 2, .av (.sl 1 (A).length 0 (nd))), (.arr 1, .arr 45 1 ((A).map srow) 0), (.arr 900, .arr 42 1 ((atL ts cols w).1.map trow) 0)] := by
  refine sk Try.func113 ?_
  intro F G hn hG
  have hcl := Bnd_lim hc
  refine sq ?_
  refine rg 1000 ?_
  refine pr [0, 3, 6, 7, 8, 26, 27, 42] ?_
  refine sq ?_
  refine sq ?_
  refine rg 2000 ?_
  refine pr [0, 2, 6, 7, 8, 26, 27, 42] ?_
  refine k_block ?_
  refine ow (.tmp 6) 900 42 1 ?_
  refine k_loop (fun n l => ∃ i, i + n = cols.length ∧ (True) ∧ l = [(.tmp 0, .av (.ptr 0 0)), (.tmp 1, .av (.p (.ps (ts.map trow)))), (.tmp 6, .av (.sl 900 (atL ts (cols.take i) w).1.length 0 (atL ts (cols.take i) w).1.length)), (.tmp 9, .av (.p (.ps (cols.map irow)))), (.tmp 10, .av (vv (.int .i64 cols.length))), (.tmp 11, .av (vv (.int .i64 i))), (.var 0, .n 3), (.cell 0 0, .av (vv (.int .i64 ((atL ts (cols.take i) w).2)))), (.cell 0 1, .av (.p (.ps (S.map srow)))), (.cell 0 2, .av (.sl 1 (A).length 0 (nd))), (.arr 1, .arr 45 1 ((A).map srow) 0), (.arr 900, .arr 42 1 ((atL ts (cols.take i) w).1.map trow) 0)]) (cols.length) hG ⟨_, ⟨by simp [atL], by simp, by simp⟩, 0, by simp, trivial, rfl⟩ ?_
  rintro n _ ⟨i, hin, hfa, rfl⟩
  refine sq ?_
  refine rg 3000 ?_
  refine pr [0, 2, 6, 7, 8, 26, 27, 42] ?_
  refine sq ?_
  refine cd ?_ ?_
  · intro h12_1
    have hlt : i < cols.length := by simpa using h12_1
    obtain ⟨x, hxe⟩ : ∃ x, cols[i] = x := ⟨_, rfl⟩
    have hx : cols[i]? = some x := by simp [hlt, hxe]
    have hal := atL_len ts (cols.take i) w
    have hmin : min i cols.length = i := by omega
    simp only [List.length_take, hmin] at hal
    have hb1 : ((atL ts (cols.take i) w).1.length + 1) * 1 ≤ 140737488355328 := by simp only [Bnd] at hc; omega
    have hb2 : (atL ts (cols.take i) w).1.length + 1 ≤ 140737488355328 := by omega
    refine k_skip ?_
    refine sq ?_
    refine k_block ?_
    refine sq ?_
    refine rg 4000 ?_
    refine pr [0, 2, 6, 7, 8, 26, 27, 42] ?_
    refine sq ?_
    refine rc 5000 ?_
    iterate 4 (first | refine gp 5350 ?_ | refine os ?_ | refine gt 5350 ?_)
    refine oe 5400 ?_
    refine oc id (spec112 S A nd (atL ts (cols.take i) w).2 (decide (0 ≤ x) && decide (x < ts.length)) 1) ?_
    refine on ?_
    refine pr [0, 2, 6, 7, 8, 26, 27, 42] ?_
    refine sq ?_
    refine rg 6000 ?_
    refine pr [0, 2, 6, 7, 8, 26, 27, 42] ?_
    refine cd ?_ ?_
    · intro h32_2
      have hu : unlessF (atL ts (cols.take i) w).2 (decide (0 ≤ x) && decide (x < ts.length)) 1 = 0 := by simpa using h32_2
      have hcb : (decide (0 ≤ x) && decide (x < ts.length)) = true := by cases hq : (decide (0 ≤ x) && decide (x < ts.length)) with | true => rfl | false => exact absurd hu (by rw [hq]; simp only [unlessF]; by_cases hz : (atL ts (cols.take i) w).2 = 0 <;> simp [hz])
      have hu2 : unlessF (atL ts (cols.take i) w).2 true 1 = 0 := by rw [hcb] at hu; exact hu
      have hcc := hcb
      simp only [Bool.and_eq_true, decide_eq_true_eq] at hcc
      obtain ⟨k, rfl⟩ := Int.eq_ofNat_of_zero_le hcc.1
      have hlt3 : k < ts.length := by omega
      obtain ⟨t, hte⟩ : ∃ t, ts[k] = t := ⟨_, rfl⟩
      refine rg 7000 ?_ (h := by simp [*, trow]; exact is_rfl _)
      refine k_nil ?_
      show AK _ _ _ _ _ _
      refine rg 8000 ?_ (h := by simp [*, wrap_succ (show i < Flat.lim by omega), trow]; exact is_rfl _)
      refine k_nil ?_
      refine ⟨n - 1, by omega, _, ⟨?_, ?_, ?_⟩, i + 1, by omega, trivial, rfl⟩ <;> simp [*, atL_take hx, atF, trow]
    · intro h32_2
      have hu : ¬ unlessF (atL ts (cols.take i) w).2 (decide (0 ≤ x) && decide (x < ts.length)) 1 = 0 := by simpa using h32_2
      refine k_skip ?_
      refine k_nil ?_
      show AK _ _ _ _ _ _
      refine rg 8000 ?_ (h := by simp [*, wrap_succ (show i < Flat.lim by omega)]; exact is_rfl _)
      refine k_nil ?_
      refine ⟨n - 1, by omega, _, ⟨?_, ?_, ?_⟩, i + 1, by omega, trivial, rfl⟩ <;> simp [*, atL_take hx, atF, trow]
  · intro h12_1
    have hge : cols.length ≤ i := by simpa using h12_1
    have htk : cols.take i = cols := List.take_of_length_le hge
    refine k_exit ?_
    show AK _ _ _ _ _ _
    refine sq ?_
    refine rg 9000 ?_
    refine pr [6, 7] ?_
    refine k_ret ?_
    show retQ _ _ _ _ _ _ _
    simp [*]

def exsF (ts : List Int) (w : Int) (e : E) : Int := unlessF w ((inferE ts e).2 == 0) (inferE ts e).2
def exsW (ts : List Int) (ex : List E) (w : Int) : Int := ex.foldl (exsF ts) w
theorem exsW_take {ts : List Int} {ex : List E} {w : Int} {i : Nat} {x : E} (h : ex[i]? = some x) : exsW ts (ex.take (i + 1)) w = exsF ts (exsW ts (ex.take i) w) x := by
  simp [exsW, List.take_add_one, h, List.foldl_append]

attribute [local simp] E.av in
theorem spec111 (S A : List (List Int)) (nd : Nat) (ts : List Int) (hts : ts.length ≤ Flat.lim) (ex : List E) (he : ex.length ≤ Bnd) (w : Int) : Flat.Sp Try.prog 111 [.ptr 0 0, .p (.ps (ex.map E.row)), .p (.ps (ts.map trow))] [(.var 0, .n 3), (.cell 0 0, .av (vv (.int .i64 (w)))), (.cell 0 1, .av (.p (.ps (S.map srow)))), (.cell 0 2, .av (.sl 1 (A).length 0 (nd))), (.arr 1, .arr 45 1 ((A).map srow) 0)] (.p (.ps (ex.map (fun e => [PV.v (.int .u8 (inferE ts e).1)])))) [(.var 0, .n 3), (.cell 0 0, .av (vv (.int .i64 (exsW ts ex w)))), (.cell 0 1, .av (.p (.ps (S.map srow)))), (.cell 0 2, .av (.sl 1 (A).length 0 (nd))), (.arr 1, .arr 45 1 ((A).map srow) 0)] := by
  refine sk Try.func111 ?_
  intro F G hn hG
  have hel := Bnd_lim he
  refine sq ?_
  refine rg 1000 ?_
  refine pr [0, 3, 6, 7, 8, 29, 30, 36] ?_
  refine sq ?_
  refine sq ?_
  refine rg 2000 ?_
  refine pr [0, 1, 2, 3, 6, 7, 8, 29, 30, 36] ?_
  refine k_block ?_
  refine ow (.tmp 6) 900 42 1 ?_
  refine k_loop (fun n l => ∃ i, i + n = ex.length ∧ (True) ∧ l = [(.tmp 0, .av (.ptr 0 0)), (.tmp 2, .av (.p (.ps (ts.map trow)))), (.tmp 6, .av (.sl 900 i 0 i)), (.tmp 11, .av (.p (.ps (ex.map E.row)))), (.tmp 12, .av (vv (.int .i64 ex.length))), (.tmp 13, .av (vv (.int .i64 i))), (.var 0, .n 3), (.cell 0 0, .av (vv (.int .i64 ((exsW ts (ex.take i) w))))), (.cell 0 1, .av (.p (.ps (S.map srow)))), (.cell 0 2, .av (.sl 1 (A).length 0 (nd))), (.arr 1, .arr 45 1 ((A).map srow) 0), (.arr 900, .arr 42 1 ((ex.map (fun e => [PV.v (.int .u8 (inferE ts e).1)])).take i) 0)]) (ex.length) hG ⟨_, ⟨by simp [exsW], by simp, by simp⟩, 0, by simp, trivial, rfl⟩ ?_
  rintro n _ ⟨i, hin, hfa, rfl⟩
  refine sq ?_
  refine rg 3000 ?_
  refine pr [0, 1, 2, 3, 6, 7, 8, 29, 30, 36] ?_
  refine sq ?_
  refine cd ?_ ?_
  · intro h14_1
    have hlt : i < ex.length := by simpa using h14_1
    obtain ⟨x, hxe⟩ : ∃ x, ex[i] = x := ⟨_, rfl⟩
    have hx : ex[i]? = some x := by simp [hlt, hxe]
    have hw := wrap_succ (show i < Flat.lim by omega)
    have hmin : min i ex.length = i := by omega
    have hlim : (i + 1) * 1 ≤ 140737488355328 := by simp only [Flat.lim] at *; omega
    have hlim1 : i + 1 ≤ 140737488355328 := by simp only [Flat.lim] at *; omega
    have htm0 := tmap_succ (f := (fun e => [PV.v (.int .u8 (inferE ts e).1)])) hx
    obtain ⟨eo, ec, ev, ek⟩ := x
    refine k_skip ?_
    refine sq ?_
    refine k_block ?_
    refine sq ?_
    refine rg 4000 ?_ (h := by simp [*, E.row_eq]; exact is_rfl _)
    refine pr [0, 1, 2, 3, 6, 7, 8, 29, 30, 36] ?_
    refine sq ?_
    refine rc 5000 ?_
    refine oc id (spec26 ts hts eo ec ev ek) ?_
    refine oe 5100 ?_
    refine on ?_
    refine pr [0, 1, 2, 3, 6, 7, 8, 29, 30, 36] ?_
    refine sq ?_
    refine rc 6000 ?_
    refine oc id (spec112 S A nd (exsW ts (ex.take i) w) ((inferE ts (E.mk eo ec ev ek)).2 == 0) (inferE ts (E.mk eo ec ev ek)).2) ?_
    refine on ?_
    refine pr [0, 1, 2, 3, 6, 7, 8, 29, 30, 36] ?_
    refine rg 7000 ?_
    refine k_nil ?_
    show AK _ _ _ _ _ _
    refine rg 8000 ?_
    refine k_nil ?_
    refine ⟨n - 1, by omega, _, ⟨?_, ?_, ?_⟩, i + 1, by omega, trivial, rfl⟩ <;> simp [*, exsW_take hx, exsF]
  · intro h14_1
    have hge : ex.length ≤ i := by simpa using h14_1
    obtain rfl : i = ex.length := by omega
    have htm0 := tmap_all (f := (fun e => [PV.v (.int .u8 (inferE ts e).1)])) (Nat.le_refl ex.length)
    refine fz 900 ?_
    have htk : ex.take ex.length = ex := List.take_length
    refine k_exit ?_
    show AK _ _ _ _ _ _
    refine sq ?_
    refine rg 9000 ?_
    refine pr [6, 7] ?_
    refine k_ret ?_
    show retQ _ _ _ _ _ _ _
    simp [*]

attribute [local simp] trow in
theorem spec60 (ts : List Int) (hl : ts.length ≤ Bnd) : Flat.Sp Try.prog 60 [.p (.ps (ts.map trow))] [] (.p (.ps (ts.map trow))) [] := by
  refine sk Try.func60 ?_
  intro F G hn hG
  have hl1 : ts.length ≤ 140737488355328 := by simp only [Bnd] at hl; omega
  have htk : (ts.map trow).take ts.length = ts.map trow := List.take_of_length_le (by simp)
  refine sq ?_
  refine rg 1000 ?_
  refine pr [0, 1, 2, 8] ?_
  refine sq ?_
  refine sq ?_
  refine rc 2000 ?_
  refine nc fun b4 hnil => ?_
  refine on ?_
  refine pr [0, 1, 2, 3, 4, 8] ?_
  refine cd ?_ ?_
  · intro h4_1
    have hts : ts = [] := by simpa using hnil h4_1
    subst hts
    refine sq ?_
    refine rg 3000 ?_
    refine pr [0, 1, 2, 3, 5, 8] ?_
    refine k_ret ?_
    show retQ _ _ _ _ _ _ _
    simp [*]
  · intro h4_1
    refine k_skip ?_
    refine sq ?_
    refine rg 4000 ?_
    refine pr [2, 3] ?_
    refine fz 4002 ?_
    refine k_ret ?_
    show retQ _ _ _ _ _ _ _
    simp [*]

end Go.Proofs
end
section
set_option linter.unusedVariables false
set_option linter.unusedSimpArgs false
namespace Go.Proofs
open Go.Flat
set_option maxRecDepth 100000
set_option linter.unusedSimpArgs false
set_option linter.unusedVariables false
attribute [local simp] Bool.and_assoc Bool.or_assoc evalG evalX efD skF guardG guardL isCall stepL evalOp ev evs lk tmpsL app AV.ok fresh vv putCells insV ins del putL place Go.Flat.look fillC fillR getCells loadF storeF binF scalarBin intBin strBin isShift shiftBin unF lenF maxF minF rowsF appendF builtinF idxF natOf sliceP sliceF optEv Flat.cut overwrite toPV toPVs constAV scalarC scalarCs AV.cells TI.isAgg allSome andAll scalarEq buildable Go.Flat.lim retQ resL resAll resOne PartOf noTmp closedIn refs refs.refsL isSomeV hasB ids leA leA.leL renA renA.renL callB refsAll backL dropIds renS LiesAt injB ownB freshB memN locId insAll leA_refl leL_refl okS frzS frzA frzA.frzL evalD feet fine updCells cellsFrom memP footRf footWf noTmpU updIds opOps opIds idsA footR footW guardTs opTs dstTs callR callW renLoc renC inBlockQ thenQ Value.oneCell' IntKind.bits IntKind.signed

@[simp] theorem wrap64_0 : IntKind.i64.wrap 0 = 0 := rfl
theorem spec166_0  : Flat.Sp Try.prog 166 [.psf [], vv (.int .i64 0)] [] (.psf []) [] := by
  refine sk Try.func166 ?_
  intro F G hn hG
  refine sq ?_
  refine rg 1000 ?_
  refine pr [0, 2, 4, 27] ?_
  refine sq ?_
  refine sq ?_
  refine rg 2000 ?_
  refine pr [0, 2, 4, 5, 6, 27] ?_
  refine ce ?_
  refine k_skip ?_
  refine sq ?_
  refine sq ?_
  refine rg 4000 ?_
  refine pr [0, 2, 4, 5, 15, 27] ?_
  refine sq ?_
  refine rg 5000 ?_
  refine pr [0, 2, 4, 5, 16, 27] ?_
  refine ce ?_
  refine k_skip ?_
  refine sq ?_
  refine rg 7000 ?_
  refine pr [4, 5] ?_
  refine k_ret ?_
  show retQ _ _ _ _ _ _ _
  simp [*]

theorem spec166_n (n : Nat) (h0 : 0 < n) (h1 : n ≤ 16) : Flat.Sp Try.prog 166 [.psf [], vv (.int .i64 n)] [] (.sl 6005 n 0 0) [(.arr 6005, .arr 42 1 (List.replicate n [PV.v (.int .u8 0)]) 0)] := by
  refine sk Try.func166 ?_
  intro F G hn hG
  have hw : IntKind.i64.wrap (n : Int) = n := Flat.wrap_small (by simp only [Flat.lim]; omega)
  have hn0 : ¬ ((n : Int) < 0) := by omega
  have hn2 : n ≤ 140737488355328 := by omega
  refine sq ?_
  refine rg 1000 ?_
  refine pr [0, 2, 4, 27] ?_
  refine sq ?_
  refine sq ?_
  refine rg 2000 ?_
  refine pr [0, 2, 4, 5, 6, 27] ?_
  refine ce ?_
  refine k_skip ?_
  refine sq ?_
  refine sq ?_
  refine rg 4000 ?_
  refine pr [0, 2, 4, 5, 15, 27] ?_
  refine sq ?_
  refine rg 5000 ?_
  refine pr [0, 2, 4, 5, 16, 27] ?_
  refine ct ?_
  refine rg 6000 ?_
  refine pr [0, 1, 4, 5, 26, 27] ?_
  refine sq ?_
  refine rg 7000 ?_
  refine pr [4, 5] ?_
  refine k_ret ?_
  show retQ _ _ _ _ _ _ _
  simp [*]

attribute [local simp] srow trow in
theorem spec115_n (a b : List Int) (ha : a.length ≤ 8) (hb : b.length ≤ 8) (hb0 : 0 < b.length) : Flat.Sp Try.prog 115 [.p (.ps [srow a, srow b])] [] (.p (.ps ((a ++ b).map trow))) [] := by
  refine sk Try.func115 ?_
  intro F G hn hG
  have hw1 : IntKind.i64.wrap (a.length : Int) = a.length := Flat.wrap_small (by simp only [Flat.lim]; omega)
  have hw2 : IntKind.i64.wrap ((a.length : Int) + (b.length : Int)) = (a.length : Int) + (b.length : Int) := by have := Flat.wrap_small (n := a.length + b.length) (by simp only [Flat.lim]; omega); simpa using this
  have hn2 : ¬ ((a.length : Int) + (b.length : Int) < 0) := by omega
  have hmx : max (a.length + b.length) a.length = a.length + b.length := by omega
  have hz1 : ¬ 0 = a.length + b.length := by omega
  have hz2 : 0 < a.length + b.length := by omega
  have hbn : ¬ b = [] := by rintro rfl; simp at hb0
  have hl1 : a.length ≤ 140737488355328 := by omega
  have hl2 : a.length + b.length ≤ 140737488355328 := by omega
  have hdr : List.drop (a.length + b.length) (a.map trow ++ List.replicate b.length [PV.v (Value.int .u8 0)]) = [] := List.drop_eq_nil_of_le (by simp)
  have htk : (a.map trow ++ b.map trow).take (a.length + b.length) = a.map trow ++ b.map trow := List.take_of_length_le (by simp)
  refine sq ?_
  refine rg 1000 ?_
  refine pr [0, 1, 2, 4, 5, 7, 8, 36] ?_
  refine sq ?_
  refine rg 2000 ?_
  refine pr [0, 1, 2, 4, 5, 7, 8, 36] ?_
  refine sq ?_
  refine sq ?_
  refine rg 3000 ?_
  refine pr [0, 1, 2, 4, 5, 7, 8, 36] ?_
  refine k_block ?_
  refine k_rounds 3 ?_
  show AK _ _ _ _ _ _
  refine sq ?_
  refine rg 4000 ?_
  refine pr [0, 1, 2, 4, 5, 7, 8, 36] ?_
  refine sq ?_
  refine ct ?_
  refine k_skip ?_
  refine sq ?_
  refine k_block ?_
  refine sq ?_
  refine rg 5000 ?_
  refine pr [0, 1, 2, 4, 5, 7, 8, 36] ?_
  refine sq ?_
  refine rg 6000 ?_
  refine pr [0, 1, 2, 4, 5, 7, 8, 36] ?_
  refine sq ?_
  refine rg 7000 ?_
  refine pr [0, 1, 2, 4, 5, 7, 8, 36] ?_
  refine ce ?_
  refine k_skip ?_
  refine k_nil ?_
  show AK _ _ _ _ _ _
  refine rg 9000 ?_
  refine k_nil ?_
  show AK _ _ _ _ _ _
  refine sq ?_
  refine rg 1004000 ?_
  refine pr [0, 1, 2, 4, 5, 7, 8, 36] ?_
  refine sq ?_
  refine ct ?_
  refine k_skip ?_
  refine sq ?_
  refine k_block ?_
  refine sq ?_
  refine rg 1005000 ?_
  refine pr [0, 1, 2, 4, 5, 7, 8, 36] ?_
  refine sq ?_
  refine rg 1006000 ?_
  refine pr [0, 1, 2, 4, 5, 7, 8, 36] ?_
  refine sq ?_
  refine rg 1007000 ?_
  refine pr [0, 1, 2, 4, 5, 7, 8, 36] ?_
  refine ce ?_
  refine k_skip ?_
  refine k_nil ?_
  show AK _ _ _ _ _ _
  refine rg 1009000 ?_
  refine k_nil ?_
  show AK _ _ _ _ _ _
  refine sq ?_
  refine rg 2004000 ?_
  refine pr [0, 1, 2, 4, 5, 7, 8, 36] ?_
  refine sq ?_
  refine ce ?_
  refine k_exit ?_
  show AK _ _ _ _ _ _
  refine sq ?_
  refine rc 10000 ?_
  refine oc (fun _ => 10000) (spec166_n (a.length + b.length) (by omega) (by omega)) ?_
  refine oe 10100 ?_
  refine on ?_
  refine pr [0, 1, 2, 3, 6, 7, 8, 9, 25, 36] ?_
  refine sq ?_
  refine sq ?_
  refine rg 11000 ?_
  refine pr [2, 3, 6, 7, 8, 9, 25, 36] ?_
  refine k_block ?_
  refine k_rounds 3 ?_
  show AK _ _ _ _ _ _
  refine sq ?_
  refine rg 12000 ?_
  refine pr [2, 3, 6, 7, 8, 9, 25, 36] ?_
  refine sq ?_
  refine ct ?_
  refine k_skip ?_
  refine sq ?_
  refine k_block ?_
  refine sq ?_
  refine rg 13000 ?_
  refine pr [2, 3, 6, 7, 8, 9, 25, 36] ?_
  refine rg 14000 ?_
  refine k_nil ?_
  show AK _ _ _ _ _ _
  refine rg 15000 ?_
  refine k_nil ?_
  show AK _ _ _ _ _ _
  refine sq ?_
  refine rg 1012000 ?_
  refine pr [2, 3, 6, 7, 8, 9, 25, 36] ?_
  refine sq ?_
  refine ct ?_
  refine k_skip ?_
  refine sq ?_
  refine k_block ?_
  refine sq ?_
  refine rg 1013000 ?_
  refine pr [2, 3, 6, 7, 8, 9, 25, 36] ?_
  refine rg 1014000 ?_
  refine k_nil ?_
  show AK _ _ _ _ _ _
  refine rg 1015000 ?_
  refine k_nil ?_
  show AK _ _ _ _ _ _
  refine sq ?_
  refine rg 2012000 ?_
  refine pr [2, 3, 6, 7, 8, 9, 25, 36] ?_
  refine sq ?_
  refine ce ?_
  refine k_exit ?_
  show AK _ _ _ _ _ _
  refine sq ?_
  refine rg 16000 ?_
  refine pr [2, 3] ?_
  refine fz 10000 ?_
  refine k_ret ?_
  show retQ _ _ _ _ _ _ _
  simp [*]

attribute [local simp] srow trow in
theorem spec115_e (a b : List Int) (ha : a.length ≤ 8) (hb : b = []) (ha0 : 0 < a.length) : Flat.Sp Try.prog 115 [.p (.ps [srow a, srow b])] [] (.p (.ps ((a ++ b).map trow))) [] := by
  refine sk Try.func115 ?_
  intro F G hn hG
  subst hb
  have hw1 : IntKind.i64.wrap (a.length : Int) = a.length := Flat.wrap_small (by simp only [Flat.lim]; omega)
  have hn2 : ¬ (a.length : Int) < 0 := by omega
  have hz1 : ¬ 0 = a.length := by omega
  have hl1 : a.length ≤ 140737488355328 := by omega
  have hbn : ¬ a = [] := by rintro rfl; simp at ha0
  have htk : (a.map trow).take a.length = a.map trow := List.take_of_length_le (by simp)
  refine sq ?_
  refine rg 1000 ?_
  refine pr [0, 1, 2, 4, 5, 7, 8, 36] ?_
  refine sq ?_
  refine rg 2000 ?_
  refine pr [0, 1, 2, 4, 5, 7, 8, 36] ?_
  refine sq ?_
  refine sq ?_
  refine rg 3000 ?_
  refine pr [0, 1, 2, 4, 5, 7, 8, 36] ?_
  refine k_block ?_
  refine k_rounds 3 ?_
  show AK _ _ _ _ _ _
  refine sq ?_
  refine rg 4000 ?_
  refine pr [0, 1, 2, 4, 5, 7, 8, 36] ?_
  refine sq ?_
  refine ct ?_
  refine k_skip ?_
  refine sq ?_
  refine k_block ?_
  refine sq ?_
  refine rg 5000 ?_
  refine pr [0, 1, 2, 4, 5, 7, 8, 36] ?_
  refine sq ?_
  refine rg 6000 ?_
  refine pr [0, 1, 2, 4, 5, 7, 8, 36] ?_
  refine sq ?_
  refine rg 7000 ?_
  refine pr [0, 1, 2, 4, 5, 7, 8, 36] ?_
  refine ce ?_
  refine k_skip ?_
  refine k_nil ?_
  show AK _ _ _ _ _ _
  refine rg 9000 ?_
  refine k_nil ?_
  show AK _ _ _ _ _ _
  refine sq ?_
  refine rg 1004000 ?_
  refine pr [0, 1, 2, 4, 5, 7, 8, 36] ?_
  refine sq ?_
  refine ct ?_
  refine k_skip ?_
  refine sq ?_
  refine k_block ?_
  refine sq ?_
  refine rg 1005000 ?_
  refine pr [0, 1, 2, 4, 5, 7, 8, 36] ?_
  refine sq ?_
  refine rg 1006000 ?_
  refine pr [0, 1, 2, 4, 5, 7, 8, 36] ?_
  refine sq ?_
  refine rg 1007000 ?_
  refine pr [0, 1, 2, 4, 5, 7, 8, 36] ?_
  refine ce ?_
  refine k_skip ?_
  refine k_nil ?_
  show AK _ _ _ _ _ _
  refine rg 1009000 ?_
  refine k_nil ?_
  show AK _ _ _ _ _ _
  refine sq ?_
  refine rg 2004000 ?_
  refine pr [0, 1, 2, 4, 5, 7, 8, 36] ?_
  refine sq ?_
  refine ce ?_
  refine k_exit ?_
  show AK _ _ _ _ _ _
  refine sq ?_
  refine rc 10000 ?_
  refine oc (fun _ => 10000) (spec166_n a.length (by omega) (by omega)) ?_
  refine oe 10100 ?_
  refine on ?_
  refine pr [0, 1, 2, 3, 6, 7, 8, 9, 25, 36] ?_
  refine sq ?_
  refine sq ?_
  refine rg 11000 ?_
  refine pr [2, 3, 6, 7, 8, 9, 25, 36] ?_
  refine k_block ?_
  refine k_rounds 3 ?_
  show AK _ _ _ _ _ _
  refine sq ?_
  refine rg 12000 ?_
  refine pr [2, 3, 6, 7, 8, 9, 25, 36] ?_
  refine sq ?_
  refine ct ?_
  refine k_skip ?_
  refine sq ?_
  refine k_block ?_
  refine sq ?_
  refine rg 13000 ?_
  refine pr [2, 3, 6, 7, 8, 9, 25, 36] ?_
  refine rg 14000 ?_
  refine k_nil ?_
  show AK _ _ _ _ _ _
  refine rg 15000 ?_
  refine k_nil ?_
  show AK _ _ _ _ _ _
  refine sq ?_
  refine rg 1012000 ?_
  refine pr [2, 3, 6, 7, 8, 9, 25, 36] ?_
  refine sq ?_
  refine ct ?_
  refine k_skip ?_
  refine sq ?_
  refine k_block ?_
  refine sq ?_
  refine rg 1013000 ?_
  refine pr [2, 3, 6, 7, 8, 9, 25, 36] ?_
  refine rg 1014000 ?_
  refine k_nil ?_
  show AK _ _ _ _ _ _
  refine rg 1015000 ?_
  refine k_nil ?_
  show AK _ _ _ _ _ _
  refine sq ?_
  refine rg 2012000 ?_
  refine pr [2, 3, 6, 7, 8, 9, 25, 36] ?_
  refine sq ?_
  refine ce ?_
  refine k_exit ?_
  show AK _ _ _ _ _ _
  refine sq ?_
  refine rg 16000 ?_
  refine pr [2, 3] ?_
  refine fz 10000 ?_
  refine k_ret ?_
  show retQ _ _ _ _ _ _ _
  simp [*]

attribute [local simp] srow trow in
theorem spec115_0 (a b : List Int) (ha : a = []) (hb : b = []) : Flat.Sp Try.prog 115 [.p (.ps [srow a, srow b])] [] (.p (.ps ((a ++ b).map trow))) [] := by
  refine sk Try.func115 ?_
  intro F G hn hG
  subst ha
  subst hb
  refine sq ?_
  refine rg 1000 ?_
  refine pr [0, 1, 2, 4, 5, 7, 8, 36] ?_
  refine sq ?_
  refine rg 2000 ?_
  refine pr [0, 1, 2, 4, 5, 7, 8, 36] ?_
  refine sq ?_
  refine sq ?_
  refine rg 3000 ?_
  refine pr [0, 1, 2, 4, 5, 7, 8, 36] ?_
  refine k_block ?_
  refine k_rounds 3 ?_
  show AK _ _ _ _ _ _
  refine sq ?_
  refine rg 4000 ?_
  refine pr [0, 1, 2, 4, 5, 7, 8, 36] ?_
  refine sq ?_
  refine ct ?_
  refine k_skip ?_
  refine sq ?_
  refine k_block ?_
  refine sq ?_
  refine rg 5000 ?_
  refine pr [0, 1, 2, 4, 5, 7, 8, 36] ?_
  refine sq ?_
  refine rg 6000 ?_
  refine pr [0, 1, 2, 4, 5, 7, 8, 36] ?_
  refine sq ?_
  refine rg 7000 ?_
  refine pr [0, 1, 2, 4, 5, 7, 8, 36] ?_
  refine ce ?_
  refine k_skip ?_
  refine k_nil ?_
  show AK _ _ _ _ _ _
  refine rg 9000 ?_
  refine k_nil ?_
  show AK _ _ _ _ _ _
  refine sq ?_
  refine rg 1004000 ?_
  refine pr [0, 1, 2, 4, 5, 7, 8, 36] ?_
  refine sq ?_
  refine ct ?_
  refine k_skip ?_
  refine sq ?_
  refine k_block ?_
  refine sq ?_
  refine rg 1005000 ?_
  refine pr [0, 1, 2, 4, 5, 7, 8, 36] ?_
  refine sq ?_
  refine rg 1006000 ?_
  refine pr [0, 1, 2, 4, 5, 7, 8, 36] ?_
  refine sq ?_
  refine rg 1007000 ?_
  refine pr [0, 1, 2, 4, 5, 7, 8, 36] ?_
  refine ce ?_
  refine k_skip ?_
  refine k_nil ?_
  show AK _ _ _ _ _ _
  refine rg 1009000 ?_
  refine k_nil ?_
  show AK _ _ _ _ _ _
  refine sq ?_
  refine rg 2004000 ?_
  refine pr [0, 1, 2, 4, 5, 7, 8, 36] ?_
  refine sq ?_
  refine ce ?_
  refine k_exit ?_
  show AK _ _ _ _ _ _
  refine sq ?_
  refine rc 10000 ?_
  refine oc (id) (spec166_0) ?_
  refine oe 10100 ?_
  refine on ?_
  refine pr [0, 1, 2, 3, 6, 7, 8, 9, 25, 36] ?_
  refine sq ?_
  refine sq ?_
  refine rg 11000 ?_
  refine pr [2, 3, 6, 7, 8, 9, 25, 36] ?_
  refine k_block ?_
  refine k_rounds 3 ?_
  show AK _ _ _ _ _ _
  refine sq ?_
  refine rg 12000 ?_
  refine pr [2, 3, 6, 7, 8, 9, 25, 36] ?_
  refine sq ?_
  refine ct ?_
  refine k_skip ?_
  refine sq ?_
  refine k_block ?_
  refine sq ?_
  refine rg 13000 ?_
  refine pr [2, 3, 6, 7, 8, 9, 25, 36] ?_
  refine rg 14000 ?_
  refine k_nil ?_
  show AK _ _ _ _ _ _
  refine rg 15000 ?_
  refine k_nil ?_
  show AK _ _ _ _ _ _
  refine sq ?_
  refine rg 1012000 ?_
  refine pr [2, 3, 6, 7, 8, 9, 25, 36] ?_
  refine sq ?_
  refine ct ?_
  refine k_skip ?_
  refine sq ?_
  refine k_block ?_
  refine sq ?_
  refine rg 1013000 ?_
  refine pr [2, 3, 6, 7, 8, 9, 25, 36] ?_
  refine rg 1014000 ?_
  refine k_nil ?_
  show AK _ _ _ _ _ _
  refine rg 1015000 ?_
  refine k_nil ?_
  show AK _ _ _ _ _ _
  refine sq ?_
  refine rg 2012000 ?_
  refine pr [2, 3, 6, 7, 8, 9, 25, 36] ?_
  refine sq ?_
  refine ce ?_
  refine k_exit ?_
  show AK _ _ _ _ _ _
  refine sq ?_
  refine rg 16000 ?_
  refine pr [2, 3] ?_
  refine fz 14002 ?_
  refine k_ret ?_
  show retQ _ _ _ _ _ _ _
  simp [*]

theorem spec115 (a b : List Int) (ha : a.length ≤ 8) (hb : b.length ≤ 8) : Flat.Sp Try.prog 115 [.p (.ps [srow a, srow b])] [] (.p (.ps ((a ++ b).map trow))) [] := by
  rcases Nat.eq_zero_or_pos b.length with h | h
  · have hb0 := List.length_eq_zero_iff.1 h
    rcases Nat.eq_zero_or_pos a.length with h2 | h2
    · exact spec115_0 a b (List.length_eq_zero_iff.1 h2) hb0
    · exact spec115_e a b ha hb0 h2
  · exact spec115_n a b ha hb h

end Go.Proofs
end
section
set_option linter.unusedVariables false
set_option linter.unusedSimpArgs false
namespace Go.Proofs
open Go.Flat
set_option maxRecDepth 100000
set_option linter.unusedSimpArgs false
set_option linter.unusedVariables false
attribute [local simp] Bool.and_assoc Bool.or_assoc evalG evalX efD skF guardG guardL isCall stepL evalOp ev evs lk tmpsL app AV.ok fresh vv putCells insV ins del putL place Go.Flat.look fillC fillR getCells loadF storeF binF scalarBin intBin strBin isShift shiftBin unF lenF maxF minF rowsF appendF builtinF idxF natOf sliceP sliceF optEv Flat.cut overwrite toPV toPVs constAV scalarC scalarCs AV.cells TI.isAgg allSome andAll scalarEq buildable Go.Flat.lim retQ resL resAll resOne PartOf noTmp closedIn refs refs.refsL isSomeV hasB ids leA leA.leL renA renA.renL callB refsAll backL dropIds renS LiesAt injB ownB freshB memN locId insAll leA_refl leL_refl okS frzS frzA frzA.frzL evalD feet fine updCells cellsFrom memP footRf footWf noTmpU updIds opOps opIds idsA footR footW guardTs opTs dstTs callR callW renLoc renC inBlockQ thenQ Value.oneCell' IntKind.bits IntKind.signed

def redR (ts cols : List Int) (m agg w : Int) : List Int × Int :=
  let r := atL ts cols w
  if agg == 1 then (r.1 ++ [1], r.2)
  else if agg == 5 then (ts, unlessF r.2 (decide (1 ≤ m) && decide (m ≤ 8)) 1)
  else
    let q := atL ts [m] r.2
    (r.1 ++ q.1, unlessF q.2 (agg != 2 || q.1 == [1]) 11)

attribute [local simp] Pl.av in
theorem spec116_1 (S A : List (List Int)) (nd : Nat) (k m : Int) (kids : List Pl) (ex : List E) (cols wth : List Int) (agg rds : Int) (hc : cols.length ≤ Bnd) (ts : List Int) (w : Int) (hg1 : (agg == 1) = true) : Flat.Sp Try.prog 116 [.ptr 0 0, (Pl.mk k m kids ex cols wth agg rds).av, .p (.ps (ts.map trow))] [(.var 0, .n 3), (.cell 0 0, .av (vv (.int .i64 (w)))), (.cell 0 1, .av (.p (.ps (S.map srow)))), (.cell 0 2, .av (.sl 1 (A).length 0 (nd))), (.arr 1, .arr 45 1 ((A).map srow) 0)] (.p (.ps ((redR ts cols m agg w).1.map trow))) [(.var 0, .n 3), (.cell 0 0, .av (vv (.int .i64 ((redR ts cols m agg w).2)))), (.cell 0 1, .av (.p (.ps (S.map srow)))), (.cell 0 2, .av (.sl 1 (A).length 0 (nd))), (.arr 1, .arr 45 1 ((A).map srow) 0)] := by
  refine sk Try.func116 ?_
  intro F G hn hG
  have htk1 : ∀ z, ((atL ts cols w).1.map trow ++ [z]).take ((atL ts cols w).1.length + 1) = (atL ts cols w).1.map trow ++ [z] := fun z => List.take_of_length_le (by simp)
  have hal := atL_len ts cols w
  have hlc : cols.length ≤ 1048576 := hc
  have hl1 : (atL ts cols w).1.length + 1 ≤ 140737488355328 := by omega
  have htk : ((atL ts cols w).1.map trow).take (atL ts cols w).1.length = (atL ts cols w).1.map trow := List.take_of_length_le (by simp)
  refine sq ?_
  refine rg 1000 ?_
  refine pr [0, 1, 2, 3, 4, 5, 6, 34, 35, 53, 54, 57] ?_
  refine sq ?_
  refine rc 2000 ?_
  refine oc (fun k => if k = 900 then 2500 else k) (spec113 S A nd ts cols hc w) ?_
  refine oe 2100 ?_
  refine on ?_
  refine pr [0, 1, 2, 3, 4, 5, 6, 9, 14, 34, 35, 53, 54, 57] ?_
  refine sq ?_
  refine sq ?_
  refine rg 3000 ?_
  refine pr [0, 1, 2, 3, 4, 5, 6, 9, 15, 34, 35, 53, 54, 57] ?_
  refine k_block ?_
  refine sq ?_
  refine rg 4000 ?_
  refine pr [0, 1, 2, 3, 4, 5, 6, 9, 15, 17, 18, 34, 35, 53, 54, 57] ?_
  refine ct ?_
  refine sq ?_
  refine rg 5000 ?_ (h := by simp [*, trow]; exact is_rfl _)
  refine pr [0, 1, 2, 3, 4, 5, 6, 9, 36, 53, 54, 57] ?_
  refine fz 2500 ?_
  refine k_ret ?_
  show retQ _ _ _ _ _ _ _
  simp [*, redR, trow]

attribute [local simp] Pl.av in
theorem spec116_5 (S A : List (List Int)) (nd : Nat) (k m : Int) (kids : List Pl) (ex : List E) (cols wth : List Int) (agg rds : Int) (hc : cols.length ≤ Bnd) (ts : List Int) (w : Int) (hg1 : (agg == 1) = false) (hg5 : (agg == 5) = true) : Flat.Sp Try.prog 116 [.ptr 0 0, (Pl.mk k m kids ex cols wth agg rds).av, .p (.ps (ts.map trow))] [(.var 0, .n 3), (.cell 0 0, .av (vv (.int .i64 (w)))), (.cell 0 1, .av (.p (.ps (S.map srow)))), (.cell 0 2, .av (.sl 1 (A).length 0 (nd))), (.arr 1, .arr 45 1 ((A).map srow) 0)] (.p (.ps ((redR ts cols m agg w).1.map trow))) [(.var 0, .n 3), (.cell 0 0, .av (vv (.int .i64 ((redR ts cols m agg w).2)))), (.cell 0 1, .av (.p (.ps (S.map srow)))), (.cell 0 2, .av (.sl 1 (A).length 0 (nd))), (.arr 1, .arr 45 1 ((A).map srow) 0)] := by
  refine sk Try.func116 ?_
  intro F G hn hG
  refine sq ?_
  refine rg 1000 ?_
  refine pr [0, 1, 2, 3, 4, 5, 6, 34, 35, 53, 54, 57] ?_
  refine sq ?_
  refine rc 2000 ?_
  refine oc (fun k => if k = 900 then 2500 else k) (spec113 S A nd ts cols hc w) ?_
  refine oe 2100 ?_
  refine on ?_
  refine pr [0, 1, 2, 3, 4, 5, 6, 9, 14, 34, 35, 53, 54, 57] ?_
  refine sq ?_
  refine sq ?_
  refine rg 3000 ?_
  refine pr [0, 1, 2, 3, 4, 5, 6, 9, 15, 34, 35, 53, 54, 57] ?_
  refine k_block ?_
  refine sq ?_
  refine rg 4000 ?_
  refine pr [0, 1, 2, 3, 4, 5, 6, 9, 15, 17, 18, 34, 35, 53, 54, 57] ?_
  refine ce ?_
  refine sq ?_
  refine rg 6000 ?_
  refine pr [0, 1, 2, 3, 4, 5, 6, 9, 21, 22, 23, 34, 35, 53, 54, 57] ?_
  refine ct ?_
  refine sq ?_
  refine dr ?_
  refine de 7000 ?_
  iterate 3 (first | refine dp 7250 ?_ | refine ds ?_ | refine dt 7250 ?_)
  refine de 7300 ?_
  refine dc id (spec112 S A nd (atL ts cols w).2 (decide (1 ≤ m) && decide (m ≤ 8)) 1) ?_
  refine dn ?_
  refine pr [0, 1, 2, 3, 4, 5, 6, 9, 35, 53, 54, 57] ?_
  refine sq ?_
  refine rg 8000 ?_
  refine pr [0, 1, 2, 3, 4, 5, 6, 9, 36, 53, 54, 57] ?_
  refine k_ret ?_
  show retQ _ _ _ _ _ _ _
  simp [*, redR]

attribute [local simp] Pl.av in
theorem spec116_x (S A : List (List Int)) (nd : Nat) (k m : Int) (kids : List Pl) (ex : List E) (cols wth : List Int) (agg rds : Int) (hc : cols.length ≤ Bnd) (ts : List Int) (w : Int) (hg1 : (agg == 1) = false) (hg5 : (agg == 5) = false) : Flat.Sp Try.prog 116 [.ptr 0 0, (Pl.mk k m kids ex cols wth agg rds).av, .p (.ps (ts.map trow))] [(.var 0, .n 3), (.cell 0 0, .av (vv (.int .i64 (w)))), (.cell 0 1, .av (.p (.ps (S.map srow)))), (.cell 0 2, .av (.sl 1 (A).length 0 (nd))), (.arr 1, .arr 45 1 ((A).map srow) 0)] (.p (.ps ((redR ts cols m agg w).1.map trow))) [(.var 0, .n 3), (.cell 0 0, .av (vv (.int .i64 ((redR ts cols m agg w).2)))), (.cell 0 1, .av (.p (.ps (S.map srow)))), (.cell 0 2, .av (.sl 1 (A).length 0 (nd))), (.arr 1, .arr 45 1 ((A).map srow) 0)] := by
  refine sk Try.func116 ?_
  intro F G hn hG
  have hq := atL_len ts [m] (atL ts cols w).2
  have hlc : cols.length ≤ 1048576 := hc
  have hal := atL_len ts cols w
  simp only [List.length_singleton] at hq
  have hl2 : (atL ts cols w).1.length + (atL ts [m] (atL ts cols w).2).1.length ≤ 140737488355328 := by omega
  have htk : ((atL ts [m] (atL ts cols w).2).1.map trow).take (atL ts [m] (atL ts cols w).2).1.length = (atL ts [m] (atL ts cols w).2).1.map trow := List.take_of_length_le (by simp)
  have htk2 : ((atL ts cols w).1.map trow ++ (atL ts [m] (atL ts cols w).2).1.map trow).take ((atL ts cols w).1.length + (atL ts [m] (atL ts cols w).2).1.length) = (atL ts cols w).1.map trow ++ (atL ts [m] (atL ts cols w).2).1.map trow := List.take_of_length_le (by simp)
  refine sq ?_
  refine rg 1000 ?_
  refine pr [0, 1, 2, 3, 4, 5, 6, 34, 35, 53, 54, 57] ?_
  refine sq ?_
  refine rc 2000 ?_
  refine oc (fun k => if k = 900 then 2500 else k) (spec113 S A nd ts cols hc w) ?_
  refine oe 2100 ?_
  refine on ?_
  refine pr [0, 1, 2, 3, 4, 5, 6, 9, 14, 34, 35, 53, 54, 57] ?_
  refine sq ?_
  refine sq ?_
  refine rg 3000 ?_
  refine pr [0, 1, 2, 3, 4, 5, 6, 9, 15, 34, 35, 53, 54, 57] ?_
  refine k_block ?_
  refine sq ?_
  refine rg 4000 ?_
  refine pr [0, 1, 2, 3, 4, 5, 6, 9, 15, 17, 18, 34, 35, 53, 54, 57] ?_
  refine ce ?_
  refine sq ?_
  refine rg 6000 ?_
  refine pr [0, 1, 2, 3, 4, 5, 6, 9, 21, 22, 23, 34, 35, 53, 54, 57] ?_
  refine ce ?_
  refine k_skip ?_
  refine k_nil ?_
  show AK _ _ _ _ _ _
  refine sq ?_
  refine rc 9000 ?_
  refine oc (fun k => if k = 900 then 9500 else k) (spec113 S A nd ts [m] (by simp [Bnd]) (atL ts cols w).2) ?_ (hg := by simp [*, irow]) (hf := by simp [*, irow]; exact is_rfl _) (hx := by simp [*, irow]; exact is_rfl _) (hargs := by simp [*, irow]) (hB := by simp [*, irow]) (hL := by simp [*, irow]) (hd := by simp [*, irow]; exact is_rfl _)
  refine oe 9100 ?_
  refine on ?_
  refine pr [0, 1, 4, 5, 6, 9, 42, 53, 54, 57] ?_
  refine fz 9500 ?_
  refine sq ?_
  refine dr ?_
  refine de 10000 ?_
  iterate 2 (first | refine dp 10150 ?_ | refine ds ?_ | refine dt 10150 ?_)
  refine dg (fun hg => spec114 (atL ts [m] (atL ts cols w).2).1 [1] (by simp only [Flat.lim]; omega)) ?_ (hf := by intro hgg; (try simp only [Bool.and_eq_true] at hgg); simp [*, trow]; exact is_rfl _) (hx := by intro hgg; (try simp only [Bool.and_eq_true] at hgg); simp [*, trow]; exact is_rfl _) (hargs := by intro hgg; (try simp only [Bool.and_eq_true] at hgg); simp [*, trow]) (hd := by simp [*, trow]; exact is_rfl _)
  refine de 10300 ?_
  refine dc id (spec112 S A nd (atL ts [m] (atL ts cols w).2).2 (agg != 2 || (atL ts [m] (atL ts cols w).2).1 == [1]) 11) ?_
  refine dn ?_
  refine pr [6, 9, 54, 57] ?_
  refine sq ?_
  refine rg 11000 ?_ (h := by simp [*, trow]; exact is_rfl _)
  refine pr [6, 7] ?_
  refine fz 2500 ?_
  refine k_ret ?_
  show retQ _ _ _ _ _ _ _
  simp [*, redR]

theorem spec116 (S A : List (List Int)) (nd : Nat) (k m : Int) (kids : List Pl) (ex : List E) (cols wth : List Int) (agg rds : Int) (hc : cols.length ≤ Bnd) (ts : List Int) (w : Int) : Flat.Sp Try.prog 116 [.ptr 0 0, (Pl.mk k m kids ex cols wth agg rds).av, .p (.ps (ts.map trow))] [(.var 0, .n 3), (.cell 0 0, .av (vv (.int .i64 (w)))), (.cell 0 1, .av (.p (.ps (S.map srow)))), (.cell 0 2, .av (.sl 1 (A).length 0 (nd))), (.arr 1, .arr 45 1 ((A).map srow) 0)] (.p (.ps ((redR ts cols m agg w).1.map trow))) [(.var 0, .n 3), (.cell 0 0, .av (vv (.int .i64 ((redR ts cols m agg w).2)))), (.cell 0 1, .av (.p (.ps (S.map srow)))), (.cell 0 2, .av (.sl 1 (A).length 0 (nd))), (.arr 1, .arr 45 1 ((A).map srow) 0)] := by
  cases hg1 : (agg == 1) with
  | true => exact spec116_1 S A nd k m kids ex cols wth agg rds hc ts w hg1
  | false =>
    cases hg5 : (agg == 5) with
    | true => exact spec116_5 S A nd k m kids ex cols wth agg rds hc ts w hg1 hg5
    | false => exact spec116_x S A nd k m kids ex cols wth agg rds hc ts w hg1 hg5

end Go.Proofs
end
section
set_option linter.unusedVariables false
set_option linter.unusedSimpArgs false
namespace Go.Proofs
open Go.Flat
/-- The stack of the schemas around: one more, in the place behind nd. -/
def pushA (A : List (List Int)) (nd : Nat) (x : List Int) : List (List Int) := A.take nd ++ [x] ++ A.drop (nd + 1)
theorem pushA_len {A : List (List Int)} {nd : Nat} (x : List Int) (h : nd ≤ A.length) : (pushA A nd x).length = max A.length (nd + 1) := by
  simp only [pushA, List.length_append, List.length_take, List.length_drop, List.length_singleton]
  omega
theorem pushA_take {A : List (List Int)} {nd : Nat} (x : List Int) (h : nd ≤ A.length) : (pushA A nd x).take nd = A.take nd := by
  rw [pushA, List.append_assoc, List.take_append_of_le_length (by simp; omega), List.take_take]
  congr 1
  omega
theorem pushA_take1 {A : List (List Int)} {nd : Nat} (x : List Int) (h : nd ≤ A.length) : (pushA A nd x).take (nd + 1) = A.take nd ++ [x] := by
  have hl : (A.take nd ++ [x]).length = nd + 1 := by simp; omega
  rw [pushA, List.take_append_of_le_length (by omega), List.take_of_length_le (by omega)]
/-- What the judge makes of a plan, its kids' schemas known. -/
def finR (k m : Int) (ex : List E) (cols wth : List Int) (agg : Int) (l : List (List Int)) (w : Int) : List Int × Int :=
  if k == 3 then (ex.map (fun e => (inferE (l.getD 0 []) e).1), exsW (l.getD 0 []) ex w)
  else if k == 4 then (l.getD 0 [], unlessF (exsW (l.getD 0 []) ex w) ((ex.map (fun e => (inferE (l.getD 0 []) e).1)).getD 0 0 == 1) 11)
  else if k == 7 then (l.getD 0 [] ++ l.getD 1 [], unlessF (atL (l.getD 1 []) wth (atL (l.getD 0 []) cols w).2).2 ((atL (l.getD 0 []) cols w).1 == (atL (l.getD 1 []) wth (atL (l.getD 0 []) cols w).2).1) 11)
  else if k == 8 then redR (l.getD 0 []) cols m agg w
  else (l.getD 0 [], unlessF w (!(l.any fun s => !(s == l.getD 0 []))) 11)
def finJ (k m : Int) (ex : List E) (cols wth : List Int) (agg : Int) (l : List (List Int)) (w : Int) : List Int × Int :=
  ((finR k m ex cols wth agg l w).1, unlessF (finR k m ex cols wth agg l w).2 (decide (((finR k m ex cols wth agg l w).1.length : Int) ≤ 8)) 2)
abbrev JR := Int × List (List Int)
def varI (nd : Nat) (m : Int) : Int := IntKind.i64.wrap (IntKind.i64.wrap ((nd : Int) - 1) - m)
mutual
def jdg (S : List (List Int)) : Pl → Nat → Int → List (List Int) → List Int × JR
  | .mk k m kids ex cols wth agg rds, nd, w, A =>
    if k == 1 then (oneR S m, oneW S m w, A)
    else if k == 2 then (if decide (m < 0) then ([], unlessF w false 1, A) else (oneR (A.take nd) (varI nd m), oneW (A.take nd) (varI nd m) w, A))
    else
      let r := if k == 10 then jdgI S kids nd w A else jdgL S kids nd w A
      if r.2.1 != 0 then ([], r.2.1, r.2.2)
      else ((finJ k m ex cols wth agg r.1 r.2.1).1, (finJ k m ex cols wth agg r.1 r.2.1).2, r.2.2)
def jdgL (S : List (List Int)) : List Pl → Nat → Int → List (List Int) → List (List Int) × JR
  | [], _, w, A => ([], w, A)
  | x :: q, nd, w, A =>
    let a := jdg S x nd w A
    let b := jdgL S q nd a.2.1 a.2.2
    (a.1 :: b.1, b.2)
def jdgI (S : List (List Int)) : List Pl → Nat → Int → List (List Int) → List (List Int) × JR
  | [], _, w, A => ([], w, A)
  | x :: q, nd, w, A =>
    let a := jdg S x nd w A
    let b := jdgL S q (nd + 1) a.2.1 (pushA a.2.2 nd a.1)
    (a.1 :: b.1, b.2)
end
def jdgK (S : List (List Int)) (k : Int) (kids : List Pl) (nd : Nat) (w : Int) (A : List (List Int)) : List (List Int) × JR := if k == 10 then jdgI S kids nd w A else jdgL S kids nd w A
theorem jdgL_append (S : List (List Int)) (nd : Nat) : ∀ (l q : List Pl) (w : Int) (A : List (List Int)), jdgL S (l ++ q) nd w A = ((jdgL S l nd w A).1 ++ (jdgL S q nd (jdgL S l nd w A).2.1 (jdgL S l nd w A).2.2).1, (jdgL S q nd (jdgL S l nd w A).2.1 (jdgL S l nd w A).2.2).2)
  | [], q, w, A => by simp [jdgL]
  | x :: l, q, w, A => by
    simp only [List.cons_append, jdgL, jdgL_append S nd l q]
theorem jdgL_take {S : List (List Int)} {kids : List Pl} {nd : Nat} {w : Int} {A : List (List Int)} {i : Nat} {x : Pl} (h : kids[i]? = some x) :
    jdgL S (kids.take (i + 1)) nd w A = ((jdgL S (kids.take i) nd w A).1 ++ [(jdg S x nd (jdgL S (kids.take i) nd w A).2.1 (jdgL S (kids.take i) nd w A).2.2).1], (jdg S x nd (jdgL S (kids.take i) nd w A).2.1 (jdgL S (kids.take i) nd w A).2.2).2) := by
  rw [List.take_add_one, h, jdgL_append]
  simp [jdgL]
theorem jdgL_rows (S : List (List Int)) (nd : Nat) : ∀ (l : List Pl) (w : Int) (A : List (List Int)), (jdgL S l nd w A).1.length = l.length
  | [], w, A => by simp [jdgL]
  | x :: l, w, A => by simp [jdgL, jdgL_rows S nd l]
theorem jdgI_rows (S : List (List Int)) (nd : Nat) (l : List Pl) (w : Int) (A : List (List Int)) : (jdgI S l nd w A).1.length = l.length := by
  cases l with
  | nil => simp [jdgI]
  | cons x l => simp [jdgI, jdgL_rows]
theorem jdgK_rows (S : List (List Int)) (k : Int) (nd : Nat) (l : List Pl) (w : Int) (A : List (List Int)) : (jdgK S k l nd w A).1.length = l.length := by
  unfold jdgK
  split
  · exact jdgI_rows ..
  · exact jdgL_rows ..
mutual
/-- A right plan, all the way down, at some depth. -/
def Pl.good : Pl → Nat → Prop
  | .mk k m kids ex cols wth agg rds, d => d ≤ 16 ∧ formedP k m kids.length ex cols wth agg rds = true ∧ (∀ e ∈ ex, checkE e = 0) ∧ Pl.goodL kids (d + 1)
def Pl.goodL : List Pl → Nat → Prop
  | [], _ => True
  | e :: r, d => e.good d ∧ Pl.goodL r d
end
theorem Pl.goodL_mem {d : Nat} : ∀ {l : List Pl}, Pl.goodL l d → ∀ k ∈ l, k.good d
  | [], _, k, h => by simp at h
  | e :: r, h, k, hk => by
    simp only [Pl.goodL] at h
    rcases List.mem_cons.1 hk with rfl | hk
    · exact h.1
    · exact Pl.goodL_mem h.2 k hk
theorem Pl.goodL_of {d : Nat} : ∀ {l : List Pl}, (∀ k ∈ l, k.good d) → Pl.goodL l d
  | [], _ => by simp [Pl.goodL]
  | e :: r, h => by
    rw [Pl.goodL]
    exact ⟨h e (by simp), Pl.goodL_of fun k hk => h k (by simp [hk])⟩
/-- The stack grows, and stays short; what lies below stays. -/
def Grows (A A' : List (List Int)) (nd : Nat) : Prop := A.length ≤ A'.length ∧ A'.length ≤ 16 ∧ A'.take nd = A.take nd
theorem Grows.rfl' {A : List (List Int)} {nd : Nat} (h : A.length ≤ 16) : Grows A A nd := ⟨Nat.le_refl _, h, rfl⟩
theorem Grows.trans {A B D : List (List Int)} {nd : Nat} (h1 : Grows A B nd) (h2 : Grows B D nd) : Grows A D nd := ⟨Nat.le_trans h1.1 h2.1, h2.2.1, h2.2.2.trans h1.2.2⟩
theorem jdgL_grows {S : List (List Int)} {d : Nat} {l : List Pl} (ih : ∀ x ∈ l, ∀ nd w A, nd < d → nd ≤ A.length → A.length ≤ 16 → Grows A (jdg S x nd w A).2.2 nd) : ∀ nd w A, nd < d → nd ≤ A.length → A.length ≤ 16 → Grows A (jdgL S l nd w A).2.2 nd := by
  induction l with
  | nil => intro nd w A _ _ h; simp only [jdgL]; exact .rfl' h
  | cons x l ihl =>
    intro nd w A h1 h2 h3
    simp only [jdgL]
    have g := ih x (by simp) nd w A h1 h2 h3
    exact g.trans (ihl (fun y hy => ih y (by simp [hy])) nd _ _ h1 (Nat.le_trans h2 g.1) g.2.1)
theorem jdgI_grows {S : List (List Int)} {d : Nat} (hd : d ≤ 16) {l : List Pl} (ih : ∀ x ∈ l, ∀ nd w A, nd < d + 1 → nd ≤ A.length → A.length ≤ 16 → Grows A (jdg S x nd w A).2.2 nd) : ∀ nd w A, nd < d → nd ≤ A.length → A.length ≤ 16 → Grows A (jdgI S l nd w A).2.2 nd := by
  intro nd w A h1 h2 h3
  cases l with
  | nil => simp only [jdgI]; exact .rfl' h3
  | cons x l =>
    simp only [jdgI]
    have g := ih x (by simp) nd w A (by omega) h2 h3
    have h4 := Nat.le_trans h2 g.1
    have hp := pushA_len (jdg S x nd w A).1 h4
    have hq := g.2.1
    have g2 := jdgL_grows (S := S) (d := d + 1) (l := l) (fun y hy => ih y (by simp [hy])) (nd + 1) (jdg S x nd w A).2.1 (pushA (jdg S x nd w A).2.2 nd (jdg S x nd w A).1) (by omega) (by rw [hp]; omega) (by rw [hp]; omega)
    refine ⟨Nat.le_trans g.1 (Nat.le_trans (by rw [hp]; omega) g2.1), g2.2.1, ?_⟩
    have := congrArg (List.take nd) g2.2.2
    rw [List.take_take, List.take_take, Nat.min_eq_left (by omega), pushA_take _ h4, g.2.2] at this
    exact this
theorem jdg_grows (S : List (List Int)) : ∀ (p : Pl) (d : Nat), p.good d → ∀ nd w A, nd < d → nd ≤ A.length → A.length ≤ 16 → Grows A (jdg S p nd w A).2.2 nd := by
  refine Pl.ind fun k m kids ex cols wth agg rds ih d hg nd w A h1 h2 h3 => ?_
  rw [Pl.good] at hg
  obtain ⟨hd, -, -, hgl⟩ := hg
  have ih' : ∀ x ∈ kids, ∀ nd w A, nd < d + 1 → nd ≤ A.length → A.length ≤ 16 → Grows A (jdg S x nd w A).2.2 nd := fun x hx nd w A => ih x hx (d + 1) (Pl.goodL_mem hgl x hx) nd w A
  have gI := jdgI_grows hd ih' nd w A h1 h2 h3
  have gL := jdgL_grows (d := d + 1) ih' nd w A (by omega) h2 h3
  rw [jdg]
  split
  · exact .rfl' h3
  · split
    · split <;> exact .rfl' h3
    · simp only
      split <;> split <;> first | exact gI | exact gL
end Go.Proofs
end
section
set_option linter.unusedVariables false
set_option linter.unusedSimpArgs false
namespace Go.Proofs
open Go.Flat
theorem unlessF_zero {w y : Int} {b : Bool} (h : unlessF w b y = 0) : w = 0 := by
  unfold unlessF at h
  by_cases hw : w = 0
  · exact hw
  · simp [hw] at h
theorem unlessF_zero2 {w y : Int} {b : Bool} (hy : y ≠ 0) (h : unlessF w b y = 0) : w = 0 ∧ b = true := by
  have h0 := unlessF_zero h
  subst h0
  cases b with
  | true => exact ⟨rfl, rfl⟩
  | false => simp [unlessF] at h; exact absurd h hy
theorem foldl_zero {α : Type} {f : Int → α → Int} (hf : ∀ w a, f w a = 0 → w = 0) : ∀ (l : List α) (w : Int), l.foldl f w = 0 → w = 0
  | [], w, h => h
  | a :: l, w, h => hf w a (foldl_zero hf l (f w a) h)
theorem exsW_zero {ts : List Int} {ex : List E} {w : Int} (h : exsW ts ex w = 0) : w = 0 := foldl_zero (fun _ _ h => unlessF_zero h) ex w h
theorem foldl_atF_zero (ts : List Int) : ∀ (cols : List Int) (r : List Int × Int), (cols.foldl (atF ts) r).2 = 0 → r.2 = 0
  | [], r, h => h
  | c :: q, r, h => by
    have := foldl_atF_zero ts q (atF ts r c) h
    simp only [atF] at this
    split at this
    · exact unlessF_zero this
    · exact unlessF_zero this
theorem atL_zero {ts cols : List Int} {w : Int} (h : (atL ts cols w).2 = 0) : w = 0 := foldl_atF_zero ts cols _ h
theorem redR_zero {ts cols : List Int} {m agg w : Int} (h : (redR ts cols m agg w).2 = 0) : w = 0 := by
  simp only [redR] at h
  split at h
  · exact atL_zero h
  · split at h
    · exact atL_zero (unlessF_zero h)
    · exact atL_zero (atL_zero (unlessF_zero h))
theorem finR_zero {k m : Int} {ex : List E} {cols wth : List Int} {agg : Int} {l : List (List Int)} {w : Int} (h : (finR k m ex cols wth agg l w).2 = 0) : w = 0 := by
  unfold finR at h
  split at h
  · exact exsW_zero h
  · split at h
    · exact exsW_zero (unlessF_zero h)
    · split at h
      · exact atL_zero (atL_zero (unlessF_zero h))
      · split at h
        · exact redR_zero h
        · exact unlessF_zero h
theorem finJ_zero {k m : Int} {ex : List E} {cols wth : List Int} {agg : Int} {l : List (List Int)} {w : Int} (h : (finJ k m ex cols wth agg l w).2 = 0) : w = 0 ∧ (finJ k m ex cols wth agg l w).1.length ≤ 8 := by
  simp only [finJ] at h ⊢
  obtain ⟨h1, h2⟩ := unlessF_zero2 (by decide) h
  refine ⟨finR_zero h1, ?_⟩
  simp only [decide_eq_true_eq] at h2
  omega
theorem oneR_len {l : List (List Int)} (h : ∀ s ∈ l, s.length ≤ 8) (i : Int) : (oneR l i).length ≤ 8 := by
  unfold oneR
  split
  · simp
  · rw [List.getD_eq_getElem?_getD]
    cases hq : l[i.toNat]? with
    | none => simp
    | some x => exact h x (List.mem_of_getElem? hq)
theorem oneW_zero {l : List (List Int)} {i w : Int} (h : oneW l i w = 0) : w = 0 := by
  unfold oneW at h
  split at h
  · exact unlessF_zero h
  · exact h
def Sh (A : List (List Int)) (nd : Nat) (w : Int) : Prop := w = 0 → ∀ s ∈ A.take nd, s.length ≤ 8
def JOk (S : List (List Int)) (p : Pl) (d : Nat) : Prop := ∀ nd w A, nd < d → nd ≤ A.length → A.length ≤ 16 → Sh A nd w → (jdg S p nd w A).2.1 = 0 → w = 0 ∧ (jdg S p nd w A).1.length ≤ 8
def LOk (r : List (List Int) × JR) (w : Int) : Prop := r.2.1 = 0 → w = 0 ∧ ∀ s ∈ r.1, s.length ≤ 8
theorem jdgL_ok {S : List (List Int)} {d : Nat} {l : List Pl} (hg : Pl.goodL l d) (ih : ∀ x ∈ l, JOk S x d) : ∀ nd w A, nd < d → nd ≤ A.length → A.length ≤ 16 → Sh A nd w → LOk (jdgL S l nd w A) w := by
  induction l with
  | nil => intro nd w A _ _ _ _ h; simp only [jdgL] at h ⊢; exact ⟨h, by simp⟩
  | cons x l ihl =>
    intro nd w A h1 h2 h3 h4 h
    rw [Pl.goodL] at hg
    simp only [jdgL] at h ⊢
    have g := jdg_grows S x d hg.1 nd w A h1 h2 h3
    have hx := ih x (by simp) nd w A h1 h2 h3 h4
    have hl := ihl hg.2 (fun y hy => ih y (by simp [hy])) nd (jdg S x nd w A).2.1 (jdg S x nd w A).2.2 h1 (Nat.le_trans h2 g.1) g.2.1 (fun hz => by rw [g.2.2]; exact h4 (hx hz).1) h
    have hx2 := hx hl.1
    refine ⟨hx2.1, fun s hs => ?_⟩
    rcases List.mem_cons.1 hs with rfl | hs
    · exact hx2.2
    · exact hl.2 s hs
theorem jdgI_ok {S : List (List Int)} {d : Nat} (hd : d ≤ 16) {l : List Pl} (hg : Pl.goodL l (d + 1)) (ih : ∀ x ∈ l, JOk S x (d + 1)) : ∀ nd w A, nd < d → nd ≤ A.length → A.length ≤ 16 → Sh A nd w → LOk (jdgI S l nd w A) w := by
  intro nd w A h1 h2 h3 h4 h
  cases l with
  | nil => simp only [jdgI] at h ⊢; exact ⟨h, by simp⟩
  | cons x l =>
    rw [Pl.goodL] at hg
    simp only [jdgI] at h ⊢
    have g := jdg_grows S x (d + 1) hg.1 nd w A (by omega) h2 h3
    have hx := ih x (by simp) nd w A (by omega) h2 h3 h4
    have h5 := Nat.le_trans h2 g.1
    have hp := pushA_len (jdg S x nd w A).1 h5
    have hq := g.2.1
    have hl := jdgL_ok (S := S) (d := d + 1) hg.2 (fun y hy => ih y (by simp [hy])) (nd + 1) (jdg S x nd w A).2.1 (pushA (jdg S x nd w A).2.2 nd (jdg S x nd w A).1) (by omega) (by rw [hp]; omega) (by rw [hp]; omega) (fun hz s hs => by
      rw [pushA_take1 _ h5, g.2.2] at hs
      rcases List.mem_append.1 hs with hs | hs
      · exact h4 (hx hz).1 s hs
      · rw [List.mem_singleton] at hs; rw [hs]; exact (hx hz).2) h
    have hx2 := hx hl.1
    refine ⟨hx2.1, fun s hs => ?_⟩
    rcases List.mem_cons.1 hs with rfl | hs
    · exact hx2.2
    · exact hl.2 s hs
theorem jdg_ok {S : List (List Int)} (hS : ∀ s ∈ S, s.length ≤ 8) : ∀ (p : Pl) (d : Nat), p.good d → JOk S p d := by
  refine Pl.ind fun k m kids ex cols wth agg rds ih d hg nd w A h1 h2 h3 h4 h => ?_
  rw [Pl.good] at hg
  obtain ⟨hd, -, -, hgl⟩ := hg
  have ih' : ∀ x ∈ kids, JOk S x (d + 1) := fun x hx => ih x hx (d + 1) (Pl.goodL_mem hgl x hx)
  have gI := jdgI_ok hd hgl ih' nd w A h1 h2 h3 h4
  have gL := jdgL_ok hgl ih' nd w A (by omega) h2 h3 h4
  rw [jdg] at h ⊢
  split at h
  · rename_i hk
    rw [if_pos hk]
    exact ⟨oneW_zero h, oneR_len hS m⟩
  · rename_i hk
    rw [if_neg hk]
    split at h
    · rename_i hk2
      rw [if_pos hk2]
      split at h
      · rename_i hm
        rw [if_pos hm]
        exact ⟨unlessF_zero h, by simp⟩
      · rename_i hm
        rw [if_neg hm]
        have := oneW_zero h
        exact ⟨this, oneR_len (h4 this) _⟩
    · rename_i hk2
      rw [if_neg hk2]
      have hK : LOk (if k == 10 then jdgI S kids nd w A else jdgL S kids nd w A) w := by split <;> assumption
      simp only at h ⊢
      generalize (if k == 10 then jdgI S kids nd w A else jdgL S kids nd w A) = r at h hK ⊢
      split at h
      · rename_i hr
        simp only at h
        simp [h] at hr
      · rename_i hr
        rw [if_neg hr]
        simp only at h ⊢
        have hr0 : r.2.1 = 0 := by simpa using hr
        exact ⟨(hK hr0).1, (finJ_zero h).2⟩
theorem jdgK_ok {S : List (List Int)} (hS : ∀ s ∈ S, s.length ≤ 8) {k : Int} {kids : List Pl} {d : Nat} (hd : d ≤ 16) (hgl : Pl.goodL kids (d + 1)) {nd : Nat} {w : Int} {A : List (List Int)} (h1 : nd < d) (h2 : nd ≤ A.length) (h3 : A.length ≤ 16) (h4 : Sh A nd w) : LOk (jdgK S k kids nd w A) w := by
  have ih' : ∀ x ∈ kids, JOk S x (d + 1) := fun x hx => jdg_ok hS x (d + 1) (Pl.goodL_mem hgl x hx)
  unfold jdgK
  split
  · exact jdgI_ok hd hgl ih' nd w A h1 h2 h3 h4
  · exact jdgL_ok hgl ih' nd w A (by omega) h2 h3 h4
end Go.Proofs
end
section
set_option linter.unusedVariables false
set_option linter.unusedSimpArgs false
namespace Go.Proofs
open Go.Flat
theorem exL_cons (e : E) (ex : List E) (r : Bool × Bool) : exL (e :: ex) r = exL ex (exF r e) := rfl
theorem exL_long : ∀ (ex : List E) (r : Bool × Bool), r.2 = true → (exL ex r).2 = true
  | [], r, h => h
  | e :: ex, r, h => exL_long ex _ (by simp [exF, h])
theorem exL_ok : ∀ (ex : List E) (r : Bool × Bool), (exL ex r).1 = true → (exL ex r).2 = false → r.1 = true ∧ r.2 = false ∧ ∀ e ∈ ex, checkE e ≠ 4 ∧ checkE e ≠ 2
  | [], r, h1, h2 => ⟨h1, h2, by simp⟩
  | e :: ex, r, h1, h2 => by
    obtain ⟨g1, g2, g3⟩ := exL_ok ex (exF r e) h1 h2
    simp only [exF, Bool.and_eq_true, Bool.or_eq_false_iff, bne_iff_ne, ne_eq, beq_eq_false_iff_ne] at g1 g2
    refine ⟨g1.1, g2.1, fun x hx => ?_⟩
    rcases List.mem_cons.1 hx with rfl | hx
    · exact ⟨g1.2, g2.2⟩
    · exact g3 x hx
theorem checkE_vals (e : E) : checkE e = 0 ∨ checkE e = 2 ∨ checkE e = 4 := by
  unfold checkE
  simp only
  split
  · simp
  · split
    · simp
    · split <;> simp
def PMono (s t : PSrv) : Prop := (s.2.2.2.1 = true → t.2.2.2.1 = true) ∧ (s.2.2.2.2 = true → t.2.2.2.2 = true) ∧ s.2.1 ≤ t.2.1
theorem PMono.rfl' (s : PSrv) : PMono s s := ⟨id, id, Int.le_refl _⟩
theorem PMono.trans {s t u : PSrv} (h1 : PMono s t) (h2 : PMono t u) : PMono s u := ⟨fun h => h2.1 (h1.1 h), fun h => h2.2.1 (h1.2.1 h), Int.le_trans h1.2.2 h2.2.2⟩
theorem plookL_mono {l : List Pl} (ih : ∀ x ∈ l, ∀ d lo s, PMono s (plook x d lo s)) : ∀ k i d lo s, PMono s (plookL l k i d lo s) := by
  induction l with
  | nil => intro k i d lo s; rw [plookL]; exact .rfl' s
  | cons x l ihl =>
    intro k i d lo s
    rw [plookL]
    exact (ih x (by simp) _ _ s).trans (ihl (fun y hy => ih y (by simp [hy])) _ _ _ _ _)
theorem plook_step (k m : Int) (kids : List Pl) (ex : List E) (cols wth : List Int) (agg rds d lo : Int) (s : PSrv) : PMono s (IntKind.i64.wrap (s.1 + 1), (if d > s.2.1 then d else s.2.1), (if lo > s.2.2.1 then lo else s.2.2.1), s.2.2.2.1 || !(exL ex (formedP k m kids.length ex cols wth agg rds, s.2.2.2.2)).1, (exL ex (formedP k m kids.length ex cols wth agg rds, s.2.2.2.2)).2) := by
  refine ⟨fun h => by simp [h], fun h => exL_long _ _ h, ?_⟩
  simp only
  split <;> omega
theorem plook_mono : ∀ (p : Pl) (d lo : Int) (s : PSrv), PMono s (plook p d lo s) := by
  refine Pl.ind fun k m kids ex cols wth agg rds ih d lo s => ?_
  rw [plook]
  have h := plook_step k m kids ex cols wth agg rds d lo s
  split
  · exact h
  · exact h.trans (plookL_mono ih _ _ _ _ _)
def PFine (s : PSrv) : Prop := s.2.2.2.1 = false ∧ s.2.2.2.2 = false ∧ s.2.1 ≤ 16
theorem PFine.back {s t : PSrv} (h : PMono s t) (g : PFine t) : PFine s := by
  refine ⟨?_, ?_, Int.le_trans h.2.2 g.2.2⟩
  · cases hq : s.2.2.2.1 with
    | false => rfl
    | true => exact absurd (h.1 hq) (by rw [g.1]; simp)
  · cases hq : s.2.2.2.2 with
    | false => rfl
    | true => exact absurd (h.2.1 hq) (by rw [g.2.1]; simp)
theorem wrap_d {d : Nat} (h : d ≤ 16) : IntKind.i64.wrap ((d : Int) + 1) = ((d + 1 : Nat) : Int) := by
  rw [wrap_succ (by simp only [Flat.lim]; omega)]
  simp
theorem plookL_good {l : List Pl} {d : Nat} (hd : d ≤ 16) (ih : ∀ x ∈ l, ∀ (d : Nat) lo s, PFine (plook x d lo s) → x.good d) : ∀ k i lo s, PFine (plookL l k i d lo s) → Pl.goodL l (d + 1) := by
  induction l with
  | nil => intro k i lo s _; simp [Pl.goodL]
  | cons x l ihl =>
    intro k i lo s h
    rw [plookL, wrap_d hd] at h
    rw [Pl.goodL]
    exact ⟨ih x (by simp) (d + 1) _ s (PFine.back (plookL_mono (fun y _ => plook_mono y) _ _ _ _ _) h), ihl (fun y hy => ih y (by simp [hy])) _ _ _ _ h⟩
theorem plook_good : ∀ (p : Pl) (d : Nat) (lo : Int) (s : PSrv), PFine (plook p d lo s) → p.good d := by
  refine Pl.ind fun k m kids ex cols wth agg rds ih d lo s h => ?_
  rw [plook] at h
  rw [Pl.good]
  split at h
  · rename_i hc
    obtain ⟨h1, h2, h3⟩ := h
    simp only [Bool.or_eq_false_iff, Bool.not_eq_false'] at h1
    simp only [Bool.or_eq_true, Bool.not_eq_true', decide_eq_true_eq] at hc
    rcases hc with hc | hc
    · rw [h1.2] at hc; simp at hc
    · simp only at h3
      split at h3 <;> omega
  · rename_i hc
    simp only [Bool.or_eq_true, Bool.not_eq_true', decide_eq_true_eq, not_or, Bool.not_eq_false] at hc
    have hd : d ≤ 16 := by omega
    have hb := PFine.back (plookL_mono (fun y _ => plook_mono y) _ _ _ _ _) h
    obtain ⟨g1, g2, g3⟩ := exL_ok _ _ hc.1 hb.2.1
    refine ⟨hd, g1, fun e he => ?_, plookL_good hd ih _ _ _ _ h⟩
    obtain ⟨q1, q2⟩ := g3 e he
    rcases checkE_vals e with h | h | h
    · exact h
    · exact absurd h q2
    · exact absurd h q1
theorem checkP_fine {p : Pl} (h : checkP p = 0) : PFine (surveyP p) := by
  unfold checkP at h
  simp only at h
  split at h
  · simp at h
  · rename_i h1
    split at h
    · simp at h
    · rename_i h2
      split at h
      · simp at h
      · split at h
        · simp at h
        · rename_i h3
          simp only [decide_eq_true_eq] at h3
          exact ⟨by simpa using h1, by simpa using h2, by omega⟩
theorem checkP_good {p : Pl} (h : checkP p = 0) : p.good 1 := plook_good p 1 0 _ (checkP_fine h)
theorem checkSch_ok {ss : List (List Int)} (h : checkSch ss = 0) : ss.length ≤ 8 ∧ ∀ s ∈ ss, s.length ≤ 8 := by
  unfold checkSch at h
  split at h
  · simp at h
  · rename_i hc
    simp only [Bool.or_eq_true, decide_eq_true_eq, List.any_eq_true, not_or, not_exists, not_and] at hc
    refine ⟨by omega, fun s hs => ?_⟩
    have := hc.2 s hs
    simp only [badS, Bool.or_eq_true, decide_eq_true_eq, not_or] at this
    omega
/-- A plan's schema, or why it has none. -/
def inferP (ss : List (List Int)) (p : Pl) : List Int × Int :=
  if checkSch ss != 0 then ([], checkSch ss) else if checkP p != 0 then ([], checkP p)
  else if (jdg ss p 0 0 []).2.1 != 0 then ([], (jdg ss p 0 0 []).2.1) else ((jdg ss p 0 0 []).1, 0)
end Go.Proofs
end
section
set_option linter.unusedVariables false
set_option linter.unusedSimpArgs false
namespace Go.Proofs
open Go.Flat
mutual
def Pl.size : Pl → Nat
  | .mk _ _ kids _ _ _ _ _ => 1 + Pl.sizeL kids
def Pl.sizeL : List Pl → Nat
  | [] => 0
  | x :: r => x.size + Pl.sizeL r
end
mutual
def Pl.hgt : Pl → Nat
  | .mk _ _ kids _ _ _ _ _ => 1 + Pl.hgtL kids
def Pl.hgtL : List Pl → Nat
  | [] => 0
  | x :: r => max x.hgt (Pl.hgtL r)
end
def morN (k : Int) (i : Nat) : Nat := if k == 10 && i == 1 then 1 else 0
theorem morP_N (k : Int) (i : Nat) : morP k i = (morN k i : Int) := by
  unfold morP morN
  have : ((i : Int) == 1) = (i == 1) := by
    rw [Bool.eq_iff_iff]; simp; omega
  rw [this]
  split <;> rfl
mutual
def Pl.lp : Pl → Nat
  | .mk k _ kids _ _ _ _ _ => Pl.lpL k 0 kids
def Pl.lpL (k : Int) (i : Nat) : List Pl → Nat
  | [] => 0
  | x :: r => max (morN k i + x.lp) (Pl.lpL k (i + 1) r)
end
mutual
/-- Right but for its depth. -/
def Pl.gd : Pl → Prop
  | .mk k m kids ex cols wth agg rds => formedP k m kids.length ex cols wth agg rds = true ∧ (∀ e ∈ ex, checkE e = 0) ∧ Pl.gdL kids
def Pl.gdL : List Pl → Prop
  | [] => True
  | x :: r => x.gd ∧ Pl.gdL r
end
theorem Pl.gdL_mem : ∀ {l : List Pl}, Pl.gdL l → ∀ x ∈ l, x.gd
  | [], _, x, h => by simp at h
  | e :: r, h, x, hx => by
    simp only [Pl.gdL] at h
    rcases List.mem_cons.1 hx with rfl | hx
    · exact h.1
    · exact Pl.gdL_mem h.2 x hx
theorem Pl.gdL_of : ∀ {l : List Pl}, (∀ x ∈ l, x.gd) → Pl.gdL l
  | [], _ => by simp [Pl.gdL]
  | e :: r, h => by
    rw [Pl.gdL]
    exact ⟨h e (by simp), Pl.gdL_of fun x hx => h x (by simp [hx])⟩
theorem Pl.good_gd : ∀ (p : Pl) (d : Nat), p.good d → p.gd ∧ d + p.hgt ≤ 17 := by
  refine Pl.ind fun k m kids ex cols wth agg rds ih d h => ?_
  rw [Pl.good] at h
  obtain ⟨h1, h2, h3, h4⟩ := h
  have hk : ∀ x ∈ kids, x.gd ∧ (d + 1) + x.hgt ≤ 17 := fun x hx => ih x hx (d + 1) (Pl.goodL_mem h4 x hx)
  rw [Pl.gd, Pl.hgt]
  refine ⟨⟨h2, h3, Pl.gdL_of fun x hx => (hk x hx).1⟩, ?_⟩
  have : Pl.hgtL kids ≤ 16 - d := by
    clear ih h4 h2 h3
    induction kids with
    | nil => simp [Pl.hgtL]
    | cons x r ihr =>
      rw [Pl.hgtL]
      have hx := (hk x (by simp)).2
      have := ihr fun y hy => hk y (by simp [hy])
      omega
  omega
theorem exL_good : ∀ (ex : List E) (r : Bool × Bool), (∀ e ∈ ex, checkE e = 0) → exL ex r = r
  | [], r, _ => rfl
  | e :: ex, r, h => by
    have h0 := h e (by simp)
    rw [exL_cons, exL_good ex _ fun x hx => h x (by simp [hx])]
    simp [exF, h0]
def sv (c D L : Nat) (W G : Bool) : PSrv := ((c : Int), (D : Int), (L : Int), W, G)
theorem imax (d D : Nat) : (if (d : Int) > (D : Int) then (d : Int) else (D : Int)) = ((max D d : Nat) : Int) := by
  split <;> omega
def Exact (p : Pl) : Prop := ∀ (d lo c D L : Nat) (W G : Bool), p.gd → d + p.hgt ≤ 17 → c + p.size ≤ 2 ^ 40 → lo + p.hgt ≤ 64 →
  plook p d lo (sv c D L W G) = sv (c + p.size) (max D (d + p.hgt - 1)) (max L (lo + p.lp)) W G
theorem wrapn {n : Nat} (h : n ≤ 2 ^ 41) : IntKind.i64.wrap ((n : Int) + 1) = ((n + 1 : Nat) : Int) := by
  rw [wrap_succ (by simp only [Flat.lim]; omega)]
  simp
theorem plookL_exact {l : List Pl} (ih : ∀ x ∈ l, Exact x) (hg : Pl.gdL l) (k : Int) : ∀ (i d lo c D L : Nat) (W G : Bool), d ≤ D → lo ≤ L → d + 1 + Pl.hgtL l ≤ 17 → c + Pl.sizeL l ≤ 2 ^ 40 → lo + 1 + Pl.hgtL l ≤ 64 →
    plookL l k i d lo (sv c D L W G) = sv (c + Pl.sizeL l) (max D (d + Pl.hgtL l)) (max L (lo + Pl.lpL k i l)) W G := by
  induction l with
  | nil =>
    intro i d lo c D L W G h1 h2 _ _ _
    rw [plookL, Pl.sizeL, Pl.hgtL, Pl.lpL]
    have e1 : max D (d + 0) = D := by omega
    have e2 : max L (lo + 0) = L := by omega
    rw [e1, e2]
    rfl
  | cons x r ihr =>
    intro i d lo c D L W G h1 h2 h3 h4 h5
    rw [Pl.gdL] at hg
    rw [Pl.hgtL] at h3 h5
    rw [Pl.sizeL] at h4
    have hm : morN k i ≤ 1 := by unfold morN; split <;> omega
    have hw : IntKind.i64.wrap ((lo : Int) + morP k i) = ((lo + morN k i : Nat) : Int) := by
      rw [morP_N]
      have := Flat.wrap_small (n := lo + morN k i) (by simp only [Flat.lim]; omega)
      simpa using this
    have hi : ((i : Int) + 1) = ((i + 1 : Nat) : Int) := by simp
    have hh : 1 ≤ x.hgt := by cases x; rw [Pl.hgt]; omega
    rw [plookL, wrapn (by omega), hw, ih x (by simp) (d + 1) (lo + morN k i) c D L W G hg.1 (by omega) (by omega) (by omega), hi,
      ihr (fun y hy => ih y (by simp [hy])) hg.2 (i + 1) d lo (c + x.size) _ _ W G (by omega) (by omega) (by omega) (by omega) (by omega)]
    rw [Pl.sizeL, Pl.hgtL, Pl.lpL]
    have e1 : max (max D (d + 1 + x.hgt - 1)) (d + Pl.hgtL r) = max D (d + max x.hgt (Pl.hgtL r)) := by omega
    have e2 : max (max L (lo + morN k i + x.lp)) (lo + Pl.lpL k (i + 1) r) = max L (lo + max (morN k i + x.lp) (Pl.lpL k (i + 1) r)) := by omega
    rw [e1, e2, Nat.add_assoc]
theorem plook_exact : ∀ p : Pl, Exact p := by
  refine Pl.ind fun k m kids ex cols wth agg rds ih d lo c D L W G hg h1 h2 h3 => ?_
  rw [Pl.gd] at hg
  obtain ⟨hf, hex, hgl⟩ := hg
  rw [Pl.hgt] at h1 h3
  rw [Pl.size] at h2
  rw [plook, hf]
  show (if (!(exL ex (true, G)).1 || decide ((d : Int) > 16)) = true then _ else plookL kids k 0 d lo (IntKind.i64.wrap ((c : Int) + 1), (if (d : Int) > (D : Int) then (d : Int) else (D : Int)), (if (lo : Int) > (L : Int) then (lo : Int) else (L : Int)), W || !(exL ex (true, G)).1, (exL ex (true, G)).2)) = _
  rw [exL_good ex _ hex, imax, imax]
  simp only [sv, Bool.not_true, Bool.or_false, Bool.false_or]
  have hd : ¬ (decide ((d : Int) > 16) = true) := by simp; omega
  rw [if_neg hd, wrapn (by omega)]
  have := plookL_exact ih hgl k 0 d lo (c + 1) (max D d) (max L lo) W G (by omega) (by omega) (by omega) (by omega) (by omega)
  simp only [sv] at this
  have e0 : ((0 : Nat) : Int) = 0 := rfl
  rw [e0] at this
  rw [this, Pl.size, Pl.hgt, Pl.lp]
  have e1 : max (max D d) (d + Pl.hgtL kids) = max D (d + (1 + Pl.hgtL kids) - 1) := by omega
  have e2 : max (max L lo) (lo + Pl.lpL k 0 kids) = max L (lo + Pl.lpL k 0 kids) := by omega
  have e3 : c + 1 + Pl.sizeL kids = c + (1 + Pl.sizeL kids) := by omega
  rw [e1, e2, e3]
/-- What a check asks. -/
def Pl.fits (p : Pl) : Prop := p.gd ∧ p.size ≤ 64 ∧ p.hgt ≤ 16 ∧ p.lp ≤ 2
theorem surveyP_exact {p : Pl} (hg : p.gd) (h : p.hgt ≤ 16) (hs : p.size ≤ 2 ^ 40) : surveyP p = sv p.size p.hgt p.lp false false := by
  have := plook_exact p 1 0 0 0 0 false false hg (by omega) (by omega) (by omega)
  have hh : max 0 (1 + p.hgt - 1) = p.hgt := by omega
  have hl : max 0 (0 + p.lp) = p.lp := by omega
  rw [hh, hl, Nat.zero_add] at this
  exact this
theorem checkP_of {p : Pl} {c D L : Nat} {W G : Bool} (h : surveyP p = sv c D L W G) : checkP p = if W then 4 else if G then 2 else if 64 < c then 2 else if 16 < D then 2 else if 2 < L then 2 else 0 := by
  unfold checkP
  rw [h]
  show (if W = true then (4 : Int) else if G = true then 2 else if decide ((64 : Int) < (c : Int)) = true then 2 else if decide ((16 : Int) < (D : Int)) = true then 2 else if decide ((2 : Int) < (L : Int)) = true then 2 else 0) = _
  simp only [decide_eq_true_eq]
  have e1 : ((64 : Int) < (c : Int)) = (64 < c) := by rw [eq_iff_iff]; omega
  have e2 : ((16 : Int) < (D : Int)) = (16 < D) := by rw [eq_iff_iff]; omega
  have e3 : ((2 : Int) < (L : Int)) = (2 < L) := by rw [eq_iff_iff]; omega
  simp only [e1, e2, e3]
theorem checkP_iff {p : Pl} (hs : p.size ≤ 2 ^ 40) : checkP p = 0 ↔ p.fits := by
  constructor
  · intro h
    obtain ⟨hg, hh⟩ := Pl.good_gd p 1 (checkP_good h)
    have he := surveyP_exact hg (by omega) hs
    rw [checkP_of he] at h
    simp only [Bool.false_eq_true, if_false] at h
    split at h
    · simp at h
    · split at h
      · simp at h
      · split at h
        · simp at h
        · exact ⟨hg, by omega, by omega, by omega⟩
  · rintro ⟨hg, h1, h2, h3⟩
    have he := surveyP_exact hg h2 hs
    rw [checkP_of he]
    simp only [Bool.false_eq_true, if_false]
    rw [if_neg (by omega), if_neg (by omega), if_neg (by omega)]
theorem Pl.hgtL_mem : ∀ {l : List Pl} {x : Pl}, x ∈ l → x.hgt ≤ Pl.hgtL l
  | e :: r, x, h => by
    rw [Pl.hgtL]
    rcases List.mem_cons.1 h with rfl | h
    · omega
    · have := Pl.hgtL_mem h; omega
end Go.Proofs
end
