/-
  Contracts of the functions over values.
  Stable sorting, over lists: what is merged, and how a merge is split.
  Ranges that change places, and a part of a list that is turned.
  One element is put in line.
  Contracts: sorting in place.
  Merging in place: what the parts are, and how a merge is made of smaller ones; sorting by blocks.
  Contracts of small functions.
  Contracts: rows, sums.
  Contracts: products, reasons.
  Contracts: expressions: whether one is right.
  Contracts: expressions: types.
  Contracts: expressions: the type of one.
  Contracts: expressions: what one comes to.
  Contracts: expressions: what one comes to, the second part.
  Contracts: expressions: what one comes to, the third part.
  Contracts: expressions: what one comes to; the law functions of chapter 08.
  Plain laws of expressions: how many there are, sums, what an expression of a type comes to.
-/
import Derived.Test.YtgkkoeodinlffaaProg
import Derived.Test.YtgkkoeodinlffaaFlatD
import Derived.KernelRfl
import Derived.Shelf.Bits.Mul64
section
set_option linter.unusedVariables false
set_option linter.unusedSimpArgs false
namespace Go.Proofs
open Go.Flat
set_option maxRecDepth 100000
@[simp] theorem ty2 : tyOf Try.prog 2 = some ⟨.int .i64, 1, 8, [.p (.v (.int .i64 0))]⟩ := by kernel_rfl
@[simp] theorem ty3 : tyOf Try.prog 3 = some ⟨.int .i64, 1, 8, [.p (.v (.int .i64 0))]⟩ := by kernel_rfl
@[simp] theorem ty4 : tyOf Try.prog 4 = some ⟨.bool, 1, 1, [.p (.v (.bool false))]⟩ := by kernel_rfl
@[simp] theorem ty5 : tyOf Try.prog 5 = some ⟨.int .u8, 1, 1, [.p (.v (.int .u8 0))]⟩ := by kernel_rfl
@[simp] theorem ty9 : tyOf Try.prog 9 = some ⟨.str, 1, 16, [.p (.v (.string ⟨#[]⟩))]⟩ := by kernel_rfl
@[simp] theorem ty12 : tyOf Try.prog 12 = some ⟨.int .u64, 1, 8, [.p (.v (.int .u64 0))]⟩ := by kernel_rfl
@[simp] theorem ty21 : tyOf Try.prog 21 = some ⟨.int .i32, 1, 4, [.p (.v (.int .i32 0))]⟩ := by kernel_rfl
@[simp] theorem ty22 : tyOf Try.prog 22 = some ⟨.int .u8, 1, 1, [.p (.v (.int .u8 0))]⟩ := by kernel_rfl
@[simp] theorem ty23 : tyOf Try.prog 23 = some ⟨.st [(4, 0), (2, 1), (9, 2)], 3, 32, [.p (.v (.bool false)), .p (.v (.int .i64 0)), .p (.v (.string ⟨#[]⟩))]⟩ := by kernel_rfl
@[simp] theorem ty24 : tyOf Try.prog 24 = some ⟨.st [(4, 0), (2, 1), (9, 2)], 3, 32, [.p (.v (.bool false)), .p (.v (.int .i64 0)), .p (.v (.string ⟨#[]⟩))]⟩ := by kernel_rfl
@[simp] theorem ty25 : tyOf Try.prog 25 = some ⟨.sl 27, 1, 24, [.psf []]⟩ := by kernel_rfl
@[simp] theorem ty26 : tyOf Try.prog 26 = some ⟨.st [(22, 0), (3, 1), (24, 2), (25, 5)], 6, 72, [.p (.v (.int .u8 0)), .p (.v (.int .i64 0)), .p (.v (.bool false)), .p (.v (.int .i64 0)), .p (.v (.string ⟨#[]⟩)), .psf []]⟩ := by kernel_rfl
@[simp] theorem ty27 : tyOf Try.prog 27 = some ⟨.st [(22, 0), (3, 1), (24, 2), (25, 5)], 6, 72, [.p (.v (.int .u8 0)), .p (.v (.int .i64 0)), .p (.v (.bool false)), .p (.v (.int .i64 0)), .p (.v (.string ⟨#[]⟩)), .psf []]⟩ := by kernel_rfl
@[simp] theorem ty28 : tyOf Try.prog 28 = some ⟨.sl 24, 1, 24, [.psf []]⟩ := by kernel_rfl
@[simp] theorem ty31 : tyOf Try.prog 31 = some ⟨.int .i64, 1, 8, [.p (.v (.int .i64 0))]⟩ := by kernel_rfl
@[simp] theorem ty40 : tyOf Try.prog 40 = some ⟨.sl 22, 1, 24, [.psf []]⟩ := by kernel_rfl
@[simp] theorem ty42 : tyOf Try.prog 42 = some ⟨.int .u8, 1, 1, [.p (.v (.int .u8 0))]⟩ := by kernel_rfl
@[simp] theorem ty45 : tyOf Try.prog 45 = some ⟨.sl 42, 1, 24, [.psf []]⟩ := by kernel_rfl
@[simp] theorem ty47 : tyOf Try.prog 47 = some ⟨.int .u8, 1, 1, [.p (.v (.int .u8 0))]⟩ := by kernel_rfl
@[simp] theorem ty48 : tyOf Try.prog 48 = some ⟨.sl 52, 1, 24, [.psf []]⟩ := by kernel_rfl
@[simp] theorem ty49 : tyOf Try.prog 49 = some ⟨.sl 3, 1, 24, [.psf []]⟩ := by kernel_rfl
@[simp] theorem ty50 : tyOf Try.prog 50 = some ⟨.int .u8, 1, 1, [.p (.v (.int .u8 0))]⟩ := by kernel_rfl
@[simp] theorem ty51 : tyOf Try.prog 51 = some ⟨.st [(47, 0), (3, 1), (48, 2), (25, 3), (49, 4), (49, 5), (50, 6), (3, 7)], 8, 128, [.p (.v (.int .u8 0)), .p (.v (.int .i64 0)), .psf [], .psf [], .psf [], .psf [], .p (.v (.int .u8 0)), .p (.v (.int .i64 0))]⟩ := by kernel_rfl
@[simp] theorem ty52 : tyOf Try.prog 52 = some ⟨.st [(47, 0), (3, 1), (48, 2), (25, 3), (49, 4), (49, 5), (50, 6), (3, 7)], 8, 128, [.p (.v (.int .u8 0)), .p (.v (.int .i64 0)), .psf [], .psf [], .psf [], .psf [], .p (.v (.int .u8 0)), .p (.v (.int .i64 0))]⟩ := by kernel_rfl
@[simp] theorem ty53 : tyOf Try.prog 53 = some ⟨.sl 45, 1, 24, [.psf []]⟩ := by kernel_rfl
@[simp] theorem ty63 : tyOf Try.prog 63 = some ⟨.sl 75, 1, 24, [.psf []]⟩ := by kernel_rfl
@[simp] theorem ty72 : tyOf Try.prog 72 = some ⟨.int .u8, 1, 1, [.p (.v (.int .u8 0))]⟩ := by kernel_rfl
@[simp] theorem ty73 : tyOf Try.prog 73 = some ⟨.sl 77, 1, 24, [.psf []]⟩ := by kernel_rfl
@[simp] theorem ty74 : tyOf Try.prog 74 = some ⟨.st [(72, 0), (52, 1), (3, 9), (3, 10), (3, 11), (73, 12), (73, 13)], 14, 208, [.p (.v (.int .u8 0)), .p (.v (.int .u8 0)), .p (.v (.int .i64 0)), .psf [], .psf [], .psf [], .psf [], .p (.v (.int .u8 0)), .p (.v (.int .i64 0)), .p (.v (.int .i64 0)), .p (.v (.int .i64 0)), .p (.v (.int .i64 0)), .psf [], .psf []]⟩ := by kernel_rfl
@[simp] theorem ty75 : tyOf Try.prog 75 = some ⟨.st [(72, 0), (52, 1), (3, 9), (3, 10), (3, 11), (73, 12), (73, 13)], 14, 208, [.p (.v (.int .u8 0)), .p (.v (.int .u8 0)), .p (.v (.int .i64 0)), .psf [], .psf [], .psf [], .psf [], .p (.v (.int .u8 0)), .p (.v (.int .i64 0)), .p (.v (.int .i64 0)), .p (.v (.int .i64 0)), .p (.v (.int .i64 0)), .psf [], .psf []]⟩ := by kernel_rfl
@[simp] theorem ty76 : tyOf Try.prog 76 = some ⟨.st [(3, 0), (3, 1)], 2, 16, [.p (.v (.int .i64 0)), .p (.v (.int .i64 0))]⟩ := by kernel_rfl
@[simp] theorem ty77 : tyOf Try.prog 77 = some ⟨.st [(3, 0), (3, 1)], 2, 16, [.p (.v (.int .i64 0)), .p (.v (.int .i64 0))]⟩ := by kernel_rfl
@[simp] theorem ty78 : tyOf Try.prog 78 = some ⟨.sl 92, 1, 24, [.psf []]⟩ := by kernel_rfl
@[simp] theorem ty79 : tyOf Try.prog 79 = some ⟨.int .u64, 1, 8, [.p (.v (.int .u64 0))]⟩ := by kernel_rfl
@[simp] theorem ty80 : tyOf Try.prog 80 = some ⟨.arr 2 79, 2, 16, [.p (.v (.int .u64 0)), .p (.v (.int .u64 0))]⟩ := by kernel_rfl
@[simp] theorem ty81 : tyOf Try.prog 81 = some ⟨.st [(79, 0), (80, 1)], 3, 24, [.p (.v (.int .u64 0)), .p (.v (.int .u64 0)), .p (.v (.int .u64 0))]⟩ := by kernel_rfl
@[simp] theorem ty82 : tyOf Try.prog 82 = some ⟨.st [(79, 0), (80, 1)], 3, 24, [.p (.v (.int .u64 0)), .p (.v (.int .u64 0)), .p (.v (.int .u64 0))]⟩ := by kernel_rfl
@[simp] theorem ty91 : tyOf Try.prog 91 = some ⟨.st [(28, 0), (28, 1), (82, 2), (2, 5)], 6, 80, [.psf [], .psf [], .p (.v (.int .u64 0)), .p (.v (.int .u64 0)), .p (.v (.int .u64 0)), .p (.v (.int .i64 0))]⟩ := by kernel_rfl
@[simp] theorem ty92 : tyOf Try.prog 92 = some ⟨.st [(28, 0), (28, 1), (82, 2), (2, 5)], 6, 80, [.psf [], .psf [], .p (.v (.int .u64 0)), .p (.v (.int .u64 0)), .p (.v (.int .u64 0)), .p (.v (.int .i64 0))]⟩ := by kernel_rfl
@[simp] theorem ty95 : tyOf Try.prog 95 = some ⟨.sl 175, 1, 24, [.psf []]⟩ := by kernel_rfl
@[simp] theorem ty101 : tyOf Try.prog 101 = some ⟨.st [(3, 0), (3, 1), (4, 2)], 3, 24, [.p (.v (.int .i64 0)), .p (.v (.int .i64 0)), .p (.v (.bool false))]⟩ := by kernel_rfl
@[simp] theorem ty102 : tyOf Try.prog 102 = some ⟨.st [(3, 0), (3, 1), (4, 2)], 3, 24, [.p (.v (.int .i64 0)), .p (.v (.int .i64 0)), .p (.v (.bool false))]⟩ := by kernel_rfl
@[simp] theorem ty105 : tyOf Try.prog 105 = some ⟨.ptr 109, 1, 8, [.p (.v (.pointer none))]⟩ := by kernel_rfl
@[simp] theorem ty106 : tyOf Try.prog 106 = some ⟨.st [(31, 0)], 1, 8, [.p (.v (.int .i64 0))]⟩ := by kernel_rfl
@[simp] theorem ty107 : tyOf Try.prog 107 = some ⟨.st [(31, 0)], 1, 8, [.p (.v (.int .i64 0))]⟩ := by kernel_rfl
@[simp] theorem ty108 : tyOf Try.prog 108 = some ⟨.st [(107, 0), (28, 1)], 2, 32, [.p (.v (.int .i64 0)), .psf []]⟩ := by kernel_rfl
@[simp] theorem ty109 : tyOf Try.prog 109 = some ⟨.st [(107, 0), (28, 1)], 2, 32, [.p (.v (.int .i64 0)), .psf []]⟩ := by kernel_rfl
@[simp] theorem ty111 : tyOf Try.prog 111 = some ⟨.ptr 113, 1, 8, [.p (.v (.pointer none))]⟩ := by kernel_rfl
@[simp] theorem ty112 : tyOf Try.prog 112 = some ⟨.st [(107, 0), (45, 1)], 2, 32, [.p (.v (.int .i64 0)), .psf []]⟩ := by kernel_rfl
@[simp] theorem ty113 : tyOf Try.prog 113 = some ⟨.st [(107, 0), (45, 1)], 2, 32, [.p (.v (.int .i64 0)), .psf []]⟩ := by kernel_rfl
@[simp] theorem ty117 : tyOf Try.prog 117 = some ⟨.ptr 121, 1, 8, [.p (.v (.pointer none))]⟩ := by kernel_rfl
@[simp] theorem ty118 : tyOf Try.prog 118 = some ⟨.st [(31, 0)], 1, 8, [.p (.v (.int .i64 0))]⟩ := by kernel_rfl
@[simp] theorem ty119 : tyOf Try.prog 119 = some ⟨.st [(31, 0)], 1, 8, [.p (.v (.int .i64 0))]⟩ := by kernel_rfl
@[simp] theorem ty120 : tyOf Try.prog 120 = some ⟨.st [(119, 0), (53, 1), (53, 2)], 3, 56, [.p (.v (.int .i64 0)), .psf [], .psf []]⟩ := by kernel_rfl
@[simp] theorem ty121 : tyOf Try.prog 121 = some ⟨.st [(119, 0), (53, 1), (53, 2)], 3, 56, [.p (.v (.int .i64 0)), .psf [], .psf []]⟩ := by kernel_rfl
@[simp] theorem ty128 : tyOf Try.prog 128 = some ⟨.st [(3, 0), (3, 1), (3, 2), (4, 3), (4, 4)], 5, 32, [.p (.v (.int .i64 0)), .p (.v (.int .i64 0)), .p (.v (.int .i64 0)), .p (.v (.bool false)), .p (.v (.bool false))]⟩ := by kernel_rfl
@[simp] theorem ty129 : tyOf Try.prog 129 = some ⟨.st [(3, 0), (3, 1), (3, 2), (4, 3), (4, 4)], 5, 32, [.p (.v (.int .i64 0)), .p (.v (.int .i64 0)), .p (.v (.int .i64 0)), .p (.v (.bool false)), .p (.v (.bool false))]⟩ := by kernel_rfl
@[simp] theorem ty131 : tyOf Try.prog 131 = some ⟨.ptr 134, 1, 8, [.p (.v (.pointer none))]⟩ := by kernel_rfl
@[simp] theorem ty132 : tyOf Try.prog 132 = some ⟨.sl 75, 1, 24, [.psf []]⟩ := by kernel_rfl
@[simp] theorem ty133 : tyOf Try.prog 133 = some ⟨.st [(132, 0), (49, 1)], 2, 48, [.psf [], .psf []]⟩ := by kernel_rfl
@[simp] theorem ty134 : tyOf Try.prog 134 = some ⟨.st [(132, 0), (49, 1)], 2, 48, [.psf [], .psf []]⟩ := by kernel_rfl
@[simp] theorem ty147 : tyOf Try.prog 147 = some ⟨.other, 1, 8, [.p (.v (.map none))]⟩ := by kernel_rfl
@[simp] theorem ty148 : tyOf Try.prog 148 = some ⟨.ptr 152, 1, 8, [.p (.v (.pointer none))]⟩ := by kernel_rfl
@[simp] theorem ty149 : tyOf Try.prog 149 = some ⟨.st [(4, 0), (82, 1)], 4, 32, [.p (.v (.bool false)), .p (.v (.int .u64 0)), .p (.v (.int .u64 0)), .p (.v (.int .u64 0))]⟩ := by kernel_rfl
@[simp] theorem ty150 : tyOf Try.prog 150 = some ⟨.st [(4, 0), (82, 1)], 4, 32, [.p (.v (.bool false)), .p (.v (.int .u64 0)), .p (.v (.int .u64 0)), .p (.v (.int .u64 0))]⟩ := by kernel_rfl
@[simp] theorem ty151 : tyOf Try.prog 151 = some ⟨.st [(150, 0), (78, 4)], 5, 56, [.p (.v (.bool false)), .p (.v (.int .u64 0)), .p (.v (.int .u64 0)), .p (.v (.int .u64 0)), .psf []]⟩ := by kernel_rfl
@[simp] theorem ty152 : tyOf Try.prog 152 = some ⟨.st [(150, 0), (78, 4)], 5, 56, [.p (.v (.bool false)), .p (.v (.int .u64 0)), .p (.v (.int .u64 0)), .p (.v (.int .u64 0)), .psf []]⟩ := by kernel_rfl
@[simp] theorem ty158 : tyOf Try.prog 158 = some ⟨.sl 78, 1, 24, [.psf []]⟩ := by kernel_rfl
@[simp] theorem ty174 : tyOf Try.prog 174 = some ⟨.st [(28, 0), (2, 1)], 2, 32, [.psf [], .p (.v (.int .i64 0))]⟩ := by kernel_rfl
@[simp] theorem ty175 : tyOf Try.prog 175 = some ⟨.st [(28, 0), (2, 1)], 2, 32, [.psf [], .p (.v (.int .i64 0))]⟩ := by kernel_rfl
@[simp] theorem ty177 : tyOf Try.prog 177 = some ⟨.ptr 102, 1, 8, [.p (.v (.pointer none))]⟩ := by kernel_rfl
@[simp] theorem ty194 : tyOf Try.prog 194 = some ⟨.ptr 129, 1, 8, [.p (.v (.pointer none))]⟩ := by kernel_rfl
@[simp] theorem ty196 : tyOf Try.prog 196 = some ⟨.ptr 132, 1, 8, [.p (.v (.pointer none))]⟩ := by kernel_rfl
@[simp] theorem ty198 : tyOf Try.prog 198 = some ⟨.ptr 75, 1, 8, [.p (.v (.pointer none))]⟩ := by kernel_rfl
@[simp] theorem ty207 : tyOf Try.prog 207 = some ⟨.ptr 150, 1, 8, [.p (.v (.pointer none))]⟩ := by kernel_rfl
@[simp] theorem ty211 : tyOf Try.prog 211 = some ⟨.sl 215, 1, 24, [.psf []]⟩ := by kernel_rfl
@[simp] theorem ty212 : tyOf Try.prog 212 = some ⟨.st [(79, 0), (79, 1)], 2, 16, [.p (.v (.int .u64 0)), .p (.v (.int .u64 0))]⟩ := by kernel_rfl
@[simp] theorem ty213 : tyOf Try.prog 213 = some ⟨.st [(79, 0), (79, 1)], 2, 16, [.p (.v (.int .u64 0)), .p (.v (.int .u64 0))]⟩ := by kernel_rfl
@[simp] theorem ty214 : tyOf Try.prog 214 = some ⟨.st [(213, 0), (92, 2)], 8, 96, [.p (.v (.int .u64 0)), .p (.v (.int .u64 0)), .psf [], .psf [], .p (.v (.int .u64 0)), .p (.v (.int .u64 0)), .p (.v (.int .u64 0)), .p (.v (.int .i64 0))]⟩ := by kernel_rfl
@[simp] theorem ty215 : tyOf Try.prog 215 = some ⟨.st [(213, 0), (92, 2)], 8, 96, [.p (.v (.int .u64 0)), .p (.v (.int .u64 0)), .psf [], .psf [], .p (.v (.int .u64 0)), .p (.v (.int .u64 0)), .p (.v (.int .u64 0)), .p (.v (.int .i64 0))]⟩ := by kernel_rfl
@[simp] theorem ty225 : tyOf Try.prog 225 = some ⟨.sl 82, 1, 24, [.psf []]⟩ := by kernel_rfl
@[simp] theorem ty227 : tyOf Try.prog 227 = some ⟨.sl 79, 1, 24, [.psf []]⟩ := by kernel_rfl
@[simp] theorem ty228 : tyOf Try.prog 228 = some ⟨.sl 31, 1, 24, [.psf []]⟩ := by kernel_rfl
@[simp] theorem ty235 : tyOf Try.prog 235 = some ⟨.ptr 107, 1, 8, [.p (.v (.pointer none))]⟩ := by kernel_rfl
@[simp] theorem ty243 : tyOf Try.prog 243 = some ⟨.ptr 119, 1, 8, [.p (.v (.pointer none))]⟩ := by kernel_rfl
@[simp] theorem ty255 : tyOf Try.prog 255 = some ⟨.sl 47, 1, 24, [.psf []]⟩ := by kernel_rfl
@[simp] theorem ty262 : tyOf Try.prog 262 = some ⟨.ptr 213, 1, 8, [.p (.v (.pointer none))]⟩ := by kernel_rfl
@[simp] theorem ty264 : tyOf Try.prog 264 = some ⟨.int .u64, 1, 8, [.p (.v (.int .u64 0))]⟩ := by kernel_rfl
@[simp] theorem ty269 : tyOf Try.prog 269 = some ⟨.sl 271, 1, 24, [.psf []]⟩ := by kernel_rfl
@[simp] theorem ty270 : tyOf Try.prog 270 = some ⟨.st [(213, 0), (175, 2)], 4, 48, [.p (.v (.int .u64 0)), .p (.v (.int .u64 0)), .psf [], .p (.v (.int .i64 0))]⟩ := by kernel_rfl
@[simp] theorem ty271 : tyOf Try.prog 271 = some ⟨.st [(213, 0), (175, 2)], 4, 48, [.p (.v (.int .u64 0)), .p (.v (.int .u64 0)), .psf [], .p (.v (.int .i64 0))]⟩ := by kernel_rfl
@[simp] theorem ty275 : tyOf Try.prog 275 = some ⟨.sl 2, 1, 24, [.psf []]⟩ := by kernel_rfl
@[simp] theorem ty295 : tyOf Try.prog 295 = some ⟨.int .u32, 1, 4, [.p (.v (.int .u32 0))]⟩ := by kernel_rfl
@[simp] theorem ty299 : tyOf Try.prog 299 = some ⟨.ptr 5, 1, 8, [.p (.v (.pointer none))]⟩ := by kernel_rfl
@[simp] theorem ty124 : tyOf Try.prog 124 = some ⟨.fn, 1, 8, [.p (.v .nilFunc)]⟩ := by kernel_rfl
@[simp] theorem ty127 : tyOf Try.prog 127 = some ⟨.fn, 1, 8, [.p (.v .nilFunc)]⟩ := by kernel_rfl
end Go.Proofs
end
section
set_option linter.unusedVariables false
set_option linter.unusedSimpArgs false
namespace Go.Proofs
open Go.Flat
set_option maxRecDepth 100000
set_option linter.unusedSimpArgs false
set_option linter.unusedVariables false
attribute [local simp] Bool.and_assoc Bool.or_assoc evalG evalX efD skF guardG guardL isCall stepL evalOp ev evs lk tmpsL app AV.ok fresh vv putCells insV ins del putL place Go.Flat.look fillC fillR getCells loadF storeF binF scalarBin intBin strBin isShift shiftBin unF lenF maxF minF rowsF appendF builtinF idxF natOf sliceP sliceF optEv Flat.cut overwrite toPV toPVs constAV scalarC scalarCs AV.cells TI.isAgg allSome andAll scalarEq buildable Go.Flat.lim retQ resL resAll resOne PartOf noTmp closedIn refs refs.refsL isSomeV hasB ids leA leA.leL renA renA.renL callB refsAll backL dropIds renS LiesAt injB ownB freshB memN locId insAll leA_refl leL_refl okS frzS frzA frzA.frzL evalD feet fine updCells cellsFrom memP footRf footWf noTmpU updIds opOps opIds idsA footR footW guardTs opTs dstTs callR callW renLoc renC inBlockQ thenQ Value.oneCell' IntKind.bits IntKind.signed
@[simp] theorem wrap64_1 : IntKind.i64.wrap 1 = 1 := rfl
@[simp] theorem wrap64_2 : IntKind.i64.wrap 2 = 2 := rfl
@[simp] theorem wrap64_3 : IntKind.i64.wrap 3 = 3 := rfl
@[simp] theorem wrap64_4 : IntKind.i64.wrap 4 = 4 := rfl
structure Val where
  t : Bool
  n : Int
  s : ByteArray
def Val.row (v : Val) : List PV := [.v (.bool v.t), .v (.int .i64 v.n), .v (.string v.s)]
@[simp] theorem Val.row_len (v : Val) : v.row.length = 3 := rfl
def Val.av (v : Val) : AV := .agg [vv (.bool v.t), vv (.int .i64 v.n), vv (.string v.s)]
def Val.right (v : Val) : Bool := if v.t then v.n == 0 && decide ((v.s.size : Int) ≤ 64) else v.s.toList == []

attribute [local simp] Val.av in
theorem spec103 (v : Val) : Flat.Sp Try.prog 103 [v.av] [] (vv (.bool v.right)) [] := by
  refine sk Try.func103 ?_
  intro F G hn hG
  refine sq ?_
  refine rg 1000 ?_
  refine pr [1, 17] ?_
  refine sq ?_
  refine sq ?_
  refine rg 2000 ?_
  refine pr [1, 3, 4, 17] ?_
  refine cd ?_ ?_
  · intro h4_1
    refine sq ?_
    refine rc 3000 ?_
    iterate 4 (first | refine gp 3350 ?_ | refine os ?_ | refine gt 3350 ?_)
    refine oe 3400 ?_
    refine on ?_
    refine pr [1, 3, 14, 17] ?_
    refine k_ret ?_
    show retQ _ _ _ _ _ _ _
    simp [*, Val.right]
  · intro h4_1
    refine k_skip ?_
    refine sq ?_
    refine rg 4000 ?_
    refine pr [2, 3] ?_
    refine k_ret ?_
    show retQ _ _ _ _ _ _ _
    simp [*, Val.right]

attribute [local simp] Val.av in
theorem spec102 (v : Val) : Flat.Sp Try.prog 102 [v.av] [] (vv (.bool (!v.right))) [] := by
  refine sk Try.func102 ?_
  intro F G hn hG
  refine sq ?_
  refine rg 1000 ?_
  refine pr [1, 6] ?_
  refine sq ?_
  refine rc 2000 ?_
  refine oc id (spec103 v) ?_
  refine oe 2100 ?_
  refine on ?_
  refine pr [2, 3] ?_
  refine k_ret ?_
  show retQ _ _ _ _ _ _ _
  simp [*]

theorem wrap_succ {i : Nat} (h : i < Flat.lim) : IntKind.i64.wrap ((i : Int) + 1) = (i : Int) + 1 := by
  have := Flat.wrap_small (n := i + 1) (by omega)
  rwa [show ((i + 1 : Nat) : Int) = (i : Int) + 1 by simp] at this
theorem tmap_succ {α β : Type} {f : α → β} {xs : List α} {i : Nat} {x : α} (h : xs[i]? = some x) : (xs.map f).take (i + 1) = (xs.map f).take i ++ [f x] := by
  rw [List.take_add_one, List.getElem?_map, h]; rfl
/-- Where the first wrong value stands. -/
def firstBad : List Val → Nat → Int
  | [], _ => -1
  | v :: r, i => if v.right then firstBad r (i + 1) else i
theorem firstBad_drop {xs : List Val} {i : Nat} {x : Val} (h : xs[i]? = some x) : firstBad (xs.drop i) i = if x.right then firstBad (xs.drop (i + 1)) (i + 1) else i := by
  obtain ⟨h1, h2⟩ := List.getElem?_eq_some_iff.1 h
  rw [List.drop_eq_getElem_cons h1, h2]
  rfl

attribute [local simp] Val.row Val.av in
theorem spec157 (xs : List Val) (hlen : xs.length ≤ Flat.lim) : Flat.Sp Try.prog 157 [.p (.ps (xs.map Val.row)), .fn (.func 102) []] [] (vv (.int .i64 (firstBad xs 0))) [] := by
  refine sk Try.func157 ?_
  intro F G hn hG
  refine sq ?_
  refine rg 1000 ?_
  refine pr [0, 2, 4, 19] ?_
  refine sq ?_
  refine sq ?_
  refine rg 2000 ?_
  refine pr [0, 2, 4, 6, 7, 19] ?_
  refine k_block ?_
  refine k_loop (fun n l => ∃ i, i + n = xs.length ∧ (firstBad xs 0 = firstBad (xs.drop i) i) ∧ l = [(.tmp 0, .av (.p (.ps (xs.map Val.row)))), (.tmp 1, .av (.fn (.func 102) [])), (.tmp 7, .av (vv (.int .i64 xs.length))), (.tmp 8, .av (vv (.int .i64 i)))]) (xs.length) hG ⟨_, ⟨by simp, by simp, by simp⟩, 0, by simp, rfl, rfl⟩ ?_
  rintro n _ ⟨i, hin, hfa, rfl⟩
  have hwi : i < Flat.lim → IntKind.i64.wrap ((i : Int) + 1) = (i : Int) + 1 := wrap_succ
  refine sq ?_
  refine rg 3000 ?_
  refine pr [0, 2, 4, 6, 7, 19] ?_
  refine sq ?_
  refine cd ?_ ?_
  · intro h9_1
    have hlt : i < xs.length := by simpa using h9_1
    obtain ⟨x, hxe⟩ : ∃ x, xs[i] = x := ⟨_, rfl⟩
    have hx : xs[i]? = some x := by simp [hlt, hxe]
    have hfd := firstBad_drop hx
    have hwi := hwi (by omega)
    refine k_skip ?_
    refine sq ?_
    refine k_block ?_
    refine sq ?_
    refine rg 4000 ?_
    refine pr [0, 2, 4, 6, 7, 19] ?_
    refine sq ?_
    refine rc 5000 ?_
    refine oc id (spec102 x) ?_
    refine on ?_
    refine pr [0, 2, 4, 6, 7, 19] ?_
    refine cd ?_ ?_
    · intro h16_2
      have hr : x.right = false := by simpa using h16_2
      refine sq ?_
      refine rg 6000 ?_
      refine pr [0, 2, 4, 6, 7, 19] ?_
      refine k_ret ?_
      show retQ _ _ _ _ _ _ _
      simp [*]
    · intro h16_2
      have hr : x.right = true := by simpa using h16_2
      refine k_skip ?_
      refine k_nil ?_
      show AK _ _ _ _ _ _
      refine rg 7000 ?_
      refine k_nil ?_
      refine ⟨n - 1, by omega, _, ⟨?_, ?_, ?_⟩, i + 1, by omega, by rw [hfa, hfd, hr, if_pos rfl], rfl⟩ <;> simp [*]
  · intro h9_1
    have hge : xs.length ≤ i := by simpa using h9_1
    have hfe : firstBad (xs.drop i) i = -1 := by rw [List.drop_eq_nil_of_le hge]; rfl
    refine k_exit ?_
    show AK _ _ _ _ _ _
    refine sq ?_
    refine rg 8000 ?_
    refine pr [4, 5] ?_
    refine k_ret ?_
    show retQ _ _ _ _ _ _ _
    simp [*]

end Go.Proofs
end
section
set_option linter.unusedVariables false
set_option linter.unusedSimpArgs false
namespace Go.Proofs
section
variable {α : Type} (lt : α → α → Bool)
/-- Two lists in line are merged; of two alike the first one's stands ahead. -/
def mrg : List α → List α → List α
  | [], b => b
  | x :: a, [] => x :: a
  | x :: a, y :: b => if lt y x then y :: mrg (x :: a) b else x :: mrg a (y :: b)
termination_by a b => a.length + b.length
/-- In line. -/
def Line (l : List α) : Prop := l.Pairwise fun x y => lt y x = false
/-- A line's order: of three one that is behind another's behind. -/
structure Ord : Prop where
  irr : ∀ x, lt x x = false
  asy : ∀ x y, lt x y = true → lt y x = false
  tr : ∀ x y z, lt y x = false → lt z y = false → lt z x = false
def isrt (l : List α) : List α := l.foldl (fun s y => mrg lt s [y]) []
variable {lt}
theorem mrg_nil (a : List α) : mrg lt a [] = a := by cases a <;> simp [mrg]
theorem nil_mrg (b : List α) : mrg lt [] b = b := by simp [mrg]
theorem mrg_cons (x y : α) (a b : List α) : mrg lt (x :: a) (y :: b) = if lt y x then y :: mrg lt (x :: a) b else x :: mrg lt a (y :: b) := by rw [mrg]
theorem mrg_length : ∀ (a b : List α), (mrg lt a b).length = a.length + b.length
  | [], b => by simp [nil_mrg]
  | x :: a, [] => by simp [mrg_nil]
  | x :: a, y :: b => by
    rw [mrg_cons]
    split
    · simp [mrg_length (x :: a) b]; omega
    · simp [mrg_length a (y :: b)]; omega
termination_by a b => a.length + b.length
theorem mrg_perm : ∀ (a b : List α), (mrg lt a b).Perm (a ++ b)
  | [], b => by rw [nil_mrg]; exact .refl _
  | x :: a, [] => by rw [mrg_nil, List.append_nil]
  | x :: a, y :: b => by
    rw [mrg_cons]
    split
    · exact ((mrg_perm (x :: a) b).cons y).trans (List.perm_middle.symm)
    · exact (mrg_perm a (y :: b)).cons x
termination_by a b => a.length + b.length
theorem mem_mrg {a b : List α} {z : α} : z ∈ mrg lt a b ↔ z ∈ a ∨ z ∈ b := by
  rw [(mrg_perm a b).mem_iff, List.mem_append]
/-- A merge is split where all ahead are no greater than all behind. -/
theorem mrg_split : ∀ (u1 v1 u2 v2 : List α), (∀ x ∈ u1, ∀ y ∈ v2, lt y x = false) → (∀ y ∈ v1, ∀ x ∈ u2, lt y x = true) → mrg lt (u1 ++ u2) (v1 ++ v2) = mrg lt u1 v1 ++ mrg lt u2 v2
  | [], [], u2, v2, _, _ => by simp [nil_mrg]
  | [], y :: v1, u2, v2, h1, h2 => by
    rw [nil_mrg, List.nil_append, List.cons_append]
    cases u2 with
    | nil => simp [nil_mrg]
    | cons x u2 =>
      rw [mrg_cons, if_pos (h2 y (by simp) x (by simp))]
      have := mrg_split [] v1 (x :: u2) v2 (by simp) fun z hz => h2 z (by simp [hz])
      rw [nil_mrg, List.nil_append] at this
      rw [this]
      rfl
  | x :: u1, [], u2, v2, h1, h2 => by
    rw [mrg_nil, List.nil_append, List.cons_append]
    cases v2 with
    | nil => simp [mrg_nil]
    | cons y v2 =>
      rw [mrg_cons, if_neg (by simp [h1 x (by simp) y (by simp)])]
      have := mrg_split u1 [] u2 (y :: v2) (fun z hz => h1 z (by simp [hz])) (by simp)
      rw [mrg_nil, List.nil_append] at this
      rw [this]
      rfl
  | x :: u1, y :: v1, u2, v2, h1, h2 => by
    rw [List.cons_append, List.cons_append, mrg_cons, mrg_cons]
    split
    · rw [← List.cons_append, mrg_split (x :: u1) v1 u2 v2 h1 fun z hz => h2 z (by simp [hz])]; rfl
    · rw [← List.cons_append, mrg_split u1 (y :: v1) u2 v2 (fun z hz => h1 z (by simp [hz])) h2]; rfl
termination_by u1 v1 => u1.length + v1.length
theorem Line.nil : Line lt ([] : List α) := List.Pairwise.nil
theorem line_cons {x : α} {a : List α} : Line lt (x :: a) ↔ (∀ y ∈ a, lt y x = false) ∧ Line lt a := List.pairwise_cons
variable (ho : Ord lt)
include ho
theorem mrg_line : ∀ (a b : List α), Line lt a → Line lt b → Line lt (mrg lt a b)
  | [], b, _, hb => by rw [nil_mrg]; exact hb
  | x :: a, [], ha, _ => by rw [mrg_nil]; exact ha
  | x :: a, y :: b, ha, hb => by
    rw [mrg_cons]
    obtain ⟨ha1, ha2⟩ := line_cons.1 ha
    obtain ⟨hb1, hb2⟩ := line_cons.1 hb
    split
    · rename_i h
      refine line_cons.2 ⟨fun z hz => ?_, mrg_line (x :: a) b ha hb2⟩
      rcases mem_mrg.1 hz with hz | hz
      · rcases List.mem_cons.1 hz with rfl | hz
        · exact ho.asy _ _ h
        · exact ho.tr _ _ _ (ho.asy _ _ h) (ha1 z hz)
      · exact hb1 z hz
    · rename_i h
      simp only [Bool.not_eq_true] at h
      refine line_cons.2 ⟨fun z hz => ?_, mrg_line a (y :: b) ha2 hb⟩
      rcases mem_mrg.1 hz with hz | hz
      · exact ha1 z hz
      · rcases List.mem_cons.1 hz with rfl | hz
        · exact h
        · exact ho.tr _ _ _ h (hb1 z hz)
termination_by a b => a.length + b.length
theorem ord_lt_of {x y z : α} (h1 : lt y x = true) (h2 : lt z x = false) : lt z y = false := by
  cases h : lt z y with
  | false => rfl
  | true => exact absurd (ho.tr _ _ _ h2 (ho.asy _ _ h)) (by rw [h1]; simp)
theorem mrg_assoc : ∀ (a b c : List α), Line lt a → Line lt b → Line lt c → mrg lt (mrg lt a b) c = mrg lt a (mrg lt b c)
  | [], b, c, _, _, _ => by simp [nil_mrg]
  | x :: a, [], c, _, _, _ => by simp [nil_mrg, mrg_nil]
  | x :: a, y :: b, [], _, _, _ => by simp [mrg_nil]
  | x :: a, y :: b, z :: c, ha, hb, hc => by
    have ha2 := (line_cons.1 ha).2
    have hb2 := (line_cons.1 hb).2
    have hc2 := (line_cons.1 hc).2
    rw [mrg_cons (lt := lt) y z b c]
    by_cases hyx : lt y x = true
    · rw [mrg_cons (lt := lt) x y a b, if_pos hyx]
      by_cases hzy : lt z y = true
      · rw [if_pos hzy, mrg_cons, if_pos hzy]
        have hzx : lt z x = true := by
          cases h : lt z x with
          | true => rfl
          | false => exact absurd (ord_lt_of ho hyx h) (by rw [hzy]; simp)
        rw [mrg_cons, if_pos hzx]
        have := mrg_assoc (x :: a) (y :: b) c ha hb hc2
        rw [mrg_cons (lt := lt) x y a b, if_pos hyx] at this
        rw [this]
      · rw [if_neg hzy, mrg_cons, if_neg hzy, mrg_cons, if_pos hyx, mrg_assoc (x :: a) b (z :: c) ha hb2 hc]
    · rw [mrg_cons (lt := lt) x y a b, if_neg hyx]
      by_cases hzy : lt z y = true
      · rw [if_pos hzy, mrg_cons, mrg_cons]
        by_cases hzx : lt z x = true
        · rw [if_pos hzx, if_pos hzx]
          have := mrg_assoc (x :: a) (y :: b) c ha hb hc2
          rw [mrg_cons (lt := lt) x y a b, if_neg hyx] at this
          rw [this]
        · rw [if_neg hzx, if_neg hzx, mrg_assoc a (y :: b) (z :: c) ha2 hb hc, mrg_cons (lt := lt) y z b c, if_pos hzy]
      · have hzx : ¬ lt z x = true := by
          simp only [Bool.not_eq_true] at hzy hyx ⊢
          exact ho.tr _ _ _ hyx hzy
        rw [if_neg hzy, mrg_cons, if_neg hzx, mrg_cons, if_neg hyx, mrg_assoc a (y :: b) (z :: c) ha2 hb hc, mrg_cons (lt := lt) y z b c, if_neg hzy]
termination_by a b c => a.length + b.length + c.length
omit ho in
theorem line_one (y : α) : Line lt [y] := List.pairwise_singleton ..
omit ho in
theorem isrt_snoc (l : List α) (y : α) : isrt lt (l ++ [y]) = mrg lt (isrt lt l) [y] := by simp [isrt, List.foldl_append]
theorem isrt_line (l : List α) : Line lt (isrt lt l) := by
  unfold isrt
  suffices h : ∀ (l s : List α), Line lt s → Line lt (l.foldl (fun s y => mrg lt s [y]) s) from h l [] .nil
  intro l
  induction l with
  | nil => intro s hs; exact hs
  | cons y l ih => intro s hs; exact ih _ (mrg_line ho s [y] hs (line_one y))
theorem isrt_append (u v : List α) : isrt lt (u ++ v) = mrg lt (isrt lt u) (isrt lt v) := by
  induction v generalizing u with
  | nil => simp [isrt, mrg_nil]
  | cons y v ih =>
    have e1 : u ++ y :: v = (u ++ [y]) ++ v := by simp
    have e2 : isrt lt (y :: v) = mrg lt [y] (isrt lt v) := by
      have := ih [y]
      rw [List.singleton_append] at this
      rw [this]
      simp [isrt, nil_mrg]
    rw [e1, ih, isrt_snoc, e2, mrg_assoc ho _ _ _ (isrt_line ho u) (line_one y) (isrt_line ho v)]
omit ho in
theorem isrt_length (l : List α) : (isrt lt l).length = l.length := by
  unfold isrt
  suffices h : ∀ (l s : List α), (l.foldl (fun s y => mrg lt s [y]) s).length = s.length + l.length from by simpa using h l []
  intro l
  induction l with
  | nil => intro s; simp
  | cons y l ih => intro s; rw [List.foldl_cons, ih, mrg_length]; simp; omega
omit ho in
theorem isrt_perm (l : List α) : (isrt lt l).Perm l := by
  unfold isrt
  suffices h : ∀ (l s : List α), (l.foldl (fun s y => mrg lt s [y]) s).Perm (s ++ l) from by simpa using h l []
  intro l
  induction l with
  | nil => intro s; simp
  | cons y l ih =>
    intro s
    rw [List.foldl_cons]
    refine (ih _).trans ?_
    refine ((mrg_perm s [y]).append_right l).trans ?_
    simp
end
end Go.Proofs
end
section
set_option linter.unusedVariables false
set_option linter.unusedSimpArgs false
namespace Go.Proofs
section
variable {α : Type}
def swp (z : α) (l : List α) (i j : Nat) : List α := (l.set i (l.getD j z)).set j (l.getD i z)
@[simp] theorem swp_len (z : α) (l : List α) (i j : Nat) : (swp z l i j).length = l.length := by simp [swp]
/-- Two ranges change places, from the first elements on. -/
def swr (z : α) (l : List α) (a b : Nat) : Nat → List α
  | 0 => l
  | n + 1 => swp z (swr z l a b n) (a + n) (b + n)
@[simp] theorem swr_len (z : α) (l : List α) (a b : Nat) : ∀ n, (swr z l a b n).length = l.length
  | 0 => rfl
  | n + 1 => by simp [swr, swr_len z l a b n]
theorem swp_at (z : α) (l : List α) (i j k : Nat) (hi : i < l.length) (hj : j < l.length) : (swp z l i j)[k]? = if k = j then l[i]? else if k = i then l[j]? else l[k]? := by
  have ei : l.getD i z = l[i] := by simp [List.getD, hi]
  have ej : l.getD j z = l[j] := by simp [List.getD, hj]
  unfold swp
  rw [ei, ej]
  by_cases h1 : k = j
  · subst h1
    rw [if_pos rfl, List.getElem?_set_self (by simpa using hj), List.getElem?_eq_getElem hi]
  · rw [if_neg h1, List.getElem?_set_ne (by omega)]
    by_cases h2 : k = i
    · subst h2
      rw [if_pos rfl, List.getElem?_set_self hi, List.getElem?_eq_getElem hj]
    · rw [if_neg h2, List.getElem?_set_ne (by omega)]
theorem swr_at (z : α) (l : List α) (a b : Nat) : ∀ (n k : Nat), a + n ≤ b → b + n ≤ l.length →
    (swr z l a b n)[k]? = if a ≤ k ∧ k < a + n then l[k - a + b]? else if b ≤ k ∧ k < b + n then l[k - b + a]? else l[k]?
  | 0, k, _, _ => by rw [if_neg (by omega), if_neg (by omega)]; rfl
  | n + 1, k, h1, h2 => by
    have ih := fun k => swr_at z l a b n k (by omega) (by omega)
    rw [swr, swp_at _ _ _ _ _ (by simp; omega) (by simp; omega), ih, ih, ih]
    by_cases c1 : k = b + n
    · subst c1
      rw [if_pos rfl, if_neg (by omega), if_neg (by omega), if_neg (by omega), if_pos (by omega)]
      congr 1
      omega
    · rw [if_neg c1]
      by_cases c2 : k = a + n
      · subst c2
        rw [if_pos rfl, if_neg (by omega), if_neg (by omega), if_pos (by omega)]
        congr 1
        omega
      · rw [if_neg c2]
        repeat' split
        all_goals first | omega | rfl
/-- What lies from a to m changes places with what lies from m to b. -/
def rot (l : List α) (a m b : Nat) : List α := l.take a ++ ((l.drop m).take (b - m) ++ ((l.drop a).take (m - a) ++ l.drop b))
theorem rot_len (l : List α) {a m b : Nat} (h1 : a ≤ m) (h2 : m ≤ b) (h3 : b ≤ l.length) : (rot l a m b).length = l.length := by
  simp only [rot, List.length_append, List.length_take, List.length_drop]
  omega
theorem rot_at (l : List α) {a m b : Nat} (h1 : a ≤ m) (h2 : m ≤ b) (h3 : b ≤ l.length) (k : Nat) : (rot l a m b)[k]? = if k < a then l[k]? else if k < a + (b - m) then l[k - a + m]? else if k < b then l[k - (b - m)]? else l[k]? := by
  unfold rot
  by_cases c1 : k < a
  · rw [if_pos c1, List.getElem?_append_left (by simp; omega), List.getElem?_take_of_lt c1]
  · rw [if_neg c1, List.getElem?_append_right (by simp; omega)]
    have e1 : (l.take a).length = a := by simp; omega
    rw [e1]
    by_cases c2 : k < a + (b - m)
    · rw [if_pos c2, List.getElem?_append_left (by simp; omega), List.getElem?_take_of_lt (by omega), List.getElem?_drop]
      congr 1
      omega
    · rw [if_neg c2, List.getElem?_append_right (by simp; omega)]
      have e2 : ((l.drop m).take (b - m)).length = b - m := by simp; omega
      rw [e2]
      by_cases c3 : k < b
      · rw [if_pos c3, List.getElem?_append_left (by simp; omega), List.getElem?_take_of_lt (by omega), List.getElem?_drop]
        congr 1
        omega
      · rw [if_neg c3, List.getElem?_append_right (by simp; omega)]
        have e3 : ((l.drop a).take (m - a)).length = m - a := by simp; omega
        rw [e3, List.getElem?_drop]
        congr 1
        omega
theorem rot_step1 (z : α) (l : List α) {i j m : Nat} (h1 : j < i) (h2 : i ≤ m) (h3 : m + j ≤ l.length) : rot (swr z l (m - i) m j) (m - i + j) m (m + j) = rot l (m - i) m (m + j) := by
  apply List.ext_getElem?
  intro k
  rw [rot_at _ (by omega) (by omega) (by simpa using h3), rot_at _ (by omega) (by omega) h3]
  simp only [swr_at z l (m - i) m j _ (by omega) h3]
  repeat' split
  all_goals first | omega | (congr 1; omega) | rfl
theorem rot_step2 (z : α) (l : List α) {i j m : Nat} (h1 : i < j) (h2 : i ≤ m) (h3 : m + j ≤ l.length) : rot (swr z l (m - i) (m + j - i) i) (m - i) m (m + j - i) = rot l (m - i) m (m + j) := by
  apply List.ext_getElem?
  intro k
  rw [rot_at _ (by omega) (by omega) (by simp; omega), rot_at _ (by omega) (by omega) h3]
  simp only [swr_at z l (m - i) (m + j - i) i _ (by omega) (by omega)]
  repeat' split
  all_goals first | omega | (congr 1; omega) | rfl
theorem rot_end (z : α) (l : List α) {i m : Nat} (h2 : i ≤ m) (h3 : m + i ≤ l.length) : swr z l (m - i) m i = rot l (m - i) m (m + i) := by
  apply List.ext_getElem?
  intro k
  rw [rot_at _ (by omega) (by omega) h3, swr_at z l (m - i) m i _ (by omega) h3]
  repeat' split
  all_goals first | omega | (congr 1; omega) | rfl
end
end Go.Proofs
end
section
set_option linter.unusedVariables false
set_option linter.unusedSimpArgs false
namespace Go.Proofs
section
variable {α : Type} {lt : α → α → Bool}
theorem mrg_ins (ho : Ord lt) {s : List α} (hs : Line lt s) (y : α) (k : Nat) (hks : k ≤ s.length) (h1 : ∀ z ∈ s.drop k, lt y z = true) (h2 : ∀ z, 0 < k → s[k - 1]? = some z → lt y z = false) : mrg lt s [y] = s.take k ++ y :: s.drop k := by
  have ht : ∀ z ∈ s.take k, lt y z = false := by
    intro z hz
    obtain ⟨i, hi⟩ := List.getElem?_of_mem hz
    obtain ⟨hi1, hi2⟩ := List.getElem?_eq_some_iff.1 hi
    simp only [List.length_take] at hi1
    rw [List.getElem?_take_of_lt (by omega)] at hi
    obtain ⟨w, hw⟩ : ∃ w, s[min k s.length - 1]? = some w := ⟨_, List.getElem?_eq_getElem (by omega)⟩
    have hyw : lt y w = false := by
      rw [Nat.min_eq_left hks] at hw
      exact h2 w (by omega) hw
    by_cases he : i = min k s.length - 1
    · rw [he, hw] at hi
      simp only [Option.some.injEq] at hi
      rw [← hi]; exact hyw
    · obtain ⟨q1, q2⟩ := List.getElem?_eq_some_iff.1 hi
      obtain ⟨r1, r2⟩ := List.getElem?_eq_some_iff.1 hw
      have hlt := List.pairwise_iff_getElem.1 hs i (min k s.length - 1) q1 r1 (by omega)
      rw [q2, r2] at hlt
      exact ho.tr z w y hlt hyw
  have e1 : mrg lt (s.take k ++ s.drop k) ([] ++ [y]) = mrg lt (s.take k) [] ++ mrg lt (s.drop k) [y] := mrg_split _ _ _ _ (fun x hx z hz => by rw [List.mem_singleton] at hz; rw [hz]; exact ht x hx) (by simp)
  have e2 : mrg lt ([] ++ s.drop k) ([y] ++ []) = mrg lt [] [y] ++ mrg lt (s.drop k) [] := mrg_split _ _ _ _ (by simp) (fun z hz x hx => by rw [List.mem_singleton] at hz; rw [hz]; exact h1 x hx)
  rw [List.nil_append, List.append_nil, mrg_nil, nil_mrg] at e2
  rw [List.take_append_drop, List.nil_append, mrg_nil, e2] at e1
  simpa using e1
/-- A part of a list. -/
def seg (l : List α) (a b : Nat) : List α := (l.drop a).take (b - a)
theorem seg_len {l : List α} {a b : Nat} (h : b ≤ l.length) : (seg l a b).length = b - a := by simp [seg]; omega
theorem seg_snoc {l : List α} {a i : Nat} {y : α} (ha : a ≤ i) (h : l[i]? = some y) : seg l a (i + 1) = seg l a i ++ [y] := by
  unfold seg
  rw [show i + 1 - a = (i - a) + 1 by omega, List.take_add_one, List.getElem?_drop, show a + (i - a) = i by omega, h]
  rfl
theorem swp_adj (z : α) (X Y : List α) (w y : α) : swp z (X ++ w :: y :: Y) (X.length + 1) X.length = X ++ y :: w :: Y := by
  simp [swp, List.getD, List.set_append, List.getElem?_append_right]
/-- A list with an element on its way into a part in line. -/
def insA (P s : List α) (y : α) (R : List α) (k : Nat) : List α := P ++ (s.take k ++ y :: (s.drop k ++ R))
theorem insA_swp (z : α) (P s : List α) (y : α) (R : List α) {k : Nat} (h : k + 1 ≤ s.length) : swp z (insA P s y R (k + 1)) (P.length + k + 1) (P.length + k) = insA P s y R k := by
  have e1 : s.take (k + 1) = s.take k ++ [s[k]] := (List.take_append_getElem (by omega)).symm
  have e2 : s.drop k = s[k] :: s.drop (k + 1) := List.drop_eq_getElem_cons (by omega)
  have hl : (P ++ s.take k).length = P.length + k := by simp; omega
  have := swp_adj z (P ++ s.take k) (s.drop (k + 1) ++ R) s[k] y
  rw [hl] at this
  rw [insA, insA, e1, e2]
  simp only [List.append_assoc, List.singleton_append, List.cons_append, List.nil_append] at this ⊢
  exact this
theorem insA_len (P s : List α) (y : α) (R : List α) (k : Nat) : (insA P s y R k).length = P.length + s.length + 1 + R.length := by
  simp only [insA, List.length_append, List.length_take, List.length_cons, List.length_drop]
  omega
theorem insA_at (P s : List α) (y : α) (R : List α) {k : Nat} (h : k ≤ s.length) : (insA P s y R k)[P.length + k]? = some y := by
  have hl : (s.take k).length = k := by simp; omega
  rw [insA, List.getElem?_append_right (by omega), List.getElem?_append_right (by omega)]
  simp [hl]
theorem insA_pred (P s : List α) (y : α) (R : List α) {k : Nat} (h : k + 1 ≤ s.length) : (insA P s y R (k + 1))[P.length + k]? = s[k]? := by
  have hl : (s.take (k + 1)).length = k + 1 := by simp; omega
  rw [insA, List.getElem?_append_right (by omega), List.getElem?_append_left (by omega), List.getElem?_take_of_lt (by omega)]
  congr 1
  omega
end
end Go.Proofs
end
section
set_option linter.unusedVariables false
set_option linter.unusedSimpArgs false
namespace Go.Proofs
open Go.Flat
set_option maxRecDepth 100000
set_option linter.unusedSimpArgs false
set_option linter.unusedVariables false
attribute [local simp] Bool.and_assoc Bool.or_assoc evalG evalX efD skF guardG guardL isCall stepL evalOp ev evs lk tmpsL app AV.ok fresh vv putCells insV ins del putL place Go.Flat.look fillC fillR getCells loadF storeF binF scalarBin intBin strBin isShift shiftBin unF lenF maxF minF rowsF appendF builtinF idxF natOf sliceP sliceF optEv Flat.cut overwrite toPV toPVs constAV scalarC scalarCs AV.cells TI.isAgg allSome andAll scalarEq buildable Go.Flat.lim retQ resL resAll resOne PartOf noTmp closedIn refs refs.refsL isSomeV hasB ids leA leA.leL renA renA.renL callB refsAll backL dropIds renS LiesAt injB ownB freshB memN locId insAll leA_refl leL_refl okS frzS frzA frzA.frzL evalD feet fine updCells cellsFrom memP footRf footWf noTmpU updIds opOps opIds idsA footR footW guardTs opTs dstTs callR callW renLoc renC inBlockQ thenQ Value.oneCell' IntKind.bits IntKind.signed
/-- A time. -/
structure Tm where
  e : Int
  a : Int
  b : Int
/-- An update. -/
structure Up where
  k : List Val
  r : List Val
  t : Tm
  d : Int
def Up.row (u : Up) : List PV := [.ps (u.k.map Val.row), .ps (u.r.map Val.row), .v (.int .u64 u.t.e), .v (.int .u64 u.t.a), .v (.int .u64 u.t.b), .v (.int .i64 u.d)]
@[simp] theorem Up.row_len (u : Up) : u.row.length = 6 := rfl
def Up.av (u : Up) : AV := .agg (u.row.map .p)
def Up.zero : Up := ⟨[], [], ⟨0, 0, 0⟩, 0⟩
theorem wrap_nat {n : Nat} (h : n ≤ Flat.lim) : IntKind.i64.wrap (n : Int) = n := Flat.wrap_small h
theorem wadd {x y g : Nat} (h : x + y = g) (hg : g ≤ Flat.lim) : IntKind.i64.wrap ((x : Int) + (y : Int)) = (g : Int) := by
  have := wrap_nat hg
  rw [← this, ← h]
  simp
theorem wsub {x y d : Nat} (h : d + y = x) (hx : x ≤ Flat.lim) : IntKind.i64.wrap ((x : Int) - (y : Int)) = (d : Int) := by
  have := wrap_nat (n := d) (by omega)
  rw [← this, ← h]
  simp

attribute [local simp] Up.row in
theorem spec215 (us : List Up) (hus : us.length ≤ Flat.lim) (pub : Nat) (a b m : Nat) (hpa : pub ≤ a) (hpb : pub ≤ b) (ha : a + m ≤ us.length) (hb : b + m ≤ us.length) (f : Fn) : Flat.Sp Try.prog 215 [.sl 0 us.length 0 us.length, vv (.int .i64 a), vv (.int .i64 b), vv (.int .i64 m), .fn f []] [(.arr 0, .arr 92 6 (us.map Up.row) pub)] (.tup []) [(.arr 0, .arr 92 6 ((swr Up.zero us a b m).map Up.row) pub)] := by
  refine sk Try.func215 ?_
  intro F G hn hG
  refine sq ?_
  refine rg 1000 ?_
  refine pr [0, 4, 10, 38] ?_
  refine k_block ?_
  refine k_loop (fun n l => ∃ i, i + n = (List.range m).length ∧ (True) ∧ l = [(.tmp 0, .av (.sl 0 us.length 0 us.length)), (.tmp 1, .av (vv (.int .i64 a))), (.tmp 2, .av (vv (.int .i64 b))), (.tmp 3, .av (vv (.int .i64 m))), (.tmp 10, .av (vv (.int .i64 i))), (.arr 0, .arr 92 6 ((swr Up.zero us a b i).map Up.row) pub)]) ((List.range m).length) hG ⟨_, ⟨by simp [swr], by simp, by simp⟩, 0, by simp, trivial, rfl⟩ ?_
  rintro n _ ⟨i, hin, hfa, rfl⟩
  refine sq ?_
  refine sq ?_
  refine rg 2000 ?_
  refine pr [0, 4, 10, 38] ?_
  refine cd ?_ ?_
  · intro h13_1
    have hlt : i < m := by simpa using h13_1
    have hrl : (List.range m).length = m := List.length_range
    obtain ⟨p, hp⟩ : ∃ p, a + i = p := ⟨_, rfl⟩
    obtain ⟨q, hq⟩ : ∃ q, b + i = q := ⟨_, rfl⟩
    have hw1 : IntKind.i64.wrap ((a : Int) + (i : Int)) = (p : Int) := by have := wrap_nat (n := p) (by omega); rw [← this, ← hp]; simp
    have hw2 : IntKind.i64.wrap ((b : Int) + (i : Int)) = (q : Int) := by have := wrap_nat (n := q) (by omega); rw [← this, ← hq]; simp
    have hw3 := wrap_succ (show i < Flat.lim by omega)
    have hai : p < us.length := by omega
    have hbi : q < us.length := by omega
    have hpp : pub ≤ p := by omega
    have hpq : pub ≤ q := by omega
    obtain ⟨xa, hxa⟩ : ∃ x, (swr Up.zero us a b i)[p]? = some x := ⟨_, List.getElem?_eq_getElem (by simp; omega)⟩
    obtain ⟨xb, hxb⟩ : ∃ x, (swr Up.zero us a b i)[q]? = some x := ⟨_, List.getElem?_eq_getElem (by simp; omega)⟩
    refine k_skip ?_
    refine sq ?_
    refine k_block ?_
    refine dr ?_
    refine de 4000 ?_
    refine dn ?_
    refine k_nil ?_
    show AK _ _ _ _ _ _
    refine rg 3000 ?_
    refine k_nil ?_
    refine ⟨n - 1, by omega, _, ⟨?_, ?_, ?_⟩, i + 1, by omega, trivial, rfl⟩ <;> simp [*, swr, swp, Up.row]
  · intro h13_1
    have hge : m ≤ i := by simpa using h13_1
    obtain rfl : i = m := by simp at hin; omega
    refine k_exit ?_
    show AK _ _ _ _ _ _
    refine k_nil ?_
    show retQ _ _ _ _ _ _ _
    simp [*]

attribute [local simp] Up.row in
theorem spec209 (us : List Up) (hus : us.length ≤ Flat.lim) (pub a m b : Nat) (hpa : pub ≤ a) (ham : a < m) (hmb : m < b) (hb : b ≤ us.length) (f : Fn) : Flat.Sp Try.prog 209 [.sl 0 us.length 0 us.length, vv (.int .i64 a), vv (.int .i64 m), vv (.int .i64 b), .fn f []] [(.arr 0, .arr 92 6 (us.map Up.row) pub)] (.tup []) [(.arr 0, .arr 92 6 ((rot us a m b).map Up.row) pub)] := by
  refine sk Try.func209 ?_
  intro F G hn hG
  obtain ⟨i0, hi0⟩ : ∃ i0, i0 + a = m := ⟨m - a, by omega⟩
  obtain ⟨j0, hj0⟩ : ∃ j0, j0 + m = b := ⟨b - m, by omega⟩
  have hwi0 := wsub hi0 (by omega)
  have hwj0 := wsub hj0 (by omega)
  refine sq ?_
  refine rg 1000 ?_
  refine pr [0, 1, 2, 5, 10, 12, 15, 31, 32, 46, 47, 57] ?_
  refine sq ?_
  refine rg 2000 ?_
  refine pr [0, 1, 2, 3, 4, 5, 10, 12, 18, 31, 32, 46, 47, 57] ?_
  refine sq ?_
  refine k_block ?_
  refine k_loop (fun n l => ∃ i j : Nat, ∃ cur : List Up, n = i + j ∧ (cur.length = us.length ∧ 0 < i ∧ 0 < j ∧ a + i ≤ m ∧ m + j ≤ b ∧ rot cur (m - i) m (m + j) = rot us a m b) ∧ l = [(.tmp 0, .av (.sl 0 us.length 0 us.length)), (.tmp 2, .av (vv (.int .i64 m))), (.tmp 4, .av (.fn f [])), (.tmp 10, .av (vv (.int .i64 i))), (.tmp 11, .av (vv (.int .i64 j))), (.arr 0, .arr 92 6 (cur.map Up.row) pub)]) (i0 + j0) hG ⟨_, ⟨by simp [hwi0, hwj0], by simp, by simp⟩, i0, j0, us, rfl, ⟨rfl, by omega, by omega, by omega, by omega, by rw [show m - i0 = a by omega, show m + j0 = b by omega]⟩, rfl⟩ ?_
  rintro n _ ⟨i, j, cur, hin, ⟨hcl, hi1, hj1, hai, hjb, hrot⟩, rfl⟩
  obtain ⟨e, he⟩ : ∃ e, e + i = m := ⟨m - i, by omega⟩
  have hwe := wsub he (by omega)
  refine sq ?_
  refine sq ?_
  refine rg 3000 ?_
  refine pr [0, 1, 2, 3, 4, 5, 10, 12, 18, 31, 32, 46, 47, 57] ?_
  refine cd ?_ ?_
  · intro h20_1
    have hij : ¬ i = j := by have := h20_1; simp at this; omega
    clear h20_1
    refine k_skip ?_
    refine k_block ?_
    refine sq ?_
    refine rg 4000 ?_
    refine pr [0, 1, 2, 3, 4, 5, 10, 12, 18, 31, 32, 46, 47, 57] ?_
    refine cd ?_ ?_
    · intro h23_2
      have hlt : j < i := by have := h23_2; simp at this; omega
      obtain ⟨d, hd⟩ : ∃ d, d + j = i := ⟨i - j, by omega⟩
      have hwd := wsub hd (by omega)
      refine sq ?_
      refine rc 5000 ?_
      refine oc id (spec215 cur (by omega) pub e m j (by omega) (by omega) (by omega) (by omega) f) ?_
      refine on ?_
      refine pr [0, 1, 2, 3, 4, 5, 10, 12, 18, 31, 32, 46, 47, 57] ?_
      refine rg 6000 ?_
      refine k_nil ?_
      show AK _ _ _ _ _ _
      refine k_nil ?_
      first
        | refine ⟨d + j, by omega, _, ⟨?_, ?_, ?_⟩, d, j, swr Up.zero cur e m j, rfl, ⟨by simp [hcl], by omega, hj1, by omega, hjb, by rw [← hrot, ← rot_step1 Up.zero cur (i := i) (j := j) (m := m) (by omega) (by omega) (by omega)]; congr 1 <;> first | omega | (congr 1 <;> omega)⟩, rfl⟩ <;> simp [*] <;> done
        | refine ⟨i + d, by omega, _, ⟨?_, ?_, ?_⟩, i, d, swr Up.zero cur e q i, rfl, ⟨by simp [hcl], hi1, by omega, hai, by omega, by rw [← hrot, ← rot_step2 Up.zero cur (i := i) (j := j) (m := m) (by omega) (by omega) (by omega)]; congr 1 <;> first | omega | (congr 1 <;> omega)⟩, rfl⟩ <;> simp [*] <;> done
    · intro h23_2
      have hlt : i < j := by have := h23_2; simp at this; omega
      obtain ⟨d, hd⟩ : ∃ d, d + i = j := ⟨j - i, by omega⟩
      have hwd := wsub hd (by omega)
      obtain ⟨g, hg⟩ : ∃ g, m + j = g := ⟨_, rfl⟩
      have hwg := wadd hg (by omega)
      obtain ⟨q, hq⟩ : ∃ q, q + i = g := ⟨g - i, by omega⟩
      have hwq := wsub hq (by omega)
      refine sq ?_
      refine rc 7000 ?_
      refine oc id (spec215 cur (by omega) pub e q i (by omega) (by omega) (by omega) (by omega) f) ?_
      refine on ?_
      refine pr [0, 1, 2, 3, 4, 5, 10, 12, 18, 31, 32, 46, 47, 57] ?_
      refine rg 8000 ?_
      refine k_nil ?_
      show AK _ _ _ _ _ _
      refine k_nil ?_
      first
        | refine ⟨d + j, by omega, _, ⟨?_, ?_, ?_⟩, d, j, swr Up.zero cur e m j, rfl, ⟨by simp [hcl], by omega, hj1, by omega, hjb, by rw [← hrot, ← rot_step1 Up.zero cur (i := i) (j := j) (m := m) (by omega) (by omega) (by omega)]; congr 1 <;> first | omega | (congr 1 <;> omega)⟩, rfl⟩ <;> simp [*] <;> done
        | refine ⟨i + d, by omega, _, ⟨?_, ?_, ?_⟩, i, d, swr Up.zero cur e q i, rfl, ⟨by simp [hcl], hi1, by omega, hai, by omega, by rw [← hrot, ← rot_step2 Up.zero cur (i := i) (j := j) (m := m) (by omega) (by omega) (by omega)]; congr 1 <;> first | omega | (congr 1 <;> omega)⟩, rfl⟩ <;> simp [*] <;> done
  · intro h20_1
    have hij : i = j := by have := h20_1; simp at this; omega
    subst hij
    have hfin := rot_end Up.zero cur (i := i) (m := m) (by omega) (by omega)
    rw [show m - i = e by omega] at hfin hrot
    rw [hrot] at hfin
    refine k_exit ?_
    show AK _ _ _ _ _ _
    refine rc 9000 ?_
    refine oc id (spec215 cur (by omega) pub e m i (by omega) (by omega) (by omega) (by omega) f) ?_
    refine on ?_
    refine k_nil ?_
    show retQ _ _ _ _ _ _ _
    simp [*]

def ltU {α : Type} (c : α → α → Int) (x y : α) : Bool := decide (c x y < 0)
theorem isrt_short {α : Type} {lt : α → α → Bool} {l : List α} (h : l.length ≤ 1) : isrt lt l = l := by
  match l, h with
  | [], _ => rfl
  | [x], _ => simp [isrt, nil_mrg]
def insI {α : Type} (c : α → α → Int) (us : List α) (a i : Nat) : List α := us.take a ++ (isrt (ltU c) (seg us a i) ++ us.drop i)
theorem insI_start {α : Type} (c : α → α → Int) (us : List α) (a : Nat) : insI c us a (a + 1) = us := by
  rw [insI, isrt_short (by simp [seg]; omega), seg, show a + 1 - a = 1 by omega]
  rw [← List.drop_drop, List.take_append_drop, List.take_append_drop]
theorem insI_next {α : Type} {c : α → α → Int} (ho : Ord (ltU c)) {us : List α} {a i : Nat} (ha : a ≤ i) (hi : i < us.length) {y : α} (hy : us[i]? = some y) :
    insI c us a i = insA (us.take a) (isrt (ltU c) (seg us a i)) y (us.drop (i + 1)) (i - a) := by
  have hl : (isrt (ltU c) (seg us a i)).length = i - a := by rw [isrt_length, seg_len (by omega)]
  obtain ⟨q1, q2⟩ := List.getElem?_eq_some_iff.1 hy
  have e : us.drop i = y :: us.drop (i + 1) := by rw [List.drop_eq_getElem_cons q1, q2]
  have t1 : (isrt (ltU c) (seg us a i)).take (i - a) = isrt (ltU c) (seg us a i) := List.take_of_length_le (by omega)
  have t2 : (isrt (ltU c) (seg us a i)).drop (i - a) = [] := List.drop_eq_nil_of_le (by omega)
  rw [insI, insA, e, t1, t2]
  simp
theorem insI_done {α : Type} {c : α → α → Int} (ho : Ord (ltU c)) {us : List α} {a i k : Nat} (ha : a ≤ i) (hi : i < us.length) {y : α} (hy : us[i]? = some y) (hk : k ≤ i - a) (h1 : ∀ z ∈ (isrt (ltU c) (seg us a i)).drop k, ltU c y z = true)
    (h2 : ∀ z, 0 < k → (isrt (ltU c) (seg us a i))[k - 1]? = some z → ltU c y z = false) : insA (us.take a) (isrt (ltU c) (seg us a i)) y (us.drop (i + 1)) k = insI c us a (i + 1) := by
  have hl : (isrt (ltU c) (seg us a i)).length = i - a := by rw [isrt_length, seg_len (by omega)]
  rw [insI, seg_snoc ha hy, isrt_snoc, mrg_ins ho (isrt_line ho _) y k (by omega) h1 h2, insA]
  simp

theorem ins_end {α : Type} {c : α → α → Int} {us : List α} {a b i : Nat} (hst : insI c us a (a + 1) = us) (hai : a < i) (hib : b ≤ i) (h0 : i ≤ b ∨ i = a + 1) : insI c us a i = if a < b then insI c us a b else us := by
  by_cases h : a < b
  · rw [if_pos h, show i = b by omega]
  · rw [if_neg h, show i = a + 1 by omega, hst]
theorem drop_all {α : Type} {c : α → α → Int} {s : List α} {k : Nat} {y w : α} (hkl : k - 1 < s.length) (hw : s[k - 1]? = some w) (h : ltU c y w = true) (hk : 0 < k) (hz : ∀ z ∈ s.drop k, ltU c y z = true) : ∀ z ∈ s.drop (k - 1), ltU c y z = true := by
  rw [List.drop_eq_getElem_cons hkl, (List.getElem?_eq_some_iff.1 hw).2, show k - 1 + 1 = k by omega]
  intro z h3
  rcases List.mem_cons.1 h3 with rfl | h3
  · exact h
  · exact hz z h3
theorem stop_of {α : Type} {c : α → α → Int} {s : List α} {a j k : Nat} {y z0 : α} (HH : (decide (a < j) && ltU c y (s.getD (k - 1) z0)) = false) (hak : a + k = j) : ∀ z, 0 < k → s[k - 1]? = some z → ltU c y z = false := by
  intro z hk hz
  have : s.getD (k - 1) z0 = z := by rw [List.getD_eq_getElem?_getD, hz]; rfl
  rw [this] at HH
  have h : decide (a < j) = true := by simp; omega
  rw [h] at HH
  simpa using HH
theorem mem_seg {α : Type} {l : List α} {a b : Nat} {x : α} (h : x ∈ seg l a b) : x ∈ l := List.mem_of_mem_drop (List.mem_of_mem_take h)

attribute [local simp] Up.row Up.av in
set_option maxHeartbeats 1000000 in
theorem spec202 (c : Up → Up → Int) (ho : Ord (ltU c)) (us : List Up) (hus : us.length < Flat.lim) (hc : ∀ x ∈ us, ∀ y ∈ us, Flat.Sp Try.prog 87 [x.av, y.av] [] (vv (.int .i64 (c x y))) []) (pub a b : Nat) (hpa : pub ≤ a) (hab : a ≤ b) (hb : b ≤ us.length) : Flat.Sp Try.prog 202 [.sl 0 us.length 0 us.length, vv (.int .i64 a), vv (.int .i64 b), .fn (.func 87) []] [(.arr 0, .arr 92 6 (us.map Up.row) pub)] (.tup []) [(.arr 0, .arr 92 6 ((if a < b then insI c us a b else us).map Up.row) pub)] := by
  refine sk Try.func202 ?_
  intro F G hn hG
  have hwa := wadd (x := a) (y := 1) rfl (by omega)
  simp only [Int.natCast_one] at hwa
  have hst := insI_start c us a
  have hta : (us.take a).length = a := by simp; omega
  refine sq ?_
  refine rg 1000 ?_
  refine pr [0, 4, 8, 10, 12, 53] ?_
  refine k_block ?_
  refine k_loop (fun n l => ∃ i : Nat, i + n = us.length + 1 ∧ (a < i ∧ (i ≤ b ∨ i = a + 1)) ∧ l = [(.tmp 0, .av (.sl 0 us.length 0 us.length)), (.tmp 1, .av (vv (.int .i64 a))), (.tmp 2, .av (vv (.int .i64 b))), (.tmp 3, .av (.fn (.func 87) [])), (.tmp 8, .av (vv (.int .i64 i))), (.arr 0, .arr 92 6 ((insI c us a i).map Up.row) pub)]) (us.length - a) hG ⟨_, ⟨by simp [hwa, hst], by simp, by simp⟩, a + 1, by omega, ⟨by omega, .inr rfl⟩, rfl⟩ ?_
  rintro n _ ⟨i, hin, ⟨hai, hib0⟩, rfl⟩
  refine sq ?_
  refine sq ?_
  refine rg 2000 ?_
  refine pr [0, 4, 8, 10, 12, 53] ?_
  refine cd ?_ ?_
  · intro h14_1
    have hib : i < b := by simpa using h14_1
    obtain ⟨y, hy⟩ : ∃ y, us[i]? = some y := ⟨_, List.getElem?_eq_getElem (by omega)⟩
    have hym := List.mem_of_getElem? hy
    have hsl : (isrt (ltU c) (seg us a i)).length = i - a := by rw [isrt_length, seg_len (by omega)]
    have hcu := insI_next ho (a := a) (i := i) (by omega) (by omega) hy
    have hws := wrap_succ (show i < Flat.lim by omega)
    refine k_skip ?_
    refine sq ?_
    refine k_block ?_
    refine sq ?_
    refine rg 4000 ?_
    refine pr [0, 4, 8, 10, 12, 53] ?_
    refine k_block ?_
    refine k_loop (fun n l => ∃ j k : Nat, n = k ∧ (a + k = j ∧ k ≤ i - a ∧ ∀ z ∈ (isrt (ltU c) (seg us a i)).drop k, ltU c y z = true) ∧ l = [(.tmp 0, .av (.sl 0 us.length 0 us.length)), (.tmp 1, .av (vv (.int .i64 a))), (.tmp 2, .av (vv (.int .i64 b))), (.tmp 3, .av (.fn (.func 87) [])), (.tmp 8, .av (vv (.int .i64 i))), (.tmp 9, .av (vv (.int .i64 j))), (.arr 0, .arr 92 6 ((insA (us.take a) (isrt (ltU c) (seg us a i)) y (us.drop (i + 1)) k).map Up.row) pub)]) (i - a) hG ⟨_, ⟨by simp [hcu], by simp, by simp⟩, i, i - a, rfl, ⟨by omega, Nat.le_refl _, by rw [List.drop_eq_nil_of_le (by omega)]; simp⟩, rfl⟩ ?_
    rintro n2 _ ⟨j, k, hnk, ⟨hak, hk, hz⟩, rfl⟩
    refine sq ?_
    refine sq ?_
    refine cv [(.tmp 34, vv (.bool (decide (a < j) && ltU c y ((isrt (ltU c) (seg us a i)).getD (k - 1) Up.zero))))] ?_ ?_
    · skip
      rcases h0 : (decide (a < j) : Bool) with _ | _
      · skip
        refine dr ?_
        refine de 5000 ?_ (h := by simp [*, ltU]; exact is_rfl _)
        iterate 10 (first | refine dp 5950 ?_ (he := by intro hgg; (try simp only [Bool.and_eq_true] at hgg); simp [*, ltU]; exact is_rfl _) | refine ds ?_ | refine dt 5950 ?_ (he := by simp [*, ltU]; exact is_rfl _))
        refine ds ?_
        first | refine dp 6150 ?_ (he := by intro hgg; (try simp only [Bool.and_eq_true] at hgg); simp [*, ltU]; exact is_rfl _) | refine ds ?_ | refine dt 6150 ?_ (he := by simp [*, ltU]; exact is_rfl _)
        refine de 6200 ?_ (h := by simp [*, ltU]; exact is_rfl _)
        refine dn ?_
        refine k_nil ?_
        refine ⟨rfl, ?_, ?_, ?_⟩ <;> simp [*, ltU]
      · skip
        have hkp : a < j := by simpa using h0
        have hkl : k - 1 < (isrt (ltU c) (seg us a i)).length := by omega
        obtain ⟨w, hw⟩ : ∃ w, (isrt (ltU c) (seg us a i))[k - 1]? = some w := ⟨_, List.getElem?_eq_getElem hkl⟩
        have hwm : w ∈ us := mem_seg ((isrt_perm _).mem_iff.1 (List.mem_of_getElem? hw))
        have hgw : (isrt (ltU c) (seg us a i)).getD (k - 1) Up.zero = w := by rw [List.getD_eq_getElem?_getD, hw]; rfl
        obtain ⟨jm, hjm⟩ : ∃ jm, jm + 1 = j := ⟨j - 1, by omega⟩
        have hwj := wsub hjm (by omega)
        simp only [Int.natCast_one] at hwj
        have hself : (insA (us.take a) (isrt (ltU c) (seg us a i)) y (us.drop (i + 1)) k)[j]? = some y := by have := insA_at (us.take a) (isrt (ltU c) (seg us a i)) y (us.drop (i + 1)) (k := k) (by omega); rw [hta, hak] at this; exact this
        have hpred : (insA (us.take a) (isrt (ltU c) (seg us a i)) y (us.drop (i + 1)) k)[jm]? = some w := by have := insA_pred (us.take a) (isrt (ltU c) (seg us a i)) y (us.drop (i + 1)) (k := k - 1) (by omega); rw [hta, show k - 1 + 1 = k by omega, show a + (k - 1) = jm by omega, hw] at this; exact this
        have hcl : (insA (us.take a) (isrt (ltU c) (seg us a i)) y (us.drop (i + 1)) k).length = us.length := by rw [insA_len, hta, hsl, List.length_drop]; omega
        have hself2 : ∀ h : j < (insA (us.take a) (isrt (ltU c) (seg us a i)) y (us.drop (i + 1)) k).length, (insA (us.take a) (isrt (ltU c) (seg us a i)) y (us.drop (i + 1)) k)[j]'h = y := fun h => (List.getElem?_eq_some_iff.1 hself).2
        have hpred2 : ∀ h : jm < (insA (us.take a) (isrt (ltU c) (seg us a i)) y (us.drop (i + 1)) k).length, (insA (us.take a) (isrt (ltU c) (seg us a i)) y (us.drop (i + 1)) k)[jm]'h = w := fun h => (List.getElem?_eq_some_iff.1 hpred).2
        have hjl : j < us.length := by omega
        have hjl2 : jm < us.length := by omega
        have hpj : pub ≤ j := by omega
        have hpj2 : pub ≤ jm := by omega
        refine dr ?_
        refine de 1005000 ?_ (h := by simp [*, ltU]; exact is_rfl _)
        iterate 10 (first | refine dp 1005950 ?_ (he := by intro hgg; (try simp only [Bool.and_eq_true] at hgg); simp [*, ltU]; exact is_rfl _) | refine ds ?_ | refine dt 1005950 ?_ (he := by simp [*, ltU]; exact is_rfl _))
        refine dc id (hc y hym w hwm) ?_ (hg := by simp [*, ltU]) (hf := by simp [*, ltU]; exact is_rfl _) (hx := by simp [*, ltU]; exact is_rfl _) (hargs := by simp [*, ltU]) (hB := by simp [*, ltU]) (hL := by simp [*, ltU]) (hd := by simp [*, ltU]; exact is_rfl _)
        first | refine dp 1006150 ?_ (he := by intro hgg; (try simp only [Bool.and_eq_true] at hgg); simp [*, ltU]; exact is_rfl _) | refine ds ?_ | refine dt 1006150 ?_ (he := by simp [*, ltU]; exact is_rfl _)
        refine de 1006200 ?_ (h := by simp [*, ltU]; exact is_rfl _)
        refine dn ?_
        refine k_nil ?_
        refine ⟨rfl, ?_, ?_, ?_⟩ <;> simp [*, ltU]
    refine pr [0, 4, 8, 10, 12, 53] ?_
    refine cd ?_ ?_
    · intro h34_2
      have h34_2 : (decide (a < j) && ltU c y ((isrt (ltU c) (seg us a i)).getD (k - 1) Up.zero)) = true := h34_2
      simp only [Bool.and_eq_true, decide_eq_true_eq] at h34_2
      have hkp := h34_2.1
      have hkl : k - 1 < (isrt (ltU c) (seg us a i)).length := by omega
      obtain ⟨w, hw⟩ : ∃ w, (isrt (ltU c) (seg us a i))[k - 1]? = some w := ⟨_, List.getElem?_eq_getElem hkl⟩
      have hwm : w ∈ us := mem_seg ((isrt_perm _).mem_iff.1 (List.mem_of_getElem? hw))
      have hgw : (isrt (ltU c) (seg us a i)).getD (k - 1) Up.zero = w := by rw [List.getD_eq_getElem?_getD, hw]; rfl
      obtain ⟨jm, hjm⟩ : ∃ jm, jm + 1 = j := ⟨j - 1, by omega⟩
      have hwj := wsub hjm (by omega)
      simp only [Int.natCast_one] at hwj
      have hself : (insA (us.take a) (isrt (ltU c) (seg us a i)) y (us.drop (i + 1)) k)[j]? = some y := by have := insA_at (us.take a) (isrt (ltU c) (seg us a i)) y (us.drop (i + 1)) (k := k) (by omega); rw [hta, hak] at this; exact this
      have hpred : (insA (us.take a) (isrt (ltU c) (seg us a i)) y (us.drop (i + 1)) k)[jm]? = some w := by have := insA_pred (us.take a) (isrt (ltU c) (seg us a i)) y (us.drop (i + 1)) (k := k - 1) (by omega); rw [hta, show k - 1 + 1 = k by omega, show a + (k - 1) = jm by omega, hw] at this; exact this
      have hcl : (insA (us.take a) (isrt (ltU c) (seg us a i)) y (us.drop (i + 1)) k).length = us.length := by rw [insA_len, hta, hsl, List.length_drop]; omega
      have hself2 : ∀ h : j < (insA (us.take a) (isrt (ltU c) (seg us a i)) y (us.drop (i + 1)) k).length, (insA (us.take a) (isrt (ltU c) (seg us a i)) y (us.drop (i + 1)) k)[j]'h = y := fun h => (List.getElem?_eq_some_iff.1 hself).2
      have hpred2 : ∀ h : jm < (insA (us.take a) (isrt (ltU c) (seg us a i)) y (us.drop (i + 1)) k).length, (insA (us.take a) (isrt (ltU c) (seg us a i)) y (us.drop (i + 1)) k)[jm]'h = w := fun h => (List.getElem?_eq_some_iff.1 hpred).2
      have hjl : j < us.length := by omega
      have hjl2 : jm < us.length := by omega
      have hpj : pub ≤ j := by omega
      have hpj2 : pub ≤ jm := by omega
      rw [hgw] at h34_2
      have hnx : insA (us.take a) (isrt (ltU c) (seg us a i)) y (us.drop (i + 1)) (k - 1) = ((insA (us.take a) (isrt (ltU c) (seg us a i)) y (us.drop (i + 1)) k).set j w).set jm y := by have h := insA_swp Up.zero (us.take a) (isrt (ltU c) (seg us a i)) y (us.drop (i + 1)) (k := k - 1) (by omega); rw [hta, show k - 1 + 1 = k by omega, show a + (k - 1) + 1 = j by omega, show a + (k - 1) = jm by omega] at h; rw [← h]; simp [swp, List.getD, hself, hpred]
      have hz2 := drop_all hkl hw h34_2.2 (by omega) hz
      refine k_skip ?_
      refine sq ?_
      refine k_block ?_
      refine dr ?_
      refine de 7000 ?_
      refine dn ?_
      refine k_nil ?_
      show AK _ _ _ _ _ _
      refine rg 6000 ?_
      refine k_nil ?_
      refine ⟨k - 1, by omega, _, ⟨?_, ?_, ?_⟩, jm, k - 1, rfl, ⟨by omega, by omega, hz2⟩, rfl⟩ <;> simp [*]
    · intro h34_2
      have h34_2 : (decide (a < j) && ltU c y ((isrt (ltU c) (seg us a i)).getD (k - 1) Up.zero)) = false := h34_2
      have hdn := insI_done ho (a := a) (i := i) (by omega) (by omega) hy hk hz (stop_of h34_2 hak)
      refine k_exit ?_
      show AK _ _ _ _ _ _
      refine k_nil ?_
      show AK _ _ _ _ _ _
      refine rg 3000 ?_
      refine k_nil ?_
      refine ⟨n - 1, by omega, _, ⟨?_, ?_, ?_⟩, i + 1, by omega, ⟨by omega, .inl (by omega)⟩, rfl⟩ <;> simp [*]
  · intro h14_1
    have hib : b ≤ i := by simpa using h14_1
    have hend : insI c us a i = if a < b then insI c us a b else us := ins_end hst hai hib hib0
    refine k_exit ?_
    show AK _ _ _ _ _ _
    refine k_nil ?_
    show retQ _ _ _ _ _ _ _
    simp [*]

end Go.Proofs
end
section
set_option linter.unusedVariables false
set_option linter.unusedSimpArgs false
namespace Go.Proofs
set_option linter.unusedSimpArgs false
set_option linter.unusedVariables false
section
variable {α : Type} {lt : α → α → Bool}
/-- Two parts in line, one behind the other, are merged in place. -/
def mergeI (lt : α → α → Bool) (us : List α) (a m b : Nat) : List α := us.take a ++ (mrg lt (seg us a m) (seg us m b) ++ us.drop b)
theorem seg_drop {us : List α} {a b : Nat} (h : a ≤ b) : us.drop a = seg us a b ++ us.drop b := by
  have := List.take_append_drop (b - a) (us.drop a)
  rw [List.drop_drop, show a + (b - a) = b by omega] at this
  exact this.symm
theorem seg_split {us : List α} {a m b : Nat} (h1 : a ≤ m) (h2 : m ≤ b) : seg us a b = seg us a m ++ seg us m b := by
  unfold seg
  rw [show b - a = (m - a) + (b - m) by omega, List.take_add, List.drop_drop, show a + (m - a) = m by omega]
theorem cut4 {us : List α} {a m b : Nat} (h1 : a ≤ m) (h2 : m ≤ b) : us = us.take a ++ (seg us a m ++ (seg us m b ++ us.drop b)) := by
  rw [← seg_drop h2, ← seg_drop h1, List.take_append_drop]
theorem mergeI_len {us : List α} {a m b : Nat} (h1 : a ≤ m) (h2 : m ≤ b) : (mergeI lt us a m b).length = us.length := by
  have h := congrArg List.length (cut4 (us := us) h1 h2)
  simp only [List.length_append] at h
  simp only [mergeI, List.length_append, mrg_length]
  omega
theorem mergeI_perm {us : List α} {a m b : Nat} (h1 : a ≤ m) (h2 : m ≤ b) : (mergeI lt us a m b).Perm us := by
  refine List.Perm.trans ?_ (List.Perm.of_eq (cut4 (us := us) h1 h2).symm)
  refine List.Perm.append_left _ ?_
  rw [← List.append_assoc (seg us a m)]
  exact (mrg_perm _ _).append_right _
theorem seg_self (us : List α) (a : Nat) : seg us a a = [] := by simp [seg]
theorem mergeI_nil1 {us : List α} {a b : Nat} (h : a ≤ b) : mergeI lt us a a b = us := by
  rw [mergeI, seg_self, nil_mrg, ← seg_drop h, List.take_append_drop]
theorem mergeI_nil2 {us : List α} {a b : Nat} (h : a ≤ b) : mergeI lt us a b b = us := by
  rw [mergeI, seg_self, mrg_nil, ← seg_drop h, List.take_append_drop]
theorem seg_of {l P A R : List α} {a b : Nat} (hl : l = P ++ (A ++ R)) (ha : P.length = a) (hb : a + A.length = b) : seg l a b = A := by
  subst hl ha hb
  simp [seg]
theorem rot_of {l P A B R : List α} {a m b : Nat} (hl : l = P ++ (A ++ (B ++ R))) (ha : P.length = a) (hm : a + A.length = m) (hb : m + B.length = b) : rot l a m b = P ++ (B ++ (A ++ R)) := by
  have e1 : seg l a m = A := seg_of hl ha hm
  have e2 : seg l m b = B := seg_of (P := P ++ A) (R := R) (by simp [hl]) (by simp; omega) hb
  have e3 : l.take a = P := by subst hl ha; simp
  have e4 : l.drop b = R := by
    have : l = (P ++ (A ++ B)) ++ R := by simp [hl]
    rw [this, List.drop_append_of_le_length (by simp; omega), List.drop_eq_nil_of_le (by simp; omega), List.nil_append]
  unfold seg at e1 e2
  rw [rot, e1, e2, e3, e4]
theorem mergeI_of {l P A B R : List α} {a m b : Nat} (hl : l = P ++ (A ++ (B ++ R))) (ha : P.length = a) (hm : a + A.length = m) (hb : m + B.length = b) : mergeI lt l a m b = P ++ (mrg lt A B ++ R) := by
  have e1 : seg l a m = A := seg_of hl ha hm
  have e2 : seg l m b = B := seg_of (P := P ++ A) (R := R) (by simp [hl]) (by simp; omega) hb
  have e3 : l.take a = P := by subst hl ha; simp
  have e4 : l.drop b = R := by
    have : l = (P ++ (A ++ B)) ++ R := by simp [hl]
    rw [this, List.drop_append_of_le_length (by simp; omega), List.drop_eq_nil_of_le (by simp; omega), List.nil_append]
  rw [mergeI, e1, e2, e3, e4]
theorem rot_self1 {us : List α} {a b : Nat} (h : a ≤ b) : rot us a a b = us := by
  rw [rot, Nat.sub_self, List.take_zero, List.nil_append]
  have := seg_drop (us := us) h
  unfold seg at this
  rw [← this, List.take_append_drop]
theorem rot_self2 {us : List α} {a b : Nat} (h : a ≤ b) : rot us a b b = us := by
  rw [rot, Nat.sub_self, List.take_zero, List.nil_append]
  have := seg_drop (us := us) h
  unfold seg at this
  rw [← this, List.take_append_drop]
theorem rot_perm {us : List α} {a m b : Nat} (h1 : a ≤ m) (h2 : m ≤ b) : (rot us a m b).Perm us := by
  refine List.Perm.trans ?_ (List.Perm.of_eq (cut4 (us := us) h1 h2).symm)
  refine List.Perm.append_left _ ?_
  rw [← List.append_assoc, ← List.append_assoc]
  exact List.perm_append_comm.append_right _
theorem sym_split {us : List α} {a s m e b mid : Nat} (h1 : a ≤ s) (h2 : s ≤ m) (h3 : m ≤ e) (h4 : e ≤ b) (h5 : b ≤ us.length) (hmid : s + (e - m) = mid)
    (hx : ∀ x ∈ seg us a s, ∀ y ∈ seg us e b, lt y x = false) (hy : ∀ y ∈ seg us m e, ∀ x ∈ seg us s m, lt y x = true) :
    mergeI lt (mergeI lt (rot us s m e) a s mid) mid e b = mergeI lt us a m b ∧ seg (rot us s m e) a s = seg us a s ∧ seg (rot us s m e) s mid = seg us m e ∧
    seg (mergeI lt (rot us s m e) a s mid) mid e = seg us s m ∧ seg (mergeI lt (rot us s m e) a s mid) e b = seg us e b := by
  have hc : us = us.take a ++ (seg us a s ++ (seg us s m ++ (seg us m e ++ (seg us e b ++ us.drop b)))) := by
    rw [← seg_drop h4, ← seg_drop h3, ← seg_drop h2, ← seg_drop h1, List.take_append_drop]
  have l0 : (us.take a).length = a := by simp; omega
  have l1 := seg_len (l := us) (a := a) (b := s) (by omega)
  have l2 := seg_len (l := us) (a := s) (b := m) (by omega)
  have l3 := seg_len (l := us) (a := m) (b := e) (by omega)
  have l4 := seg_len (l := us) (a := e) (b := b) (by omega)
  generalize us.take a = P at hc l0
  generalize seg us a s = u1 at hc l1 hx ⊢
  generalize seg us s m = u2 at hc l2 hy ⊢
  generalize seg us m e = v1 at hc l3 hy ⊢
  generalize seg us e b = v2 at hc l4 hx ⊢
  generalize us.drop b = R at hc
  have r1 : rot us s m e = P ++ (u1 ++ (v1 ++ (u2 ++ (v2 ++ R)))) := by
    rw [rot_of (P := P ++ u1) (A := u2) (B := v1) (R := v2 ++ R) (by rw [hc]; simp) (by simp; omega) (by omega) (by omega)]
    simp
  have r2 : mergeI lt (rot us s m e) a s mid = P ++ (mrg lt u1 v1 ++ (u2 ++ (v2 ++ R))) := mergeI_of r1 l0 (by omega) (by omega)
  have hml := mrg_length (lt := lt) u1 v1
  refine ⟨?_, seg_of r1 l0 (by omega), ?_, ?_, ?_⟩
  · have e1 : mergeI lt us a m b = P ++ (mrg lt (u1 ++ u2) (v1 ++ v2) ++ R) := mergeI_of (by rw [hc]; simp) l0 (by simp; omega) (by simp; omega)
    have e2 : mergeI lt (mergeI lt (rot us s m e) a s mid) mid e b = (P ++ mrg lt u1 v1) ++ (mrg lt u2 v2 ++ R) := mergeI_of (by rw [r2]; simp) (by simp; omega) (by omega) (by omega)
    rw [e1, e2, mrg_split u1 v1 u2 v2 hx hy]
    simp
  · exact seg_of (P := P ++ u1) (A := v1) (R := u2 ++ (v2 ++ R)) (by rw [r1]; simp) (by simp; omega) (by omega)
  · exact seg_of (P := P ++ mrg lt u1 v1) (A := u2) (R := v2 ++ R) (by rw [r2]; simp) (by simp; omega) (by omega)
  · exact seg_of (P := P ++ (mrg lt u1 v1 ++ u2)) (A := v2) (R := R) (by rw [r2]; simp) (by simp; omega) (by omega)
/-- A search by halves: behind i none is yet known to be false, from j on all are true. -/
structure BS (q : Nat → Bool) (lo hi i j : Nat) : Prop where
  a : lo ≤ i
  b : i ≤ j
  c : j ≤ hi
  f : ∀ h, lo ≤ h → h < i → q h = false
  t : ∀ h, j ≤ h → h < hi → q h = true
def Mono (q : Nat → Bool) (lo hi : Nat) : Prop := ∀ h h', lo ≤ h → h ≤ h' → h' < hi → q h = true → q h' = true
theorem BS.start {q : Nat → Bool} {lo hi : Nat} (h : lo ≤ hi) : BS q lo hi lo hi := ⟨Nat.le_refl _, h, Nat.le_refl _, fun _ h1 h2 => by omega, fun _ h1 h2 => by omega⟩
theorem BS.up {q : Nat → Bool} {lo hi i j h : Nat} (B : BS q lo hi i j) (hm : Mono q lo hi) (h1 : i ≤ h) (h2 : h < j) (hq : q h = false) : BS q lo hi (h + 1) j := by
  refine ⟨by have := B.a; omega, h2, B.c, fun k k1 k2 => ?_, B.t⟩
  cases hk : q k with
  | false => rfl
  | true => rw [hm k h k1 (by omega) (by have := B.c; omega) hk] at hq; exact hq
theorem BS.dn {q : Nat → Bool} {lo hi i j h : Nat} (B : BS q lo hi i j) (hm : Mono q lo hi) (h1 : i ≤ h) (h2 : h < j) (hq : q h = true) : BS q lo hi i h :=
  ⟨B.a, h1, by have := B.c; omega, B.f, fun k k1 k2 => hm h k (by have := B.a; omega) k1 k2 hq⟩
theorem seg_at {us : List α} {a b i : Nat} (h1 : a ≤ i) (h2 : i < b) : (seg us a b)[i - a]? = us[i]? := by
  rw [seg, List.getElem?_take_of_lt (by omega), List.getElem?_drop]
  congr 1
  omega
theorem mem_seg_at {us : List α} {a b : Nat} (z : α) (hb : b ≤ us.length) {x : α} (h : x ∈ seg us a b) : ∃ i, a ≤ i ∧ i < b ∧ us.getD i z = x := by
  obtain ⟨k, hk⟩ := List.getElem?_of_mem h
  obtain ⟨h1, _⟩ := List.getElem?_eq_some_iff.1 hk
  rw [seg_len hb] at h1
  refine ⟨a + k, by omega, by omega, ?_⟩
  have := seg_at (us := us) (a := a) (b := b) (i := a + k) (by omega) (by omega)
  rw [show a + k - a = k by omega, hk] at this
  rw [List.getD_eq_getElem?_getD, ← this]
  rfl
theorem seg_le (ho : Ord lt) {us : List α} {a b : Nat} (hl : Line lt (seg us a b)) (hb : b ≤ us.length) (z : α) {i j : Nat} (h1 : a ≤ i) (h2 : i ≤ j) (h3 : j < b) : lt (us.getD j z) (us.getD i z) = false := by
  by_cases he : i = j
  · subst he; exact ho.irr _
  · have hsl := seg_len (l := us) (a := a) hb
    have := List.pairwise_iff_getElem.1 hl (i - a) (j - a) (by omega) (by omega) (by omega)
    have e1 := seg_at (us := us) (a := a) (b := b) (i := i) h1 (by omega)
    have e2 := seg_at (us := us) (a := a) (b := b) (i := j) (by omega) h3
    rw [List.getElem?_eq_getElem (by omega)] at e1 e2
    rw [List.getD_eq_getElem?_getD, List.getD_eq_getElem?_getD, ← e1, ← e2]
    exact this
/-- One ahead of a part: the place of the first one. -/
def q1 (lt : α → α → Bool) (us : List α) (x z : α) (h : Nat) : Bool := !lt (us.getD h z) x
theorem q1_mono (ho : Ord lt) {us : List α} {m b : Nat} (hl : Line lt (seg us m b)) (hb : b ≤ us.length) (x z : α) : Mono (q1 lt us x z) m b := by
  intro h h' k1 k2 k3 hq
  simp only [q1, Bool.not_eq_true'] at hq ⊢
  exact ho.tr x _ _ hq (seg_le ho hl hb z k1 k2 k3)
theorem sym_one (ho : Ord lt) {us : List α} {a b i : Nat} {x z : α} (hx : us[a]? = some x) (hl : Line lt (seg us (a + 1) b)) (hb : b ≤ us.length) (hB : BS (q1 lt us x z) (a + 1) b i i) :
    insA (us.take a) (seg us (a + 1) b) x (us.drop b) (i - (a + 1)) = mergeI lt us a (a + 1) b := by
  have hs : seg us a (a + 1) = [x] := by rw [seg_snoc (Nat.le_refl a) hx, seg_self, List.nil_append]
  have hB1 := hB.a
  have hB2 := hB.c
  have hsl := seg_len (l := us) (a := a + 1) hb
  have e : mrg lt ([] ++ [x]) ((seg us (a + 1) b).take (i - (a + 1)) ++ (seg us (a + 1) b).drop (i - (a + 1))) = mrg lt [] ((seg us (a + 1) b).take (i - (a + 1))) ++ mrg lt [x] ((seg us (a + 1) b).drop (i - (a + 1))) := by
    refine mrg_split _ _ _ _ (by simp) ?_
    intro y hy w hw
    rw [List.mem_singleton] at hw
    subst hw
    obtain ⟨k, hk⟩ := List.getElem?_of_mem hy
    obtain ⟨k1, k2⟩ := List.getElem?_eq_some_iff.1 hk
    simp only [List.length_take] at k1
    rw [List.getElem?_take_of_lt (by omega)] at hk
    have e1 := seg_at (us := us) (a := a + 1) (b := b) (i := a + 1 + k) (by omega) (by omega)
    rw [show a + 1 + k - (a + 1) = k by omega, hk] at e1
    have := hB.f (a + 1 + k) (by omega) (by omega)
    simp only [q1, List.getD_eq_getElem?_getD, ← e1] at this
    simpa using this
  have e2 : mrg lt ([x] ++ []) ([] ++ (seg us (a + 1) b).drop (i - (a + 1))) = mrg lt [x] [] ++ mrg lt [] ((seg us (a + 1) b).drop (i - (a + 1))) := by
    refine mrg_split _ _ _ _ ?_ (by simp)
    intro w hw y hy
    rw [List.mem_singleton] at hw
    subst hw
    obtain ⟨k, hk⟩ := List.getElem?_of_mem hy
    obtain ⟨k1, k2⟩ := List.getElem?_eq_some_iff.1 hk
    simp only [List.length_drop] at k1
    rw [List.getElem?_drop] at hk
    have e1 := seg_at (us := us) (a := a + 1) (b := b) (i := i + k) (by omega) (by omega)
    rw [show i + k - (a + 1) = i - (a + 1) + k by omega, hk] at e1
    have := hB.t (i + k) (by omega) (by omega)
    simp only [q1, List.getD_eq_getElem?_getD, ← e1] at this
    simpa using this
  rw [List.take_append_drop, nil_mrg, List.nil_append] at e
  rw [List.append_nil, List.nil_append, mrg_nil, nil_mrg] at e2
  rw [mergeI, hs, e, e2, insA]
  simp
theorem sym_one_start {us : List α} {a b : Nat} {x : α} (hx : us[a]? = some x) (hb : a + 1 ≤ b) : insA (us.take a) (seg us (a + 1) b) x (us.drop b) 0 = us := by
  obtain ⟨q1, q2⟩ := List.getElem?_eq_some_iff.1 hx
  rw [insA, List.take_zero, List.nil_append, List.drop_zero, ← seg_drop hb]
  have : x :: us.drop (a + 1) = us.drop a := by rw [List.drop_eq_getElem_cons q1, q2]
  rw [this, List.take_append_drop]
theorem swp_adj2 (z : α) (X Y : List α) (w y : α) : swp z (X ++ y :: w :: Y) X.length (X.length + 1) = X ++ w :: y :: Y := by
  simp [swp, List.getD, List.set_append, List.getElem?_append_right]
theorem insA_swp2 (z : α) (P s : List α) (y : α) (R : List α) {k : Nat} (h : k + 1 ≤ s.length) : swp z (insA P s y R k) (P.length + k) (P.length + k + 1) = insA P s y R (k + 1) := by
  have e1 : s.take (k + 1) = s.take k ++ [s[k]] := (List.take_append_getElem (by omega)).symm
  have e2 : s.drop k = s[k] :: s.drop (k + 1) := List.drop_eq_getElem_cons (by omega)
  have hl : (P ++ s.take k).length = P.length + k := by simp; omega
  have := swp_adj2 z (P ++ s.take k) (s.drop (k + 1) ++ R) s[k] y
  rw [hl] at this
  rw [insA, insA, e1, e2]
  simp only [List.append_assoc, List.singleton_append, List.cons_append, List.nil_append] at this ⊢
  exact this
theorem insA_succ (P s : List α) (y : α) (R : List α) {k : Nat} (h : k + 1 ≤ s.length) : (insA P s y R k)[P.length + k + 1]? = s[k]? := by
  have hl : (s.take k).length = k := by simp; omega
  rw [insA, List.getElem?_append_right (by omega), show P.length + k + 1 - P.length = k + 1 by omega, List.getElem?_append_right (by omega), hl, show k + 1 - k = 0 + 1 by omega, List.getElem?_cons_succ, List.getElem?_append_left (by simp; omega), List.getElem?_drop]
  congr 1
/-- One behind a part: the place behind the last one that is no greater. -/
def q2 (lt : α → α → Bool) (us : List α) (y z : α) (h : Nat) : Bool := lt y (us.getD h z)
theorem q2_mono (ho : Ord lt) {us : List α} {a m : Nat} (hl : Line lt (seg us a m)) (hb : m ≤ us.length) (y z : α) : Mono (q2 lt us y z) a m := by
  intro h h' k1 k2 k3 hq
  simp only [q2] at hq ⊢
  cases hh : lt y (us.getD h' z) with
  | true => rfl
  | false => rw [ho.tr _ _ y (seg_le ho hl hb z k1 k2 k3) hh] at hq; exact absurd hq (by simp)
theorem sym_last (ho : Ord lt) {us : List α} {a m i : Nat} {y z : α} (hy : us[m]? = some y) (hl : Line lt (seg us a m)) (ham : a ≤ m) (hB : BS (q2 lt us y z) a m i i) :
    insA (us.take a) (seg us a m) y (us.drop (m + 1)) (i - a) = mergeI lt us a m (m + 1) := by
  have hml : m < us.length := (List.getElem?_eq_some_iff.1 hy).1
  have hs : seg us m (m + 1) = [y] := by rw [seg_snoc (Nat.le_refl m) hy, seg_self, List.nil_append]
  have hB1 := hB.a
  have hB2 := hB.c
  have hsl := seg_len (l := us) (a := a) (b := m) (by omega)
  rw [mergeI, hs, mrg_ins ho hl y (i - a) (by omega) ?_ ?_, insA]
  · simp
  · intro w hw
    obtain ⟨k, hk⟩ := List.getElem?_of_mem hw
    obtain ⟨k1, k2⟩ := List.getElem?_eq_some_iff.1 hk
    simp only [List.length_drop] at k1
    rw [List.getElem?_drop] at hk
    have e1 := seg_at (us := us) (a := a) (b := m) (i := i + k) (by omega) (by omega)
    rw [show i + k - a = i - a + k by omega, hk] at e1
    have := hB.t (i + k) (by omega) (by omega)
    simp only [q2, List.getD_eq_getElem?_getD, ← e1] at this
    simpa using this
  · intro w hk hw
    have e1 := seg_at (us := us) (a := a) (b := m) (i := i - 1) (by omega) (by omega)
    rw [show i - 1 - a = i - a - 1 by omega, hw] at e1
    have := hB.f (i - 1) (by omega) (by omega)
    simp only [q2, List.getD_eq_getElem?_getD, ← e1] at this
    simpa using this
theorem sym_last_start {us : List α} {a m : Nat} {y : α} (hy : us[m]? = some y) (ham : a ≤ m) : insA (us.take a) (seg us a m) y (us.drop (m + 1)) (m - a) = us := by
  obtain ⟨q1, q2⟩ := List.getElem?_eq_some_iff.1 hy
  have hsl := seg_len (l := us) (a := a) (b := m) (by omega)
  have : y :: us.drop (m + 1) = us.drop m := by rw [List.drop_eq_getElem_cons q1, q2]
  have t1 : (seg us a m).take (m - a) = seg us a m := List.take_of_length_le (by omega)
  have t2 : (seg us a m).drop (m - a) = [] := List.drop_eq_nil_of_le (by omega)
  rw [insA, t1, t2, List.nil_append, this, ← seg_drop ham, List.take_append_drop]
/-- Both parts have several. -/
def q3 (lt : α → α → Bool) (us : List α) (p : Nat) (z : α) (h : Nat) : Bool := lt (us.getD (p - h) z) (us.getD h z)
theorem q3_mono (ho : Ord lt) {us : List α} {a m b lo hi p : Nat} (hl1 : Line lt (seg us a m)) (hl2 : Line lt (seg us m b)) (hm : m ≤ us.length) (hb : b ≤ us.length) (z : α)
    (h1 : a ≤ lo) (h2 : hi ≤ m) (h3 : p < b + lo) (h4 : lo < hi → m + hi ≤ p + 1) : Mono (q3 lt us p z) lo hi := by
  intro h h' k1 k2 k3 hq
  simp only [q3] at hq ⊢
  have h4 := h4 (by omega)
  cases hh : lt (us.getD (p - h') z) (us.getD h' z) with
  | true => rfl
  | false =>
    have e1 := seg_le ho hl1 hm z (i := h) (j := h') (by omega) (by omega) (by omega)
    have e2 := seg_le ho hl2 hb z (i := p - h') (j := p - h) (by omega) (by omega) (by omega)
    rw [ho.tr _ _ _ (ho.tr _ _ _ e1 hh) e2] at hq
    exact absurd hq (by simp)
theorem sym_apart (ho : Ord lt) {us : List α} {a m b lo hi p s e : Nat} (hl1 : Line lt (seg us a m)) (hl2 : Line lt (seg us m b)) (hm : m ≤ us.length) (hb : b ≤ us.length) (z : α)
    (h1 : a ≤ lo) (h2 : hi ≤ m) (h3 : p < b + lo) (h4 : m + hi ≤ p + 1) (he : e + s = p + 1) (hlo : lo = a ∨ p + 1 = b + lo) (hhi : hi = m ∨ p + 1 = m + hi) (hB : BS (q3 lt us p z) lo hi s s) :
    (∀ x ∈ seg us a s, ∀ y ∈ seg us e b, lt y x = false) ∧ (∀ y ∈ seg us m e, ∀ x ∈ seg us s m, lt y x = true) := by
  have hB1 := hB.a
  have hB2 := hB.c
  refine ⟨fun x hx y hy => ?_, fun y hy x hx => ?_⟩
  · obtain ⟨i, i1, i2, rfl⟩ := mem_seg_at z (by omega) hx
    obtain ⟨j, j1, j2, rfl⟩ := mem_seg_at z hb hy
    have hq := hB.f (s - 1) (by omega) (by omega)
    simp only [q3] at hq
    have e1 := seg_le ho hl1 hm z (i := i) (j := s - 1) (by omega) (by omega) (by omega)
    have e2 := seg_le ho hl2 hb z (i := p - (s - 1)) (j := j) (by omega) (by omega) (by omega)
    exact ho.tr _ _ _ (ho.tr _ _ _ e1 hq) e2
  · obtain ⟨i, i1, i2, rfl⟩ := mem_seg_at z (by omega) hx
    obtain ⟨j, j1, j2, rfl⟩ := mem_seg_at z (by omega) hy
    have hq := hB.t s (by omega) (by omega)
    simp only [q3] at hq
    have e1 := seg_le ho hl1 hm z (i := s) (j := i) (by omega) (by omega) (by omega)
    have e2 := seg_le ho hl2 hb z (i := j) (j := p - s) (by omega) (by omega) (by omega)
    cases hh : lt (us.getD j z) (us.getD i z) with
    | true => rfl
    | false => rw [ho.tr _ _ _ (ho.tr _ _ _ e1 hh) e2] at hq; exact absurd hq (by simp)
theorem line_sub {us : List α} {a s m : Nat} (h : Line lt (seg us a m)) (h1 : a ≤ s) (h2 : s ≤ m) : Line lt (seg us a s) ∧ Line lt (seg us s m) := by
  unfold Line at h ⊢
  rw [seg_split h1 h2, List.pairwise_append] at h
  exact ⟨h.1, h.2.1⟩
/-- Blocks, each sorted. -/
def blks (lt : α → α → Bool) (B : Nat) : Nat → List α → List α
  | 0, _ => []
  | n + 1, us => isrt lt (us.take B) ++ blks lt B n (us.drop B)
theorem blks_nil (B : Nat) : ∀ n, blks lt B n [] = []
  | 0 => rfl
  | n + 1 => by rw [blks, List.take_nil, List.drop_nil, blks_nil B n]; rfl
theorem blks_enough {B : Nat} (hB : 0 < B) : ∀ (n m : Nat) (us : List α), us.length ≤ n → us.length ≤ m → blks lt B n us = blks lt B m us
  | 0, m, us, h, _ => by
    obtain rfl : us = [] := List.length_eq_zero_iff.1 (by omega)
    rw [blks_nil, blks_nil]
  | n + 1, 0, us, _, h => by
    obtain rfl : us = [] := List.length_eq_zero_iff.1 (by omega)
    rw [blks_nil, blks_nil]
  | n + 1, m + 1, us, h1, h2 => by
    rw [blks, blks, blks_enough hB n m (us.drop B) (by simp; omega) (by simp; omega)]
def blkA (lt : α → α → Bool) (B : Nat) (us : List α) : List α := blks lt B us.length us
theorem blkA_cons {B : Nat} (hB : 0 < B) (us : List α) : blkA lt B us = isrt lt (us.take B) ++ blkA lt B (us.drop B) := by
  rw [blkA, blks_enough hB us.length (us.length + 1) us (Nat.le_refl _) (by omega), blks, blkA, blks_enough hB us.length (us.drop B).length (us.drop B) (by simp) (Nat.le_refl _)]
theorem blkA_short {B : Nat} (hB : 0 < B) {us : List α} (h : us.length ≤ B) : blkA lt B us = isrt lt us := by
  rw [blkA_cons hB, List.take_of_length_le h, List.drop_eq_nil_of_le h, blkA, blks_nil, List.append_nil]
theorem blks_perm {B : Nat} (hB : 0 < B) : ∀ (n : Nat) (us : List α), us.length ≤ n → (blks lt B n us).Perm us
  | 0, us, h => by
    obtain rfl : us = [] := List.length_eq_zero_iff.1 (by omega)
    exact .refl _
  | n + 1, us, h => by
    rw [blks]
    have e := ((isrt_perm (lt := lt) (us.take B)).append (blks_perm hB n (us.drop B) (by simp; omega)))
    rwa [List.take_append_drop] at e
theorem blkA_perm {B : Nat} (hB : 0 < B) (us : List α) : (blkA lt B us).Perm us := blks_perm hB _ us (Nat.le_refl _)
theorem blkA_two (ho : Ord lt) {B : Nat} (us : List α) : isrt lt (us.take (2 * B)) = mrg lt (isrt lt (us.take B)) (isrt lt ((us.drop B).take B)) := by
  rw [show 2 * B = B + B by omega, List.take_add, isrt_append ho]
/-- One block more is sorted. -/
theorem ins_blk (ho : Ord lt) {us L cur : List α} {a B : Nat} (hB : 0 < B) (hl : L.length = a) (hc : cur = L ++ us.drop a) (hr : L ++ blkA lt B (us.drop a) = blkA lt B us) (b : Nat) (hb : b = a + B) (hbu : b ≤ us.length) :
    ∃ L', L'.length = b ∧ cur.take a ++ (isrt lt (seg cur a b) ++ cur.drop b) = L' ++ us.drop b ∧ L' ++ blkA lt B (us.drop b) = blkA lt B us := by
  have e1 : cur.take a = L := by rw [hc, List.take_append_of_le_length (by omega), List.take_of_length_le (by omega)]
  have e2 : cur.drop a = us.drop a := by rw [hc, List.drop_append_of_le_length (by omega), List.drop_eq_nil_of_le (by omega), List.nil_append]
  have e3 : cur.drop b = us.drop b := by rw [hb, ← List.drop_drop, e2, List.drop_drop]
  have e4 : seg cur a b = (us.drop a).take B := by rw [seg, e2, hb]; congr 1; omega
  refine ⟨L ++ isrt lt ((us.drop a).take B), ?_, ?_, ?_⟩
  · simp [isrt_length]; omega
  · rw [e1, e3, e4, List.append_assoc]
  · rw [← hr, blkA_cons hB (us.drop a), List.drop_drop, ← hb, List.append_assoc]
theorem ins_last (ho : Ord lt) {us L cur : List α} {a B : Nat} (hB : 0 < B) (hl : L.length = a) (hau : a ≤ us.length) (hc : cur = L ++ us.drop a) (hr : L ++ blkA lt B (us.drop a) = blkA lt B us) (hb : us.length ≤ a + B) :
    cur.take a ++ (isrt lt (seg cur a us.length) ++ cur.drop us.length) = blkA lt B us := by
  have hcl : cur.length = us.length := by rw [hc]; simp; omega
  have e1 : cur.take a = L := by rw [hc, List.take_append_of_le_length (by omega), List.take_of_length_le (by omega)]
  have e2 : cur.drop a = us.drop a := by rw [hc, List.drop_append_of_le_length (by omega), List.drop_eq_nil_of_le (by omega), List.nil_append]
  have e3 : cur.drop us.length = [] := List.drop_eq_nil_of_le (by omega)
  have e4 : seg cur a us.length = us.drop a := by rw [seg, e2, List.take_of_length_le (by simp)]
  rw [e1, e3, e4, ← hr, blkA_short hB (by simp; omega), List.append_nil]
/-- Two blocks are merged. -/
theorem mrg_blk (ho : Ord lt) {us L cur : List α} {a B : Nat} (hB : 0 < B) (hl : L.length = a) (hau : a ≤ us.length) (hc : cur = L ++ blkA lt B (us.drop a)) (hr : L ++ blkA lt (2 * B) (us.drop a) = blkA lt (2 * B) us) (m b : Nat) (hm : m = a + B) (hb : b = a + 2 * B) (hbu : b ≤ us.length) :
    (∃ L', L'.length = b ∧ mergeI lt cur a m b = L' ++ blkA lt B (us.drop b) ∧ L' ++ blkA lt (2 * B) (us.drop b) = blkA lt (2 * B) us) ∧ Line lt (seg cur a m) ∧ Line lt (seg cur m b) := by
  have e1 : cur = L ++ (isrt lt ((us.drop a).take B) ++ (isrt lt (((us.drop a).drop B).take B) ++ blkA lt B (us.drop b))) := by
    rw [hc, blkA_cons hB, blkA_cons hB ((us.drop a).drop B), List.drop_drop, List.drop_drop, show a + B + B = b by omega]
  have n1 : (isrt lt ((us.drop a).take B)).length = B := by rw [isrt_length]; simp; omega
  have n2 : (isrt lt (((us.drop a).drop B).take B)).length = B := by rw [isrt_length]; simp; omega
  refine ⟨⟨L ++ isrt lt ((us.drop a).take (2 * B)), ?_, ?_, ?_⟩, ?_, ?_⟩
  · simp [isrt_length]; omega
  · rw [mergeI_of e1 hl (by omega) (by omega), blkA_two ho, List.append_assoc]
  · rw [← hr, blkA_cons (B := 2 * B) (by omega) (us.drop a), List.drop_drop, ← hb, List.append_assoc]
  · rw [seg_of e1 hl (by omega)]; exact isrt_line ho _
  · rw [seg_of (P := L ++ isrt lt ((us.drop a).take B)) (A := isrt lt (((us.drop a).drop B).take B)) (R := blkA lt B (us.drop b)) (by rw [e1]; simp) (by simp; omega) (by omega)]; exact isrt_line ho _
theorem mrg_last (ho : Ord lt) {us L cur : List α} {a B : Nat} (hB : 0 < B) (hl : L.length = a) (hau : a ≤ us.length) (hc : cur = L ++ blkA lt B (us.drop a)) (hr : L ++ blkA lt (2 * B) (us.drop a) = blkA lt (2 * B) us) (m : Nat) (hm : m = a + B) (hmu : m < us.length) (hbu : us.length ≤ a + 2 * B) :
    mergeI lt cur a m us.length = blkA lt (2 * B) us ∧ Line lt (seg cur a m) ∧ Line lt (seg cur m us.length) := by
  have e1 : cur = L ++ (isrt lt ((us.drop a).take B) ++ (isrt lt ((us.drop a).drop B) ++ [])) := by
    rw [hc, blkA_cons hB, blkA_short hB (us := (us.drop a).drop B) (by simp; omega), List.append_nil]
  have n1 : (isrt lt ((us.drop a).take B)).length = B := by rw [isrt_length]; simp; omega
  have n2 : (isrt lt ((us.drop a).drop B)).length = us.length - m := by rw [isrt_length]; simp; omega
  refine ⟨?_, ?_, ?_⟩
  · rw [mergeI_of e1 hl (by omega) (by omega), ← hr, blkA_short (B := 2 * B) (by omega) (us := us.drop a) (by simp; omega), ← isrt_append ho, List.take_append_drop, List.append_nil]
  · rw [seg_of e1 hl (by omega)]; exact isrt_line ho _
  · rw [seg_of (P := L ++ isrt lt ((us.drop a).take B)) (A := isrt lt ((us.drop a).drop B)) (R := []) (by rw [e1]; simp) (by simp; omega) (by omega)]; exact isrt_line ho _
theorem mrg_none (ho : Ord lt) {us L cur : List α} {a B : Nat} (hB : 0 < B) (hau : a ≤ us.length) (hc : cur = L ++ blkA lt B (us.drop a)) (hr : L ++ blkA lt (2 * B) (us.drop a) = blkA lt (2 * B) us) (hmu : us.length ≤ a + B) : cur = blkA lt (2 * B) us := by
  rw [hc, ← hr, blkA_short hB (by simp; omega), blkA_short (B := 2 * B) (by omega) (by simp; omega)]
end
end Go.Proofs
end
section
set_option linter.unusedVariables false
set_option linter.unusedSimpArgs false
namespace Go.Proofs
open Go.Flat
set_option maxRecDepth 100000
set_option linter.unusedSimpArgs false
set_option linter.unusedVariables false
attribute [local simp] Bool.and_assoc Bool.or_assoc evalG evalX efD skF guardG guardL isCall stepL evalOp ev evs lk tmpsL app AV.ok fresh vv putCells insV ins del putL place Go.Flat.look fillC fillR getCells loadF storeF binF scalarBin intBin strBin isShift shiftBin unF lenF maxF minF rowsF appendF builtinF idxF natOf sliceP sliceF optEv Flat.cut overwrite toPV toPVs constAV scalarC scalarCs AV.cells TI.isAgg allSome andAll scalarEq buildable Go.Flat.lim retQ resL resAll resOne PartOf noTmp closedIn refs refs.refsL isSomeV hasB ids leA leA.leL renA renA.renL callB refsAll backL dropIds renS LiesAt injB ownB freshB memN locId insAll leA_refl leL_refl okS frzS frzA frzA.frzL evalD feet fine updCells cellsFrom memP footRf footWf noTmpU updIds opOps opIds idsA footR footW guardTs opTs dstTs callR callW renLoc renC inBlockQ thenQ Value.oneCell' IntKind.bits IntKind.signed

theorem spec101 (xs : List Val) (hlen : xs.length ≤ Flat.lim) : Flat.Sp Try.prog 101 [.p (.ps (xs.map Val.row)), .fn (.func 102) []] [] (vv (.bool (decide (0 ≤ firstBad xs 0)))) [] := by
  refine sk Try.func101 ?_
  intro F G hn hG
  refine sq ?_
  refine rg 1000 ?_
  refine pr [0, 2, 4, 9] ?_
  refine sq ?_
  refine rc 2000 ?_
  refine oc id (spec157 xs hlen) ?_
  refine oe 2100 ?_
  refine on ?_
  refine pr [4, 5] ?_
  refine k_ret ?_
  show retQ _ _ _ _ _ _ _
  simp [*]

theorem spec192 (x : Int) : Flat.Sp Try.prog 192 [vv (.int .i64 x)] [] (vv (.bool false)) [] := by
  refine sk Try.func192 ?_
  intro F G hn hG
  refine sq ?_
  refine rg 1000 ?_
  refine pr [0, 1, 2, 6] ?_
  refine sq ?_
  refine rg 2000 ?_
  refine pr [2, 3] ?_
  refine k_ret ?_
  show retQ _ _ _ _ _ _ _
  simp [*]

theorem spec193 (x : ByteArray) : Flat.Sp Try.prog 193 [vv (.string x)] [] (vv (.bool false)) [] := by
  refine sk Try.func193 ?_
  intro F G hn hG
  refine sq ?_
  refine rg 1000 ?_
  refine pr [0, 1, 2, 6] ?_
  refine sq ?_
  refine rg 2000 ?_
  refine pr [2, 3] ?_
  refine k_ret ?_
  show retQ _ _ _ _ _ _ _
  simp [*]

theorem spec194 (x : Int) : Flat.Sp Try.prog 194 [vv (.int .i64 x)] [] (vv (.bool false)) [] := by
  refine sk Try.func194 ?_
  intro F G hn hG
  refine sq ?_
  refine rg 1000 ?_
  refine pr [0, 1, 2, 6] ?_
  refine sq ?_
  refine rg 2000 ?_
  refine pr [2, 3] ?_
  refine k_ret ?_
  show retQ _ _ _ _ _ _ _
  simp [*]

def cmpI (x y : Int) : Int := if x < y then -1 else if x > y then 1 else 0
def cmpS (x y : ByteArray) : Int := if Op.bytesLess x.toList y.toList then -1 else if !(Op.bytesLess x.toList y.toList || x.toList == y.toList) then 1 else 0

attribute [local simp] cmpI in
theorem spec158 (x y : Int) : Flat.Sp Try.prog 158 [vv (.int .i64 x), vv (.int .i64 y)] [] (vv (.int .i64 (cmpI x y))) [] := by
  refine sk Try.func158 ?_
  intro F G hn hG
  refine sq ?_
  refine rg 1000 ?_
  refine pr [0, 2, 4, 20] ?_
  refine sq ?_
  refine rc 2000 ?_
  refine oc id (spec192 x) ?_
  refine oe 2100 ?_
  refine on ?_
  refine pr [0, 2, 4, 7, 9, 20] ?_
  refine sq ?_
  refine rc 3000 ?_
  refine oc id (spec192 y) ?_
  refine oe 3100 ?_
  refine on ?_
  refine pr [0, 2, 4, 7, 11, 20] ?_
  refine sq ?_
  refine sq ?_
  refine rg 4000 ?_
  refine pr [0, 2, 4, 5, 6, 7, 11, 20] ?_
  refine ce ?_
  refine k_skip ?_
  refine sq ?_
  refine sq ?_
  refine rg 8000 ?_
  refine pr [0, 2, 4, 5, 13, 20] ?_
  refine ce ?_
  refine k_skip ?_
  refine sq ?_
  refine sq ?_
  refine rg 10000 ?_
  refine pr [0, 2, 4, 5, 16, 20] ?_
  refine cd ?_ ?_
  · intro h16_1
    have h16_1 : x < y := by simpa using h16_1
    refine sq ?_
    refine rg 11000 ?_
    refine pr [0, 2, 4, 5, 17, 20] ?_
    refine k_ret ?_
    show retQ _ _ _ _ _ _ _
    simp [*]
  · intro h16_1
    have h16_1 : ¬ x < y := by simpa using h16_1
    refine k_skip ?_
    refine sq ?_
    refine sq ?_
    refine rg 12000 ?_
    refine pr [4, 5, 19, 20] ?_
    refine cd ?_ ?_
    · intro h19_2
      have h19_2 : y < x := by simpa using h19_2
      refine sq ?_
      refine rg 13000 ?_
      refine pr [4, 5] ?_
      refine k_ret ?_
      show retQ _ _ _ _ _ _ _
      simp [*]
    · intro h19_2
      have h19_2 : ¬ y < x := by simpa using h19_2
      refine k_skip ?_
      refine sq ?_
      refine rg 14000 ?_
      refine pr [4, 5] ?_
      refine k_ret ?_
      show retQ _ _ _ _ _ _ _
      simp [*]

attribute [local simp] cmpI in
theorem spec161 (x y : Int) : Flat.Sp Try.prog 161 [vv (.int .i64 x), vv (.int .i64 y)] [] (vv (.int .i64 (cmpI x y))) [] := by
  refine sk Try.func161 ?_
  intro F G hn hG
  refine sq ?_
  refine rg 1000 ?_
  refine pr [0, 2, 4, 20] ?_
  refine sq ?_
  refine rc 2000 ?_
  refine oc id (spec194 x) ?_
  refine oe 2100 ?_
  refine on ?_
  refine pr [0, 2, 4, 7, 9, 20] ?_
  refine sq ?_
  refine rc 3000 ?_
  refine oc id (spec194 y) ?_
  refine oe 3100 ?_
  refine on ?_
  refine pr [0, 2, 4, 7, 11, 20] ?_
  refine sq ?_
  refine sq ?_
  refine rg 4000 ?_
  refine pr [0, 2, 4, 5, 6, 7, 11, 20] ?_
  refine ce ?_
  refine k_skip ?_
  refine sq ?_
  refine sq ?_
  refine rg 8000 ?_
  refine pr [0, 2, 4, 5, 13, 20] ?_
  refine ce ?_
  refine k_skip ?_
  refine sq ?_
  refine sq ?_
  refine rg 10000 ?_
  refine pr [0, 2, 4, 5, 16, 20] ?_
  refine cd ?_ ?_
  · intro h16_1
    have h16_1 : x < y := by simpa using h16_1
    refine sq ?_
    refine rg 11000 ?_
    refine pr [0, 2, 4, 5, 17, 20] ?_
    refine k_ret ?_
    show retQ _ _ _ _ _ _ _
    simp [*]
  · intro h16_1
    have h16_1 : ¬ x < y := by simpa using h16_1
    refine k_skip ?_
    refine sq ?_
    refine sq ?_
    refine rg 12000 ?_
    refine pr [4, 5, 19, 20] ?_
    refine cd ?_ ?_
    · intro h19_2
      have h19_2 : y < x := by simpa using h19_2
      refine sq ?_
      refine rg 13000 ?_
      refine pr [4, 5] ?_
      refine k_ret ?_
      show retQ _ _ _ _ _ _ _
      simp [*]
    · intro h19_2
      have h19_2 : ¬ y < x := by simpa using h19_2
      refine k_skip ?_
      refine sq ?_
      refine rg 14000 ?_
      refine pr [4, 5] ?_
      refine k_ret ?_
      show retQ _ _ _ _ _ _ _
      simp [*]

attribute [local simp] cmpS in
theorem spec160 (x y : ByteArray) : Flat.Sp Try.prog 160 [vv (.string x), vv (.string y)] [] (vv (.int .i64 (cmpS x y))) [] := by
  refine sk Try.func160 ?_
  intro F G hn hG
  refine sq ?_
  refine rg 1000 ?_
  refine pr [0, 2, 4, 20] ?_
  refine sq ?_
  refine rc 2000 ?_
  refine oc id (spec193 x) ?_
  refine oe 2100 ?_
  refine on ?_
  refine pr [0, 2, 4, 7, 9, 20] ?_
  refine sq ?_
  refine rc 3000 ?_
  refine oc id (spec193 y) ?_
  refine oe 3100 ?_
  refine on ?_
  refine pr [0, 2, 4, 7, 11, 20] ?_
  refine sq ?_
  refine sq ?_
  refine rg 4000 ?_
  refine pr [0, 2, 4, 5, 6, 7, 11, 20] ?_
  refine ce ?_
  refine k_skip ?_
  refine sq ?_
  refine sq ?_
  refine rg 8000 ?_
  refine pr [0, 2, 4, 5, 13, 20] ?_
  refine ce ?_
  refine k_skip ?_
  refine sq ?_
  refine sq ?_
  refine rg 10000 ?_
  refine pr [0, 2, 4, 5, 16, 20] ?_
  refine cd ?_ ?_
  · intro h16_1
    refine sq ?_
    refine rg 11000 ?_
    refine pr [0, 2, 4, 5, 17, 20] ?_
    refine k_ret ?_
    show retQ _ _ _ _ _ _ _
    simp [*]
  · intro h16_1
    refine k_skip ?_
    refine sq ?_
    refine sq ?_
    refine rg 12000 ?_
    refine pr [4, 5, 19, 20] ?_
    refine cd ?_ ?_
    · intro h19_2
      refine sq ?_
      refine rg 13000 ?_
      refine pr [4, 5] ?_
      refine k_ret ?_
      show retQ _ _ _ _ _ _ _
      simp [*]
    · intro h19_2
      refine k_skip ?_
      refine sq ?_
      refine rg 14000 ?_
      refine pr [4, 5] ?_
      refine k_ret ?_
      show retQ _ _ _ _ _ _ _
      simp [*]

attribute [local simp] Val.av in
theorem spec159 (v : Val) : Flat.Sp Try.prog 159 [v.av] [] (vv (.int .i64 (if v.t then 1 else 0))) [] := by
  refine sk Try.func159 ?_
  intro F G hn hG
  refine sq ?_
  refine rg 1000 ?_
  refine pr [1, 5] ?_
  refine sq ?_
  refine sq ?_
  refine rg 2000 ?_
  refine pr [2, 3, 4, 5] ?_
  refine cd ?_ ?_
  · intro h4_1
    refine sq ?_
    refine rg 3000 ?_
    refine pr [2, 3] ?_
    refine k_ret ?_
    show retQ _ _ _ _ _ _ _
    simp [*]
  · intro h4_1
    refine k_skip ?_
    refine sq ?_
    refine rg 4000 ?_
    refine pr [2, 3] ?_
    refine k_ret ?_
    show retQ _ _ _ _ _ _ _
    simp [*]

def Val.cmp (a b : Val) : Int := if a.t != b.t then cmpI (if a.t then 1 else 0) (if b.t then 1 else 0) else if a.t then cmpS a.s b.s else cmpI a.n b.n

attribute [local simp] Val.av Val.cmp in
theorem spec105 (a b : Val) : Flat.Sp Try.prog 105 [a.av, b.av] [] (vv (.int .i64 (a.cmp b))) [] := by
  refine sk Try.func105 ?_
  intro F G hn hG
  refine sq ?_
  refine rg 1000 ?_
  refine pr [2, 29] ?_
  refine sq ?_
  refine k_block ?_
  refine sq ?_
  refine rg 2000 ?_
  refine pr [2, 6, 11, 29] ?_
  refine cd ?_ ?_
  · intro h5_1
    have h5_1 : ¬ a.t = b.t := by simpa using h5_1
    refine sq ?_
    refine dr ?_
    refine de 3000 ?_
    refine dc id (spec159 a) ?_
    refine de 3100 ?_
    refine dc id (spec159 b) ?_
    refine dc id (spec158 (if a.t then 1 else 0) (if b.t then 1 else 0)) ?_
    refine de 3300 ?_
    refine dn ?_
    refine pr [2, 5, 24, 29] ?_
    refine k_ret ?_
    show retQ _ _ _ _ _ _ _
    simp [*]
  · intro h5_1
    have h5_1 : a.t = b.t := by simpa using h5_1
    refine sq ?_
    refine rg 4000 ?_
    refine pr [2, 5, 16, 17, 19, 29] ?_
    refine cd ?_ ?_
    · intro h16_2
      refine sq ?_
      refine rc 5000 ?_
      refine oc id (spec160 a.s b.s) ?_
      refine oe 5100 ?_
      refine on ?_
      refine pr [2, 5, 24, 29] ?_
      refine k_ret ?_
      show retQ _ _ _ _ _ _ _
      simp [*]
    · intro h16_2
      refine k_skip ?_
      refine k_nil ?_
      show AK _ _ _ _ _ _
      refine sq ?_
      refine rc 6000 ?_
      refine oc id (spec161 a.n b.n) ?_
      refine oe 6100 ?_
      refine on ?_
      refine pr [4, 5] ?_
      refine k_ret ?_
      show retQ _ _ _ _ _ _ _
      simp [*]

/-- A number as a value. -/
def Val.num (n : Int) : Val := ⟨false, n, ⟨#[]⟩⟩

attribute [local simp] Val.av Val.num in
theorem spec106 (b : Bool) : Flat.Sp Try.prog 106 [vv (.bool b)] [] ((Val.num (if b then 1 else 0)).av) [] := by
  refine sk Try.func106 ?_
  intro F G hn hG
  refine sq ?_
  refine rg 1000 ?_
  refine pr [0, 1, 2, 6] ?_
  refine sq ?_
  refine sq ?_
  refine rg 2000 ?_
  refine pr [2, 6] ?_
  refine cd ?_ ?_
  · intro h3_1
    refine sq ?_
    refine rg 3000 ?_
    refine pr [2, 3, 5, 6] ?_
    refine k_ret ?_
    show retQ _ _ _ _ _ _ _
    simp [*]
  · intro h3_1
    refine k_skip ?_
    refine sq ?_
    refine rg 4000 ?_
    refine pr [2, 3] ?_
    refine k_ret ?_
    show retQ _ _ _ _ _ _ _
    simp [*]

end Go.Proofs
end
section
set_option linter.unusedVariables false
set_option linter.unusedSimpArgs false
namespace Go.Proofs
open Go.Flat
set_option maxRecDepth 100000
set_option linter.unusedSimpArgs false
set_option linter.unusedVariables false
attribute [local simp] Bool.and_assoc Bool.or_assoc evalG evalX efD skF guardG guardL isCall stepL evalOp ev evs lk tmpsL app AV.ok fresh vv putCells insV ins del putL place Go.Flat.look fillC fillR getCells loadF storeF binF scalarBin intBin strBin isShift shiftBin unF lenF maxF minF rowsF appendF builtinF idxF natOf sliceP sliceF optEv Flat.cut overwrite toPV toPVs constAV scalarC scalarCs AV.cells TI.isAgg allSome andAll scalarEq buildable Go.Flat.lim retQ resL resAll resOne PartOf noTmp closedIn refs refs.refsL isSomeV hasB ids leA leA.leL renA renA.renL callB refsAll backL dropIds renS LiesAt injB ownB freshB memN locId insAll leA_refl leL_refl okS frzS frzA frzA.frzL evalD feet fine updCells cellsFrom memP footRf footWf noTmpU updIds opOps opIds idsA footR footW guardTs opTs dstTs callR callW renLoc renC inBlockQ thenQ Value.oneCell' IntKind.bits IntKind.signed

/-- Why a row is none. -/
def badRow (xs : List Val) : Bool := decide ((8 : Int) < xs.length) || decide (0 ≤ firstBad xs 0)
def checkRow (xs : List Val) : Int := if badRow xs then 4 else 0

attribute [local simp] checkRow badRow in
theorem spec54 (xs : List Val) (hlen : xs.length ≤ Flat.lim) : Flat.Sp Try.prog 54 [.p (.ps (xs.map Val.row))] [] (vv (.int .i64 (checkRow xs))) [] := by
  refine sk Try.func54 ?_
  intro F G hn hG
  refine sq ?_
  refine rg 1000 ?_
  refine pr [0, 1, 2, 10] ?_
  refine sq ?_
  refine sq ?_
  refine rc 2000 ?_
  first | refine gp 2050 ?_ | refine os ?_ | refine gt 2050 ?_
  refine og (fun hg => spec101 xs hlen) ?_
  refine oe 2200 ?_
  refine on ?_
  refine pr [2, 3, 9, 10] ?_
  refine cd ?_ ?_
  · intro h9_1
    refine sq ?_
    refine rg 3000 ?_
    refine pr [2, 3] ?_
    refine k_ret ?_
    show retQ _ _ _ _ _ _ _
    simp [*]
  · intro h9_1
    refine k_skip ?_
    refine sq ?_
    refine rg 4000 ?_
    refine pr [2, 3] ?_
    refine k_ret ?_
    show retQ _ _ _ _ _ _ _
    simp [*]

theorem ext187 (x y c : Int) (hx : 0 ≤ x) (hy : 0 ≤ y) (h0 : 0 ≤ c) (h1 : c ≤ 1) (w : World) : (callFunc 187 [Value.int .u64 x, .int .u64 y, .int .u64 c].toArray).run Try.prog w = .ok (.value (.tuple [Value.int .u64 ((x + y + c) % 18446744073709551616), .int .u64 ((x + y + c) / 18446744073709551616)].toArray)) w := by
  rw [run_callFunc_extern Try.func187 rfl rfl rfl (e := add64Entry) rfl]
  show (((add64Entry #[.int .u64 x, .int .u64 y, .int .u64 c]).run Try.prog w).andThen _) = _
  rw [run_add64 x y c hx hy h0 h1]
  rfl
/-- A number added to two words. -/
def tadd (p : Int × Int) (n : Int) : Int × Int :=
  ((p.1 + IntKind.u64.wrap (n.fdiv 9223372036854775808) + (p.2 + IntKind.u64.wrap n) / 18446744073709551616) % 18446744073709551616, (p.2 + IntKind.u64.wrap n) % 18446744073709551616)
def tin (p : Int × Int) : Prop := 0 ≤ p.1 ∧ p.1 < 18446744073709551616 ∧ 0 ≤ p.2 ∧ p.2 < 18446744073709551616
theorem wrapU_in (n : Int) : 0 ≤ IntKind.u64.wrap n ∧ IntKind.u64.wrap n < 18446744073709551616 := by
  have : IntKind.u64.wrap n = n % 18446744073709551616 := rfl
  omega
theorem tadd_in {p : Int × Int} (h : tin p) (n : Int) : tin (tadd p n) := by
  unfold tin tadd; simp only; omega

attribute [local simp] tadd in
theorem spec143 (p : Int × Int) (hp : tin p) (n : Int) : Flat.Sp Try.prog 143 [.ptr 0 0, vv (.int .i64 n)] [(.var 0, .n 2), (.cell 0 0, .av (vv (.int .u64 p.1))), (.cell 0 1, .av (vv (.int .u64 p.2)))] (.tup []) [(.var 0, .n 2), (.cell 0 0, .av (vv (.int .u64 (tadd p n).1))), (.cell 0 1, .av (vv (.int .u64 (tadd p n).2)))] := by
  refine sk Try.func143 ?_
  intro F G hn hG
  have hU := wrapU_in n
  have hU2 := wrapU_in (n.fdiv 9223372036854775808)
  obtain ⟨q1, q2, q3, q4⟩ := hp
  refine sq ?_
  refine rg 1000 ?_
  refine pr [0, 2, 4, 30, 31, 33] ?_
  refine sq ?_
  refine rc 2000 ?_
  refine o_ext hn (vs := [.int .u64 p.2, .int .u64 (IntKind.u64.wrap n), .int .u64 0]) (rs := [.int .u64 ((p.2 + IntKind.u64.wrap n + 0) % 18446744073709551616), .int .u64 ((p.2 + IntKind.u64.wrap n + 0) / 18446744073709551616)]) rfl (by simp [*]) (by simp [*]; exact is_rfl _) (by simp [*]; exact is_rfl _) (fun w => ext187 _ _ _ q3 hU.1 (by omega) (by omega) w) (by simp [*]) (by simp [*]; exact is_rfl _) ?_
  refine oe 2100 ?_
  refine on ?_
  refine pr [0, 2, 4, 5, 18, 30, 31, 33] ?_
  refine rc 3000 ?_
  refine o_ext hn (vs := [.int .u64 p.1, .int .u64 (IntKind.u64.wrap (n.fdiv 9223372036854775808)), .int .u64 ((p.2 + IntKind.u64.wrap n) / 18446744073709551616)]) (rs := [.int .u64 ((p.1 + IntKind.u64.wrap (n.fdiv 9223372036854775808) + (p.2 + IntKind.u64.wrap n) / 18446744073709551616) % 18446744073709551616), .int .u64 ((p.1 + IntKind.u64.wrap (n.fdiv 9223372036854775808) + (p.2 + IntKind.u64.wrap n) / 18446744073709551616) / 18446744073709551616)]) rfl (by simp [*]) (by simp [*]; exact is_rfl _) (by simp [*]; exact is_rfl _) (fun w => ext187 _ _ _ q1 hU2.1 (by omega) (by omega) w) (by simp [*]) (by simp [*]; exact is_rfl _) ?_
  refine oe 3100 ?_
  refine on ?_
  refine k_nil ?_
  show retQ _ _ _ _ _ _ _
  simp [*]

/-- What two words are, if they fit one. -/
def tfits (p : Int × Int) : Bool := p.1 == IntKind.u64.wrap ((IntKind.i64.wrap p.2).fdiv 9223372036854775808)
def tfit (p : Int × Int) : Int × Int := if tfits p then (IntKind.i64.wrap p.2, 0) else (0, 10)

attribute [local simp] tfit in
theorem spec144 (p : Int × Int) : Flat.Sp Try.prog 144 [.ptr 0 0] [(.var 0, .n 2), (.cell 0 0, .av (vv (.int .u64 p.1))), (.cell 0 1, .av (vv (.int .u64 p.2)))] (.tup [vv (.int .i64 (tfit p).1), vv (.int .i64 (tfit p).2)]) [(.var 0, .n 2), (.cell 0 0, .av (vv (.int .u64 p.1))), (.cell 0 1, .av (vv (.int .u64 p.2)))] := by
  refine sk Try.func144 ?_
  intro F G hn hG
  refine sq ?_
  refine rg 1000 ?_
  refine pr [0, 1, 2, 21] ?_
  refine sq ?_
  refine sq ?_
  refine dr ?_
  refine de 2000 ?_
  refine dn ?_
  refine pr [0, 1, 2, 4, 15, 21] ?_
  refine cd ?_ ?_
  · intro h15_1
    have h15_1 : tfits p = false := by simpa [tfits, IntKind.bits] using h15_1
    refine sq ?_
    refine rg 3000 ?_
    refine pr [0, 1, 2, 4, 16, 21] ?_
    refine k_ret ?_
    show retQ _ _ _ _ _ _ _
    simp [*]
  · intro h15_1
    have h15_1 : tfits p = true := by simpa [tfits, IntKind.bits] using h15_1
    refine k_skip ?_
    refine sq ?_
    refine rg 4000 ?_
    refine pr [2, 4] ?_
    refine k_ret ?_
    show retQ _ _ _ _ _ _ _
    simp [*]

def irow (n : Int) : List PV := [.v (.int .i64 n)]
def tsum (xs : List Int) : Int × Int := xs.foldl tadd (0, 0)
theorem tfold_in (xs : List Int) : ∀ p, tin p → tin (xs.foldl tadd p) := by
  induction xs with
  | nil => intro p h; exact h
  | cons n r ih => intro p h; exact ih _ (tadd_in h n)
theorem tsum_in (xs : List Int) : tin (tsum xs) := tfold_in xs _ (by simp [tin])
theorem tsum_take {xs : List Int} {i : Nat} {x : Int} (h : xs[i]? = some x) : tsum (xs.take (i + 1)) = tadd (tsum (xs.take i)) x := by
  rw [List.take_add_one, h]
  simp [tsum]

theorem spec165 (xs : List Int) (hlen : xs.length ≤ Flat.lim) : Flat.Sp Try.prog 165 [.p (.ps (xs.map irow))] [] (.tup [vv (.int .i64 (tfit (tsum xs)).1), vv (.int .i64 (tfit (tsum xs)).2)]) [] := by
  refine sk Try.func165 ?_
  intro F G hn hG
  refine sq ?_
  refine rg 1000 ?_
  refine pr [0, 1, 2, 5, 6, 14, 15, 19] ?_
  refine sq ?_
  refine rg 2000 ?_
  refine pr [0, 1, 2, 5, 6, 14, 15, 19] ?_
  refine sq ?_
  refine sq ?_
  refine rg 3000 ?_
  refine pr [2, 5, 6, 14, 15, 19] ?_
  refine k_block ?_
  refine k_loop (fun n l => ∃ i, i + n = xs.length ∧ (True) ∧ l = [(.tmp 4, .av (.ptr 2000 0)), (.tmp 7, .av (.p (.ps (xs.map irow)))), (.tmp 8, .av (vv (.int .i64 xs.length))), (.tmp 9, .av (vv (.int .i64 i))), (.var 2000, .n 2), (.cell 2000 0, .av (vv (.int .u64 (tsum (xs.take i)).1))), (.cell 2000 1, .av (vv (.int .u64 (tsum (xs.take i)).2)))]) (xs.length) hG ⟨_, ⟨by simp [tsum], by simp, by simp⟩, 0, by simp, trivial, rfl⟩ ?_
  rintro n _ ⟨i, hin, hfa, rfl⟩
  refine sq ?_
  refine rg 4000 ?_
  refine pr [2, 5, 6, 14, 15, 19] ?_
  refine sq ?_
  refine cd ?_ ?_
  · intro h10_1
    have hlt : i < xs.length := by simpa using h10_1
    obtain ⟨x, hxe⟩ : ∃ x, xs[i] = x := ⟨_, rfl⟩
    have hx : xs[i]? = some x := by simp [hlt, hxe]
    refine k_skip ?_
    refine sq ?_
    refine k_block ?_
    refine sq ?_
    refine rg 5000 ?_ (h := by simp [*, irow]; exact is_rfl _)
    refine pr [2, 5, 6, 14, 15, 19] ?_
    refine rc 6000 ?_
    refine oc (fun _ => 2000) (spec143 (tsum (xs.take i)) (tsum_in _) x) ?_
    refine on ?_
    refine k_nil ?_
    show AK _ _ _ _ _ _
    refine rg 7000 ?_ (h := by simp [*, wrap_succ (show i < Flat.lim by omega)]; exact is_rfl _)
    refine k_nil ?_
    refine ⟨n - 1, by omega, _, ⟨?_, ?_, ?_⟩, i + 1, by omega, trivial, rfl⟩ <;> simp [*, tsum_take hx]
  · intro h10_1
    have hge : xs.length ≤ i := by simpa using h10_1
    have htk : xs.take i = xs := List.take_of_length_le hge
    refine k_exit ?_
    show AK _ _ _ _ _ _
    refine sq ?_
    refine rc 8000 ?_
    refine oc (fun _ => 2000) (spec144 (tsum xs)) ?_
    refine oe 8100 ?_
    refine on ?_
    refine pr [2, 4] ?_
    refine k_ret ?_
    show retQ _ _ _ _ _ _ _
    simp [*]

end Go.Proofs
end
section
set_option linter.unusedVariables false
set_option linter.unusedSimpArgs false
namespace Go.Proofs
open Go.Flat
set_option maxRecDepth 100000
set_option linter.unusedSimpArgs false
set_option linter.unusedVariables false
attribute [local simp] Bool.and_assoc Bool.or_assoc evalG evalX efD skF guardG guardL isCall stepL evalOp ev evs lk tmpsL app AV.ok fresh vv putCells insV ins del putL place Go.Flat.look fillC fillR getCells loadF storeF binF scalarBin intBin strBin isShift shiftBin unF lenF maxF minF rowsF appendF builtinF idxF natOf sliceP sliceF optEv Flat.cut overwrite toPV toPVs constAV scalarC scalarCs AV.cells TI.isAgg allSome andAll scalarEq buildable Go.Flat.lim retQ resL resAll resOne PartOf noTmp closedIn refs refs.refsL isSomeV hasB ids leA leA.leL renA renA.renL callB refsAll backL dropIds renS LiesAt injB ownB freshB memN locId insAll leA_refl leL_refl okS frzS frzA frzA.frzL evalD feet fine updCells cellsFrom memP footRf footWf noTmpU updIds opOps opIds idsA footR footW guardTs opTs dstTs callR callW renLoc renC inBlockQ thenQ Value.oneCell' IntKind.bits IntKind.signed
def size64 (n : Int) : Int := if n < 0 then IntKind.u64.wrap (0 - IntKind.u64.wrap n) else IntKind.u64.wrap n

attribute [local simp] size64 in
theorem spec150 (n : Int) : Flat.Sp Try.prog 150 [vv (.int .i64 n)] [] (vv (.int .u64 (size64 n))) [] := by
  refine sk Try.func150 ?_
  intro F G hn hG
  refine sq ?_
  refine rg 1000 ?_
  refine pr [0, 1, 2, 10] ?_
  refine sq ?_
  refine sq ?_
  refine rg 2000 ?_
  refine pr [0, 1, 2, 3, 4, 10] ?_
  refine cd ?_ ?_
  · intro h4_1
    have h4_1 : n < 0 := by simpa using h4_1
    refine sq ?_
    refine rg 3000 ?_
    refine pr [0, 1, 2, 3, 8, 10] ?_
    refine k_ret ?_
    show retQ _ _ _ _ _ _ _
    simp [*]
  · intro h4_1
    have h4_1 : ¬ n < 0 := by simpa using h4_1
    refine k_skip ?_
    refine sq ?_
    refine rg 4000 ?_
    refine pr [2, 3] ?_
    refine k_ret ?_
    show retQ _ _ _ _ _ _ _
    simp [*]

theorem andm (z : Int) : bandN .u64 z 4294967295 = z % 4294967296 := by
  unfold bandN
  show (((BitVec.ofInt 64 z &&& BitVec.ofInt 64 4294967295).toNat : Nat) : Int) = _
  rw [BitVec.toNat_and, BitVec.toNat_ofInt]
  have e : ∀ a : Nat, a &&& 4294967295 = a % 4294967296 := fun a => Nat.and_two_pow_sub_one_eq_mod a 32
  show (((z % _).toNat &&& 4294967295 : Nat) : Int) = _
  rw [e]
  omega
theorem wrapU (z : Int) : IntKind.u64.wrap z = z % 18446744073709551616 := rfl
theorem em32 (z : Int) : z % 4294967296 % 18446744073709551616 = z % 4294967296 := by omega
theorem fdiv32 (z : Int) : z.fdiv 4294967296 = z / 4294967296 := Int.fdiv_eq_ediv_of_nonneg _ (by omega)

theorem spec149 (x y : Int) (hx0 : 0 ≤ x) (hx : x < 18446744073709551616) (hy0 : 0 ≤ y) (hy : y < 18446744073709551616) : Flat.Sp Try.prog 149 [vv (.int .u64 x), vv (.int .u64 y)] [] (.tup [vv (.int .u64 (x * y / 18446744073709551616)), vv (.int .u64 (x * y % 18446744073709551616))]) [] := by
  refine sk Try.func149 ?_
  intro F G hn hG
  refine sq ?_
  refine rg 1000 ?_
  refine pr [0, 2, 4, 51] ?_
  refine sq ?_
  refine rg 2000 ?_
  refine pr [0, 2, 4, 14, 16, 51] ?_
  refine sq ?_
  refine rg 3000 ?_
  refine pr [0, 2, 4, 14, 18, 51] ?_
  refine sq ?_
  refine rg 4000 ?_
  refine pr [0, 2, 4, 14, 20, 51] ?_
  refine sq ?_
  refine rg 5000 ?_
  refine pr [0, 2, 4, 14, 22, 51] ?_
  refine sq ?_
  refine rg 6000 ?_
  refine pr [0, 2, 4, 14, 25, 51] ?_
  refine sq ?_
  refine rg 7000 ?_
  refine pr [0, 2, 4, 8, 9, 10, 11, 14, 31, 51] ?_
  refine sq ?_
  refine rg 8000 ?_
  refine pr [0, 2, 4, 8, 9, 10, 11, 14, 33, 51] ?_
  refine sq ?_
  refine rg 9000 ?_
  refine pr [0, 2, 4, 8, 9, 10, 12, 14, 35, 51] ?_
  refine sq ?_
  refine rg 10000 ?_
  refine pr [0, 2, 4, 6, 7, 8, 9, 10, 12, 14, 40, 51] ?_
  refine sq ?_
  refine rg 11000 ?_
  refine pr [0, 2, 4, 6, 48, 51] ?_
  refine sq ?_
  refine rg 12000 ?_
  refine pr [4, 6] ?_
  refine k_ret ?_
  show retQ _ _ _ _ _ _ _
  rw [← mul64_arith x y hx0 hx hy0 hy]
  simp [*, wrapU, andm, em32, fdiv32]
  try omega

def timesR (a b : Int) : Int × Int :=
  if (size64 a * size64 b / 18446744073709551616 != 0) || decide (size64 a * size64 b % 18446744073709551616 > (if decide (a < 0) == decide (b < 0) then 9223372036854775807 else 9223372036854775808)) then (0, 10) else (IntKind.i64.wrap (a * b), 0)
theorem size64_in (n : Int) : 0 ≤ size64 n ∧ size64 n < 18446744073709551616 := by
  unfold size64
  split
  · exact wrapU_in _
  · exact wrapU_in _

theorem spec95 (a b : Int) : Flat.Sp Try.prog 95 [vv (.int .i64 a), vv (.int .i64 b)] [] (.tup [vv (.int .i64 (timesR a b).1), vv (.int .i64 (timesR a b).2)]) [] := by
  refine sk Try.func95 ?_
  intro F G hn hG
  refine sq ?_
  refine rg 1000 ?_
  refine pr [0, 2, 4, 34] ?_
  refine sq ?_
  refine rc 2000 ?_
  refine oc id (spec150 a) ?_
  refine oe 2100 ?_
  refine oc id (spec150 b) ?_
  refine oc id (spec149 (size64 a) (size64 b) (size64_in a).1 (size64_in a).2 (size64_in b).1 (size64_in b).2) ?_
  refine oe 2300 ?_
  refine on ?_
  refine pr [0, 2, 4, 9, 17, 34] ?_
  refine sq ?_
  refine rg 3000 ?_
  refine pr [0, 2, 4, 9, 17, 34] ?_
  refine sq ?_
  refine sq ?_
  refine rg 4000 ?_
  refine pr [0, 2, 4, 9, 21, 34] ?_
  refine cd ?_ ?_
  · intro h21_1
    refine rg 5000 ?_ (h := by simp [*, wrapU]; exact is_rfl _)
    refine pr [0, 2, 4, 9, 24, 34] ?_
    refine sq ?_
    refine sq ?_
    refine cv [(.tmp 30, vv (.bool ((size64 a * size64 b / 18446744073709551616 != 0) || decide (size64 a * size64 b % 18446744073709551616 > (if decide (a < 0) == decide (b < 0) then 9223372036854775807 else 9223372036854775808)))))] ?_ ?_
    · skip
      rcases h0 : (size64 a * size64 b / 18446744073709551616 != 0 : Bool) with _ | _
      · skip
        refine rc 6000 ?_ (h := by simp [*, wrapU]; exact is_rfl _)
        iterate 3 (first | refine gp 6250 ?_ (he := by intro hgg; (try simp only [Bool.and_eq_true] at hgg); simp [*, wrapU]; exact is_rfl _) | refine os ?_ | refine gt 6250 ?_ (he := by simp [*, wrapU]; exact is_rfl _))
        refine oe 6300 ?_ (h := by simp [*, wrapU]; exact is_rfl _)
        refine on ?_
        refine k_nil ?_
        refine ⟨rfl, ?_, ?_, ?_⟩ <;> simp [*, wrapU]
      · skip
        refine rc 1006000 ?_ (h := by simp [*, wrapU]; exact is_rfl _)
        iterate 3 (first | refine gp 1006250 ?_ (he := by intro hgg; (try simp only [Bool.and_eq_true] at hgg); simp [*, wrapU]; exact is_rfl _) | refine os ?_ | refine gt 1006250 ?_ (he := by simp [*, wrapU]; exact is_rfl _))
        refine oe 1006300 ?_ (h := by simp [*, wrapU]; exact is_rfl _)
        refine on ?_
        refine k_nil ?_
        refine ⟨rfl, ?_, ?_, ?_⟩ <;> simp [*, wrapU]
    refine pr [0, 2, 4, 6, 30, 34] ?_
    refine cd ?_ ?_
    · intro h30_2
      refine sq ?_
      refine rg 7000 ?_
      refine pr [0, 2, 4, 6, 31, 34] ?_
      refine k_ret ?_
      show retQ _ _ _ _ _ _ _
      simp [*, timesR]
    · intro h30_2
      refine k_skip ?_
      refine sq ?_
      refine rg 8000 ?_
      refine pr [4, 6] ?_
      refine k_ret ?_
      show retQ _ _ _ _ _ _ _
      simp [*, timesR]
  · intro h21_1
    refine k_skip ?_
    refine sq ?_
    refine sq ?_
    refine cv [(.tmp 30, vv (.bool ((size64 a * size64 b / 18446744073709551616 != 0) || decide (size64 a * size64 b % 18446744073709551616 > (if decide (a < 0) == decide (b < 0) then 9223372036854775807 else 9223372036854775808)))))] ?_ ?_
    · skip
      rcases h0 : (size64 a * size64 b / 18446744073709551616 != 0 : Bool) with _ | _
      · skip
        refine rc 6000 ?_ (h := by simp [*, wrapU]; exact is_rfl _)
        iterate 3 (first | refine gp 6250 ?_ (he := by intro hgg; (try simp only [Bool.and_eq_true] at hgg); simp [*, wrapU]; exact is_rfl _) | refine os ?_ | refine gt 6250 ?_ (he := by simp [*, wrapU]; exact is_rfl _))
        refine oe 6300 ?_ (h := by simp [*, wrapU]; exact is_rfl _)
        refine on ?_
        refine k_nil ?_
        refine ⟨rfl, ?_, ?_, ?_⟩ <;> simp [*, wrapU]
      · skip
        refine rc 1006000 ?_ (h := by simp [*, wrapU]; exact is_rfl _)
        iterate 3 (first | refine gp 1006250 ?_ (he := by intro hgg; (try simp only [Bool.and_eq_true] at hgg); simp [*, wrapU]; exact is_rfl _) | refine os ?_ | refine gt 1006250 ?_ (he := by simp [*, wrapU]; exact is_rfl _))
        refine oe 1006300 ?_ (h := by simp [*, wrapU]; exact is_rfl _)
        refine on ?_
        refine k_nil ?_
        refine ⟨rfl, ?_, ?_, ?_⟩ <;> simp [*, wrapU]
    refine pr [0, 2, 4, 6, 30, 34] ?_
    refine cd ?_ ?_
    · intro h30_3
      refine sq ?_
      refine rg 7000 ?_
      refine pr [0, 2, 4, 6, 31, 34] ?_
      refine k_ret ?_
      show retQ _ _ _ _ _ _ _
      simp [*, timesR]
    · intro h30_3
      refine k_skip ?_
      refine sq ?_
      refine rg 8000 ?_
      refine pr [4, 6] ?_
      refine k_ret ?_
      show retQ _ _ _ _ _ _ _
      simp [*, timesR]

def unlessF (f : Int) (ok : Bool) (why : Int) : Int := if (f == 0) && !ok then why else f

theorem spec104 (f : Int) (q : PV) (ok : Bool) (why : Int) : Flat.Sp Try.prog 104 [.ptr 0 0, vv (.bool ok), vv (.int .i64 why)] [(.var 0, .n 2), (.cell 0 0, .av (vv (.int .i64 f))), (.cell 0 1, .av (.p q))] (.tup []) [(.var 0, .n 2), (.cell 0 0, .av (vv (.int .i64 (unlessF f ok why)))), (.cell 0 1, .av (.p q))] := by
  refine sk Try.func104 ?_
  intro F G hn hG
  refine sq ?_
  refine cv [(.tmp 14, vv (.bool ((f == 0) && !ok)))] ?_ ?_
  · skip
    rcases h0 : (f == 0 : Bool) with _ | _
    · skip
      refine rc 1000 ?_
      iterate 2 (first | refine gp 1150 ?_ | refine os ?_ | refine gt 1150 ?_)
      refine oe 1200 ?_
      refine on ?_
      refine k_nil ?_
      refine ⟨rfl, ?_, ?_, ?_⟩ <;> simp [*]
    · skip
      refine rc 1001000 ?_
      iterate 2 (first | refine gp 1001150 ?_ | refine os ?_ | refine gt 1001150 ?_)
      refine oe 1001200 ?_
      refine on ?_
      refine k_nil ?_
      refine ⟨rfl, ?_, ?_, ?_⟩ <;> simp [*]
  refine pr [0, 1, 2, 3, 14, 19] ?_
  refine cd ?_ ?_
  · intro h14_1
    refine rg 2000 ?_
    refine k_nil ?_
    show retQ _ _ _ _ _ _ _
    simp [*, unlessF]
  · intro h14_1
    refine k_skip ?_
    refine k_nil ?_
    show retQ _ _ _ _ _ _ _
    simp [*, unlessF]

attribute [local simp] Val.av Val.num in
theorem spec163 (f : Int) (q : PV) (n why : Int) : Flat.Sp Try.prog 163 [.ptr 0 0, vv (.int .i64 n), vv (.int .i64 why)] [(.var 0, .n 2), (.cell 0 0, .av (vv (.int .i64 f))), (.cell 0 1, .av (.p q))] ((Val.num n).av) [(.var 0, .n 2), (.cell 0 0, .av (vv (.int .i64 (unlessF f (why == 0) why)))), (.cell 0 1, .av (.p q))] := by
  refine sk Try.func163 ?_
  intro F G hn hG
  refine sq ?_
  refine rg 1000 ?_
  refine pr [0, 3, 6, 13, 14, 16] ?_
  refine sq ?_
  refine rc 2000 ?_
  refine oc id (spec104 f q (why == 0) why) ?_
  refine on ?_
  refine pr [1, 2, 6, 7, 14, 16] ?_
  refine sq ?_
  refine rg 3000 ?_
  refine pr [6, 7] ?_
  refine k_ret ?_
  show retQ _ _ _ _ _ _ _
  simp [*]

def lessR (a b : Int) : Int × Int := tfit (tsum [a, IntKind.i64.wrap (bxorN .i64 (-1) b), 1])

attribute [local simp] lessR in
theorem spec164 (a b : Int) : Flat.Sp Try.prog 164 [vv (.int .i64 a), vv (.int .i64 b)] [] (.tup [vv (.int .i64 (lessR a b).1), vv (.int .i64 (lessR a b).2)]) [] := by
  refine sk Try.func164 ?_
  intro F G hn hG
  refine sq ?_
  refine rg 1000 ?_
  refine pr [0, 2, 4, 13] ?_
  refine sq ?_
  refine rc 2000 ?_
  refine oc id (spec165 [a, IntKind.i64.wrap (bxorN .i64 (-1) b), 1] (by simp [Flat.lim])) ?_ (hg := by simp [*, irow]) (hf := by simp [*, irow]; exact is_rfl _) (hx := by simp [*, irow]; exact is_rfl _) (hargs := by simp [*, irow]) (hB := by simp [*, irow]) (hL := by simp [*, irow]) (hd := by simp [*, irow]; exact is_rfl _)
  refine oe 2100 ?_
  refine on ?_
  refine pr [4, 6] ?_
  refine k_ret ?_
  show retQ _ _ _ _ _ _ _
  simp [*]

def kidsOf (o : Int) : Int := if o == 1 then 0 else if o == 2 then 0 else if o == 6 then 1 else if o == 11 then 1 else if o == 12 then 3 else 2

attribute [local simp] kidsOf in
theorem spec100 (o : Int) : Flat.Sp Try.prog 100 [vv (.int .u8 o)] [] (vv (.int .i64 (kidsOf o))) [] := by
  refine sk Try.func100 ?_
  intro F G hn hG
  refine sq ?_
  refine rg 1000 ?_
  refine pr [0, 1, 2, 12] ?_
  refine sq ?_
  refine sq ?_
  refine rg 2000 ?_
  refine pr [2, 12] ?_
  refine k_block ?_
  refine sq ?_
  refine sq ?_
  refine rg 3000 ?_
  refine pr [2, 5, 6, 12] ?_
  refine cd ?_ ?_
  · intro h4_1
    refine k_skip ?_
    refine ct ?_
    refine sq ?_
    refine rg 5000 ?_
    refine pr [2, 3] ?_
    refine k_ret ?_
    show retQ _ _ _ _ _ _ _
    simp [*]
  · intro h4_1
    refine rg 4000 ?_
    refine pr [2, 5, 7, 12] ?_
    refine cd ?_ ?_
    · intro h4_2
      refine sq ?_
      refine rg 5000 ?_
      refine pr [2, 3] ?_
      refine k_ret ?_
      show retQ _ _ _ _ _ _ _
      simp [*]
    · intro h4_2
      refine sq ?_
      refine sq ?_
      refine rg 6000 ?_
      refine pr [2, 4, 7, 8, 9, 12] ?_
      refine cd ?_ ?_
      · intro h7_3
        refine k_skip ?_
        refine ct ?_
        refine sq ?_
        refine rg 8000 ?_
        refine pr [2, 3] ?_
        refine k_ret ?_
        show retQ _ _ _ _ _ _ _
        simp [*]
      · intro h7_3
        refine rg 7000 ?_
        refine pr [2, 4, 7, 8, 10, 12] ?_
        refine cd ?_ ?_
        · intro h7_4
          refine sq ?_
          refine rg 8000 ?_
          refine pr [2, 3] ?_
          refine k_ret ?_
          show retQ _ _ _ _ _ _ _
          simp [*]
        · intro h7_4
          refine sq ?_
          refine rg 9000 ?_
          refine pr [2, 3, 10, 11] ?_
          refine cd ?_ ?_
          · intro h10_5
            refine sq ?_
            refine rg 10000 ?_
            refine pr [2, 3] ?_
            refine k_ret ?_
            show retQ _ _ _ _ _ _ _
            simp [*]
          · intro h10_5
            refine k_skip ?_
            refine k_nil ?_
            show AK _ _ _ _ _ _
            refine sq ?_
            refine rg 11000 ?_
            refine pr [2, 3] ?_
            refine k_ret ?_
            show retQ _ _ _ _ _ _ _
            simp [*]

end Go.Proofs
end
section
set_option linter.unusedVariables false
set_option linter.unusedSimpArgs false
namespace Go.Proofs
open Go.Flat
set_option maxRecDepth 100000
set_option linter.unusedSimpArgs false
set_option linter.unusedVariables false
attribute [local simp] Bool.and_assoc Bool.or_assoc evalG evalX efD skF guardG guardL isCall stepL evalOp ev evs lk tmpsL app AV.ok fresh vv putCells insV ins del putL place Go.Flat.look fillC fillR getCells loadF storeF binF scalarBin intBin strBin isShift shiftBin unF lenF maxF minF rowsF appendF builtinF idxF natOf sliceP sliceF optEv Flat.cut overwrite toPV toPVs constAV scalarC scalarCs AV.cells TI.isAgg allSome andAll scalarEq buildable Go.Flat.lim retQ resL resAll resOne PartOf noTmp closedIn refs refs.refsL isSomeV hasB ids leA leA.leL renA renA.renL callB refsAll backL dropIds renS LiesAt injB ownB freshB memN locId insAll leA_refl leL_refl okS frzS frzA frzA.frzL evalD feet fine updCells cellsFrom memP footRf footWf noTmpU updIds opOps opIds idsA footR footW guardTs opTs dstTs callR callW renLoc renC inBlockQ thenQ Value.oneCell' IntKind.bits IntKind.signed
/-- An expression. -/
inductive E where
  | mk (op col : Int) (c : Val) (kids : List E)
mutual
def E.row : E → List PV
  | .mk op col c kids => [.v (.int .u8 op), .v (.int .i64 col), .v (.bool c.t), .v (.int .i64 c.n), .v (.string c.s), .ps (E.rows kids)]
def E.rows : List E → List (List PV)
  | [] => []
  | e :: r => e.row :: E.rows r
end
theorem E.rows_eq : ∀ l : List E, E.rows l = l.map E.row
  | [] => by simp [E.rows]
  | e :: r => by simp [E.rows, E.rows_eq r]
theorem E.row_eq (op col : Int) (c : Val) (kids : List E) : (E.mk op col c kids).row = [.v (.int .u8 op), .v (.int .i64 col), .v (.bool c.t), .v (.int .i64 c.n), .v (.string c.s), .ps (kids.map E.row)] := by rw [E.row, E.rows_eq]
theorem E.row_len (e : E) : e.row.length = 6 := by cases e; rw [E.row_eq]; rfl
def E.av : E → AV
  | .mk op col c kids => .agg [vv (.int .u8 op), vv (.int .i64 col), vv (.bool c.t), vv (.int .i64 c.n), vv (.string c.s), .p (.ps (kids.map E.row))]
theorem E.ind {p : E → Prop} (h : ∀ op col c kids, (∀ k ∈ kids, p k) → p (.mk op col c kids)) : ∀ e, p e := by
  intro e
  induction e using E.rec (motive_2 := fun l => ∀ k ∈ l, p k) with
  | mk op col c kids ih => exact h op col c kids ih
  | nil => rename_i k hk; simp at hk
  | cons e r h1 h2 =>
    rename_i k hk
    rcases List.mem_cons.1 hk with rfl | hk
    · exact h1
    · exact h2 k hk
def okA (op : Int) (nk : Nat) : Bool := decide (0 < op) && (decide (op < 13) && ((nk : Int) == kidsOf op))
def Val.eqB (a b : Val) : Bool := (a.t == b.t) && ((a.n == b.n) && (a.s.toList == b.s.toList))
@[simp] theorem Val.eta (c : Val) : Val.mk c.t c.n c.s = c := rfl
@[simp] theorem eqVal (t1 t2 : Bool) (n1 n2 : Int) (s1 s2 : ByteArray) : eqT (tyOf Try.prog) 8 24 (.agg [.p (.v (.bool t1)), .p (.v (.int .i64 n1)), .p (.v (.string s1))]) (.agg [.p (.v (.bool t2)), .p (.v (.int .i64 n2)), .p (.v (.string s2))]) = some (Val.eqB ⟨t1, n1, s1⟩ ⟨t2, n2, s2⟩) := by
  simp [eqT, eqCut, Val.eqB]
def Val.zero : Val := ⟨false, 0, ⟨#[]⟩⟩
def okE (op col : Int) (c : Val) (nk : Nat) : Bool := okA op nk && ((col == 0 || op == 1) && ((c.eqB ⟨false, 0, ⟨#[]⟩⟩ || op == 2) && (checkRow [c] == 0)))
theorem kidsOf_le (o : Int) : 0 ≤ kidsOf o ∧ kidsOf o ≤ 3 := by
  unfold kidsOf
  repeat' split
  all_goals omega
theorem okE_len {op col : Int} {c : Val} {nk : Nat} (h : okE op col c nk = true) : nk ≤ 3 := by
  have h2 := (kidsOf_le op).2
  simp only [okE, okA, Bool.and_eq_true, beq_iff_eq] at h
  omega
abbrev Srv := Int × Int × Bool
mutual
def look : E → Int → Srv → Srv
  | .mk op col c kids, d, s =>
    let ok := okE op col c kids.length
    let s := (IntKind.i64.wrap (s.1 + 1), (if d > s.2.1 then d else s.2.1), s.2.2 || !ok)
    if !ok || decide (d > 16) then s else lookL kids (IntKind.i64.wrap (d + 1)) s
def lookL : List E → Int → Srv → Srv
  | [], _, s => s
  | e :: r, d, s => lookL r d (look e d s)
end
theorem lookL_append (d : Int) : ∀ (l r : List E) (s : Srv), lookL (l ++ r) d s = lookL r d (lookL l d s)
  | [], r, s => by simp [lookL]
  | e :: l, r, s => by simp [lookL, lookL_append d l r]
theorem lookL_take {kids : List E} {d : Int} {s : Srv} {i : Nat} {x : E} (h : kids[i]? = some x) : lookL (kids.take (i + 1)) d s = look x d (lookL (kids.take i) d s) := by
  rw [List.take_add_one, h, lookL_append]
  simp [lookL]

attribute [local simp] E.av in
theorem spec53_step (op col : Int) (c : Val) (kids : List E) (ih : ∀ k ∈ kids, ∀ d s, Flat.Sp Try.prog 53 [.ptr 0 0, k.av, vv (.int .i64 d)] [(.var 0, .n 3), (.cell 0 0, .av (vv (.int .i64 (s).1))), (.cell 0 1, .av (vv (.int .i64 (s).2.1))), (.cell 0 2, .av (vv (.bool (s).2.2)))] (.tup []) [(.var 0, .n 3), (.cell 0 0, .av (vv (.int .i64 (look k d s).1))), (.cell 0 1, .av (vv (.int .i64 (look k d s).2.1))), (.cell 0 2, .av (vv (.bool (look k d s).2.2)))]) (d : Int) (s : Srv) : Flat.Sp Try.prog 53 [.ptr 0 0, (E.mk op col c kids).av, vv (.int .i64 d)] [(.var 0, .n 3), (.cell 0 0, .av (vv (.int .i64 (s).1))), (.cell 0 1, .av (vv (.int .i64 (s).2.1))), (.cell 0 2, .av (vv (.bool (s).2.2)))] (.tup []) [(.var 0, .n 3), (.cell 0 0, .av (vv (.int .i64 (look (E.mk op col c kids) d s).1))), (.cell 0 1, .av (vv (.int .i64 (look (E.mk op col c kids) d s).2.1))), (.cell 0 2, .av (vv (.bool (look (E.mk op col c kids) d s).2.2)))] := by
  refine sk Try.func53 ?_
  intro F G hn hG
  refine sq ?_
  refine rg 1000 ?_
  refine pr [0, 1, 2, 3, 4, 5, 6, 7, 8, 100, 101, 102] ?_
  refine sq ?_
  refine dr ?_
  refine de 2000 ?_
  refine dn ?_
  refine pr [0, 1, 2, 3, 4, 5, 6, 7, 8, 9, 26, 100, 101, 102] ?_
  refine sq ?_
  refine cv [(.tmp 6, vv (.bool (okA op kids.length)))] ?_ ?_
  · skip
    refine dr ?_
    refine de 3000 ?_ (h := by simp [*, okA]; exact is_rfl _)
    iterate 3 (first | refine dp 3250 ?_ (he := by intro hgg; (try simp only [Bool.and_eq_true] at hgg); simp [*, okA]; exact is_rfl _) | refine ds ?_ | refine dt 3250 ?_ (he := by simp [*, okA]; exact is_rfl _))
    refine de 3300 ?_ (h := by simp [*, okA]; exact is_rfl _)
    iterate 5 (first | refine dp 3750 ?_ (he := by intro hgg; (try simp only [Bool.and_eq_true] at hgg); simp [*, okA]; exact is_rfl _) | refine ds ?_ | refine dt 3750 ?_ (he := by simp [*, okA]; exact is_rfl _))
    refine dg (fun hg => spec100 op) ?_ (hf := by intro hgg; (try simp only [Bool.and_eq_true] at hgg); simp [*, okA]; exact is_rfl _) (hx := by intro hgg; (try simp only [Bool.and_eq_true] at hgg); simp [*, okA]; exact is_rfl _) (hargs := by intro hgg; (try simp only [Bool.and_eq_true] at hgg); simp [*, okA]) (hd := by simp [*, okA]; exact is_rfl _)
    first | refine dp 3950 ?_ (he := by intro hgg; (try simp only [Bool.and_eq_true] at hgg); simp [*, okA]; exact is_rfl _) | refine ds ?_ | refine dt 3950 ?_ (he := by simp [*, okA]; exact is_rfl _)
    refine de 4000 ?_ (h := by simp [*, okA]; exact is_rfl _)
    refine dn ?_
    refine k_nil ?_
    refine ⟨rfl, ?_, ?_, ?_⟩ <;> simp [*, okA]
  refine pr [0, 1, 2, 3, 4, 5, 6, 7, 8, 9, 43, 100, 101, 102] ?_
  refine sq ?_
  refine cv [(.tmp 6, vv (.bool (okE op col c kids.length)))] ?_ ?_
  · skip
    refine rc 4000 ?_ (h := by simp [*, okE]; exact is_rfl _)
    iterate 8 (first | refine gp 4750 ?_ (he := by intro hgg; (try simp only [Bool.and_eq_true] at hgg); simp [*, okE]; exact is_rfl _) | refine os ?_ | refine gt 4750 ?_ (he := by simp [*, okE]; exact is_rfl _))
    refine oe 4800 ?_ (h := by simp [*, okE]; exact is_rfl _)
    iterate 9 (first | refine gp 5650 ?_ (he := by intro hgg; (try simp only [Bool.and_eq_true] at hgg); simp [*, okE]; exact is_rfl _) | refine os ?_ | refine gt 5650 ?_ (he := by simp [*, okE]; exact is_rfl _))
    refine oe 5700 ?_ (h := by simp [*, okE]; exact is_rfl _)
    iterate 3 (first | refine gp 5950 ?_ (he := by intro hgg; (try simp only [Bool.and_eq_true] at hgg); simp [*, okE]; exact is_rfl _) | refine os ?_ | refine gt 5950 ?_ (he := by simp [*, okE]; exact is_rfl _))
    refine og (fun hg => spec54 [c] (by simp [Flat.lim])) ?_ (hf := by intro hgg; (try simp only [Bool.and_eq_true] at hgg); simp [*, okE, Val.row]; exact is_rfl _) (hx := by intro hgg; (try simp only [Bool.and_eq_true] at hgg); simp [*, okE, Val.row]; exact is_rfl _) (hargs := by intro hgg; (try simp only [Bool.and_eq_true] at hgg); simp [*, okE, Val.row]) (hd := by simp [*, okE, Val.row]; exact is_rfl _)
    first | refine gp 6150 ?_ (he := by intro hgg; (try simp only [Bool.and_eq_true] at hgg); simp [*, okE]; exact is_rfl _) | refine os ?_ | refine gt 6150 ?_ (he := by simp [*, okE]; exact is_rfl _)
    refine oe 6200 ?_ (h := by simp [*, okE]; exact is_rfl _)
    refine on ?_
    refine k_nil ?_
    refine ⟨rfl, ?_, ?_, ?_⟩ <;> simp [*, okE]
  refine pr [0, 1, 2, 3, 4, 5, 6, 7, 8, 9, 72, 100, 101, 102] ?_
  refine sq ?_
  refine rc 5000 ?_
  iterate 2 (first | refine gp 5150 ?_ | refine os ?_ | refine gt 5150 ?_)
  refine oe 5200 ?_
  refine on ?_
  refine pr [0, 1, 2, 3, 4, 5, 6, 7, 8, 9, 83, 100, 101, 102] ?_
  refine sq ?_
  refine sq ?_
  refine rc 6000 ?_
  iterate 2 (first | refine gp 6150 ?_ | refine os ?_ | refine gt 6150 ?_)
  refine oe 6200 ?_
  refine on ?_
  refine pr [0, 1, 2, 3, 4, 5, 8, 9, 88, 100, 101, 102] ?_
  refine cd ?_ ?_
  · intro h88_1
    have h88_1 : (!(okE op col c kids.length) || decide (d > 16)) = true := h88_1
    refine k_ret ?_
    show retQ _ _ _ _ _ _ _
    simp [*, look]
  · intro h88_1
    have h88_1 : (!(okE op col c kids.length) || decide (d > 16)) = false := h88_1
    have hk : kids.length ≤ Flat.lim := Nat.le_trans (okE_len (by simp at h88_1; exact h88_1.1)) (by simp [Flat.lim])
    refine k_skip ?_
    refine sq ?_
    refine rg 7000 ?_
    refine pr [0, 1, 2, 3, 8, 9, 90, 100, 101, 102] ?_
    refine k_block ?_
    refine k_loop (fun n l => ∃ i, i + n = kids.length ∧ (True) ∧ l = [(.tmp 0, .av (.ptr 0 0)), (.tmp 2, .av (vv (.int .i64 d))), (.tmp 90, .av (.p (.ps (kids.map E.row)))), (.tmp 91, .av (vv (.int .i64 kids.length))), (.tmp 92, .av (vv (.int .i64 i))), (.var 0, .n 3), (.cell 0 0, .av (vv (.int .i64 (lookL (kids.take i) (IntKind.i64.wrap (d + 1)) ((IntKind.i64.wrap (s.1 + 1), (if d > s.2.1 then d else s.2.1), s.2.2 || !(okE op col c kids.length)) : Srv)).1))), (.cell 0 1, .av (vv (.int .i64 (lookL (kids.take i) (IntKind.i64.wrap (d + 1)) ((IntKind.i64.wrap (s.1 + 1), (if d > s.2.1 then d else s.2.1), s.2.2 || !(okE op col c kids.length)) : Srv)).2.1))), (.cell 0 2, .av (vv (.bool (lookL (kids.take i) (IntKind.i64.wrap (d + 1)) ((IntKind.i64.wrap (s.1 + 1), (if d > s.2.1 then d else s.2.1), s.2.2 || !(okE op col c kids.length)) : Srv)).2.2)))]) (kids.length) hG ⟨_, ⟨by simp [lookL], by simp, by simp⟩, 0, by simp, trivial, rfl⟩ ?_
    rintro n _ ⟨i, hin, hfa, rfl⟩
    refine sq ?_
    refine rg 8000 ?_
    refine pr [0, 1, 2, 3, 8, 9, 90, 100, 101, 102] ?_
    refine sq ?_
    refine cd ?_ ?_
    · intro h93_2
      have hlt : i < kids.length := by simpa using h93_2
      obtain ⟨x, hxe⟩ : ∃ x, kids[i] = x := ⟨_, rfl⟩
      have hx : kids[i]? = some x := by simp [hlt, hxe]
      obtain ⟨xo, xc, xv, xk⟩ := x
      have hmem : E.mk xo xc xv xk ∈ kids := hxe ▸ List.getElem_mem hlt
      refine k_skip ?_
      refine sq ?_
      refine k_block ?_
      refine sq ?_
      refine rg 9000 ?_ (h := by simp [*, E.row_eq]; exact is_rfl _)
      refine pr [0, 1, 2, 3, 8, 9, 90, 100, 101, 102] ?_
      refine rc 10000 ?_
      refine oc id (ih _ hmem (IntKind.i64.wrap (d + 1)) (lookL (kids.take i) (IntKind.i64.wrap (d + 1)) ((IntKind.i64.wrap (s.1 + 1), (if d > s.2.1 then d else s.2.1), s.2.2 || !(okE op col c kids.length)) : Srv))) ?_
      refine on ?_
      refine k_nil ?_
      show AK _ _ _ _ _ _
      refine rg 11000 ?_ (h := by simp [*, wrap_succ (show i < Flat.lim by omega)]; exact is_rfl _)
      refine k_nil ?_
      refine ⟨n - 1, by omega, _, ⟨?_, ?_, ?_⟩, i + 1, by omega, trivial, rfl⟩ <;> simp [*, lookL_take hx]
    · intro h93_2
      have hge : kids.length ≤ i := by simpa using h93_2
      have htk : kids.take i = kids := List.take_of_length_le hge
      refine k_exit ?_
      show AK _ _ _ _ _ _
      refine k_nil ?_
      show retQ _ _ _ _ _ _ _
      simp [*, look]

theorem spec53 : ∀ (e : E) (d : Int) (s : Srv), Flat.Sp Try.prog 53 [.ptr 0 0, e.av, vv (.int .i64 d)] [(.var 0, .n 3), (.cell 0 0, .av (vv (.int .i64 (s).1))), (.cell 0 1, .av (vv (.int .i64 (s).2.1))), (.cell 0 2, .av (vv (.bool (s).2.2)))] (.tup []) [(.var 0, .n 3), (.cell 0 0, .av (vv (.int .i64 (look e d s).1))), (.cell 0 1, .av (vv (.int .i64 (look e d s).2.1))), (.cell 0 2, .av (vv (.bool (look e d s).2.2)))] :=
  E.ind fun op col c kids ih d s => spec53_step op col c kids ih d s
def checkE (e : E) : Int := let s := look e 1 (0, 0, false); if s.2.2 then 4 else if decide (64 < s.1) then 2 else if decide (16 < s.2.1) then 2 else 0

attribute [local simp] E.av in
theorem spec22 (op col : Int) (c : Val) (kids : List E) : Flat.Sp Try.prog 22 [(E.mk op col c kids).av] [] (vv (.int .i64 (checkE (E.mk op col c kids)))) [] := by
  refine sk Try.func22 ?_
  intro F G hn hG
  refine sq ?_
  refine rg 1000 ?_
  refine pr [1, 5, 6, 16] ?_
  refine sq ?_
  refine rg 2000 ?_
  refine pr [1, 5, 6, 16] ?_
  refine sq ?_
  refine rc 3000 ?_
  refine oc (fun _ => 2000) (spec53 (E.mk op col c kids) 1 (0, 0, false)) ?_
  refine on ?_
  refine pr [2, 4, 6, 16] ?_
  refine sq ?_
  refine k_block ?_
  refine sq ?_
  refine rg 4000 ?_
  refine pr [2, 4, 6, 7, 9, 16] ?_
  refine cd ?_ ?_
  · intro h6_1
    refine sq ?_
    refine rg 5000 ?_
    refine pr [2, 3] ?_
    refine k_ret ?_
    show retQ _ _ _ _ _ _ _
    simp [*, checkE]
  · intro h6_1
    refine sq ?_
    refine sq ?_
    refine rg 6000 ?_
    refine pr [2, 4, 9, 10, 13, 16] ?_
    refine cd ?_ ?_
    · intro h9_2
      refine k_skip ?_
      refine ct ?_
      refine sq ?_
      refine rg 8000 ?_
      refine pr [2, 3] ?_
      refine k_ret ?_
      show retQ _ _ _ _ _ _ _
      simp [*, checkE]
    · intro h9_2
      refine rg 7000 ?_
      refine pr [2, 3, 9, 10] ?_
      refine cd ?_ ?_
      · intro h9_3
        refine sq ?_
        refine rg 8000 ?_
        refine pr [2, 3] ?_
        refine k_ret ?_
        show retQ _ _ _ _ _ _ _
        simp [*, checkE]
      · intro h9_3
        refine k_skip ?_
        refine k_nil ?_
        show AK _ _ _ _ _ _
        refine sq ?_
        refine rg 9000 ?_
        refine pr [2, 3] ?_
        refine k_ret ?_
        show retQ _ _ _ _ _ _ _
        simp [*, checkE]

end Go.Proofs
end
section
set_option linter.unusedVariables false
set_option linter.unusedSimpArgs false
namespace Go.Proofs
open Go.Flat
set_option maxRecDepth 100000
set_option linter.unusedSimpArgs false
set_option linter.unusedVariables false
attribute [local simp] Bool.and_assoc Bool.or_assoc evalG evalX efD skF guardG guardL isCall stepL evalOp ev evs lk tmpsL app AV.ok fresh vv putCells insV ins del putL place Go.Flat.look fillC fillR getCells loadF storeF binF scalarBin intBin strBin isShift shiftBin unF lenF maxF minF rowsF appendF builtinF idxF natOf sliceP sliceF optEv Flat.cut overwrite toPV toPVs constAV scalarC scalarCs AV.cells TI.isAgg allSome andAll scalarEq buildable Go.Flat.lim retQ resL resAll resOne PartOf noTmp closedIn refs refs.refsL isSomeV hasB ids leA leA.leL renA renA.renL callB refsAll backL dropIds renS LiesAt injB ownB freshB memN locId insAll leA_refl leL_refl okS frzS frzA frzA.frzL evalD feet fine updCells cellsFrom memP footRf footWf noTmpU updIds opOps opIds idsA footR footW guardTs opTs dstTs callR callW renLoc renC inBlockQ thenQ Value.oneCell' IntKind.bits IntKind.signed
mutual
/-- A right expression, all the way down. -/
def E.good : E → Prop
  | .mk op col c kids => okE op col c kids.length = true ∧ E.goodL kids
def E.goodL : List E → Prop
  | [] => True
  | e :: r => e.good ∧ E.goodL r
end
theorem E.goodL_mem : ∀ {l : List E}, E.goodL l → ∀ k ∈ l, k.good
  | [], _, k, h => by simp at h
  | e :: r, h, k, hk => by
    simp only [E.goodL] at h
    rcases List.mem_cons.1 hk with rfl | hk
    · exact h.1
    · exact E.goodL_mem h.2 k hk

end Go.Proofs
end
section
set_option linter.unusedVariables false
set_option linter.unusedSimpArgs false
namespace Go.Proofs
open Go.Flat
set_option maxRecDepth 100000
set_option linter.unusedSimpArgs false
set_option linter.unusedVariables false
attribute [local simp] Bool.and_assoc Bool.or_assoc evalG evalX efD skF guardG guardL isCall stepL evalOp ev evs lk tmpsL app AV.ok fresh vv putCells insV ins del putL place Go.Flat.look fillC fillR getCells loadF storeF binF scalarBin intBin strBin isShift shiftBin unF lenF maxF minF rowsF appendF builtinF idxF natOf sliceP sliceF optEv Flat.cut overwrite toPV toPVs constAV scalarC scalarCs AV.cells TI.isAgg allSome andAll scalarEq buildable Go.Flat.lim retQ resL resAll resOne PartOf noTmp closedIn refs refs.refsL isSomeV hasB ids leA leA.leL renA renA.renL callB refsAll backL dropIds renS LiesAt injB ownB freshB memN locId insAll leA_refl leL_refl okS frzS frzA frzA.frzL evalD feet fine updCells cellsFrom memP footRf footWf noTmpU updIds opOps opIds idsA footR footW guardTs opTs dstTs callR callW renLoc renC inBlockQ thenQ Value.oneCell' IntKind.bits IntKind.signed
theorem okE_shape {op col : Int} {c : Val} {nk : Nat} (h : okE op col c nk = true) : (op = 1 ∧ nk = 0) ∨ (op = 2 ∧ nk = 0) ∨ ((op = 6 ∨ op = 11) ∧ nk = 1) ∨ ((op = 3 ∨ op = 4 ∨ op = 5 ∨ op = 9 ∨ op = 10) ∧ nk = 2) ∨ (op = 7 ∧ nk = 2) ∨ (op = 8 ∧ nk = 2) ∨ (op = 12 ∧ nk = 3) := by
  simp only [okE, okA, Bool.and_eq_true, beq_iff_eq, decide_eq_true_eq] at h
  obtain ⟨⟨h1, h2, h3⟩, _⟩ := h
  have : op = 1 ∨ op = 2 ∨ op = 3 ∨ op = 4 ∨ op = 5 ∨ op = 6 ∨ op = 7 ∨ op = 8 ∨ op = 9 ∨ op = 10 ∨ op = 11 ∨ op = 12 := by omega
  rcases this with rfl | rfl | rfl | rfl | rfl | rfl | rfl | rfl | rfl | rfl | rfl | rfl <;> simp [kidsOf] at h3 ⊢ <;> omega
theorem three_of_length {α : Type} {l : List α} (h : l.length = 3) : ∃ x y z, l = [x, y, z] := by
  match l, h with
  | [x, y, z], _ => exact ⟨x, y, z, rfl⟩
theorem lookL_mono {l : List E} (h : ∀ k ∈ l, ∀ d (s : Srv), (s.2.2 = true → (look k d s).2.2 = true) ∧ s.2.1 ≤ (look k d s).2.1) : ∀ d (s : Srv), (s.2.2 = true → (lookL l d s).2.2 = true) ∧ s.2.1 ≤ (lookL l d s).2.1 := by
  induction l with
  | nil => intro d s; simp [lookL]
  | cons k r ih =>
    intro d s
    obtain ⟨h1, h2⟩ := h k (by simp) d s
    obtain ⟨g1, g2⟩ := ih (fun k hk => h k (by simp [hk])) d (look k d s)
    rw [lookL]
    exact ⟨fun e => g1 (h1 e), Int.le_trans h2 g2⟩
theorem look_mono : ∀ (e : E) (d : Int) (s : Srv), (s.2.2 = true → (look e d s).2.2 = true) ∧ s.2.1 ≤ (look e d s).2.1 := by
  refine E.ind fun op col c kids ih d s => ?_
  rw [look]
  have hmax : s.2.1 ≤ (if d > s.2.1 then d else s.2.1) := by split <;> omega
  split
  · exact ⟨fun h => by simp [h], hmax⟩
  · obtain ⟨g1, g2⟩ := lookL_mono ih (IntKind.i64.wrap (d + 1)) (IntKind.i64.wrap (s.1 + 1), (if d > s.2.1 then d else s.2.1), s.2.2 || !okE op col c kids.length)
    exact ⟨fun h => g1 (by simp [h]), Int.le_trans hmax g2⟩
theorem lookL_good {l : List E} (h : ∀ k ∈ l, ∀ d (s : Srv), (look k d s).2.2 = false → (look k d s).2.1 ≤ 16 → k.good) : ∀ d (s : Srv), (lookL l d s).2.2 = false → (lookL l d s).2.1 ≤ 16 → E.goodL l := by
  induction l with
  | nil => intro d s _ _; simp [E.goodL]
  | cons k r ih =>
    intro d s h1 h2
    rw [lookL] at h1 h2
    obtain ⟨g1, g2⟩ := lookL_mono (l := r) (fun k _ => look_mono k) d (look k d s)
    rw [E.goodL]
    refine ⟨h k (by simp) d s ?_ (Int.le_trans g2 h2), ih (fun k hk => h k (by simp [hk])) d _ h1 h2⟩
    cases hq : (look k d s).2.2 with
    | false => rfl
    | true => rw [g1 hq] at h1; simp at h1
theorem look_good : ∀ (e : E) (d : Int) (s : Srv), (look e d s).2.2 = false → (look e d s).2.1 ≤ 16 → e.good := by
  refine E.ind fun op col c kids ih d s h1 h2 => ?_
  rw [look] at h1 h2
  rw [E.good]
  split at h1
  · rename_i hc
    rw [if_pos hc] at h2
    simp only [Bool.or_eq_false_iff, Bool.not_eq_false'] at h1
    simp only [Bool.or_eq_true, Bool.not_eq_true', decide_eq_true_eq] at hc
    rcases hc with hc | hc
    · rw [h1.2] at hc; simp at hc
    · simp only at h2
      split at h2 <;> omega
  · rename_i hc
    rw [if_neg hc] at h2
    simp only [Bool.or_eq_true, Bool.not_eq_true', decide_eq_true_eq, not_or, Bool.not_eq_false] at hc
    exact ⟨hc.1, lookL_good ih _ _ h1 h2⟩
theorem checkE_good {e : E} (h : checkE e = 0) : e.good := by
  unfold checkE at h
  simp only at h
  split at h
  · simp at h
  · rename_i h1
    split at h
    · simp at h
    · split at h
      · simp at h
      · rename_i h3
        exact look_good e 1 (0, 0, false) (by simpa using h1) (by simpa using h3)
end Go.Proofs
end
section
set_option linter.unusedVariables false
set_option linter.unusedSimpArgs false
namespace Go.Proofs
open Go.Flat
set_option maxRecDepth 100000
set_option linter.unusedSimpArgs false
set_option linter.unusedVariables false
attribute [local simp] Bool.and_assoc Bool.or_assoc evalG evalX efD skF guardG guardL isCall stepL evalOp ev evs lk tmpsL app AV.ok fresh vv putCells insV ins del putL place Go.Flat.look fillC fillR getCells loadF storeF binF scalarBin intBin strBin isShift shiftBin unF lenF maxF minF rowsF appendF builtinF idxF natOf sliceP sliceF optEv Flat.cut overwrite toPV toPVs constAV scalarC scalarCs AV.cells TI.isAgg allSome andAll scalarEq buildable Go.Flat.lim retQ resL resAll resOne PartOf noTmp closedIn refs refs.refsL isSomeV hasB ids leA leA.leL renA renA.renL callB refsAll backL dropIds renS LiesAt injB ownB freshB memN locId insAll leA_refl leL_refl okS frzS frzA frzA.frzL evalD feet fine updCells cellsFrom memP footRf footWf noTmpU updIds opOps opIds idsA footR footW guardTs opTs dstTs callR callW renLoc renC inBlockQ thenQ Value.oneCell' IntKind.bits IntKind.signed
def numF (f : Int → Val × Int) (w : Int) : Int × Int := ((f w).1.n, unlessF (f w).2 (!(f w).1.t) 11)
def fitF (r : Int × Int) (w : Int) : Val × Int := (Val.num r.1, unlessF w (r.2 == 0) r.2)
def bitV (b : Bool) : Val := Val.num (if b then 1 else 0)
def sumR (op n : Int) (b e : Int → Val × Int) (w : Int) : Val × Int :=
  if w != 0 then (⟨false, 0, ⟨#[]⟩⟩, w)
  else if op == 11 then (bitV (n == 0), w)
  else if op == 6 then fitF (lessR 0 n) w
  else if op == 9 then (if n != 0 then (bitV ((numF b w).1 != 0), (numF b w).2) else (bitV false, w))
  else if op == 10 then (if n != 0 then (bitV true, w) else (bitV ((numF b w).1 != 0), (numF b w).2))
  else if op == 12 then (if n != 0 then b w else e w)
  else if op == 3 then fitF (tfit (tsum [n, (numF b w).1])) (numF b w).2
  else if op == 4 then fitF (lessR n (numF b w).1) (numF b w).2
  else fitF (timesR n (numF b w).1) (numF b w).2
def noF : Int → Val × Int := fun w => (⟨false, 0, ⟨#[]⟩⟩, w)
def stepR (row : List Val) (op col : Int) (c : Val) (fs : List (Int → Val × Int)) (w : Int) : Val × Int :=
  if w != 0 then (⟨false, 0, ⟨#[]⟩⟩, w)
  else if op == 2 then (c, w)
  else if op == 1 then (if decide (col < 0) || decide ((row.length : Int) ≤ col) then (⟨false, 0, ⟨#[]⟩⟩, unlessF w false 1) else (row.getD col.toNat ⟨false, 0, ⟨#[]⟩⟩, w))
  else if op == 7 || op == 8 then
    let x := fs.getD 0 noF w
    let y := fs.getD 1 noF x.2
    (bitV ((decide (x.1.cmp y.1 < 0) && op == 7) || (x.1.cmp y.1 == 0 && op == 8)), unlessF y.2 (x.1.t == y.1.t) 11)
  else sumR op (numF (fs.getD 0 noF) w).1 (fs.getD 1 noF) (fs.getD 2 noF) (numF (fs.getD 0 noF) w).2
mutual
def reck (row : List Val) : E → Int → Val × Int
  | .mk op col c kids => stepR row op col c (recks row kids)
def recks (row : List Val) : List E → List (Int → Val × Int)
  | [] => []
  | e :: r => reck row e :: recks row r
end

attribute [local simp] E.av in
theorem spec55_err (row : List Val) (hrow : row.length ≤ Flat.lim) (op col : Int) (c : Val) (kids : List E) (w : Int) (hw : (w != 0) = true) : Flat.Sp Try.prog 55 [.ptr 0 0, (E.mk op col c kids).av] [(.var 0, .n 2), (.cell 0 0, .av (vv (.int .i64 w))), (.cell 0 1, .av (.p (.ps (row.map Val.row))))] ((reck row (E.mk op col c kids) w).1.av) [(.var 0, .n 2), (.cell 0 0, .av (vv (.int .i64 (reck row (E.mk op col c kids) w).2))), (.cell 0 1, .av (.p (.ps (row.map Val.row))))] := by
  refine sk Try.func55 ?_
  intro F G hn hG
  refine sq ?_
  refine rg 1000 ?_
  refine pr [0, 1, 3, 42, 43, 79, 80, 109] ?_
  refine sq ?_
  refine k_block ?_
  refine sq ?_
  refine rg 2000 ?_
  refine pr [0, 1, 3, 9, 15, 42, 43, 79, 80, 109] ?_
  refine ct ?_
  refine sq ?_
  refine rg 3000 ?_
  refine pr [0, 1, 3, 5, 100, 109] ?_
  refine k_ret ?_
  show retQ _ _ _ _ _ _ _
  simp [*, reck, stepR, Val.av]

attribute [local simp] E.av in
theorem spec55_con (row : List Val) (hrow : row.length ≤ Flat.lim) (col : Int) (c : Val) (w : Int) (hw : (w != 0) = false) : Flat.Sp Try.prog 55 [.ptr 0 0, (E.mk 2 col c []).av] [(.var 0, .n 2), (.cell 0 0, .av (vv (.int .i64 w))), (.cell 0 1, .av (.p (.ps (row.map Val.row))))] ((reck row (E.mk 2 col c []) w).1.av) [(.var 0, .n 2), (.cell 0 0, .av (vv (.int .i64 (reck row (E.mk 2 col c []) w).2))), (.cell 0 1, .av (.p (.ps (row.map Val.row))))] := by
  refine sk Try.func55 ?_
  intro F G hn hG
  refine sq ?_
  refine rg 1000 ?_
  refine pr [0, 1, 3, 42, 43, 79, 80, 109] ?_
  refine sq ?_
  refine k_block ?_
  refine sq ?_
  refine rg 2000 ?_
  refine pr [0, 1, 3, 9, 15, 42, 43, 79, 80, 109] ?_
  refine ce ?_
  refine sq ?_
  refine rg 4000 ?_
  refine pr [0, 1, 3, 8, 16, 17, 20, 42, 43, 79, 80, 109] ?_
  refine ct ?_
  refine sq ?_
  refine rg 5000 ?_
  refine pr [0, 1, 3, 5, 100, 109] ?_
  refine k_ret ?_
  show retQ _ _ _ _ _ _ _
  simp [*, reck, stepR, Val.av]

attribute [local simp] E.av in
theorem spec55_col (row : List Val) (hrow : row.length ≤ Flat.lim) (col : Int) (c : Val) (w : Int) (hw : (w != 0) = false) : Flat.Sp Try.prog 55 [.ptr 0 0, (E.mk 1 col c []).av] [(.var 0, .n 2), (.cell 0 0, .av (vv (.int .i64 w))), (.cell 0 1, .av (.p (.ps (row.map Val.row))))] ((reck row (E.mk 1 col c []) w).1.av) [(.var 0, .n 2), (.cell 0 0, .av (vv (.int .i64 (reck row (E.mk 1 col c []) w).2))), (.cell 0 1, .av (.p (.ps (row.map Val.row))))] := by
  refine sk Try.func55 ?_
  intro F G hn hG
  refine sq ?_
  refine rg 1000 ?_
  refine pr [0, 1, 3, 42, 43, 79, 80, 109] ?_
  refine sq ?_
  refine k_block ?_
  refine sq ?_
  refine rg 2000 ?_
  refine pr [0, 1, 3, 9, 15, 42, 43, 79, 80, 109] ?_
  refine ce ?_
  refine sq ?_
  refine rg 4000 ?_
  refine pr [0, 1, 3, 8, 16, 17, 20, 42, 43, 79, 80, 109] ?_
  refine ce ?_
  refine sq ?_
  refine rg 6000 ?_
  refine pr [0, 1, 3, 8, 22, 23, 26, 42, 43, 79, 80, 109] ?_
  refine ct ?_
  refine sq ?_
  refine sq ?_
  refine cv [(.tmp 38, vv (.bool (decide (col < 0) || decide ((row.length : Int) ≤ col))))] ?_ ?_
  · skip
    rcases h0 : (decide (col < 0) : Bool) with _ | _
    · skip
      refine dr ?_
      refine de 7000 ?_
      iterate 8 (first | refine dp 7750 ?_ | refine ds ?_ | refine dt 7750 ?_)
      refine de 7800 ?_
      refine dn ?_
      refine k_nil ?_
      refine ⟨rfl, ?_, ?_, ?_⟩ <;> simp [*]
    · skip
      refine dr ?_
      refine de 1007000 ?_
      iterate 8 (first | refine dp 1007750 ?_ | refine ds ?_ | refine dt 1007750 ?_)
      refine de 1007800 ?_
      refine dn ?_
      refine k_nil ?_
      refine ⟨rfl, ?_, ?_, ?_⟩ <;> simp [*]
  refine pr [0, 1, 3, 5, 38, 42, 43, 52, 100, 109] ?_
  refine cd ?_ ?_
  · intro h38_1
    have h38_1 : (decide (col < 0) || decide ((row.length : Int) ≤ col)) = true := h38_1
    refine sq ?_
    refine rc 8000 ?_
    refine oc id (spec104 w (.ps (row.map Val.row)) false 1) ?_
    refine on ?_
    refine pr [0, 1, 3, 5, 43, 52, 100, 109] ?_
    refine sq ?_
    refine rg 9000 ?_
    refine pr [0, 1, 3, 5, 44, 52, 100, 109] ?_
    refine k_ret ?_
    show retQ _ _ _ _ _ _ _
    simp [*, reck, stepR, Val.av]
  · intro h38_1
    have h38_1 : (decide (col < 0) || decide ((row.length : Int) ≤ col)) = false := h38_1
    simp only [Bool.or_eq_false_iff, decide_eq_false_iff_not, Int.not_lt, Int.not_le] at h38_1
    obtain ⟨k, rfl⟩ := Int.eq_ofNat_of_zero_le h38_1.1
    have hlt : k < row.length := by omega
    have hnl : ¬ row.length ≤ k := by omega
    have hnk : ¬ ((k : Int) < 0) := by omega
    obtain ⟨t, hte⟩ : ∃ t, row[k] = t := ⟨_, rfl⟩
    refine k_skip ?_
    refine sq ?_
    refine dr ?_
    refine de 10000 ?_ (h := by simp [*, Val.row]; exact is_rfl _)
    refine dn ?_
    refine pr [0, 1, 3, 5, 100, 109] ?_
    refine k_ret ?_
    show retQ _ _ _ _ _ _ _
    simp [*, reck, stepR, Val.av, Val.row]

attribute [local simp] E.av Val.av numF in
theorem spec108 (row : List Val) (hrow : row.length ≤ Flat.lim) (ao ac : Int) (av : Val) (ak : List E) (FA : Int → Val × Int) (ha : ∀ w : Int, Flat.Sp Try.prog 55 [.ptr 0 0, (E.mk ao ac av ak).av] [(.var 0, .n 2), (.cell 0 0, .av (vv (.int .i64 w))), (.cell 0 1, .av (.p (.ps (row.map Val.row))))] (FA w).1.av [(.var 0, .n 2), (.cell 0 0, .av (vv (.int .i64 (FA w).2))), (.cell 0 1, .av (.p (.ps (row.map Val.row))))]) (w : Int) : Flat.Sp Try.prog 108 [.ptr 0 0, (E.mk ao ac av ak).av] [(.var 0, .n 2), (.cell 0 0, .av (vv (.int .i64 w))), (.cell 0 1, .av (.p (.ps (row.map Val.row))))] (vv (.int .i64 (numF FA w).1)) [(.var 0, .n 2), (.cell 0 0, .av (vv (.int .i64 (numF FA w).2))), (.cell 0 1, .av (.p (.ps (row.map Val.row))))] := by
  refine sk Try.func108 ?_
  intro F G hn hG
  refine sq ?_
  refine rg 1000 ?_
  refine pr [0, 1, 3, 15, 16, 18] ?_
  refine sq ?_
  refine rc 2000 ?_
  refine oc id (ha w) ?_
  refine oe 2100 ?_
  refine on ?_
  refine pr [0, 1, 4, 6, 9, 15, 16, 18] ?_
  refine sq ?_
  refine dr ?_
  refine de 3000 ?_
  refine dc id (spec104 (FA w).2 (.ps (row.map Val.row)) (!(FA w).1.t) 11) ?_
  refine dn ?_
  refine pr [4, 6, 16, 18] ?_
  refine sq ?_
  refine rg 4000 ?_
  refine pr [4, 5] ?_
  refine k_ret ?_
  show retQ _ _ _ _ _ _ _
  simp [*]

attribute [local simp] E.av E.row_eq in
theorem spec162 (row : List Val) (hrow : row.length ≤ Flat.lim) (op col : Int) (c : Val) (kids : List E) (bo bc : Int) (bv : Val) (bk : List E) (FB : Int → Val × Int) (hb : ∀ w : Int, Flat.Sp Try.prog 55 [.ptr 0 0, (E.mk bo bc bv bk).av] [(.var 0, .n 2), (.cell 0 0, .av (vv (.int .i64 w))), (.cell 0 1, .av (.p (.ps (row.map Val.row))))] (FB w).1.av [(.var 0, .n 2), (.cell 0 0, .av (vv (.int .i64 (FB w).2))), (.cell 0 1, .av (.p (.ps (row.map Val.row))))]) (hk1 : 1 < kids.length) (hkb : kids[1] = E.mk bo bc bv bk) (w : Int) : Flat.Sp Try.prog 162 [.ptr 1 0, .ptr 2 0] [(.var 0, .n 2), (.cell 0 0, .av (vv (.int .i64 w))), (.cell 0 1, .av (.p (.ps (row.map Val.row)))), (.var 1, .n 1), (.cell 1 0, .av (.ptr 0 0)), (.var 2, .n 6), (.cell 2 0, .av (vv (.int .u8 op))), (.cell 2 1, .av (vv (.int .i64 col))), (.cell 2 2, .av (vv (.bool c.t))), (.cell 2 3, .av (vv (.int .i64 c.n))), (.cell 2 4, .av (vv (.string c.s))), (.cell 2 5, .av (.p (.ps (kids.map E.row))))] (vv (.int .i64 (numF FB w).1)) [(.var 0, .n 2), (.cell 0 0, .av (vv (.int .i64 (numF FB w).2))), (.cell 0 1, .av (.p (.ps (row.map Val.row)))), (.var 1, .n 1), (.cell 1 0, .av (.ptr 0 0)), (.var 2, .n 6), (.cell 2 0, .av (vv (.int .u8 op))), (.cell 2 1, .av (vv (.int .i64 col))), (.cell 2 2, .av (vv (.bool c.t))), (.cell 2 3, .av (vv (.int .i64 c.n))), (.cell 2 4, .av (vv (.string c.s))), (.cell 2 5, .av (.p (.ps (kids.map E.row))))] := by
  refine sk Try.func162 ?_
  intro F G hn hG
  have hk2 : (1 : Int) < (kids.length : Int) := by omega
  refine sq ?_
  refine rg 1000 ?_
  refine pr [0, 9] ?_
  refine sq ?_
  refine dr ?_
  refine de 2000 ?_
  refine dc id (spec108 row hrow bo bc bv bk FB hb w) ?_
  refine de 2100 ?_
  refine dn ?_
  refine pr [2, 3] ?_
  refine k_ret ?_
  show retQ _ _ _ _ _ _ _
  simp [*]

attribute [local simp] E.av E.row_eq Val.av Val.num fitF bitV sumR in
theorem spec107_err (row : List Val) (hrow : row.length ≤ Flat.lim) (op : Int) (col : Int) (c : Val) (kids : List E) (FB : Int → Val × Int) (FE : Int → Val × Int) (n w : Int) (hw : (w != 0) = true) : Flat.Sp Try.prog 107 [.ptr 0 0, (E.mk op col c kids).av, vv (.int .i64 n)] [(.var 0, .n 2), (.cell 0 0, .av (vv (.int .i64 w))), (.cell 0 1, .av (.p (.ps (row.map Val.row))))] ((sumR op n FB FE w).1.av) [(.var 0, .n 2), (.cell 0 0, .av (vv (.int .i64 (sumR op n FB FE w).2))), (.cell 0 1, .av (.p (.ps (row.map Val.row))))] := by
  refine sk Try.func107 ?_
  intro F G hn hG
  refine sq ?_
  refine rg 1000 ?_
  refine pr [2, 5, 6, 96] ?_
  refine sq ?_
  refine sq ?_
  refine rg 2000 ?_
  refine pr [2, 5, 6, 8, 13, 96] ?_
  refine ct ?_
  refine sq ?_
  refine rg 3000 ?_
  refine pr [2, 5, 6, 8, 15, 96] ?_
  refine k_ret ?_
  show retQ _ _ _ _ _ _ _
  simp [*]

attribute [local simp] E.av E.row_eq Val.av Val.num fitF bitV sumR in
theorem spec107_not (row : List Val) (hrow : row.length ≤ Flat.lim) (col : Int) (c : Val) (kids : List E) (FB : Int → Val × Int) (FE : Int → Val × Int) (n w : Int) (hw : (w != 0) = false) : Flat.Sp Try.prog 107 [.ptr 0 0, (E.mk 11 col c kids).av, vv (.int .i64 n)] [(.var 0, .n 2), (.cell 0 0, .av (vv (.int .i64 w))), (.cell 0 1, .av (.p (.ps (row.map Val.row))))] ((sumR 11 n FB FE w).1.av) [(.var 0, .n 2), (.cell 0 0, .av (vv (.int .i64 (sumR 11 n FB FE w).2))), (.cell 0 1, .av (.p (.ps (row.map Val.row))))] := by
  refine sk Try.func107 ?_
  intro F G hn hG
  refine sq ?_
  refine rg 1000 ?_
  refine pr [2, 5, 6, 96] ?_
  refine sq ?_
  refine sq ?_
  refine rg 2000 ?_
  refine pr [2, 5, 6, 8, 13, 96] ?_
  refine ce ?_
  refine k_skip ?_
  refine sq ?_
  refine rg 4000 ?_
  refine pr [2, 5, 6, 8, 16, 96] ?_
  refine sq ?_
  refine sq ?_
  refine rg 5000 ?_
  refine pr [2, 5, 6, 8, 17, 96] ?_
  refine k_block ?_
  refine sq ?_
  refine rg 6000 ?_
  refine pr [2, 5, 6, 8, 17, 19, 20, 96] ?_
  refine ct ?_
  refine sq ?_
  refine rc 7000 ?_
  refine oc id (spec106 (n == 0)) ?_
  refine oe 7100 ?_
  refine on ?_
  refine pr [2, 4, 6, 8, 88, 96] ?_
  refine k_ret ?_
  show retQ _ _ _ _ _ _ _
  simp [*]

attribute [local simp] E.av E.row_eq Val.av Val.num fitF bitV sumR in
theorem spec107_neg (row : List Val) (hrow : row.length ≤ Flat.lim) (col : Int) (c : Val) (kids : List E) (FB : Int → Val × Int) (FE : Int → Val × Int) (n w : Int) (hw : (w != 0) = false) : Flat.Sp Try.prog 107 [.ptr 0 0, (E.mk 6 col c kids).av, vv (.int .i64 n)] [(.var 0, .n 2), (.cell 0 0, .av (vv (.int .i64 w))), (.cell 0 1, .av (.p (.ps (row.map Val.row))))] ((sumR 6 n FB FE w).1.av) [(.var 0, .n 2), (.cell 0 0, .av (vv (.int .i64 (sumR 6 n FB FE w).2))), (.cell 0 1, .av (.p (.ps (row.map Val.row))))] := by
  refine sk Try.func107 ?_
  intro F G hn hG
  refine sq ?_
  refine rg 1000 ?_
  refine pr [2, 5, 6, 96] ?_
  refine sq ?_
  refine sq ?_
  refine rg 2000 ?_
  refine pr [2, 5, 6, 8, 13, 96] ?_
  refine ce ?_
  refine k_skip ?_
  refine sq ?_
  refine rg 4000 ?_
  refine pr [2, 5, 6, 8, 16, 96] ?_
  refine sq ?_
  refine sq ?_
  refine rg 5000 ?_
  refine pr [2, 5, 6, 8, 17, 96] ?_
  refine k_block ?_
  refine sq ?_
  refine rg 6000 ?_
  refine pr [2, 5, 6, 8, 17, 19, 20, 96] ?_
  refine ce ?_
  refine sq ?_
  refine rg 8000 ?_
  refine pr [2, 5, 6, 8, 17, 18, 23, 24, 25, 96] ?_
  refine ct ?_
  refine sq ?_
  refine dr ?_
  refine de 9000 ?_
  refine dc id (spec164 0 n) ?_
  refine de 9100 ?_
  refine dc id (spec163 w (.ps (row.map Val.row)) (lessR 0 n).1 (lessR 0 n).2) ?_
  refine de 9200 ?_
  refine dn ?_
  refine pr [2, 4, 6, 8, 88, 96] ?_
  refine k_ret ?_
  show retQ _ _ _ _ _ _ _
  simp [*]

end Go.Proofs
end
section
set_option linter.unusedVariables false
set_option linter.unusedSimpArgs false
namespace Go.Proofs
open Go.Flat
set_option maxRecDepth 100000
set_option linter.unusedSimpArgs false
set_option linter.unusedVariables false
attribute [local simp] Bool.and_assoc Bool.or_assoc evalG evalX efD skF guardG guardL isCall stepL evalOp ev evs lk tmpsL app AV.ok fresh vv putCells insV ins del putL place Go.Flat.look fillC fillR getCells loadF storeF binF scalarBin intBin strBin isShift shiftBin unF lenF maxF minF rowsF appendF builtinF idxF natOf sliceP sliceF optEv Flat.cut overwrite toPV toPVs constAV scalarC scalarCs AV.cells TI.isAgg allSome andAll scalarEq buildable Go.Flat.lim retQ resL resAll resOne PartOf noTmp closedIn refs refs.refsL isSomeV hasB ids leA leA.leL renA renA.renL callB refsAll backL dropIds renS LiesAt injB ownB freshB memN locId insAll leA_refl leL_refl okS frzS frzA frzA.frzL evalD feet fine updCells cellsFrom memP footRf footWf noTmpU updIds opOps opIds idsA footR footW guardTs opTs dstTs callR callW renLoc renC inBlockQ thenQ Value.oneCell' IntKind.bits IntKind.signed callWk without

attribute [local simp] E.av E.row_eq Val.av Val.num fitF bitV sumR in
theorem spec107_and1 (row : List Val) (hrow : row.length ≤ Flat.lim) (col : Int) (c : Val) (kids : List E) (bo bc : Int) (bv : Val) (bk : List E) (FB : Int → Val × Int) (hb : ∀ w : Int, Flat.Sp Try.prog 55 [.ptr 0 0, (E.mk bo bc bv bk).av] [(.var 0, .n 2), (.cell 0 0, .av (vv (.int .i64 w))), (.cell 0 1, .av (.p (.ps (row.map Val.row))))] (FB w).1.av [(.var 0, .n 2), (.cell 0 0, .av (vv (.int .i64 (FB w).2))), (.cell 0 1, .av (.p (.ps (row.map Val.row))))]) (hk1 : 1 < kids.length) (hkb : kids[1] = E.mk bo bc bv bk) (FE : Int → Val × Int) (n w : Int) (hw : (w != 0) = false)(hn0 : (n != 0) = true) : Flat.Sp Try.prog 107 [.ptr 0 0, (E.mk 9 col c kids).av, vv (.int .i64 n)] [(.var 0, .n 2), (.cell 0 0, .av (vv (.int .i64 w))), (.cell 0 1, .av (.p (.ps (row.map Val.row))))] ((sumR 9 n FB FE w).1.av) [(.var 0, .n 2), (.cell 0 0, .av (vv (.int .i64 (sumR 9 n FB FE w).2))), (.cell 0 1, .av (.p (.ps (row.map Val.row))))] := by
  refine sk Try.func107 ?_
  intro F G hn hG
  have hk2 : (1 : Int) < (kids.length : Int) := by omega
  refine sq ?_
  refine rg 1000 ?_
  refine pr [2, 5, 6, 96] ?_
  refine sq ?_
  refine sq ?_
  refine rg 2000 ?_
  refine pr [2, 5, 6, 8, 13, 96] ?_
  refine ce ?_
  refine k_skip ?_
  refine sq ?_
  refine rg 4000 ?_
  refine pr [2, 5, 6, 8, 16, 96] ?_
  refine sq ?_
  refine sq ?_
  refine rg 5000 ?_
  refine pr [2, 5, 6, 8, 17, 96] ?_
  refine k_block ?_
  refine sq ?_
  refine rg 6000 ?_
  refine pr [2, 5, 6, 8, 17, 19, 20, 96] ?_
  refine ce ?_
  refine sq ?_
  refine rg 8000 ?_
  refine pr [2, 5, 6, 8, 17, 18, 23, 24, 25, 96] ?_
  refine ce ?_
  refine sq ?_
  refine rg 10000 ?_
  refine pr [2, 5, 6, 8, 17, 18, 31, 32, 33, 96] ?_
  refine ct ?_
  refine sq ?_
  refine rc 11000 ?_
  first | refine gp 11050 ?_ | refine os ?_ | refine gt 11050 ?_
  refine oc (fun k => if k = 1 then 1000 else if k = 2 then 1001 else k) (spec162 row hrow 9 col c kids bo bc bv bk FB hb hk1 hkb w) ?_
  first | refine gp 11250 ?_ | refine os ?_ | refine gt 11250 ?_
  refine oe 11300 ?_
  refine oc id (spec106 ((numF FB w).1 != 0)) ?_
  refine oe 11400 ?_
  refine on ?_
  refine pr [2, 4, 6, 8, 88, 96] ?_
  refine k_ret ?_
  show retQ _ _ _ _ _ _ _
  simp [*]

attribute [local simp] E.av E.row_eq Val.av Val.num fitF bitV sumR in
theorem spec107_and0 (row : List Val) (hrow : row.length ≤ Flat.lim) (col : Int) (c : Val) (kids : List E) (FB : Int → Val × Int) (FE : Int → Val × Int) (n w : Int) (hw : (w != 0) = false)(hn0 : (n != 0) = false) : Flat.Sp Try.prog 107 [.ptr 0 0, (E.mk 9 col c kids).av, vv (.int .i64 n)] [(.var 0, .n 2), (.cell 0 0, .av (vv (.int .i64 w))), (.cell 0 1, .av (.p (.ps (row.map Val.row))))] ((sumR 9 n FB FE w).1.av) [(.var 0, .n 2), (.cell 0 0, .av (vv (.int .i64 (sumR 9 n FB FE w).2))), (.cell 0 1, .av (.p (.ps (row.map Val.row))))] := by
  refine sk Try.func107 ?_
  intro F G hn hG
  refine sq ?_
  refine rg 1000 ?_
  refine pr [2, 5, 6, 96] ?_
  refine sq ?_
  refine sq ?_
  refine rg 2000 ?_
  refine pr [2, 5, 6, 8, 13, 96] ?_
  refine ce ?_
  refine k_skip ?_
  refine sq ?_
  refine rg 4000 ?_
  refine pr [2, 5, 6, 8, 16, 96] ?_
  refine sq ?_
  refine sq ?_
  refine rg 5000 ?_
  refine pr [2, 5, 6, 8, 17, 96] ?_
  refine k_block ?_
  refine sq ?_
  refine rg 6000 ?_
  refine pr [2, 5, 6, 8, 17, 19, 20, 96] ?_
  refine ce ?_
  refine sq ?_
  refine rg 8000 ?_
  refine pr [2, 5, 6, 8, 17, 18, 23, 24, 25, 96] ?_
  refine ce ?_
  refine sq ?_
  refine rg 10000 ?_
  refine pr [2, 5, 6, 8, 17, 18, 31, 32, 33, 96] ?_
  refine ct ?_
  refine sq ?_
  refine rc 11000 ?_
  first | refine gp 11050 ?_ | refine os ?_ | refine gt 11050 ?_
  refine os ?_
  first | refine gp 11250 ?_ | refine os ?_ | refine gt 11250 ?_
  refine oe 11300 ?_
  refine oc id (spec106 false) ?_
  refine oe 11400 ?_
  refine on ?_
  refine pr [2, 4, 6, 8, 88, 96] ?_
  refine k_ret ?_
  show retQ _ _ _ _ _ _ _
  simp [*]

attribute [local simp] E.av E.row_eq Val.av Val.num fitF bitV sumR in
theorem spec107_or0 (row : List Val) (hrow : row.length ≤ Flat.lim) (col : Int) (c : Val) (kids : List E) (bo bc : Int) (bv : Val) (bk : List E) (FB : Int → Val × Int) (hb : ∀ w : Int, Flat.Sp Try.prog 55 [.ptr 0 0, (E.mk bo bc bv bk).av] [(.var 0, .n 2), (.cell 0 0, .av (vv (.int .i64 w))), (.cell 0 1, .av (.p (.ps (row.map Val.row))))] (FB w).1.av [(.var 0, .n 2), (.cell 0 0, .av (vv (.int .i64 (FB w).2))), (.cell 0 1, .av (.p (.ps (row.map Val.row))))]) (hk1 : 1 < kids.length) (hkb : kids[1] = E.mk bo bc bv bk) (FE : Int → Val × Int) (n w : Int) (hw : (w != 0) = false)(hn0 : (n != 0) = false) : Flat.Sp Try.prog 107 [.ptr 0 0, (E.mk 10 col c kids).av, vv (.int .i64 n)] [(.var 0, .n 2), (.cell 0 0, .av (vv (.int .i64 w))), (.cell 0 1, .av (.p (.ps (row.map Val.row))))] ((sumR 10 n FB FE w).1.av) [(.var 0, .n 2), (.cell 0 0, .av (vv (.int .i64 (sumR 10 n FB FE w).2))), (.cell 0 1, .av (.p (.ps (row.map Val.row))))] := by
  refine sk Try.func107 ?_
  intro F G hn hG
  have hk2 : (1 : Int) < (kids.length : Int) := by omega
  refine sq ?_
  refine rg 1000 ?_
  refine pr [2, 5, 6, 96] ?_
  refine sq ?_
  refine sq ?_
  refine rg 2000 ?_
  refine pr [2, 5, 6, 8, 13, 96] ?_
  refine ce ?_
  refine k_skip ?_
  refine sq ?_
  refine rg 4000 ?_
  refine pr [2, 5, 6, 8, 16, 96] ?_
  refine sq ?_
  refine sq ?_
  refine rg 5000 ?_
  refine pr [2, 5, 6, 8, 17, 96] ?_
  refine k_block ?_
  refine sq ?_
  refine rg 6000 ?_
  refine pr [2, 5, 6, 8, 17, 19, 20, 96] ?_
  refine ce ?_
  refine sq ?_
  refine rg 8000 ?_
  refine pr [2, 5, 6, 8, 17, 18, 23, 24, 25, 96] ?_
  refine ce ?_
  refine sq ?_
  refine rg 10000 ?_
  refine pr [2, 5, 6, 8, 17, 18, 31, 32, 33, 96] ?_
  refine ce ?_
  refine sq ?_
  refine rg 12000 ?_
  refine pr [2, 5, 6, 8, 17, 18, 41, 42, 43, 96] ?_
  refine ct ?_
  refine sq ?_
  refine rc 13000 ?_
  first | refine gp 13050 ?_ | refine os ?_ | refine gt 13050 ?_
  refine oc (fun k => if k = 1 then 1000 else if k = 2 then 1001 else k) (spec162 row hrow 10 col c kids bo bc bv bk FB hb hk1 hkb w) ?_
  first | refine gp 13250 ?_ | refine os ?_ | refine gt 13250 ?_
  refine oe 13300 ?_
  refine oc id (spec106 ((numF FB w).1 != 0)) ?_
  refine oe 13400 ?_
  refine on ?_
  refine pr [2, 4, 6, 8, 88, 96] ?_
  refine k_ret ?_
  show retQ _ _ _ _ _ _ _
  simp [*]

attribute [local simp] E.av E.row_eq Val.av Val.num fitF bitV sumR in
theorem spec107_or1 (row : List Val) (hrow : row.length ≤ Flat.lim) (col : Int) (c : Val) (kids : List E) (FB : Int → Val × Int) (FE : Int → Val × Int) (n w : Int) (hw : (w != 0) = false)(hn0 : (n != 0) = true) : Flat.Sp Try.prog 107 [.ptr 0 0, (E.mk 10 col c kids).av, vv (.int .i64 n)] [(.var 0, .n 2), (.cell 0 0, .av (vv (.int .i64 w))), (.cell 0 1, .av (.p (.ps (row.map Val.row))))] ((sumR 10 n FB FE w).1.av) [(.var 0, .n 2), (.cell 0 0, .av (vv (.int .i64 (sumR 10 n FB FE w).2))), (.cell 0 1, .av (.p (.ps (row.map Val.row))))] := by
  refine sk Try.func107 ?_
  intro F G hn hG
  refine sq ?_
  refine rg 1000 ?_
  refine pr [2, 5, 6, 96] ?_
  refine sq ?_
  refine sq ?_
  refine rg 2000 ?_
  refine pr [2, 5, 6, 8, 13, 96] ?_
  refine ce ?_
  refine k_skip ?_
  refine sq ?_
  refine rg 4000 ?_
  refine pr [2, 5, 6, 8, 16, 96] ?_
  refine sq ?_
  refine sq ?_
  refine rg 5000 ?_
  refine pr [2, 5, 6, 8, 17, 96] ?_
  refine k_block ?_
  refine sq ?_
  refine rg 6000 ?_
  refine pr [2, 5, 6, 8, 17, 19, 20, 96] ?_
  refine ce ?_
  refine sq ?_
  refine rg 8000 ?_
  refine pr [2, 5, 6, 8, 17, 18, 23, 24, 25, 96] ?_
  refine ce ?_
  refine sq ?_
  refine rg 10000 ?_
  refine pr [2, 5, 6, 8, 17, 18, 31, 32, 33, 96] ?_
  refine ce ?_
  refine sq ?_
  refine rg 12000 ?_
  refine pr [2, 5, 6, 8, 17, 18, 41, 42, 43, 96] ?_
  refine ct ?_
  refine sq ?_
  refine rc 13000 ?_
  first | refine gp 13050 ?_ | refine os ?_ | refine gt 13050 ?_
  refine os ?_
  first | refine gp 13250 ?_ | refine os ?_ | refine gt 13250 ?_
  refine oe 13300 ?_
  refine oc id (spec106 true) ?_
  refine oe 13400 ?_
  refine on ?_
  refine pr [2, 4, 6, 8, 88, 96] ?_
  refine k_ret ?_
  show retQ _ _ _ _ _ _ _
  simp [*]

attribute [local simp] E.av E.row_eq Val.av Val.num fitF bitV sumR in
theorem spec107_if1 (row : List Val) (hrow : row.length ≤ Flat.lim) (col : Int) (c : Val) (kids : List E) (bo bc : Int) (bv : Val) (bk : List E) (FB : Int → Val × Int) (hb : ∀ w : Int, Flat.Sp Try.prog 55 [.ptr 0 0, (E.mk bo bc bv bk).av] [(.var 0, .n 2), (.cell 0 0, .av (vv (.int .i64 w))), (.cell 0 1, .av (.p (.ps (row.map Val.row))))] (FB w).1.av [(.var 0, .n 2), (.cell 0 0, .av (vv (.int .i64 (FB w).2))), (.cell 0 1, .av (.p (.ps (row.map Val.row))))]) (hk1 : 1 < kids.length) (hkb : kids[1] = E.mk bo bc bv bk) (FE : Int → Val × Int) (n w : Int) (hw : (w != 0) = false)(hn0 : (n != 0) = true) : Flat.Sp Try.prog 107 [.ptr 0 0, (E.mk 12 col c kids).av, vv (.int .i64 n)] [(.var 0, .n 2), (.cell 0 0, .av (vv (.int .i64 w))), (.cell 0 1, .av (.p (.ps (row.map Val.row))))] ((sumR 12 n FB FE w).1.av) [(.var 0, .n 2), (.cell 0 0, .av (vv (.int .i64 (sumR 12 n FB FE w).2))), (.cell 0 1, .av (.p (.ps (row.map Val.row))))] := by
  refine sk Try.func107 ?_
  intro F G hn hG
  have hk2 : (1 : Int) < (kids.length : Int) := by omega
  refine sq ?_
  refine rg 1000 ?_
  refine pr [2, 5, 6, 96] ?_
  refine sq ?_
  refine sq ?_
  refine rg 2000 ?_
  refine pr [2, 5, 6, 8, 13, 96] ?_
  refine ce ?_
  refine k_skip ?_
  refine sq ?_
  refine rg 4000 ?_
  refine pr [2, 5, 6, 8, 16, 96] ?_
  refine sq ?_
  refine sq ?_
  refine rg 5000 ?_
  refine pr [2, 5, 6, 8, 17, 96] ?_
  refine k_block ?_
  refine sq ?_
  refine rg 6000 ?_
  refine pr [2, 5, 6, 8, 17, 19, 20, 96] ?_
  refine ce ?_
  refine sq ?_
  refine rg 8000 ?_
  refine pr [2, 5, 6, 8, 17, 18, 23, 24, 25, 96] ?_
  refine ce ?_
  refine sq ?_
  refine rg 10000 ?_
  refine pr [2, 5, 6, 8, 17, 18, 31, 32, 33, 96] ?_
  refine ce ?_
  refine sq ?_
  refine rg 12000 ?_
  refine pr [2, 5, 6, 8, 17, 18, 41, 42, 43, 96] ?_
  refine ce ?_
  refine sq ?_
  refine rg 14000 ?_
  refine pr [2, 5, 6, 8, 17, 18, 51, 52, 53, 96] ?_
  refine ct ?_
  refine sq ?_
  refine sq ?_
  refine rg 15000 ?_
  refine pr [2, 5, 6, 8, 54, 67, 88, 96] ?_
  refine ct ?_
  refine sq ?_
  refine dr ?_
  refine de 16000 ?_
  refine dc id (hb w) ?_
  refine de 16100 ?_
  refine dn ?_
  refine pr [2, 5, 6, 8, 61, 67, 88, 96] ?_
  refine k_ret ?_
  show retQ _ _ _ _ _ _ _
  simp [*]

attribute [local simp] E.av E.row_eq Val.av Val.num fitF bitV sumR in
theorem spec107_if0 (row : List Val) (hrow : row.length ≤ Flat.lim) (col : Int) (c : Val) (kids : List E) (eo ec : Int) (ev : Val) (ek : List E) (FE : Int → Val × Int) (he : ∀ w : Int, Flat.Sp Try.prog 55 [.ptr 0 0, (E.mk eo ec ev ek).av] [(.var 0, .n 2), (.cell 0 0, .av (vv (.int .i64 w))), (.cell 0 1, .av (.p (.ps (row.map Val.row))))] (FE w).1.av [(.var 0, .n 2), (.cell 0 0, .av (vv (.int .i64 (FE w).2))), (.cell 0 1, .av (.p (.ps (row.map Val.row))))]) (hk3 : 2 < kids.length) (hke : kids[2] = E.mk eo ec ev ek) (FB : Int → Val × Int) (n w : Int) (hw : (w != 0) = false)(hn0 : (n != 0) = false) : Flat.Sp Try.prog 107 [.ptr 0 0, (E.mk 12 col c kids).av, vv (.int .i64 n)] [(.var 0, .n 2), (.cell 0 0, .av (vv (.int .i64 w))), (.cell 0 1, .av (.p (.ps (row.map Val.row))))] ((sumR 12 n FB FE w).1.av) [(.var 0, .n 2), (.cell 0 0, .av (vv (.int .i64 (sumR 12 n FB FE w).2))), (.cell 0 1, .av (.p (.ps (row.map Val.row))))] := by
  refine sk Try.func107 ?_
  intro F G hn hG
  have hk4 : (2 : Int) < (kids.length : Int) := by omega
  refine sq ?_
  refine rg 1000 ?_
  refine pr [2, 5, 6, 96] ?_
  refine sq ?_
  refine sq ?_
  refine rg 2000 ?_
  refine pr [2, 5, 6, 8, 13, 96] ?_
  refine ce ?_
  refine k_skip ?_
  refine sq ?_
  refine rg 4000 ?_
  refine pr [2, 5, 6, 8, 16, 96] ?_
  refine sq ?_
  refine sq ?_
  refine rg 5000 ?_
  refine pr [2, 5, 6, 8, 17, 96] ?_
  refine k_block ?_
  refine sq ?_
  refine rg 6000 ?_
  refine pr [2, 5, 6, 8, 17, 19, 20, 96] ?_
  refine ce ?_
  refine sq ?_
  refine rg 8000 ?_
  refine pr [2, 5, 6, 8, 17, 18, 23, 24, 25, 96] ?_
  refine ce ?_
  refine sq ?_
  refine rg 10000 ?_
  refine pr [2, 5, 6, 8, 17, 18, 31, 32, 33, 96] ?_
  refine ce ?_
  refine sq ?_
  refine rg 12000 ?_
  refine pr [2, 5, 6, 8, 17, 18, 41, 42, 43, 96] ?_
  refine ce ?_
  refine sq ?_
  refine rg 14000 ?_
  refine pr [2, 5, 6, 8, 17, 18, 51, 52, 53, 96] ?_
  refine ct ?_
  refine sq ?_
  refine sq ?_
  refine rg 15000 ?_
  refine pr [2, 5, 6, 8, 54, 67, 88, 96] ?_
  refine ce ?_
  refine k_skip ?_
  refine sq ?_
  refine dr ?_
  refine de 17000 ?_
  refine dc id (he w) ?_
  refine de 17100 ?_
  refine dn ?_
  refine pr [2, 4, 6, 8, 88, 96] ?_
  refine k_ret ?_
  show retQ _ _ _ _ _ _ _
  simp [*]

attribute [local simp] E.av E.row_eq Val.av Val.num fitF bitV sumR in
theorem spec107_add (row : List Val) (hrow : row.length ≤ Flat.lim) (col : Int) (c : Val) (kids : List E) (bo bc : Int) (bv : Val) (bk : List E) (FB : Int → Val × Int) (hb : ∀ w : Int, Flat.Sp Try.prog 55 [.ptr 0 0, (E.mk bo bc bv bk).av] [(.var 0, .n 2), (.cell 0 0, .av (vv (.int .i64 w))), (.cell 0 1, .av (.p (.ps (row.map Val.row))))] (FB w).1.av [(.var 0, .n 2), (.cell 0 0, .av (vv (.int .i64 (FB w).2))), (.cell 0 1, .av (.p (.ps (row.map Val.row))))]) (hk1 : 1 < kids.length) (hkb : kids[1] = E.mk bo bc bv bk) (FE : Int → Val × Int) (n w : Int) (hw : (w != 0) = false) : Flat.Sp Try.prog 107 [.ptr 0 0, (E.mk 3 col c kids).av, vv (.int .i64 n)] [(.var 0, .n 2), (.cell 0 0, .av (vv (.int .i64 w))), (.cell 0 1, .av (.p (.ps (row.map Val.row))))] ((sumR 3 n FB FE w).1.av) [(.var 0, .n 2), (.cell 0 0, .av (vv (.int .i64 (sumR 3 n FB FE w).2))), (.cell 0 1, .av (.p (.ps (row.map Val.row))))] := by
  refine sk Try.func107 ?_
  intro F G hn hG
  have hk2 : (1 : Int) < (kids.length : Int) := by omega
  refine sq ?_
  refine rg 1000 ?_
  refine pr [2, 5, 6, 96] ?_
  refine sq ?_
  refine sq ?_
  refine rg 2000 ?_
  refine pr [2, 5, 6, 8, 13, 96] ?_
  refine ce ?_
  refine k_skip ?_
  refine sq ?_
  refine rg 4000 ?_
  refine pr [2, 5, 6, 8, 16, 96] ?_
  refine sq ?_
  refine sq ?_
  refine rg 5000 ?_
  refine pr [2, 5, 6, 8, 17, 96] ?_
  refine k_block ?_
  refine sq ?_
  refine rg 6000 ?_
  refine pr [2, 5, 6, 8, 17, 19, 20, 96] ?_
  refine ce ?_
  refine sq ?_
  refine rg 8000 ?_
  refine pr [2, 5, 6, 8, 17, 18, 23, 24, 25, 96] ?_
  refine ce ?_
  refine sq ?_
  refine rg 10000 ?_
  refine pr [2, 5, 6, 8, 17, 18, 31, 32, 33, 96] ?_
  refine ce ?_
  refine sq ?_
  refine rg 12000 ?_
  refine pr [2, 5, 6, 8, 17, 18, 41, 42, 43, 96] ?_
  refine ce ?_
  refine sq ?_
  refine rg 14000 ?_
  refine pr [2, 5, 6, 8, 17, 18, 51, 52, 53, 96] ?_
  refine ce ?_
  refine sq ?_
  refine rg 18000 ?_
  refine pr [2, 4, 6, 8, 17, 18, 67, 68, 69, 96] ?_
  refine ct ?_
  refine sq ?_
  refine dr ?_
  refine de 19000 ?_
  refine dk [1000, 1001] (fun k => if k = 1 then 1000 else if k = 2 then 1001 else k) (spec162 row hrow 3 col c kids bo bc bv bk FB hb hk1 hkb w) ?_
  refine de 19100 ?_
  refine dc id (spec165 [n, (numF FB w).1] (by simp [Flat.lim])) ?_ (hg := by simp [*, irow]) (hf := by simp [*, irow]; exact is_rfl _) (hx := by simp [*, irow]; exact is_rfl _) (hargs := by simp [*, irow]) (hB := by simp [*, irow]) (hL := by simp [*, irow]) (hd := by simp [*, irow]; exact is_rfl _)
  refine de 19200 ?_
  refine dc id (spec163 (numF FB w).2 (.ps (row.map Val.row)) (tfit (tsum [n, (numF FB w).1])).1 (tfit (tsum [n, (numF FB w).1])).2) ?_
  refine de 19300 ?_
  refine dn ?_
  refine pr [2, 4, 6, 8, 88, 96] ?_
  refine k_ret ?_
  show retQ _ _ _ _ _ _ _
  simp [*]

attribute [local simp] E.av E.row_eq Val.av Val.num fitF bitV sumR in
theorem spec107_sub (row : List Val) (hrow : row.length ≤ Flat.lim) (col : Int) (c : Val) (kids : List E) (bo bc : Int) (bv : Val) (bk : List E) (FB : Int → Val × Int) (hb : ∀ w : Int, Flat.Sp Try.prog 55 [.ptr 0 0, (E.mk bo bc bv bk).av] [(.var 0, .n 2), (.cell 0 0, .av (vv (.int .i64 w))), (.cell 0 1, .av (.p (.ps (row.map Val.row))))] (FB w).1.av [(.var 0, .n 2), (.cell 0 0, .av (vv (.int .i64 (FB w).2))), (.cell 0 1, .av (.p (.ps (row.map Val.row))))]) (hk1 : 1 < kids.length) (hkb : kids[1] = E.mk bo bc bv bk) (FE : Int → Val × Int) (n w : Int) (hw : (w != 0) = false) : Flat.Sp Try.prog 107 [.ptr 0 0, (E.mk 4 col c kids).av, vv (.int .i64 n)] [(.var 0, .n 2), (.cell 0 0, .av (vv (.int .i64 w))), (.cell 0 1, .av (.p (.ps (row.map Val.row))))] ((sumR 4 n FB FE w).1.av) [(.var 0, .n 2), (.cell 0 0, .av (vv (.int .i64 (sumR 4 n FB FE w).2))), (.cell 0 1, .av (.p (.ps (row.map Val.row))))] := by
  refine sk Try.func107 ?_
  intro F G hn hG
  have hk2 : (1 : Int) < (kids.length : Int) := by omega
  refine sq ?_
  refine rg 1000 ?_
  refine pr [2, 5, 6, 96] ?_
  refine sq ?_
  refine sq ?_
  refine rg 2000 ?_
  refine pr [2, 5, 6, 8, 13, 96] ?_
  refine ce ?_
  refine k_skip ?_
  refine sq ?_
  refine rg 4000 ?_
  refine pr [2, 5, 6, 8, 16, 96] ?_
  refine sq ?_
  refine sq ?_
  refine rg 5000 ?_
  refine pr [2, 5, 6, 8, 17, 96] ?_
  refine k_block ?_
  refine sq ?_
  refine rg 6000 ?_
  refine pr [2, 5, 6, 8, 17, 19, 20, 96] ?_
  refine ce ?_
  refine sq ?_
  refine rg 8000 ?_
  refine pr [2, 5, 6, 8, 17, 18, 23, 24, 25, 96] ?_
  refine ce ?_
  refine sq ?_
  refine rg 10000 ?_
  refine pr [2, 5, 6, 8, 17, 18, 31, 32, 33, 96] ?_
  refine ce ?_
  refine sq ?_
  refine rg 12000 ?_
  refine pr [2, 5, 6, 8, 17, 18, 41, 42, 43, 96] ?_
  refine ce ?_
  refine sq ?_
  refine rg 14000 ?_
  refine pr [2, 5, 6, 8, 17, 18, 51, 52, 53, 96] ?_
  refine ce ?_
  refine sq ?_
  refine rg 18000 ?_
  refine pr [2, 4, 6, 8, 17, 18, 67, 68, 69, 96] ?_
  refine ce ?_
  refine sq ?_
  refine rg 20000 ?_
  refine pr [2, 4, 6, 8, 78, 79, 80, 96] ?_
  refine ct ?_
  refine sq ?_
  refine dr ?_
  refine de 21000 ?_
  refine dk [1000, 1001] (fun k => if k = 1 then 1000 else if k = 2 then 1001 else k) (spec162 row hrow 4 col c kids bo bc bv bk FB hb hk1 hkb w) ?_
  refine dc id (spec164 n (numF FB w).1) ?_
  refine de 21200 ?_
  refine dc id (spec163 (numF FB w).2 (.ps (row.map Val.row)) (lessR n (numF FB w).1).1 (lessR n (numF FB w).1).2) ?_
  refine de 21300 ?_
  refine dn ?_
  refine pr [2, 4, 6, 8, 88, 96] ?_
  refine k_ret ?_
  show retQ _ _ _ _ _ _ _
  simp [*]

attribute [local simp] E.av E.row_eq Val.av Val.num fitF bitV sumR in
theorem spec107_mul (row : List Val) (hrow : row.length ≤ Flat.lim) (col : Int) (c : Val) (kids : List E) (bo bc : Int) (bv : Val) (bk : List E) (FB : Int → Val × Int) (hb : ∀ w : Int, Flat.Sp Try.prog 55 [.ptr 0 0, (E.mk bo bc bv bk).av] [(.var 0, .n 2), (.cell 0 0, .av (vv (.int .i64 w))), (.cell 0 1, .av (.p (.ps (row.map Val.row))))] (FB w).1.av [(.var 0, .n 2), (.cell 0 0, .av (vv (.int .i64 (FB w).2))), (.cell 0 1, .av (.p (.ps (row.map Val.row))))]) (hk1 : 1 < kids.length) (hkb : kids[1] = E.mk bo bc bv bk) (FE : Int → Val × Int) (n w : Int) (hw : (w != 0) = false) : Flat.Sp Try.prog 107 [.ptr 0 0, (E.mk 5 col c kids).av, vv (.int .i64 n)] [(.var 0, .n 2), (.cell 0 0, .av (vv (.int .i64 w))), (.cell 0 1, .av (.p (.ps (row.map Val.row))))] ((sumR 5 n FB FE w).1.av) [(.var 0, .n 2), (.cell 0 0, .av (vv (.int .i64 (sumR 5 n FB FE w).2))), (.cell 0 1, .av (.p (.ps (row.map Val.row))))] := by
  refine sk Try.func107 ?_
  intro F G hn hG
  have hk2 : (1 : Int) < (kids.length : Int) := by omega
  refine sq ?_
  refine rg 1000 ?_
  refine pr [2, 5, 6, 96] ?_
  refine sq ?_
  refine sq ?_
  refine rg 2000 ?_
  refine pr [2, 5, 6, 8, 13, 96] ?_
  refine ce ?_
  refine k_skip ?_
  refine sq ?_
  refine rg 4000 ?_
  refine pr [2, 5, 6, 8, 16, 96] ?_
  refine sq ?_
  refine sq ?_
  refine rg 5000 ?_
  refine pr [2, 5, 6, 8, 17, 96] ?_
  refine k_block ?_
  refine sq ?_
  refine rg 6000 ?_
  refine pr [2, 5, 6, 8, 17, 19, 20, 96] ?_
  refine ce ?_
  refine sq ?_
  refine rg 8000 ?_
  refine pr [2, 5, 6, 8, 17, 18, 23, 24, 25, 96] ?_
  refine ce ?_
  refine sq ?_
  refine rg 10000 ?_
  refine pr [2, 5, 6, 8, 17, 18, 31, 32, 33, 96] ?_
  refine ce ?_
  refine sq ?_
  refine rg 12000 ?_
  refine pr [2, 5, 6, 8, 17, 18, 41, 42, 43, 96] ?_
  refine ce ?_
  refine sq ?_
  refine rg 14000 ?_
  refine pr [2, 5, 6, 8, 17, 18, 51, 52, 53, 96] ?_
  refine ce ?_
  refine sq ?_
  refine rg 18000 ?_
  refine pr [2, 4, 6, 8, 17, 18, 67, 68, 69, 96] ?_
  refine ce ?_
  refine sq ?_
  refine rg 20000 ?_
  refine pr [2, 4, 6, 8, 78, 79, 80, 96] ?_
  refine ce ?_
  refine k_skip ?_
  refine k_nil ?_
  show AK _ _ _ _ _ _
  refine sq ?_
  refine dr ?_
  refine de 22000 ?_
  refine dk [1000, 1001] (fun k => if k = 1 then 1000 else if k = 2 then 1001 else k) (spec162 row hrow 5 col c kids bo bc bv bk FB hb hk1 hkb w) ?_
  refine dc id (spec95 n (numF FB w).1) ?_
  refine de 22200 ?_
  refine dc id (spec163 (numF FB w).2 (.ps (row.map Val.row)) (timesR n (numF FB w).1).1 (timesR n (numF FB w).1).2) ?_
  refine de 22300 ?_
  refine dn ?_
  refine pr [6, 7] ?_
  refine k_ret ?_
  show retQ _ _ _ _ _ _ _
  simp [*]

/-- What is left of an expression's sum, of whatever shape. -/
theorem spec107_one (row : List Val) (hrow : row.length ≤ Flat.lim) (op col : Int) (c : Val) (kids : List E) (hop : op = 6 ∨ op = 11) (FB FE : Int → Val × Int) (n w : Int) : Flat.Sp Try.prog 107 [.ptr 0 0, (E.mk op col c kids).av, vv (.int .i64 n)] [(.var 0, .n 2), (.cell 0 0, .av (vv (.int .i64 w))), (.cell 0 1, .av (.p (.ps (row.map Val.row))))] ((sumR op n FB FE w).1.av) [(.var 0, .n 2), (.cell 0 0, .av (vv (.int .i64 (sumR op n FB FE w).2))), (.cell 0 1, .av (.p (.ps (row.map Val.row))))] := by
  cases hw : (w != 0) with
  | true => exact spec107_err row hrow op col c kids FB FE n w hw
  | false =>
    rcases hop with rfl | rfl
    · exact spec107_neg row hrow col c kids FB FE n w hw
    · exact spec107_not row hrow col c kids FB FE n w hw

theorem spec107_two (row : List Val) (hrow : row.length ≤ Flat.lim) (op col : Int) (c : Val) (kids : List E) (hop : op = 3 ∨ op = 4 ∨ op = 5 ∨ op = 9 ∨ op = 10) (bo bc : Int) (bv : Val) (bk : List E) (FB : Int → Val × Int) (hb : ∀ w : Int, Flat.Sp Try.prog 55 [.ptr 0 0, (E.mk bo bc bv bk).av] [(.var 0, .n 2), (.cell 0 0, .av (vv (.int .i64 w))), (.cell 0 1, .av (.p (.ps (row.map Val.row))))] (FB w).1.av [(.var 0, .n 2), (.cell 0 0, .av (vv (.int .i64 (FB w).2))), (.cell 0 1, .av (.p (.ps (row.map Val.row))))]) (hk1 : 1 < kids.length) (hkb : kids[1] = E.mk bo bc bv bk) (FE : Int → Val × Int) (n w : Int) : Flat.Sp Try.prog 107 [.ptr 0 0, (E.mk op col c kids).av, vv (.int .i64 n)] [(.var 0, .n 2), (.cell 0 0, .av (vv (.int .i64 w))), (.cell 0 1, .av (.p (.ps (row.map Val.row))))] ((sumR op n FB FE w).1.av) [(.var 0, .n 2), (.cell 0 0, .av (vv (.int .i64 (sumR op n FB FE w).2))), (.cell 0 1, .av (.p (.ps (row.map Val.row))))] := by
  cases hw : (w != 0) with
  | true => exact spec107_err row hrow op col c kids FB FE n w hw
  | false =>
    rcases hop with rfl | rfl | rfl | rfl | rfl
    · exact spec107_add row hrow col c kids bo bc bv bk FB hb hk1 hkb FE n w hw
    · exact spec107_sub row hrow col c kids bo bc bv bk FB hb hk1 hkb FE n w hw
    · exact spec107_mul row hrow col c kids bo bc bv bk FB hb hk1 hkb FE n w hw
    · cases hn0 : (n != 0) with
      | true => exact spec107_and1 row hrow col c kids bo bc bv bk FB hb hk1 hkb FE n w hw hn0
      | false => exact spec107_and0 row hrow col c kids FB FE n w hw hn0
    · cases hn0 : (n != 0) with
      | true => exact spec107_or1 row hrow col c kids FB FE n w hw hn0
      | false => exact spec107_or0 row hrow col c kids bo bc bv bk FB hb hk1 hkb FE n w hw hn0

theorem spec107_if (row : List Val) (hrow : row.length ≤ Flat.lim) (col : Int) (c : Val) (kids : List E) (bo bc : Int) (bv : Val) (bk : List E) (FB : Int → Val × Int) (hb : ∀ w : Int, Flat.Sp Try.prog 55 [.ptr 0 0, (E.mk bo bc bv bk).av] [(.var 0, .n 2), (.cell 0 0, .av (vv (.int .i64 w))), (.cell 0 1, .av (.p (.ps (row.map Val.row))))] (FB w).1.av [(.var 0, .n 2), (.cell 0 0, .av (vv (.int .i64 (FB w).2))), (.cell 0 1, .av (.p (.ps (row.map Val.row))))]) (hk1 : 1 < kids.length) (hkb : kids[1] = E.mk bo bc bv bk) (eo ec : Int) (ev : Val) (ek : List E) (FE : Int → Val × Int) (he : ∀ w : Int, Flat.Sp Try.prog 55 [.ptr 0 0, (E.mk eo ec ev ek).av] [(.var 0, .n 2), (.cell 0 0, .av (vv (.int .i64 w))), (.cell 0 1, .av (.p (.ps (row.map Val.row))))] (FE w).1.av [(.var 0, .n 2), (.cell 0 0, .av (vv (.int .i64 (FE w).2))), (.cell 0 1, .av (.p (.ps (row.map Val.row))))]) (hk3 : 2 < kids.length) (hke : kids[2] = E.mk eo ec ev ek) (n w : Int) : Flat.Sp Try.prog 107 [.ptr 0 0, (E.mk 12 col c kids).av, vv (.int .i64 n)] [(.var 0, .n 2), (.cell 0 0, .av (vv (.int .i64 w))), (.cell 0 1, .av (.p (.ps (row.map Val.row))))] ((sumR 12 n FB FE w).1.av) [(.var 0, .n 2), (.cell 0 0, .av (vv (.int .i64 (sumR 12 n FB FE w).2))), (.cell 0 1, .av (.p (.ps (row.map Val.row))))] := by
  cases hw : (w != 0) with
  | true => exact spec107_err row hrow 12 col c kids FB FE n w hw
  | false =>
    cases hn0 : (n != 0) with
    | true => exact spec107_if1 row hrow col c kids bo bc bv bk FB hb hk1 hkb FE n w hw hn0
    | false => exact spec107_if0 row hrow col c kids eo ec ev ek FE he hk3 hke FB n w hw hn0

end Go.Proofs
end
section
set_option linter.unusedVariables false
set_option linter.unusedSimpArgs false
namespace Go.Proofs
open Go.Flat
set_option maxRecDepth 100000
set_option linter.unusedSimpArgs false
set_option linter.unusedVariables false
attribute [local simp] Bool.and_assoc Bool.or_assoc evalG evalX efD skF guardG guardL isCall stepL evalOp ev evs lk tmpsL app AV.ok fresh vv putCells insV ins del putL place Go.Flat.look fillC fillR getCells loadF storeF binF scalarBin intBin strBin isShift shiftBin unF lenF maxF minF rowsF appendF builtinF idxF natOf sliceP sliceF optEv Flat.cut overwrite toPV toPVs constAV scalarC scalarCs AV.cells TI.isAgg allSome andAll scalarEq buildable Go.Flat.lim retQ resL resAll resOne PartOf noTmp closedIn refs refs.refsL isSomeV hasB ids leA leA.leL renA renA.renL callB refsAll backL dropIds renS LiesAt injB ownB freshB memN locId insAll leA_refl leL_refl okS frzS frzA frzA.frzL evalD feet fine updCells cellsFrom memP footRf footWf noTmpU updIds opOps opIds idsA footR footW guardTs opTs dstTs callR callW renLoc renC inBlockQ thenQ Value.oneCell' IntKind.bits IntKind.signed callWk without

attribute [local simp] E.av E.row_eq Val.av in
theorem spec55_one (row : List Val) (hrow : row.length ≤ Flat.lim) (op : Int) (col : Int) (c : Val) (ao ac : Int) (av : Val) (ak : List E) (hop : op = 6 ∨ op = 11) (ha : ∀ w : Int, Flat.Sp Try.prog 55 [.ptr 0 0, (E.mk ao ac av ak).av] [(.var 0, .n 2), (.cell 0 0, .av (vv (.int .i64 w))), (.cell 0 1, .av (.p (.ps (row.map Val.row))))] (reck row (E.mk ao ac av ak) w).1.av [(.var 0, .n 2), (.cell 0 0, .av (vv (.int .i64 (reck row (E.mk ao ac av ak) w).2))), (.cell 0 1, .av (.p (.ps (row.map Val.row))))]) (w : Int) (hw : (w != 0) = false) : Flat.Sp Try.prog 55 [.ptr 0 0, (E.mk op col c [E.mk ao ac av ak]).av] [(.var 0, .n 2), (.cell 0 0, .av (vv (.int .i64 w))), (.cell 0 1, .av (.p (.ps (row.map Val.row))))] ((reck row (E.mk op col c [E.mk ao ac av ak]) w).1.av) [(.var 0, .n 2), (.cell 0 0, .av (vv (.int .i64 (reck row (E.mk op col c [E.mk ao ac av ak]) w).2))), (.cell 0 1, .av (.p (.ps (row.map Val.row))))] := by
  refine sk Try.func55 ?_
  intro F G hn hG
  have ho1 : (op == 1) = false := by rcases hop with rfl | rfl <;> rfl
  have ho2 : (op == 2) = false := by rcases hop with rfl | rfl <;> rfl
  have ho7 : (op == 7) = false := by rcases hop with rfl | rfl <;> rfl
  have ho8 : (op == 8) = false := by rcases hop with rfl | rfl <;> rfl
  refine sq ?_
  refine rg 1000 ?_
  refine pr [0, 1, 3, 42, 43, 79, 80, 109] ?_
  refine sq ?_
  refine k_block ?_
  refine sq ?_
  refine rg 2000 ?_
  refine pr [0, 1, 3, 9, 15, 42, 43, 79, 80, 109] ?_
  refine ce ?_
  refine sq ?_
  refine rg 4000 ?_
  refine pr [0, 1, 3, 8, 16, 17, 20, 42, 43, 79, 80, 109] ?_
  refine ce ?_
  refine sq ?_
  refine rg 6000 ?_
  refine pr [0, 1, 3, 8, 22, 23, 26, 42, 43, 79, 80, 109] ?_
  refine ce ?_
  refine sq ?_
  refine sq ?_
  refine rg 11000 ?_
  refine pr [0, 1, 3, 8, 52, 53, 56, 79, 80, 109] ?_
  refine ce ?_
  refine rg 12000 ?_
  refine pr [0, 1, 3, 8, 52, 53, 59, 79, 80, 109] ?_
  refine ce ?_
  refine k_skip ?_
  refine k_nil ?_
  show AK _ _ _ _ _ _
  refine sq ?_
  refine dr ?_
  refine de 17000 ?_
  refine dc id (spec108 row hrow ao ac av ak (reck row (E.mk ao ac av ak)) ha w) ?_
  refine dc id (spec107_one row hrow op col c [E.mk ao ac av ak] hop noF noF (numF (reck row (E.mk ao ac av ak)) w).1 (numF (reck row (E.mk ao ac av ak)) w).2) ?_
  refine de 17200 ?_
  refine dn ?_
  refine pr [4, 5] ?_
  refine k_ret ?_
  show retQ _ _ _ _ _ _ _
  simp [*, reck, recks, stepR, Val.av]

attribute [local simp] E.av E.row_eq Val.av in
theorem spec55_two (row : List Val) (hrow : row.length ≤ Flat.lim) (op : Int) (col : Int) (c : Val) (ao ac : Int) (av : Val) (ak : List E) (bo bc : Int) (bv : Val) (bk : List E) (hop : op = 3 ∨ op = 4 ∨ op = 5 ∨ op = 9 ∨ op = 10) (ha : ∀ w : Int, Flat.Sp Try.prog 55 [.ptr 0 0, (E.mk ao ac av ak).av] [(.var 0, .n 2), (.cell 0 0, .av (vv (.int .i64 w))), (.cell 0 1, .av (.p (.ps (row.map Val.row))))] (reck row (E.mk ao ac av ak) w).1.av [(.var 0, .n 2), (.cell 0 0, .av (vv (.int .i64 (reck row (E.mk ao ac av ak) w).2))), (.cell 0 1, .av (.p (.ps (row.map Val.row))))]) (hb : ∀ w : Int, Flat.Sp Try.prog 55 [.ptr 0 0, (E.mk bo bc bv bk).av] [(.var 0, .n 2), (.cell 0 0, .av (vv (.int .i64 w))), (.cell 0 1, .av (.p (.ps (row.map Val.row))))] (reck row (E.mk bo bc bv bk) w).1.av [(.var 0, .n 2), (.cell 0 0, .av (vv (.int .i64 (reck row (E.mk bo bc bv bk) w).2))), (.cell 0 1, .av (.p (.ps (row.map Val.row))))]) (w : Int) (hw : (w != 0) = false) : Flat.Sp Try.prog 55 [.ptr 0 0, (E.mk op col c [E.mk ao ac av ak, E.mk bo bc bv bk]).av] [(.var 0, .n 2), (.cell 0 0, .av (vv (.int .i64 w))), (.cell 0 1, .av (.p (.ps (row.map Val.row))))] ((reck row (E.mk op col c [E.mk ao ac av ak, E.mk bo bc bv bk]) w).1.av) [(.var 0, .n 2), (.cell 0 0, .av (vv (.int .i64 (reck row (E.mk op col c [E.mk ao ac av ak, E.mk bo bc bv bk]) w).2))), (.cell 0 1, .av (.p (.ps (row.map Val.row))))] := by
  refine sk Try.func55 ?_
  intro F G hn hG
  have ho1 : (op == 1) = false := by rcases hop with rfl | rfl | rfl | rfl | rfl <;> rfl
  have ho2 : (op == 2) = false := by rcases hop with rfl | rfl | rfl | rfl | rfl <;> rfl
  have ho7 : (op == 7) = false := by rcases hop with rfl | rfl | rfl | rfl | rfl <;> rfl
  have ho8 : (op == 8) = false := by rcases hop with rfl | rfl | rfl | rfl | rfl <;> rfl
  refine sq ?_
  refine rg 1000 ?_
  refine pr [0, 1, 3, 42, 43, 79, 80, 109] ?_
  refine sq ?_
  refine k_block ?_
  refine sq ?_
  refine rg 2000 ?_
  refine pr [0, 1, 3, 9, 15, 42, 43, 79, 80, 109] ?_
  refine ce ?_
  refine sq ?_
  refine rg 4000 ?_
  refine pr [0, 1, 3, 8, 16, 17, 20, 42, 43, 79, 80, 109] ?_
  refine ce ?_
  refine sq ?_
  refine rg 6000 ?_
  refine pr [0, 1, 3, 8, 22, 23, 26, 42, 43, 79, 80, 109] ?_
  refine ce ?_
  refine sq ?_
  refine sq ?_
  refine rg 11000 ?_
  refine pr [0, 1, 3, 8, 52, 53, 56, 79, 80, 109] ?_
  refine ce ?_
  refine rg 12000 ?_
  refine pr [0, 1, 3, 8, 52, 53, 59, 79, 80, 109] ?_
  refine ce ?_
  refine k_skip ?_
  refine k_nil ?_
  show AK _ _ _ _ _ _
  refine sq ?_
  refine dr ?_
  refine de 17000 ?_
  refine dc id (spec108 row hrow ao ac av ak (reck row (E.mk ao ac av ak)) ha w) ?_
  refine dc id (spec107_two row hrow op col c [E.mk ao ac av ak, E.mk bo bc bv bk] hop bo bc bv bk (reck row (E.mk bo bc bv bk)) hb (by simp) rfl noF (numF (reck row (E.mk ao ac av ak)) w).1 (numF (reck row (E.mk ao ac av ak)) w).2) ?_
  refine de 17200 ?_
  refine dn ?_
  refine pr [4, 5] ?_
  refine k_ret ?_
  show retQ _ _ _ _ _ _ _
  simp [*, reck, recks, stepR, Val.av]

attribute [local simp] E.av E.row_eq Val.av in
theorem spec55_if (row : List Val) (hrow : row.length ≤ Flat.lim) (col : Int) (c : Val) (ao ac : Int) (av : Val) (ak : List E) (bo bc : Int) (bv : Val) (bk : List E) (eo ec : Int) (ev : Val) (ek : List E) (ha : ∀ w : Int, Flat.Sp Try.prog 55 [.ptr 0 0, (E.mk ao ac av ak).av] [(.var 0, .n 2), (.cell 0 0, .av (vv (.int .i64 w))), (.cell 0 1, .av (.p (.ps (row.map Val.row))))] (reck row (E.mk ao ac av ak) w).1.av [(.var 0, .n 2), (.cell 0 0, .av (vv (.int .i64 (reck row (E.mk ao ac av ak) w).2))), (.cell 0 1, .av (.p (.ps (row.map Val.row))))]) (hb : ∀ w : Int, Flat.Sp Try.prog 55 [.ptr 0 0, (E.mk bo bc bv bk).av] [(.var 0, .n 2), (.cell 0 0, .av (vv (.int .i64 w))), (.cell 0 1, .av (.p (.ps (row.map Val.row))))] (reck row (E.mk bo bc bv bk) w).1.av [(.var 0, .n 2), (.cell 0 0, .av (vv (.int .i64 (reck row (E.mk bo bc bv bk) w).2))), (.cell 0 1, .av (.p (.ps (row.map Val.row))))]) (he : ∀ w : Int, Flat.Sp Try.prog 55 [.ptr 0 0, (E.mk eo ec ev ek).av] [(.var 0, .n 2), (.cell 0 0, .av (vv (.int .i64 w))), (.cell 0 1, .av (.p (.ps (row.map Val.row))))] (reck row (E.mk eo ec ev ek) w).1.av [(.var 0, .n 2), (.cell 0 0, .av (vv (.int .i64 (reck row (E.mk eo ec ev ek) w).2))), (.cell 0 1, .av (.p (.ps (row.map Val.row))))]) (w : Int) (hw : (w != 0) = false) : Flat.Sp Try.prog 55 [.ptr 0 0, (E.mk 12 col c [E.mk ao ac av ak, E.mk bo bc bv bk, E.mk eo ec ev ek]).av] [(.var 0, .n 2), (.cell 0 0, .av (vv (.int .i64 w))), (.cell 0 1, .av (.p (.ps (row.map Val.row))))] ((reck row (E.mk 12 col c [E.mk ao ac av ak, E.mk bo bc bv bk, E.mk eo ec ev ek]) w).1.av) [(.var 0, .n 2), (.cell 0 0, .av (vv (.int .i64 (reck row (E.mk 12 col c [E.mk ao ac av ak, E.mk bo bc bv bk, E.mk eo ec ev ek]) w).2))), (.cell 0 1, .av (.p (.ps (row.map Val.row))))] := by
  refine sk Try.func55 ?_
  intro F G hn hG
  refine sq ?_
  refine rg 1000 ?_
  refine pr [0, 1, 3, 42, 43, 79, 80, 109] ?_
  refine sq ?_
  refine k_block ?_
  refine sq ?_
  refine rg 2000 ?_
  refine pr [0, 1, 3, 9, 15, 42, 43, 79, 80, 109] ?_
  refine ce ?_
  refine sq ?_
  refine rg 4000 ?_
  refine pr [0, 1, 3, 8, 16, 17, 20, 42, 43, 79, 80, 109] ?_
  refine ce ?_
  refine sq ?_
  refine rg 6000 ?_
  refine pr [0, 1, 3, 8, 22, 23, 26, 42, 43, 79, 80, 109] ?_
  refine ce ?_
  refine sq ?_
  refine sq ?_
  refine rg 11000 ?_
  refine pr [0, 1, 3, 8, 52, 53, 56, 79, 80, 109] ?_
  refine ce ?_
  refine rg 12000 ?_
  refine pr [0, 1, 3, 8, 52, 53, 59, 79, 80, 109] ?_
  refine ce ?_
  refine k_skip ?_
  refine k_nil ?_
  show AK _ _ _ _ _ _
  refine sq ?_
  refine dr ?_
  refine de 17000 ?_
  refine dc id (spec108 row hrow ao ac av ak (reck row (E.mk ao ac av ak)) ha w) ?_
  refine dc id (spec107_if row hrow col c [E.mk ao ac av ak, E.mk bo bc bv bk, E.mk eo ec ev ek] bo bc bv bk (reck row (E.mk bo bc bv bk)) hb (by simp) rfl eo ec ev ek (reck row (E.mk eo ec ev ek)) he (by simp) rfl (numF (reck row (E.mk ao ac av ak)) w).1 (numF (reck row (E.mk ao ac av ak)) w).2) ?_
  refine de 17200 ?_
  refine dn ?_
  refine pr [4, 5] ?_
  refine k_ret ?_
  show retQ _ _ _ _ _ _ _
  simp [*, reck, recks, stepR, Val.av]

attribute [local simp] E.av E.row_eq Val.av bitV Val.num in
theorem spec55_cmp7 (row : List Val) (hrow : row.length ≤ Flat.lim) (col : Int) (c : Val) (ao ac : Int) (av : Val) (ak : List E) (bo bc : Int) (bv : Val) (bk : List E) (ha : ∀ w : Int, Flat.Sp Try.prog 55 [.ptr 0 0, (E.mk ao ac av ak).av] [(.var 0, .n 2), (.cell 0 0, .av (vv (.int .i64 w))), (.cell 0 1, .av (.p (.ps (row.map Val.row))))] (reck row (E.mk ao ac av ak) w).1.av [(.var 0, .n 2), (.cell 0 0, .av (vv (.int .i64 (reck row (E.mk ao ac av ak) w).2))), (.cell 0 1, .av (.p (.ps (row.map Val.row))))]) (hb : ∀ w : Int, Flat.Sp Try.prog 55 [.ptr 0 0, (E.mk bo bc bv bk).av] [(.var 0, .n 2), (.cell 0 0, .av (vv (.int .i64 w))), (.cell 0 1, .av (.p (.ps (row.map Val.row))))] (reck row (E.mk bo bc bv bk) w).1.av [(.var 0, .n 2), (.cell 0 0, .av (vv (.int .i64 (reck row (E.mk bo bc bv bk) w).2))), (.cell 0 1, .av (.p (.ps (row.map Val.row))))]) (w : Int) (hw : (w != 0) = false) : Flat.Sp Try.prog 55 [.ptr 0 0, (E.mk 7 col c [E.mk ao ac av ak, E.mk bo bc bv bk]).av] [(.var 0, .n 2), (.cell 0 0, .av (vv (.int .i64 w))), (.cell 0 1, .av (.p (.ps (row.map Val.row))))] ((reck row (E.mk 7 col c [E.mk ao ac av ak, E.mk bo bc bv bk]) w).1.av) [(.var 0, .n 2), (.cell 0 0, .av (vv (.int .i64 (reck row (E.mk 7 col c [E.mk ao ac av ak, E.mk bo bc bv bk]) w).2))), (.cell 0 1, .av (.p (.ps (row.map Val.row))))] := by
  refine sk Try.func55 ?_
  intro F G hn hG
  refine sq ?_
  refine rg 1000 ?_
  refine pr [0, 1, 3, 42, 43, 79, 80, 109] ?_
  refine sq ?_
  refine k_block ?_
  refine sq ?_
  refine rg 2000 ?_
  refine pr [0, 1, 3, 9, 15, 42, 43, 79, 80, 109] ?_
  refine ce ?_
  refine sq ?_
  refine rg 4000 ?_
  refine pr [0, 1, 3, 8, 16, 17, 20, 42, 43, 79, 80, 109] ?_
  refine ce ?_
  refine sq ?_
  refine rg 6000 ?_
  refine pr [0, 1, 3, 8, 22, 23, 26, 42, 43, 79, 80, 109] ?_
  refine ce ?_
  refine sq ?_
  refine sq ?_
  refine rg 11000 ?_
  refine pr [0, 1, 3, 8, 52, 53, 56, 79, 80, 109] ?_
  refine ct ?_
  refine k_skip ?_
  refine ct ?_
  refine sq ?_
  refine dr ?_
  refine de 13000 ?_
  refine dc id (ha w) ?_
  refine de 13100 ?_
  refine dc id (hb ((reck row (E.mk ao ac av ak)) w).2) ?_
  refine de 13200 ?_
  refine dn ?_
  refine pr [0, 1, 3, 8, 71, 79, 80, 109] ?_
  refine sq ?_
  refine dr ?_
  refine de 14000 ?_
  refine dc id (spec104 ((reck row (E.mk bo bc bv bk)) ((reck row (E.mk ao ac av ak)) w).2).2 (.ps (row.map Val.row)) (((reck row (E.mk ao ac av ak)) w).1.t == ((reck row (E.mk bo bc bv bk)) ((reck row (E.mk ao ac av ak)) w).2).1.t) 11) ?_
  refine dn ?_
  refine pr [0, 1, 3, 8, 80, 109] ?_
  refine sq ?_
  refine rc 15000 ?_
  refine oc id (spec105 ((reck row (E.mk ao ac av ak)) w).1 ((reck row (E.mk bo bc bv bk)) ((reck row (E.mk ao ac av ak)) w).2).1) ?_
  refine oe 15100 ?_
  refine on ?_
  refine pr [0, 1, 3, 5, 7, 8, 83, 109] ?_
  refine sq ?_
  refine rc 16000 ?_
  iterate 3 (first | refine gp 16250 ?_ | refine os ?_ | refine gt 16250 ?_)
  refine oe 16300 ?_
  iterate 7 (first | refine gp 16950 ?_ | refine os ?_ | refine gt 16950 ?_)
  refine oe 17000 ?_
  refine oc id (spec106 ((decide ((((reck row (E.mk ao ac av ak)) w).1.cmp ((reck row (E.mk bo bc bv bk)) ((reck row (E.mk ao ac av ak)) w).2).1) < 0) && (7 : Int) == 7) || ((((reck row (E.mk ao ac av ak)) w).1.cmp ((reck row (E.mk bo bc bv bk)) ((reck row (E.mk ao ac av ak)) w).2).1) == 0 && (7 : Int) == 8))) ?_
  refine oe 17100 ?_
  refine on ?_
  refine pr [0, 1, 3, 5, 100, 109] ?_
  refine k_ret ?_
  show retQ _ _ _ _ _ _ _
  simp [*, reck, recks, stepR, Val.av]

attribute [local simp] E.av E.row_eq Val.av bitV Val.num in
theorem spec55_cmp8 (row : List Val) (hrow : row.length ≤ Flat.lim) (col : Int) (c : Val) (ao ac : Int) (av : Val) (ak : List E) (bo bc : Int) (bv : Val) (bk : List E) (ha : ∀ w : Int, Flat.Sp Try.prog 55 [.ptr 0 0, (E.mk ao ac av ak).av] [(.var 0, .n 2), (.cell 0 0, .av (vv (.int .i64 w))), (.cell 0 1, .av (.p (.ps (row.map Val.row))))] (reck row (E.mk ao ac av ak) w).1.av [(.var 0, .n 2), (.cell 0 0, .av (vv (.int .i64 (reck row (E.mk ao ac av ak) w).2))), (.cell 0 1, .av (.p (.ps (row.map Val.row))))]) (hb : ∀ w : Int, Flat.Sp Try.prog 55 [.ptr 0 0, (E.mk bo bc bv bk).av] [(.var 0, .n 2), (.cell 0 0, .av (vv (.int .i64 w))), (.cell 0 1, .av (.p (.ps (row.map Val.row))))] (reck row (E.mk bo bc bv bk) w).1.av [(.var 0, .n 2), (.cell 0 0, .av (vv (.int .i64 (reck row (E.mk bo bc bv bk) w).2))), (.cell 0 1, .av (.p (.ps (row.map Val.row))))]) (w : Int) (hw : (w != 0) = false) : Flat.Sp Try.prog 55 [.ptr 0 0, (E.mk 8 col c [E.mk ao ac av ak, E.mk bo bc bv bk]).av] [(.var 0, .n 2), (.cell 0 0, .av (vv (.int .i64 w))), (.cell 0 1, .av (.p (.ps (row.map Val.row))))] ((reck row (E.mk 8 col c [E.mk ao ac av ak, E.mk bo bc bv bk]) w).1.av) [(.var 0, .n 2), (.cell 0 0, .av (vv (.int .i64 (reck row (E.mk 8 col c [E.mk ao ac av ak, E.mk bo bc bv bk]) w).2))), (.cell 0 1, .av (.p (.ps (row.map Val.row))))] := by
  refine sk Try.func55 ?_
  intro F G hn hG
  refine sq ?_
  refine rg 1000 ?_
  refine pr [0, 1, 3, 42, 43, 79, 80, 109] ?_
  refine sq ?_
  refine k_block ?_
  refine sq ?_
  refine rg 2000 ?_
  refine pr [0, 1, 3, 9, 15, 42, 43, 79, 80, 109] ?_
  refine ce ?_
  refine sq ?_
  refine rg 4000 ?_
  refine pr [0, 1, 3, 8, 16, 17, 20, 42, 43, 79, 80, 109] ?_
  refine ce ?_
  refine sq ?_
  refine rg 6000 ?_
  refine pr [0, 1, 3, 8, 22, 23, 26, 42, 43, 79, 80, 109] ?_
  refine ce ?_
  refine sq ?_
  refine sq ?_
  refine rg 11000 ?_
  refine pr [0, 1, 3, 8, 52, 53, 56, 79, 80, 109] ?_
  refine ce ?_
  refine rg 12000 ?_
  refine pr [0, 1, 3, 8, 52, 53, 59, 79, 80, 109] ?_
  refine ct ?_
  refine sq ?_
  refine dr ?_
  refine de 13000 ?_
  refine dc id (ha w) ?_
  refine de 13100 ?_
  refine dc id (hb ((reck row (E.mk ao ac av ak)) w).2) ?_
  refine de 13200 ?_
  refine dn ?_
  refine pr [0, 1, 3, 8, 71, 79, 80, 109] ?_
  refine sq ?_
  refine dr ?_
  refine de 14000 ?_
  refine dc id (spec104 ((reck row (E.mk bo bc bv bk)) ((reck row (E.mk ao ac av ak)) w).2).2 (.ps (row.map Val.row)) (((reck row (E.mk ao ac av ak)) w).1.t == ((reck row (E.mk bo bc bv bk)) ((reck row (E.mk ao ac av ak)) w).2).1.t) 11) ?_
  refine dn ?_
  refine pr [0, 1, 3, 8, 80, 109] ?_
  refine sq ?_
  refine rc 15000 ?_
  refine oc id (spec105 ((reck row (E.mk ao ac av ak)) w).1 ((reck row (E.mk bo bc bv bk)) ((reck row (E.mk ao ac av ak)) w).2).1) ?_
  refine oe 15100 ?_
  refine on ?_
  refine pr [0, 1, 3, 5, 7, 8, 83, 109] ?_
  refine sq ?_
  refine rc 16000 ?_
  iterate 3 (first | refine gp 16250 ?_ | refine os ?_ | refine gt 16250 ?_)
  refine oe 16300 ?_
  iterate 7 (first | refine gp 16950 ?_ | refine os ?_ | refine gt 16950 ?_)
  refine oe 17000 ?_
  refine oc id (spec106 ((decide ((((reck row (E.mk ao ac av ak)) w).1.cmp ((reck row (E.mk bo bc bv bk)) ((reck row (E.mk ao ac av ak)) w).2).1) < 0) && (8 : Int) == 7) || ((((reck row (E.mk ao ac av ak)) w).1.cmp ((reck row (E.mk bo bc bv bk)) ((reck row (E.mk ao ac av ak)) w).2).1) == 0 && (8 : Int) == 8))) ?_
  refine oe 17100 ?_
  refine on ?_
  refine pr [0, 1, 3, 5, 100, 109] ?_
  refine k_ret ?_
  show retQ _ _ _ _ _ _ _
  simp [*, reck, recks, stepR, Val.av]

end Go.Proofs
end
section
set_option linter.unusedVariables false
set_option linter.unusedSimpArgs false
namespace Go.Proofs
open Go.Flat
set_option maxRecDepth 100000
set_option linter.unusedSimpArgs false
set_option linter.unusedVariables false
attribute [local simp] Bool.and_assoc Bool.or_assoc evalG evalX efD skF guardG guardL isCall stepL evalOp ev evs lk tmpsL app AV.ok fresh vv putCells insV ins del putL place Go.Flat.look fillC fillR getCells loadF storeF binF scalarBin intBin strBin isShift shiftBin unF lenF maxF minF rowsF appendF builtinF idxF natOf sliceP sliceF optEv Flat.cut overwrite toPV toPVs constAV scalarC scalarCs AV.cells TI.isAgg allSome andAll scalarEq buildable Go.Flat.lim retQ resL resAll resOne PartOf noTmp closedIn refs refs.refsL isSomeV hasB ids leA leA.leL renA renA.renL callB refsAll backL dropIds renS LiesAt injB ownB freshB memN locId insAll leA_refl leL_refl okS frzS frzA frzA.frzL evalD feet fine updCells cellsFrom memP footRf footWf noTmpU updIds opOps opIds idsA footR footW guardTs opTs dstTs callR callW renLoc renC inBlockQ thenQ Value.oneCell' IntKind.bits IntKind.signed callWk without

theorem spec55 (row : List Val) (hrow : row.length ≤ Flat.lim) : ∀ e : E, e.good → ∀ w : Int, Flat.Sp Try.prog 55 [.ptr 0 0, e.av] [(.var 0, .n 2), (.cell 0 0, .av (vv (.int .i64 w))), (.cell 0 1, .av (.p (.ps (row.map Val.row))))] (reck row e w).1.av [(.var 0, .n 2), (.cell 0 0, .av (vv (.int .i64 (reck row e w).2))), (.cell 0 1, .av (.p (.ps (row.map Val.row))))] := by
  refine E.ind fun op col c kids ih hg w => ?_
  rw [E.good] at hg
  obtain ⟨hok, hgk⟩ := hg
  have ih' : ∀ k ∈ kids, ∀ w, _ := fun k hk => ih k hk (E.goodL_mem hgk k hk)
  cases hw : (w != 0) with
  | true => exact spec55_err row hrow op col c kids w hw
  | false =>
    rcases okE_shape hok with ⟨rfl, hn⟩ | ⟨rfl, hn⟩ | ⟨ho, hn⟩ | ⟨ho, hn⟩ | ⟨rfl, hn⟩ | ⟨rfl, hn⟩ | ⟨rfl, hn⟩
    · obtain rfl := List.length_eq_zero_iff.1 hn
      exact spec55_col row hrow col c w hw
    · obtain rfl := List.length_eq_zero_iff.1 hn
      exact spec55_con row hrow col c w hw
    · obtain ⟨⟨ao, ac, av, ak⟩, rfl⟩ := List.length_eq_one_iff.1 hn
      exact spec55_one row hrow op col c ao ac av ak ho (ih' _ (by simp)) w hw
    · obtain ⟨⟨ao, ac, av, ak⟩, ⟨bo, bc, bv, bk⟩, rfl⟩ := Flat.two_of_length hn
      exact spec55_two row hrow op col c ao ac av ak bo bc bv bk ho (ih' _ (by simp)) (ih' _ (by simp)) w hw
    · obtain ⟨⟨ao, ac, av, ak⟩, ⟨bo, bc, bv, bk⟩, rfl⟩ := Flat.two_of_length hn
      exact spec55_cmp7 row hrow col c ao ac av ak bo bc bv bk (ih' _ (by simp)) (ih' _ (by simp)) w hw
    · obtain ⟨⟨ao, ac, av, ak⟩, ⟨bo, bc, bv, bk⟩, rfl⟩ := Flat.two_of_length hn
      exact spec55_cmp8 row hrow col c ao ac av ak bo bc bv bk (ih' _ (by simp)) (ih' _ (by simp)) w hw
    · obtain ⟨⟨ao, ac, av, ak⟩, ⟨bo, bc, bv, bk⟩, ⟨eo, ec, ev, ek⟩, rfl⟩ := three_of_length hn
      exact spec55_if row hrow col c ao ac av ak bo bc bv bk eo ec ev ek (ih' _ (by simp)) (ih' _ (by simp)) (ih' _ (by simp)) w hw
/-- What an expression comes to, and why to nothing. -/
def evalE (row : List Val) (e : E) : Val × Int :=
  if checkE e != 0 then (⟨false, 0, ⟨#[]⟩⟩, checkE e) else if checkRow row != 0 then (⟨false, 0, ⟨#[]⟩⟩, checkRow row) else if (reck row e 0).2 != 0 then (⟨false, 0, ⟨#[]⟩⟩, (reck row e 0).2) else ((reck row e 0).1, 0)

attribute [local simp] E.av Val.av evalE in
theorem spec23_mk (row : List Val) (hrow : row.length ≤ Flat.lim) (op col : Int) (c : Val) (kids : List E) : Flat.Sp Try.prog 23 [(E.mk op col c kids).av, .p (.ps (row.map Val.row))] [] (.tup [(evalE row (E.mk op col c kids)).1.av, vv (.int .i64 (evalE row (E.mk op col c kids)).2)]) [] := by
  refine sk Try.func23 ?_
  intro F G hn hG
  refine sq ?_
  refine rg 1000 ?_
  refine pr [1, 3, 4, 41] ?_
  refine sq ?_
  refine sq ?_
  refine rc 2000 ?_
  refine oc id (spec22 op col c kids) ?_
  refine oe 2100 ?_
  refine on ?_
  refine pr [1, 3, 4, 10, 12, 41] ?_
  refine sq ?_
  refine rg 3000 ?_
  refine pr [1, 3, 4, 10, 13, 41] ?_
  refine cd ?_ ?_
  · intro h13_1
    have h13_1 : (checkE (E.mk op col c kids) != 0) = true := by simpa using h13_1
    refine sq ?_
    refine rg 4000 ?_
    refine pr [1, 3, 4, 6, 7, 10, 16, 41] ?_
    refine k_ret ?_
    show retQ _ _ _ _ _ _ _
    simp [*]
  · intro h13_1
    have h13_1 : (checkE (E.mk op col c kids) != 0) = false := by simpa using h13_1
    have hgood := checkE_good (e := (E.mk op col c kids)) (by simpa using h13_1)
    refine k_skip ?_
    refine sq ?_
    refine sq ?_
    refine rc 5000 ?_
    refine oc id (spec54 row hrow) ?_
    refine oe 5100 ?_
    refine on ?_
    refine pr [1, 3, 4, 6, 7, 10, 18, 41] ?_
    refine sq ?_
    refine rg 6000 ?_
    refine pr [1, 3, 4, 6, 7, 10, 19, 41] ?_
    refine cd ?_ ?_
    · intro h19_2
      have h19_2 : (checkRow row != 0) = true := by simpa using h19_2
      refine sq ?_
      refine rg 7000 ?_
      refine pr [1, 3, 4, 6, 8, 10, 22, 41] ?_
      refine k_ret ?_
      show retQ _ _ _ _ _ _ _
      simp [*]
    · intro h19_2
      have h19_2 : (checkRow row != 0) = false := by simpa using h19_2
      refine k_skip ?_
      refine sq ?_
      refine rg 8000 ?_
      refine pr [2, 3, 4, 6, 8, 10, 25, 41] ?_
      refine sq ?_
      refine rc 9000 ?_
      refine oc (fun k => 8002) (spec55 row hrow (E.mk op col c kids) hgood 0) ?_
      refine oe 9100 ?_
      refine on ?_
      refine pr [4, 6, 8, 10, 28, 41] ?_
      refine sq ?_
      refine sq ?_
      refine rg 10000 ?_
      refine pr [4, 6, 8, 10, 33, 41] ?_
      refine cd ?_ ?_
      · intro h33_3
        have h33_3 : ((reck row (E.mk op col c kids) 0).2 != 0) = true := by simpa using h33_3
        refine sq ?_
        refine dr ?_
        refine de 11000 ?_
        refine dn ?_
        refine pr [4, 6, 9, 10, 40, 41] ?_
        refine k_ret ?_
        show retQ _ _ _ _ _ _ _
        simp [*]
      · intro h33_3
        have h33_3 : ((reck row (E.mk op col c kids) 0).2 != 0) = false := by simpa using h33_3
        refine k_skip ?_
        refine sq ?_
        refine rg 12000 ?_
        refine pr [4, 6] ?_
        refine k_ret ?_
        show retQ _ _ _ _ _ _ _
        simp [*]

theorem spec23 (row : List Val) (hrow : row.length ≤ Flat.lim) (e : E) : Flat.Sp Try.prog 23 [e.av, .p (.ps (row.map Val.row))] [] (.tup [(evalE row e).1.av, vv (.int .i64 (evalE row e).2)]) [] := by
  obtain ⟨op, col, c, kids⟩ := e
  exact spec23_mk row hrow op col c kids

end Go.Proofs
end
section
set_option linter.unusedVariables false
set_option linter.unusedSimpArgs false
namespace Go.Proofs
open Go.Flat
set_option linter.unusedSimpArgs false
set_option linter.unusedVariables false
theorem w64 (n : Int) : IntKind.i64.wrap n = (n + 9223372036854775808) % 18446744073709551616 - 9223372036854775808 := by
  unfold IntKind.wrap
  simp [IntKind.bits, IntKind.signed]
  omega
def vZ : Val := ⟨false, 0, ⟨#[]⟩⟩
@[simp] theorem okE_con (n : Int) : okE 2 0 ⟨false, n, ⟨#[]⟩⟩ 0 = true := by simp [okE, okA, kidsOf, Val.eqB, checkRow, badRow, firstBad, Val.right]
@[simp] theorem okE_col (n : Int) : okE 1 n vZ 0 = true := by simp [okE, okA, kidsOf, Val.eqB, checkRow, badRow, firstBad, Val.right, vZ]
@[simp] theorem okE_if : okE 12 0 vZ 3 = true := by simp [okE, okA, kidsOf, Val.eqB, checkRow, badRow, firstBad, Val.right, vZ]
end Go.Proofs
end
