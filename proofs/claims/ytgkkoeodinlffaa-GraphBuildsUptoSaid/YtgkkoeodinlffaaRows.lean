/-
  NARROWER THAN 'FOR EVERY INPUT', by the rows' own cells (each row's printed sentence says how): ExprLazy: loops · ExprSums: loops · ExprTyped: loops · PlanParts: loops · PlanWraps: loops · PlanLoops: loops · GraphBuilds: loops · GraphChecks: loops · GraphRight: loops · GraphAgain: loops · GraphWays: loops · LinearParts: loops.
  DERIVED. THE GIVEN ROWS OF THIS SEAT. 17 by the template 'for every input the law returns true; each argument reads behind the call as it read before'; 0 by the template 'total and deterministic' (their statements: YtgkkoeodinlffaaTotals.lean).
  GIVEN WITH THE SEED: the statements are not yours to turn. If you find one false, say at which input.
  Laid BY PROGRAM, IN A SANDBOX (cutbox-rows.mjs): the forced cells as the released guide's own fill.sh prints them over the translation b5aba3e9259199a6… (all of the seat's roots in one cut). By AI agents, Wed Nov 11 2026. No macro, syntax, notation, axiom, sorry.
-/
import Derived.Test.YtgkkoeodinlffaaChecked
import GoSem.Claim
import GoSem.ClaimJoined
import GoSem.ClaimMapViews
import Derived.JoinedTies
import Derived.KernelRfl
namespace Go.Proofs.Ytgkkoeodinlffaa
/- THE CELL 'sum', in the pinned program and in every row, IS THE sha256 OF THE DUMP (.gsa) THAT YtgkkoeodinlffaaProg.lean LOADS. Nothing in Lean hashes anything: it is a label: what it is worth is what the hold of that sum in a sandbox is worth. -/
noncomputable def Try.pinned : Pinned := { name := "ytgkkoeodinlffaa", sum := "b5aba3e9259199a6285f5cf9d20f39014e79e155f20bdaea80dd51f8aa1de89d", checked := Try.checked }
namespace Rows
def none {H : Type} : Left H := { results := [], args := [] }

/-- 'freshetlaw08.ExprLazy': WHATEVER THE INPUT: true; the input reads as it did. -/
def exprLazySpec : ChangeSpec := { name := "exprLazy", fn := fun _ => fun
  | [d1, d2] => { results := [.lit (.bool true)], args := [d1, d2] }
  | _ => none }
def exprLazyRow : OpenClaim := { program := "ytgkkoeodinlffaa", sum := "b5aba3e9259199a6285f5cf9d20f39014e79e155f20bdaea80dd51f8aa1de89d", func := "freshet/freshetlaw08.ExprLazy", spec := "exprLazy", inPlace := ["math/bits.Add64"], unfollowed := true, recurses := true, loops := true, apart := false }
def ExprLazySaid : Prop := exprLazyRow.holds Try.pinned (OpenSpec.ofChange exprLazySpec)

/-- ITS FALSE NEIGHBOUR: 'it returns false'. Refute it at one input. -/
def exprLazyWrong : ChangeSpec := { name := "exprLazy", fn := fun _ => fun
  | [d1, d2] => { results := [.lit (.bool false)], args := [d1, d2] }
  | _ => none }
def ExprLazyWrongFalsely : Prop := exprLazyRow.holds Try.pinned (OpenSpec.ofChange exprLazyWrong)

/-- 'freshetlaw08.ExprLine': WHATEVER THE INPUT: true; the input reads as it did. -/
def exprLineSpec : ChangeSpec := { name := "exprLine", fn := fun _ => fun
  | [d1, d2, d3] => { results := [.lit (.bool true)], args := [d1, d2, d3] }
  | _ => none }
def exprLineRow : OpenClaim := { program := "ytgkkoeodinlffaa", sum := "b5aba3e9259199a6285f5cf9d20f39014e79e155f20bdaea80dd51f8aa1de89d", func := "freshet/freshetlaw08.ExprLine", spec := "exprLine", inPlace := ["math/bits.Add64"], unfollowed := true, recurses := true, apart := false }
def ExprLineSaid : Prop := exprLineRow.holds Try.pinned (OpenSpec.ofChange exprLineSpec)

/-- ITS FALSE NEIGHBOUR: 'it returns false'. Refute it at one input. -/
def exprLineWrong : ChangeSpec := { name := "exprLine", fn := fun _ => fun
  | [d1, d2, d3] => { results := [.lit (.bool false)], args := [d1, d2, d3] }
  | _ => none }
def ExprLineWrongFalsely : Prop := exprLineRow.holds Try.pinned (OpenSpec.ofChange exprLineWrong)

/-- 'freshetlaw08.ExprTurned': WHATEVER THE INPUT: true; the input reads as it did. -/
def exprTurnedSpec : ChangeSpec := { name := "exprTurned", fn := fun _ => fun
  | [d1, d2] => { results := [.lit (.bool true)], args := [d1, d2] }
  | _ => none }
def exprTurnedRow : OpenClaim := { program := "ytgkkoeodinlffaa", sum := "b5aba3e9259199a6285f5cf9d20f39014e79e155f20bdaea80dd51f8aa1de89d", func := "freshet/freshetlaw08.ExprTurned", spec := "exprTurned", inPlace := ["math/bits.Add64"], unfollowed := true, recurses := true, apart := false }
def ExprTurnedSaid : Prop := exprTurnedRow.holds Try.pinned (OpenSpec.ofChange exprTurnedSpec)

/-- ITS FALSE NEIGHBOUR: 'it returns false'. Refute it at one input. -/
def exprTurnedWrong : ChangeSpec := { name := "exprTurned", fn := fun _ => fun
  | [d1, d2] => { results := [.lit (.bool false)], args := [d1, d2] }
  | _ => none }
def ExprTurnedWrongFalsely : Prop := exprTurnedRow.holds Try.pinned (OpenSpec.ofChange exprTurnedWrong)

/-- 'freshetlaw08.ExprSums': WHATEVER THE INPUT: true; the input reads as it did. -/
def exprSumsSpec : ChangeSpec := { name := "exprSums", fn := fun _ => fun
  | [d1, d2, d3] => { results := [.lit (.bool true)], args := [d1, d2, d3] }
  | _ => none }
def exprSumsRow : OpenClaim := { program := "ytgkkoeodinlffaa", sum := "b5aba3e9259199a6285f5cf9d20f39014e79e155f20bdaea80dd51f8aa1de89d", func := "freshet/freshetlaw08.ExprSums", spec := "exprSums", inPlace := ["math/bits.Add64"], unfollowed := true, recurses := true, loops := true, apart := false }
def ExprSumsSaid : Prop := exprSumsRow.holds Try.pinned (OpenSpec.ofChange exprSumsSpec)

/-- ITS FALSE NEIGHBOUR: 'it returns false'. Refute it at one input. -/
def exprSumsWrong : ChangeSpec := { name := "exprSums", fn := fun _ => fun
  | [d1, d2, d3] => { results := [.lit (.bool false)], args := [d1, d2, d3] }
  | _ => none }
def ExprSumsWrongFalsely : Prop := exprSumsRow.holds Try.pinned (OpenSpec.ofChange exprSumsWrong)

/-- 'freshetlaw08.ExprTyped': WHATEVER THE INPUT: true; the input reads as it did. -/
def exprTypedSpec : ChangeSpec := { name := "exprTyped", fn := fun _ => fun
  | [d1, d2] => { results := [.lit (.bool true)], args := [d1, d2] }
  | _ => none }
def exprTypedRow : OpenClaim := { program := "ytgkkoeodinlffaa", sum := "b5aba3e9259199a6285f5cf9d20f39014e79e155f20bdaea80dd51f8aa1de89d", func := "freshet/freshetlaw08.ExprTyped", spec := "exprTyped", inPlace := ["math/bits.Add64"], unfollowed := true, recurses := true, loops := true, apart := false }
def ExprTypedSaid : Prop := exprTypedRow.holds Try.pinned (OpenSpec.ofChange exprTypedSpec)

/-- ITS FALSE NEIGHBOUR: 'it returns false'. Refute it at one input. -/
def exprTypedWrong : ChangeSpec := { name := "exprTyped", fn := fun _ => fun
  | [d1, d2] => { results := [.lit (.bool false)], args := [d1, d2] }
  | _ => none }
def ExprTypedWrongFalsely : Prop := exprTypedRow.holds Try.pinned (OpenSpec.ofChange exprTypedWrong)

/-- 'freshetlaw09.PlanParts': WHATEVER THE INPUT: true; the input reads as it did. -/
def planPartsSpec : ChangeSpec := { name := "planParts", fn := fun _ => fun
  | [d1, d2, d3] => { results := [.lit (.bool true)], args := [d1, d2, d3] }
  | _ => none }
def planPartsRow : OpenClaim := { program := "ytgkkoeodinlffaa", sum := "b5aba3e9259199a6285f5cf9d20f39014e79e155f20bdaea80dd51f8aa1de89d", func := "freshet/freshetlaw09.PlanParts", spec := "planParts", unfollowed := true, recurses := true, loops := true, apart := false }
def PlanPartsSaid : Prop := planPartsRow.holds Try.pinned (OpenSpec.ofChange planPartsSpec)

/-- ITS FALSE NEIGHBOUR: 'it returns false'. Refute it at one input. -/
def planPartsWrong : ChangeSpec := { name := "planParts", fn := fun _ => fun
  | [d1, d2, d3] => { results := [.lit (.bool false)], args := [d1, d2, d3] }
  | _ => none }
def PlanPartsWrongFalsely : Prop := planPartsRow.holds Try.pinned (OpenSpec.ofChange planPartsWrong)

/-- 'freshetlaw09.PlanWraps': WHATEVER THE INPUT: true; the input reads as it did. -/
def planWrapsSpec : ChangeSpec := { name := "planWraps", fn := fun _ => fun
  | [d1, d2] => { results := [.lit (.bool true)], args := [d1, d2] }
  | _ => none }
def planWrapsRow : OpenClaim := { program := "ytgkkoeodinlffaa", sum := "b5aba3e9259199a6285f5cf9d20f39014e79e155f20bdaea80dd51f8aa1de89d", func := "freshet/freshetlaw09.PlanWraps", spec := "planWraps", unfollowed := true, recurses := true, loops := true, apart := false }
def PlanWrapsSaid : Prop := planWrapsRow.holds Try.pinned (OpenSpec.ofChange planWrapsSpec)

/-- ITS FALSE NEIGHBOUR: 'it returns false'. Refute it at one input. -/
def planWrapsWrong : ChangeSpec := { name := "planWraps", fn := fun _ => fun
  | [d1, d2] => { results := [.lit (.bool false)], args := [d1, d2] }
  | _ => none }
def PlanWrapsWrongFalsely : Prop := planWrapsRow.holds Try.pinned (OpenSpec.ofChange planWrapsWrong)

/-- 'freshetlaw09.PlanLoops': WHATEVER THE INPUT: true; the input reads as it did. -/
def planLoopsSpec : ChangeSpec := { name := "planLoops", fn := fun _ => fun
  | [d1, d2, d3] => { results := [.lit (.bool true)], args := [d1, d2, d3] }
  | _ => none }
def planLoopsRow : OpenClaim := { program := "ytgkkoeodinlffaa", sum := "b5aba3e9259199a6285f5cf9d20f39014e79e155f20bdaea80dd51f8aa1de89d", func := "freshet/freshetlaw09.PlanLoops", spec := "planLoops", unfollowed := true, recurses := true, loops := true, apart := false }
def PlanLoopsSaid : Prop := planLoopsRow.holds Try.pinned (OpenSpec.ofChange planLoopsSpec)

/-- ITS FALSE NEIGHBOUR: 'it returns false'. Refute it at one input. -/
def planLoopsWrong : ChangeSpec := { name := "planLoops", fn := fun _ => fun
  | [d1, d2, d3] => { results := [.lit (.bool false)], args := [d1, d2, d3] }
  | _ => none }
def PlanLoopsWrongFalsely : Prop := planLoopsRow.holds Try.pinned (OpenSpec.ofChange planLoopsWrong)

/-- 'freshetlaw14.GraphBuilds': WHATEVER THE INPUT: true; the input reads as it did. -/
def graphBuildsSpec : ChangeSpec := { name := "graphBuilds", fn := fun _ => fun
  | [d1, d2] => { results := [.lit (.bool true)], args := [d1, d2] }
  | _ => none }
def graphBuildsRow : OpenClaim := { program := "ytgkkoeodinlffaa", sum := "b5aba3e9259199a6285f5cf9d20f39014e79e155f20bdaea80dd51f8aa1de89d", func := "freshet/freshetlaw14.GraphBuilds", spec := "graphBuilds", unfollowed := true, recurses := true, loops := true, apart := false }
def GraphBuildsSaid : Prop := graphBuildsRow.holds Try.pinned (OpenSpec.ofChange graphBuildsSpec)

/-- ITS FALSE NEIGHBOUR: 'it returns false'. Refute it at one input. -/
def graphBuildsWrong : ChangeSpec := { name := "graphBuilds", fn := fun _ => fun
  | [d1, d2] => { results := [.lit (.bool false)], args := [d1, d2] }
  | _ => none }
def GraphBuildsWrongFalsely : Prop := graphBuildsRow.holds Try.pinned (OpenSpec.ofChange graphBuildsWrong)

/-- 'freshetlaw14.GraphChecks': WHATEVER THE INPUT: true; the input reads as it did. -/
def graphChecksSpec : ChangeSpec := { name := "graphChecks", fn := fun _ => fun
  | [d] => { results := [.lit (.bool true)], args := [d] }
  | _ => none }
def graphChecksRow : OpenClaim := { program := "ytgkkoeodinlffaa", sum := "b5aba3e9259199a6285f5cf9d20f39014e79e155f20bdaea80dd51f8aa1de89d", func := "freshet/freshetlaw14.GraphChecks", spec := "graphChecks", unfollowed := true, recurses := true, loops := true, apart := false }
def GraphChecksSaid : Prop := graphChecksRow.holds Try.pinned (OpenSpec.ofChange graphChecksSpec)

/-- ITS FALSE NEIGHBOUR: 'it returns false'. Refute it at one input. -/
def graphChecksWrong : ChangeSpec := { name := "graphChecks", fn := fun _ => fun
  | [d] => { results := [.lit (.bool false)], args := [d] }
  | _ => none }
def GraphChecksWrongFalsely : Prop := graphChecksRow.holds Try.pinned (OpenSpec.ofChange graphChecksWrong)

/-- 'freshetlaw14.GraphRight': WHATEVER THE INPUT: true; the input reads as it did. -/
def graphRightSpec : ChangeSpec := { name := "graphRight", fn := fun _ => fun
  | [d1, d2] => { results := [.lit (.bool true)], args := [d1, d2] }
  | _ => none }
def graphRightRow : OpenClaim := { program := "ytgkkoeodinlffaa", sum := "b5aba3e9259199a6285f5cf9d20f39014e79e155f20bdaea80dd51f8aa1de89d", func := "freshet/freshetlaw14.GraphRight", spec := "graphRight", unfollowed := true, recurses := true, loops := true, apart := false }
def GraphRightSaid : Prop := graphRightRow.holds Try.pinned (OpenSpec.ofChange graphRightSpec)

/-- ITS FALSE NEIGHBOUR: 'it returns false'. Refute it at one input. -/
def graphRightWrong : ChangeSpec := { name := "graphRight", fn := fun _ => fun
  | [d1, d2] => { results := [.lit (.bool false)], args := [d1, d2] }
  | _ => none }
def GraphRightWrongFalsely : Prop := graphRightRow.holds Try.pinned (OpenSpec.ofChange graphRightWrong)

/-- 'freshetlaw14.GraphAgain': WHATEVER THE INPUT: true; the input reads as it did. -/
def graphAgainSpec : ChangeSpec := { name := "graphAgain", fn := fun _ => fun
  | [d1, d2, d3] => { results := [.lit (.bool true)], args := [d1, d2, d3] }
  | _ => none }
def graphAgainRow : OpenClaim := { program := "ytgkkoeodinlffaa", sum := "b5aba3e9259199a6285f5cf9d20f39014e79e155f20bdaea80dd51f8aa1de89d", func := "freshet/freshetlaw14.GraphAgain", spec := "graphAgain", unfollowed := true, recurses := true, loops := true, apart := false }
def GraphAgainSaid : Prop := graphAgainRow.holds Try.pinned (OpenSpec.ofChange graphAgainSpec)

/-- ITS FALSE NEIGHBOUR: 'it returns false'. Refute it at one input. -/
def graphAgainWrong : ChangeSpec := { name := "graphAgain", fn := fun _ => fun
  | [d1, d2, d3] => { results := [.lit (.bool false)], args := [d1, d2, d3] }
  | _ => none }
def GraphAgainWrongFalsely : Prop := graphAgainRow.holds Try.pinned (OpenSpec.ofChange graphAgainWrong)

/-- 'freshetlaw14.GraphWays': WHATEVER THE INPUT: true; the input reads as it did. -/
def graphWaysSpec : ChangeSpec := { name := "graphWays", fn := fun _ => fun
  | [d1, d2] => { results := [.lit (.bool true)], args := [d1, d2] }
  | _ => none }
def graphWaysRow : OpenClaim := { program := "ytgkkoeodinlffaa", sum := "b5aba3e9259199a6285f5cf9d20f39014e79e155f20bdaea80dd51f8aa1de89d", func := "freshet/freshetlaw14.GraphWays", spec := "graphWays", unfollowed := true, recurses := true, loops := true, apart := false }
def GraphWaysSaid : Prop := graphWaysRow.holds Try.pinned (OpenSpec.ofChange graphWaysSpec)

/-- ITS FALSE NEIGHBOUR: 'it returns false'. Refute it at one input. -/
def graphWaysWrong : ChangeSpec := { name := "graphWays", fn := fun _ => fun
  | [d1, d2] => { results := [.lit (.bool false)], args := [d1, d2] }
  | _ => none }
def GraphWaysWrongFalsely : Prop := graphWaysRow.holds Try.pinned (OpenSpec.ofChange graphWaysWrong)

/-- 'freshetlaw11.LinearParts': WHATEVER THE INPUT: true; the input reads as it did. -/
def linearPartsSpec : ChangeSpec := { name := "linearParts", fn := fun _ => fun
  | [d1, d2, d3] => { results := [.lit (.bool true)], args := [d1, d2, d3] }
  | _ => none }
def linearPartsRow : OpenClaim := { program := "ytgkkoeodinlffaa", sum := "b5aba3e9259199a6285f5cf9d20f39014e79e155f20bdaea80dd51f8aa1de89d", func := "freshet/freshetlaw11.LinearParts", spec := "linearParts", inPlace := ["math/bits.Add64"], unfollowed := true, recurses := true, loops := true, apart := false }
def LinearPartsSaid : Prop := linearPartsRow.holds Try.pinned (OpenSpec.ofChange linearPartsSpec)

/-- ITS FALSE NEIGHBOUR: 'it returns false'. Refute it at one input. -/
def linearPartsWrong : ChangeSpec := { name := "linearParts", fn := fun _ => fun
  | [d1, d2, d3] => { results := [.lit (.bool false)], args := [d1, d2, d3] }
  | _ => none }
def LinearPartsWrongFalsely : Prop := linearPartsRow.holds Try.pinned (OpenSpec.ofChange linearPartsWrong)

/-- 'freshetlaw11.LinearTwice': WHATEVER THE INPUT: true; the input reads as it did. -/
def linearTwiceSpec : ChangeSpec := { name := "linearTwice", fn := fun _ => fun
  | [d] => { results := [.lit (.bool true)], args := [d] }
  | _ => none }
def linearTwiceRow : OpenClaim := { program := "ytgkkoeodinlffaa", sum := "b5aba3e9259199a6285f5cf9d20f39014e79e155f20bdaea80dd51f8aa1de89d", func := "freshet/freshetlaw11.LinearTwice", spec := "linearTwice", inPlace := ["math/bits.Add64"], unfollowed := true, recurses := true, apart := false }
def LinearTwiceSaid : Prop := linearTwiceRow.holds Try.pinned (OpenSpec.ofChange linearTwiceSpec)

/-- ITS FALSE NEIGHBOUR: 'it returns false'. Refute it at one input. -/
def linearTwiceWrong : ChangeSpec := { name := "linearTwice", fn := fun _ => fun
  | [d] => { results := [.lit (.bool false)], args := [d] }
  | _ => none }
def LinearTwiceWrongFalsely : Prop := linearTwiceRow.holds Try.pinned (OpenSpec.ofChange linearTwiceWrong)

/-- 'freshetlaw11.LinearKeys': WHATEVER THE INPUT: true; the input reads as it did. -/
def linearKeysSpec : ChangeSpec := { name := "linearKeys", fn := fun _ => fun
  | [d1, d2] => { results := [.lit (.bool true)], args := [d1, d2] }
  | _ => none }
def linearKeysRow : OpenClaim := { program := "ytgkkoeodinlffaa", sum := "b5aba3e9259199a6285f5cf9d20f39014e79e155f20bdaea80dd51f8aa1de89d", func := "freshet/freshetlaw11.LinearKeys", spec := "linearKeys", inPlace := ["math/bits.Add64"], unfollowed := true, recurses := true, apart := false }
def LinearKeysSaid : Prop := linearKeysRow.holds Try.pinned (OpenSpec.ofChange linearKeysSpec)

/-- ITS FALSE NEIGHBOUR: 'it returns false'. Refute it at one input. -/
def linearKeysWrong : ChangeSpec := { name := "linearKeys", fn := fun _ => fun
  | [d1, d2] => { results := [.lit (.bool false)], args := [d1, d2] }
  | _ => none }
def LinearKeysWrongFalsely : Prop := linearKeysRow.holds Try.pinned (OpenSpec.ofChange linearKeysWrong)

/-- 'freshetlaw11.LinearRounds': WHATEVER THE INPUT: true; the input reads as it did. -/
def linearRoundsSpec : ChangeSpec := { name := "linearRounds", fn := fun _ => fun
  | [d1, d2, d3, d4, d5] => { results := [.lit (.bool true)], args := [d1, d2, d3, d4, d5] }
  | _ => none }
def linearRoundsRow : OpenClaim := { program := "ytgkkoeodinlffaa", sum := "b5aba3e9259199a6285f5cf9d20f39014e79e155f20bdaea80dd51f8aa1de89d", func := "freshet/freshetlaw11.LinearRounds", spec := "linearRounds", inPlace := ["math/bits.Add64"], unfollowed := true, recurses := true, apart := false }
def LinearRoundsSaid : Prop := linearRoundsRow.holds Try.pinned (OpenSpec.ofChange linearRoundsSpec)

/-- ITS FALSE NEIGHBOUR: 'it returns false'. Refute it at one input. -/
def linearRoundsWrong : ChangeSpec := { name := "linearRounds", fn := fun _ => fun
  | [d1, d2, d3, d4, d5] => { results := [.lit (.bool false)], args := [d1, d2, d3, d4, d5] }
  | _ => none }
def LinearRoundsWrongFalsely : Prop := linearRoundsRow.holds Try.pinned (OpenSpec.ofChange linearRoundsWrong)

/- THE SECOND FORM. 'bulk': how many values and letters a reading holds, each counted each time it is reached (what is shared counts as often as it is met; a slice's spare places count too). A statement '..UptoSaid' is the law's where the arguments, and the package variables that the reading takes, are together of bulk at most 1048576: NARROWER than '..Said'. Prove '..Said' where nothing that the law and all that it calls make is longer than what came in: it says more and counts as full. Else prove '..UptoSaid'. A law counts once. -/
mutual
def uptoBulk {H : Type} : DataW H → Nat
  | .lit (.string bytes) => bytes.length + 1
  | .lit _ => 1
  | .nil => 1
  | .ptr d => uptoBulk d + 1
  | .slice elems spare => uptoBulkAll elems + uptoBulkAll spare + 1
  | .agg parts => uptoBulkAll parts + 1
  | .iface _ d => uptoBulk d + 1
  | .map entries => uptoBulkEntries entries + 1
  | .held _ => 1
def uptoBulkAll {H : Type} : List (DataW H) → Nat
  | [] => 0
  | d :: r => uptoBulk d + uptoBulkAll r
def uptoBulkEntries {H : Type} : List (Lit × DataW H) → Nat
  | [] => 0
  | x :: r => uptoBulkEntry x + uptoBulkEntries r
def uptoBulkEntry {H : Type} : Lit × DataW H → Nat
  | (.string bytes, d) => bytes.length + uptoBulk d + 1
  | (_, d) => uptoBulk d + 1
 end
def uptoSmall : (H : Type) → List (DataW H) → Bool := fun _ ds => decide (uptoBulkAll ds ≤ 1048576)
def OpenSpec.upto (s : _root_.Go.ChangeSpec) : _root_.Go.OpenSpec := { _root_.Go.OpenSpec.ofChange s with cond := some uptoSmall }

/-- 'freshetlaw08.ExprLazy', WHERE WHAT IT READS IS OF BULK AT MOST 1048576: true; the input reads as it did. -/
def exprLazyUptoRow : OpenClaim := { program := "ytgkkoeodinlffaa", sum := "b5aba3e9259199a6285f5cf9d20f39014e79e155f20bdaea80dd51f8aa1de89d", func := "freshet/freshetlaw08.ExprLazy", spec := "exprLazy", inPlace := ["math/bits.Add64"], unfollowed := true, recurses := true, loops := true, apart := false, narrowed := true }
def ExprLazyUptoSaid : Prop := exprLazyUptoRow.holds Try.pinned (OpenSpec.upto exprLazySpec)

/-- 'freshetlaw08.ExprLine', WHERE WHAT IT READS IS OF BULK AT MOST 1048576: true; the input reads as it did. -/
def exprLineUptoRow : OpenClaim := { program := "ytgkkoeodinlffaa", sum := "b5aba3e9259199a6285f5cf9d20f39014e79e155f20bdaea80dd51f8aa1de89d", func := "freshet/freshetlaw08.ExprLine", spec := "exprLine", inPlace := ["math/bits.Add64"], unfollowed := true, recurses := true, apart := false, narrowed := true }
def ExprLineUptoSaid : Prop := exprLineUptoRow.holds Try.pinned (OpenSpec.upto exprLineSpec)

/-- 'freshetlaw08.ExprTurned', WHERE WHAT IT READS IS OF BULK AT MOST 1048576: true; the input reads as it did. -/
def exprTurnedUptoRow : OpenClaim := { program := "ytgkkoeodinlffaa", sum := "b5aba3e9259199a6285f5cf9d20f39014e79e155f20bdaea80dd51f8aa1de89d", func := "freshet/freshetlaw08.ExprTurned", spec := "exprTurned", inPlace := ["math/bits.Add64"], unfollowed := true, recurses := true, apart := false, narrowed := true }
def ExprTurnedUptoSaid : Prop := exprTurnedUptoRow.holds Try.pinned (OpenSpec.upto exprTurnedSpec)

/-- 'freshetlaw08.ExprSums', WHERE WHAT IT READS IS OF BULK AT MOST 1048576: true; the input reads as it did. -/
def exprSumsUptoRow : OpenClaim := { program := "ytgkkoeodinlffaa", sum := "b5aba3e9259199a6285f5cf9d20f39014e79e155f20bdaea80dd51f8aa1de89d", func := "freshet/freshetlaw08.ExprSums", spec := "exprSums", inPlace := ["math/bits.Add64"], unfollowed := true, recurses := true, loops := true, apart := false, narrowed := true }
def ExprSumsUptoSaid : Prop := exprSumsUptoRow.holds Try.pinned (OpenSpec.upto exprSumsSpec)

/-- 'freshetlaw08.ExprTyped', WHERE WHAT IT READS IS OF BULK AT MOST 1048576: true; the input reads as it did. -/
def exprTypedUptoRow : OpenClaim := { program := "ytgkkoeodinlffaa", sum := "b5aba3e9259199a6285f5cf9d20f39014e79e155f20bdaea80dd51f8aa1de89d", func := "freshet/freshetlaw08.ExprTyped", spec := "exprTyped", inPlace := ["math/bits.Add64"], unfollowed := true, recurses := true, loops := true, apart := false, narrowed := true }
def ExprTypedUptoSaid : Prop := exprTypedUptoRow.holds Try.pinned (OpenSpec.upto exprTypedSpec)

/-- 'freshetlaw09.PlanParts', WHERE WHAT IT READS IS OF BULK AT MOST 1048576: true; the input reads as it did. -/
def planPartsUptoRow : OpenClaim := { program := "ytgkkoeodinlffaa", sum := "b5aba3e9259199a6285f5cf9d20f39014e79e155f20bdaea80dd51f8aa1de89d", func := "freshet/freshetlaw09.PlanParts", spec := "planParts", unfollowed := true, recurses := true, loops := true, apart := false, narrowed := true }
def PlanPartsUptoSaid : Prop := planPartsUptoRow.holds Try.pinned (OpenSpec.upto planPartsSpec)

/-- 'freshetlaw09.PlanWraps', WHERE WHAT IT READS IS OF BULK AT MOST 1048576: true; the input reads as it did. -/
def planWrapsUptoRow : OpenClaim := { program := "ytgkkoeodinlffaa", sum := "b5aba3e9259199a6285f5cf9d20f39014e79e155f20bdaea80dd51f8aa1de89d", func := "freshet/freshetlaw09.PlanWraps", spec := "planWraps", unfollowed := true, recurses := true, loops := true, apart := false, narrowed := true }
def PlanWrapsUptoSaid : Prop := planWrapsUptoRow.holds Try.pinned (OpenSpec.upto planWrapsSpec)

/-- 'freshetlaw09.PlanLoops', WHERE WHAT IT READS IS OF BULK AT MOST 1048576: true; the input reads as it did. -/
def planLoopsUptoRow : OpenClaim := { program := "ytgkkoeodinlffaa", sum := "b5aba3e9259199a6285f5cf9d20f39014e79e155f20bdaea80dd51f8aa1de89d", func := "freshet/freshetlaw09.PlanLoops", spec := "planLoops", unfollowed := true, recurses := true, loops := true, apart := false, narrowed := true }
def PlanLoopsUptoSaid : Prop := planLoopsUptoRow.holds Try.pinned (OpenSpec.upto planLoopsSpec)

/-- 'freshetlaw14.GraphBuilds', WHERE WHAT IT READS IS OF BULK AT MOST 1048576: true; the input reads as it did. -/
def graphBuildsUptoRow : OpenClaim := { program := "ytgkkoeodinlffaa", sum := "b5aba3e9259199a6285f5cf9d20f39014e79e155f20bdaea80dd51f8aa1de89d", func := "freshet/freshetlaw14.GraphBuilds", spec := "graphBuilds", unfollowed := true, recurses := true, loops := true, apart := false, narrowed := true }
def GraphBuildsUptoSaid : Prop := graphBuildsUptoRow.holds Try.pinned (OpenSpec.upto graphBuildsSpec)

/-- 'freshetlaw14.GraphChecks', WHERE WHAT IT READS IS OF BULK AT MOST 1048576: true; the input reads as it did. -/
def graphChecksUptoRow : OpenClaim := { program := "ytgkkoeodinlffaa", sum := "b5aba3e9259199a6285f5cf9d20f39014e79e155f20bdaea80dd51f8aa1de89d", func := "freshet/freshetlaw14.GraphChecks", spec := "graphChecks", unfollowed := true, recurses := true, loops := true, apart := false, narrowed := true }
def GraphChecksUptoSaid : Prop := graphChecksUptoRow.holds Try.pinned (OpenSpec.upto graphChecksSpec)

/-- 'freshetlaw14.GraphRight', WHERE WHAT IT READS IS OF BULK AT MOST 1048576: true; the input reads as it did. -/
def graphRightUptoRow : OpenClaim := { program := "ytgkkoeodinlffaa", sum := "b5aba3e9259199a6285f5cf9d20f39014e79e155f20bdaea80dd51f8aa1de89d", func := "freshet/freshetlaw14.GraphRight", spec := "graphRight", unfollowed := true, recurses := true, loops := true, apart := false, narrowed := true }
def GraphRightUptoSaid : Prop := graphRightUptoRow.holds Try.pinned (OpenSpec.upto graphRightSpec)

/-- 'freshetlaw14.GraphAgain', WHERE WHAT IT READS IS OF BULK AT MOST 1048576: true; the input reads as it did. -/
def graphAgainUptoRow : OpenClaim := { program := "ytgkkoeodinlffaa", sum := "b5aba3e9259199a6285f5cf9d20f39014e79e155f20bdaea80dd51f8aa1de89d", func := "freshet/freshetlaw14.GraphAgain", spec := "graphAgain", unfollowed := true, recurses := true, loops := true, apart := false, narrowed := true }
def GraphAgainUptoSaid : Prop := graphAgainUptoRow.holds Try.pinned (OpenSpec.upto graphAgainSpec)

/-- 'freshetlaw14.GraphWays', WHERE WHAT IT READS IS OF BULK AT MOST 1048576: true; the input reads as it did. -/
def graphWaysUptoRow : OpenClaim := { program := "ytgkkoeodinlffaa", sum := "b5aba3e9259199a6285f5cf9d20f39014e79e155f20bdaea80dd51f8aa1de89d", func := "freshet/freshetlaw14.GraphWays", spec := "graphWays", unfollowed := true, recurses := true, loops := true, apart := false, narrowed := true }
def GraphWaysUptoSaid : Prop := graphWaysUptoRow.holds Try.pinned (OpenSpec.upto graphWaysSpec)

/-- 'freshetlaw11.LinearParts', WHERE WHAT IT READS IS OF BULK AT MOST 1048576: true; the input reads as it did. -/
def linearPartsUptoRow : OpenClaim := { program := "ytgkkoeodinlffaa", sum := "b5aba3e9259199a6285f5cf9d20f39014e79e155f20bdaea80dd51f8aa1de89d", func := "freshet/freshetlaw11.LinearParts", spec := "linearParts", inPlace := ["math/bits.Add64"], unfollowed := true, recurses := true, loops := true, apart := false, narrowed := true }
def LinearPartsUptoSaid : Prop := linearPartsUptoRow.holds Try.pinned (OpenSpec.upto linearPartsSpec)

/-- 'freshetlaw11.LinearTwice', WHERE WHAT IT READS IS OF BULK AT MOST 1048576: true; the input reads as it did. -/
def linearTwiceUptoRow : OpenClaim := { program := "ytgkkoeodinlffaa", sum := "b5aba3e9259199a6285f5cf9d20f39014e79e155f20bdaea80dd51f8aa1de89d", func := "freshet/freshetlaw11.LinearTwice", spec := "linearTwice", inPlace := ["math/bits.Add64"], unfollowed := true, recurses := true, apart := false, narrowed := true }
def LinearTwiceUptoSaid : Prop := linearTwiceUptoRow.holds Try.pinned (OpenSpec.upto linearTwiceSpec)

/-- 'freshetlaw11.LinearKeys', WHERE WHAT IT READS IS OF BULK AT MOST 1048576: true; the input reads as it did. -/
def linearKeysUptoRow : OpenClaim := { program := "ytgkkoeodinlffaa", sum := "b5aba3e9259199a6285f5cf9d20f39014e79e155f20bdaea80dd51f8aa1de89d", func := "freshet/freshetlaw11.LinearKeys", spec := "linearKeys", inPlace := ["math/bits.Add64"], unfollowed := true, recurses := true, apart := false, narrowed := true }
def LinearKeysUptoSaid : Prop := linearKeysUptoRow.holds Try.pinned (OpenSpec.upto linearKeysSpec)

/-- 'freshetlaw11.LinearRounds', WHERE WHAT IT READS IS OF BULK AT MOST 1048576: true; the input reads as it did. -/
def linearRoundsUptoRow : OpenClaim := { program := "ytgkkoeodinlffaa", sum := "b5aba3e9259199a6285f5cf9d20f39014e79e155f20bdaea80dd51f8aa1de89d", func := "freshet/freshetlaw11.LinearRounds", spec := "linearRounds", inPlace := ["math/bits.Add64"], unfollowed := true, recurses := true, apart := false, narrowed := true }
def LinearRoundsUptoSaid : Prop := linearRoundsUptoRow.holds Try.pinned (OpenSpec.upto linearRoundsSpec)

end Rows
end Go.Proofs.Ytgkkoeodinlffaa
