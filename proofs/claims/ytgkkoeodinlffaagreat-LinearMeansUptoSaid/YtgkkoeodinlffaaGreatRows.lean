/-
  NARROWER THAN 'FOR EVERY INPUT', by the rows' own cells (each row's printed sentence says how): TopSifted: loops · MeanTyped: loops · MeanLaws: loops · MeanSums: loops · MeanLoop: loops · LinearMeans: loops.
  DERIVED. THE GIVEN ROWS OF THIS SEAT. 8 by the template 'for every input the law returns true; each argument reads behind the call as it read before'; 0 by the template 'total and deterministic' (their statements: YtgkkoeodinlffaaGreatTotals.lean).
  GIVEN WITH THE SEED: the statements are not yours to turn. If you find one false, say at which input.
  Laid BY PROGRAM, IN A SANDBOX (cutbox-rows.mjs): the forced cells as the released guide's own fill.sh prints them over the translation e3d872b075487492… (all of the seat's roots in one cut). By AI agents, Wed Nov 11 2026. No macro, syntax, notation, axiom, sorry.
-/
import Derived.Test.YtgkkoeodinlffaaGreatChecked
import GoSem.Claim
import GoSem.ClaimJoined
import GoSem.ClaimMapViews
import Derived.JoinedTies
import Derived.KernelRfl
namespace Go.Proofs.YtgkkoeodinlffaaGreat
/- THE CELL 'sum', in the pinned program and in every row, IS THE sha256 OF THE DUMP (.gsa) THAT YtgkkoeodinlffaaGreatProg.lean LOADS. Nothing in Lean hashes anything: it is a label: what it is worth is what the hold of that sum in a sandbox is worth. -/
noncomputable def Tryz.pinned : Pinned := { name := "ytgkkoeodinlffaagreat", sum := "e3d872b075487492d58aaabb6af05c9f99610a2a26465180ebc302bcdd7cb825", checked := Tryz.checked }
namespace Rows
def none {H : Type} : Left H := { results := [], args := [] }

/-- 'freshettop.TopSifted': WHATEVER THE INPUT: true; the input reads as it did. -/
def topSiftedSpec : ChangeSpec := { name := "topSifted", fn := fun _ => fun
  | [d1, d2, d3] => { results := [.lit (.bool true)], args := [d1, d2, d3] }
  | _ => none }
def topSiftedRow : OpenClaim := { program := "ytgkkoeodinlffaagreat", sum := "e3d872b075487492d58aaabb6af05c9f99610a2a26465180ebc302bcdd7cb825", func := "freshet/freshettop.TopSifted", spec := "topSifted", inPlace := ["slices.overlaps[freshet/api.File]", "math/bits.Add64", "slices.overlaps[freshet/api.Level]"], unfollowed := true, recurses := true, loops := true, apart := false }
def TopSiftedSaid : Prop := topSiftedRow.holds Tryz.pinned (OpenSpec.ofChange topSiftedSpec)

/-- ITS FALSE NEIGHBOUR: 'it returns false'. Refute it at one input. -/
def topSiftedWrong : ChangeSpec := { name := "topSifted", fn := fun _ => fun
  | [d1, d2, d3] => { results := [.lit (.bool false)], args := [d1, d2, d3] }
  | _ => none }
def TopSiftedWrongFalsely : Prop := topSiftedRow.holds Tryz.pinned (OpenSpec.ofChange topSiftedWrong)

/-- 'freshetlaw10.MeanTyped': WHATEVER THE INPUT: true; the input reads as it did. -/
def meanTypedSpec : ChangeSpec := { name := "meanTyped", fn := fun _ => fun
  | [d1, d2, d3] => { results := [.lit (.bool true)], args := [d1, d2, d3] }
  | _ => none }
def meanTypedRow : OpenClaim := { program := "ytgkkoeodinlffaagreat", sum := "e3d872b075487492d58aaabb6af05c9f99610a2a26465180ebc302bcdd7cb825", func := "freshet/freshetlaw10.MeanTyped", spec := "meanTyped", inPlace := ["math/bits.Add64", "slices.overlaps[freshet/mean.group]"], unfollowed := true, recurses := true, loops := true, apart := false }
def MeanTypedSaid : Prop := meanTypedRow.holds Tryz.pinned (OpenSpec.ofChange meanTypedSpec)

/-- ITS FALSE NEIGHBOUR: 'it returns false'. Refute it at one input. -/
def meanTypedWrong : ChangeSpec := { name := "meanTyped", fn := fun _ => fun
  | [d1, d2, d3] => { results := [.lit (.bool false)], args := [d1, d2, d3] }
  | _ => none }
def MeanTypedWrongFalsely : Prop := meanTypedRow.holds Tryz.pinned (OpenSpec.ofChange meanTypedWrong)

/-- 'freshetlaw10.MeanLaws': WHATEVER THE INPUT: true; the input reads as it did. -/
def meanLawsSpec : ChangeSpec := { name := "meanLaws", fn := fun _ => fun
  | [d1, d2, d3] => { results := [.lit (.bool true)], args := [d1, d2, d3] }
  | _ => none }
def meanLawsRow : OpenClaim := { program := "ytgkkoeodinlffaagreat", sum := "e3d872b075487492d58aaabb6af05c9f99610a2a26465180ebc302bcdd7cb825", func := "freshet/freshetlaw10.MeanLaws", spec := "meanLaws", inPlace := ["math/bits.Add64", "slices.overlaps[freshet/mean.group]"], unfollowed := true, recurses := true, loops := true, apart := false }
def MeanLawsSaid : Prop := meanLawsRow.holds Tryz.pinned (OpenSpec.ofChange meanLawsSpec)

/-- ITS FALSE NEIGHBOUR: 'it returns false'. Refute it at one input. -/
def meanLawsWrong : ChangeSpec := { name := "meanLaws", fn := fun _ => fun
  | [d1, d2, d3] => { results := [.lit (.bool false)], args := [d1, d2, d3] }
  | _ => none }
def MeanLawsWrongFalsely : Prop := meanLawsRow.holds Tryz.pinned (OpenSpec.ofChange meanLawsWrong)

/-- 'freshetlaw10.MeanSums': WHATEVER THE INPUT: true; the input reads as it did. -/
def meanSumsSpec : ChangeSpec := { name := "meanSums", fn := fun _ => fun
  | [d1, d2, d3, d4] => { results := [.lit (.bool true)], args := [d1, d2, d3, d4] }
  | _ => none }
def meanSumsRow : OpenClaim := { program := "ytgkkoeodinlffaagreat", sum := "e3d872b075487492d58aaabb6af05c9f99610a2a26465180ebc302bcdd7cb825", func := "freshet/freshetlaw10.MeanSums", spec := "meanSums", inPlace := ["math/bits.Add64", "slices.overlaps[freshet/mean.group]"], unfollowed := true, recurses := true, loops := true, apart := false }
def MeanSumsSaid : Prop := meanSumsRow.holds Tryz.pinned (OpenSpec.ofChange meanSumsSpec)

/-- ITS FALSE NEIGHBOUR: 'it returns false'. Refute it at one input. -/
def meanSumsWrong : ChangeSpec := { name := "meanSums", fn := fun _ => fun
  | [d1, d2, d3, d4] => { results := [.lit (.bool false)], args := [d1, d2, d3, d4] }
  | _ => none }
def MeanSumsWrongFalsely : Prop := meanSumsRow.holds Tryz.pinned (OpenSpec.ofChange meanSumsWrong)

/-- 'freshettop.TopOnce': WHATEVER THE INPUT: true; the input reads as it did. -/
def topOnceSpec : ChangeSpec := { name := "topOnce", fn := fun _ => fun
  | [d1, d2, d3] => { results := [.lit (.bool true)], args := [d1, d2, d3] }
  | _ => none }
def topOnceRow : OpenClaim := { program := "ytgkkoeodinlffaagreat", sum := "e3d872b075487492d58aaabb6af05c9f99610a2a26465180ebc302bcdd7cb825", func := "freshet/freshettop.TopOnce", spec := "topOnce", inPlace := ["slices.overlaps[freshet/api.File]", "math/bits.Add64"], unfollowed := true, recurses := true, apart := false }
def TopOnceSaid : Prop := topOnceRow.holds Tryz.pinned (OpenSpec.ofChange topOnceSpec)

/-- ITS FALSE NEIGHBOUR: 'it returns false'. Refute it at one input. -/
def topOnceWrong : ChangeSpec := { name := "topOnce", fn := fun _ => fun
  | [d1, d2, d3] => { results := [.lit (.bool false)], args := [d1, d2, d3] }
  | _ => none }
def TopOnceWrongFalsely : Prop := topOnceRow.holds Tryz.pinned (OpenSpec.ofChange topOnceWrong)

/-- 'freshetlaw10.MeanLoop': WHATEVER THE INPUT: true; the input reads as it did. -/
def meanLoopSpec : ChangeSpec := { name := "meanLoop", fn := fun _ => fun
  | [d1, d2, d3, d4] => { results := [.lit (.bool true)], args := [d1, d2, d3, d4] }
  | _ => none }
def meanLoopRow : OpenClaim := { program := "ytgkkoeodinlffaagreat", sum := "e3d872b075487492d58aaabb6af05c9f99610a2a26465180ebc302bcdd7cb825", func := "freshet/freshetlaw10.MeanLoop", spec := "meanLoop", inPlace := ["math/bits.Add64", "slices.overlaps[freshet/mean.group]"], unfollowed := true, recurses := true, loops := true, apart := false }
def MeanLoopSaid : Prop := meanLoopRow.holds Tryz.pinned (OpenSpec.ofChange meanLoopSpec)

/-- ITS FALSE NEIGHBOUR: 'it returns false'. Refute it at one input. -/
def meanLoopWrong : ChangeSpec := { name := "meanLoop", fn := fun _ => fun
  | [d1, d2, d3, d4] => { results := [.lit (.bool false)], args := [d1, d2, d3, d4] }
  | _ => none }
def MeanLoopWrongFalsely : Prop := meanLoopRow.holds Tryz.pinned (OpenSpec.ofChange meanLoopWrong)

/-- 'freshetlaw10.MeanTop': WHATEVER THE INPUT: true; the input reads as it did. -/
def meanTopSpec : ChangeSpec := { name := "meanTop", fn := fun _ => fun
  | [d1, d2, d3] => { results := [.lit (.bool true)], args := [d1, d2, d3] }
  | _ => none }
def meanTopRow : OpenClaim := { program := "ytgkkoeodinlffaagreat", sum := "e3d872b075487492d58aaabb6af05c9f99610a2a26465180ebc302bcdd7cb825", func := "freshet/freshetlaw10.MeanTop", spec := "meanTop", inPlace := ["math/bits.Add64", "slices.overlaps[freshet/mean.group]"], unfollowed := true, recurses := true, apart := false }
def MeanTopSaid : Prop := meanTopRow.holds Tryz.pinned (OpenSpec.ofChange meanTopSpec)

/-- ITS FALSE NEIGHBOUR: 'it returns false'. Refute it at one input. -/
def meanTopWrong : ChangeSpec := { name := "meanTop", fn := fun _ => fun
  | [d1, d2, d3] => { results := [.lit (.bool false)], args := [d1, d2, d3] }
  | _ => none }
def MeanTopWrongFalsely : Prop := meanTopRow.holds Tryz.pinned (OpenSpec.ofChange meanTopWrong)

/-- 'freshetlaw11.LinearMeans': WHATEVER THE INPUT: true; the input reads as it did. -/
def linearMeansSpec : ChangeSpec := { name := "linearMeans", fn := fun _ => fun
  | [d1, d2, d3, d4] => { results := [.lit (.bool true)], args := [d1, d2, d3, d4] }
  | _ => none }
def linearMeansRow : OpenClaim := { program := "ytgkkoeodinlffaagreat", sum := "e3d872b075487492d58aaabb6af05c9f99610a2a26465180ebc302bcdd7cb825", func := "freshet/freshetlaw11.LinearMeans", spec := "linearMeans", inPlace := ["math/bits.Add64", "slices.overlaps[freshet/mean.group]"], unfollowed := true, recurses := true, loops := true, apart := false }
def LinearMeansSaid : Prop := linearMeansRow.holds Tryz.pinned (OpenSpec.ofChange linearMeansSpec)

/-- ITS FALSE NEIGHBOUR: 'it returns false'. Refute it at one input. -/
def linearMeansWrong : ChangeSpec := { name := "linearMeans", fn := fun _ => fun
  | [d1, d2, d3, d4] => { results := [.lit (.bool false)], args := [d1, d2, d3, d4] }
  | _ => none }
def LinearMeansWrongFalsely : Prop := linearMeansRow.holds Tryz.pinned (OpenSpec.ofChange linearMeansWrong)

/- THE SECOND FORM. 'bulk': how many values and letters a reading holds, each counted each time it is reached (what is shared counts as often as it is met; a slice's spare places count too). A statement '..UptoSaid' is the law's where the arguments, and the package variables that the reading takes, are together of bulk at most 1048576: NARROWER than '..Said'. Prove '..Said' where nothing that the law and all that it calls make is longer than what came in: it says more and counts as full. Else prove '..UptoSaid'. A law counts once. -/
mutual
def uptoBulk {H : Type} : DataW H → Nat
  | .lit (.string bytes) => bytes.length + 1
  | .lit _ => 1
  | .nil => 1
  | .ptr d => uptoBulk d + 1
  | .slice elems spare => uptoBulkAll elems + uptoBulkAll spare + 1
  | .agg parts => uptoBulkAll parts + 1
  | .iface _ d => uptoBulk d + 1
  | .map entries => uptoBulkEntries entries + 1
  | .held _ => 1
def uptoBulkAll {H : Type} : List (DataW H) → Nat
  | [] => 0
  | d :: r => uptoBulk d + uptoBulkAll r
def uptoBulkEntries {H : Type} : List (Lit × DataW H) → Nat
  | [] => 0
  | x :: r => uptoBulkEntry x + uptoBulkEntries r
def uptoBulkEntry {H : Type} : Lit × DataW H → Nat
  | (.string bytes, d) => bytes.length + uptoBulk d + 1
  | (_, d) => uptoBulk d + 1
 end
def uptoSmall : (H : Type) → List (DataW H) → Bool := fun _ ds => decide (uptoBulkAll ds ≤ 1048576)
def OpenSpec.upto (s : _root_.Go.ChangeSpec) : _root_.Go.OpenSpec := { _root_.Go.OpenSpec.ofChange s with cond := some uptoSmall }

/-- 'freshettop.TopSifted', WHERE WHAT IT READS IS OF BULK AT MOST 1048576: true; the input reads as it did. -/
def topSiftedUptoRow : OpenClaim := { program := "ytgkkoeodinlffaagreat", sum := "e3d872b075487492d58aaabb6af05c9f99610a2a26465180ebc302bcdd7cb825", func := "freshet/freshettop.TopSifted", spec := "topSifted", inPlace := ["slices.overlaps[freshet/api.File]", "math/bits.Add64", "slices.overlaps[freshet/api.Level]"], unfollowed := true, recurses := true, loops := true, apart := false, narrowed := true }
def TopSiftedUptoSaid : Prop := topSiftedUptoRow.holds Tryz.pinned (OpenSpec.upto topSiftedSpec)

/-- 'freshetlaw10.MeanTyped', WHERE WHAT IT READS IS OF BULK AT MOST 1048576: true; the input reads as it did. -/
def meanTypedUptoRow : OpenClaim := { program := "ytgkkoeodinlffaagreat", sum := "e3d872b075487492d58aaabb6af05c9f99610a2a26465180ebc302bcdd7cb825", func := "freshet/freshetlaw10.MeanTyped", spec := "meanTyped", inPlace := ["math/bits.Add64", "slices.overlaps[freshet/mean.group]"], unfollowed := true, recurses := true, loops := true, apart := false, narrowed := true }
def MeanTypedUptoSaid : Prop := meanTypedUptoRow.holds Tryz.pinned (OpenSpec.upto meanTypedSpec)

/-- 'freshetlaw10.MeanLaws', WHERE WHAT IT READS IS OF BULK AT MOST 1048576: true; the input reads as it did. -/
def meanLawsUptoRow : OpenClaim := { program := "ytgkkoeodinlffaagreat", sum := "e3d872b075487492d58aaabb6af05c9f99610a2a26465180ebc302bcdd7cb825", func := "freshet/freshetlaw10.MeanLaws", spec := "meanLaws", inPlace := ["math/bits.Add64", "slices.overlaps[freshet/mean.group]"], unfollowed := true, recurses := true, loops := true, apart := false, narrowed := true }
def MeanLawsUptoSaid : Prop := meanLawsUptoRow.holds Tryz.pinned (OpenSpec.upto meanLawsSpec)

/-- 'freshetlaw10.MeanSums', WHERE WHAT IT READS IS OF BULK AT MOST 1048576: true; the input reads as it did. -/
def meanSumsUptoRow : OpenClaim := { program := "ytgkkoeodinlffaagreat", sum := "e3d872b075487492d58aaabb6af05c9f99610a2a26465180ebc302bcdd7cb825", func := "freshet/freshetlaw10.MeanSums", spec := "meanSums", inPlace := ["math/bits.Add64", "slices.overlaps[freshet/mean.group]"], unfollowed := true, recurses := true, loops := true, apart := false, narrowed := true }
def MeanSumsUptoSaid : Prop := meanSumsUptoRow.holds Tryz.pinned (OpenSpec.upto meanSumsSpec)

/-- 'freshettop.TopOnce', WHERE WHAT IT READS IS OF BULK AT MOST 1048576: true; the input reads as it did. -/
def topOnceUptoRow : OpenClaim := { program := "ytgkkoeodinlffaagreat", sum := "e3d872b075487492d58aaabb6af05c9f99610a2a26465180ebc302bcdd7cb825", func := "freshet/freshettop.TopOnce", spec := "topOnce", inPlace := ["slices.overlaps[freshet/api.File]", "math/bits.Add64"], unfollowed := true, recurses := true, apart := false, narrowed := true }
def TopOnceUptoSaid : Prop := topOnceUptoRow.holds Tryz.pinned (OpenSpec.upto topOnceSpec)

/-- 'freshetlaw10.MeanLoop', WHERE WHAT IT READS IS OF BULK AT MOST 1048576: true; the input reads as it did. -/
def meanLoopUptoRow : OpenClaim := { program := "ytgkkoeodinlffaagreat", sum := "e3d872b075487492d58aaabb6af05c9f99610a2a26465180ebc302bcdd7cb825", func := "freshet/freshetlaw10.MeanLoop", spec := "meanLoop", inPlace := ["math/bits.Add64", "slices.overlaps[freshet/mean.group]"], unfollowed := true, recurses := true, loops := true, apart := false, narrowed := true }
def MeanLoopUptoSaid : Prop := meanLoopUptoRow.holds Tryz.pinned (OpenSpec.upto meanLoopSpec)

/-- 'freshetlaw10.MeanTop', WHERE WHAT IT READS IS OF BULK AT MOST 1048576: true; the input reads as it did. -/
def meanTopUptoRow : OpenClaim := { program := "ytgkkoeodinlffaagreat", sum := "e3d872b075487492d58aaabb6af05c9f99610a2a26465180ebc302bcdd7cb825", func := "freshet/freshetlaw10.MeanTop", spec := "meanTop", inPlace := ["math/bits.Add64", "slices.overlaps[freshet/mean.group]"], unfollowed := true, recurses := true, apart := false, narrowed := true }
def MeanTopUptoSaid : Prop := meanTopUptoRow.holds Tryz.pinned (OpenSpec.upto meanTopSpec)

/-- 'freshetlaw11.LinearMeans', WHERE WHAT IT READS IS OF BULK AT MOST 1048576: true; the input reads as it did. -/
def linearMeansUptoRow : OpenClaim := { program := "ytgkkoeodinlffaagreat", sum := "e3d872b075487492d58aaabb6af05c9f99610a2a26465180ebc302bcdd7cb825", func := "freshet/freshetlaw11.LinearMeans", spec := "linearMeans", inPlace := ["math/bits.Add64", "slices.overlaps[freshet/mean.group]"], unfollowed := true, recurses := true, loops := true, apart := false, narrowed := true }
def LinearMeansUptoSaid : Prop := linearMeansUptoRow.holds Tryz.pinned (OpenSpec.upto linearMeansSpec)

end Rows
end Go.Proofs.YtgkkoeodinlffaaGreat
