/-
  Flat, part 15c: a variable that is given up: pointers to it are pointers to cells that stay as they are.
-/
import Derived.Test.YtgkkoeodinlffaaGreatFlatD
set_option linter.unusedVariables false
set_option linter.unusedSimpArgs false
namespace Go.Flat
set_option linter.unusedSimpArgs false
/-- A value, the variable 'id' given up. -/
def frvA (id : Nat) (cs : List PV) : AV → AV
  | .sl k L off len => if k = id then .any else .sl k L off len
  | .eptr k L i off => if k = id then .any else .eptr k L i off
  | .ptr k off => if k = id then .p (.pp (cs.drop off)) else .ptr k off
  | .fn f c => .fn f (frvL id cs c)
  | .agg c => .agg (frvL id cs c)
  | .tup c => .tup (frvL id cs c)
  | x => x
where frvL (id : Nat) (cs : List PV) : List AV → List AV
  | [] => []
  | a :: r => frvA id cs a :: frvL id cs r
def frvS (id : Nat) (cs : List PV) : List (Loc × C) → List (Loc × C)
  | [] => []
  | (.arr k, c) :: r => if k = id then frvS id cs r else (.arr k, c) :: frvS id cs r
  | (.var k, c) :: r => if k = id then frvS id cs r else (.var k, c) :: frvS id cs r
  | (.tmp k, .av a) :: r => (.tmp k, .av (frvA id cs a)) :: frvS id cs r
  | (.cell k j, .av a) :: r => if k = id then frvS id cs r else (.cell k j, .av (frvA id cs a)) :: frvS id cs r
  | _ :: r => frvS id cs r
section
variable {P : Program} {F : Nat → Nat → Prop} {G : Start} {ρ : Ren} {t s : Sto} {l l' : List (Loc × C)} {a : Act} {w : World} {id : Nat} {cs : List PV} {Q : Post}
end
end Go.Flat
