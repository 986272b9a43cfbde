-- by rowgen.py (wip/)
import Derived.Test.YtnimmolcgpkfdaaDoorPIncrementKeepx6
namespace Go.Proofs.YtnimmolcgpkfdaaDoor.PIncrementKeep
open Go.RowKit Go.Proofs.YtnimmolcgpkfdaaDoorW.PrintWords
/-! What is asked of the law's printed function. -/
def g3 (x : Int) : Prop := (Lit.int .i64 x).wf = true
def g23 (x : S23) : Prop := g3 x.f0 ∧ g3 x.f1 ∧ g3 x.f2
def g25 (x : S25) : Prop := g3 x.f0 ∧ g3 x.f1 ∧ g3 x.f2
def IncrementKeep.Pure : Prop := ∀ x0 : S23, ∀ x1 : S25, ∀ x2 : Int, g23 x0 → g25 x1 → g3 x2 → ∃ k, emendatelaw43_IncrementKeep.f k x0.f0 x0.f1 x0.f2 x1.f0 x1.f1 x1.f2 x2 = some true
end Go.Proofs.YtnimmolcgpkfdaaDoor.PIncrementKeep
