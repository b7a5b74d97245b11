/-
  Contracts: WashingIn and PressEnds.
-/
import Derived.Test.YtfjkmocjlmcjdaaPr9
namespace Go.Proofs.Ytfjkmocjlmcjdaa
open Go.RowKit
def allEnds (a b c ink : Int) (xs : List Int) (ms : List PJob) (os : List Int) : List Int × Int := endsL xs ms (timesL a b c ms) os ink 0 0
def wiV (a b c ink : Int) (xs : List Int) (ms : List PJob) (os : List Int) : Int := if askB a b c xs ink ms os then (allEnds a b c ink xs ms os).2 else 0
def peV (a b c ink : Int) (xs : List Int) (ms : List PJob) (os : List Int) : List Int := if askB a b c xs ink ms os then (allEnds a b c ink xs ms os).1 else []
end Go.Proofs.Ytfjkmocjlmcjdaa
