import Derived.Test.YtbpmmabdjabfcaaTablePut
import Derived.Test.YtbpmmabdjabfcaaTableTold
/- Package table: a configuration's numbers, in plain words. -/
namespace Go.Proofs.Ytbpmmabdjabfcaa.Table
open Go.RowKit Go.Proofs.YtbpmmabdjabfcaaW.PrintWords Go.Proofs.Ytbpmmabdjabfcaa.PT
def fP (y : S64) : List Int := [y.f0, y.f1]
def fX (y : S68) : List Int := [y.f0, y.f1, y.f2, y.f3, y.f4, y.f5, y.f6]
def fW (y : S72) : List Int := [y.f0, y.f1, y.f2]
/-- A configuration's numbers, in order. -/
def headL (c : Cfg) : List Int := [(c.ps.length : Int), (c.xs.length : Int), c.l0, (c.ws0.length : Int), c.l1, (c.ws1.length : Int)]
def numsL (c : Cfg) : List Int := headL c ++ c.ps.flatMap fP ++ c.xs.flatMap fX ++ (c.ws0 ++ c.ws1).flatMap fW
def badL (l : List Int) : Bool := l.any (fun n => !fitB n)
def printL (c : Cfg) : List Int := if fewB c = true then (if badL (numsL c) = true then [] else (numsL c).map wd) else []
end Go.Proofs.Ytbpmmabdjabfcaa.Table
