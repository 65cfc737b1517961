/- Plain facts: the patterns that MakePattern draws. -/
import Derived.Test.YtpnbcgnbkanebaaDoorPure
namespace Go.Proofs.YtpnbcgnbkanebaaDoor
/-- the patterns that MakePattern draws -/
def patGrow (l : List Int) : List (List Int) := [l ++ [lastI l + 1 + 0], l ++ [lastI l + 1 + 1], l ++ [lastI l + 1 + 2], l ++ [lastI l + 1 + 3]]
def patUp : Nat → List (List Int)
  | 0 => [[0]]
  | n + 1 => (patUp n).flatMap patGrow
def patsGood : List (List Int) := [[0, 2], [0, 1, 4, 5], [0, 3, 6], [0, 1, 2, 6, 7, 8], [0, 4, 8]]
def pats : List (List Int) := patsGood ++ (patUp 0 ++ (patUp 1 ++ (patUp 2 ++ patUp 3)))
theorem pats_okB : (pats.all patB) = true := by decide +kernel
theorem pats_ok {l : List Int} (h : l ∈ pats) : PatOk l := (patB_iff l).1 (List.all_eq_true.1 pats_okB l h)
end Go.Proofs.YtpnbcgnbkanebaaDoor
