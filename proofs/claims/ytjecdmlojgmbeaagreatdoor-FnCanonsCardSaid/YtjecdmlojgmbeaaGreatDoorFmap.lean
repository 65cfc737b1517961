/- Contracts: l02Map; RotateRhythm on both sides; the phase of a rhythm. -/
import Derived.Test.YtjecdmlojgmbeaaGreatDoorFjoin
namespace Go.Proofs.YtjecdmlojgmbeaaGreatDoor
open Go.RowKit
/-- u times each number plus k -/
def mulL (u k : Int) (l : List Int) : List Int := l.map fun x => u * x + k
theorem mulL_len (u k : Int) (l : List Int) : (mulL u k l).length = l.length := by simp [mulL]
def mapN (n : Nat) (u k : Int) (l : List Int) : List Int := remL n (mulL u k l)
theorem mapN_len (n : Nat) (u k : Int) (l : List Int) : (mapN n u k l).length = l.length := by simp [mapN, remL_len, mulL_len]
theorem mapN_take {n : Nat} {u k : Int} {j : Nat} {l : List Int} {x : Int} (h : l[j]? = some x) : mapN n u k (l.take (j + 1)) = mapN n u k (l.take j) ++ [(u * x + k) % (n : Int)] := by
  unfold mapN mulL remL; rw [take_succ h]; simp
theorem mulL_one (k : Int) (l : List Int) : mulL 1 k l = addL k l := by simp [mulL, addL]
/-- the pulses u * p + k -/
def mapL (n : Nat) (l : List Int) (u k : Int) : List Int := rhL n (mapN n u k l)
theorem mapL_one (n : Nat) (l : List Int) (k : Int) : mapL n l 1 k = rotL n l k := by unfold mapL mapN rotL; rw [mulL_one]
end Go.Proofs.YtjecdmlojgmbeaaGreatDoor
