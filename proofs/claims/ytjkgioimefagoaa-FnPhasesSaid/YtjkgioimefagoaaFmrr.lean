/- Contracts: mirrored, AxesOf, IsMirrored, CountBeats (of rhythms that are in order). -/
import Derived.Test.YtjkgioimefagoaaFrot
import Derived.Test.YtjkgioimefagoaaFequ
import Derived.Test.YtjkgioimefagoaaFrok
import Derived.Deep.RegionHeld3
namespace Go.Proofs.Ytjkgioimefagoaa
open Go.RowKit
/-- each number turned -/
def negL (l : List Int) : List Int := l.map fun x => -x
theorem negL_len (l : List Int) : (negL l).length = l.length := by simp [negL]
theorem negL_take {j : Nat} {l : List Int} {x : Int} (h : l[j]? = some x) : negL (l.take (j + 1)) = negL (l.take j) ++ [-x] := by
  unfold negL; rw [take_succ h]; simp
/-- the mirror -/
def mrL (n : Nat) (l : List Int) : List Int := rhL n (remL n (negL l))
/-- the axes below k -/
def axUp (n : Nat) (l : List Int) (k : Nat) : List Int := (rng k).filter fun j => decide (rotL n (mrL n l) j = l)
theorem axUp_t {n : Nat} {l : List Int} {k : Nat} (h : rotL n (mrL n l) k = l) : axUp n l (k + 1) = axUp n l k ++ [(k : Int)] := by
  unfold axUp; rw [rng_succ, List.filter_append]; simp [List.filter_cons, h]
theorem axUp_f {n : Nat} {l : List Int} {k : Nat} (h : ¬ rotL n (mrL n l) k = l) : axUp n l (k + 1) = axUp n l k := by
  unfold axUp; rw [rng_succ, List.filter_append]; simp [List.filter_cons, h]
theorem axUp_len (n : Nat) (l : List Int) (k : Nat) : (axUp n l k).length ≤ k := by
  unfold axUp; exact Nat.le_trans (List.length_filter_le _ _) (Nat.le_of_eq (rng_len k))
end Go.Proofs.Ytjkgioimefagoaa
