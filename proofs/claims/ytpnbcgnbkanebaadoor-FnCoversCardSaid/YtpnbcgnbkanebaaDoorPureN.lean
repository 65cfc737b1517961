/- Plain facts: what FnCovers asks of the patterns that MakePattern draws. -/
import Derived.Test.YtpnbcgnbkanebaaDoorPureK
import Derived.Test.YtpnbcgnbkanebaaDoorPureX
import Derived.Test.YtpnbcgnbkanebaaDoorFlw
import Derived.Test.YtpnbcgnbkanebaaDoorFcd
import Derived.Test.YtpnbcgnbkanebaaDoorFct
namespace Go.Proofs.YtpnbcgnbkanebaaDoor
/-- the letters of one element -/
def cntL (a : List Int) (i : Nat) : Nat := (a.filter fun v => v == (i : Int)).length
def adjB : List (List Int) → Bool
  | [] => true
  | [_] => true
  | x :: y :: l => lexB x y && adjB (y :: l)
def oneChk (p : List Int) (n : Nat) (x : List Int) : Bool := match takO p n x with
  | some a => (a.length == n) && (x.length * p.length == n) && (a.all fun v => decide (0 ≤ v) && decide (v ≤ 100)) && (List.range x.length).all fun i => cntL a i == p.length
  | none => false
def allChk (p : List Int) (n : Nat) (L : List (List Int)) : Bool := adjB L && L.all (oneChk p n)
def cvN (A B n : Nat) : Nat := ctK A B n (n + 1) 0 0
def numChk (A B len n : Nat) : Bool := (cvN B A n == cvN A B n) && (n == 0 || cvN A B n == 0 || n % len == 0) && (List.range 12).all fun k => decide (cvN A B n * cvN A B k ≤ cvN A B (n + k))
def covChkN (p : List Int) (A B n : Nat) : Bool := numChk A B p.length n && allChk p n (cvK A B n (n + 1) 0 0)
def covChk (p : List Int) : Bool := (cvN (maskN p) (maskN (mirL p)) 0 == 1) && (List.range 13).all (covChkN p (maskN p) (maskN (mirL p)))
theorem pats_cov : (pats.all covChk) = true := by decide +kernel
end Go.Proofs.YtpnbcgnbkanebaaDoor
