/-
  Histories as plain functions: what is a point, which ranges tell what they must not.
-/
import Derived.Test.YtplhcfaonhkegaaM0
namespace Go.Proofs.Ytplhcfaonhkegaa

/-- What happened: call, result, from, to, open, free. -/
abbrev MHap := MCall × (MRes × (Int × (Int × (Bool × Bool))))
def hDone (x : MHap) (k : Int) : Bool := decide (x.1.1 = k) && ((x.2.2.2.2.1 || x.2.2.2.2.2) || decide (x.2.1.1 = 0))
def hSure (x : MHap) : Bool := !x.2.2.2.2.1 && !x.2.2.2.2.2
def hAhead (a b : MHap) : Bool := !a.2.2.2.2.1 && decide (a.2.2.2.1 < b.2.2.1)
def hNothing (x : MHap) : Bool := !x.2.2.2.2.1 && decide (x.2.1.1 = 121)
def hWithin1 (r put x : MHap) : Bool := ((hDone x 2 && decide (x.1.2.1 = put.1.2.1)) && !hAhead x put) && decide (x.2.2.1 < r.2.2.2.1)
def hWithin (l : List MHap) (r put : MHap) : Bool := l.any (hWithin1 r put)
def hGone1 (r put x : MHap) : Bool := (((hDone x 2 && hSure x) && decide (x.1.2.1 = put.1.2.1)) && hAhead put x) && hAhead x r
def hGone (l : List MHap) (r put : MHap) : Bool := hSure put && l.any (hGone1 r put)
def hMay1 (l : List MHap) (r : MHap) (i : MItem) (x : MHap) : Bool := (((hDone x 1 && decide (x.1.2.1 = i.1)) && decide (x.1.2.2.2 = i.2)) && decide (x.2.2.1 < r.2.2.2.1)) && !hGone l r x
def hMay (l : List MHap) (r : MHap) (i : MItem) : Bool := l.any (hMay1 l r i)
def hTold (r : MHap) (k : Int) : Bool := r.2.1.2.2.2.1.any fun i => decide (i.1 = k)
def hMisses1 (l : List MHap) (r x : MHap) : Bool := (((((decide (r.1.2.1 ≤ x.1.2.1) && decide (x.1.2.1 ≤ r.1.2.2.1)) && !hTold r x.1.2.1) && hDone x 1) && hSure x) && hAhead x r) && !hWithin l r x
def hMisses (l : List MHap) (r : MHap) : Bool := l.any (hMisses1 l r)
def hBad (l : List MHap) (r : MHap) : Option Int → List MItem → Bool
  | _, [] => false
  | p, x :: is => (decide (x.1 < r.1.2.1) || decide (r.1.2.2.1 < x.1) || (match p with | none => false | some q => decide (x.1 ≤ q)) || !hMay l r x) || hBad l r (some x.1) is
def hWrong (l : List MHap) (r : MHap) : Bool := hBad l r none r.2.1.2.2.2.1 || hMisses l r
def hRange (l : List MHap) (x : MHap) : Bool := ((decide (x.1.1 = 5) && !x.2.2.2.2.1) && decide (x.2.1.1 = 0)) && hWrong l x
/-- The places of those that are wrong, from a place on. -/
def hRanges (l : List MHap) : Int → List MHap → List Int
  | _, [] => []
  | n, x :: xs => if hRange l x then n :: hRanges l (n + 1) xs else hRanges l (n + 1) xs
def hPoint (x : MHap) : MHap := if x.2.2.2.2.2 then (x.1, mErr 0, x.2.2) else x
def hPoints : List MHap → List MHap
  | [] => []
  | x :: xs => if decide (x.1.1 = 5) || hNothing x then hPoints xs else hPoint x :: hPoints xs
end Go.Proofs.Ytplhcfaonhkegaa
