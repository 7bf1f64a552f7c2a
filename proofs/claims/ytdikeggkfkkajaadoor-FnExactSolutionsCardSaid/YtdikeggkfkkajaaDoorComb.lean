/- Pure: rows of falling numbers; each goes on from a row by one number that is no greater than its last; all are laid down, in order. -/
import Derived.Test.YtdikeggkfkkajaaDoorWMore
namespace Go.Proofs.YtdikeggkfkkajaaDoor.Comb
def put (bg : List Int) (acc : List (List Int)) : List (List Int) := if bg.length = 0 then acc else acc ++ [bg]
/-- m rounds from the number i on. -/
def go (rec : Nat → List Int → List (List Int) → Option (List (List Int))) (bg : List Int) : Nat → Nat → List (List Int) → Option (List (List Int))
  | 0, _, acc => some acc
  | m + 1, i, acc => (rec i (bg ++ [(i : Int)]) acc).bind fun t => go rec bg m (i + 1) t
/-- All rows from bg on, with at most k numbers more, none greater than wide; none where there would be too many. -/
def look : Nat → Nat → List Int → List (List Int) → Option (List (List Int))
  | 0, _, bg, acc => if acc.length < 1000000000 then some (put bg acc) else none
  | k + 1, wide, bg, acc => if acc.length < 1000000000 then go (look k) bg wide 1 (put bg acc) else none
end Go.Proofs.YtdikeggkfkkajaaDoor.Comb
