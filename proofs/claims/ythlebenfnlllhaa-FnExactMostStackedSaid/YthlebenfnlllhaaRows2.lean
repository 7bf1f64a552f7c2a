/- Pure: rows of indices, each with one index more than the row that it goes on from; all that are right are laid down, in order. -/
import Derived.Test.YthlebenfnlllhaaWMore
namespace Go.Proofs.Ythlebenfnlllhaa.Rows
/-- m rounds from i on. -/
def go (rec : List Int → List (List Int) → Option (List (List Int))) (ok : List Int → Option Bool) (bg : List Int) : Nat → Nat → List (List Int) → Option (List (List Int))
  | 0, _, acc => some acc
  | m + 1, i, acc => (ok (bg ++ [(i : Int)])).bind fun b => if b = true then (rec (bg ++ [(i : Int)]) acc).bind fun t => go rec ok bg m (i + 1) t else go rec ok bg m (i + 1) acc
/-- All rows from bg on, k deep; none where there would be too many. -/
def nest (ok : List Int → Option Bool) (n : Nat) : Nat → List Int → List (List Int) → Option (List (List Int))
  | 0, _, _ => none
  | k + 1, bg, acc => if acc.length < 1000000000 then go (nest ok n k) ok bg n 0 (acc ++ [bg]) else none
/-- The first longest one. -/
def best (rows : List (List Int)) : List Int := rows.foldl (fun b r => if b.length < r.length then r else b) []
end Go.Proofs.Ythlebenfnlllhaa.Rows
