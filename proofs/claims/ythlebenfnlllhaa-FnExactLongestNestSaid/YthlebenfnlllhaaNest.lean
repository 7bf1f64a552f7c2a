/- Pure: rows of indices that go on as long as one element goes into the next; the first longest is kept. -/
import Derived.Test.YthlebenfnlllhaaWMore
namespace Go.Proofs.Ythlebenfnlllhaa.Nest
/-- May index i be laid behind bg? None: the walk does not speak of it. -/
def ok {α : Type} (into : α → α → Option Bool) (z : α) (bs : List α) (bg : List Int) (i : Nat) : Option Bool :=
  if bg.length = 0 then some true
  else if 0 ≤ bg.getD (bg.length - 1) 0 ∧ bg.getD (bg.length - 1) 0 < (bs.length : Int) then into (bs.getD (bg.getD (bg.length - 1) 0).toNat z) (bs.getD i z) else none
/-- m rounds from i on. -/
def go (rec : List Int → List Int → Option (List Int)) (ok : Nat → Option Bool) (bg : List Int) : Nat → Nat → List Int → Option (List Int)
  | 0, _, acc => some acc
  | m + 1, i, acc => (ok i).bind fun b => if b = true then (rec (bg ++ [(i : Int)]) acc).bind fun t => go rec ok bg m (i + 1) t else go rec ok bg m (i + 1) acc
def nest {α : Type} (into : α → α → Option Bool) (z : α) (bs : List α) : Nat → List Int → List Int → Option (List Int)
  | 0, _, _ => none
  | k + 1, bg, acc => go (nest into z bs k) (ok into z bs bg) bg bs.length 0 (if acc.length < bg.length then bg else acc)
end Go.Proofs.Ythlebenfnlllhaa.Nest
