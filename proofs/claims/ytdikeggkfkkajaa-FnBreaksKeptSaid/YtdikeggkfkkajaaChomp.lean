/- Pure: chomps: what a bite leaves, all bites, the least number that no bite leaves, the text of a chomp as a key. -/
import Derived.Test.YtdikeggkfkkajaaWMore
namespace Go.Proofs.Ytdikeggkfkkajaa.Chomp
def Ok (r : List Int) : Prop := r ≠ [] ∧ r.length ≤ 6 ∧ ∀ x ∈ r, 1 ≤ x ∧ x ≤ 6
def sq (r : List Int) : Nat := (r.map Int.toNat).sum
/-- From row y on no more than x. -/
def cut : List Int → Int → Nat → List Int
  | [], _, _ => []
  | a :: r, x, 0 => (if x < a then x else a) :: cut r x 0
  | a :: r, x, y + 1 => a :: cut r x y
def bit (r : List Int) (x : Int) (y : Nat) : List Int := (cut r x y).filter fun n => !(n == 0)
def movesAt (r : List Int) (y : Nat) : List (List Int) := ((List.range (r.getD y 0).toNat).filter fun x => decide (0 < x + y)).map fun (x : Nat) => [(x : Int), (y : Int)]
def moves (r : List Int) : List (List Int) := (List.range r.length).flatMap (movesAt r)
def mexGo (S : List Int) : Nat → Nat → Nat
  | 0, i => i
  | k + 1, i => if (i : Int) ∈ S then mexGo S k (i + 1) else i
def mex (S : List Int) : Nat := mexGo S S.length 0
def heapN : Nat → List Int → Nat
  | 0, _ => 0
  | n + 1, r => mex ((moves r).map fun m => (heapN n (bit r (m.getD 0 0) (m.getD 1 0).toNat) : Int))
def H (r : List Int) : Nat := heapN (sq r) r
/-! #### the key -/
def text (r : List Int) : ByteArray := ⟨(r.map fun n => UInt8.ofNat (48 + n.toNat)).toArray⟩
def numL (l : List UInt8) : Nat := l.foldl (fun a b => a * 7 + (b.toNat - 48)) 0
def num (v : Value) : Nat := match v with | .string s => numL s.data.toList | _ => 0
theorem numL_eq (l : List UInt8) : numL l = l.reverse.foldr (fun b a => a * 7 + (b.toNat - 48)) 0 := by unfold numL; rw [List.foldr_reverse]
theorem foldr_lt : ∀ (l : List UInt8), (∀ b ∈ l, 49 ≤ b.toNat ∧ b.toNat ≤ 54) → l.foldr (fun b a => a * 7 + (b.toNat - 48)) 0 < 7 ^ l.length
  | [], _ => by simp
  | b :: l, h => by
    have h1 := foldr_lt l (fun q hq => h q (List.mem_cons_of_mem _ hq))
    have h2 := h b (by simp)
    simp only [List.foldr_cons, List.length_cons, Nat.pow_succ]
    omega
theorem text_digits {r : List Int} (hr : Ok r) : ∀ b ∈ (text r).data.toList, 49 ≤ b.toNat ∧ b.toNat ≤ 54 := by
  intro b hb
  unfold text at hb
  simp only [List.mem_map] at hb
  obtain ⟨n, hn, rfl⟩ := hb
  have := hr.2.2 n hn
  rw [UInt8.toNat_ofNat']
  omega
theorem text_len (r : List Int) : (text r).data.toList.length = r.length := by simp [text]
theorem num_lt {r : List Int} (hr : Ok r) : num (.string (text r)) < 117649 := by
  show numL (text r).data.toList < 117649
  rw [numL_eq]
  have h1 := foldr_lt (text r).data.toList.reverse (fun b hb => text_digits hr b (List.mem_reverse.1 hb))
  rw [List.length_reverse, text_len] at h1
  refine Nat.lt_of_lt_of_le h1 ?_
  exact Nat.le_trans (Nat.pow_le_pow_right (by omega) hr.2.1) (by decide)
/-! #### what a clue tells -/
def isGood (r m : List Int) : Bool := !(decide (0 < H (bit r (m.getD 0 0) (m.getD 1 0).toNat)))
def told (kind a : Int) (r : List Int) : Int :=
  if kind = 0 then r.sum else if kind = 1 then (if a < (r.length : Int) then r.getD a.toNat 0 else 0) else if kind = 2 then (if 0 < H r then 1 else 0) else if kind = 3 then (H r : Int)
  else if kind = 4 then ((r.filter fun n => !(decide (n ≤ a))).length : Int) else (((moves r).filter (isGood r)).length : Int)
end Go.Proofs.Ytdikeggkfkkajaa.Chomp
