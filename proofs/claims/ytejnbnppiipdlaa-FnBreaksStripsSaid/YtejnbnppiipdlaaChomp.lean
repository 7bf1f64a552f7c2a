/- Pure: chomps: what a bite leaves, all bites, the least number that no bite leaves, the text of a chomp as a key. -/
import Derived.Test.YtejnbnppiipdlaaWMore
namespace Go.Proofs.Ytejnbnppiipdlaa.Chomp
def sq (r : List Int) : Nat := (r.map Int.toNat).sum
/-- From row y on no more than x. -/
def cut : List Int → Int → Nat → List Int
  | [], _, _ => []
  | a :: r, x, 0 => (if x < a then x else a) :: cut r x 0
  | a :: r, x, y + 1 => a :: cut r x y
def bit (r : List Int) (x : Int) (y : Nat) : List Int := (cut r x y).filter fun n => !(n == 0)
def movesAt (r : List Int) (y : Nat) : List (List Int) := ((List.range (r.getD y 0).toNat).filter fun x => decide (0 < x + y)).map fun (x : Nat) => [(x : Int), (y : Int)]
def moves (r : List Int) : List (List Int) := (List.range r.length).flatMap (movesAt r)
def mexGo (S : List Int) : Nat → Nat → Nat
  | 0, i => i
  | k + 1, i => if (i : Int) ∈ S then mexGo S k (i + 1) else i
def mex (S : List Int) : Nat := mexGo S S.length 0
def heapN : Nat → List Int → Nat
  | 0, _ => 0
  | n + 1, r => mex ((moves r).map fun m => (heapN n (bit r (m.getD 0 0) (m.getD 1 0).toNat) : Int))
def H (r : List Int) : Nat := heapN (sq r) r
theorem le_len : ∀ (n : Nat) (S : List Int), (∀ j : Nat, j < n → (j : Int) ∈ S) → n ≤ S.length
  | 0, _, _ => Nat.zero_le _
  | n + 1, S, h => by
    have h1 := le_len n (S.erase (n : Int)) (fun j hj => (List.mem_erase_of_ne (by omega)).2 (h j (by omega)))
    have h2 := List.length_erase_of_mem (h n (by omega))
    have h3 : 0 < S.length := List.length_pos_of_mem (h n (by omega))
    omega
theorem mexGo_spec (S : List Int) : ∀ (k i : Nat), i + k = S.length → (∀ j : Nat, j < i → (j : Int) ∈ S) → ((mexGo S k i : Nat) : Int) ∉ S ∧ ∀ j : Nat, j < mexGo S k i → (j : Int) ∈ S
  | 0, i, hk, h => by
    refine ⟨fun hm => ?_, h⟩
    have := le_len (i + 1) S (fun j hj => by
      by_cases e : j = i
      · subst e; exact hm
      · exact h j (by omega))
    omega
  | k + 1, i, hk, h => by
    unfold mexGo
    by_cases c : (i : Int) ∈ S
    · rw [if_pos c]
      exact mexGo_spec S k (i + 1) (by omega) (fun j hj => by
        by_cases e : j = i
        · subst e; exact c
        · exact h j (by omega))
    · rw [if_neg c]; exact ⟨c, h⟩
theorem mex_spec (S : List Int) : ((mex S : Nat) : Int) ∉ S ∧ ∀ j : Nat, j < mex S → (j : Int) ∈ S := mexGo_spec S S.length 0 (by omega) (fun j hj => by omega)
theorem mex_is {S : List Int} {i : Nat} (h0 : (i : Int) ∉ S) (h1 : ∀ j : Nat, j < i → (j : Int) ∈ S) : i = mex S := by
  have ⟨h2, h3⟩ := mex_spec S
  rcases Nat.lt_trichotomy i (mex S) with h | h | h
  · exact absurd (h3 i h) h0
  · exact h
  · exact absurd (h1 _ h) h2
/-! #### the key -/
def text (r : List Int) : ByteArray := ⟨(r.map fun n => UInt8.ofNat (48 + n.toNat)).toArray⟩
def numL (l : List UInt8) : Nat := l.foldl (fun a b => a * 7 + (b.toNat - 48)) 0
def num (v : Value) : Nat := match v with | .string s => numL s.data.toList | _ => 0
/-! #### what a clue tells -/
def isGood (r m : List Int) : Bool := !(decide (0 < H (bit r (m.getD 0 0) (m.getD 1 0).toNat)))
def told (kind a : Int) (r : List Int) : Int :=
  if kind = 0 then r.sum else if kind = 1 then (if a < (r.length : Int) then r.getD a.toNat 0 else 0) else if kind = 2 then (if 0 < H r then 1 else 0) else if kind = 3 then (H r : Int)
  else if kind = 4 then ((r.filter fun n => !(decide (n ≤ a))).length : Int) else (((moves r).filter (isGood r)).length : Int)
theorem sum_le : ∀ {r : List Int}, (∀ x ∈ r, 1 ≤ x ∧ x ≤ 6) → 0 ≤ r.sum ∧ r.sum ≤ 6 * (r.length : Int)
  | [], _ => by simp
  | a :: r, h => by
    have h1 := sum_le (fun x hx => h x (List.mem_cons_of_mem _ hx) : ∀ x ∈ r, 1 ≤ x ∧ x ≤ 6)
    have h2 := h a (by simp)
    simp only [List.sum_cons, List.length_cons]
    omega
end Go.Proofs.Ytejnbnppiipdlaa.Chomp
