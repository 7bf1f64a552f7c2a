/- Plain lemmas on the printed loops: numbers, lists, loops with a bound on their rounds. Conditions: none. -/
import Derived.Test.YtejnbnppiipdlaaWMore
namespace Go.Proofs.Ytejnbnppiipdlaa.PK
open Go.RowKit Go.Proofs.YtejnbnppiipdlaaW.PrintWords Go.Proofs.YtejnbnppiipdlaaW.PrintLast
set_option linter.unusedVariables false

theorem wrap_in {x : Int} (h0 : -9223372036854775808 ≤ x) (h1 : x ≤ 9223372036854775807) : wrap64 x = x := by unfold wrap64; omega
theorem w1 {i n : Nat} (h : i < n) (hn : n ≤ 4611686018427387904) : wrap64 ((i : Int) + 1) = ((i + 1 : Nat) : Int) := by
  rw [wrap_in (by omega) (by omega)]; omega
theorem getD_at {α : Type} {xs : List α} {i : Nat} (h : i < xs.length) (z : α) : xs.getD ((i : Int)).toNat z = xs[i] := by
  rw [Int.toNat_natCast, List.getD_eq_getElem?_getD, List.getElem?_eq_getElem h]; rfl
theorem rd_at {xs : List Int} {i : Nat} (h : i < xs.length) : rd xs (i : Int) = xs[i] := getD_at h 0
section
variable {ρ σ : Type}
/-- A loop over a list that asks of each element; the first 'no' ends it. -/
theorem all_loop {α : Type} (xs : List α) (F : Nat → Int → Option Bool) (m : Nat) (p : α → Bool)
    (hs : ∀ k i (h : i < xs.length), m ≤ k → F (k + 1) (i : Int) = if p xs[i] = true then F k ((i + 1 : Nat) : Int) else some false)
    (he : ∀ k, m ≤ k → F (k + 1) (xs.length : Int) = some true) : ∀ d k i, i + d = xs.length → d + m < k → F k (i : Int) = some ((xs.drop i).all p) := by
  intro d
  induction d with
  | zero =>
    intro k i hi hk
    obtain ⟨k, rfl⟩ : ∃ q, k = q + 1 := ⟨k - 1, by omega⟩
    obtain rfl : i = xs.length := by omega
    rw [he k (by omega)]; simp
  | succ d ih =>
    intro k i hi hk
    obtain ⟨k, rfl⟩ : ∃ q, k = q + 1 := ⟨k - 1, by omega⟩
    have hlt : i < xs.length := by omega
    rw [hs k i hlt (by omega), List.drop_eq_getElem_cons hlt, List.all_cons]
    by_cases h : p xs[i] = true
    · rw [if_pos h, ih k (i + 1) (by omega) (by omega), h, Bool.true_and]
    · rw [if_neg h, Bool.eq_false_iff.2 h, Bool.false_and]
theorem all_loop0 {α : Type} (xs : List α) (F : Nat → Int → Option Bool) (m : Nat) (p : α → Bool)
    (hs : ∀ k i (h : i < xs.length), m ≤ k → F (k + 1) (i : Int) = if p xs[i] = true then F k ((i + 1 : Nat) : Int) else some false)
    (he : ∀ k, m ≤ k → F (k + 1) (xs.length : Int) = some true) {k : Nat} (hk : xs.length + m < k) : F k 0 = some (xs.all p) := by
  have := all_loop xs F m p hs he xs.length k 0 (by omega) hk
  simpa using this
end
end Go.Proofs.Ytejnbnppiipdlaa.PK
