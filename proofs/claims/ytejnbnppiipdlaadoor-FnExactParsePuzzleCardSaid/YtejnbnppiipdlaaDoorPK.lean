/- Plain lemmas on the printed loops: numbers, lists, loops with a bound on their rounds. Conditions: none. -/
import Derived.Test.YtejnbnppiipdlaaDoorWMore
namespace Go.Proofs.YtejnbnppiipdlaaDoor.PK
open Go.RowKit Go.Proofs.YtejnbnppiipdlaaDoorW.PrintWords Go.Proofs.YtejnbnppiipdlaaDoorW.PrintLast
set_option linter.unusedVariables false

theorem wrap_in {x : Int} (h0 : -9223372036854775808 ≤ x) (h1 : x ≤ 9223372036854775807) : wrap64 x = x := by unfold wrap64; omega
theorem w1 {i n : Nat} (h : i < n) (hn : n ≤ 4611686018427387904) : wrap64 ((i : Int) + 1) = ((i + 1 : Nat) : Int) := by
  rw [wrap_in (by omega) (by omega)]; omega
theorem wf64 {x : Int} (h : (Lit.int .i64 x).wf = true) : -9223372036854775808 ≤ x ∧ x ≤ 9223372036854775807 := by
  simpa [Lit.wf, IntKind.min, IntKind.max, IntKind.bits, IntKind.signed] using h
theorem getD_at {α : Type} {xs : List α} {i : Nat} (h : i < xs.length) (z : α) : xs.getD ((i : Int)).toNat z = xs[i] := by
  rw [Int.toNat_natCast, List.getD_eq_getElem?_getD, List.getElem?_eq_getElem h]; rfl
theorem rd_at {xs : List Int} {i : Nat} (h : i < xs.length) : rd xs (i : Int) = xs[i] := getD_at h 0
theorem rdOf_at {α : Type} {xs : List α} {i : Nat} (h : i < xs.length) (z : α) : rdOf z xs (i : Int) = xs[i] := getD_at h z
theorem bt_at' {s : ByteArray} {i : Nat} (h : i < s.size) : bt s (i : Int) = ((s[i]'h).toNat : Int) := by
  unfold bt
  rw [dif_pos (by simpa using h)]
  simp

section
variable {ρ σ : Type}
/-- A loop that goes from i to n, each round changing the state; no early end. -/
def iter (st : Nat → σ → σ) : Nat → Nat → σ → σ
  | 0, _, s => s
  | d + 1, i, s => iter st d (i + 1) (st i s)
theorem for_loop (F : Nat → σ → Int → Option ρ) (n m : Nat) (st : Nat → σ → σ) (I : Nat → σ → Prop) (fin : σ → Option ρ)
    (hs : ∀ k i s, m ≤ k → I i s → i < n → F (k + 1) s (i : Int) = F k (st i s) ((i + 1 : Nat) : Int) ∧ I (i + 1) (st i s))
    (he : ∀ k s, m ≤ k → I n s → F (k + 1) s (n : Int) = fin s) : ∀ d k i s, I i s → i + d = n → d + m < k → F k s (i : Int) = fin (iter st d i s) := by
  intro d
  induction d with
  | zero =>
    intro k i s hI hi hk
    obtain ⟨k, rfl⟩ : ∃ q, k = q + 1 := ⟨k - 1, by omega⟩
    obtain rfl : i = n := by omega
    exact he k s (by omega) hI
  | succ d ih =>
    intro k i s hI hi hk
    obtain ⟨k, rfl⟩ : ∃ q, k = q + 1 := ⟨k - 1, by omega⟩
    obtain ⟨h1, h2⟩ := hs k i s (by omega) hI (by omega)
    rw [h1]
    exact ih k (i + 1) _ h2 (by omega) (by omega)
/-- A loop over a list that asks of each element; the first 'no' ends it. -/
theorem all_loop {α : Type} (xs : List α) (F : Nat → Int → Option Bool) (m : Nat) (p : α → Bool)
    (hs : ∀ k i (h : i < xs.length), m ≤ k → F (k + 1) (i : Int) = if p xs[i] = true then F k ((i + 1 : Nat) : Int) else some false)
    (he : ∀ k, m ≤ k → F (k + 1) (xs.length : Int) = some true) : ∀ d k i, i + d = xs.length → d + m < k → F k (i : Int) = some ((xs.drop i).all p) := by
  intro d
  induction d with
  | zero =>
    intro k i hi hk
    obtain ⟨k, rfl⟩ : ∃ q, k = q + 1 := ⟨k - 1, by omega⟩
    obtain rfl : i = xs.length := by omega
    rw [he k (by omega)]; simp
  | succ d ih =>
    intro k i hi hk
    obtain ⟨k, rfl⟩ : ∃ q, k = q + 1 := ⟨k - 1, by omega⟩
    have hlt : i < xs.length := by omega
    rw [hs k i hlt (by omega), List.drop_eq_getElem_cons hlt, List.all_cons]
    by_cases h : p xs[i] = true
    · rw [if_pos h, ih k (i + 1) (by omega) (by omega), h, Bool.true_and]
    · rw [if_neg h, Bool.eq_false_iff.2 h, Bool.false_and]
theorem all_loop0 {α : Type} (xs : List α) (F : Nat → Int → Option Bool) (m : Nat) (p : α → Bool)
    (hs : ∀ k i (h : i < xs.length), m ≤ k → F (k + 1) (i : Int) = if p xs[i] = true then F k ((i + 1 : Nat) : Int) else some false)
    (he : ∀ k, m ≤ k → F (k + 1) (xs.length : Int) = some true) {k : Nat} (hk : xs.length + m < k) : F k 0 = some (xs.all p) := by
  have := all_loop xs F m p hs he xs.length k 0 (by omega) hk
  simpa using this
/-- A loop that lays g of each place into a row. -/
theorem fill_loop {α : Type} (n m : Nat) (F : Nat → List α → Int → Option ρ) (g : Nat → α) (fin : List α → Option ρ)
    (hs : ∀ k i s, m ≤ k → s.length = n → i < n → F (k + 1) s (i : Int) = F k (s.set i (g i)) ((i + 1 : Nat) : Int))
    (he : ∀ k s, m ≤ k → s.length = n → F (k + 1) s (n : Int) = fin s) {k : Nat} (hk : n + m < k) {s : List α} (h0 : s.length = n) : F k s 0 = fin ((List.range n).map g) := by
  have h := for_loop F n m (fun i s => s.set i (g i)) (fun i s => s.length = n ∧ ∀ j, j < i → s[j]? = some (g j)) fin
    (fun k i s hm hI hi => ⟨hs k i s hm hI.1 hi, by rw [List.length_set]; exact hI.1, fun j hj => by
      by_cases e : j = i
      · subst e; rw [List.getElem?_set_self (by rw [hI.1]; exact hi)]
      · rw [List.getElem?_set_ne (Ne.symm e)]; exact hI.2 j (by omega)⟩)
    (fun k s hm hI => he k s hm hI.1) n k 0 s ⟨h0, fun j hj => absurd hj (Nat.not_lt_zero _)⟩ (by omega) hk
  have key : ∀ (d i : Nat) (s : List α), (s.length = n ∧ ∀ j, j < i → s[j]? = some (g j)) → i + d = n → ((iter (fun i s => s.set i (g i)) d i s).length = n ∧ ∀ j, j < n → (iter (fun i s => s.set i (g i)) d i s)[j]? = some (g j)) := by
    intro d
    induction d with
    | zero => intro i s h hi; exact ⟨h.1, fun j hj => h.2 j (by omega)⟩
    | succ d ih =>
      intro i s h hi
      refine ih (i + 1) _ ⟨by rw [List.length_set]; exact h.1, fun j hj => ?_⟩ (by omega)
      by_cases e : j = i
      · subst e; rw [List.getElem?_set_self (by rw [h.1]; omega)]
      · rw [List.getElem?_set_ne (Ne.symm e)]; exact h.2 j (by omega)
  obtain ⟨k1, k2⟩ := key n 0 s ⟨h0, fun j hj => absurd hj (Nat.not_lt_zero _)⟩ (by omega)
  have e : iter (fun i s => s.set i (g i)) n 0 s = (List.range n).map g := by
    apply List.ext_getElem?
    intro j
    by_cases hj : j < n
    · rw [k2 j hj]; simp [hj]
    · rw [List.getElem?_eq_none (by omega), List.getElem?_eq_none (by simp; omega)]
  simpa [e] using h
/-- A loop that appends g of each place. -/
theorem app_loop {α : Type} (n m : Nat) (F : Nat → List α → Int → Option ρ) (g : Nat → List α) (B : Nat) (fin : List α → Option ρ)
    (hs : ∀ k i s, m ≤ k → s.length + (((List.range' i (n - i)).map fun j => (g j).length).sum) ≤ B → i < n → F (k + 1) s (i : Int) = F k (s ++ g i) ((i + 1 : Nat) : Int))
    (he : ∀ k s, m ≤ k → F (k + 1) s (n : Int) = fin s) : ∀ d k i s, i + d = n → d + m < k → s.length + (((List.range' i d).map fun j => (g j).length).sum) ≤ B → F k s (i : Int) = fin (s ++ (List.range' i d).flatMap g) := by
  intro d
  induction d with
  | zero =>
    intro k i s hi hk hB
    obtain ⟨k, rfl⟩ : ∃ q, k = q + 1 := ⟨k - 1, by omega⟩
    obtain rfl : i = n := by omega
    rw [he k s (by omega)]; simp
  | succ d ih =>
    intro k i s hi hk hB
    obtain ⟨k, rfl⟩ : ∃ q, k = q + 1 := ⟨k - 1, by omega⟩
    rw [hs k i s (by omega) (by rw [show n - i = d + 1 by omega]; exact hB) (by omega), ih k (i + 1) _ (by omega) (by omega) (by rw [List.length_append]; rw [List.range'_succ, List.map_cons, List.sum_cons] at hB; omega)]
    rw [List.range'_succ, List.flatMap_cons, List.append_assoc]
end
theorem map_range {α β : Type} (xs : List α) (z : α) (f : α → β) : (List.range xs.length).map (fun i => f (xs.getD i z)) = xs.map f := by
  apply List.ext_getElem?
  intro j
  by_cases hj : j < xs.length
  · simp [hj]
  · simp [hj]
theorem flatMap_range {α β : Type} (xs : List α) (z : α) (f : α → List β) : (List.range xs.length).flatMap (fun i => f (xs.getD i z)) = xs.flatMap f := by
  rw [List.flatMap_def, List.flatMap_def, map_range]
theorem range_eq (n : Nat) : List.range n = List.range' 0 n := List.range_eq_range'
/-- A loop over two lists of one length that asks whether they are equal, element for element. -/
theorem eq_loop {α : Type} [DecidableEq α] (xs ys : List α) (hl : xs.length = ys.length) (F : Nat → Int → Option Bool) (m : Nat)
    (hs : ∀ k i (h : i < xs.length), m ≤ k → F (k + 1) (i : Int) = if xs[i] = ys[i]'(hl ▸ h) then F k ((i + 1 : Nat) : Int) else some false)
    (he : ∀ k, m ≤ k → F (k + 1) (xs.length : Int) = some true) {k : Nat} (hk : xs.length + m < k) : F k 0 = some (decide (xs = ys)) := by
  have key : ∀ d k i, i + d = xs.length → d + m < k → F k (i : Int) = some (decide (xs.drop i = ys.drop i)) := by
    intro d
    induction d with
    | zero =>
      intro k i hi hk
      obtain ⟨k, rfl⟩ : ∃ q, k = q + 1 := ⟨k - 1, by omega⟩
      obtain rfl : i = xs.length := by omega
      rw [he k (by omega), List.drop_length, hl, List.drop_length]; simp
    | succ d ih =>
      intro k i hi hk
      obtain ⟨k, rfl⟩ : ∃ q, k = q + 1 := ⟨k - 1, by omega⟩
      have hlt : i < xs.length := by omega
      have hlt' : i < ys.length := by omega
      have e : (xs.drop i = ys.drop i) ↔ (xs[i] = ys[i] ∧ xs.drop (i + 1) = ys.drop (i + 1)) := by
        rw [List.drop_eq_getElem_cons hlt, List.drop_eq_getElem_cons hlt']
        exact List.cons.injEq _ _ _ _ ▸ Iff.rfl
      rw [hs k i hlt (by omega)]
      by_cases h : xs[i] = ys[i]'(hl ▸ hlt)
      · rw [if_pos h, ih k (i + 1) (by omega) (by omega)]; simp [e, h]
      · rw [if_neg h]; simp [e, h]
  have := key xs.length k 0 (by omega) hk
  simpa using this
theorem getD_set {α : Type} {xs : List α} {i : Nat} (h : i < xs.length) (v z : α) : (xs.set i v).getD ((i : Int)).toNat z = v := by
  rw [Int.toNat_natCast, List.getD_eq_getElem?_getD, List.getElem?_set_self h]; rfl
/-- A loop that lays a row of numbers into the elements, c of them each. -/
theorem mark_loop {α : Type} (n m c : Nat) (F : Nat → List α → Int → Int → Option (Int × List α)) (mk : Int → α) (a0 B : Int) (h0 : 0 ≤ a0) (hB : a0 + (c : Int) * (n : Int) ≤ B)
    (hs : ∀ k i s (a : Int), m ≤ k → s.length = n → i < n → 0 ≤ a → a ≤ B → F (k + 1) s a (i : Int) = F k (s.set i (mk a)) (a + (c : Int)) ((i + 1 : Nat) : Int))
    (he : ∀ k s a, m ≤ k → s.length = n → F (k + 1) s a (n : Int) = some (a, s)) {k : Nat} (hk : n + m < k) {s : List α} (hl : s.length = n) :
    F k s a0 0 = some (a0 + (c : Int) * (n : Int), (List.range n).map fun (i : Nat) => mk (a0 + (c : Int) * (i : Int))) := by
  have h := fill_loop (ρ := Int × List α) n m (fun k s i => F k s (a0 + (c : Int) * i) i) (fun i => mk (a0 + (c : Int) * (i : Int))) (fun s => some (a0 + (c : Int) * (n : Int), s))
    (fun k i s hm hl hi => by
      have hle : (c : Int) * (i : Int) ≤ (c : Int) * (n : Int) := Int.mul_le_mul_of_nonneg_left (by omega) (by omega)
      have hge : 0 ≤ (c : Int) * (i : Int) := Int.mul_nonneg (by omega) (by omega)
      have := hs k i s (a0 + (c : Int) * (i : Int)) hm hl hi (by omega) (by omega)
      rw [this]
      congr 1
      rw [Int.natCast_add, Int.mul_add]; simp; omega)
    (fun k s hm hl => he k s _ hm hl) (k := k) hk (s := s) hl
  simpa using h
/-- A loop that asks for such a row of numbers. -/
theorem held_loop {α : Type} (xs : List α) (m c : Nat) (F : Nat → Int → Int → Option Int) (mk : Int → α) (a0 B : Int) (h0 : 0 ≤ a0) (hB : a0 + (c : Int) * (xs.length : Int) ≤ B)
    (hx : ∀ i (h : i < xs.length), xs[i] = mk (a0 + (c : Int) * (i : Int)))
    (hs : ∀ k i (h : i < xs.length) (a : Int), m ≤ k → 0 ≤ a → a ≤ B → xs[i] = mk a → F (k + 1) a (i : Int) = F k (a + (c : Int)) ((i + 1 : Nat) : Int))
    (he : ∀ k a, m ≤ k → F (k + 1) a (xs.length : Int) = some a) {k : Nat} (hk : xs.length + m < k) : F k a0 0 = some (a0 + (c : Int) * (xs.length : Int)) := by
  have h := for_loop (ρ := Int) (σ := Unit) (fun k _ i => F k (a0 + (c : Int) * i) i) xs.length m (fun _ s => s) (fun _ _ => True) (fun _ => some (a0 + (c : Int) * (xs.length : Int)))
    (fun k i s hm _ hi => ⟨by
      have hle : (c : Int) * (i : Int) ≤ (c : Int) * (xs.length : Int) := Int.mul_le_mul_of_nonneg_left (by omega) (by omega)
      have hge : 0 ≤ (c : Int) * (i : Int) := Int.mul_nonneg (by omega) (by omega)
      have := hs k i hi (a0 + (c : Int) * (i : Int)) hm (by omega) (by omega) (hx i hi)
      rw [this]
      congr 1
      rw [Int.natCast_add, Int.mul_add]; simp; omega, trivial⟩)
    (fun k s hm _ => he k _ hm) xs.length k 0 () trivial (by omega) hk
  simpa using h
theorem marked_at {α : Type} {n : Nat} {g : Nat → α} {i : Nat} (h : i < ((List.range n).map g).length) : ((List.range n).map g)[i] = g i := by simp
end Go.Proofs.YtejnbnppiipdlaaDoor.PK
