/- Pure: chomps: what a bite leaves, all bites, the least number that no bite leaves, the text of a chomp as a key. -/
import Derived.Test.YtdikeggkfkkajaaDoorWMore
namespace Go.Proofs.YtdikeggkfkkajaaDoor.Chomp
def Ok (r : List Int) : Prop := r ≠ [] ∧ r.length ≤ 6 ∧ ∀ x ∈ r, 1 ≤ x ∧ x ≤ 6
def sq (r : List Int) : Nat := (r.map Int.toNat).sum
/-- From row y on no more than x. -/
def cut : List Int → Int → Nat → List Int
  | [], _, _ => []
  | a :: r, x, 0 => (if x < a then x else a) :: cut r x 0
  | a :: r, x, y + 1 => a :: cut r x y
def bit (r : List Int) (x : Int) (y : Nat) : List Int := (cut r x y).filter fun n => !(n == 0)
def movesAt (r : List Int) (y : Nat) : List (List Int) := ((List.range (r.getD y 0).toNat).filter fun x => decide (0 < x + y)).map fun (x : Nat) => [(x : Int), (y : Int)]
def moves (r : List Int) : List (List Int) := (List.range r.length).flatMap (movesAt r)
def mexGo (S : List Int) : Nat → Nat → Nat
  | 0, i => i
  | k + 1, i => if (i : Int) ∈ S then mexGo S k (i + 1) else i
def mex (S : List Int) : Nat := mexGo S S.length 0
def heapN : Nat → List Int → Nat
  | 0, _ => 0
  | n + 1, r => mex ((moves r).map fun m => (heapN n (bit r (m.getD 0 0) (m.getD 1 0).toNat) : Int))
def H (r : List Int) : Nat := heapN (sq r) r
theorem cut_length (r : List Int) (x : Int) : ∀ y, (cut r x y).length = r.length := by
  induction r with
  | nil => intro y; rfl
  | cons a r ih => intro y; cases y <;> simp [cut, ih]
theorem cut_getD (r : List Int) (x : Int) : ∀ y i, i < r.length → (cut r x y).getD i 0 = if y ≤ i then (if x < r.getD i 0 then x else r.getD i 0) else r.getD i 0 := by
  induction r with
  | nil => intro y i h; simp at h
  | cons a r ih =>
    intro y i h
    cases y with
    | zero =>
      cases i with
      | zero => simp [cut]
      | succ i => simpa [cut] using ih 0 i (by simpa using h)
    | succ y =>
      cases i with
      | zero => simp [cut]
      | succ i =>
        have := ih y i (by simpa using h)
        simp only [cut, List.getD_cons_succ, this]
        by_cases hy : y ≤ i
        · rw [if_pos hy, if_pos (show y + 1 ≤ i + 1 by omega)]
        · rw [if_neg hy, if_neg (show ¬ y + 1 ≤ i + 1 by omega)]
theorem cut_mem {r : List Int} {x : Int} (hx : 0 ≤ x) (hr : ∀ a ∈ r, 1 ≤ a ∧ a ≤ 6) : ∀ y, ∀ b ∈ cut r x y, 0 ≤ b ∧ b ≤ 6 := by
  induction r with
  | nil => intro y b hb; simp [cut] at hb
  | cons a r ih =>
    have h1 := hr a (by simp)
    have h2 := fun q hq => hr q (List.mem_cons_of_mem _ hq)
    intro y b hb
    cases y with
    | zero =>
      rcases List.mem_cons.1 hb with rfl | hb
      · split <;> omega
      · exact ih h2 0 b hb
    | succ y =>
      rcases List.mem_cons.1 hb with rfl | hb
      · omega
      · exact ih h2 y b hb
theorem sq_filter (r : List Int) : sq (r.filter fun n => !(n == 0)) = sq r := by
  unfold sq
  induction r with
  | nil => rfl
  | cons a r ih =>
    by_cases h : a = 0
    · subst h; simpa using ih
    · have : (!(a == 0)) = true := by simp [h]
      rw [List.filter_cons, if_pos this, List.map_cons, List.map_cons, List.sum_cons, List.sum_cons, ih]
theorem sq_cut_le (r : List Int) (x : Int) : ∀ y, sq (cut r x y) ≤ sq r := by
  unfold sq
  induction r with
  | nil => intro y; simp [cut]
  | cons a r ih =>
    intro y
    cases y with
    | zero =>
      simp only [cut, List.map_cons, List.sum_cons]
      have := ih 0
      split <;> omega
    | succ y =>
      simp only [cut, List.map_cons, List.sum_cons]
      have := ih y
      omega
theorem sq_cut_lt {r : List Int} {x : Int} (hx : 0 ≤ x) : ∀ y, y < r.length → x < r.getD y 0 → sq (cut r x y) < sq r := by
  induction r with
  | nil => intro y h; simp at h
  | cons a r ih =>
    intro y h h1
    cases y with
    | zero =>
      have := sq_cut_le r x 0
      simp at h1
      unfold sq at this ⊢
      simp only [cut, List.map_cons, List.sum_cons, if_pos h1]
      omega
    | succ y =>
      have := ih y (by simpa using h) (by simpa using h1)
      unfold sq at this ⊢
      simp only [cut, List.map_cons, List.sum_cons]
      omega
theorem bit_lt {r : List Int} {x : Int} {y : Nat} (hx : 0 ≤ x) (hy : y < r.length) (h : x < r.getD y 0) : sq (bit r x y) < sq r := by
  unfold bit; rw [sq_filter]; exact sq_cut_lt hx y hy h
theorem bit_Ok {r : List Int} {x : Int} {y : Nat} (hr : Ok r) (hx : 0 ≤ x) (hp : 0 < x + y) : Ok (bit r x y) := by
  obtain ⟨h0, h6, hm⟩ := hr
  refine ⟨?_, ?_, ?_⟩
  · cases r with
    | nil => exact absurd rfl h0
    | cons a r =>
      have ha := hm a (by simp)
      cases y with
      | zero =>
        have : (!((if x < a then x else a) == 0)) = true := by
          simp only [Bool.not_eq_true', beq_eq_false_iff_ne]
          split <;> omega
        unfold bit cut
        rw [List.filter_cons, if_pos this]; simp
      | succ y =>
        have : (!(a == 0)) = true := by
          simp only [Bool.not_eq_true', beq_eq_false_iff_ne]
          omega
        unfold bit cut
        rw [List.filter_cons, if_pos this]; simp
  · unfold bit
    have := List.length_filter_le (fun n => !(n == 0)) (cut r x y)
    rw [cut_length] at this
    omega
  · intro b hb
    unfold bit at hb
    rw [List.mem_filter] at hb
    have := cut_mem hx hm y b hb.1
    have h2 : b ≠ 0 := by simpa using hb.2
    omega
theorem moves_mem {r m : List Int} (h : m ∈ moves r) : ∃ x y : Nat, m = [(x : Int), (y : Int)] ∧ y < r.length ∧ (x : Int) < r.getD y 0 ∧ 0 < x + y := by
  unfold moves movesAt at h
  obtain ⟨y, hy, h⟩ := List.mem_flatMap.1 h
  obtain ⟨x, hx, rfl⟩ := List.mem_map.1 h
  rw [List.mem_filter, List.mem_range] at hx
  have h2 : 0 < x + y := by simpa using hx.2
  exact ⟨x, y, rfl, List.mem_range.1 hy, by omega, h2⟩
theorem le_len : ∀ (n : Nat) (S : List Int), (∀ j : Nat, j < n → (j : Int) ∈ S) → n ≤ S.length
  | 0, _, _ => Nat.zero_le _
  | n + 1, S, h => by
    have h1 := le_len n (S.erase (n : Int)) (fun j hj => (List.mem_erase_of_ne (by omega)).2 (h j (by omega)))
    have h2 := List.length_erase_of_mem (h n (by omega))
    have h3 : 0 < S.length := List.length_pos_of_mem (h n (by omega))
    omega
theorem mexGo_spec (S : List Int) : ∀ (k i : Nat), i + k = S.length → (∀ j : Nat, j < i → (j : Int) ∈ S) → ((mexGo S k i : Nat) : Int) ∉ S ∧ ∀ j : Nat, j < mexGo S k i → (j : Int) ∈ S
  | 0, i, hk, h => by
    refine ⟨fun hm => ?_, h⟩
    have := le_len (i + 1) S (fun j hj => by
      by_cases e : j = i
      · subst e; exact hm
      · exact h j (by omega))
    omega
  | k + 1, i, hk, h => by
    unfold mexGo
    by_cases c : (i : Int) ∈ S
    · rw [if_pos c]
      exact mexGo_spec S k (i + 1) (by omega) (fun j hj => by
        by_cases e : j = i
        · subst e; exact c
        · exact h j (by omega))
    · rw [if_neg c]; exact ⟨c, h⟩
theorem mex_spec (S : List Int) : ((mex S : Nat) : Int) ∉ S ∧ ∀ j : Nat, j < mex S → (j : Int) ∈ S := mexGo_spec S S.length 0 (by omega) (fun j hj => by omega)
theorem mex_le (S : List Int) : mex S ≤ S.length := le_len _ S (mex_spec S).2
theorem mex_is {S : List Int} {i : Nat} (h0 : (i : Int) ∉ S) (h1 : ∀ j : Nat, j < i → (j : Int) ∈ S) : i = mex S := by
  have ⟨h2, h3⟩ := mex_spec S
  rcases Nat.lt_trichotomy i (mex S) with h | h | h
  · exact absurd (h3 i h) h0
  · exact h
  · exact absurd (h1 _ h) h2
theorem sq_pos {r : List Int} (h : Ok r) : 0 < sq r := by
  obtain ⟨h0, _, hm⟩ := h
  cases r with
  | nil => exact absurd rfl h0
  | cons a r =>
    have := hm a (by simp)
    unfold sq
    simp only [List.map_cons, List.sum_cons]
    omega
theorem heapN_stable : ∀ (n : Nat) (r : List Int), Ok r → sq r ≤ n → heapN n r = H r := by
  intro n
  induction n using Nat.strongRecOn with
  | ind n ih =>
    intro r hr hn
    have hp := sq_pos hr
    obtain ⟨s, hs⟩ : ∃ s, sq r = s + 1 := ⟨sq r - 1, by omega⟩
    obtain ⟨q, rfl⟩ : ∃ q, n = q + 1 := ⟨n - 1, by omega⟩
    unfold H
    rw [hs]
    by_cases e : q = s
    · rw [e]
    show mex ((moves r).map fun m => ((heapN q (bit r (m.getD 0 0) (m.getD 1 0).toNat) : Nat) : Int)) = mex ((moves r).map fun m => ((heapN s (bit r (m.getD 0 0) (m.getD 1 0).toNat) : Nat) : Int))
    congr 1
    apply List.map_congr_left
    intro m hm
    obtain ⟨x, y, rfl, hy, hx, hxy⟩ := moves_mem hm
    have h1 : sq (bit r (x : Int) y) < sq r := bit_lt (by omega) hy hx
    have h2 : Ok (bit r (x : Int) y) := bit_Ok hr (by omega) (by omega)
    show ((heapN q (bit r (x : Int) y) : Nat) : Int) = ((heapN s (bit r (x : Int) y) : Nat) : Int)
    rw [ih q (by omega) _ h2 (by omega), ih s (by omega) _ h2 (by omega)]
theorem H_eq {r : List Int} (hr : Ok r) : H r = mex ((moves r).map fun m => (H (bit r (m.getD 0 0) (m.getD 1 0).toNat) : Int)) := by
  have hp := sq_pos hr
  obtain ⟨s, hs⟩ : ∃ s, sq r = s + 1 := ⟨sq r - 1, by omega⟩
  conv => lhs; unfold H; rw [hs]
  show mex ((moves r).map fun m => ((heapN s (bit r (m.getD 0 0) (m.getD 1 0).toNat) : Nat) : Int)) = _
  congr 1
  apply List.map_congr_left
  intro m hm
  obtain ⟨x, y, rfl, hy, hx, hxy⟩ := moves_mem hm
  have h1 : sq (bit r (x : Int) y) < sq r := bit_lt (by omega) hy hx
  have h2 : Ok (bit r (x : Int) y) := bit_Ok hr (by omega) (by omega)
  show ((heapN s (bit r (x : Int) y) : Nat) : Int) = ((H (bit r (x : Int) y) : Nat) : Int)
  rw [heapN_stable s _ h2 (by omega)]
theorem movesAt_len {r : List Int} (hr : ∀ x ∈ r, 1 ≤ x ∧ x ≤ 6) (y : Nat) : (movesAt r y).length ≤ 6 := by
  unfold movesAt
  rw [List.length_map]
  refine Nat.le_trans (List.length_filter_le _ _) ?_
  rw [List.length_range, List.getD_eq_getElem?_getD]
  cases h : r[y]? with
  | none => simp
  | some v =>
    have := hr v (List.mem_of_getElem? h)
    simp; omega
theorem moves_len {r : List Int} (hr : Ok r) : (moves r).length ≤ 36 := by
  unfold moves
  have : ∀ l : List Nat, (l.flatMap (movesAt r)).length ≤ 6 * l.length := by
    intro l
    induction l with
    | nil => simp
    | cons a l ih =>
      have := movesAt_len hr.2.2 a
      rw [List.flatMap_cons, List.length_append, List.length_cons]
      omega
  have h2 := this (List.range r.length)
  rw [List.length_range] at h2
  have := hr.2.1
  omega
theorem H_le {r : List Int} (hr : Ok r) : H r ≤ 36 := by
  rw [H_eq hr]
  refine Nat.le_trans (mex_le _) ?_
  rw [List.length_map]
  exact moves_len hr
/-! #### the key -/
def text (r : List Int) : ByteArray := ⟨(r.map fun n => UInt8.ofNat (48 + n.toNat)).toArray⟩
def numL (l : List UInt8) : Nat := l.foldl (fun a b => a * 7 + (b.toNat - 48)) 0
def num (v : Value) : Nat := match v with | .string s => numL s.data.toList | _ => 0
theorem numL_eq (l : List UInt8) : numL l = l.reverse.foldr (fun b a => a * 7 + (b.toNat - 48)) 0 := by unfold numL; rw [List.foldr_reverse]
theorem foldr_lt : ∀ (l : List UInt8), (∀ b ∈ l, 49 ≤ b.toNat ∧ b.toNat ≤ 54) → l.foldr (fun b a => a * 7 + (b.toNat - 48)) 0 < 7 ^ l.length
  | [], _ => by simp
  | b :: l, h => by
    have h1 := foldr_lt l (fun q hq => h q (List.mem_cons_of_mem _ hq))
    have h2 := h b (by simp)
    simp only [List.foldr_cons, List.length_cons, Nat.pow_succ]
    omega
theorem foldr_inj : ∀ (l l' : List UInt8), (∀ b ∈ l, 49 ≤ b.toNat ∧ b.toNat ≤ 54) → (∀ b ∈ l', 49 ≤ b.toNat ∧ b.toNat ≤ 54) → l.foldr (fun b a => a * 7 + (b.toNat - 48)) 0 = l'.foldr (fun b a => a * 7 + (b.toNat - 48)) 0 → l = l'
  | [], [], _, _, _ => rfl
  | [], b :: l', _, h', e => by
    have := h' b (by simp)
    simp only [List.foldr_nil, List.foldr_cons] at e
    omega
  | b :: l, [], h, _, e => by
    have := h b (by simp)
    simp only [List.foldr_nil, List.foldr_cons] at e
    omega
  | b :: l, b' :: l', h, h', e => by
    have h1 := h b (by simp)
    have h2 := h' b' (by simp)
    simp only [List.foldr_cons] at e
    have e1 : b.toNat = b'.toNat := by omega
    have e2 : b = b' := UInt8.toNat_inj.1 e1
    rw [e2, foldr_inj l l' (fun q hq => h q (List.mem_cons_of_mem _ hq)) (fun q hq => h' q (List.mem_cons_of_mem _ hq)) (by omega)]
theorem text_digits {r : List Int} (hr : Ok r) : ∀ b ∈ (text r).data.toList, 49 ≤ b.toNat ∧ b.toNat ≤ 54 := by
  intro b hb
  unfold text at hb
  simp only [List.mem_map] at hb
  obtain ⟨n, hn, rfl⟩ := hb
  have := hr.2.2 n hn
  rw [UInt8.toNat_ofNat']
  omega
theorem text_len (r : List Int) : (text r).data.toList.length = r.length := by simp [text]
theorem num_lt {r : List Int} (hr : Ok r) : num (.string (text r)) < 117649 := by
  show numL (text r).data.toList < 117649
  rw [numL_eq]
  have h1 := foldr_lt (text r).data.toList.reverse (fun b hb => text_digits hr b (List.mem_reverse.1 hb))
  rw [List.length_reverse, text_len] at h1
  refine Nat.lt_of_lt_of_le h1 ?_
  exact Nat.le_trans (Nat.pow_le_pow_right (by omega) hr.2.1) (by decide)
theorem num_text {r r' : List Int} (hr : Ok r) (hr' : Ok r') (e : num (.string (text r)) = num (.string (text r'))) : text r = text r' := by
  have e1 : numL (text r).data.toList = numL (text r').data.toList := e
  rw [numL_eq, numL_eq] at e1
  have e2 := foldr_inj _ _ (fun b hb => text_digits hr b (List.mem_reverse.1 hb)) (fun b hb => text_digits hr' b (List.mem_reverse.1 hb)) e1
  have e3 := List.reverse_inj.1 e2
  have e4 : (text r).data = (text r').data := by
    rw [← Array.toArray_toList (xs := (text r).data), e3]
  cases h : text r; cases h' : text r'
  rw [h, h'] at e4
  simpa using e4
theorem text_inj {r r' : List Int} (hr : Ok r) (hr' : Ok r') (e : text r = text r') : r = r' := by
  have e1 : (r.map fun n => UInt8.ofNat (48 + n.toNat)) = r'.map fun n => UInt8.ofNat (48 + n.toNat) := by
    have := congrArg (fun s : ByteArray => s.data.toList) e
    simpa [text] using this
  have : ∀ (l l' : List Int), (∀ x ∈ l, 1 ≤ x ∧ x ≤ 6) → (∀ x ∈ l', 1 ≤ x ∧ x ≤ 6) → (l.map fun n => UInt8.ofNat (48 + n.toNat)) = l'.map (fun n => UInt8.ofNat (48 + n.toNat)) → l = l' := by
    intro l
    induction l with
    | nil => intro l' _ _ h; cases l' with
      | nil => rfl
      | cons a l' => simp at h
    | cons a l ih =>
      intro l' h h' e
      cases l' with
      | nil => simp at e
      | cons a' l' =>
        simp only [List.map_cons, List.cons.injEq] at e
        have h1 := h a (by simp)
        have h2 := h' a' (by simp)
        have e2 := congrArg UInt8.toNat e.1
        rw [UInt8.toNat_ofNat', UInt8.toNat_ofNat'] at e2
        have : a = a' := by omega
        rw [this, ih l' (fun q hq => h q (List.mem_cons_of_mem _ hq)) (fun q hq => h' q (List.mem_cons_of_mem _ hq)) e.2]
  exact this r r' hr.2.2 hr'.2.2 e1
/-! #### what a clue tells -/
def isGood (r m : List Int) : Bool := !(decide (0 < H (bit r (m.getD 0 0) (m.getD 1 0).toNat)))
def told (kind a : Int) (r : List Int) : Int :=
  if kind = 0 then r.sum else if kind = 1 then (if a < (r.length : Int) then r.getD a.toNat 0 else 0) else if kind = 2 then (if 0 < H r then 1 else 0) else if kind = 3 then (H r : Int)
  else if kind = 4 then ((r.filter fun n => !(decide (n ≤ a))).length : Int) else (((moves r).filter (isGood r)).length : Int)
theorem sum_le : ∀ {r : List Int}, (∀ x ∈ r, 1 ≤ x ∧ x ≤ 6) → 0 ≤ r.sum ∧ r.sum ≤ 6 * (r.length : Int)
  | [], _ => by simp
  | a :: r, h => by
    have h1 := sum_le (fun x hx => h x (List.mem_cons_of_mem _ hx) : ∀ x ∈ r, 1 ≤ x ∧ x ≤ 6)
    have h2 := h a (by simp)
    simp only [List.sum_cons, List.length_cons]
    omega
def okB (r : List Int) : Bool := !r.isEmpty && decide (r.length ≤ 6) && r.all fun x => decide (1 ≤ x) && decide (x ≤ 6)
theorem okB_iff {r : List Int} : okB r = true ↔ Ok r := by
  unfold okB Ok
  simp only [Bool.and_eq_true, List.all_eq_true, decide_eq_true_eq, Bool.not_eq_true', List.isEmpty_eq_false_iff, and_assoc]
end Go.Proofs.YtdikeggkfkkajaaDoor.Chomp
