/- Pure: all chomps in order: the list of Comb.look is sorted, and what a bite leaves lies ahead. -/
import Derived.Test.YtdikeggkfkkajaaDoorWMore
import Derived.Test.YtdikeggkfkkajaaDoorComb
import Derived.Test.YtdikeggkfkkajaaDoorChomp
namespace Go.Proofs.YtdikeggkfkkajaaDoor.All
open Go.Proofs.YtdikeggkfkkajaaDoor.Chomp
set_option linter.unusedVariables false
/-- All that can follow: at most k numbers more, falling, none greater than wide. -/
def tails : Nat → Nat → List (List Int)
  | 0, _ => [[]]
  | k + 1, wide => [] :: (List.range' 1 wide).flatMap fun i => (tails k i).map ((i : Int) :: ·)
def all (wide high : Nat) : List (List Int) := (tails high wide).tail
theorem tails_cons (k wide : Nat) : ∃ r, tails k wide = [] :: r := by cases k <;> exact ⟨_, rfl⟩
theorem flat_le {f : Nat → List (List Int)} {B : Nat} : ∀ (l : List Nat), (∀ i ∈ l, (f i).length ≤ B) → (l.flatMap f).length ≤ l.length * B
  | [], _ => by simp
  | a :: l, h => by
    have h1 := flat_le l (fun i hi => h i (List.mem_cons_of_mem _ hi))
    have h2 := h a (by simp)
    rw [List.flatMap_cons, List.length_append, List.length_cons, Nat.add_mul]
    omega
theorem tails_len (k : Nat) : ∀ wide, (tails k wide).length ≤ (wide + 1) ^ k := by
  induction k with
  | zero => intro wide; simp [tails]
  | succ k ih =>
    intro wide
    have h : ((List.range' 1 wide).flatMap fun (i : Nat) => (tails k i).map ((i : Int) :: ·)).length ≤ (List.range' 1 wide).length * (wide + 1) ^ k := flat_le _ (fun i hi => by
      rw [List.length_map]
      refine Nat.le_trans (ih i) (Nat.pow_le_pow_left ?_ k)
      have := List.mem_range'_1.1 hi
      omega)
    rw [List.length_range'] at h
    have h2 : 1 ≤ (wide + 1) ^ k := Nat.one_le_pow _ _ (by omega)
    show ((List.range' 1 wide).flatMap fun (i : Nat) => (tails k i).map ((i : Int) :: ·)).length + 1 ≤ _
    rw [Nat.pow_succ, Nat.mul_add, Nat.mul_one, Nat.mul_comm]
    omega
theorem put_eq (bg : List Int) (acc : List (List Int)) : Comb.put bg acc = acc ++ (if bg.length = 0 then [] else [bg]) := by
  unfold Comb.put; split <;> simp
/-- What is laid down. -/
def from_ (k wide : Nat) (bg : List Int) : List (List Int) := if bg.length = 0 then (tails k wide).tail.map (bg ++ ·) else (tails k wide).map (bg ++ ·)
theorem look_eq (k : Nat) : ∀ (wide : Nat) (bg : List Int) (acc : List (List Int)), acc.length + (wide + 1) ^ k < 1000000000 → Comb.look k wide bg acc = some (acc ++ from_ k wide bg) := by
  induction k with
  | zero =>
    intro wide bg acc h
    unfold Comb.look
    rw [if_pos (by omega), put_eq]
    unfold from_ tails
    split <;> simp
  | succ k ih =>
    intro wide bg acc h
    have hp : 1 ≤ (wide + 1) ^ (k + 1) := Nat.one_le_pow _ _ (by omega)
    have key : ∀ (m i : Nat) (acc : List (List Int)), i + m = wide + 1 → acc.length + m * (wide + 1) ^ k < 1000000000 → Comb.go (Comb.look k) bg m i acc = some (acc ++ (List.range' i m).flatMap fun (i : Nat) => (tails k i).map ((bg ++ [(i : Int)]) ++ ·)) := by
      intro m
      induction m with
      | zero => intro i acc _ _; simp [Comb.go]
      | succ m ihm =>
        intro i acc hi hb
        have h1 : (i + 1) ^ k ≤ (wide + 1) ^ k := Nat.pow_le_pow_left (by omega) k
        rw [Nat.add_mul, Nat.one_mul] at hb
        have h2 : from_ k i (bg ++ [(i : Int)]) = (tails k i).map ((bg ++ [(i : Int)]) ++ ·) := by
          unfold from_; rw [if_neg (by simp)]
        unfold Comb.go
        rw [ih i _ acc (by omega), Option.bind_some, h2, ihm (i + 1) _ (by omega) (by
          have := tails_len k i
          rw [List.length_append, List.length_map]
          omega), List.range'_succ, List.flatMap_cons, List.append_assoc]
    unfold Comb.look
    rw [if_pos (by omega), key wide 1 _ (by omega) (by
      rw [put_eq, List.length_append]
      rw [Nat.pow_succ, Nat.mul_add, Nat.mul_one, Nat.mul_comm] at h
      have : (if bg.length = 0 then ([] : List (List Int)) else [bg]).length ≤ 1 := by split <;> simp
      have h5 : 1 ≤ (wide + 1) ^ k := Nat.one_le_pow _ _ (by omega)
      omega), put_eq, List.append_assoc]
    congr 2
    have ht : tails (k + 1) wide = [] :: (List.range' 1 wide).flatMap fun i => (tails k i).map ((i : Int) :: ·) := rfl
    unfold from_
    rw [ht]
    have e : (fun (i : Nat) => (tails k i).map ((bg ++ [(i : Int)]) ++ ·)) = fun (i : Nat) => ((tails k i).map ((i : Int) :: ·)).map (bg ++ ·) := by
      funext i
      rw [List.map_map]
      apply List.map_congr_left
      intro t _
      simp
    rw [e]
    split
    · simp [List.map_flatMap]
    · simp [List.map_flatMap]
theorem look_all (wide high : Nat) (h : (wide + 1) ^ high < 1000000000) : Comb.look high wide [] [] = some (all wide high) := by
  rw [look_eq high wide [] [] (by simpa using h)]
  simp [from_, all]
/-! #### the order -/
abbrev Lt : List Int → List Int → Prop := List.Lex (· < ·)
theorem lt_asymm : ∀ {a b : List Int}, Lt a b → ¬ Lt b a := by
  intro a b h
  induction h with
  | nil => intro h; cases h
  | cons h ih => intro h2; cases h2 with
    | cons h2 => exact ih h2
    | rel h2 => omega
  | rel h => intro h2; cases h2 with
    | cons h2 => omega
    | rel h2 => omega
theorem lt_irrefl {a : List Int} : ¬ Lt a a := fun h => lt_asymm h h
theorem sorted_tails (k : Nat) : ∀ wide, (tails k wide).Pairwise Lt := by
  induction k with
  | zero => intro wide; simp [tails]
  | succ k ih =>
    intro wide
    unfold tails
    rw [List.pairwise_cons]
    refine ⟨fun t ht => ?_, ?_⟩
    · obtain ⟨i, _, hi⟩ := List.mem_flatMap.1 ht
      obtain ⟨s, _, rfl⟩ := List.mem_map.1 hi
      exact .nil
    · rw [List.pairwise_flatMap]
      refine ⟨fun i _ => ?_, ?_⟩
      · rw [List.pairwise_map]
        exact (ih i).imp (fun h => .cons h)
      · refine (List.pairwise_lt_range' (step := 1)).imp ?_
        intro a b hab x hx y hy
        obtain ⟨s, _, rfl⟩ := List.mem_map.1 hx
        obtain ⟨t, _, rfl⟩ := List.mem_map.1 hy
        exact .rel (by omega)
theorem sorted_all (wide high : Nat) : (all wide high).Pairwise Lt := (sorted_tails high wide).tail
/-- A chomp that can follow a row of a squares. -/
def Fall : Int → List Int → Prop
  | _, [] => True
  | a, b :: r => 1 ≤ b ∧ b ≤ a ∧ Fall b r
theorem mem_tails (k : Nat) : ∀ (wide : Nat) (r : List Int), r ∈ tails k wide ↔ r.length ≤ k ∧ Fall wide r := by
  induction k with
  | zero =>
    intro wide r
    unfold tails
    cases r <;> simp [Fall]
  | succ k ih =>
    intro wide r
    unfold tails
    rw [List.mem_cons, List.mem_flatMap]
    cases r with
    | nil => simp [Fall]
    | cons b r =>
      constructor
      · rintro (h | ⟨i, hi, h⟩)
        · cases h
        · obtain ⟨s, hs, e⟩ := List.mem_map.1 h
          obtain ⟨rfl, rfl⟩ := List.cons.inj e
          have h2 := (ih i _).1 hs
          have h3 := List.mem_range'_1.1 hi
          exact ⟨by rw [List.length_cons]; omega, by omega, by omega, h2.2⟩
      · rintro ⟨h1, h2, h3, h4⟩
        obtain ⟨i, rfl⟩ := Int.eq_ofNat_of_zero_le (show 0 ≤ b by omega)
        exact .inr ⟨i, List.mem_range'_1.2 (by omega), List.mem_map.2 ⟨r, (ih i r).2 ⟨by simpa using h1, h4⟩, rfl⟩⟩
theorem mem_all {wide high : Nat} {r : List Int} : r ∈ all wide high ↔ r ≠ [] ∧ r.length ≤ high ∧ Fall wide r := by
  obtain ⟨l, hl⟩ := tails_cons high wide
  have hs := sorted_tails high wide
  have hm := mem_tails high wide r
  unfold all
  rw [hl] at hs hm ⊢
  rw [List.tail_cons]
  rw [List.pairwise_cons] at hs
  rw [List.mem_cons] at hm
  constructor
  · intro h
    exact ⟨fun e => by have := hs.1 r h; rw [e] at this; exact lt_irrefl this, hm.1 (.inr h)⟩
  · rintro ⟨h1, h2⟩
    rcases hm.2 h2 with h | h
    · exact absurd h h1
    · exact h
theorem fall_mono {a b : Int} {r : List Int} (h : Fall a r) (hab : a ≤ b) : Fall b r := by
  cases r with
  | nil => trivial
  | cons c r => exact ⟨h.1, by have := h.2.1; omega, h.2.2⟩
theorem fall_mem {a : Int} {r : List Int} (h : Fall a r) : ∀ x ∈ r, 1 ≤ x ∧ x ≤ a := by
  induction r generalizing a with
  | nil => intro x hx; cases hx
  | cons b r ih =>
    intro x hx
    rcases List.mem_cons.1 hx with rfl | hx
    · exact ⟨h.1, h.2.1⟩
    · have := ih h.2.2 x hx
      have := h.2.1
      omega
theorem ok_all {wide high : Nat} {r : List Int} (h : r ∈ all wide high) (hw : wide ≤ 6) (hh : high ≤ 6) : Ok r := by
  obtain ⟨h0, h1, h2⟩ := mem_all.1 h
  exact ⟨h0, by omega, fun x hx => by have := fall_mem h2 x hx; omega⟩
/-- From row 0 on cut to x: what is left falls. -/
theorem fall_cut0 {x : Int} (hx : 0 ≤ x) : ∀ {r : List Int} {a : Int}, Fall a r → Fall (if x < a then x else a) ((cut r x 0).filter fun n => !(n == 0)) := by
  intro r
  induction r with
  | nil => intro a _; trivial
  | cons b r ih =>
    intro a h
    have h2 := ih h.2.2
    have hb := h.2.1
    have hb1 := h.1
    unfold cut
    rw [List.filter_cons]
    have e1 : (if x < b then x else b) ≤ (if x < a then x else a) := by
      by_cases c1 : x < b
      · rw [if_pos c1, if_pos (by omega)]; omega
      · rw [if_neg c1]; split <;> omega
    have e0 : 0 ≤ (if x < b then x else b) := by split <;> omega
    generalize (if x < b then x else b) = q at *
    generalize (if x < a then x else a) = Q at *
    by_cases c : q = 0
    · rw [if_neg (by simp [c])]
      exact fall_mono h2 e1
    · rw [if_pos (by simp [c])]
      exact ⟨by omega, e1, h2⟩
theorem fall_bit {x : Int} (hx : 0 ≤ x) : ∀ {r : List Int} {a : Int} (y : Nat), Fall a r → Fall a (bit r x y) := by
  intro r
  induction r with
  | nil => intro a y _; cases y <;> trivial
  | cons b r ih =>
    intro a y h
    cases y with
    | zero => exact fall_mono (fall_cut0 hx h) (by split <;> omega)
    | succ y =>
      have h2 := ih y h.2.2
      unfold bit at h2 ⊢
      unfold cut
      rw [List.filter_cons, if_pos (by have := h.1; simp; omega)]
      exact ⟨h.1, h.2.1, h2⟩
theorem lt_cut0 {x : Int} (hx : 0 ≤ x) : ∀ {r : List Int} {a : Int}, Fall a r → a ≤ x → (cut r x 0).filter (fun n => !(n == 0)) = r := by
  intro r
  induction r with
  | nil => intro a _ _; rfl
  | cons b r ih =>
    intro a h ha
    have hb := h.2.1
    have hb1 := h.1
    unfold cut
    rw [if_neg (by omega), List.filter_cons, if_pos (by simp; omega), ih h.2.2 (by omega)]
theorem lt_bit {x : Int} (hx : 0 ≤ x) : ∀ {r : List Int} {a : Int} (y : Nat), Fall a r → y < r.length → x < r.getD y 0 → Lt (bit r x y) r := by
  intro r
  induction r with
  | nil => intro a y _ hy _; simp at hy
  | cons b r ih =>
    intro a y h hy hlt
    cases y with
    | zero =>
      have hlt : x < b := by simpa using hlt
      unfold bit cut
      rw [if_pos hlt, List.filter_cons]
      by_cases c : x = 0
      · rw [if_neg (by simp [c])]
        subst c
        have : (cut r 0 0).filter (fun n => !(n == 0)) = [] := by
          have h3 := fall_cut0 (x := 0) (by omega) h.2.2
          rw [if_pos (by omega)] at h3
          cases hq : (cut r 0 0).filter (fun n => !(n == 0)) with
          | nil => rfl
          | cons q s => rw [hq] at h3; have := h3.1; have := h3.2.1; omega
        rw [this]
        exact .nil
      · rw [if_pos (by simp [c])]
        exact .rel hlt
    | succ y =>
      have h2 := ih y h.2.2 (by simpa using hy) (by simpa using hlt)
      unfold bit at h2 ⊢
      unfold cut
      rw [List.filter_cons, if_pos (by have := h.1; simp; omega)]
      exact .cons h2
theorem bit_all {wide high : Nat} {r m : List Int} (h : r ∈ all wide high) (hm : m ∈ moves r) : bit r (m.getD 0 0) (m.getD 1 0).toNat ∈ all wide high ∧ Lt (bit r (m.getD 0 0) (m.getD 1 0).toNat) r := by
  obtain ⟨x, y, rfl, hy, hx, hp⟩ := moves_mem hm
  obtain ⟨h0, h1, h2⟩ := mem_all.1 h
  show bit r (x : Int) y ∈ all wide high ∧ Lt (bit r (x : Int) y) r
  refine ⟨mem_all.2 ⟨?_, ?_, fall_bit (by omega) y h2⟩, lt_bit (by omega) y h2 hy hx⟩
  · cases r with
    | nil => exact absurd rfl h0
    | cons a r =>
      cases y with
      | zero =>
        unfold bit cut
        rw [List.filter_cons, if_pos (by have := h2.1; simp; split <;> omega)]
        simp
      | succ y =>
        unfold bit cut
        rw [List.filter_cons, if_pos (by have := h2.1; simp; omega)]
        simp
  · unfold bit
    have := List.length_filter_le (fun n => !(n == 0)) (cut r x y)
    rw [cut_length] at this
    omega
/-- What a bite leaves lies ahead. -/
theorem ahead {wide high : Nat} {A B : List (List Int)} {r m : List Int} (he : all wide high = A ++ r :: B) (hm : m ∈ moves r) : bit r (m.getD 0 0) (m.getD 1 0).toNat ∈ A := by
  have hr : r ∈ all wide high := by rw [he]; simp
  obtain ⟨h1, h2⟩ := bit_all hr hm
  have hs := sorted_all wide high
  rw [he] at h1 hs
  rcases List.mem_append.1 h1 with h1 | h1
  · exact h1
  · rcases List.mem_cons.1 h1 with h1 | h1
    · rw [h1] at h2; exact absurd h2 lt_irrefl
    · have h3 := (List.pairwise_append.1 hs).2.1
      rw [List.pairwise_cons] at h3
      exact absurd (h3.1 _ h1) (lt_asymm h2)
theorem nodup_all {wide high : Nat} : (all wide high).Nodup := (sorted_all wide high).imp (fun h e => by rw [e] at h; exact lt_irrefl h)
/-! #### keys -/
def key6 : Nat → List Int → Int
  | 0, _ => 0
  | k + 1, [] => 0
  | k + 1, a :: r => a * 7 ^ k + key6 k r
theorem key6_bound : ∀ (k : Nat) (r : List Int), r.length ≤ k → (∀ x ∈ r, 1 ≤ x ∧ x ≤ 6) → 0 ≤ key6 k r ∧ key6 k r < 7 ^ k
  | 0, r, _, _ => by simp [key6]
  | k + 1, [], _, _ => by
    have : (0 : Int) < 7 ^ (k + 1) := Int.pow_pos (by omega)
    exact ⟨Int.le_refl _, this⟩
  | k + 1, a :: r, h, hx => by
    have h1 := key6_bound k r (by simpa using h) (fun x hx' => hx x (List.mem_cons_of_mem _ hx'))
    have ha := hx a (by simp)
    have hp : (0 : Int) < 7 ^ k := Int.pow_pos (by omega)
    unfold key6
    generalize hq : (7 : Int) ^ k = q at *
    have e : (7 : Int) ^ (k + 1) = 7 * q := by rw [Int.pow_succ, hq, Int.mul_comm]
    rw [e]
    have h2 : 0 ≤ a * q := Int.mul_nonneg (by omega) (by omega)
    have h3 : a * q ≤ 6 * q := Int.mul_le_mul_of_nonneg_right ha.2 (by omega)
    omega
theorem key6_inj : ∀ (k : Nat) (r s : List Int), r.length ≤ k → s.length ≤ k → (∀ x ∈ r, 1 ≤ x ∧ x ≤ 6) → (∀ x ∈ s, 1 ≤ x ∧ x ≤ 6) → key6 k r = key6 k s → r = s
  | 0, r, s, h1, h2, _, _, _ => by
    rw [List.eq_nil_of_length_eq_zero (by omega : r.length = 0), List.eq_nil_of_length_eq_zero (by omega : s.length = 0)]
  | k + 1, [], [], _, _, _, _, _ => rfl
  | k + 1, [], b :: s, _, h2, _, hs, e => by
    have h1 := key6_bound k s (by simpa using h2) (fun x hx' => hs x (List.mem_cons_of_mem _ hx'))
    have hb := hs b (by simp)
    have hp : (0 : Int) < 7 ^ k := Int.pow_pos (by omega)
    simp only [key6] at e
    have : 1 * (7 : Int) ^ k ≤ b * 7 ^ k := Int.mul_le_mul_of_nonneg_right hb.1 (by omega)
    omega
  | k + 1, b :: s, [], h2, _, hs, _, e => by
    have h1 := key6_bound k s (by simpa using h2) (fun x hx' => hs x (List.mem_cons_of_mem _ hx'))
    have hb := hs b (by simp)
    have hp : (0 : Int) < 7 ^ k := Int.pow_pos (by omega)
    simp only [key6] at e
    have : 1 * (7 : Int) ^ k ≤ b * 7 ^ k := Int.mul_le_mul_of_nonneg_right hb.1 (by omega)
    omega
  | k + 1, a :: r, b :: s, hr, hs, hxr, hxs, e => by
    have h1 := key6_bound k r (by simpa using hr) (fun x hx' => hxr x (List.mem_cons_of_mem _ hx'))
    have h2 := key6_bound k s (by simpa using hs) (fun x hx' => hxs x (List.mem_cons_of_mem _ hx'))
    have hp : (0 : Int) < 7 ^ k := Int.pow_pos (by omega)
    simp only [key6] at e
    have hab : a = b := by
      rcases Int.lt_trichotomy a b with h | h | h
      · have : (a + 1) * (7 : Int) ^ k ≤ b * 7 ^ k := Int.mul_le_mul_of_nonneg_right (by omega) (by omega)
        rw [Int.add_mul] at this
        omega
      · exact h
      · have : (b + 1) * (7 : Int) ^ k ≤ a * 7 ^ k := Int.mul_le_mul_of_nonneg_right (by omega) (by omega)
        rw [Int.add_mul] at this
        omega
    subst hab
    rw [key6_inj k r s (by simpa using hr) (by simpa using hs) (fun x hx' => hxr x (List.mem_cons_of_mem _ hx')) (fun x hx' => hxs x (List.mem_cons_of_mem _ hx')) (by omega)]
def key (r : List Int) : Int := key6 6 r
theorem key_lt {r : List Int} (h : Ok r) : 0 ≤ key r ∧ key r < 117649 := by
  have := key6_bound 6 r h.2.1 h.2.2
  exact this
theorem key_inj {r s : List Int} (h : Ok r) (h' : Ok s) (e : key r = key s) : r = s := key6_inj 6 r s h.2.1 h'.2.1 h.2.2 h'.2.2 e
/-! #### the table of heaps, by keys, 1 more than they are -/
def step (t : List Int) (r : List Int) : List Int := t.set (key r).toNat ((H r : Int) + 1)
def tab (L : List (List Int)) : List Int := L.foldl step (List.replicate 117649 0)
theorem step_len (t : List Int) (r : List Int) : (step t r).length = t.length := by unfold step; rw [List.length_set]
theorem fold_len : ∀ (L : List (List Int)) (t : List Int), (L.foldl step t).length = t.length
  | [], _ => rfl
  | r :: L, t => by rw [List.foldl_cons, fold_len L, step_len]
theorem tab_len (L : List (List Int)) : (tab L).length = 117649 := by unfold tab; rw [fold_len, List.length_replicate]
theorem tab_snoc (L : List (List Int)) (r : List Int) : tab (L ++ [r]) = step (tab L) r := by unfold tab; rw [List.foldl_append]; rfl
theorem tab_get {L : List (List Int)} (hL : ∀ r ∈ L, Ok r) : ∀ {r : List Int}, r ∈ L → (tab L).getD (key r).toNat 0 = (H r : Int) + 1 := by
  suffices h : ∀ n, ∀ {r : List Int}, r ∈ L.take n → (tab (L.take n)).getD (key r).toNat 0 = (H r : Int) + 1 by
    intro r hr
    have := h L.length (r := r) (by rw [List.take_length]; exact hr)
    rwa [List.take_length] at this
  intro n
  induction n with
  | zero => intro r hr; simp at hr
  | succ n ih =>
    intro r hr
    by_cases hn : n < L.length
    · have ht : L.take (n + 1) = L.take n ++ [L[n]] := by rw [List.take_add_one, List.getElem?_eq_getElem hn]; rfl
      rw [ht] at hr ⊢
      rw [tab_snoc]
      have hok := hL L[n] (List.getElem_mem hn)
      have hk := key_lt hok
      unfold step
      rw [List.getD_eq_getElem?_getD, List.getElem?_set]
      by_cases e : (key L[n]).toNat = (key r).toNat
      · rw [if_pos e, if_pos (by rw [tab_len]; omega)]
        have hr2 : Ok r := by
          rcases List.mem_append.1 hr with h | h
          · exact hL r (List.mem_of_mem_take h)
          · rw [List.mem_singleton.1 h]; exact hok
        have hk2 := key_lt hr2
        rw [key_inj hr2 hok (by omega)]; rfl
      · rw [if_neg e, ← List.getD_eq_getElem?_getD]
        rcases List.mem_append.1 hr with h | h
        · exact ih h
        · rw [List.mem_singleton.1 h] at e; exact absurd rfl e
    · have ht : L.take (n + 1) = L.take n := by rw [List.take_of_length_le (by omega), List.take_of_length_le (by omega)]
      rw [ht] at hr ⊢
      exact ih hr
theorem tab_all {wide high : Nat} (hw : wide ≤ 6) (hh : high ≤ 6) {r : List Int} (h : r ∈ all wide high) : (tab (all wide high)).getD (key r).toNat 0 = (H r : Int) + 1 := tab_get (fun _ h => ok_all h hw hh) h
theorem tab_ahead {wide high n : Nat} (hw : wide ≤ 6) (hh : high ≤ 6) (hn : n < (all wide high).length) {m : List Int} (hm : m ∈ moves ((all wide high).getD n [])) :
    (tab ((all wide high).take n)).getD (key (bit ((all wide high).getD n []) (m.getD 0 0) (m.getD 1 0).toNat)).toNat 0 = (H (bit ((all wide high).getD n []) (m.getD 0 0) (m.getD 1 0).toNat) : Int) + 1 := by
  have he : all wide high = (all wide high).take n ++ (all wide high).getD n [] :: (all wide high).drop (n + 1) := by
    have h1 : (all wide high).getD n [] = (all wide high)[n] := by rw [List.getD_eq_getElem?_getD, List.getElem?_eq_getElem hn]; rfl
    rw [h1, ← List.drop_eq_getElem_cons hn, List.take_append_drop]
  exact tab_get (fun r hr => ok_all (List.mem_of_mem_take hr) hw hh) (ahead he hm)
end Go.Proofs.YtdikeggkfkkajaaDoor.All
