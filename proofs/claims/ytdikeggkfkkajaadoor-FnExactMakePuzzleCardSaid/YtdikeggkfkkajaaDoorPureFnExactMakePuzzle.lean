/- MakePuzzle answers as the reference does: of a hidden chomp, a number of clues and a seed the puzzle whose clues are drawn from the seed; its argument stays as it was, and what it hands back is new memory. Conditions: none. -/
import Derived.Test.YtdikeggkfkkajaaDoorStFnExactMakePuzzle
import Derived.Test.YtdikeggkfkkajaaDoorPK
namespace Go.Proofs.YtdikeggkfkkajaaDoor.Pure
open Go.RowKit Go.Proofs.YtdikeggkfkkajaaDoor.PFnExactMakePuzzle Go.Proofs.YtdikeggkfkkajaaDoorW.PrintWords Go.Proofs.YtdikeggkfkkajaaDoorW.PrintLast Go.Proofs.YtdikeggkfkkajaaDoorW.PrintMore
set_option linter.unusedVariables false
set_option linter.unusedSimpArgs false

theorem l1In_eq (a b c : Int) : spec_l1In.f a b c = some (decide (b ≤ a) && decide (a ≤ c)) := by
  unfold spec_l1In.f
  by_cases h : b ≤ a
  · rw [if_pos h]; simp [h]
  · rw [if_neg h]; simp [h]
theorem within_eq (a b c : Int) : impl_within.f a b c = some (decide (b ≤ a) && decide (a ≤ c)) := by
  unfold impl_within.f
  by_cases h : b ≤ a
  · rw [if_pos h]; simp [h]
  · rw [if_neg h]; simp [h]

theorem eqIntS_refl (l : List Int) (hl : l.length ≤ 1048576) (k : Nat) (hk : l.length < k) : laws_eqIntS.f k l l = some true := by
  unfold laws_eqIntS.f
  rw [if_pos rfl]
  have h := PK.all_loop0 l (fun k i => laws_eqIntS.l0 k l l i) 0 (fun _ => true)
    (fun k i hi _ => by
      try dsimp only
      simp only [laws_eqIntS.l0]
      rw [if_pos (by omega), if_pos (by omega), if_pos (by omega), PK.w1 hi (by omega)])
    (fun k _ => by
      try dsimp only
      simp only [laws_eqIntS.l0]
      rw [if_neg (by omega)])
    (k := k) (by omega)
  try dsimp only at h
  rw [h]; simp

def mkI (a : Int) : Int := a
theorem markIntS_eq (l : List Int) (hl : l.length ≤ 1048576) (k : Nat) (hk : l.length < k) : laws_markIntS.f k l 1 = some (1 + ((1 : Nat) : Int) * (l.length : Int), (List.range l.length).map fun (i : Nat) => mkI (1 + ((1 : Nat) : Int) * (i : Int))) := by
  unfold laws_markIntS.f
  have h := PK.mark_loop l.length 0 1 (fun k s a i => laws_markIntS.l0 k s a i) mkI 1 4000000 (by omega) (by omega)
    (fun k i s a _ hs hi h0 hB => by
      try dsimp only
      simp only [laws_markIntS.l0]
      have w1 : wrap64 (a + 1) = a + 1 := PK.wrap_in (by omega) (by omega)
      rw [if_pos (by omega), if_pos (by omega), w1, PK.w1 hi (by omega), Int.toNat_natCast]
      rfl)
    (fun k s a _ hs => by
      try dsimp only
      simp only [laws_markIntS.l0]
      rw [if_neg (by omega)])
    (k := k) (by omega) (s := l) rfl
  try dsimp only at h
  rw [h]

theorem toIntS_eq (l : List Int) (hl : l.length ≤ 1048576) (k : Nat) (hk : l.length < k) : laws_toIntS.f k l = some l := by
  unfold laws_toIntS.f
  rw [if_pos (by omega), if_pos (by omega), Int.toNat_natCast]
  have h := PK.fill_loop (ρ := List Int) l.length 0 (fun k s i => laws_toIntS.l0 k l s i) (fun i => l.getD i 0) (fun s => some s)
    (fun k i s _ hs hi => by
      try dsimp only
      simp only [laws_toIntS.l0]
      rw [if_pos (by omega), if_pos (by omega), if_pos (by omega), PK.w1 hi (by omega), Int.toNat_natCast]
      rfl)
    (fun k s _ hs => by
      try dsimp only
      simp only [laws_toIntS.l0]
      rw [if_neg (by omega)])
    (k := k) (by omega) (s := List.replicate l.length 0) (by simp)
  try dsimp only at h
  rw [h]
  have := PK.map_range l 0 (fun x => x)
  simpa using this

theorem eqClueS_refl (l : List S69) (hl : l.length ≤ 1048576) (k : Nat) (hk : l.length < k) : laws_eqClueS.f k l l = some true := by
  unfold laws_eqClueS.f
  rw [if_pos rfl]
  have h := PK.all_loop0 l (fun k i => laws_eqClueS.l0 k l l i) 0 (fun _ => true)
    (fun k i hi _ => by
      try dsimp only
      simp only [laws_eqClueS.l0]
      rw [if_pos (by omega), if_pos (by omega), if_pos (by omega)]
      unfold laws_eqClue.f
      rw [if_pos rfl, if_pos rfl, if_pos rfl, Option.bind_some, if_pos rfl, if_pos trivial, PK.w1 hi (by omega)])
    (fun k _ => by
      try dsimp only
      simp only [laws_eqClueS.l0]
      rw [if_neg (by omega)])
    (k := k) (by omega)
  try dsimp only at h
  rw [h]; simp
theorem eqPuzzle_refl (l : List S69) (hl : l.length ≤ 1048576) (k : Nat) (hk : l.length < k) : laws_eqPuzzle.f k l l = some true := by
  unfold laws_eqPuzzle.f; rw [eqClueS_refl l hl k hk]; rfl

def mkC (a : Int) : S69 := ⟨a, a + 1, a + 2⟩
theorem markPuzzle_eq (l : List S69) (hl : l.length ≤ 1048576) (k : Nat) (hk : l.length < k) : laws_markPuzzle.f k l 1 = some (1 + ((3 : Nat) : Int) * (l.length : Int), (List.range l.length).map fun (i : Nat) => mkC (1 + ((3 : Nat) : Int) * (i : Int))) := by
  unfold laws_markPuzzle.f laws_markClueS.f
  have h := PK.mark_loop l.length 0 3 (fun k s a i => laws_markClueS.l0 k s a i) mkC 1 4000000 (by omega) (by omega)
    (fun k i s a _ hs hi h0 hB => by
      try dsimp only
      simp only [laws_markClueS.l0]
      have w1 : wrap64 (a + 1) = a + 1 := PK.wrap_in (by omega) (by omega)
      have w2 : wrap64 (a + 1 + 1) = a + 2 := by rw [PK.wrap_in (by omega) (by omega)]; omega
      have w3 : wrap64 (a + 2 + 1) = a + 3 := by rw [PK.wrap_in (by omega) (by omega)]; omega
      rw [if_pos (by omega), if_pos (by omega), Option.bind_some, Option.bind_some, w1, w2, w3, PK.w1 hi (by omega), Int.toNat_natCast]
      have hi' : i < s.length := by omega
      unfold rd_T69
      have g1 : ∀ v z, (s.set i v).getD ((i : Int)).toNat z = v := fun v z => PK.getD_set hi' v z
      simp only [g1, List.set_set]
      rfl)
    (fun k s a _ hs => by
      try dsimp only
      simp only [laws_markClueS.l0]
      rw [if_neg (by omega)])
    (k := k) (by omega) (s := l) rfl
  try dsimp only at h
  rw [h]; rfl

theorem heldPuzzle_eq (l : List S69) (hl : l.length ≤ 1048576) (hx : ∀ i (h : i < l.length), l[i] = mkC (1 + ((3 : Nat) : Int) * (i : Int))) (k : Nat) (hk : l.length < k) : laws_heldPuzzle.f k l 1 = some (1 + ((3 : Nat) : Int) * (l.length : Int)) := by
  unfold laws_heldPuzzle.f laws_heldClueS.f
  have h := PK.held_loop l 0 3 (fun k a i => laws_heldClueS.l0 k l a i) mkC 1 4000000 (by omega) (by omega) hx
    (fun k i hi a _ h0 hB hm => by
      try dsimp only
      simp only [laws_heldClueS.l0]
      have w1 : wrap64 (a + 1) = a + 1 := PK.wrap_in (by omega) (by omega)
      have w2 : wrap64 (a + 1 + 1) = a + 2 := by rw [PK.wrap_in (by omega) (by omega)]; omega
      have w3 : wrap64 (a + 2 + 1) = a + 3 := by rw [PK.wrap_in (by omega) (by omega)]; omega
      unfold rd_T69
      rw [PK.getD_at hi, hm, w1, w2, w3, PK.w1 hi (by omega)]
      rw [if_pos (by omega), if_pos (by omega), if_pos (show (mkC a).f0 = a from rfl), if_pos (show (mkC a).f1 = a + 1 from rfl), if_pos (show (mkC a).f2 = a + 2 from rfl)]
      rfl)
    (fun k a _ => by
      try dsimp only
      simp only [laws_heldClueS.l0]
      rw [if_neg (by omega)])
    (k := k) (by omega)
  try dsimp only at h
  rw [h, Option.bind_some, if_neg (by omega)]
theorem held_marked (n : Nat) (hn : n ≤ 1048576) (k : Nat) (hk : n < k) : laws_heldPuzzle.f k ((List.range n).map fun (i : Nat) => mkC (1 + ((3 : Nat) : Int) * (i : Int))) 1 = some (1 + ((3 : Nat) : Int) * (n : Int)) := by
  have h := heldPuzzle_eq ((List.range n).map fun (i : Nat) => mkC (1 + ((3 : Nat) : Int) * (i : Int))) (by simpa using hn) (fun i h => PK.marked_at h) k (by simpa using hk)
  simpa using h

def fallR : List Int → Bool
  | a :: b :: r => decide (b ≤ a) && fallR (b :: r)
  | _ => true
theorem fallR_drop {l : List Int} {i : Nat} (h1 : 1 ≤ i) (h : i < l.length) : fallR (l.drop (i - 1)) = (decide (l[i] ≤ l[i - 1]) && fallR (l.drop i)) := by
  rw [List.drop_eq_getElem_cons (show i - 1 < l.length by omega), show i - 1 + 1 = i by omega, List.drop_eq_getElem_cons h]
  rfl
theorem fallR_end {l : List Int} {i : Nat} (h : l.length ≤ i) : fallR (l.drop (i - 1)) = true := by
  have : (l.drop (i - 1)).length ≤ 1 := by rw [List.length_drop]; omega
  cases hq : l.drop (i - 1) with
  | nil => rfl
  | cons a r =>
    rw [hq] at this
    cases r with
    | nil => rfl
    | cons b r => simp at this
theorem fall_loop (l : List Int) (F : Nat → Int → Option Bool) (m : Nat) (fin : Option Bool)
    (hs : ∀ k i (h : i < l.length), 1 ≤ i → m ≤ k → F (k + 1) (i : Int) = if l[i] > l[i - 1] then some false else F k ((i + 1 : Nat) : Int))
    (he : ∀ k i, l.length ≤ i → m ≤ k → F (k + 1) (i : Int) = fin) : ∀ d k i, l.length ≤ i + d → d + m < k → 1 ≤ i → F k (i : Int) = if fallR (l.drop (i - 1)) = true then fin else some false := by
  intro d
  induction d with
  | zero =>
    intro k i hi hk h1
    obtain ⟨k, rfl⟩ : ∃ q, k = q + 1 := ⟨k - 1, by omega⟩
    rw [he k i (by omega) (by omega), fallR_end (by omega), if_pos rfl]
  | succ d ih =>
    intro k i hi hk h1
    obtain ⟨k, rfl⟩ : ∃ q, k = q + 1 := ⟨k - 1, by omega⟩
    by_cases h : i < l.length
    · rw [hs k i h h1 (by omega), fallR_drop h1 h]
      by_cases c : l[i] > l[i - 1]
      · rw [if_pos c, decide_eq_false (by omega), Bool.false_and, if_neg (by simp)]
      · rw [if_neg c, decide_eq_true (by omega), Bool.true_and, ih k (i + 1) (by omega) (by omega) (by omega), Nat.add_sub_cancel]
    · rw [he k i (by omega) (by omega), fallR_end (by omega), if_pos rfl]
def chB (l : List Int) : Bool := decide (1 ≤ l.length ∧ l.length ≤ 6) && (l.all fun n => decide (1 ≤ n) && decide (n ≤ 6)) && fallR l
theorem l1All_eq (l : List Int) (hl : l.length ≤ 4611686018427387904) (a b : Int) (k : Nat) (hk : l.length < k) : spec_l1All.f k l a b = some (l.all fun n => decide (a ≤ n) && decide (n ≤ b)) := by
  unfold spec_l1All.f
  exact PK.all_loop0 l (fun k i => spec_l1All.l0 k a b l (l.length : Int) i) 0 (fun n => decide (a ≤ n) && decide (n ≤ b))
    (fun k i hi _ => by
      try dsimp only
      simp only [spec_l1All.l0]
      rw [if_pos (by omega), if_pos (by omega), if_pos (by omega), PK.rd_at hi, l1In_eq, Option.bind_some, PK.w1 hi hl])
    (fun k _ => by
      try dsimp only
      simp only [spec_l1All.l0]
      rw [if_neg (by omega)])
    (by omega)
theorem cmGood_eq (l : List Int) (hl : l.length ≤ 1048576) (k : Nat) (hk : l.length + 2 < k) : spec_cmGood.f k l = some (chB l) := by
  obtain ⟨k, rfl⟩ : ∃ q, k = q + 1 := ⟨k - 1, by omega⟩
  unfold spec_cmGood.f chB
  rw [l1In_eq, Option.bind_some]
  by_cases c : 1 ≤ l.length ∧ l.length ≤ 6
  · have c' : (decide ((1 : Int) ≤ (l.length : Int)) && decide ((l.length : Int) ≤ 6)) = true := by simp; omega
    rw [c', if_pos rfl, l1All_eq l (by omega) 1 6 _ (by omega), Option.bind_some, decide_eq_true c, Bool.true_and]
    simp only [spec_cmGood.j0]
    cases hq : l.all fun n => decide ((1 : Int) ≤ n) && decide (n ≤ 6) with
    | false => rfl
    | true =>
      rw [Bool.not_true, if_neg (by simp), Bool.true_and]
      have h := fall_loop l (fun k i => spec_cmGood.l0 k l i) 0 (some true)
        (fun k i hi h1 _ => by
          try dsimp only
          have e1 : wrap64 ((i : Int) - 1) = ((i - 1 : Nat) : Int) := by rw [PK.wrap_in (by omega) (by omega)]; omega
          simp only [spec_cmGood.l0]
          rw [e1, if_pos (by omega), if_pos (by omega), if_pos (by omega), if_pos (by omega), PK.rd_at hi, PK.rd_at (show i - 1 < l.length by omega), PK.w1 hi (by omega)])
        (fun k i hi _ => by
          try dsimp only
          simp only [spec_cmGood.l0]
          rw [if_neg (by omega)]) l.length k 1 (by omega) (by omega) (by omega)
      have e1 : ((1 : Nat) : Int) = 1 := rfl
      rw [e1] at h
      try dsimp only at h
      rw [h, Nat.sub_self, List.drop_zero]
      cases fallR l <;> rfl
  · have c' : (decide ((1 : Int) ≤ (l.length : Int)) && decide ((l.length : Int) ≤ 6)) = false := by simp; omega
    rw [c', if_neg (by simp), decide_eq_false c]
    simp only [spec_cmGood.j0]
    rw [if_pos trivial]; rfl
theorem implChomp_eq (l : List Int) (hl : l.length ≤ 1048576) (k : Nat) (hk : l.length + 2 < k) : impl_IsChomp.f k l = some (chB l) := by
  have h := fall_loop l (fun k i => impl_IsChomp.l0 k l i) 0 ((impl_isSide.f (l.length : Int)).bind fun t => if t = true then (impl_areWithin.f l 1 6).bind fun t => some t else some false)
    (fun k i hi h1 _ => by
      try dsimp only
      have e1 : wrap64 ((i : Int) - 1) = ((i - 1 : Nat) : Int) := by rw [PK.wrap_in (by omega) (by omega)]; omega
      simp only [impl_IsChomp.l0]
      rw [e1, if_pos (by omega), if_pos (by omega), if_pos (by omega), if_pos (by omega), PK.rd_at hi, PK.rd_at (show i - 1 < l.length by omega), PK.w1 hi (by omega)])
    (fun k i hi _ => by
      try dsimp only
      simp only [impl_IsChomp.l0]
      rw [if_neg (by omega)]) l.length k 1 (by omega) (by omega) (by omega)
  have e1 : ((1 : Nat) : Int) = 1 := rfl
  rw [e1] at h
  try dsimp only at h
  unfold impl_IsChomp.f chB
  rw [h, Nat.sub_self, List.drop_zero]
  unfold impl_isSide.f impl_areWithin.f
  rw [within_eq, Option.bind_some, Option.bind_some, Option.bind_some]
  have c' : (decide ((1 : Int) ≤ (l.length : Int)) && decide ((l.length : Int) ≤ 6)) = decide (1 ≤ l.length ∧ l.length ≤ 6) := by
    rw [Bool.eq_iff_iff]; simp; omega
  rw [c']
  cases fallR l <;> cases decide (1 ≤ l.length ∧ l.length ≤ 6) <;> simp
def hidB (l : List Int) : Bool := chB l && decide (l.length ≤ 4) && decide (l.getD 0 0 ≤ 5)
theorem hid_tail (l : List Int) : (if chB l = true then (if (l.length : Int) ≤ 4 then (if 0 < (l.length : Int) then (some (decide ((rd l 0) ≤ 5))) else (none)) else (some false)) else (some false)) = some (hidB l) := by
  unfold hidB
  cases hc : chB l with
  | false => rfl
  | true =>
    have : 1 ≤ l.length := by
      unfold chB at hc
      simp only [Bool.and_eq_true, decide_eq_true_eq] at hc
      exact hc.1.1.1
    rw [if_pos rfl, Bool.true_and]
    by_cases c : l.length ≤ 4
    · rw [if_pos (by omega), if_pos (by omega), decide_eq_true c, Bool.true_and]; rfl
    · rw [if_neg (by omega), decide_eq_false c]; rfl
theorem implHidden_eq (l : List Int) (hl : l.length ≤ 1048576) (k : Nat) (hk : l.length + 2 < k) : impl_isHidden.f k l = some (hidB l) := by
  unfold impl_isHidden.f
  rw [implChomp_eq l hl k hk, Option.bind_some]
  exact hid_tail l
theorem specHidden_eq (l : List Int) (hl : l.length ≤ 1048576) (k : Nat) (hk : l.length + 2 < k) : spec_pzHidden.f k l = some (hidB l) := by
  unfold spec_pzHidden.f
  rw [cmGood_eq l hl k hk, Option.bind_some]
  exact hid_tail l
theorem fall_of {a : Int} {l : List Int} (h : fallR (a :: l) = true) (hp : ∀ x ∈ l, 1 ≤ x) : All.Fall a l := by
  induction l generalizing a with
  | nil => trivial
  | cons b l ih =>
    have h2 : (decide (b ≤ a) && fallR (b :: l)) = true := h
    simp only [Bool.and_eq_true, decide_eq_true_eq] at h2
    exact ⟨hp b (by simp), h2.1, ih h2.2 (fun x hx => hp x (List.mem_cons_of_mem _ hx))⟩
theorem hid_mem {l : List Int} (h : hidB l = true) : l ∈ All.all 5 4 := by
  unfold hidB chB at h
  simp only [Bool.and_eq_true, decide_eq_true_eq, List.all_eq_true] at h
  obtain ⟨⟨⟨⟨h1, h2⟩, h3⟩, h4⟩, h5⟩ := h
  cases l with
  | nil => simp at h1
  | cons a l =>
    refine All.mem_all.2 ⟨by simp, h4, (h2 a (by simp)).1, by simpa using h5, fall_of h3 (fun x hx => (h2 x (List.mem_cons_of_mem _ hx)).1)⟩

theorem heaps_eq : spec_pzHeaps.f = some (All.tab (All.all 5 4)) := by
  unfold spec_pzHeaps.f spec_cmHeaps.f
  rw [if_pos (by omega)]; rfl
theorem cmSum_eq {r : List Int} (hr : Chomp.Ok r) (k : Nat) (hk : 6 < k) : spec_cmSum.f k r = some r.sum := by
  have hb := Chomp.sum_le hr.2.2
  have h6 := hr.2.1
  have key : ∀ (d i k : Nat) (s : Int), i + d = r.length → d < k → s = (r.take i).sum → spec_cmSum.l0 k s r (r.length : Int) (i : Int) = some r.sum := by
    intro d
    induction d with
    | zero =>
      intro i k s hi hk hs
      obtain ⟨k, rfl⟩ : ∃ q, k = q + 1 := ⟨k - 1, by omega⟩
      obtain rfl : i = r.length := by omega
      simp only [spec_cmSum.l0]
      rw [if_neg (by omega), hs, List.take_length]
    | succ d ih =>
      intro i k s hi hk hs
      obtain ⟨k, rfl⟩ : ∃ q, k = q + 1 := ⟨k - 1, by omega⟩
      have hlt : i < r.length := by omega
      have ht : r.take (i + 1) = r.take i ++ [r[i]] := by rw [List.take_add_one, List.getElem?_eq_getElem hlt]; rfl
      have hs2 : (r.take (i + 1)).sum = s + r[i] := by rw [ht, List.sum_append, hs]; simp
      have hb2 := Chomp.sum_le (r := r.take (i + 1)) (fun x hx => hr.2.2 x (List.mem_of_mem_take hx))
      rw [List.length_take] at hb2
      have hrd : rd r (i : Int) = r[i] := PK.rd_at hlt
      simp only [spec_cmSum.l0]
      rw [if_pos (by omega), if_pos (by omega), if_pos (by omega), hrd, PK.w1 hlt (by omega), PK.wrap_in (by omega) (by omega)]
      exact ih (i + 1) k _ (by omega) (by omega) hs2.symm
  unfold spec_cmSum.f
  have := key r.length 0 k 0 (by omega) (by omega) (by simp)
  exact this
/-- A loop that counts. -/
theorem count_loop {α : Type} (xs : List α) (F : Nat → Int → Int → Option Int) (m : Nat) (p : α → Bool)
    (hs : ∀ k i (h : i < xs.length) (c : Int), m ≤ k → 0 ≤ c → c ≤ (i : Int) → F (k + 1) c (i : Int) = F k (if p xs[i] = true then c + 1 else c) ((i + 1 : Nat) : Int))
    (he : ∀ k c, m ≤ k → F (k + 1) c (xs.length : Int) = some c) : ∀ d k i (c : Int), i + d = xs.length → d + m < k → c = (((xs.take i).filter p).length : Int) → F k c (i : Int) = some ((xs.filter p).length : Int) := by
  intro d
  induction d with
  | zero =>
    intro k i c hi hk hc
    obtain ⟨k, rfl⟩ : ∃ q, k = q + 1 := ⟨k - 1, by omega⟩
    obtain rfl : i = xs.length := by omega
    rw [he k c (by omega), hc, List.take_length]
  | succ d ih =>
    intro k i c hi hk hc
    obtain ⟨k, rfl⟩ : ∃ q, k = q + 1 := ⟨k - 1, by omega⟩
    have hlt : i < xs.length := by omega
    have hle : ((xs.take i).filter p).length ≤ i := Nat.le_trans (List.length_filter_le _ _) (by rw [List.length_take]; omega)
    rw [hs k i hlt c (by omega) (by omega) (by omega)]
    refine ih k (i + 1) _ (by omega) (by omega) ?_
    rw [List.take_add_one, List.getElem?_eq_getElem hlt, List.filter_append, List.length_append]
    by_cases c1 : p xs[i] = true
    · rw [if_pos c1]; simp [c1, hc]
    · rw [if_neg c1]; simp [c1, hc]
theorem pzValue_eq {r : List Int} (hm : r ∈ All.all 5 4) (kind a : Int) (ha : 0 ≤ a) (k : Nat) (hk : 1000 < k) : spec_pzValue.f k kind a r (All.tab (All.all 5 4)) = some (Chomp.told kind a r) := by
  have hr := All.ok_all hm (by decide) (by decide)
  have hkey := All.key_lt hr
  have ht := All.tab_all (by decide) (by decide) hm
  have hl := All.tab_len (All.all 5 4)
  have hH := Chomp.H_le hr
  have h6 := hr.2.1
  have hrd : rd (All.tab (All.all 5 4)) (All.key r) = (Chomp.H r : Int) + 1 := ht
  unfold spec_pzValue.f Chomp.told
  by_cases c0 : kind = 0
  · rw [if_pos c0, if_pos c0, cmSum_eq hr k (by omega)]; rfl
  rw [if_neg c0, if_neg c0]
  by_cases c1 : kind = 1
  · rw [if_pos c1, if_pos c1]
    by_cases c : a < (r.length : Int)
    · rw [if_pos c, if_pos c, if_pos ha]; rfl
    · rw [if_neg c, if_neg c]
  rw [if_neg c1, if_neg c1]
  by_cases c2 : kind = 2
  · rw [if_pos c2, if_pos c2, spec_cmHeaps.keyF hr k (by omega), Option.bind_some, if_pos hkey.1, if_pos (by rw [hl]; exact hkey.2), hrd]
    by_cases c : 0 < Chomp.H r
    · rw [if_pos (by omega), if_pos c]
    · rw [if_neg (by omega), if_neg c]
  rw [if_neg c2, if_neg c2]
  by_cases c3 : kind = 3
  · rw [if_pos c3, if_pos c3, spec_cmHeaps.keyF hr k (by omega), Option.bind_some, if_pos hkey.1, if_pos (by rw [hl]; exact hkey.2), hrd, PK.wrap_in (by omega) (by omega), Int.add_sub_cancel]
  rw [if_neg c3, if_neg c3]
  by_cases c4 : kind = 4
  · rw [if_pos c4, if_pos c4]
    have h := count_loop r (fun k c i => spec_pzValue.l0 k a c r (r.length : Int) i) 0 (fun n => !(decide (n ≤ a)))
      (fun k i hi c _ h0 h1 => by
        try dsimp only
        simp only [spec_pzValue.l0]
        rw [if_pos (by omega), if_pos (by omega), if_pos (by omega), PK.rd_at hi, PK.w1 hi (by omega)]
        by_cases q : r[i] > a
        · rw [if_pos q, PK.wrap_in (by omega) (by omega), if_pos (by simp; omega)]
        · rw [if_neg q, if_neg (by simp; omega)])
      (fun k c _ => by
        try dsimp only
        simp only [spec_pzValue.l0]
        rw [if_neg (by omega)]) r.length k 0 0 (by omega) (by omega) (by simp)
    exact h
  rw [if_neg c4, if_neg c4, spec_cmHeaps.movesF hr k (by omega), Option.bind_some]
  have hml := Chomp.moves_len hr
  have h := count_loop (Chomp.moves r) (fun k c i => spec_pzValue.l1 k r (All.tab (All.all 5 4)) c (Chomp.moves r) ((Chomp.moves r).length : Int) i) 10 (Chomp.isGood r)
    (fun k i hi c hk h0 h1 => by
      try dsimp only
      have hmem : (Chomp.moves r)[i] ∈ Chomp.moves r := List.getElem_mem hi
      have hb := (All.bit_all hm hmem).1
      have hbt := All.tab_all (by decide) (by decide) hb
      have hbo := All.ok_all hb (by decide) (by decide)
      have hbk := All.key_lt hbo
      obtain ⟨x, y, hxy, hy, hx, hp⟩ := Chomp.moves_mem hmem
      have hg : rd_L2 (Chomp.moves r) (i : Int) = [(x : Int), (y : Int)] := by
        rw [← hxy]
        unfold rd_L2
        exact PK.getD_at hi _
      rw [hxy] at hbt hbo hbk ⊢
      have e0 : rd [(x : Int), (y : Int)] 0 = x := rfl
      have e1 : rd [(x : Int), (y : Int)] 1 = y := rfl
      have e2 : Chomp.bit r (([(x : Int), (y : Int)] : List Int).getD 0 0) (([(x : Int), (y : Int)] : List Int).getD 1 0).toNat = Chomp.bit r (x : Int) y := rfl
      rw [e2] at hbt hbo hbk
      have hrd2 : rd (All.tab (All.all 5 4)) (All.key (Chomp.bit r (x : Int) y)) = (Chomp.H (Chomp.bit r (x : Int) y) : Int) + 1 := hbt
      have hgd : Chomp.isGood r [(x : Int), (y : Int)] = !(decide (0 < Chomp.H (Chomp.bit r (x : Int) y))) := rfl
      simp only [spec_pzValue.l1]
      rw [if_pos (by omega), if_pos (by omega), if_pos (by omega), hg, if_pos (by simp), if_pos (by simp), e0, e1, spec_cmHeaps.biteF hr (by omega) y k (by omega), Option.bind_some, spec_cmHeaps.keyF hbo k (by omega), Option.bind_some, if_pos hbk.1, if_pos (by rw [hl]; exact hbk.2), hrd2, PK.w1 hi (by omega), hgd]
      by_cases q : 0 < Chomp.H (Chomp.bit r (x : Int) y)
      · rw [if_neg (by omega), if_neg (by simp [q])]
      · rw [if_pos (by omega), PK.wrap_in (by omega) (by omega), if_pos (by simp; omega)])
    (fun k c _ => by
      try dsimp only
      simp only [spec_pzValue.l1]
      rw [if_neg (by omega)]) (Chomp.moves r).length k 0 0 (by omega) (by omega) (by simp)
  exact h

abbrev nx := impl_MakePuzzle.nx
abbrev zs := impl_MakePuzzle.zs
abbrev arg := impl_MakePuzzle.arg
abbrev make := impl_MakePuzzle.make
theorem pzNext_eq (z : Int) : spec_pzNext.f z = some (nx z) := by
  unfold spec_pzNext.f nx impl_MakePuzzle.nx
  rw [Int.mul_comm 283 z]
theorem pzOf_eq {r : List Int} (hm : r ∈ All.all 5 4) (kd y : Int) (hy : 0 ≤ y) (k : Nat) (hk : 1000 < k) : spec_pzOf.f k kd y r (All.tab (All.all 5 4)) = some (kd, arg kd y, Chomp.told kd (arg kd y) r) := by
  have ha := impl_MakePuzzle.arg_in (kind := kd) hy
  have hA : arg kd y = if kd = 1 then Int.tmod y 4 else if kd = 4 then Int.tmod y 5 else 0 := rfl
  have ha' : 0 ≤ arg kd y := ha
  clear ha
  generalize arg kd y = A at hA ha'
  unfold spec_pzOf.f
  by_cases c1 : kd = 1
  · rw [if_pos c1] at hA
    subst hA
    rw [if_pos c1, pzValue_eq hm kd _ ha' k hk]; rfl
  · rw [if_neg c1] at hA
    rw [if_neg c1]
    by_cases c4 : kd = 4
    · rw [if_pos c4] at hA
      subst hA
      rw [if_pos c4, pzValue_eq hm kd _ ha' k hk]; rfl
    · rw [if_neg c4] at hA
      subst hA
      rw [if_neg c4, pzValue_eq hm kd _ ha' k hk]; rfl
theorem spec_make {r : List Int} (hm : r ∈ All.all 5 4) {a : Int} (h0 : 0 ≤ a) (h1 : a ≤ 10006) : ∀ (d k i : Nat), d + 1001 < k → i + d ≤ 6 → spec_MakePuzzle.l0 k r (d : Int) (All.tab (All.all 5 4)) (zs a i) (make r a i) = some (make r a (i + d), true) := by
  intro d
  induction d with
  | zero =>
    intro k i hk hi
    obtain ⟨k, rfl⟩ : ∃ q, k = q + 1 := ⟨k - 1, by omega⟩
    simp only [spec_MakePuzzle.l0]
    rw [if_neg (by omega), Nat.add_zero]
  | succ d ih =>
    intro k i hk hi
    obtain ⟨k, rfl⟩ : ∃ q, k = q + 1 := ⟨k - 1, by omega⟩
    have hz := impl_MakePuzzle.zs_in h0 h1 i
    have hn1 := impl_MakePuzzle.nx_in hz.1 hz.2
    have hn2 := impl_MakePuzzle.nx_in hn1.2.1 hn1.2.2
    have hw : wrap64 (((d + 1 : Nat) : Int) - 1) = (d : Int) := by rw [PK.wrap_in (by omega) (by omega)]; omega
    have hl : (make r a i).length = i := impl_MakePuzzle.make_len r a i
    have ih' := ih k (i + 1) (by omega) (by omega)
    have e1 : zs a (i + 1) = nx (nx (zs a i)) := rfl
    have e2 : make r a (i + 1) = make r a i ++ [(⟨Int.tmod (nx (zs a i)) 6, arg (Int.tmod (nx (zs a i)) 6) (nx (nx (zs a i))), Chomp.told (Int.tmod (nx (zs a i)) 6) (arg (Int.tmod (nx (zs a i)) 6) (nx (nx (zs a i)))) r⟩ : S69)] := impl_MakePuzzle.make_succ r a i
    have e3 : i + 1 + d = i + (d + 1) := by omega
    rw [e1, e2, e3] at ih'
    simp only [spec_MakePuzzle.l0]
    rw [if_pos (by omega), pzNext_eq, Option.bind_some, pzNext_eq, Option.bind_some, pzOf_eq hm _ _ hn2.2.1 k (by omega), Option.bind_some, if_pos (by omega), hw]
    exact ih'
def madeR (l : List Int) (a b : Int) : List S69 × Bool := if hidB l = true ∧ (0 ≤ a ∧ a ≤ 6) ∧ 0 ≤ b ∧ b ≤ 9999 then (make l b a.toNat, true) else ([], false)
theorem FnExactMakePuzzle : laws_FnExactMakePuzzle.Pure2 := by
  intro l a b _ _ _
  refine ⟨l.length + 3000, ?_⟩
  unfold laws_FnExactMakePuzzle.f
  by_cases hL : (l.length : Int) > 1048576
  · rw [if_pos hL]
  rw [if_neg hL]
  have hn : l.length ≤ 1048576 := by omega
  have hp : ∀ j, l.length < j → laws_toIntS.f j l = some l := fun j hj => toIntS_eq l hn j hj
  have hs : ∀ j, l.length + 2000 < j → spec_MakePuzzle.f j l a b = some (madeR l a b) := fun j hj => by
    obtain ⟨j, rfl⟩ : ∃ q, j = q + 1 := ⟨j - 1, by omega⟩
    unfold spec_MakePuzzle.f madeR
    rw [specHidden_eq l hn _ (by omega), Option.bind_some, l1In_eq, Option.bind_some, l1In_eq, Option.bind_some]
    simp only [spec_MakePuzzle.j0]
    cases hH : hidB l with
    | false => rw [if_neg (by simp), if_pos trivial, if_neg (by simp)]
    | true =>
      rw [if_pos rfl]
      by_cases ca : 0 ≤ a ∧ a ≤ 6
      · rw [if_pos (by simp; omega)]
        by_cases cb : 0 ≤ b ∧ b ≤ 9999
        · obtain ⟨m, rfl⟩ : ∃ m : Nat, a = (m : Int) := ⟨a.toNat, by omega⟩
          rw [if_neg (by simp; omega), if_pos ⟨rfl, ca, cb⟩, heaps_eq, Option.bind_some, Int.toNat_natCast]
          have := spec_make (hid_mem hH) (a := b) (by omega) (by omega) m j 0 (by omega) (by omega)
          rw [Nat.zero_add] at this
          exact this
        · rw [if_pos (by simp; omega), if_neg (fun h => cb h.2.2)]
      · rw [if_neg (by simp; omega), if_pos trivial, if_neg (fun h => ca h.2.1)]
  have hi : ∀ j, l.length + 2000 < j → impl_MakePuzzle.f j l a b = some (madeR l a b) := fun j hj => by
    unfold impl_MakePuzzle.f madeR
    rw [implHidden_eq l hn _ (by omega), Option.bind_some, within_eq, Option.bind_some, within_eq, Option.bind_some]
    cases hH : hidB l with
    | false => rw [if_neg (by simp), if_neg (by simp)]
    | true =>
      rw [if_pos rfl]
      by_cases ca : 0 ≤ a ∧ a ≤ 6
      · rw [if_pos (by simp; omega)]
        by_cases cb : 0 ≤ b ∧ b ≤ 9999
        · rw [if_pos (by simp; omega), if_pos ⟨Chomp.okB_iff.2 (All.ok_all (hid_mem hH) (by decide) (by decide)), ca.1, ca.2, cb.1, cb.2⟩, if_pos ⟨rfl, ca, cb⟩]
        · rw [if_neg (by simp; omega), if_neg (fun h => cb h.2.2)]
      · rw [if_neg (by simp; omega), if_neg (fun h => ca h.2.1)]
  have hr : (madeR l a b).1.length ≤ 6 := by
    unfold madeR
    split
    · rename_i h
      show (make l b a.toNat).length ≤ 6
      rw [impl_MakePuzzle.make_len]
      omega
    · simp
  generalize madeR l a b = r at hs hi hr
  have he : ∀ j, 8 < j → laws_eqPuzzle.f j r.1 r.1 = some true := fun j hj => eqPuzzle_refl _ (by omega) j (by omega)
  have hL2 : ∀ j, l.length < j → laws_eqIntS.f j l l = some true := fun j hj => eqIntS_refl _ hn j (by omega)
  have hk1 := markIntS_eq l hn
  have hk2 := markPuzzle_eq r.1 (by omega)
  have hh := held_marked r.1.length (by omega)
  rw [hp _ (by omega), Option.bind_some, hs _ (by omega), Option.bind_some, Option.bind_some, hi _ (by omega), Option.bind_some, he _ (by omega), Option.bind_some, if_pos rfl]
  simp only [laws_FnExactMakePuzzle.j0]
  rw [if_neg (by simp), hp _ (by omega), Option.bind_some, hL2 _ (by omega), Option.bind_some, if_pos rfl, hk1 _ (by omega), Option.bind_some, if_neg (by omega), he _ (by omega), Option.bind_some, if_pos rfl]
  simp only [laws_FnExactMakePuzzle.j1]
  rw [if_neg (by simp), hk2 _ (by omega), Option.bind_some, hh _ (by omega), Option.bind_some, if_neg (by omega), if_pos rfl]
  rw [hp _ (by omega), Option.bind_some, hi _ (by omega), Option.bind_some, he _ (by omega), Option.bind_some, if_pos rfl]
  simp only [laws_FnExactMakePuzzle.j2]
  rw [if_neg (by simp), hh _ (by omega), Option.bind_some, if_neg (by omega), if_pos rfl]
end Go.Proofs.YtdikeggkfkkajaaDoor.Pure
