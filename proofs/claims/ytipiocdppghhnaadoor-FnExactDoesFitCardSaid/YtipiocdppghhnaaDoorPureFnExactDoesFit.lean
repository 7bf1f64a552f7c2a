/- DoesFit answers as the reference does, at every clue and every list of numbers: whether the clue tells what the hidden chomp has; and it leaves the list as it was. Conditions: none. -/
import Derived.Test.YtipiocdppghhnaaDoorStFnExactDoesFit
import Derived.Test.YtipiocdppghhnaaDoorPK
namespace Go.Proofs.YtipiocdppghhnaaDoor.Pure
open Go.RowKit Go.Proofs.YtipiocdppghhnaaDoor.PFnExactDoesFit Go.Proofs.YtipiocdppghhnaaDoorW.PrintWords Go.Proofs.YtipiocdppghhnaaDoorW.PrintLast Go.Proofs.YtipiocdppghhnaaDoorW.PrintMore
set_option linter.unusedVariables false
set_option linter.unusedSimpArgs false

theorem some_iff {x y : Bool} (h : x = true ↔ y = true) : some x = some y := by rw [Bool.eq_iff_iff.2 h]
theorem l1In_eq (a b c : Int) : spec_l1In.f a b c = some (decide (b ≤ a) && decide (a ≤ c)) := by
  unfold spec_l1In.f
  by_cases h : b ≤ a
  · rw [if_pos h]; simp [h]
  · rw [if_neg h]; simp [h]
theorem within_eq (a b c : Int) : impl_within.f a b c = some (decide (b ≤ a) && decide (a ≤ c)) := by
  unfold impl_within.f
  by_cases h : b ≤ a
  · rw [if_pos h]; simp [h]
  · rw [if_neg h]; simp [h]
def clueB (a b c : Int) : Bool := decide (0 ≤ a ∧ a ≤ 5 ∧ 0 ≤ b ∧ 0 ≤ c ∧ c ≤ 20 ∧ (a = 1 → b ≤ 3) ∧ (a = 4 → b ≤ 4) ∧ (a ≠ 1 → a ≠ 4 → b ≤ 0) ∧ (a = 2 → c ≤ 1))
theorem specClue_eq (a b c : Int) (k : Nat) (hk : 0 < k) : spec_pzClue.f k a b c = some (clueB a b c) := by
  obtain ⟨k, rfl⟩ : ∃ q, k = q + 1 := ⟨k - 1, by omega⟩
  unfold spec_pzClue.f clueB
  simp only [l1In_eq, Option.bind_some, spec_pzClue.j0]
  by_cases h0 : 0 ≤ c ∧ c ≤ 20
  · rw [if_pos (by simp [h0])]
    by_cases a0 : a = 0
    · subst a0; simp only [if_true, beq_self_eq_true]; apply some_iff; simp; omega
    by_cases a3 : a = 3
    · subst a3; simp only [show ¬ (3 : Int) = 0 by decide, if_true, if_false, beq_self_eq_true]; apply some_iff; simp; omega
    have e5 : (a == 5) = decide (a = 5) := rfl
    rw [if_neg a0, if_neg a3]
    by_cases a5 : a = 5
    · subst a5; simp only [if_true, beq_self_eq_true]; apply some_iff; simp; omega
    rw [if_neg (by simpa using a5)]
    by_cases a1 : a = 1
    · subst a1; rw [if_pos rfl]; apply some_iff; simp; omega
    rw [if_neg a1]
    by_cases a2 : a = 2
    · subst a2; rw [if_pos rfl]
      by_cases b0 : b = 0
      · subst b0; rw [if_pos rfl]; apply some_iff; simp; omega
      · rw [if_neg b0]; apply some_iff; simp; omega
    rw [if_neg a2]
    by_cases a4 : a = 4
    · subst a4; rw [if_pos rfl]; apply some_iff; simp; omega
    rw [if_neg a4]; apply some_iff; simp; omega
  · rw [if_neg (by simp; omega)]; apply some_iff; simp; omega
theorem implClue_eq (a b c : Int) : impl_IsClue.f a b c = some (clueB a b c) := by
  unfold impl_IsClue.f clueB
  simp only [within_eq, Option.bind_some]
  by_cases h0 : 0 ≤ a ∧ a ≤ 5
  · rw [if_pos (by simp [h0])]
    by_cases a1 : a = 1
    · subst a1; rw [if_pos rfl]; split <;> (apply some_iff; simp_all; try omega)
    by_cases a2 : a = 2
    · subst a2; rw [if_neg (by omega), if_pos rfl]; split <;> (apply some_iff; simp_all; try omega)
    by_cases a4 : a = 4
    · subst a4; rw [if_neg (by omega), if_neg (by omega), if_pos rfl]; split <;> (apply some_iff; simp_all; try omega)
    rw [if_neg a1, if_neg a2, if_neg a4]; split <;> (apply some_iff; simp_all; try omega)
  · rw [if_neg (by simp; omega)]; apply some_iff; simp; omega

theorem toIntS_eq (l : List Int) (hl : l.length ≤ 1048576) (k : Nat) (hk : l.length < k) : laws_toIntS.f k l = some l := by
  unfold laws_toIntS.f
  rw [if_pos (by omega), if_pos (by omega), Int.toNat_natCast]
  have h := PK.fill_loop (ρ := List Int) l.length 0 (fun k s i => laws_toIntS.l0 k l s i) (fun i => l.getD i 0) (fun s => some s)
    (fun k i s _ hs hi => by
      try dsimp only
      simp only [laws_toIntS.l0]
      rw [if_pos (by omega), if_pos (by omega), if_pos (by omega), PK.w1 hi (by omega), Int.toNat_natCast]
      rfl)
    (fun k s _ hs => by
      try dsimp only
      simp only [laws_toIntS.l0]
      rw [if_neg (by omega)])
    (k := k) (by omega) (s := List.replicate l.length 0) (by simp)
  try dsimp only at h
  rw [h]
  have := PK.map_range l 0 (fun x => x)
  simpa using this

theorem eqIntS_refl (l : List Int) (hl : l.length ≤ 1048576) (k : Nat) (hk : l.length < k) : laws_eqIntS.f k l l = some true := by
  unfold laws_eqIntS.f
  rw [if_pos rfl]
  have h := PK.all_loop0 l (fun k i => laws_eqIntS.l0 k l l i) 0 (fun _ => true)
    (fun k i hi _ => by
      try dsimp only
      simp only [laws_eqIntS.l0]
      rw [if_pos (by omega), if_pos (by omega), if_pos (by omega), PK.w1 hi (by omega)])
    (fun k _ => by
      try dsimp only
      simp only [laws_eqIntS.l0]
      rw [if_neg (by omega)])
    (k := k) (by omega)
  try dsimp only at h
  rw [h]; simp

def fallR : List Int → Bool
  | a :: b :: r => decide (b ≤ a) && fallR (b :: r)
  | _ => true
theorem fallR_drop {l : List Int} {i : Nat} (h1 : 1 ≤ i) (h : i < l.length) : fallR (l.drop (i - 1)) = (decide (l[i] ≤ l[i - 1]) && fallR (l.drop i)) := by
  rw [List.drop_eq_getElem_cons (show i - 1 < l.length by omega), show i - 1 + 1 = i by omega, List.drop_eq_getElem_cons h]
  rfl
theorem fallR_end {l : List Int} {i : Nat} (h : l.length ≤ i) : fallR (l.drop (i - 1)) = true := by
  have : (l.drop (i - 1)).length ≤ 1 := by rw [List.length_drop]; omega
  cases hq : l.drop (i - 1) with
  | nil => rfl
  | cons a r =>
    rw [hq] at this
    cases r with
    | nil => rfl
    | cons b r => simp at this
theorem fall_loop (l : List Int) (F : Nat → Int → Option Bool) (m : Nat) (fin : Option Bool)
    (hs : ∀ k i (h : i < l.length), 1 ≤ i → m ≤ k → F (k + 1) (i : Int) = if l[i] > l[i - 1] then some false else F k ((i + 1 : Nat) : Int))
    (he : ∀ k i, l.length ≤ i → m ≤ k → F (k + 1) (i : Int) = fin) : ∀ d k i, l.length ≤ i + d → d + m < k → 1 ≤ i → F k (i : Int) = if fallR (l.drop (i - 1)) = true then fin else some false := by
  intro d
  induction d with
  | zero =>
    intro k i hi hk h1
    obtain ⟨k, rfl⟩ : ∃ q, k = q + 1 := ⟨k - 1, by omega⟩
    rw [he k i (by omega) (by omega), fallR_end (by omega), if_pos rfl]
  | succ d ih =>
    intro k i hi hk h1
    obtain ⟨k, rfl⟩ : ∃ q, k = q + 1 := ⟨k - 1, by omega⟩
    by_cases h : i < l.length
    · rw [hs k i h h1 (by omega), fallR_drop h1 h]
      by_cases c : l[i] > l[i - 1]
      · rw [if_pos c, decide_eq_false (by omega), Bool.false_and, if_neg (by simp)]
      · rw [if_neg c, decide_eq_true (by omega), Bool.true_and, ih k (i + 1) (by omega) (by omega) (by omega), Nat.add_sub_cancel]
    · rw [he k i (by omega) (by omega), fallR_end (by omega), if_pos rfl]
def chB (l : List Int) : Bool := decide (1 ≤ l.length ∧ l.length ≤ 6) && (l.all fun n => decide (1 ≤ n) && decide (n ≤ 6)) && fallR l
theorem l1All_eq (l : List Int) (hl : l.length ≤ 4611686018427387904) (a b : Int) (k : Nat) (hk : l.length < k) : spec_l1All.f k l a b = some (l.all fun n => decide (a ≤ n) && decide (n ≤ b)) := by
  unfold spec_l1All.f
  exact PK.all_loop0 l (fun k i => spec_l1All.l0 k a b l (l.length : Int) i) 0 (fun n => decide (a ≤ n) && decide (n ≤ b))
    (fun k i hi _ => by
      try dsimp only
      simp only [spec_l1All.l0]
      rw [if_pos (by omega), if_pos (by omega), if_pos (by omega), PK.rd_at hi, l1In_eq, Option.bind_some, PK.w1 hi hl])
    (fun k _ => by
      try dsimp only
      simp only [spec_l1All.l0]
      rw [if_neg (by omega)])
    (by omega)
theorem cmGood_eq (l : List Int) (hl : l.length ≤ 1048576) (k : Nat) (hk : l.length + 2 < k) : spec_cmGood.f k l = some (chB l) := by
  obtain ⟨k, rfl⟩ : ∃ q, k = q + 1 := ⟨k - 1, by omega⟩
  unfold spec_cmGood.f chB
  rw [l1In_eq, Option.bind_some]
  by_cases c : 1 ≤ l.length ∧ l.length ≤ 6
  · have c' : (decide ((1 : Int) ≤ (l.length : Int)) && decide ((l.length : Int) ≤ 6)) = true := by simp; omega
    rw [c', if_pos rfl, l1All_eq l (by omega) 1 6 _ (by omega), Option.bind_some, decide_eq_true c, Bool.true_and]
    simp only [spec_cmGood.j0]
    cases hq : l.all fun n => decide ((1 : Int) ≤ n) && decide (n ≤ 6) with
    | false => rfl
    | true =>
      rw [Bool.not_true, if_neg (by simp), Bool.true_and]
      have h := fall_loop l (fun k i => spec_cmGood.l0 k l i) 0 (some true)
        (fun k i hi h1 _ => by
          try dsimp only
          have e1 : wrap64 ((i : Int) - 1) = ((i - 1 : Nat) : Int) := by rw [PK.wrap_in (by omega) (by omega)]; omega
          simp only [spec_cmGood.l0]
          rw [e1, if_pos (by omega), if_pos (by omega), if_pos (by omega), if_pos (by omega), PK.rd_at hi, PK.rd_at (show i - 1 < l.length by omega), PK.w1 hi (by omega)])
        (fun k i hi _ => by
          try dsimp only
          simp only [spec_cmGood.l0]
          rw [if_neg (by omega)]) l.length k 1 (by omega) (by omega) (by omega)
      have e1 : ((1 : Nat) : Int) = 1 := rfl
      rw [e1] at h
      try dsimp only at h
      rw [h, Nat.sub_self, List.drop_zero]
      cases fallR l <;> rfl
  · have c' : (decide ((1 : Int) ≤ (l.length : Int)) && decide ((l.length : Int) ≤ 6)) = false := by simp; omega
    rw [c', if_neg (by simp), decide_eq_false c]
    simp only [spec_cmGood.j0]
    rw [if_pos trivial]; rfl
theorem implChomp_eq (l : List Int) (hl : l.length ≤ 1048576) (k : Nat) (hk : l.length + 2 < k) : impl_IsChomp.f k l = some (chB l) := by
  have h := fall_loop l (fun k i => impl_IsChomp.l0 k l i) 0 ((impl_isSide.f (l.length : Int)).bind fun t => if t = true then (impl_areWithin.f l 1 6).bind fun t => some t else some false)
    (fun k i hi h1 _ => by
      try dsimp only
      have e1 : wrap64 ((i : Int) - 1) = ((i - 1 : Nat) : Int) := by rw [PK.wrap_in (by omega) (by omega)]; omega
      simp only [impl_IsChomp.l0]
      rw [e1, if_pos (by omega), if_pos (by omega), if_pos (by omega), if_pos (by omega), PK.rd_at hi, PK.rd_at (show i - 1 < l.length by omega), PK.w1 hi (by omega)])
    (fun k i hi _ => by
      try dsimp only
      simp only [impl_IsChomp.l0]
      rw [if_neg (by omega)]) l.length k 1 (by omega) (by omega) (by omega)
  have e1 : ((1 : Nat) : Int) = 1 := rfl
  rw [e1] at h
  try dsimp only at h
  unfold impl_IsChomp.f chB
  rw [h, Nat.sub_self, List.drop_zero]
  unfold impl_isSide.f impl_areWithin.f
  rw [within_eq, Option.bind_some, Option.bind_some, Option.bind_some]
  have c' : (decide ((1 : Int) ≤ (l.length : Int)) && decide ((l.length : Int) ≤ 6)) = decide (1 ≤ l.length ∧ l.length ≤ 6) := by
    rw [Bool.eq_iff_iff]; simp; omega
  rw [c']
  cases fallR l <;> cases decide (1 ≤ l.length ∧ l.length ≤ 6) <;> simp
def hidB (l : List Int) : Bool := chB l && decide (l.length ≤ 4) && decide (l.getD 0 0 ≤ 5)
theorem hid_tail (l : List Int) : (if chB l = true then (if (l.length : Int) ≤ 4 then (if 0 < (l.length : Int) then (some (decide ((rd l 0) ≤ 5))) else (none)) else (some false)) else (some false)) = some (hidB l) := by
  unfold hidB
  cases hc : chB l with
  | false => rfl
  | true =>
    have : 1 ≤ l.length := by
      unfold chB at hc
      simp only [Bool.and_eq_true, decide_eq_true_eq] at hc
      exact hc.1.1.1
    rw [if_pos rfl, Bool.true_and]
    by_cases c : l.length ≤ 4
    · rw [if_pos (by omega), if_pos (by omega), decide_eq_true c, Bool.true_and]; rfl
    · rw [if_neg (by omega), decide_eq_false c]; rfl
theorem implHidden_eq (l : List Int) (hl : l.length ≤ 1048576) (k : Nat) (hk : l.length + 2 < k) : impl_isHidden.f k l = some (hidB l) := by
  unfold impl_isHidden.f
  rw [implChomp_eq l hl k hk, Option.bind_some]
  exact hid_tail l
theorem specHidden_eq (l : List Int) (hl : l.length ≤ 1048576) (k : Nat) (hk : l.length + 2 < k) : spec_pzHidden.f k l = some (hidB l) := by
  unfold spec_pzHidden.f
  rw [cmGood_eq l hl k hk, Option.bind_some]
  exact hid_tail l
theorem fall_of {a : Int} {l : List Int} (h : fallR (a :: l) = true) (hp : ∀ x ∈ l, 1 ≤ x) : All.Fall a l := by
  induction l generalizing a with
  | nil => trivial
  | cons b l ih =>
    have h2 : (decide (b ≤ a) && fallR (b :: l)) = true := h
    simp only [Bool.and_eq_true, decide_eq_true_eq] at h2
    exact ⟨hp b (by simp), h2.1, ih h2.2 (fun x hx => hp x (List.mem_cons_of_mem _ hx))⟩
theorem hid_mem {l : List Int} (h : hidB l = true) : l ∈ All.all 5 4 := by
  unfold hidB chB at h
  simp only [Bool.and_eq_true, decide_eq_true_eq, List.all_eq_true] at h
  obtain ⟨⟨⟨⟨h1, h2⟩, h3⟩, h4⟩, h5⟩ := h
  cases l with
  | nil => simp at h1
  | cons a l =>
    refine All.mem_all.2 ⟨by simp, h4, (h2 a (by simp)).1, by simpa using h5, fall_of h3 (fun x hx => (h2 x (List.mem_cons_of_mem _ hx)).1)⟩

theorem heaps_eq : spec_pzHeaps.f = some (All.tab (All.all 5 4)) := by
  unfold spec_pzHeaps.f spec_cmHeaps.f
  rw [if_pos (by omega)]; rfl
theorem cmSum_eq {r : List Int} (hr : Chomp.Ok r) (k : Nat) (hk : 6 < k) : spec_cmSum.f k r = some r.sum := by
  have hb := Chomp.sum_le hr.2.2
  have h6 := hr.2.1
  have key : ∀ (d i k : Nat) (s : Int), i + d = r.length → d < k → s = (r.take i).sum → spec_cmSum.l0 k s r (r.length : Int) (i : Int) = some r.sum := by
    intro d
    induction d with
    | zero =>
      intro i k s hi hk hs
      obtain ⟨k, rfl⟩ : ∃ q, k = q + 1 := ⟨k - 1, by omega⟩
      obtain rfl : i = r.length := by omega
      simp only [spec_cmSum.l0]
      rw [if_neg (by omega), hs, List.take_length]
    | succ d ih =>
      intro i k s hi hk hs
      obtain ⟨k, rfl⟩ : ∃ q, k = q + 1 := ⟨k - 1, by omega⟩
      have hlt : i < r.length := by omega
      have ht : r.take (i + 1) = r.take i ++ [r[i]] := by rw [List.take_add_one, List.getElem?_eq_getElem hlt]; rfl
      have hs2 : (r.take (i + 1)).sum = s + r[i] := by rw [ht, List.sum_append, hs]; simp
      have hb2 := Chomp.sum_le (r := r.take (i + 1)) (fun x hx => hr.2.2 x (List.mem_of_mem_take hx))
      rw [List.length_take] at hb2
      have hrd : rd r (i : Int) = r[i] := PK.rd_at hlt
      simp only [spec_cmSum.l0]
      rw [if_pos (by omega), if_pos (by omega), if_pos (by omega), hrd, PK.w1 hlt (by omega), PK.wrap_in (by omega) (by omega)]
      exact ih (i + 1) k _ (by omega) (by omega) hs2.symm
  unfold spec_cmSum.f
  have := key r.length 0 k 0 (by omega) (by omega) (by simp)
  exact this
/-- A loop that counts. -/
theorem count_loop {α : Type} (xs : List α) (F : Nat → Int → Int → Option Int) (m : Nat) (p : α → Bool)
    (hs : ∀ k i (h : i < xs.length) (c : Int), m ≤ k → 0 ≤ c → c ≤ (i : Int) → F (k + 1) c (i : Int) = F k (if p xs[i] = true then c + 1 else c) ((i + 1 : Nat) : Int))
    (he : ∀ k c, m ≤ k → F (k + 1) c (xs.length : Int) = some c) : ∀ d k i (c : Int), i + d = xs.length → d + m < k → c = (((xs.take i).filter p).length : Int) → F k c (i : Int) = some ((xs.filter p).length : Int) := by
  intro d
  induction d with
  | zero =>
    intro k i c hi hk hc
    obtain ⟨k, rfl⟩ : ∃ q, k = q + 1 := ⟨k - 1, by omega⟩
    obtain rfl : i = xs.length := by omega
    rw [he k c (by omega), hc, List.take_length]
  | succ d ih =>
    intro k i c hi hk hc
    obtain ⟨k, rfl⟩ : ∃ q, k = q + 1 := ⟨k - 1, by omega⟩
    have hlt : i < xs.length := by omega
    have hle : ((xs.take i).filter p).length ≤ i := Nat.le_trans (List.length_filter_le _ _) (by rw [List.length_take]; omega)
    rw [hs k i hlt c (by omega) (by omega) (by omega)]
    refine ih k (i + 1) _ (by omega) (by omega) ?_
    rw [List.take_add_one, List.getElem?_eq_getElem hlt, List.filter_append, List.length_append]
    by_cases c1 : p xs[i] = true
    · rw [if_pos c1]; simp [c1, hc]
    · rw [if_neg c1]; simp [c1, hc]
theorem pzValue_eq {r : List Int} (hm : r ∈ All.all 5 4) (kind a : Int) (ha : 0 ≤ a) (k : Nat) (hk : 1000 < k) : spec_pzValue.f k kind a r (All.tab (All.all 5 4)) = some (Chomp.told kind a r) := by
  have hr := All.ok_all hm (by decide) (by decide)
  have hkey := All.key_lt hr
  have ht := All.tab_all (by decide) (by decide) hm
  have hl := All.tab_len (All.all 5 4)
  have hH := Chomp.H_le hr
  have h6 := hr.2.1
  have hrd : rd (All.tab (All.all 5 4)) (All.key r) = (Chomp.H r : Int) + 1 := ht
  unfold spec_pzValue.f Chomp.told
  by_cases c0 : kind = 0
  · rw [if_pos c0, if_pos c0, cmSum_eq hr k (by omega)]; rfl
  rw [if_neg c0, if_neg c0]
  by_cases c1 : kind = 1
  · rw [if_pos c1, if_pos c1]
    by_cases c : a < (r.length : Int)
    · rw [if_pos c, if_pos c, if_pos ha]; rfl
    · rw [if_neg c, if_neg c]
  rw [if_neg c1, if_neg c1]
  by_cases c2 : kind = 2
  · rw [if_pos c2, if_pos c2, spec_cmHeaps.keyF hr k (by omega), Option.bind_some, if_pos hkey.1, if_pos (by rw [hl]; exact hkey.2), hrd]
    by_cases c : 0 < Chomp.H r
    · rw [if_pos (by omega), if_pos c]
    · rw [if_neg (by omega), if_neg c]
  rw [if_neg c2, if_neg c2]
  by_cases c3 : kind = 3
  · rw [if_pos c3, if_pos c3, spec_cmHeaps.keyF hr k (by omega), Option.bind_some, if_pos hkey.1, if_pos (by rw [hl]; exact hkey.2), hrd, PK.wrap_in (by omega) (by omega), Int.add_sub_cancel]
  rw [if_neg c3, if_neg c3]
  by_cases c4 : kind = 4
  · rw [if_pos c4, if_pos c4]
    have h := count_loop r (fun k c i => spec_pzValue.l0 k a c r (r.length : Int) i) 0 (fun n => !(decide (n ≤ a)))
      (fun k i hi c _ h0 h1 => by
        try dsimp only
        simp only [spec_pzValue.l0]
        rw [if_pos (by omega), if_pos (by omega), if_pos (by omega), PK.rd_at hi, PK.w1 hi (by omega)]
        by_cases q : r[i] > a
        · rw [if_pos q, PK.wrap_in (by omega) (by omega), if_pos (by simp; omega)]
        · rw [if_neg q, if_neg (by simp; omega)])
      (fun k c _ => by
        try dsimp only
        simp only [spec_pzValue.l0]
        rw [if_neg (by omega)]) r.length k 0 0 (by omega) (by omega) (by simp)
    exact h
  rw [if_neg c4, if_neg c4, spec_cmHeaps.movesF hr k (by omega), Option.bind_some]
  have hml := Chomp.moves_len hr
  have h := count_loop (Chomp.moves r) (fun k c i => spec_pzValue.l1 k r (All.tab (All.all 5 4)) c (Chomp.moves r) ((Chomp.moves r).length : Int) i) 10 (Chomp.isGood r)
    (fun k i hi c hk h0 h1 => by
      try dsimp only
      have hmem : (Chomp.moves r)[i] ∈ Chomp.moves r := List.getElem_mem hi
      have hb := (All.bit_all hm hmem).1
      have hbt := All.tab_all (by decide) (by decide) hb
      have hbo := All.ok_all hb (by decide) (by decide)
      have hbk := All.key_lt hbo
      obtain ⟨x, y, hxy, hy, hx, hp⟩ := Chomp.moves_mem hmem
      have hg : rd_L1 (Chomp.moves r) (i : Int) = [(x : Int), (y : Int)] := by
        rw [← hxy]
        unfold rd_L1
        exact PK.getD_at hi _
      rw [hxy] at hbt hbo hbk ⊢
      have e0 : rd [(x : Int), (y : Int)] 0 = x := rfl
      have e1 : rd [(x : Int), (y : Int)] 1 = y := rfl
      have e2 : Chomp.bit r (([(x : Int), (y : Int)] : List Int).getD 0 0) (([(x : Int), (y : Int)] : List Int).getD 1 0).toNat = Chomp.bit r (x : Int) y := rfl
      rw [e2] at hbt hbo hbk
      have hrd2 : rd (All.tab (All.all 5 4)) (All.key (Chomp.bit r (x : Int) y)) = (Chomp.H (Chomp.bit r (x : Int) y) : Int) + 1 := hbt
      have hgd : Chomp.isGood r [(x : Int), (y : Int)] = !(decide (0 < Chomp.H (Chomp.bit r (x : Int) y))) := rfl
      simp only [spec_pzValue.l1]
      rw [if_pos (by omega), if_pos (by omega), if_pos (by omega), hg, if_pos (by simp), if_pos (by simp), e0, e1, spec_cmHeaps.biteF hr (by omega) y k (by omega), Option.bind_some, spec_cmHeaps.keyF hbo k (by omega), Option.bind_some, if_pos hbk.1, if_pos (by rw [hl]; exact hbk.2), hrd2, PK.w1 hi (by omega), hgd]
      by_cases q : 0 < Chomp.H (Chomp.bit r (x : Int) y)
      · rw [if_neg (by omega), if_neg (by simp [q])]
      · rw [if_pos (by omega), PK.wrap_in (by omega) (by omega), if_pos (by simp; omega)])
    (fun k c _ => by
      try dsimp only
      simp only [spec_pzValue.l1]
      rw [if_neg (by omega)]) (Chomp.moves r).length k 0 0 (by omega) (by omega) (by simp)
  exact h

theorem FnExactDoesFit : laws_FnExactDoesFit.Pure := by
  intro a b c l ha hb hc hl
  refine ⟨l.length + 2000, ?_⟩
  unfold laws_FnExactDoesFit.f
  by_cases hL : (l.length : Int) > 1048576
  · rw [if_pos hL]
  rw [if_neg hL]
  have hn : l.length ≤ 1048576 := by omega
  have e1 : laws_toClue.f a b c = some (a, b, c) := rfl
  have e2 := toIntS_eq l hn (l.length + 2000) (by omega)
  have res : spec_DoesFit.f (l.length + 2000) a b c l = impl_DoesFit.f (l.length + 2000) a b c l ∧ ∃ r, impl_DoesFit.f (l.length + 2000) a b c l = some r := by
    unfold spec_DoesFit.f impl_DoesFit.f
    rw [specHidden_eq l hn _ (by omega), specClue_eq a b c _ (by omega), implClue_eq, implHidden_eq l hn _ (by omega)]
    simp only [Option.bind_some]
    cases hH : hidB l with
    | false =>
      simp only [Bool.false_eq_true, if_false, spec_DoesFit.j0, if_true]
      cases clueB a b c <;> exact ⟨rfl, _, rfl⟩
    | true =>
      rw [if_pos rfl, if_pos rfl]
      simp only [spec_DoesFit.j0]
      cases hB : clueB a b c with
      | false => exact ⟨rfl, _, rfl⟩
      | true =>
        have hm := hid_mem hH
        have hb0 : 0 ≤ b := by
          unfold clueB at hB
          simp only [decide_eq_true_eq] at hB
          omega
        rw [Bool.not_true, if_neg (by simp), if_pos rfl, heaps_eq, Option.bind_some, pzValue_eq hm a b hb0 _ (by omega), Option.bind_some, if_pos ⟨Chomp.okB_iff.2 (All.ok_all hm (by decide) (by decide)), hb0⟩]
        exact ⟨rfl, _, rfl⟩
  obtain ⟨h1, ⟨r1, r2⟩, h2⟩ := res
  rw [h2] at h1
  rw [e1, e2]
  simp only [Option.bind_some]
  rw [h1, h2]
  simp only [Option.bind_some]
  rw [if_neg (by simp)]
  simp only [laws_FnExactDoesFit.j0]
  rw [if_neg (by simp), toIntS_eq l hn _ (by omega), Option.bind_some, eqIntS_refl l hn _ (by omega), Option.bind_some, if_pos rfl]
end Go.Proofs.YtipiocdppghhnaaDoor.Pure
