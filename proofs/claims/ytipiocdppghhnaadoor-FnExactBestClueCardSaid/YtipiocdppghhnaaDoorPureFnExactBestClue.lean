/- BestClue answers as the reference does: of a puzzle with clues the index of the first clue that alone the fewest hidden chomps fit; and it leaves its argument as it was. Conditions: none. -/
import Derived.Test.YtipiocdppghhnaaDoorStFnExactBestClue
import Derived.Test.YtipiocdppghhnaaDoorPK
namespace Go.Proofs.YtipiocdppghhnaaDoor.Pure
open Go.RowKit Go.Proofs.YtipiocdppghhnaaDoor.PFnExactBestClue Go.Proofs.YtipiocdppghhnaaDoorW.PrintWords Go.Proofs.YtipiocdppghhnaaDoorW.PrintLast Go.Proofs.YtipiocdppghhnaaDoorW.PrintMore
set_option linter.unusedVariables false
set_option linter.unusedSimpArgs false

theorem some_iff {x y : Bool} (h : x = true ↔ y = true) : some x = some y := by rw [Bool.eq_iff_iff.2 h]
theorem l1In_eq (a b c : Int) : spec_l1In.f a b c = some (decide (b ≤ a) && decide (a ≤ c)) := by
  unfold spec_l1In.f
  by_cases h : b ≤ a
  · rw [if_pos h]; simp [h]
  · rw [if_neg h]; simp [h]
theorem within_eq (a b c : Int) : impl_within.f a b c = some (decide (b ≤ a) && decide (a ≤ c)) := by
  unfold impl_within.f
  by_cases h : b ≤ a
  · rw [if_pos h]; simp [h]
  · rw [if_neg h]; simp [h]
def clueB (a b c : Int) : Bool := decide (0 ≤ a ∧ a ≤ 5 ∧ 0 ≤ b ∧ 0 ≤ c ∧ c ≤ 20 ∧ (a = 1 → b ≤ 3) ∧ (a = 4 → b ≤ 4) ∧ (a ≠ 1 → a ≠ 4 → b ≤ 0) ∧ (a = 2 → c ≤ 1))
theorem specClue_eq (a b c : Int) (k : Nat) (hk : 0 < k) : spec_pzClue.f k a b c = some (clueB a b c) := by
  obtain ⟨k, rfl⟩ : ∃ q, k = q + 1 := ⟨k - 1, by omega⟩
  unfold spec_pzClue.f clueB
  simp only [l1In_eq, Option.bind_some, spec_pzClue.j0]
  by_cases h0 : 0 ≤ c ∧ c ≤ 20
  · rw [if_pos (by simp [h0])]
    by_cases a0 : a = 0
    · subst a0; simp only [if_true, beq_self_eq_true]; apply some_iff; simp; omega
    by_cases a3 : a = 3
    · subst a3; simp only [show ¬ (3 : Int) = 0 by decide, if_true, if_false, beq_self_eq_true]; apply some_iff; simp; omega
    have e5 : (a == 5) = decide (a = 5) := rfl
    rw [if_neg a0, if_neg a3]
    by_cases a5 : a = 5
    · subst a5; simp only [if_true, beq_self_eq_true]; apply some_iff; simp; omega
    rw [if_neg (by simpa using a5)]
    by_cases a1 : a = 1
    · subst a1; rw [if_pos rfl]; apply some_iff; simp; omega
    rw [if_neg a1]
    by_cases a2 : a = 2
    · subst a2; rw [if_pos rfl]
      by_cases b0 : b = 0
      · subst b0; rw [if_pos rfl]; apply some_iff; simp; omega
      · rw [if_neg b0]; apply some_iff; simp; omega
    rw [if_neg a2]
    by_cases a4 : a = 4
    · subst a4; rw [if_pos rfl]; apply some_iff; simp; omega
    rw [if_neg a4]; apply some_iff; simp; omega
  · rw [if_neg (by simp; omega)]; apply some_iff; simp; omega
theorem implClue_eq (a b c : Int) : impl_IsClue.f a b c = some (clueB a b c) := by
  unfold impl_IsClue.f clueB
  simp only [within_eq, Option.bind_some]
  by_cases h0 : 0 ≤ a ∧ a ≤ 5
  · rw [if_pos (by simp [h0])]
    by_cases a1 : a = 1
    · subst a1; rw [if_pos rfl]; split <;> (apply some_iff; simp_all; try omega)
    by_cases a2 : a = 2
    · subst a2; rw [if_neg (by omega), if_pos rfl]; split <;> (apply some_iff; simp_all; try omega)
    by_cases a4 : a = 4
    · subst a4; rw [if_neg (by omega), if_neg (by omega), if_pos rfl]; split <;> (apply some_iff; simp_all; try omega)
    rw [if_neg a1, if_neg a2, if_neg a4]; split <;> (apply some_iff; simp_all; try omega)
  · rw [if_neg (by simp; omega)]; apply some_iff; simp; omega

def toC (x : S39) : S42 := ⟨x.f0, x.f1, x.f2⟩
theorem szPuzzle_cases (l : List S39) (hl : l.length ≤ maxLen) : (∃ t, laws_szPuzzle.f l 1048576 = some t ∧ t < 0) ∨ (∃ t, laws_szPuzzle.f l 1048576 = some t ∧ ¬ t < 0 ∧ l.length ≤ 1048576) := by
  unfold maxLen at hl
  have hw : wrap64 (1048576 - (l.length : Int)) = 1048576 - (l.length : Int) := PK.wrap_in (by omega) (by omega)
  unfold laws_szPuzzle.f laws_szClueS.f
  rw [hw]
  by_cases h : (1048576 - (l.length : Int)) < 0
  · refine .inl ⟨-1, ?_, by omega⟩
    rw [if_pos h, Option.bind_some, if_pos (by omega)]
  · refine .inr ⟨1048576 - (l.length : Int), ?_, h, by omega⟩
    rw [if_neg h, Option.bind_some, if_neg h]
theorem toClueS_eq (l : List S39) (hl : l.length ≤ 1048576) (k : Nat) (hk : l.length < k) : laws_toClueS.f k l = some (l.map toC) := by
  unfold laws_toClueS.f
  rw [if_pos (by omega), if_pos (by omega), Int.toNat_natCast]
  have h := PK.fill_loop (ρ := List S42) l.length 0 (fun k s i => laws_toClueS.l0 k l s i) (fun i => toC (l.getD i z39)) (fun s => some s)
    (fun k i s _ hs hi => by
      try dsimp only
      simp only [laws_toClueS.l0]
      rw [if_pos (by omega), if_pos (by omega)]
      unfold laws_toClue.f
      rw [Option.bind_some, if_pos (by omega), PK.w1 hi (by omega), Int.toNat_natCast]
      congr 1)
    (fun k s _ hs => by
      try dsimp only
      simp only [laws_toClueS.l0]
      rw [if_neg (by omega)])
    (k := k) (by omega) (s := List.replicate l.length z42) (by simp)
  try dsimp only at h
  rw [h, PK.map_range]
theorem toPuzzle_eq (l : List S39) (hl : l.length ≤ 1048576) (k : Nat) (hk : l.length < k) : laws_toPuzzle.f k l = some (l.map toC) := by
  unfold laws_toPuzzle.f; rw [toClueS_eq l hl k hk]; rfl
theorem eqClueS_refl (l : List S42) (hl : l.length ≤ 1048576) (k : Nat) (hk : l.length < k) : laws_eqClueS.f k l l = some true := by
  unfold laws_eqClueS.f
  rw [if_pos rfl]
  have h := PK.all_loop0 l (fun k i => laws_eqClueS.l0 k l l i) 0 (fun _ => true)
    (fun k i hi _ => by
      try dsimp only
      simp only [laws_eqClueS.l0]
      rw [if_pos (by omega), if_pos (by omega), if_pos (by omega)]
      unfold laws_eqClue.f
      rw [if_pos rfl, if_pos rfl, if_pos rfl, Option.bind_some, if_pos rfl, if_pos trivial, PK.w1 hi (by omega)])
    (fun k _ => by
      try dsimp only
      simp only [laws_eqClueS.l0]
      rw [if_neg (by omega)])
    (k := k) (by omega)
  try dsimp only at h
  rw [h]; simp
theorem eqPuzzle_refl (l : List S42) (hl : l.length ≤ 1048576) (k : Nat) (hk : l.length < k) : laws_eqPuzzle.f k l l = some true := by
  unfold laws_eqPuzzle.f; rw [eqClueS_refl l hl k hk]; rfl

theorem specGood_eq (l : List S42) (hl : l.length ≤ 1048576) (k : Nat) (hk : l.length + 1 < k) : spec_pzGood.f k l = some (decide (l.length ≤ 6) && l.all fun c => clueB c.f0 c.f1 c.f2) := by
  unfold spec_pzGood.f
  by_cases h6 : (l.length : Int) > 6
  · rw [if_pos h6, decide_eq_false (by omega), Bool.false_and]
  · rw [if_neg h6, decide_eq_true (by omega), Bool.true_and]
    exact PK.all_loop0 l (fun k i => spec_pzGood.l0 k l (l.length : Int) i) 1 (fun c => clueB c.f0 c.f1 c.f2)
      (fun k i hi hk => by
        try dsimp only
        simp only [spec_pzGood.l0]
        rw [if_pos (by omega), if_pos (by omega), if_pos (by omega), specClue_eq _ _ _ k (by omega), Option.bind_some, PK.w1 hi (by omega)]
        unfold rd_T42
        rw [PK.getD_at hi])
      (fun k _ => by
        try dsimp only
        simp only [spec_pzGood.l0]
        rw [if_neg (by omega)])
      (by omega)
theorem implPuzzle_eq (l : List S42) : impl_IsPuzzle.f l = some (decide (l.length ≤ 6) && l.all fun c => clueB c.f0 c.f1 c.f2) := by
  unfold impl_IsPuzzle.f
  simp only [implClue_eq, Option.getD_some]

def cluesB (l : List S42) : Bool := l.all fun c => clueB c.f0 c.f1 c.f2
def puzB (l : List S42) : Bool := decide (l.length ≤ 6) && cluesB l
def sols (l : List S42) : List (List Int) := (All.all 5 4).filter fun r => l.all fun c => Chomp.told c.f0 c.f1 r == c.f2
theorem puzB_iff {l : List S42} : puzB l = true ↔ l.length ≤ 6 ∧ cluesB l = true := by unfold puzB; simp
theorem clues_sub {l m : List S42} (h : cluesB l = true) (hs : ∀ c ∈ m, c ∈ l) : cluesB m = true := List.all_eq_true.2 fun c hc => List.all_eq_true.1 h c (hs c hc)
theorem clues_pos {l : List S42} (h : cluesB l = true) : l.all (fun c => decide (0 ≤ c.f1)) = true := List.all_eq_true.2 fun c hc => by
  have := List.all_eq_true.1 h c hc
  unfold clueB at this
  simp only [decide_eq_true_eq] at this ⊢
  omega
theorem sols_len (l : List S42) : (sols l).length ≤ 1296 := by
  have h1 := All.tails_len 4 5
  have h3 : ((5 + 1) ^ 4 : Nat) = 1296 := by decide
  refine Nat.le_trans (List.length_filter_le _ _) ?_
  unfold All.all
  rw [List.length_tail]; omega
theorem implSols {l : List S42} (h : cluesB l = true) : impl_solutions.f l = some (sols l) := by
  unfold impl_solutions.f
  rw [if_pos (clues_pos h)]
  unfold impl_solutions.all sols
  congr 1
  apply List.filter_congr
  intro r _
  unfold impl_solutions.bad impl_solutions.fit
  rw [← List.all_eq_not_any_not]
theorem specSols {l : List S42} (h : cluesB l = true) : spec_pzAll.f l = some (sols l) := by
  unfold spec_pzAll.f
  rw [if_pos (clues_pos h)]
  rfl

def bGo (L : List S42) : Nat → Nat → Int → Int → Int × Bool
  | 0, _, b, _ => (b, true)
  | d + 1, i, b, n => if ((sols [L.getD i z42]).length : Int) < n then bGo L d (i + 1) (i : Int) ((sols [L.getD i z42]).length : Int) else bGo L d (i + 1) b n
def bAll (L : List S42) : Int × Bool := if puzB L = true then (if L.length = 0 then (0, false) else bGo L (L.length - 1) 1 0 ((sols [L.getD 0 z42]).length : Int)) else (0, false)
theorem one_clue {L : List S42} (h : cluesB L = true) {i : Nat} (hi : i < L.length) : cluesB [L.getD i z42] = true := clues_sub h fun c hc => by
  rw [List.mem_singleton.1 hc, List.getD_eq_getElem?_getD, List.getElem?_eq_getElem hi]
  exact List.getElem_mem hi
theorem win_one {L : List S42} {i : Nat} (hi : i < L.length) : (L.take (i + 1)).drop i = [L.getD i z42] := by
  rw [List.drop_take, List.drop_eq_getElem_cons hi, List.getD_eq_getElem?_getD, List.getElem?_eq_getElem hi, show i + 1 - i = 1 by omega]
  rfl
theorem specB_round (L : List S42) (h6 : L.length ≤ 6) (hc : cluesB L = true) (k i : Nat) (b n : Int) (hi : i < L.length) :
    spec_BestClue.l0 (k + 1) b n (L.length : Int) (i : Int) L = (if i = 0 then spec_BestClue.l0 k (i : Int) ((sols [L.getD i z42]).length : Int) (L.length : Int) ((i + 1 : Nat) : Int) L else if ((sols [L.getD i z42]).length : Int) < n then spec_BestClue.l0 k (i : Int) ((sols [L.getD i z42]).length : Int) (L.length : Int) ((i + 1 : Nat) : Int) L else spec_BestClue.l0 k b n (L.length : Int) ((i + 1 : Nat) : Int) L) := by
  simp only [spec_BestClue.l0]
  rw [if_pos (by omega), if_pos (by omega), PK.w1 hi (by omega), if_pos (by omega), if_pos (by omega), Int.toNat_natCast, Int.toNat_natCast, win_one hi, specSols (one_clue hc hi), Option.bind_some]
  by_cases e : i = 0
  · rw [if_pos (by omega), if_pos e]
  · rw [if_neg (by omega), if_neg e]
theorem implB_round (L : List S42) (h6 : L.length ≤ 6) (hc : cluesB L = true) (k i : Nat) (b n : Int) (hi : i < L.length) :
    impl_BestClue.l0 (k + 1) b n L (L.length : Int) (i : Int) = (if n < 0 then impl_BestClue.l0 k (i : Int) ((sols [L.getD i z42]).length : Int) L (L.length : Int) ((i + 1 : Nat) : Int) else if ((sols [L.getD i z42]).length : Int) < n then impl_BestClue.l0 k (i : Int) ((sols [L.getD i z42]).length : Int) L (L.length : Int) ((i + 1 : Nat) : Int) else impl_BestClue.l0 k b n L (L.length : Int) ((i + 1 : Nat) : Int)) := by
  have he : (⟨(rd_T42 L (i : Int)).f0, (rd_T42 L (i : Int)).f1, (rd_T42 L (i : Int)).f2⟩ : S42) = L.getD i z42 := rfl
  simp only [impl_BestClue.l0]
  rw [if_pos (by omega), if_pos (by omega), if_pos (by omega), PK.w1 hi (by omega), he, implSols (one_clue hc hi), Option.bind_some]
theorem specB_go (L : List S42) (h6 : L.length ≤ 6) (hc : cluesB L = true) : ∀ (d i k : Nat) (b n : Int), i + d = L.length → d < k → 0 < i → spec_BestClue.l0 k b n (L.length : Int) (i : Int) L = some (bGo L d i b n) := by
  intro d
  induction d with
  | zero =>
    intro i k b n hi hk h0
    obtain ⟨k, rfl⟩ : ∃ q, k = q + 1 := ⟨k - 1, by omega⟩
    simp only [spec_BestClue.l0]
    rw [if_neg (by omega)]; rfl
  | succ d ih =>
    intro i k b n hi hk h0
    obtain ⟨k, rfl⟩ : ∃ q, k = q + 1 := ⟨k - 1, by omega⟩
    rw [specB_round L h6 hc k i b n (by omega), if_neg (by omega)]
    unfold bGo
    split
    · exact ih (i + 1) k _ _ (by omega) (by omega) (by omega)
    · exact ih (i + 1) k _ _ (by omega) (by omega) (by omega)
theorem implB_go (L : List S42) (h6 : L.length ≤ 6) (hc : cluesB L = true) : ∀ (d i k : Nat) (b n : Int), i + d = L.length → d < k → 0 ≤ n → impl_BestClue.l0 k b n L (L.length : Int) (i : Int) = some (bGo L d i b n) := by
  intro d
  induction d with
  | zero =>
    intro i k b n hi hk h0
    obtain ⟨k, rfl⟩ : ∃ q, k = q + 1 := ⟨k - 1, by omega⟩
    simp only [impl_BestClue.l0]
    rw [if_neg (by omega)]; rfl
  | succ d ih =>
    intro i k b n hi hk h0
    obtain ⟨k, rfl⟩ : ∃ q, k = q + 1 := ⟨k - 1, by omega⟩
    rw [implB_round L h6 hc k i b n (by omega), if_neg (by omega)]
    unfold bGo
    split
    · exact ih (i + 1) k _ _ (by omega) (by omega) (by omega)
    · exact ih (i + 1) k _ _ (by omega) (by omega) (by omega)
theorem FnExactBestClue : laws_FnExactBestClue.Pure := by
  intro l hl
  refine ⟨l.length + 5000, ?_⟩
  unfold laws_FnExactBestClue.f
  rcases szPuzzle_cases l hl.1 with ⟨t, h, h1⟩ | ⟨t, h, h1, h2⟩
  · rw [h, Option.bind_some, if_pos h1]
  · rw [h, Option.bind_some, if_neg h1]
    have h2' : (l.map toC).length ≤ 1048576 := by simpa using h2
    have hp : ∀ j, l.length < j → laws_toPuzzle.f j l = some (l.map toC) := fun j hj => toPuzzle_eq l h2 j hj
    have hm : (l.map toC).length = l.length := by simp
    generalize l.map toC = L at hp h2' hm

    have hs : ∀ j, l.length + 1000 < j → spec_BestClue.f j L = some (bAll L) := fun j hj => by
      obtain ⟨j, rfl⟩ : ∃ q, j = q + 1 + 1 := ⟨j - 2, by omega⟩
      unfold spec_BestClue.f bAll
      rw [specGood_eq L h2' _ (by omega), Option.bind_some]
      show (if puzB L = true then _ else _) = _
      by_cases hB : puzB L = true
      · rw [if_pos hB, if_pos hB]
        simp only [spec_BestClue.j0]
        obtain ⟨h6, hc⟩ := puzB_iff.1 hB
        by_cases e : L.length = 0
        · rw [if_pos (by simp [e]), if_pos e]
        · rw [if_neg (by rw [beq_iff_eq]; omega), if_neg e]
          have := specB_round L h6 hc j 0 0 0 (by omega)
          rw [if_pos rfl] at this
          have e0 : ((0 : Nat) : Int) = 0 := rfl
          rw [e0] at this
          rw [this]
          exact specB_go L h6 hc (L.length - 1) 1 j _ _ (by omega) (by omega) (by omega)
      · rw [if_neg hB, if_neg hB]
        simp only [spec_BestClue.j0]
        rw [if_pos trivial]
    have hi : ∀ j, l.length + 1000 < j → impl_BestClue.f j L = some (bAll L) := fun j hj => by
      obtain ⟨j, rfl⟩ : ∃ q, j = q + 1 + 1 := ⟨j - 2, by omega⟩
      unfold impl_BestClue.f bAll
      rw [implPuzzle_eq, Option.bind_some]
      show (if puzB L = true then _ else _) = _
      by_cases hB : puzB L = true
      · rw [if_pos hB, if_pos hB]
        simp only [impl_BestClue.j0]
        obtain ⟨h6, hc⟩ := puzB_iff.1 hB
        by_cases e : L.length = 0
        · rw [if_pos (by simp [e]), if_pos e]
        · rw [if_neg (by rw [beq_iff_eq]; omega), if_neg e]
          have := implB_round L h6 hc j 0 0 (-1) (by omega)
          rw [if_pos (by omega)] at this
          have e0 : ((0 : Nat) : Int) = 0 := rfl
          rw [e0] at this
          rw [this]
          exact implB_go L h6 hc (L.length - 1) 1 j _ _ (by omega) (by omega) (by omega)
      · rw [if_neg hB, if_neg hB]
        simp only [impl_BestClue.j0]
        rw [if_pos trivial]
    generalize bAll L = r at hs hi
    have hL : ∀ j, l.length < j → laws_eqPuzzle.f j L L = some true := fun j hj => eqPuzzle_refl _ h2' j (by omega)
    rw [hp _ (by omega), Option.bind_some, hs _ (by omega), Option.bind_some, Option.bind_some, hi _ (by omega), Option.bind_some, if_pos rfl]
    simp only [laws_FnExactBestClue.j0]
    rw [if_neg (by simp), hp _ (by omega), Option.bind_some, hL _ (by omega), Option.bind_some, if_pos rfl]
end Go.Proofs.YtipiocdppghhnaaDoor.Pure
