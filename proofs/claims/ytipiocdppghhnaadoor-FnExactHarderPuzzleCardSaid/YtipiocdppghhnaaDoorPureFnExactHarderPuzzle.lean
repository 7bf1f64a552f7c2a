/- HarderPuzzle answers as the reference does: of a solved puzzle the one from which clue after clue is taken out if it is solved still; its argument stays as it was, and what it hands back is new memory. Conditions: none. -/
import Derived.Test.YtipiocdppghhnaaDoorStFnExactHarderPuzzle
import Derived.Test.YtipiocdppghhnaaDoorPK
namespace Go.Proofs.YtipiocdppghhnaaDoor.Pure
open Go.RowKit Go.Proofs.YtipiocdppghhnaaDoor.PFnExactHarderPuzzle Go.Proofs.YtipiocdppghhnaaDoorW.PrintWords Go.Proofs.YtipiocdppghhnaaDoorW.PrintLast Go.Proofs.YtipiocdppghhnaaDoorW.PrintMore
set_option linter.unusedVariables false
set_option linter.unusedSimpArgs false

theorem some_iff {x y : Bool} (h : x = true ↔ y = true) : some x = some y := by rw [Bool.eq_iff_iff.2 h]
theorem l1In_eq (a b c : Int) : spec_l1In.f a b c = some (decide (b ≤ a) && decide (a ≤ c)) := by
  unfold spec_l1In.f
  by_cases h : b ≤ a
  · rw [if_pos h]; simp [h]
  · rw [if_neg h]; simp [h]
theorem within_eq (a b c : Int) : impl_within.f a b c = some (decide (b ≤ a) && decide (a ≤ c)) := by
  unfold impl_within.f
  by_cases h : b ≤ a
  · rw [if_pos h]; simp [h]
  · rw [if_neg h]; simp [h]
def clueB (a b c : Int) : Bool := decide (0 ≤ a ∧ a ≤ 5 ∧ 0 ≤ b ∧ 0 ≤ c ∧ c ≤ 20 ∧ (a = 1 → b ≤ 3) ∧ (a = 4 → b ≤ 4) ∧ (a ≠ 1 → a ≠ 4 → b ≤ 0) ∧ (a = 2 → c ≤ 1))
theorem specClue_eq (a b c : Int) (k : Nat) (hk : 0 < k) : spec_pzClue.f k a b c = some (clueB a b c) := by
  obtain ⟨k, rfl⟩ : ∃ q, k = q + 1 := ⟨k - 1, by omega⟩
  unfold spec_pzClue.f clueB
  simp only [l1In_eq, Option.bind_some, spec_pzClue.j0]
  by_cases h0 : 0 ≤ c ∧ c ≤ 20
  · rw [if_pos (by simp [h0])]
    by_cases a0 : a = 0
    · subst a0; simp only [if_true, beq_self_eq_true]; apply some_iff; simp; omega
    by_cases a3 : a = 3
    · subst a3; simp only [show ¬ (3 : Int) = 0 by decide, if_true, if_false, beq_self_eq_true]; apply some_iff; simp; omega
    have e5 : (a == 5) = decide (a = 5) := rfl
    rw [if_neg a0, if_neg a3]
    by_cases a5 : a = 5
    · subst a5; simp only [if_true, beq_self_eq_true]; apply some_iff; simp; omega
    rw [if_neg (by simpa using a5)]
    by_cases a1 : a = 1
    · subst a1; rw [if_pos rfl]; apply some_iff; simp; omega
    rw [if_neg a1]
    by_cases a2 : a = 2
    · subst a2; rw [if_pos rfl]
      by_cases b0 : b = 0
      · subst b0; rw [if_pos rfl]; apply some_iff; simp; omega
      · rw [if_neg b0]; apply some_iff; simp; omega
    rw [if_neg a2]
    by_cases a4 : a = 4
    · subst a4; rw [if_pos rfl]; apply some_iff; simp; omega
    rw [if_neg a4]; apply some_iff; simp; omega
  · rw [if_neg (by simp; omega)]; apply some_iff; simp; omega
theorem implClue_eq (a b c : Int) : impl_IsClue.f a b c = some (clueB a b c) := by
  unfold impl_IsClue.f clueB
  simp only [within_eq, Option.bind_some]
  by_cases h0 : 0 ≤ a ∧ a ≤ 5
  · rw [if_pos (by simp [h0])]
    by_cases a1 : a = 1
    · subst a1; rw [if_pos rfl]; split <;> (apply some_iff; simp_all; try omega)
    by_cases a2 : a = 2
    · subst a2; rw [if_neg (by omega), if_pos rfl]; split <;> (apply some_iff; simp_all; try omega)
    by_cases a4 : a = 4
    · subst a4; rw [if_neg (by omega), if_neg (by omega), if_pos rfl]; split <;> (apply some_iff; simp_all; try omega)
    rw [if_neg a1, if_neg a2, if_neg a4]; split <;> (apply some_iff; simp_all; try omega)
  · rw [if_neg (by simp; omega)]; apply some_iff; simp; omega

def toC (x : S39) : S42 := ⟨x.f0, x.f1, x.f2⟩
theorem szPuzzle_cases (l : List S39) (hl : l.length ≤ maxLen) : (∃ t, laws_szPuzzle.f l 1048576 = some t ∧ t < 0) ∨ (∃ t, laws_szPuzzle.f l 1048576 = some t ∧ ¬ t < 0 ∧ l.length ≤ 1048576) := by
  unfold maxLen at hl
  have hw : wrap64 (1048576 - (l.length : Int)) = 1048576 - (l.length : Int) := PK.wrap_in (by omega) (by omega)
  unfold laws_szPuzzle.f laws_szClueS.f
  rw [hw]
  by_cases h : (1048576 - (l.length : Int)) < 0
  · refine .inl ⟨-1, ?_, by omega⟩
    rw [if_pos h, Option.bind_some, if_pos (by omega)]
  · refine .inr ⟨1048576 - (l.length : Int), ?_, h, by omega⟩
    rw [if_neg h, Option.bind_some, if_neg h]
theorem toClueS_eq (l : List S39) (hl : l.length ≤ 1048576) (k : Nat) (hk : l.length < k) : laws_toClueS.f k l = some (l.map toC) := by
  unfold laws_toClueS.f
  rw [if_pos (by omega), if_pos (by omega), Int.toNat_natCast]
  have h := PK.fill_loop (ρ := List S42) l.length 0 (fun k s i => laws_toClueS.l0 k l s i) (fun i => toC (l.getD i z39)) (fun s => some s)
    (fun k i s _ hs hi => by
      try dsimp only
      simp only [laws_toClueS.l0]
      rw [if_pos (by omega), if_pos (by omega)]
      unfold laws_toClue.f
      rw [Option.bind_some, if_pos (by omega), PK.w1 hi (by omega), Int.toNat_natCast]
      congr 1)
    (fun k s _ hs => by
      try dsimp only
      simp only [laws_toClueS.l0]
      rw [if_neg (by omega)])
    (k := k) (by omega) (s := List.replicate l.length z42) (by simp)
  try dsimp only at h
  rw [h, PK.map_range]
theorem toPuzzle_eq (l : List S39) (hl : l.length ≤ 1048576) (k : Nat) (hk : l.length < k) : laws_toPuzzle.f k l = some (l.map toC) := by
  unfold laws_toPuzzle.f; rw [toClueS_eq l hl k hk]; rfl
theorem eqClueS_refl (l : List S42) (hl : l.length ≤ 1048576) (k : Nat) (hk : l.length < k) : laws_eqClueS.f k l l = some true := by
  unfold laws_eqClueS.f
  rw [if_pos rfl]
  have h := PK.all_loop0 l (fun k i => laws_eqClueS.l0 k l l i) 0 (fun _ => true)
    (fun k i hi _ => by
      try dsimp only
      simp only [laws_eqClueS.l0]
      rw [if_pos (by omega), if_pos (by omega), if_pos (by omega)]
      unfold laws_eqClue.f
      rw [if_pos rfl, if_pos rfl, if_pos rfl, Option.bind_some, if_pos rfl, if_pos trivial, PK.w1 hi (by omega)])
    (fun k _ => by
      try dsimp only
      simp only [laws_eqClueS.l0]
      rw [if_neg (by omega)])
    (k := k) (by omega)
  try dsimp only at h
  rw [h]; simp
theorem eqPuzzle_refl (l : List S42) (hl : l.length ≤ 1048576) (k : Nat) (hk : l.length < k) : laws_eqPuzzle.f k l l = some true := by
  unfold laws_eqPuzzle.f; rw [eqClueS_refl l hl k hk]; rfl

def mkC (a : Int) : S42 := ⟨a, a + 1, a + 2⟩
theorem markPuzzle_eq (l : List S42) (hl : l.length ≤ 1048576) (k : Nat) (hk : l.length < k) : laws_markPuzzle.f k l 1 = some (1 + ((3 : Nat) : Int) * (l.length : Int), (List.range l.length).map fun (i : Nat) => mkC (1 + ((3 : Nat) : Int) * (i : Int))) := by
  unfold laws_markPuzzle.f laws_markClueS.f
  have h := PK.mark_loop l.length 0 3 (fun k s a i => laws_markClueS.l0 k s a i) mkC 1 4000000 (by omega) (by omega)
    (fun k i s a _ hs hi h0 hB => by
      try dsimp only
      simp only [laws_markClueS.l0]
      have w1 : wrap64 (a + 1) = a + 1 := PK.wrap_in (by omega) (by omega)
      have w2 : wrap64 (a + 1 + 1) = a + 2 := by rw [PK.wrap_in (by omega) (by omega)]; omega
      have w3 : wrap64 (a + 2 + 1) = a + 3 := by rw [PK.wrap_in (by omega) (by omega)]; omega
      rw [if_pos (by omega), if_pos (by omega), Option.bind_some, Option.bind_some, w1, w2, w3, PK.w1 hi (by omega), Int.toNat_natCast]
      have hi' : i < s.length := by omega
      unfold rd_T42
      have g1 : ∀ v z, (s.set i v).getD ((i : Int)).toNat z = v := fun v z => PK.getD_set hi' v z
      simp only [g1, List.set_set]
      rfl)
    (fun k s a _ hs => by
      try dsimp only
      simp only [laws_markClueS.l0]
      rw [if_neg (by omega)])
    (k := k) (by omega) (s := l) rfl
  try dsimp only at h
  rw [h]; rfl

theorem heldPuzzle_eq (l : List S42) (hl : l.length ≤ 1048576) (hx : ∀ i (h : i < l.length), l[i] = mkC (1 + ((3 : Nat) : Int) * (i : Int))) (k : Nat) (hk : l.length < k) : laws_heldPuzzle.f k l 1 = some (1 + ((3 : Nat) : Int) * (l.length : Int)) := by
  unfold laws_heldPuzzle.f laws_heldClueS.f
  have h := PK.held_loop l 0 3 (fun k a i => laws_heldClueS.l0 k l a i) mkC 1 4000000 (by omega) (by omega) hx
    (fun k i hi a _ h0 hB hm => by
      try dsimp only
      simp only [laws_heldClueS.l0]
      have w1 : wrap64 (a + 1) = a + 1 := PK.wrap_in (by omega) (by omega)
      have w2 : wrap64 (a + 1 + 1) = a + 2 := by rw [PK.wrap_in (by omega) (by omega)]; omega
      have w3 : wrap64 (a + 2 + 1) = a + 3 := by rw [PK.wrap_in (by omega) (by omega)]; omega
      unfold rd_T42
      rw [PK.getD_at hi, hm, w1, w2, w3, PK.w1 hi (by omega)]
      rw [if_pos (by omega), if_pos (by omega), if_pos (show (mkC a).f0 = a from rfl), if_pos (show (mkC a).f1 = a + 1 from rfl), if_pos (show (mkC a).f2 = a + 2 from rfl)]
      rfl)
    (fun k a _ => by
      try dsimp only
      simp only [laws_heldClueS.l0]
      rw [if_neg (by omega)])
    (k := k) (by omega)
  try dsimp only at h
  rw [h, Option.bind_some, if_neg (by omega)]
theorem held_marked (n : Nat) (hn : n ≤ 1048576) (k : Nat) (hk : n < k) : laws_heldPuzzle.f k ((List.range n).map fun (i : Nat) => mkC (1 + ((3 : Nat) : Int) * (i : Int))) 1 = some (1 + ((3 : Nat) : Int) * (n : Int)) := by
  have h := heldPuzzle_eq ((List.range n).map fun (i : Nat) => mkC (1 + ((3 : Nat) : Int) * (i : Int))) (by simpa using hn) (fun i h => PK.marked_at h) k (by simpa using hk)
  simpa using h

theorem specGood_eq (l : List S42) (hl : l.length ≤ 1048576) (k : Nat) (hk : l.length + 1 < k) : spec_pzGood.f k l = some (decide (l.length ≤ 6) && l.all fun c => clueB c.f0 c.f1 c.f2) := by
  unfold spec_pzGood.f
  by_cases h6 : (l.length : Int) > 6
  · rw [if_pos h6, decide_eq_false (by omega), Bool.false_and]
  · rw [if_neg h6, decide_eq_true (by omega), Bool.true_and]
    exact PK.all_loop0 l (fun k i => spec_pzGood.l0 k l (l.length : Int) i) 1 (fun c => clueB c.f0 c.f1 c.f2)
      (fun k i hi hk => by
        try dsimp only
        simp only [spec_pzGood.l0]
        rw [if_pos (by omega), if_pos (by omega), if_pos (by omega), specClue_eq _ _ _ k (by omega), Option.bind_some, PK.w1 hi (by omega)]
        unfold rd_T42
        rw [PK.getD_at hi])
      (fun k _ => by
        try dsimp only
        simp only [spec_pzGood.l0]
        rw [if_neg (by omega)])
      (by omega)
theorem implPuzzle_eq (l : List S42) : impl_IsPuzzle.f l = some (decide (l.length ≤ 6) && l.all fun c => clueB c.f0 c.f1 c.f2) := by
  unfold impl_IsPuzzle.f
  simp only [implClue_eq, Option.getD_some]

def cluesB (l : List S42) : Bool := l.all fun c => clueB c.f0 c.f1 c.f2
def puzB (l : List S42) : Bool := decide (l.length ≤ 6) && cluesB l
def sols (l : List S42) : List (List Int) := (All.all 5 4).filter fun r => l.all fun c => Chomp.told c.f0 c.f1 r == c.f2
theorem puzB_iff {l : List S42} : puzB l = true ↔ l.length ≤ 6 ∧ cluesB l = true := by unfold puzB; simp
theorem clues_sub {l m : List S42} (h : cluesB l = true) (hs : ∀ c ∈ m, c ∈ l) : cluesB m = true := List.all_eq_true.2 fun c hc => List.all_eq_true.1 h c (hs c hc)
theorem clues_pos {l : List S42} (h : cluesB l = true) : l.all (fun c => decide (0 ≤ c.f1)) = true := List.all_eq_true.2 fun c hc => by
  have := List.all_eq_true.1 h c hc
  unfold clueB at this
  simp only [decide_eq_true_eq] at this ⊢
  omega
theorem sols_len (l : List S42) : (sols l).length ≤ 1296 := by
  have h1 := All.tails_len 4 5
  have h3 : ((5 + 1) ^ 4 : Nat) = 1296 := by decide
  refine Nat.le_trans (List.length_filter_le _ _) ?_
  unfold All.all
  rw [List.length_tail]; omega
theorem implSols {l : List S42} (h : cluesB l = true) : impl_solutions.f l = some (sols l) := by
  unfold impl_solutions.f
  rw [if_pos (clues_pos h)]
  unfold impl_solutions.all sols
  congr 1
  apply List.filter_congr
  intro r _
  unfold impl_solutions.bad impl_solutions.fit
  rw [← List.all_eq_not_any_not]
theorem specSols {l : List S42} (h : cluesB l = true) : spec_pzAll.f l = some (sols l) := by
  unfold spec_pzAll.f
  rw [if_pos (clues_pos h)]
  rfl

theorem implSolutions_eq (l : List S42) : impl_Solutions.f l = some (if puzB l = true then (sols l, true) else ([], false)) := by
  unfold impl_Solutions.f
  rw [implPuzzle_eq, Option.bind_some]
  show (if puzB l = true then _ else _) = _
  by_cases h : puzB l = true
  · rw [if_pos h, if_pos h, implSols (puzB_iff.1 h).2]; rfl
  · rw [if_neg h, if_neg h]

theorem implCount_eq (l : List S42) : impl_CountSolutions.f l = some (if puzB l = true then ((sols l).length : Int) else 0, puzB l) := by
  unfold impl_CountSolutions.f
  rw [implSolutions_eq, Option.bind_some]
  cases h : puzB l <;> rfl

theorem without_eq (l : List S42) (i : Nat) (hl : l.length ≤ 6) (h : i < l.length) : spec_pzWithout.f l (i : Int) = some (l.eraseIdx i) := by
  unfold spec_pzWithout.f
  have hw : wrap64 ((i : Int) + 1) = (i : Int) + 1 := PK.wrap_in (by omega) (by omega)
  rw [hw, Option.bind_some, if_pos (by omega), if_pos (by omega), Option.bind_some, if_pos (by simp; omega), Option.bind_some, if_pos (by omega), if_pos (by omega), Option.bind_some, if_pos (by simp; omega)]
  rw [List.eraseIdx_eq_take_drop_succ, List.nil_append, Int.toNat_natCast, show ((i : Int) + 1).toNat = i + 1 by omega]
theorem dropped_eq (l : List S42) (i : Nat) (hl : l.length ≤ 6) (h : i < l.length) : impl_dropped.f l (i : Int) = some (l.eraseIdx i) := by
  unfold impl_dropped.f impl_Clue_98.f
  rw [if_pos ⟨by omega, by omega⟩, if_pos (by omega), Option.bind_some, Int.toNat_natCast]
theorem erase_clues {L : List S42} (h : cluesB L = true) (i : Nat) : cluesB (L.eraseIdx i) = true := clues_sub h fun _ hc => List.mem_of_mem_eraseIdx hc

def hGo : Nat → List S42 → Nat → List S42
  | 0, L, _ => L
  | d + 1, L, i => if (sols (L.eraseIdx i)).length = 1 then hGo d (L.eraseIdx i) i else hGo d L (i + 1)
def hardR (L : List S42) : List S42 × Bool := if puzB L = true then (if (sols L).length = 1 then (hGo L.length L 0, true) else ([], false)) else ([], false)
theorem hGo_len : ∀ (d : Nat) (L : List S42) (i : Nat), (hGo d L i).length ≤ L.length := by
  intro d
  induction d with
  | zero => intro L i; exact Nat.le_refl _
  | succ d ih =>
    intro L i
    unfold hGo
    split
    · exact Nat.le_trans (ih _ _) (List.length_eraseIdx_le L i)
    · exact ih _ _
theorem specH_go : ∀ (d : Nat) (L : List S42) (i k : Nat), L.length ≤ 6 → cluesB L = true → i + d = L.length → d < k → spec_HarderPuzzle.l0 k L (i : Int) = some (hGo d L i, true) := by
  intro d
  induction d with
  | zero =>
    intro L i k h6 hc hi hk
    obtain ⟨k, rfl⟩ : ∃ q, k = q + 1 := ⟨k - 1, by omega⟩
    simp only [spec_HarderPuzzle.l0]
    rw [if_neg (by omega)]; rfl
  | succ d ih =>
    intro L i k h6 hc hi hk
    obtain ⟨k, rfl⟩ : ∃ q, k = q + 1 := ⟨k - 1, by omega⟩
    have hlt : i < L.length := by omega
    have hl : (L.eraseIdx i).length = L.length - 1 := List.length_eraseIdx_of_lt hlt
    simp only [spec_HarderPuzzle.l0]
    rw [if_pos (by omega), without_eq L i h6 hlt, Option.bind_some]
    unfold spec_pzSolved.f
    rw [specSols (erase_clues hc i), Option.bind_some, Option.bind_some, PK.w1 hlt (by omega)]
    unfold hGo
    by_cases c : (sols (L.eraseIdx i)).length = 1
    · rw [if_pos (by rw [beq_iff_eq]; omega), if_pos c]
      exact ih (L.eraseIdx i) i k (by omega) (erase_clues hc i) (by omega) (by omega)
    · rw [if_neg (by rw [beq_iff_eq]; omega), if_neg c]
      exact ih L (i + 1) k h6 hc (by omega) (by omega)
theorem implH_go : ∀ (d : Nat) (L : List S42) (i k : Nat), L.length ≤ 6 → cluesB L = true → i + d = L.length → d < k → impl_HarderPuzzle.l0 k L (i : Int) = some (hGo d L i, true) := by
  intro d
  induction d with
  | zero =>
    intro L i k h6 hc hi hk
    obtain ⟨k, rfl⟩ : ∃ q, k = q + 1 := ⟨k - 1, by omega⟩
    simp only [impl_HarderPuzzle.l0]
    rw [if_neg (by omega)]; rfl
  | succ d ih =>
    intro L i k h6 hc hi hk
    obtain ⟨k, rfl⟩ : ∃ q, k = q + 1 := ⟨k - 1, by omega⟩
    have hlt : i < L.length := by omega
    have hl : (L.eraseIdx i).length = L.length - 1 := List.length_eraseIdx_of_lt hlt
    simp only [impl_HarderPuzzle.l0]
    rw [if_pos (by omega), dropped_eq L i h6 hlt, Option.bind_some, implSols (erase_clues hc i), Option.bind_some, PK.w1 hlt (by omega)]
    unfold hGo
    by_cases c : (sols (L.eraseIdx i)).length = 1
    · rw [if_pos (by omega), if_pos c]
      exact ih (L.eraseIdx i) i k (by omega) (erase_clues hc i) (by omega) (by omega)
    · rw [if_neg (by omega), if_neg c]
      exact ih L (i + 1) k h6 hc (by omega) (by omega)
theorem FnExactHarderPuzzle : laws_FnExactHarderPuzzle.Pure := by
  intro l hl
  refine ⟨l.length + 5000, ?_⟩
  unfold laws_FnExactHarderPuzzle.f
  rcases szPuzzle_cases l hl.1 with ⟨t, h, h1⟩ | ⟨t, h, h1, h2⟩
  · rw [h, Option.bind_some, if_pos h1]
  · rw [h, Option.bind_some, if_neg h1]
    have h2' : (l.map toC).length ≤ 1048576 := by simpa using h2
    have hp : ∀ j, l.length < j → laws_toPuzzle.f j l = some (l.map toC) := fun j hj => toPuzzle_eq l h2 j hj
    have hm : (l.map toC).length = l.length := by simp
    generalize l.map toC = L at hp h2' hm

    have hs : ∀ j, l.length + 2000 < j → spec_HarderPuzzle.f j L = some (hardR L) := fun j hj => by
      obtain ⟨j, rfl⟩ : ∃ q, j = q + 1 := ⟨j - 1, by omega⟩
      unfold spec_HarderPuzzle.f hardR
      rw [specGood_eq L h2' _ (by omega), Option.bind_some]
      show (if puzB L = true then _ else _) = _
      by_cases hB : puzB L = true
      · obtain ⟨h6, hc⟩ := puzB_iff.1 hB
        rw [if_pos hB, if_pos hB]
        unfold spec_pzSolved.f
        rw [specSols hc, Option.bind_some, Option.bind_some]
        simp only [spec_HarderPuzzle.j0]
        by_cases c : (sols L).length = 1
        · have e1 : (((sols L).length : Int) == 1) = true := by rw [beq_iff_eq]; omega
          rw [e1, Bool.not_true, if_neg (by simp), Option.bind_some, if_pos (by simp; omega), if_pos c, List.nil_append]
          exact specH_go L.length L 0 j h6 hc (by omega) (by omega)
        · have e1 : (((sols L).length : Int) == 1) = false := by rw [beq_eq_false_iff_ne]; omega
          rw [e1, Bool.not_false, if_pos rfl, if_neg c]
      · rw [if_neg hB, if_neg hB]
        simp only [spec_HarderPuzzle.j0]
        rw [if_pos trivial]
    have hi : ∀ j, l.length + 2000 < j → impl_HarderPuzzle.f j L = some (hardR L) := fun j hj => by
      unfold impl_HarderPuzzle.f impl_IsSolved.f hardR
      rw [implCount_eq, Option.bind_some, Option.bind_some]
      by_cases hB : puzB L = true
      · obtain ⟨h6, hc⟩ := puzB_iff.1 hB
        rw [if_pos hB, if_pos hB]
        by_cases c : (sols L).length = 1
        · have e1 : (((sols L).length : Int) == 1) = true := by rw [beq_iff_eq]; omega
          show (if (((sols L).length : Int) == 1) = true then _ else _) = _
          unfold impl_Clue_98.f
          rw [e1, if_pos rfl, if_pos (by omega), Option.bind_some, if_pos c]
          exact implH_go L.length L 0 j h6 hc (by omega) (by omega)
        · have e1 : (((sols L).length : Int) == 1) = false := by rw [beq_eq_false_iff_ne]; omega
          show (if (((sols L).length : Int) == 1) = true then _ else _) = _
          rw [e1, if_neg (by simp), if_neg c]
      · rw [if_neg hB, if_neg hB]
        rfl
    have hr : (hardR L).1.length ≤ 6 := by
      unfold hardR
      split
      · rename_i hB
        have h6 := (puzB_iff.1 hB).1
        split
        · exact Nat.le_trans (hGo_len _ _ _) h6
        · simp
      · simp
    generalize hardR L = r at hs hi hr
    have he : ∀ j, 8 < j → laws_eqPuzzle.f j r.1 r.1 = some true := fun j hj => eqPuzzle_refl _ (by omega) j (by omega)
    have hL : ∀ j, l.length < j → laws_eqPuzzle.f j L L = some true := fun j hj => eqPuzzle_refl _ h2' j (by omega)
    have hk1 := markPuzzle_eq L h2'
    have hk2 := markPuzzle_eq r.1 (by omega)
    have hh := held_marked r.1.length (by omega)
    rw [hp _ (by omega), Option.bind_some, hs _ (by omega), Option.bind_some, Option.bind_some, hi _ (by omega), Option.bind_some, he _ (by omega), Option.bind_some, if_pos rfl]
    simp only [laws_FnExactHarderPuzzle.j0]
    rw [if_neg (by simp), hp _ (by omega), Option.bind_some, hL _ (by omega), Option.bind_some, if_pos rfl, hk1 _ (by omega), Option.bind_some, if_neg (by omega), he _ (by omega), Option.bind_some, if_pos rfl]
    simp only [laws_FnExactHarderPuzzle.j1]
    rw [if_neg (by simp), hk2 _ (by omega), Option.bind_some, hh _ (by omega), Option.bind_some, if_neg (by omega), if_pos rfl]
    rw [hp _ (by omega), Option.bind_some, hi _ (by omega), Option.bind_some, he _ (by omega), Option.bind_some, if_pos rfl]
    simp only [laws_FnExactHarderPuzzle.j2]
    rw [if_neg (by simp), hh _ (by omega), Option.bind_some, if_neg (by omega), if_pos rfl]

end Go.Proofs.YtipiocdppghhnaaDoor.Pure
