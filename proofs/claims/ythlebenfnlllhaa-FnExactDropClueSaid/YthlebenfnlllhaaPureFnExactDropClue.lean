/- DropClue answers as the reference does: of a puzzle and the index of one of its clues the puzzle without that clue, else nothing; its argument stays as it was, and what it hands back is new memory. Conditions: none. -/
import Derived.Test.YthlebenfnlllhaaStFnExactDropClue
import Derived.Test.YthlebenfnlllhaaPK
namespace Go.Proofs.Ythlebenfnlllhaa.Pure
open Go.RowKit Go.Proofs.Ythlebenfnlllhaa.PFnExactDropClue Go.Proofs.YthlebenfnlllhaaW.PrintWords Go.Proofs.YthlebenfnlllhaaW.PrintLast Go.Proofs.YthlebenfnlllhaaW.PrintMore
set_option linter.unusedVariables false
set_option linter.unusedSimpArgs false

theorem some_iff {x y : Bool} (h : x = true ↔ y = true) : some x = some y := by rw [Bool.eq_iff_iff.2 h]
theorem l1In_eq (a b c : Int) : spec_l1In.f a b c = some (decide (b ≤ a) && decide (a ≤ c)) := by
  unfold spec_l1In.f
  by_cases h : b ≤ a
  · rw [if_pos h]; simp [h]
  · rw [if_neg h]; simp [h]
theorem within_eq (a b c : Int) : impl_within.f a b c = some (decide (b ≤ a) && decide (a ≤ c)) := by
  unfold impl_within.f
  by_cases h : b ≤ a
  · rw [if_pos h]; simp [h]
  · rw [if_neg h]; simp [h]
def clueB (a b c : Int) : Bool := decide (0 ≤ a ∧ a ≤ 5 ∧ 0 ≤ b ∧ 0 ≤ c ∧ c ≤ 20 ∧ (a = 1 → b ≤ 3) ∧ (a = 4 → b ≤ 4) ∧ (a ≠ 1 → a ≠ 4 → b ≤ 0) ∧ (a = 2 → c ≤ 1))
theorem specClue_eq (a b c : Int) (k : Nat) (hk : 0 < k) : spec_pzClue.f k a b c = some (clueB a b c) := by
  obtain ⟨k, rfl⟩ : ∃ q, k = q + 1 := ⟨k - 1, by omega⟩
  unfold spec_pzClue.f clueB
  simp only [l1In_eq, Option.bind_some, spec_pzClue.j0]
  by_cases h0 : 0 ≤ c ∧ c ≤ 20
  · rw [if_pos (by simp [h0])]
    by_cases a0 : a = 0
    · subst a0; simp only [if_true, beq_self_eq_true]; apply some_iff; simp; omega
    by_cases a3 : a = 3
    · subst a3; simp only [show ¬ (3 : Int) = 0 by decide, if_true, if_false, beq_self_eq_true]; apply some_iff; simp; omega
    have e5 : (a == 5) = decide (a = 5) := rfl
    rw [if_neg a0, if_neg a3]
    by_cases a5 : a = 5
    · subst a5; simp only [if_true, beq_self_eq_true]; apply some_iff; simp; omega
    rw [if_neg (by simpa using a5)]
    by_cases a1 : a = 1
    · subst a1; rw [if_pos rfl]; apply some_iff; simp; omega
    rw [if_neg a1]
    by_cases a2 : a = 2
    · subst a2; rw [if_pos rfl]
      by_cases b0 : b = 0
      · subst b0; rw [if_pos rfl]; apply some_iff; simp; omega
      · rw [if_neg b0]; apply some_iff; simp; omega
    rw [if_neg a2]
    by_cases a4 : a = 4
    · subst a4; rw [if_pos rfl]; apply some_iff; simp; omega
    rw [if_neg a4]; apply some_iff; simp; omega
  · rw [if_neg (by simp; omega)]; apply some_iff; simp; omega
theorem implClue_eq (a b c : Int) : impl_IsClue.f a b c = some (clueB a b c) := by
  unfold impl_IsClue.f clueB
  simp only [within_eq, Option.bind_some]
  by_cases h0 : 0 ≤ a ∧ a ≤ 5
  · rw [if_pos (by simp [h0])]
    by_cases a1 : a = 1
    · subst a1; rw [if_pos rfl]; split <;> (apply some_iff; simp_all; try omega)
    by_cases a2 : a = 2
    · subst a2; rw [if_neg (by omega), if_pos rfl]; split <;> (apply some_iff; simp_all; try omega)
    by_cases a4 : a = 4
    · subst a4; rw [if_neg (by omega), if_neg (by omega), if_pos rfl]; split <;> (apply some_iff; simp_all; try omega)
    rw [if_neg a1, if_neg a2, if_neg a4]; split <;> (apply some_iff; simp_all; try omega)
  · rw [if_neg (by simp; omega)]; apply some_iff; simp; omega

def toC (x : S30) : S32 := ⟨x.f0, x.f1, x.f2⟩
theorem szPuzzle_cases (l : List S30) (hl : l.length ≤ maxLen) : (∃ t, laws_szPuzzle.f l 1048576 = some t ∧ t < 0) ∨ (∃ t, laws_szPuzzle.f l 1048576 = some t ∧ ¬ t < 0 ∧ l.length ≤ 1048576) := by
  unfold maxLen at hl
  have hw : wrap64 (1048576 - (l.length : Int)) = 1048576 - (l.length : Int) := PK.wrap_in (by omega) (by omega)
  unfold laws_szPuzzle.f laws_szClueS.f
  rw [hw]
  by_cases h : (1048576 - (l.length : Int)) < 0
  · refine .inl ⟨-1, ?_, by omega⟩
    rw [if_pos h, Option.bind_some, if_pos (by omega)]
  · refine .inr ⟨1048576 - (l.length : Int), ?_, h, by omega⟩
    rw [if_neg h, Option.bind_some, if_neg h]
theorem toClueS_eq (l : List S30) (hl : l.length ≤ 1048576) (k : Nat) (hk : l.length < k) : laws_toClueS.f k l = some (l.map toC) := by
  unfold laws_toClueS.f
  rw [if_pos (by omega), if_pos (by omega), Int.toNat_natCast]
  have h := PK.fill_loop (ρ := List S32) l.length 0 (fun k s i => laws_toClueS.l0 k l s i) (fun i => toC (l.getD i z30)) (fun s => some s)
    (fun k i s _ hs hi => by
      try dsimp only
      simp only [laws_toClueS.l0]
      rw [if_pos (by omega), if_pos (by omega)]
      unfold laws_toClue.f
      rw [Option.bind_some, if_pos (by omega), PK.w1 hi (by omega), Int.toNat_natCast]
      congr 1)
    (fun k s _ hs => by
      try dsimp only
      simp only [laws_toClueS.l0]
      rw [if_neg (by omega)])
    (k := k) (by omega) (s := List.replicate l.length z32) (by simp)
  try dsimp only at h
  rw [h, PK.map_range]
theorem toPuzzle_eq (l : List S30) (hl : l.length ≤ 1048576) (k : Nat) (hk : l.length < k) : laws_toPuzzle.f k l = some (l.map toC) := by
  unfold laws_toPuzzle.f; rw [toClueS_eq l hl k hk]; rfl
theorem eqClueS_refl (l : List S32) (hl : l.length ≤ 1048576) (k : Nat) (hk : l.length < k) : laws_eqClueS.f k l l = some true := by
  unfold laws_eqClueS.f
  rw [if_pos rfl]
  have h := PK.all_loop0 l (fun k i => laws_eqClueS.l0 k l l i) 0 (fun _ => true)
    (fun k i hi _ => by
      try dsimp only
      simp only [laws_eqClueS.l0]
      rw [if_pos (by omega), if_pos (by omega), if_pos (by omega)]
      unfold laws_eqClue.f
      rw [if_pos rfl, if_pos rfl, if_pos rfl, Option.bind_some, if_pos rfl, if_pos trivial, PK.w1 hi (by omega)])
    (fun k _ => by
      try dsimp only
      simp only [laws_eqClueS.l0]
      rw [if_neg (by omega)])
    (k := k) (by omega)
  try dsimp only at h
  rw [h]; simp
theorem eqPuzzle_refl (l : List S32) (hl : l.length ≤ 1048576) (k : Nat) (hk : l.length < k) : laws_eqPuzzle.f k l l = some true := by
  unfold laws_eqPuzzle.f; rw [eqClueS_refl l hl k hk]; rfl

def mkC (a : Int) : S32 := ⟨a, a + 1, a + 2⟩
theorem markPuzzle_eq (l : List S32) (hl : l.length ≤ 1048576) (k : Nat) (hk : l.length < k) : laws_markPuzzle.f k l 1 = some (1 + ((3 : Nat) : Int) * (l.length : Int), (List.range l.length).map fun (i : Nat) => mkC (1 + ((3 : Nat) : Int) * (i : Int))) := by
  unfold laws_markPuzzle.f laws_markClueS.f
  have h := PK.mark_loop l.length 0 3 (fun k s a i => laws_markClueS.l0 k s a i) mkC 1 4000000 (by omega) (by omega)
    (fun k i s a _ hs hi h0 hB => by
      try dsimp only
      simp only [laws_markClueS.l0]
      have w1 : wrap64 (a + 1) = a + 1 := PK.wrap_in (by omega) (by omega)
      have w2 : wrap64 (a + 1 + 1) = a + 2 := by rw [PK.wrap_in (by omega) (by omega)]; omega
      have w3 : wrap64 (a + 2 + 1) = a + 3 := by rw [PK.wrap_in (by omega) (by omega)]; omega
      rw [if_pos (by omega), if_pos (by omega), Option.bind_some, Option.bind_some, w1, w2, w3, PK.w1 hi (by omega), Int.toNat_natCast]
      have hi' : i < s.length := by omega
      unfold rd_T32
      have g1 : ∀ v z, (s.set i v).getD ((i : Int)).toNat z = v := fun v z => PK.getD_set hi' v z
      simp only [g1, List.set_set]
      rfl)
    (fun k s a _ hs => by
      try dsimp only
      simp only [laws_markClueS.l0]
      rw [if_neg (by omega)])
    (k := k) (by omega) (s := l) rfl
  try dsimp only at h
  rw [h]; rfl
theorem heldPuzzle_eq (l : List S32) (hl : l.length ≤ 1048576) (hx : ∀ i (h : i < l.length), l[i] = mkC (1 + ((3 : Nat) : Int) * (i : Int))) (k : Nat) (hk : l.length < k) : laws_heldPuzzle.f k l 1 = some (1 + ((3 : Nat) : Int) * (l.length : Int)) := by
  unfold laws_heldPuzzle.f laws_heldClueS.f
  have h := PK.held_loop l 0 3 (fun k a i => laws_heldClueS.l0 k l a i) mkC 1 4000000 (by omega) (by omega) hx
    (fun k i hi a _ h0 hB hm => by
      try dsimp only
      simp only [laws_heldClueS.l0]
      have w1 : wrap64 (a + 1) = a + 1 := PK.wrap_in (by omega) (by omega)
      have w2 : wrap64 (a + 1 + 1) = a + 2 := by rw [PK.wrap_in (by omega) (by omega)]; omega
      have w3 : wrap64 (a + 2 + 1) = a + 3 := by rw [PK.wrap_in (by omega) (by omega)]; omega
      unfold rd_T32
      rw [PK.getD_at hi, hm, w1, w2, w3, PK.w1 hi (by omega)]
      rw [if_pos (by omega), if_pos (by omega), if_pos (show (mkC a).f0 = a from rfl), if_pos (show (mkC a).f1 = a + 1 from rfl), if_pos (show (mkC a).f2 = a + 2 from rfl)]
      rfl)
    (fun k a _ => by
      try dsimp only
      simp only [laws_heldClueS.l0]
      rw [if_neg (by omega)])
    (k := k) (by omega)
  try dsimp only at h
  rw [h, Option.bind_some, if_neg (by omega)]
theorem held_marked (n : Nat) (hn : n ≤ 1048576) (k : Nat) (hk : n < k) : laws_heldPuzzle.f k ((List.range n).map fun (i : Nat) => mkC (1 + ((3 : Nat) : Int) * (i : Int))) 1 = some (1 + ((3 : Nat) : Int) * (n : Int)) := by
  have h := heldPuzzle_eq ((List.range n).map fun (i : Nat) => mkC (1 + ((3 : Nat) : Int) * (i : Int))) (by simpa using hn) (fun i h => PK.marked_at h) k (by simpa using hk)
  simpa using h

theorem specGood_eq (l : List S32) (hl : l.length ≤ 1048576) (k : Nat) (hk : l.length + 1 < k) : spec_pzGood.f k l = some (decide (l.length ≤ 6) && l.all fun c => clueB c.f0 c.f1 c.f2) := by
  unfold spec_pzGood.f
  by_cases h6 : (l.length : Int) > 6
  · rw [if_pos h6, decide_eq_false (by omega), Bool.false_and]
  · rw [if_neg h6, decide_eq_true (by omega), Bool.true_and]
    exact PK.all_loop0 l (fun k i => spec_pzGood.l0 k l (l.length : Int) i) 1 (fun c => clueB c.f0 c.f1 c.f2)
      (fun k i hi hk => by
        try dsimp only
        simp only [spec_pzGood.l0]
        rw [if_pos (by omega), if_pos (by omega), if_pos (by omega), specClue_eq _ _ _ k (by omega), Option.bind_some, PK.w1 hi (by omega)]
        unfold rd_T32
        rw [PK.getD_at hi])
      (fun k _ => by
        try dsimp only
        simp only [spec_pzGood.l0]
        rw [if_neg (by omega)])
      (by omega)
theorem implPuzzle_eq (l : List S32) : impl_IsPuzzle.f l = some (decide (l.length ≤ 6) && l.all fun c => clueB c.f0 c.f1 c.f2) := by
  unfold impl_IsPuzzle.f
  simp only [implClue_eq, Option.getD_some]

def dropR (l : List S32) (a : Int) : List S32 × Bool :=
  if (decide (l.length ≤ 6) && l.all fun c => clueB c.f0 c.f1 c.f2) = true then if (decide (0 ≤ a) && decide (a ≤ (l.length : Int) - 1)) = true then (l.eraseIdx a.toNat, true) else ([], false) else ([], false)
theorem dropR_le (l : List S32) (a : Int) : (dropR l a).1.length ≤ 6 := by
  unfold dropR
  split
  · rename_i h
    simp at h
    split
    · have := List.length_eraseIdx_le l a.toNat
      simp only
      omega
    · simp
  · simp
theorem without_eq (l : List S32) (a : Int) (hl : l.length ≤ 1048576) (h0 : 0 ≤ a) (h1 : a ≤ (l.length : Int) - 1) : spec_pzWithout.f l a = some (l.eraseIdx a.toNat) := by
  unfold spec_pzWithout.f
  have hw : wrap64 (a + 1) = a + 1 := PK.wrap_in (by omega) (by omega)
  rw [hw, Option.bind_some, if_pos h0, if_pos (by omega), Option.bind_some, if_pos (by simp; omega), Option.bind_some, if_pos (by omega), if_pos (by omega), Option.bind_some, if_pos (by simp; omega)]
  rw [List.eraseIdx_eq_take_drop_succ, List.nil_append, show (a + 1).toNat = a.toNat + 1 by omega]
theorem wsub (l : List S32) (hl : l.length ≤ 1048576) : wrap64 ((l.length : Int) - 1) = (l.length : Int) - 1 := PK.wrap_in (by omega) (by omega)
theorem specDrop_eq (l : List S32) (a : Int) (hl : l.length ≤ 1048576) (k : Nat) (hk : l.length + 1 < k) : spec_DropClue.f k l a = some (dropR l a) := by
  unfold spec_DropClue.f dropR
  rw [specGood_eq l hl k hk, Option.bind_some, l1In_eq, wsub l hl]
  split
  · rw [Option.bind_some]
    split
    · rename_i h
      simp at h
      rw [without_eq l a hl h.1 h.2, Option.bind_some]
    · rfl
  · rfl
theorem implDrop_eq (l : List S32) (a : Int) (hl : l.length ≤ 1048576) : impl_DropClue.f l a = some (dropR l a) := by
  unfold impl_DropClue.f dropR
  rw [implPuzzle_eq l, Option.bind_some, within_eq, wsub l hl]
  split
  · rw [Option.bind_some]
    split
    · rename_i h
      simp at h
      unfold impl_dropped.f impl_Clue_78.f
      rw [if_pos ⟨h.1, by omega⟩, if_pos (by omega), Option.bind_some, Option.bind_some]
    · rfl
  · rfl
theorem FnExactDropClue : laws_FnExactDropClue.Pure := by
  intro l a hl _
  refine ⟨l.length + 30, ?_⟩
  unfold laws_FnExactDropClue.f
  rcases szPuzzle_cases l hl.1 with ⟨t, h, h1⟩ | ⟨t, h, h1, h2⟩
  · rw [h, Option.bind_some, if_pos h1]
  · rw [h, Option.bind_some, if_neg h1]
    have h2' : (l.map toC).length ≤ 1048576 := by simpa using h2
    have hp : ∀ j, l.length < j → laws_toPuzzle.f j l = some (l.map toC) := fun j hj => toPuzzle_eq l h2 j hj
    have hs : ∀ j, l.length + 1 < j → spec_DropClue.f j (l.map toC) a = some (dropR (l.map toC) a) := fun j hj => specDrop_eq _ _ h2' j (by simpa using hj)
    have hi := implDrop_eq (l.map toC) a h2'
    have hr := dropR_le (l.map toC) a
    have hm : (l.map toC).length = l.length := by simp
    generalize dropR (l.map toC) a = r at hs hi hr
    generalize l.map toC = L at hp hs hi h2' hm
    have he : ∀ j, 8 < j → laws_eqPuzzle.f j r.1 r.1 = some true := fun j hj => eqPuzzle_refl _ (by omega) j (by omega)
    have hL : ∀ j, l.length < j → laws_eqPuzzle.f j L L = some true := fun j hj => eqPuzzle_refl _ h2' j (by omega)
    have hk1 := markPuzzle_eq L h2'
    have hk2 := markPuzzle_eq r.1 (by omega)
    have hh := held_marked r.1.length (by omega)
    rw [hp _ (by omega), Option.bind_some, hs _ (by omega), Option.bind_some, Option.bind_some, hi, Option.bind_some, he _ (by omega), Option.bind_some, if_pos rfl]
    simp only [laws_FnExactDropClue.j0]
    rw [if_neg (by simp), hp _ (by omega), Option.bind_some, hL _ (by omega), Option.bind_some, if_pos rfl, hk1 _ (by omega), Option.bind_some, if_neg (by omega), he _ (by omega), Option.bind_some, if_pos rfl]
    simp only [laws_FnExactDropClue.j1]
    rw [if_neg (by simp), hk2 _ (by omega), Option.bind_some, hh _ (by omega), Option.bind_some, if_neg (by omega), if_pos rfl]
    rw [hp _ (by omega), Option.bind_some, hi, Option.bind_some, he _ (by omega), Option.bind_some, if_pos rfl]
    simp only [laws_FnExactDropClue.j2]
    rw [if_neg (by simp), hh _ (by omega), Option.bind_some, if_neg (by omega), if_pos rfl]
end Go.Proofs.Ythlebenfnlllhaa.Pure
