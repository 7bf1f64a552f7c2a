/- Solutions answers as the reference does: of a puzzle all hidden chomps that fit its clues, in order; its argument stays as it was, and what it hands back is new memory, each of its rows with it. Conditions: none. -/
import Derived.Test.YtdikeggkfkkajaaDoorStFnExactSolutions
import Derived.Test.YtdikeggkfkkajaaDoorPK
namespace Go.Proofs.YtdikeggkfkkajaaDoor.Pure
open Go.RowKit Go.Proofs.YtdikeggkfkkajaaDoor.PFnExactSolutions Go.Proofs.YtdikeggkfkkajaaDoorW.PrintWords Go.Proofs.YtdikeggkfkkajaaDoorW.PrintLast Go.Proofs.YtdikeggkfkkajaaDoorW.PrintMore
set_option linter.unusedVariables false
set_option linter.unusedSimpArgs false

theorem some_iff {x y : Bool} (h : x = true ↔ y = true) : some x = some y := by rw [Bool.eq_iff_iff.2 h]
theorem l1In_eq (a b c : Int) : spec_l1In.f a b c = some (decide (b ≤ a) && decide (a ≤ c)) := by
  unfold spec_l1In.f
  by_cases h : b ≤ a
  · rw [if_pos h]; simp [h]
  · rw [if_neg h]; simp [h]
theorem within_eq (a b c : Int) : impl_within.f a b c = some (decide (b ≤ a) && decide (a ≤ c)) := by
  unfold impl_within.f
  by_cases h : b ≤ a
  · rw [if_pos h]; simp [h]
  · rw [if_neg h]; simp [h]
def clueB (a b c : Int) : Bool := decide (0 ≤ a ∧ a ≤ 5 ∧ 0 ≤ b ∧ 0 ≤ c ∧ c ≤ 20 ∧ (a = 1 → b ≤ 3) ∧ (a = 4 → b ≤ 4) ∧ (a ≠ 1 → a ≠ 4 → b ≤ 0) ∧ (a = 2 → c ≤ 1))
theorem specClue_eq (a b c : Int) (k : Nat) (hk : 0 < k) : spec_pzClue.f k a b c = some (clueB a b c) := by
  obtain ⟨k, rfl⟩ : ∃ q, k = q + 1 := ⟨k - 1, by omega⟩
  unfold spec_pzClue.f clueB
  simp only [l1In_eq, Option.bind_some, spec_pzClue.j0]
  by_cases h0 : 0 ≤ c ∧ c ≤ 20
  · rw [if_pos (by simp [h0])]
    by_cases a0 : a = 0
    · subst a0; simp only [if_true, beq_self_eq_true]; apply some_iff; simp; omega
    by_cases a3 : a = 3
    · subst a3; simp only [show ¬ (3 : Int) = 0 by decide, if_true, if_false, beq_self_eq_true]; apply some_iff; simp; omega
    have e5 : (a == 5) = decide (a = 5) := rfl
    rw [if_neg a0, if_neg a3]
    by_cases a5 : a = 5
    · subst a5; simp only [if_true, beq_self_eq_true]; apply some_iff; simp; omega
    rw [if_neg (by simpa using a5)]
    by_cases a1 : a = 1
    · subst a1; rw [if_pos rfl]; apply some_iff; simp; omega
    rw [if_neg a1]
    by_cases a2 : a = 2
    · subst a2; rw [if_pos rfl]
      by_cases b0 : b = 0
      · subst b0; rw [if_pos rfl]; apply some_iff; simp; omega
      · rw [if_neg b0]; apply some_iff; simp; omega
    rw [if_neg a2]
    by_cases a4 : a = 4
    · subst a4; rw [if_pos rfl]; apply some_iff; simp; omega
    rw [if_neg a4]; apply some_iff; simp; omega
  · rw [if_neg (by simp; omega)]; apply some_iff; simp; omega
theorem implClue_eq (a b c : Int) : impl_IsClue.f a b c = some (clueB a b c) := by
  unfold impl_IsClue.f clueB
  simp only [within_eq, Option.bind_some]
  by_cases h0 : 0 ≤ a ∧ a ≤ 5
  · rw [if_pos (by simp [h0])]
    by_cases a1 : a = 1
    · subst a1; rw [if_pos rfl]; split <;> (apply some_iff; simp_all; try omega)
    by_cases a2 : a = 2
    · subst a2; rw [if_neg (by omega), if_pos rfl]; split <;> (apply some_iff; simp_all; try omega)
    by_cases a4 : a = 4
    · subst a4; rw [if_neg (by omega), if_neg (by omega), if_pos rfl]; split <;> (apply some_iff; simp_all; try omega)
    rw [if_neg a1, if_neg a2, if_neg a4]; split <;> (apply some_iff; simp_all; try omega)
  · rw [if_neg (by simp; omega)]; apply some_iff; simp; omega

def toC (x : S92) : S69 := ⟨x.f0, x.f1, x.f2⟩
theorem szPuzzle_cases (l : List S92) (hl : l.length ≤ maxLen) : (∃ t, laws_szPuzzle.f l 1048576 = some t ∧ t < 0) ∨ (∃ t, laws_szPuzzle.f l 1048576 = some t ∧ ¬ t < 0 ∧ l.length ≤ 1048576) := by
  unfold maxLen at hl
  have hw : wrap64 (1048576 - (l.length : Int)) = 1048576 - (l.length : Int) := PK.wrap_in (by omega) (by omega)
  unfold laws_szPuzzle.f laws_szClueS.f
  rw [hw]
  by_cases h : (1048576 - (l.length : Int)) < 0
  · refine .inl ⟨-1, ?_, by omega⟩
    rw [if_pos h, Option.bind_some, if_pos (by omega)]
  · refine .inr ⟨1048576 - (l.length : Int), ?_, h, by omega⟩
    rw [if_neg h, Option.bind_some, if_neg h]
theorem toClueS_eq (l : List S92) (hl : l.length ≤ 1048576) (k : Nat) (hk : l.length < k) : laws_toClueS.f k l = some (l.map toC) := by
  unfold laws_toClueS.f
  rw [if_pos (by omega), if_pos (by omega), Int.toNat_natCast]
  have h := PK.fill_loop (ρ := List S69) l.length 0 (fun k s i => laws_toClueS.l0 k l s i) (fun i => toC (l.getD i z92)) (fun s => some s)
    (fun k i s _ hs hi => by
      try dsimp only
      simp only [laws_toClueS.l0]
      rw [if_pos (by omega), if_pos (by omega)]
      unfold laws_toClue.f
      rw [Option.bind_some, if_pos (by omega), PK.w1 hi (by omega), Int.toNat_natCast]
      congr 1)
    (fun k s _ hs => by
      try dsimp only
      simp only [laws_toClueS.l0]
      rw [if_neg (by omega)])
    (k := k) (by omega) (s := List.replicate l.length z69) (by simp)
  try dsimp only at h
  rw [h, PK.map_range]
theorem toPuzzle_eq (l : List S92) (hl : l.length ≤ 1048576) (k : Nat) (hk : l.length < k) : laws_toPuzzle.f k l = some (l.map toC) := by
  unfold laws_toPuzzle.f; rw [toClueS_eq l hl k hk]; rfl
theorem eqClueS_refl (l : List S69) (hl : l.length ≤ 1048576) (k : Nat) (hk : l.length < k) : laws_eqClueS.f k l l = some true := by
  unfold laws_eqClueS.f
  rw [if_pos rfl]
  have h := PK.all_loop0 l (fun k i => laws_eqClueS.l0 k l l i) 0 (fun _ => true)
    (fun k i hi _ => by
      try dsimp only
      simp only [laws_eqClueS.l0]
      rw [if_pos (by omega), if_pos (by omega), if_pos (by omega)]
      unfold laws_eqClue.f
      rw [if_pos rfl, if_pos rfl, if_pos rfl, Option.bind_some, if_pos rfl, if_pos trivial, PK.w1 hi (by omega)])
    (fun k _ => by
      try dsimp only
      simp only [laws_eqClueS.l0]
      rw [if_neg (by omega)])
    (k := k) (by omega)
  try dsimp only at h
  rw [h]; simp
theorem eqPuzzle_refl (l : List S69) (hl : l.length ≤ 1048576) (k : Nat) (hk : l.length < k) : laws_eqPuzzle.f k l l = some true := by
  unfold laws_eqPuzzle.f; rw [eqClueS_refl l hl k hk]; rfl

def mkC (a : Int) : S69 := ⟨a, a + 1, a + 2⟩
theorem markPuzzle_eq (l : List S69) (hl : l.length ≤ 1048576) (k : Nat) (hk : l.length < k) : laws_markPuzzle.f k l 1 = some (1 + ((3 : Nat) : Int) * (l.length : Int), (List.range l.length).map fun (i : Nat) => mkC (1 + ((3 : Nat) : Int) * (i : Int))) := by
  unfold laws_markPuzzle.f laws_markClueS.f
  have h := PK.mark_loop l.length 0 3 (fun k s a i => laws_markClueS.l0 k s a i) mkC 1 4000000 (by omega) (by omega)
    (fun k i s a _ hs hi h0 hB => by
      try dsimp only
      simp only [laws_markClueS.l0]
      have w1 : wrap64 (a + 1) = a + 1 := PK.wrap_in (by omega) (by omega)
      have w2 : wrap64 (a + 1 + 1) = a + 2 := by rw [PK.wrap_in (by omega) (by omega)]; omega
      have w3 : wrap64 (a + 2 + 1) = a + 3 := by rw [PK.wrap_in (by omega) (by omega)]; omega
      rw [if_pos (by omega), if_pos (by omega), Option.bind_some, Option.bind_some, w1, w2, w3, PK.w1 hi (by omega), Int.toNat_natCast]
      have hi' : i < s.length := by omega
      unfold rd_T69
      have g1 : ∀ v z, (s.set i v).getD ((i : Int)).toNat z = v := fun v z => PK.getD_set hi' v z
      simp only [g1, List.set_set]
      rfl)
    (fun k s a _ hs => by
      try dsimp only
      simp only [laws_markClueS.l0]
      rw [if_neg (by omega)])
    (k := k) (by omega) (s := l) rfl
  try dsimp only at h
  rw [h]; rfl

theorem specGood_eq (l : List S69) (hl : l.length ≤ 1048576) (k : Nat) (hk : l.length + 1 < k) : spec_pzGood.f k l = some (decide (l.length ≤ 6) && l.all fun c => clueB c.f0 c.f1 c.f2) := by
  unfold spec_pzGood.f
  by_cases h6 : (l.length : Int) > 6
  · rw [if_pos h6, decide_eq_false (by omega), Bool.false_and]
  · rw [if_neg h6, decide_eq_true (by omega), Bool.true_and]
    exact PK.all_loop0 l (fun k i => spec_pzGood.l0 k l (l.length : Int) i) 1 (fun c => clueB c.f0 c.f1 c.f2)
      (fun k i hi hk => by
        try dsimp only
        simp only [spec_pzGood.l0]
        rw [if_pos (by omega), if_pos (by omega), if_pos (by omega), specClue_eq _ _ _ k (by omega), Option.bind_some, PK.w1 hi (by omega)]
        unfold rd_T69
        rw [PK.getD_at hi])
      (fun k _ => by
        try dsimp only
        simp only [spec_pzGood.l0]
        rw [if_neg (by omega)])
      (by omega)
theorem implPuzzle_eq (l : List S69) : impl_IsPuzzle.f l = some (decide (l.length ≤ 6) && l.all fun c => clueB c.f0 c.f1 c.f2) := by
  unfold impl_IsPuzzle.f
  simp only [implClue_eq, Option.getD_some]

theorem eqIntS_refl (l : List Int) (hl : l.length ≤ 1048576) (k : Nat) (hk : l.length < k) : laws_eqIntS.f k l l = some true := by
  unfold laws_eqIntS.f
  rw [if_pos rfl]
  have h := PK.all_loop0 l (fun k i => laws_eqIntS.l0 k l l i) 0 (fun _ => true)
    (fun k i hi _ => by
      try dsimp only
      simp only [laws_eqIntS.l0]
      rw [if_pos (by omega), if_pos (by omega), if_pos (by omega), PK.w1 hi (by omega)])
    (fun k _ => by
      try dsimp only
      simp only [laws_eqIntS.l0]
      rw [if_neg (by omega)])
    (k := k) (by omega)
  try dsimp only at h
  rw [h]; simp

def cluesB (l : List S69) : Bool := l.all fun c => clueB c.f0 c.f1 c.f2
def puzB (l : List S69) : Bool := decide (l.length ≤ 6) && cluesB l
def sols (l : List S69) : List (List Int) := (All.all 5 4).filter fun r => l.all fun c => Chomp.told c.f0 c.f1 r == c.f2
theorem puzB_iff {l : List S69} : puzB l = true ↔ l.length ≤ 6 ∧ cluesB l = true := by unfold puzB; simp
theorem clues_sub {l m : List S69} (h : cluesB l = true) (hs : ∀ c ∈ m, c ∈ l) : cluesB m = true := List.all_eq_true.2 fun c hc => List.all_eq_true.1 h c (hs c hc)
theorem clues_pos {l : List S69} (h : cluesB l = true) : l.all (fun c => decide (0 ≤ c.f1)) = true := List.all_eq_true.2 fun c hc => by
  have := List.all_eq_true.1 h c hc
  unfold clueB at this
  simp only [decide_eq_true_eq] at this ⊢
  omega
theorem sols_len (l : List S69) : (sols l).length ≤ 1296 := by
  have h1 := All.tails_len 4 5
  have h3 : ((5 + 1) ^ 4 : Nat) = 1296 := by decide
  refine Nat.le_trans (List.length_filter_le _ _) ?_
  unfold All.all
  rw [List.length_tail]; omega
theorem implSols {l : List S69} (h : cluesB l = true) : impl_solutions.f l = some (sols l) := by
  unfold impl_solutions.f
  rw [if_pos (clues_pos h)]
  unfold impl_solutions.all sols
  congr 1
  apply List.filter_congr
  intro r _
  unfold impl_solutions.bad impl_solutions.fit
  rw [← List.all_eq_not_any_not]
theorem specSols {l : List S69} (h : cluesB l = true) : spec_pzAll.f l = some (sols l) := by
  unfold spec_pzAll.f
  rw [if_pos (clues_pos h)]
  rfl

theorem implSolutions_eq (l : List S69) : impl_Solutions.f l = some (if puzB l = true then (sols l, true) else ([], false)) := by
  unfold impl_Solutions.f
  rw [implPuzzle_eq, Option.bind_some]
  show (if puzB l = true then _ else _) = _
  by_cases h : puzB l = true
  · rw [if_pos h, if_pos h, implSols (puzB_iff.1 h).2]; rfl
  · rw [if_neg h, if_neg h]

def mkI (a : Int) : Int := a
def row (n : Nat) (a : Int) : List Int := (List.range n).map fun (i : Nat) => mkI (a + ((1 : Nat) : Int) * (i : Int))
def tot : List (List Int) → Nat
  | [] => 0
  | x :: t => x.length + tot t
def rows : List (List Int) → Int → List (List Int)
  | [], _ => []
  | x :: t, a => row x.length a :: rows t (a + (x.length : Int))
theorem markAt (l : List Int) (a : Int) (h0 : 0 ≤ a) (hB : a + (l.length : Int) ≤ 4000000) (k : Nat) (hk : l.length < k) : laws_markIntS.f k l a = some (a + (l.length : Int), row l.length a) := by
  unfold laws_markIntS.f
  have h := PK.mark_loop l.length 0 1 (fun k s a i => laws_markIntS.l0 k s a i) mkI a 4000000 h0 (by omega)
    (fun k i s a _ hs hi h0 hB => by
      try dsimp only
      simp only [laws_markIntS.l0]
      have w1 : wrap64 (a + 1) = a + 1 := PK.wrap_in (by omega) (by omega)
      rw [if_pos (by omega), if_pos (by omega), w1, PK.w1 hi (by omega), Int.toNat_natCast]
      rfl)
    (fun k s a _ hs => by
      try dsimp only
      simp only [laws_markIntS.l0]
      rw [if_neg (by omega)])
    (k := k) (by omega) (s := l) rfl
  try dsimp only at h
  rw [h]
  unfold row
  congr 2
  omega
theorem heldAt (n : Nat) (a : Int) (h0 : 0 ≤ a) (hB : a + (n : Int) ≤ 4000000) (k : Nat) (hk : n < k) : laws_heldIntS.f k (row n a) a = some (a + (n : Int)) := by
  have hl : (row n a).length = n := by unfold row; simp
  have hx : ∀ i (h : i < (row n a).length), (row n a)[i] = mkI (a + ((1 : Nat) : Int) * (i : Int)) := fun i h => by unfold row; simp
  generalize row n a = l at hl hx
  subst hl
  unfold laws_heldIntS.f
  have h := PK.held_loop l 0 1 (fun k a i => laws_heldIntS.l0 k l a i) mkI a 4000000 h0 (by omega) hx
    (fun k i hi a _ h0 hB hm => by
      try dsimp only
      simp only [laws_heldIntS.l0]
      have w1 : wrap64 (a + 1) = a + 1 := PK.wrap_in (by omega) (by omega)
      rw [PK.rd_at hi, hm, w1, PK.w1 hi (by omega)]
      rw [if_pos (by omega), if_pos (by omega), if_pos (show mkI a = a from rfl)]
      rfl)
    (fun k a _ => by
      try dsimp only
      simp only [laws_heldIntS.l0]
      rw [if_neg (by omega)])
    (k := k) (by omega)
  try dsimp only at h
  rw [h]
  congr 1
  omega
theorem markSS (k : Nat) : ∀ (L : List (List Int)) (a : Int), 0 ≤ a → a + (tot L : Int) ≤ 4000000 → (∀ x ∈ L, x.length < k) → laws_markIntSS.f k L a = some (a + (tot L : Int), rows L a)
  | [], a, _, _, _ => by
    unfold laws_markIntSS.f tot rows
    rw [Int.natCast_zero, Int.add_zero]
  | x :: t, a, h0, hB, hk => by
    have hB' : a + (x.length : Int) + (tot t : Int) ≤ 4000000 := by unfold tot at hB; omega
    unfold laws_markIntSS.f
    rw [markAt x a h0 (by omega) k (hk x (by simp)), Option.bind_some, markSS k t (a + (x.length : Int)) (by omega) hB' (fun y hy => hk y (by simp [hy])), Option.bind_some]
    show some (a + (x.length : Int) + (tot t : Int), row x.length a :: rows t (a + (x.length : Int))) = some (a + ((x.length + tot t : Nat) : Int), rows (x :: t) a)
    congr 2
    omega
theorem rows_len : ∀ (L : List (List Int)) (a : Int), (rows L a).length = L.length
  | [], _ => rfl
  | x :: t, a => by unfold rows; rw [List.length_cons, List.length_cons, rows_len t]
theorem heldSS (M : List (List Int)) (hM : M.length ≤ 100000) : ∀ (T : List (List Int)) (i : Nat) (a : Int) (k m : Nat), M.drop i = rows T a → 0 ≤ a → a + (tot T : Int) ≤ 4000000 → (∀ x ∈ T, x.length < m) → T.length + m < k → laws_heldIntSS.l0 k M a (i : Int) = some (a + (tot T : Int))
  | [], i, a, k, m, hd, _, _, _, hk => by
    obtain ⟨k, rfl⟩ : ∃ q, k = q + 1 := ⟨k - 1, by omega⟩
    have hl : M.length ≤ i := by
      have := congrArg List.length hd
      rw [List.length_drop, rows_len] at this
      simp at this
      omega
    simp only [laws_heldIntSS.l0]
    rw [if_neg (by omega)]
    simp [tot]
  | x :: t, i, a, k, m, hd, h0, hB, hx, hk => by
    obtain ⟨k, rfl⟩ : ∃ q, k = q + 1 := ⟨k - 1, by omega⟩
    have hB' : a + (x.length : Int) + (tot t : Int) ≤ 4000000 := by unfold tot at hB; omega
    have hlt : i < M.length := by
      have := congrArg List.length hd
      rw [List.length_drop, rows_len] at this
      simp at this
      omega
    rw [List.drop_eq_getElem_cons hlt] at hd
    unfold rows at hd
    injection hd with hd1 hd2
    have hr : rd_L3 M (i : Int) = row x.length a := by
      unfold rd_L3
      rw [PK.getD_at hlt]
      exact hd1
    have hxl := hx x (by simp)
    rw [List.length_cons] at hk
    simp only [laws_heldIntSS.l0]
    rw [if_pos (by omega), if_pos (by omega), hr, heldAt x.length a h0 (by omega) k (by omega), Option.bind_some, if_neg (by omega), PK.w1 hlt (by omega), heldSS M hM t (i + 1) (a + (x.length : Int)) k m hd2 (by omega) hB' (fun y hy => hx y (by simp [hy])) (by omega)]
    show some (a + (x.length : Int) + (tot t : Int)) = some (a + ((x.length + tot t : Nat) : Int))
    congr 1
    omega
theorem eqSS_refl (L : List (List Int)) (hL : L.length ≤ 100000) (k : Nat) (hx : ∀ x ∈ L, x.length ≤ 1000) (hk : L.length + 1001 < k) : laws_eqIntSS.f k L L = some true := by
  unfold laws_eqIntSS.f
  rw [if_pos rfl]
  have h := PK.all_loop0 L (fun k i => laws_eqIntSS.l0 k L L i) 1001 (fun _ => true)
    (fun k i hi hm => by
      try dsimp only
      have hr : rd_L3 L (i : Int) = L[i] := by
        unfold rd_L3
        exact PK.getD_at hi _
      have hxi := hx L[i] (List.getElem_mem hi)
      simp only [laws_eqIntSS.l0]
      rw [if_pos (by omega), if_pos (by omega), if_pos (by omega), hr, eqIntS_refl L[i] (by omega) k (by omega), Option.bind_some, if_pos rfl, if_pos trivial, PK.w1 hi (by omega)])
    (fun k _ => by
      try dsimp only
      simp only [laws_eqIntSS.l0]
      rw [if_neg (by omega)])
    (k := k) (by omega)
  try dsimp only at h
  rw [h]; simp
theorem tot_le (n : Nat) : ∀ (L : List (List Int)), (∀ x ∈ L, x.length ≤ n) → tot L ≤ n * L.length
  | [], _ => by simp [tot]
  | x :: t, h => by
    have h1 := h x (by simp)
    have h2 := tot_le n t (fun y hy => h y (by simp [hy]))
    unfold tot
    rw [List.length_cons, Nat.mul_succ]
    omega
def solsR (L : List S69) : List (List Int) × Bool := if puzB L = true then (sols L, true) else ([], false)
theorem FnExactSolutions : laws_FnExactSolutions.Pure := by
  intro l hl
  refine ⟨l.length + 5000, ?_⟩
  unfold laws_FnExactSolutions.f
  rcases szPuzzle_cases l hl.1 with ⟨t, h, h1⟩ | ⟨t, h, h1, h2⟩
  · rw [h, Option.bind_some, if_pos h1]
  · rw [h, Option.bind_some, if_neg h1]
    have h2' : (l.map toC).length ≤ 1048576 := by simpa using h2
    have hp : ∀ j, l.length < j → laws_toPuzzle.f j l = some (l.map toC) := fun j hj => toPuzzle_eq l h2 j hj
    have hm : (l.map toC).length = l.length := by simp
    generalize l.map toC = L at hp h2' hm

    have hs : ∀ j, l.length + 2000 < j → spec_Solutions.f j L = some (solsR L) := fun j hj => by
      unfold spec_Solutions.f solsR
      rw [specGood_eq L h2' _ (by omega), Option.bind_some]
      show (if puzB L = true then _ else _) = _
      by_cases hB : puzB L = true
      · rw [if_pos hB, if_pos hB, specSols (puzB_iff.1 hB).2]; rfl
      · rw [if_neg hB, if_neg hB]
    have hi : impl_Solutions.f L = some (solsR L) := implSolutions_eq L
    have hr : (solsR L).1.length ≤ 1296 ∧ ∀ x ∈ (solsR L).1, x.length ≤ 4 := by
      unfold solsR
      split
      · exact ⟨sols_len L, fun x hx => (All.mem_all.1 (List.mem_filter.1 hx).1).2.1⟩
      · exact ⟨by simp, fun x hx => by simp at hx⟩
    generalize solsR L = r at hs hi hr
    have ht := tot_le 4 r.1 hr.2
    have he := eqSS_refl r.1 (by omega) (l.length + 5000) (fun x hx => Nat.le_trans (hr.2 x hx) (by omega)) (by omega)
    have hL := eqPuzzle_refl L h2' (l.length + 5000) (by omega)
    have hk1 := markPuzzle_eq L h2' (l.length + 5000) (by omega)
    have hk2 := markSS (l.length + 5000) r.1 1 (by omega) (by omega) (fun x hx => Nat.lt_of_le_of_lt (hr.2 x hx) (by omega))
    have hh : laws_heldIntSS.f (l.length + 5000) (rows r.1 1) 1 = some (1 + (tot r.1 : Int)) := by
      unfold laws_heldIntSS.f
      exact heldSS (rows r.1 1) (by rw [rows_len]; omega) r.1 0 1 _ 5 rfl (by omega) (by omega) (fun x hx => Nat.lt_of_le_of_lt (hr.2 x hx) (by omega)) (by omega)
    rw [hp _ (by omega), Option.bind_some, hs _ (by omega), Option.bind_some, hi, Option.bind_some, he, Option.bind_some, if_pos rfl, if_pos rfl, hL, Option.bind_some, if_pos rfl, hk1, Option.bind_some, if_neg (by omega), hk2, Option.bind_some, hh, Option.bind_some, if_neg (by omega), if_pos rfl]
end Go.Proofs.YtdikeggkfkkajaaDoor.Pure
