/- SureRows answers as the reference does: of a puzzle with a solution how many squares each row has in all solutions, or -1; its argument stays as it was, and what it hands back is new memory. Conditions: none. -/
import Derived.Test.YtipiocdppghhnaaDoorStFnExactSureRows
import Derived.Test.YtipiocdppghhnaaDoorPK
namespace Go.Proofs.YtipiocdppghhnaaDoor.Pure
open Go.RowKit Go.Proofs.YtipiocdppghhnaaDoor.PFnExactSureRows Go.Proofs.YtipiocdppghhnaaDoorW.PrintWords Go.Proofs.YtipiocdppghhnaaDoorW.PrintLast Go.Proofs.YtipiocdppghhnaaDoorW.PrintMore
set_option linter.unusedVariables false
set_option linter.unusedSimpArgs false

theorem some_iff {x y : Bool} (h : x = true ↔ y = true) : some x = some y := by rw [Bool.eq_iff_iff.2 h]
theorem l1In_eq (a b c : Int) : spec_l1In.f a b c = some (decide (b ≤ a) && decide (a ≤ c)) := by
  unfold spec_l1In.f
  by_cases h : b ≤ a
  · rw [if_pos h]; simp [h]
  · rw [if_neg h]; simp [h]
theorem within_eq (a b c : Int) : impl_within.f a b c = some (decide (b ≤ a) && decide (a ≤ c)) := by
  unfold impl_within.f
  by_cases h : b ≤ a
  · rw [if_pos h]; simp [h]
  · rw [if_neg h]; simp [h]
def clueB (a b c : Int) : Bool := decide (0 ≤ a ∧ a ≤ 5 ∧ 0 ≤ b ∧ 0 ≤ c ∧ c ≤ 20 ∧ (a = 1 → b ≤ 3) ∧ (a = 4 → b ≤ 4) ∧ (a ≠ 1 → a ≠ 4 → b ≤ 0) ∧ (a = 2 → c ≤ 1))
theorem specClue_eq (a b c : Int) (k : Nat) (hk : 0 < k) : spec_pzClue.f k a b c = some (clueB a b c) := by
  obtain ⟨k, rfl⟩ : ∃ q, k = q + 1 := ⟨k - 1, by omega⟩
  unfold spec_pzClue.f clueB
  simp only [l1In_eq, Option.bind_some, spec_pzClue.j0]
  by_cases h0 : 0 ≤ c ∧ c ≤ 20
  · rw [if_pos (by simp [h0])]
    by_cases a0 : a = 0
    · subst a0; simp only [if_true, beq_self_eq_true]; apply some_iff; simp; omega
    by_cases a3 : a = 3
    · subst a3; simp only [show ¬ (3 : Int) = 0 by decide, if_true, if_false, beq_self_eq_true]; apply some_iff; simp; omega
    have e5 : (a == 5) = decide (a = 5) := rfl
    rw [if_neg a0, if_neg a3]
    by_cases a5 : a = 5
    · subst a5; simp only [if_true, beq_self_eq_true]; apply some_iff; simp; omega
    rw [if_neg (by simpa using a5)]
    by_cases a1 : a = 1
    · subst a1; rw [if_pos rfl]; apply some_iff; simp; omega
    rw [if_neg a1]
    by_cases a2 : a = 2
    · subst a2; rw [if_pos rfl]
      by_cases b0 : b = 0
      · subst b0; rw [if_pos rfl]; apply some_iff; simp; omega
      · rw [if_neg b0]; apply some_iff; simp; omega
    rw [if_neg a2]
    by_cases a4 : a = 4
    · subst a4; rw [if_pos rfl]; apply some_iff; simp; omega
    rw [if_neg a4]; apply some_iff; simp; omega
  · rw [if_neg (by simp; omega)]; apply some_iff; simp; omega
theorem implClue_eq (a b c : Int) : impl_IsClue.f a b c = some (clueB a b c) := by
  unfold impl_IsClue.f clueB
  simp only [within_eq, Option.bind_some]
  by_cases h0 : 0 ≤ a ∧ a ≤ 5
  · rw [if_pos (by simp [h0])]
    by_cases a1 : a = 1
    · subst a1; rw [if_pos rfl]; split <;> (apply some_iff; simp_all; try omega)
    by_cases a2 : a = 2
    · subst a2; rw [if_neg (by omega), if_pos rfl]; split <;> (apply some_iff; simp_all; try omega)
    by_cases a4 : a = 4
    · subst a4; rw [if_neg (by omega), if_neg (by omega), if_pos rfl]; split <;> (apply some_iff; simp_all; try omega)
    rw [if_neg a1, if_neg a2, if_neg a4]; split <;> (apply some_iff; simp_all; try omega)
  · rw [if_neg (by simp; omega)]; apply some_iff; simp; omega

def toC (x : S39) : S42 := ⟨x.f0, x.f1, x.f2⟩
theorem szPuzzle_cases (l : List S39) (hl : l.length ≤ maxLen) : (∃ t, laws_szPuzzle.f l 1048576 = some t ∧ t < 0) ∨ (∃ t, laws_szPuzzle.f l 1048576 = some t ∧ ¬ t < 0 ∧ l.length ≤ 1048576) := by
  unfold maxLen at hl
  have hw : wrap64 (1048576 - (l.length : Int)) = 1048576 - (l.length : Int) := PK.wrap_in (by omega) (by omega)
  unfold laws_szPuzzle.f laws_szClueS.f
  rw [hw]
  by_cases h : (1048576 - (l.length : Int)) < 0
  · refine .inl ⟨-1, ?_, by omega⟩
    rw [if_pos h, Option.bind_some, if_pos (by omega)]
  · refine .inr ⟨1048576 - (l.length : Int), ?_, h, by omega⟩
    rw [if_neg h, Option.bind_some, if_neg h]
theorem toClueS_eq (l : List S39) (hl : l.length ≤ 1048576) (k : Nat) (hk : l.length < k) : laws_toClueS.f k l = some (l.map toC) := by
  unfold laws_toClueS.f
  rw [if_pos (by omega), if_pos (by omega), Int.toNat_natCast]
  have h := PK.fill_loop (ρ := List S42) l.length 0 (fun k s i => laws_toClueS.l0 k l s i) (fun i => toC (l.getD i z39)) (fun s => some s)
    (fun k i s _ hs hi => by
      try dsimp only
      simp only [laws_toClueS.l0]
      rw [if_pos (by omega), if_pos (by omega)]
      unfold laws_toClue.f
      rw [Option.bind_some, if_pos (by omega), PK.w1 hi (by omega), Int.toNat_natCast]
      congr 1)
    (fun k s _ hs => by
      try dsimp only
      simp only [laws_toClueS.l0]
      rw [if_neg (by omega)])
    (k := k) (by omega) (s := List.replicate l.length z42) (by simp)
  try dsimp only at h
  rw [h, PK.map_range]
theorem toPuzzle_eq (l : List S39) (hl : l.length ≤ 1048576) (k : Nat) (hk : l.length < k) : laws_toPuzzle.f k l = some (l.map toC) := by
  unfold laws_toPuzzle.f; rw [toClueS_eq l hl k hk]; rfl
theorem eqClueS_refl (l : List S42) (hl : l.length ≤ 1048576) (k : Nat) (hk : l.length < k) : laws_eqClueS.f k l l = some true := by
  unfold laws_eqClueS.f
  rw [if_pos rfl]
  have h := PK.all_loop0 l (fun k i => laws_eqClueS.l0 k l l i) 0 (fun _ => true)
    (fun k i hi _ => by
      try dsimp only
      simp only [laws_eqClueS.l0]
      rw [if_pos (by omega), if_pos (by omega), if_pos (by omega)]
      unfold laws_eqClue.f
      rw [if_pos rfl, if_pos rfl, if_pos rfl, Option.bind_some, if_pos rfl, if_pos trivial, PK.w1 hi (by omega)])
    (fun k _ => by
      try dsimp only
      simp only [laws_eqClueS.l0]
      rw [if_neg (by omega)])
    (k := k) (by omega)
  try dsimp only at h
  rw [h]; simp
theorem eqPuzzle_refl (l : List S42) (hl : l.length ≤ 1048576) (k : Nat) (hk : l.length < k) : laws_eqPuzzle.f k l l = some true := by
  unfold laws_eqPuzzle.f; rw [eqClueS_refl l hl k hk]; rfl

def mkC (a : Int) : S42 := ⟨a, a + 1, a + 2⟩
theorem markPuzzle_eq (l : List S42) (hl : l.length ≤ 1048576) (k : Nat) (hk : l.length < k) : laws_markPuzzle.f k l 1 = some (1 + ((3 : Nat) : Int) * (l.length : Int), (List.range l.length).map fun (i : Nat) => mkC (1 + ((3 : Nat) : Int) * (i : Int))) := by
  unfold laws_markPuzzle.f laws_markClueS.f
  have h := PK.mark_loop l.length 0 3 (fun k s a i => laws_markClueS.l0 k s a i) mkC 1 4000000 (by omega) (by omega)
    (fun k i s a _ hs hi h0 hB => by
      try dsimp only
      simp only [laws_markClueS.l0]
      have w1 : wrap64 (a + 1) = a + 1 := PK.wrap_in (by omega) (by omega)
      have w2 : wrap64 (a + 1 + 1) = a + 2 := by rw [PK.wrap_in (by omega) (by omega)]; omega
      have w3 : wrap64 (a + 2 + 1) = a + 3 := by rw [PK.wrap_in (by omega) (by omega)]; omega
      rw [if_pos (by omega), if_pos (by omega), Option.bind_some, Option.bind_some, w1, w2, w3, PK.w1 hi (by omega), Int.toNat_natCast]
      have hi' : i < s.length := by omega
      unfold rd_T42
      have g1 : ∀ v z, (s.set i v).getD ((i : Int)).toNat z = v := fun v z => PK.getD_set hi' v z
      simp only [g1, List.set_set]
      rfl)
    (fun k s a _ hs => by
      try dsimp only
      simp only [laws_markClueS.l0]
      rw [if_neg (by omega)])
    (k := k) (by omega) (s := l) rfl
  try dsimp only at h
  rw [h]; rfl

theorem specGood_eq (l : List S42) (hl : l.length ≤ 1048576) (k : Nat) (hk : l.length + 1 < k) : spec_pzGood.f k l = some (decide (l.length ≤ 6) && l.all fun c => clueB c.f0 c.f1 c.f2) := by
  unfold spec_pzGood.f
  by_cases h6 : (l.length : Int) > 6
  · rw [if_pos h6, decide_eq_false (by omega), Bool.false_and]
  · rw [if_neg h6, decide_eq_true (by omega), Bool.true_and]
    exact PK.all_loop0 l (fun k i => spec_pzGood.l0 k l (l.length : Int) i) 1 (fun c => clueB c.f0 c.f1 c.f2)
      (fun k i hi hk => by
        try dsimp only
        simp only [spec_pzGood.l0]
        rw [if_pos (by omega), if_pos (by omega), if_pos (by omega), specClue_eq _ _ _ k (by omega), Option.bind_some, PK.w1 hi (by omega)]
        unfold rd_T42
        rw [PK.getD_at hi])
      (fun k _ => by
        try dsimp only
        simp only [spec_pzGood.l0]
        rw [if_neg (by omega)])
      (by omega)
theorem implPuzzle_eq (l : List S42) : impl_IsPuzzle.f l = some (decide (l.length ≤ 6) && l.all fun c => clueB c.f0 c.f1 c.f2) := by
  unfold impl_IsPuzzle.f
  simp only [implClue_eq, Option.getD_some]

theorem eqIntS_refl (l : List Int) (hl : l.length ≤ 1048576) (k : Nat) (hk : l.length < k) : laws_eqIntS.f k l l = some true := by
  unfold laws_eqIntS.f
  rw [if_pos rfl]
  have h := PK.all_loop0 l (fun k i => laws_eqIntS.l0 k l l i) 0 (fun _ => true)
    (fun k i hi _ => by
      try dsimp only
      simp only [laws_eqIntS.l0]
      rw [if_pos (by omega), if_pos (by omega), if_pos (by omega), PK.w1 hi (by omega)])
    (fun k _ => by
      try dsimp only
      simp only [laws_eqIntS.l0]
      rw [if_neg (by omega)])
    (k := k) (by omega)
  try dsimp only at h
  rw [h]; simp
def mkI (a : Int) : Int := a
theorem markIntS_eq (l : List Int) (hl : l.length ≤ 1048576) (k : Nat) (hk : l.length < k) : laws_markIntS.f k l 1 = some (1 + ((1 : Nat) : Int) * (l.length : Int), (List.range l.length).map fun (i : Nat) => mkI (1 + ((1 : Nat) : Int) * (i : Int))) := by
  unfold laws_markIntS.f
  have h := PK.mark_loop l.length 0 1 (fun k s a i => laws_markIntS.l0 k s a i) mkI 1 4000000 (by omega) (by omega)
    (fun k i s a _ hs hi h0 hB => by
      try dsimp only
      simp only [laws_markIntS.l0]
      have w1 : wrap64 (a + 1) = a + 1 := PK.wrap_in (by omega) (by omega)
      rw [if_pos (by omega), if_pos (by omega), w1, PK.w1 hi (by omega), Int.toNat_natCast]
      rfl)
    (fun k s a _ hs => by
      try dsimp only
      simp only [laws_markIntS.l0]
      rw [if_neg (by omega)])
    (k := k) (by omega) (s := l) rfl
  try dsimp only at h
  rw [h]
theorem heldIntS_eq (l : List Int) (hl : l.length ≤ 1048576) (hx : ∀ i (h : i < l.length), l[i] = mkI (1 + ((1 : Nat) : Int) * (i : Int))) (k : Nat) (hk : l.length < k) : laws_heldIntS.f k l 1 = some (1 + ((1 : Nat) : Int) * (l.length : Int)) := by
  unfold laws_heldIntS.f
  have h := PK.held_loop l 0 1 (fun k a i => laws_heldIntS.l0 k l a i) mkI 1 4000000 (by omega) (by omega) hx
    (fun k i hi a _ h0 hB hm => by
      try dsimp only
      simp only [laws_heldIntS.l0]
      have w1 : wrap64 (a + 1) = a + 1 := PK.wrap_in (by omega) (by omega)
      rw [PK.rd_at hi, hm, w1, PK.w1 hi (by omega)]
      rw [if_pos (by omega), if_pos (by omega), if_pos (show mkI a = a from rfl)]
      rfl)
    (fun k a _ => by
      try dsimp only
      simp only [laws_heldIntS.l0]
      rw [if_neg (by omega)])
    (k := k) (by omega)
  try dsimp only at h
  rw [h]
theorem heldInt_marked (n : Nat) (hn : n ≤ 1048576) (k : Nat) (hk : n < k) : laws_heldIntS.f k ((List.range n).map fun (i : Nat) => mkI (1 + ((1 : Nat) : Int) * (i : Int))) 1 = some (1 + ((1 : Nat) : Int) * (n : Int)) := by
  have h := heldIntS_eq ((List.range n).map fun (i : Nat) => mkI (1 + ((1 : Nat) : Int) * (i : Int))) (by simpa using hn) (fun i h => PK.marked_at h) k (by simpa using hk)
  simpa using h

def cluesB (l : List S42) : Bool := l.all fun c => clueB c.f0 c.f1 c.f2
def puzB (l : List S42) : Bool := decide (l.length ≤ 6) && cluesB l
def sols (l : List S42) : List (List Int) := (All.all 5 4).filter fun r => l.all fun c => Chomp.told c.f0 c.f1 r == c.f2
theorem puzB_iff {l : List S42} : puzB l = true ↔ l.length ≤ 6 ∧ cluesB l = true := by unfold puzB; simp
theorem clues_sub {l m : List S42} (h : cluesB l = true) (hs : ∀ c ∈ m, c ∈ l) : cluesB m = true := List.all_eq_true.2 fun c hc => List.all_eq_true.1 h c (hs c hc)
theorem clues_pos {l : List S42} (h : cluesB l = true) : l.all (fun c => decide (0 ≤ c.f1)) = true := List.all_eq_true.2 fun c hc => by
  have := List.all_eq_true.1 h c hc
  unfold clueB at this
  simp only [decide_eq_true_eq] at this ⊢
  omega
theorem sols_len (l : List S42) : (sols l).length ≤ 1296 := by
  have h1 := All.tails_len 4 5
  have h3 : ((5 + 1) ^ 4 : Nat) = 1296 := by decide
  refine Nat.le_trans (List.length_filter_le _ _) ?_
  unfold All.all
  rw [List.length_tail]; omega
theorem implSols {l : List S42} (h : cluesB l = true) : impl_solutions.f l = some (sols l) := by
  unfold impl_solutions.f
  rw [if_pos (clues_pos h)]
  unfold impl_solutions.all sols
  congr 1
  apply List.filter_congr
  intro r _
  unfold impl_solutions.bad impl_solutions.fit
  rw [← List.all_eq_not_any_not]
theorem specSols {l : List S42} (h : cluesB l = true) : spec_pzAll.f l = some (sols l) := by
  unfold spec_pzAll.f
  rw [if_pos (clues_pos h)]
  rfl

theorem implSolutions_eq (l : List S42) : impl_Solutions.f l = some (if puzB l = true then (sols l, true) else ([], false)) := by
  unfold impl_Solutions.f
  rw [implPuzzle_eq, Option.bind_some]
  show (if puzB l = true then _ else _) = _
  by_cases h : puzB l = true
  · rw [if_pos h, if_pos h, implSols (puzB_iff.1 h).2]; rfl
  · rw [if_neg h, if_neg h]

def sureR (L : List S42) : List Int × Bool := if puzB L = true then (if (sols L).length = 0 then ([], false) else ((List.range 4).map (impl_SureRows.sure (sols L)), true)) else ([], false)
theorem value1 (k y : Nat) (r : List Int) : spec_pzValue.f k 1 (y : Int) r [] = some (impl_SureRows.at_ r y) := by
  unfold spec_pzValue.f impl_SureRows.at_
  rw [if_neg (by omega), if_pos rfl]
  by_cases c : y < r.length
  · rw [if_pos (by omega), if_pos (by omega), if_pos c]; rfl
  · rw [if_neg (by omega), if_neg c]
def badAt (y : Nat) (t : Int) (r : List Int) : Bool := !(impl_SureRows.at_ r y == t)
theorem sure_l1 (T : List (List Int)) (hT : T.length ≤ 2000) (x5 : List Int) (h5 : x5.length ≤ 4) (y : Nat) (hy : y < 4) (t : Int) (R : List Int × Bool) (M : Nat) : ∀ (d k i : Nat), i + d = T.length → d + M < k →
    (∀ K, M ≤ K → spec_SureRows.l0 K T (x5 ++ [if (T.drop i).any (badAt y t) = true then -1 else t]) ((y + 1 : Nat) : Int) = some R) → spec_SureRows.l1 k T x5 (y : Int) t T (T.length : Int) (i : Int) = some R := by
  intro d
  induction d with
  | zero =>
    intro k i hi hk h
    obtain ⟨k, rfl⟩ : ∃ q, k = q + 1 := ⟨k - 1, by omega⟩
    have e : T.drop i = [] := List.drop_eq_nil_of_le (by omega)
    rw [e] at h
    simp only [spec_SureRows.l1]
    rw [if_neg (by omega), if_pos (by omega), PK.w1 hy (by omega)]
    exact h k (by omega)
  | succ d ih =>
    intro k i hi hk h
    obtain ⟨k, rfl⟩ : ∃ q, k = q + 1 := ⟨k - 1, by omega⟩
    have hlt : i < T.length := by omega
    have hr : rd_L3 T (i : Int) = T[i] := by unfold rd_L3; exact PK.getD_at hlt _
    simp only [spec_SureRows.l1]
    rw [if_pos (by omega), if_pos (by omega), if_pos (by omega), hr, value1, Option.bind_some, PK.w1 hlt (by omega)]
    rw [List.drop_eq_getElem_cons hlt, List.any_cons] at h
    by_cases c : impl_SureRows.at_ T[i] y = t
    · have hb : badAt y t T[i] = false := by unfold badAt; rw [c]; simp
      rw [hb, Bool.false_or] at h
      rw [if_pos c]
      exact ih k (i + 1) (by omega) (by omega) h
    · have hb : badAt y t T[i] = true := by unfold badAt; simp [c]
      rw [hb, Bool.true_or, if_pos rfl] at h
      rw [if_neg c, if_pos (by omega), PK.w1 hy (by omega)]
      exact h k (by omega)
theorem sure_l0 (T : List (List Int)) (hT : T.length ≤ 2000) (h0 : 0 < T.length) (c : Nat) (hc : T.length + 5 < c) : ∀ (d y k : Nat) (x5 : List Int), y + d = 4 → d * c < k → x5.length ≤ y → spec_SureRows.l0 k T x5 (y : Int) = some (x5 ++ (List.range' y d).map (impl_SureRows.sure T), true) := by
  intro d
  induction d with
  | zero =>
    intro y k x5 hy hk h5
    obtain ⟨k, rfl⟩ : ∃ q, k = q + 1 := ⟨k - 1, by omega⟩
    simp only [spec_SureRows.l0]
    rw [if_neg (by omega)]; simp
  | succ d ih =>
    intro y k x5 hy hk h5
    obtain ⟨k, rfl⟩ : ∃ q, k = q + 1 := ⟨k - 1, by omega⟩
    have hr : rd_L3 T 0 = T.getD 0 [] := rfl
    simp only [spec_SureRows.l0]
    rw [if_pos (by omega), if_pos (by omega), hr, value1, Option.bind_some]
    have := sure_l1 T hT x5 (by omega) y (by omega) (impl_SureRows.at_ (T.getD 0 []) y) (x5 ++ (List.range' y (d + 1)).map (impl_SureRows.sure T), true) (d * c + 1) T.length k 0 (by omega) (by rw [Nat.succ_mul] at hk; omega) (fun K hK => by
      rw [List.drop_zero, ih (y + 1) K _ (by omega) (by omega) (by rw [List.length_append]; simp; omega), List.range'_succ, List.map_cons, List.append_assoc]
      rfl)
    exact this
theorem FnExactSureRows : laws_FnExactSureRows.Pure := by
  intro l hl
  refine ⟨l.length + 20000, ?_⟩
  unfold laws_FnExactSureRows.f
  rcases szPuzzle_cases l hl.1 with ⟨t, h, h1⟩ | ⟨t, h, h1, h2⟩
  · rw [h, Option.bind_some, if_pos h1]
  · rw [h, Option.bind_some, if_neg h1]
    have h2' : (l.map toC).length ≤ 1048576 := by simpa using h2
    have hp : ∀ j, l.length < j → laws_toPuzzle.f j l = some (l.map toC) := fun j hj => toPuzzle_eq l h2 j hj
    have hm : (l.map toC).length = l.length := by simp
    generalize l.map toC = L at hp h2' hm

    have hs : ∀ j, l.length + 15000 < j → spec_SureRows.f j L = some (sureR L) := fun j hj => by
      unfold spec_SureRows.f sureR
      rw [specGood_eq L h2' _ (by omega), Option.bind_some]
      show (if puzB L = true then _ else _) = _
      by_cases hB : puzB L = true
      · rw [if_pos hB, if_pos hB, specSols (puzB_iff.1 hB).2, Option.bind_some]
        by_cases e : (sols L).length = 0
        · rw [if_pos (by omega), if_pos e]
        · rw [if_neg (by omega), if_neg e]
          have hsl := sols_len L
          have := sure_l0 (sols L) (by omega) (by omega) ((sols L).length + 6) (by omega) 4 0 j [] (by omega) (by omega) (by simp)
          rw [List.nil_append, ← List.range_eq_range'] at this
          exact this
      · rw [if_neg hB, if_neg hB]
    have hi : impl_SureRows.f L = some (sureR L) := by
      unfold impl_SureRows.f sureR
      rw [implSolutions_eq, Option.bind_some]
      by_cases hB : puzB L = true
      · rw [if_pos hB, if_pos hB]
        by_cases e : (sols L).length = 0
        · rw [if_pos (by show ((sols L).length : Int) = 0; omega), if_pos e]
        · rw [if_neg (by show ¬ ((sols L).length : Int) = 0; omega), if_neg e]
      · rw [if_neg hB, if_neg hB]
        rfl
    have hr : (sureR L).1.length ≤ 2000 := by
      unfold sureR
      split
      · split
        · simp
        · simp
      · simp
    generalize sureR L = r at hs hi hr
    have he : ∀ j, 2000 < j → laws_eqIntS.f j r.1 r.1 = some true := fun j hj => eqIntS_refl _ (by omega) j (by omega)
    have hL : ∀ j, l.length < j → laws_eqPuzzle.f j L L = some true := fun j hj => eqPuzzle_refl _ h2' j (by omega)
    have hk1 := markPuzzle_eq L h2'
    have hk2 := markIntS_eq r.1 (by omega)
    have hh := heldInt_marked r.1.length (by omega)
    have hs2 : spec_SureRows.f (l.length + 20000) L = some r := hs _ (by omega)
    rw [hp _ (by omega), Option.bind_some, hs2, Option.bind_some, Option.bind_some, hi, Option.bind_some, he _ (by omega), Option.bind_some, if_pos rfl]
    simp only [laws_FnExactSureRows.j0]
    rw [if_neg (by simp), hp _ (by omega), Option.bind_some, hL _ (by omega), Option.bind_some, if_pos rfl, hk1 _ (by omega), Option.bind_some, if_neg (by omega), he _ (by omega), Option.bind_some, if_pos rfl]
    simp only [laws_FnExactSureRows.j1]
    rw [if_neg (by simp), hk2 _ (by omega), Option.bind_some, hh _ (by omega), Option.bind_some, if_neg (by omega), if_pos rfl]
    rw [hp _ (by omega), Option.bind_some, hi, Option.bind_some, he _ (by omega), Option.bind_some, if_pos rfl]
    simp only [laws_FnExactSureRows.j2]
    rw [if_neg (by simp), hh _ (by omega), Option.bind_some, if_neg (by omega), if_pos rfl]
end Go.Proofs.YtipiocdppghhnaaDoor.Pure
