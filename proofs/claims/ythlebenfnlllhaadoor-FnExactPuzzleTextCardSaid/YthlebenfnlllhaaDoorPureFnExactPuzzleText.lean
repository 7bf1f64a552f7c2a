/- PuzzleText answers as the reference does: of a puzzle its text, else nothing; its argument stays as it was. Conditions: none. -/
import Derived.Test.YthlebenfnlllhaaDoorStFnExactPuzzleText
import Derived.Test.YthlebenfnlllhaaDoorPK
namespace Go.Proofs.YthlebenfnlllhaaDoor.Pure
open Go.RowKit Go.Proofs.YthlebenfnlllhaaDoor.PFnExactPuzzleText Go.Proofs.YthlebenfnlllhaaDoorW.PrintWords Go.Proofs.YthlebenfnlllhaaDoorW.PrintLast Go.Proofs.YthlebenfnlllhaaDoorW.PrintMore
set_option linter.unusedVariables false
set_option linter.unusedSimpArgs false

theorem some_iff {x y : Bool} (h : x = true ↔ y = true) : some x = some y := by rw [Bool.eq_iff_iff.2 h]
theorem l1In_eq (a b c : Int) : spec_l1In.f a b c = some (decide (b ≤ a) && decide (a ≤ c)) := by
  unfold spec_l1In.f
  by_cases h : b ≤ a
  · rw [if_pos h]; simp [h]
  · rw [if_neg h]; simp [h]
theorem within_eq (a b c : Int) : impl_within.f a b c = some (decide (b ≤ a) && decide (a ≤ c)) := by
  unfold impl_within.f
  by_cases h : b ≤ a
  · rw [if_pos h]; simp [h]
  · rw [if_neg h]; simp [h]
def clueB (a b c : Int) : Bool := decide (0 ≤ a ∧ a ≤ 5 ∧ 0 ≤ b ∧ 0 ≤ c ∧ c ≤ 20 ∧ (a = 1 → b ≤ 3) ∧ (a = 4 → b ≤ 4) ∧ (a ≠ 1 → a ≠ 4 → b ≤ 0) ∧ (a = 2 → c ≤ 1))
theorem specClue_eq (a b c : Int) (k : Nat) (hk : 0 < k) : spec_pzClue.f k a b c = some (clueB a b c) := by
  obtain ⟨k, rfl⟩ : ∃ q, k = q + 1 := ⟨k - 1, by omega⟩
  unfold spec_pzClue.f clueB
  simp only [l1In_eq, Option.bind_some, spec_pzClue.j0]
  by_cases h0 : 0 ≤ c ∧ c ≤ 20
  · rw [if_pos (by simp [h0])]
    by_cases a0 : a = 0
    · subst a0; simp only [if_true, beq_self_eq_true]; apply some_iff; simp; omega
    by_cases a3 : a = 3
    · subst a3; simp only [show ¬ (3 : Int) = 0 by decide, if_true, if_false, beq_self_eq_true]; apply some_iff; simp; omega
    have e5 : (a == 5) = decide (a = 5) := rfl
    rw [if_neg a0, if_neg a3]
    by_cases a5 : a = 5
    · subst a5; simp only [if_true, beq_self_eq_true]; apply some_iff; simp; omega
    rw [if_neg (by simpa using a5)]
    by_cases a1 : a = 1
    · subst a1; rw [if_pos rfl]; apply some_iff; simp; omega
    rw [if_neg a1]
    by_cases a2 : a = 2
    · subst a2; rw [if_pos rfl]
      by_cases b0 : b = 0
      · subst b0; rw [if_pos rfl]; apply some_iff; simp; omega
      · rw [if_neg b0]; apply some_iff; simp; omega
    rw [if_neg a2]
    by_cases a4 : a = 4
    · subst a4; rw [if_pos rfl]; apply some_iff; simp; omega
    rw [if_neg a4]; apply some_iff; simp; omega
  · rw [if_neg (by simp; omega)]; apply some_iff; simp; omega
theorem implClue_eq (a b c : Int) : impl_IsClue.f a b c = some (clueB a b c) := by
  unfold impl_IsClue.f clueB
  simp only [within_eq, Option.bind_some]
  by_cases h0 : 0 ≤ a ∧ a ≤ 5
  · rw [if_pos (by simp [h0])]
    by_cases a1 : a = 1
    · subst a1; rw [if_pos rfl]; split <;> (apply some_iff; simp_all; try omega)
    by_cases a2 : a = 2
    · subst a2; rw [if_neg (by omega), if_pos rfl]; split <;> (apply some_iff; simp_all; try omega)
    by_cases a4 : a = 4
    · subst a4; rw [if_neg (by omega), if_neg (by omega), if_pos rfl]; split <;> (apply some_iff; simp_all; try omega)
    rw [if_neg a1, if_neg a2, if_neg a4]; split <;> (apply some_iff; simp_all; try omega)
  · rw [if_neg (by simp; omega)]; apply some_iff; simp; omega

def toC (x : S65) : S62 := ⟨x.f0, x.f1, x.f2⟩
theorem szPuzzle_cases (l : List S65) (hl : l.length ≤ maxLen) : (∃ t, laws_szPuzzle.f l 1048576 = some t ∧ t < 0) ∨ (∃ t, laws_szPuzzle.f l 1048576 = some t ∧ ¬ t < 0 ∧ l.length ≤ 1048576) := by
  unfold maxLen at hl
  have hw : wrap64 (1048576 - (l.length : Int)) = 1048576 - (l.length : Int) := PK.wrap_in (by omega) (by omega)
  unfold laws_szPuzzle.f laws_szClueS.f
  rw [hw]
  by_cases h : (1048576 - (l.length : Int)) < 0
  · refine .inl ⟨-1, ?_, by omega⟩
    rw [if_pos h, Option.bind_some, if_pos (by omega)]
  · refine .inr ⟨1048576 - (l.length : Int), ?_, h, by omega⟩
    rw [if_neg h, Option.bind_some, if_neg h]
theorem toClueS_eq (l : List S65) (hl : l.length ≤ 1048576) (k : Nat) (hk : l.length < k) : laws_toClueS.f k l = some (l.map toC) := by
  unfold laws_toClueS.f
  rw [if_pos (by omega), if_pos (by omega), Int.toNat_natCast]
  have h := PK.fill_loop (ρ := List S62) l.length 0 (fun k s i => laws_toClueS.l0 k l s i) (fun i => toC (l.getD i z65)) (fun s => some s)
    (fun k i s _ hs hi => by
      try dsimp only
      simp only [laws_toClueS.l0]
      rw [if_pos (by omega), if_pos (by omega)]
      unfold laws_toClue.f
      rw [Option.bind_some, if_pos (by omega), PK.w1 hi (by omega), Int.toNat_natCast]
      congr 1)
    (fun k s _ hs => by
      try dsimp only
      simp only [laws_toClueS.l0]
      rw [if_neg (by omega)])
    (k := k) (by omega) (s := List.replicate l.length z62) (by simp)
  try dsimp only at h
  rw [h, PK.map_range]
theorem toPuzzle_eq (l : List S65) (hl : l.length ≤ 1048576) (k : Nat) (hk : l.length < k) : laws_toPuzzle.f k l = some (l.map toC) := by
  unfold laws_toPuzzle.f; rw [toClueS_eq l hl k hk]; rfl
theorem eqClueS_refl (l : List S62) (hl : l.length ≤ 1048576) (k : Nat) (hk : l.length < k) : laws_eqClueS.f k l l = some true := by
  unfold laws_eqClueS.f
  rw [if_pos rfl]
  have h := PK.all_loop0 l (fun k i => laws_eqClueS.l0 k l l i) 0 (fun _ => true)
    (fun k i hi _ => by
      try dsimp only
      simp only [laws_eqClueS.l0]
      rw [if_pos (by omega), if_pos (by omega), if_pos (by omega)]
      unfold laws_eqClue.f
      rw [if_pos rfl, if_pos rfl, if_pos rfl, Option.bind_some, if_pos rfl, if_pos trivial, PK.w1 hi (by omega)])
    (fun k _ => by
      try dsimp only
      simp only [laws_eqClueS.l0]
      rw [if_neg (by omega)])
    (k := k) (by omega)
  try dsimp only at h
  rw [h]; simp
theorem eqPuzzle_refl (l : List S62) (hl : l.length ≤ 1048576) (k : Nat) (hk : l.length < k) : laws_eqPuzzle.f k l l = some true := by
  unfold laws_eqPuzzle.f; rw [eqClueS_refl l hl k hk]; rfl

theorem specGood_eq (l : List S62) (hl : l.length ≤ 1048576) (k : Nat) (hk : l.length + 1 < k) : spec_pzGood.f k l = some (decide (l.length ≤ 6) && l.all fun c => clueB c.f0 c.f1 c.f2) := by
  unfold spec_pzGood.f
  by_cases h6 : (l.length : Int) > 6
  · rw [if_pos h6, decide_eq_false (by omega), Bool.false_and]
  · rw [if_neg h6, decide_eq_true (by omega), Bool.true_and]
    exact PK.all_loop0 l (fun k i => spec_pzGood.l0 k l (l.length : Int) i) 1 (fun c => clueB c.f0 c.f1 c.f2)
      (fun k i hi hk => by
        try dsimp only
        simp only [spec_pzGood.l0]
        rw [if_pos (by omega), if_pos (by omega), if_pos (by omega), specClue_eq _ _ _ k (by omega), Option.bind_some, PK.w1 hi (by omega)]
        unfold rd_T62
        rw [PK.getD_at hi])
      (fun k _ => by
        try dsimp only
        simp only [spec_pzGood.l0]
        rw [if_neg (by omega)])
      (by omega)
theorem implPuzzle_eq (l : List S62) : impl_IsPuzzle.f l = some (decide (l.length ≤ 6) && l.all fun c => clueB c.f0 c.f1 c.f2) := by
  unfold impl_IsPuzzle.f
  simp only [implClue_eq, Option.getD_some]

def B (l : List UInt8) : ByteArray := ⟨l.toArray⟩
theorem B_app (a b : List UInt8) : B a ++ B b = B (a ++ b) := by
  have : (B a ++ B b).data = (B (a ++ b)).data := by rw [ByteArray.data_append]; simp [B]
  cases h : B a ++ B b; cases h2 : B (a ++ b)
  simp_all
theorem B_size (l : List UInt8) : (B l).size = l.length := by show l.toArray.size = _; simp
theorem B_list (l : List UInt8) : (B l).data.toList = l := by simp [B]
def dig (n : Int) : List UInt8 := Lib.decDigits n.toNat
theorem dig_one (n : Int) (h0 : 0 ≤ n) (h1 : n < 10) : dig n = [UInt8.ofNat (48 + n.toNat)] := by
  unfold dig
  rw [Lib.decDigits, dif_pos (by omega)]
theorem dig_two (n : Int) (h0 : 10 ≤ n) (h1 : n < 100) : dig n = [UInt8.ofNat (48 + n.toNat / 10), UInt8.ofNat (48 + n.toNat % 10)] := by
  unfold dig
  rw [Lib.decDigits, dif_neg (by omega), Lib.decDigits, dif_pos (by omega)]
  rfl
theorem dig_len (n : Int) (h0 : 0 ≤ n) (h1 : n < 100) : (dig n).length ≤ 2 := by
  by_cases h : n < 10
  · rw [dig_one n h0 h]; simp
  · rw [dig_two n (by omega) h1]; simp
theorem nums1 (x : Int) (h0 : 0 ≤ x) (h1 : x ≤ 255) : strOfNums [x] = B [UInt8.ofNat x.toNat] := rfl
theorem num_eq (n : Int) (h0 : 0 ≤ n) (h1 : n < 100) (k : Nat) (hk : 2 ≤ k) : spec_l1Num.f k n = some (B (dig n)) := by
  have one : ∀ (k : Nat) (n : Int), 0 ≤ n → n < 10 → spec_l1Num.f (k + 1) n = some (B (dig n)) := by
    intro k n h0 h1
    simp only [spec_l1Num.f]
    rw [if_pos h1, PK.wrap_in (by omega) (by omega), Int.emod_eq_of_lt (by omega) (by omega), nums1 _ (by omega) (by omega), dig_one n h0 h1]
    have e : (48 + n).toNat = 48 + n.toNat := by omega
    rw [e]
  obtain ⟨k, rfl⟩ : ∃ q, k = q + 2 := ⟨k - 2, by omega⟩
  by_cases h : n < 10
  · exact one (k + 1) n h0 h
  · have e1 : Int.tdiv n 10 = n / 10 := Int.tdiv_eq_ediv_of_nonneg h0
    have e2 : Int.tmod n 10 = n % 10 := Int.tmod_eq_emod_of_nonneg h0
    have u : spec_l1Num.f (k + 2) n = if n < 10 then (some (strOfNums (([(wrap64 (48 + n)) % 256] : List Int)))) else ((spec_l1Num.f (k + 1) (wrap64 (Int.tdiv n 10))).bind fun t114 => ((some (([(wrap64 (48 + (Int.tmod n 10))) % 256] : List Int) : List Int)).bind fun y115 => (if t114.size + (strOfNums y115).size ≤ 9223372036854775807 then (some (t114 ++ (strOfNums y115))) else (none)))) := rfl
    rw [u, if_neg h, e1, e2, PK.wrap_in (x := n / 10) (by omega) (by omega), PK.wrap_in (x := 48 + n % 10) (by omega) (by omega), one k (n / 10) (by omega) (by omega), Option.bind_some, Option.bind_some, Int.emod_eq_of_lt (by omega) (by omega), nums1 _ (by omega) (by omega), B_size, B_size, dig_one _ (by omega) (by omega), if_pos (by simp), B_app, dig_two n (by omega) h1]
    have g1 : (n / 10).toNat = n.toNat / 10 := by omega
    have g2 : (48 + n % 10).toNat = 48 + n.toNat % 10 := by omega
    rw [g1, g2]; rfl
theorem itoa_eq (n : Int) (h0 : 0 ≤ n) (h1 : n < 100) : strconv_Itoa.f n = some (B (dig n)) := by
  unfold strconv_Itoa.f
  rw [if_pos h0, if_pos h1]; rfl
def ct (c : S62) : List UInt8 := (((dig c.f0 ++ [46]) ++ dig c.f1) ++ [46]) ++ dig c.f2
structure Cok (c : S62) : Prop where
  a0 : 0 ≤ c.f0
  a1 : c.f0 ≤ 5
  b0 : 0 ≤ c.f1
  b1 : c.f1 ≤ 4
  c0 : 0 ≤ c.f2
  c1 : c.f2 ≤ 20
theorem clue_ok (c : S62) (h : clueB c.f0 c.f1 c.f2 = true) : Cok c := by
  unfold clueB at h
  rw [decide_eq_true_eq] at h
  by_cases h1 : c.f0 = 1 <;> by_cases h4 : c.f0 = 4 <;> constructor <;> omega
theorem ct_len (c : S62) (h : Cok c) : (ct c).length ≤ 8 := by
  obtain ⟨_, _, _, _, _, _⟩ := h
  have h1 := dig_len c.f0 (by omega) (by omega)
  have h2 := dig_len c.f1 (by omega) (by omega)
  have h3 := dig_len c.f2 (by omega) (by omega)
  unfold ct
  simp only [List.length_append, List.length_singleton]
  omega
/-- The texts with commas between. -/
def jt : List (List UInt8) → List UInt8 := fun l => Lib.join l [44]
theorem jt_snoc (l : List (List UInt8)) (x : List UInt8) (h : l ≠ []) : jt (l ++ [x]) = (jt l ++ [44]) ++ x := by
  cases l with
  | nil => exact absurd rfl h
  | cons y ys =>
    unfold jt
    rw [List.cons_append, Lib.join_cons, Lib.join_cons]
    unfold Lib.joinTail
    simp
theorem tail_len : ∀ (l : List (List UInt8)), (∀ x ∈ l, x.length ≤ 8) → (Lib.joinTail [44] l).length ≤ 9 * l.length
  | [], _ => by simp [Lib.joinTail]
  | x :: r, h => by
    have h1 := tail_len r (fun y hy => h y (by simp [hy]))
    have h2 := h x (by simp)
    have e : Lib.joinTail [44] (x :: r) = ([44] ++ x) ++ Lib.joinTail [44] r := by unfold Lib.joinTail; simp
    rw [e]
    simp only [List.length_append, List.length_singleton, List.length_cons, List.length_nil]
    omega
theorem jt_len (l : List (List UInt8)) (h : ∀ x ∈ l, x.length ≤ 8) : (jt l).length ≤ 9 * l.length := by
  cases l with
  | nil => simp [jt, Lib.join_nil]
  | cons x r =>
    have h1 := tail_len r (fun y hy => h y (by simp [hy]))
    have h2 := h x (by simp)
    unfold jt
    rw [Lib.join_cons]
    simp only [List.length_append, List.length_cons]
    omega
theorem spec_text (l : List S62) (hl : l.length ≤ 6) (hc : ∀ c ∈ l, Cok c) : ∀ (d k i : Nat), i + d = l.length → d + 3 ≤ k → spec_pzText.l0 k (B (jt ((l.take i).map ct))) l (l.length : Int) (i : Int) = some (B (jt (l.map ct))) := by
  intro d
  induction d with
  | zero =>
    intro k i hi hk
    obtain ⟨k, rfl⟩ : ∃ q, k = q + 1 := ⟨k - 1, by omega⟩
    obtain rfl : i = l.length := by omega
    simp only [spec_pzText.l0]
    rw [if_neg (by omega), List.take_length]
  | succ d ih =>
    intro k i hi hk
    obtain ⟨k, rfl⟩ : ∃ q, k = q + 1 := ⟨k - 1, by omega⟩
    have hlt : i < l.length := by omega
    have hrd : rd_T62 l (i : Int) = l[i] := PK.rdOf_at hlt _
    have ho := hc l[i] (List.getElem_mem hlt)
    obtain ⟨_, _, _, _, _, _⟩ := ho
    have h1 := dig_len l[i].f0 (by omega) (by omega)
    have h2 := dig_len l[i].f1 (by omega) (by omega)
    have h3 := dig_len l[i].f2 (by omega) (by omega)
    have hj := jt_len ((l.take i).map ct) (fun x hx => by
      obtain ⟨c, hc1, rfl⟩ := List.mem_map.1 hx
      exact ct_len c (hc c (List.mem_of_mem_take hc1)))
    have hj2 : ((l.take i).map ct).length ≤ 6 := by simp; omega
    have n1 := num_eq l[i].f0 (by omega) (by omega) k (by omega)
    have n2 := num_eq l[i].f1 (by omega) (by omega) k (by omega)
    have n3 := num_eq l[i].f2 (by omega) (by omega) k (by omega)
    have ht : (l.take (i + 1)).map ct = (l.take i).map ct ++ [ct l[i]] := by
      rw [List.take_add_one, List.getElem?_eq_getElem hlt, List.map_append]; rfl
    have e46 : (⟨#[46]⟩ : ByteArray) = B [46] := rfl
    have e44 : (⟨#[44]⟩ : ByteArray) = B [44] := rfl
    have ih' := ih k (i + 1) (by omega) (by omega)
    rw [ht] at ih'
    simp only [spec_pzText.l0]
    rw [if_pos (by omega), if_pos (by omega), if_pos (by omega), hrd, n1, n2, n3]
    simp only [Option.bind_some, B_size, e46, e44, B_app]
    rw [PK.w1 hlt (by omega)]
    by_cases c : (i : Int) > 0
    · have hne : (l.take i).map ct ≠ [] := by
        intro h
        have := congrArg List.length h
        rw [List.length_map, List.length_take, List.length_nil] at this
        omega
      rw [if_pos c, if_pos (by (try simp only [List.length_append, List.length_singleton]); first | omega | (trace_state; omega)), if_pos (by (try simp only [List.length_append, List.length_singleton]); first | omega | (trace_state; omega)), if_pos (by (try simp only [List.length_append, List.length_singleton]); first | omega | (trace_state; omega)), if_pos (by (try simp only [List.length_append, List.length_singleton]); first | omega | (trace_state; omega)), if_pos (by (try simp only [List.length_append, List.length_singleton]); first | omega | (trace_state; omega)), if_pos (by (try simp only [List.length_append, List.length_singleton]); first | omega | (trace_state; omega))]
      rw [jt_snoc _ _ hne] at ih'
      exact ih'
    · obtain rfl : i = 0 := by omega
      rw [if_neg c, if_pos (by (try simp only [List.length_append, List.length_singleton]); first | omega | (trace_state; omega)), if_pos (by (try simp only [List.length_append, List.length_singleton]); first | omega | (trace_state; omega)), if_pos (by (try simp only [List.length_append, List.length_singleton]); first | omega | (trace_state; omega)), if_pos (by (try simp only [List.length_append, List.length_singleton]); first | omega | (trace_state; omega)), if_pos (by (try simp only [List.length_append, List.length_singleton]); first | omega | (trace_state; omega))]
      have e0 : jt ((l.take 0).map ct ++ [ct l[0]]) = ct l[0] := by unfold jt; simp [Lib.join_one]
      have e1 : jt ((l.take 0).map ct) = [] := by unfold jt; simp [Lib.join_nil]
      rw [e0] at ih'
      rw [e1, List.nil_append]
      exact ih'
theorem join_eq (xs : List (List UInt8)) (sep : List UInt8) (hn : xs.length ≤ 1000) (hl : (Lib.join xs sep).length ≤ 1000000) : strings_Join.f (xs.map B) (B sep) = some (B (Lib.join xs sep)) := by
  have e : (xs.map B).map (fun x => x.data.toList) = xs := by
    rw [List.map_map]
    conv => rhs; rw [← List.map_id xs]
    exact List.map_congr_left fun x _ => B_list x
  unfold strings_Join.f strings_Join.text
  rw [if_pos (by simp; omega), e, B_list, if_pos (by omega)]; rfl
theorem joined_eq (a b c : Int) (ha : 0 ≤ a ∧ a < 100) (hb : 0 ≤ b ∧ b < 100) (hc : 0 ≤ c ∧ c < 100) (k : Nat) (hk : 5 ≤ k) : impl_joined.f k [a, b, c] ⟨#[46]⟩ = some (B ((((dig a ++ [46]) ++ dig b) ++ [46]) ++ dig c)) := by
  obtain ⟨k, rfl⟩ : ∃ q, k = q + 5 := ⟨k - 5, by omega⟩
  have e0 : rd [a, b, c] 0 = a := rfl
  have e1 : rd [a, b, c] 1 = b := rfl
  have e2 : rd [a, b, c] 2 = c := rfl
  have w0 : wrap64 ((0 : Int) + 1) = 1 := by rw [PK.wrap_in (by omega) (by omega)]; rfl
  have w1 : wrap64 ((1 : Int) + 1) = 2 := by rw [PK.wrap_in (by omega) (by omega)]; rfl
  have w2 : wrap64 ((2 : Int) + 1) = 3 := by rw [PK.wrap_in (by omega) (by omega)]; rfl
  have hj : Lib.join [dig a, dig b, dig c] [46] = (((dig a ++ [46]) ++ dig b) ++ [46]) ++ dig c := by
    rw [Lib.join_cons]; unfold Lib.joinTail; simp
  have h1 := dig_len a ha.1 ha.2
  have h2 := dig_len b hb.1 hb.2
  have h3 := dig_len c hc.1 hc.2
  unfold impl_joined.f
  simp only [impl_joined.l0, List.length_cons, List.length_nil]
  rw [if_pos (by decide), if_pos (by decide), if_pos (by decide), e0, itoa_eq a ha.1 ha.2, Option.bind_some, if_pos (by decide), w0]
  rw [if_pos (by decide), if_pos (by decide), if_pos (by decide), e1, itoa_eq b hb.1 hb.2, Option.bind_some, if_pos (by simp), w1]
  rw [if_pos (by decide), if_pos (by decide), if_pos (by decide), e2, itoa_eq c hc.1 hc.2, Option.bind_some, if_pos (by simp), w2]
  rw [if_neg (by decide)]
  have := join_eq [dig a, dig b, dig c] [46] (by simp) (by rw [hj]; simp only [List.length_append, List.length_singleton]; omega)
  rw [hj] at this
  show (strings_Join.f ([dig a, dig b, dig c].map B) (B [46])).bind _ = _
  rw [this, Option.bind_some]
theorem impl_text (l : List S62) (hl : l.length ≤ 6) (hc : ∀ c ∈ l, Cok c) : ∀ (d k i : Nat), i + d = l.length → d + 6 ≤ k → impl_puzzleText.l0 k ((l.take i).map fun c => B (ct c)) l (l.length : Int) (i : Int) = some (B (jt (l.map ct))) := by
  intro d
  induction d with
  | zero =>
    intro k i hi hk
    obtain ⟨k, rfl⟩ : ∃ q, k = q + 1 := ⟨k - 1, by omega⟩
    obtain rfl : i = l.length := by omega
    have hj := jt_len (l.map ct) (fun x hx => by
      obtain ⟨c, hc1, rfl⟩ := List.mem_map.1 hx
      exact ct_len c (hc c hc1))
    simp only [List.length_map] at hj
    have := join_eq (l.map ct) [44] (by simp; omega) (by show (jt (l.map ct)).length ≤ _; omega)
    rw [List.map_map] at this
    simp only [impl_puzzleText.l0]
    rw [if_neg (by omega), List.take_length]
    show (strings_Join.f (l.map (B ∘ ct)) (B [44])).bind _ = _
    rw [this, Option.bind_some]; rfl
  | succ d ih =>
    intro k i hi hk
    obtain ⟨k, rfl⟩ : ∃ q, k = q + 1 := ⟨k - 1, by omega⟩
    have hlt : i < l.length := by omega
    have hrd : rd_T62 l (i : Int) = l[i] := PK.rdOf_at hlt _
    obtain ⟨_, _, _, _, _, _⟩ := hc l[i] (List.getElem_mem hlt)
    have ht : (l.take (i + 1)).map (fun c => B (ct c)) = (l.take i).map (fun c => B (ct c)) ++ [B (ct l[i])] := by
      rw [List.take_add_one, List.getElem?_eq_getElem hlt, List.map_append]; rfl
    have ih' := ih k (i + 1) (by omega) (by omega)
    rw [ht] at ih'
    simp only [impl_puzzleText.l0]
    rw [if_pos (by omega), if_pos (by omega), if_pos (by omega), hrd, joined_eq _ _ _ (by omega) (by omega) (by omega) k (by omega), Option.bind_some, if_pos (by simp; omega), PK.w1 hlt (by omega)]
    exact ih'
theorem both (l : List S62) (hl : l.length ≤ 1048576) (k : Nat) (hk : l.length + 20 < k) : ∃ r : ByteArray × Bool, spec_PuzzleText.f k l = some r ∧ impl_PuzzleText.f k l = some r := by
  unfold spec_PuzzleText.f impl_PuzzleText.f
  rw [specGood_eq l hl k (by omega), implPuzzle_eq, Option.bind_some, Option.bind_some]
  by_cases c : (decide (l.length ≤ 6) && l.all fun c => clueB c.f0 c.f1 c.f2) = true
  · rw [if_pos c, if_pos c]
    simp only [Bool.and_eq_true, decide_eq_true_eq] at c
    have hc : ∀ c ∈ l, Cok c := fun x hx => clue_ok x (List.all_eq_true.1 c.2 x hx)
    have h1 := spec_text l c.1 hc l.length k 0 (by omega) (by omega)
    have h2 := impl_text l c.1 hc l.length k 0 (by omega) (by omega)
    have e1 : B (jt ((l.take 0).map ct)) = (⟨#[]⟩ : ByteArray) := by unfold jt; simp [Lib.join_nil, B]
    rw [e1] at h1
    refine ⟨(B (jt (l.map ct)), true), ?_, ?_⟩
    · unfold spec_pzText.f
      have e0 : ((0 : Nat) : Int) = 0 := rfl
      rw [e0] at h1
      rw [h1, Option.bind_some]
    · unfold impl_puzzleText.f
      have e0 : ((0 : Nat) : Int) = 0 := rfl
      rw [e0] at h2
      simp only [List.take_zero, List.map_nil] at h2
      rw [h2, Option.bind_some]
  · rw [if_neg c, if_neg c]
    exact ⟨_, rfl, rfl⟩
theorem FnExactPuzzleText : laws_FnExactPuzzleText.Pure := by
  intro l hl
  refine ⟨l.length + 100, ?_⟩
  unfold laws_FnExactPuzzleText.f
  rcases szPuzzle_cases l hl.1 with ⟨t, h, h1⟩ | ⟨t, h, h1, h2⟩
  · rw [h, Option.bind_some, if_pos h1]
  · have h2' : (l.map toC).length ≤ 1048576 := by simpa using h2
    have hp : ∀ j, l.length < j → laws_toPuzzle.f j l = some (l.map toC) := fun j hj => toPuzzle_eq l h2 j hj
    have hm : (l.map toC).length = l.length := by simp
    obtain ⟨r, hs, hi⟩ := both (l.map toC) h2' (l.length + 100) (by omega)
    generalize l.map toC = L at hp hs hi h2' hm
    rw [h, Option.bind_some, if_neg h1, hp _ (by omega), Option.bind_some, hs, Option.bind_some, Option.bind_some, hi, Option.bind_some, if_pos rfl]
    simp only [laws_FnExactPuzzleText.j0]
    rw [if_neg (by simp), hp _ (by omega), Option.bind_some, eqPuzzle_refl _ h2' _ (by omega), Option.bind_some, if_pos rfl]
end Go.Proofs.YthlebenfnlllhaaDoor.Pure
