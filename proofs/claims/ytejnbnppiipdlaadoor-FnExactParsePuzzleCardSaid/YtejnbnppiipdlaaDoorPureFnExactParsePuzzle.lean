/- ParsePuzzle answers as the reference does: of the text of good clues these clues, of any other nothing. Conditions: none. -/
import Derived.Test.YtejnbnppiipdlaaDoorStFnExactParsePuzzle
import Derived.Test.YtejnbnppiipdlaaDoorPK
namespace Go.Proofs.YtejnbnppiipdlaaDoor.Pure
open Go.RowKit Go.Proofs.YtejnbnppiipdlaaDoor.PFnExactParsePuzzle Go.Proofs.YtejnbnppiipdlaaDoorW.PrintWords Go.Proofs.YtejnbnppiipdlaaDoorW.PrintLast Go.Proofs.YtejnbnppiipdlaaDoorW.PrintMore
set_option linter.unusedVariables false
set_option linter.unusedSimpArgs false

theorem some_iff {x y : Bool} (h : x = true ↔ y = true) : some x = some y := by rw [Bool.eq_iff_iff.2 h]
theorem l1In_eq (a b c : Int) : spec_l1In.f a b c = some (decide (b ≤ a) && decide (a ≤ c)) := by
  unfold spec_l1In.f
  by_cases h : b ≤ a
  · rw [if_pos h]; simp [h]
  · rw [if_neg h]; simp [h]
theorem within_eq (a b c : Int) : impl_within.f a b c = some (decide (b ≤ a) && decide (a ≤ c)) := by
  unfold impl_within.f
  by_cases h : b ≤ a
  · rw [if_pos h]; simp [h]
  · rw [if_neg h]; simp [h]
def clueB (a b c : Int) : Bool := decide (0 ≤ a ∧ a ≤ 5 ∧ 0 ≤ b ∧ 0 ≤ c ∧ c ≤ 20 ∧ (a = 1 → b ≤ 3) ∧ (a = 4 → b ≤ 4) ∧ (a ≠ 1 → a ≠ 4 → b ≤ 0) ∧ (a = 2 → c ≤ 1))
theorem specClue_eq (a b c : Int) (k : Nat) (hk : 0 < k) : spec_pzClue.f k a b c = some (clueB a b c) := by
  obtain ⟨k, rfl⟩ : ∃ q, k = q + 1 := ⟨k - 1, by omega⟩
  unfold spec_pzClue.f clueB
  simp only [l1In_eq, Option.bind_some, spec_pzClue.j0]
  by_cases h0 : 0 ≤ c ∧ c ≤ 20
  · rw [if_pos (by simp [h0])]
    by_cases a0 : a = 0
    · subst a0; simp only [if_true, beq_self_eq_true]; apply some_iff; simp; omega
    by_cases a3 : a = 3
    · subst a3; simp only [show ¬ (3 : Int) = 0 by decide, if_true, if_false, beq_self_eq_true]; apply some_iff; simp; omega
    have e5 : (a == 5) = decide (a = 5) := rfl
    rw [if_neg a0, if_neg a3]
    by_cases a5 : a = 5
    · subst a5; simp only [if_true, beq_self_eq_true]; apply some_iff; simp; omega
    rw [if_neg (by simpa using a5)]
    by_cases a1 : a = 1
    · subst a1; rw [if_pos rfl]; apply some_iff; simp; omega
    rw [if_neg a1]
    by_cases a2 : a = 2
    · subst a2; rw [if_pos rfl]
      by_cases b0 : b = 0
      · subst b0; rw [if_pos rfl]; apply some_iff; simp; omega
      · rw [if_neg b0]; apply some_iff; simp; omega
    rw [if_neg a2]
    by_cases a4 : a = 4
    · subst a4; rw [if_pos rfl]; apply some_iff; simp; omega
    rw [if_neg a4]; apply some_iff; simp; omega
  · rw [if_neg (by simp; omega)]; apply some_iff; simp; omega
theorem implClue_eq (a b c : Int) : impl_IsClue.f a b c = some (clueB a b c) := by
  unfold impl_IsClue.f clueB
  simp only [within_eq, Option.bind_some]
  by_cases h0 : 0 ≤ a ∧ a ≤ 5
  · rw [if_pos (by simp [h0])]
    by_cases a1 : a = 1
    · subst a1; rw [if_pos rfl]; split <;> (apply some_iff; simp_all; try omega)
    by_cases a2 : a = 2
    · subst a2; rw [if_neg (by omega), if_pos rfl]; split <;> (apply some_iff; simp_all; try omega)
    by_cases a4 : a = 4
    · subst a4; rw [if_neg (by omega), if_neg (by omega), if_pos rfl]; split <;> (apply some_iff; simp_all; try omega)
    rw [if_neg a1, if_neg a2, if_neg a4]; split <;> (apply some_iff; simp_all; try omega)
  · rw [if_neg (by simp; omega)]; apply some_iff; simp; omega

theorem specGood_eq (l : List S47) (hl : l.length ≤ 1048576) (k : Nat) (hk : l.length + 1 < k) : spec_pzGood.f k l = some (decide (l.length ≤ 6) && l.all fun c => clueB c.f0 c.f1 c.f2) := by
  unfold spec_pzGood.f
  by_cases h6 : (l.length : Int) > 6
  · rw [if_pos h6, decide_eq_false (by omega), Bool.false_and]
  · rw [if_neg h6, decide_eq_true (by omega), Bool.true_and]
    exact PK.all_loop0 l (fun k i => spec_pzGood.l0 k l (l.length : Int) i) 1 (fun c => clueB c.f0 c.f1 c.f2)
      (fun k i hi hk => by
        try dsimp only
        simp only [spec_pzGood.l0]
        rw [if_pos (by omega), if_pos (by omega), if_pos (by omega), specClue_eq _ _ _ k (by omega), Option.bind_some, PK.w1 hi (by omega)]
        unfold rd_T47
        rw [PK.getD_at hi])
      (fun k _ => by
        try dsimp only
        simp only [spec_pzGood.l0]
        rw [if_neg (by omega)])
      (by omega)
theorem implPuzzle_eq (l : List S47) : impl_IsPuzzle.f l = some (decide (l.length ≤ 6) && l.all fun c => clueB c.f0 c.f1 c.f2) := by
  unfold impl_IsPuzzle.f
  simp only [implClue_eq, Option.getD_some]

def B (l : List UInt8) : ByteArray := ⟨l.toArray⟩
theorem B_app (a b : List UInt8) : B a ++ B b = B (a ++ b) := by
  have : (B a ++ B b).data = (B (a ++ b)).data := by rw [ByteArray.data_append]; simp [B]
  cases h : B a ++ B b; cases h2 : B (a ++ b)
  simp_all
theorem B_size (l : List UInt8) : (B l).size = l.length := by show l.toArray.size = _; simp
theorem B_list (l : List UInt8) : (B l).data.toList = l := by simp [B]
def dig (n : Int) : List UInt8 := Lib.decDigits n.toNat
theorem dig_one (n : Int) (h0 : 0 ≤ n) (h1 : n < 10) : dig n = [UInt8.ofNat (48 + n.toNat)] := by
  unfold dig
  rw [Lib.decDigits, dif_pos (by omega)]
theorem dig_more (n : Int) (h0 : 10 ≤ n) : dig n = dig (n / 10) ++ [UInt8.ofNat (48 + n.toNat % 10)] := by
  unfold dig
  rw [Lib.decDigits, dif_neg (by omega), show (n / 10).toNat = n.toNat / 10 by omega]

/-- Decimal digits: what reads them back. -/
theorem dv_of {b : UInt8} (h : 48 ≤ b.toNat ∧ b.toNat ≤ 57) : Lib.digitVal b = some (b.toNat - 48) := by unfold Lib.digitVal; rw [if_pos h]
theorem decFrom_snoc : ∀ (x : List UInt8) (m v : Nat) (b : UInt8), Lib.decFrom m x = some v → (48 ≤ b.toNat ∧ b.toNat ≤ 57) → Lib.decFrom m (x ++ [b]) = some (v * 10 + (b.toNat - 48))
  | [], m, v, b, h, hb => by
    obtain rfl := Option.some.inj h
    simp [Lib.decFrom, dv_of hb]
  | a :: t, m, v, b, h, hb => by
    simp only [Lib.decFrom, List.cons_append] at h ⊢
    cases hd : Lib.digitVal a with
    | none => rw [hd] at h; cases h
    | some d => rw [hd] at h; exact decFrom_snoc t _ v b h hb
theorem ofNat_dig (d : Nat) (h : d < 10) : (UInt8.ofNat (48 + d)).toNat = 48 + d := by
  rw [UInt8.toNat_ofNat']
  omega
theorem dig_all : ∀ (k : Nat) (n : Int), 0 ≤ n → n.toNat ≤ k → (∀ b ∈ dig n, 48 ≤ b.toNat ∧ b.toNat ≤ 57) ∧ Lib.decFrom 0 (dig n) = some n.toNat ∧ ∃ b r, dig n = b :: r ∧ (1 ≤ n → b.toNat ≠ 48) := by
  intro k
  induction k with
  | zero =>
    intro n h0 hk
    obtain rfl : n = 0 := by omega
    rw [dig_one 0 (by omega) (by omega)]
    exact ⟨by decide, by decide, 48, [], rfl, fun h => by omega⟩
  | succ k ih =>
    intro n h0 hk
    by_cases c : n < 10
    · have e := ofNat_dig n.toNat (by omega)
      rw [dig_one n h0 c]
      refine ⟨fun b hb => ?_, ?_, _, [], rfl, fun h => by rw [e]; omega⟩
      · rw [List.mem_singleton] at hb
        subst hb
        omega
      · simp only [Lib.decFrom]
        rw [dv_of (by omega), e]
        simp
    · obtain ⟨h1, h2, b, r, h3, h4⟩ := ih (n / 10) (by omega) (by omega)
      have e := ofNat_dig (n.toNat % 10) (by omega)
      rw [dig_more n (by omega)]
      refine ⟨fun x hx => ?_, ?_, b, r ++ [UInt8.ofNat (48 + n.toNat % 10)], by rw [h3]; rfl, fun _ => h4 (by omega)⟩
      · rcases List.mem_append.1 hx with hx | hx
        · exact h1 x hx
        · rw [List.mem_singleton] at hx
          subst hx
          omega
      · rw [decFrom_snoc _ _ _ _ h2 (by omega), e]
        congr 1
        omega
theorem dlen_more {N : Int} {k : Nat} (h : ∀ n : Int, 0 ≤ n → n < N → (dig n).length ≤ k) (hk : 1 ≤ k) : ∀ n : Int, 0 ≤ n → n < 10 * N → (dig n).length ≤ k + 1 := fun n h0 h1 => by
  by_cases c : n < 10
  · rw [dig_one n h0 c]; simp
  · rw [dig_more n (by omega), List.length_append, List.length_singleton]
    have := h (n / 10) (by omega) (by omega)
    omega
theorem dlen4 : ∀ n : Int, 0 ≤ n → n < 10000 → (dig n).length ≤ 4 := by
  have h1 : ∀ n : Int, 0 ≤ n → n < 10 → (dig n).length ≤ 1 := fun n h0 h1 => by rw [dig_one n h0 h1]; simp
  exact dlen_more (dlen_more (dlen_more h1 (by omega)) (by omega)) (by omega)
theorem dig_from : ∀ (x : List UInt8) (m v : Nat), 1 ≤ m → Lib.decFrom m x = some v → dig (v : Int) = dig (m : Int) ++ x
  | [], m, v, _, h => by
    obtain rfl := Option.some.inj h
    simp
  | b :: t, m, v, hm, h => by
    simp only [Lib.decFrom] at h
    by_cases hb : 48 ≤ b.toNat ∧ b.toNat ≤ 57
    · rw [dv_of hb] at h
      have := dig_from t (m * 10 + (b.toNat - 48)) v (by omega) h
      rw [this, dig_more _ (by omega)]
      have e1 : ((m * 10 + (b.toNat - 48) : Nat) : Int) / 10 = (m : Int) := by omega
      have e2 : ((m * 10 + (b.toNat - 48) : Nat) : Int).toNat % 10 = b.toNat - 48 := by omega
      rw [e1, e2, show 48 + (b.toNat - 48) = b.toNat by omega]
      simp
    · have : Lib.digitVal b = none := by unfold Lib.digitVal; rw [if_neg hb]
      rw [this] at h
      cases h
theorem decFrom_grows : ∀ (x : List UInt8) (m v : Nat), Lib.decFrom m x = some v → v < (m + 1) * 10 ^ x.length
  | [], m, v, h => by obtain rfl := Option.some.inj h; simp
  | b :: t, m, v, h => by
    simp only [Lib.decFrom] at h
    by_cases hb : 48 ≤ b.toNat ∧ b.toNat ≤ 57
    · rw [dv_of hb] at h
      have h1 := decFrom_grows t _ v h
      have h2 : (m * 10 + (b.toNat - 48) + 1) * 10 ^ t.length ≤ ((m + 1) * 10) * 10 ^ t.length := Nat.mul_le_mul_right _ (by omega)
      rw [List.length_cons, Nat.pow_succ, Nat.mul_comm (10 ^ t.length) 10, ← Nat.mul_assoc]
      omega
    · have : Lib.digitVal b = none := by unfold Lib.digitVal; rw [if_neg hb]
      rw [this] at h
      cases h
/-- What the reference's reader answers: the number, or -1. -/
def rdL (x : List UInt8) : Int :=
  if (1 ≤ x.length ∧ x.length ≤ 6) ∧ ¬ (x.head? = some 48 ∧ 1 < x.length) then (match Lib.decFrom 0 x with | some v => (v : Int) | none => -1) else -1
theorem rdL_dig {n : Int} (h0 : 1 ≤ n) (h1 : n ≤ 1000) : rdL (dig n) = n := by
  obtain ⟨_, h2, b, r, h3, h4⟩ := dig_all n.toNat n (by omega) (Nat.le_refl _)
  have hl := dlen4 n (by omega) (by omega)
  have hp : 1 ≤ (dig n).length := by rw [h3]; simp
  unfold rdL
  rw [if_pos ⟨⟨hp, by omega⟩, fun h => h4 h0 (by rw [h3] at h; have := Option.some.inj h.1; rw [this]; rfl)⟩, h2]
  show ((n.toNat : Nat) : Int) = n
  omega
theorem rdL_inv {x : List UInt8} {n : Int} (h0 : 1 ≤ n) (h : rdL x = n) : x = dig n := by
  unfold rdL at h
  split at h
  · rename_i hc
    cases hd : Lib.decFrom 0 x with
    | none => rw [hd] at h; dsimp only at h; omega
    | some v =>
      rw [hd] at h
      dsimp only at h
      subst h
      cases x with
      | nil => have := hc.1.1; simp at this
      | cons b t =>
        simp only [Lib.decFrom] at hd
        by_cases hb : 48 ≤ b.toNat ∧ b.toNat ≤ 57
        · rw [dv_of hb] at hd
          replace hd : Lib.decFrom (0 * 10 + (b.toNat - 48)) t = some v := hd
          rw [Nat.zero_mul, Nat.zero_add] at hd
          have hb2 : dig ((b.toNat - 48 : Nat) : Int) = [b] := by
            rw [dig_one _ (by omega) (by omega)]
            rw [show 48 + (((b.toNat - 48 : Nat) : Int)).toNat = b.toNat by omega]
            simp
          cases t with
          | nil =>
            obtain rfl := Option.some.inj hd
            exact hb2.symm
          | cons c t =>
            have hne : b.toNat ≠ 48 := fun e => hc.2 ⟨by rw [List.head?_cons]; exact congrArg some (UInt8.toNat_inj.1 e), by simp⟩
            have := dig_from (c :: t) _ v (by omega) hd
            rw [this, hb2]
            rfl
        · have : Lib.digitVal b = none := by unfold Lib.digitVal; rw [if_neg hb]
          rw [this] at hd
          cases hd
  · omega
theorem atoi_dig {n : Int} (h0 : 0 ≤ n) (h1 : n ≤ 1000) : Lib.atoiAll (dig n) = .ok n := by
  obtain ⟨h2, h3, b, r, h4, _⟩ := dig_all n.toNat n h0 (Nat.le_refl _)
  have hl := dlen4 n h0 (by omega)
  rw [Lib.atoiAll_short _ (by omega)]
  have hb := h2 b (by rw [h4]; simp)
  rw [h4] at h3 ⊢
  unfold Lib.atoi
  dsimp only
  rw [if_neg (by intro e; have := eq_of_beq e; subst this; exact absurd hb (by decide)), if_neg (by intro e; have := eq_of_beq e; subst this; exact absurd hb (by decide))]
  unfold Lib.decNat
  rw [if_neg (by simp), h3]
  show Lib.NumEnd.ofOption (some ((n.toNat : Nat) : Int)) = _
  rw [show ((n.toNat : Nat) : Int) = n by omega]
  rfl
/-- Cut at a sign: all pieces, empty ones too. -/
def sp (c : UInt8) : List UInt8 → List UInt8 → List (List UInt8)
  | cur, [] => [cur]
  | cur, b :: r => if b = c then cur :: sp c [] r else sp c (cur ++ [b]) r
theorem sp_ne (c : UInt8) : ∀ (L cur : List UInt8), sp c cur L ≠ []
  | [], cur => by simp [sp]
  | b :: r, cur => by
    unfold sp
    split
    · simp
    · exact sp_ne c r _
theorem sp_join (c : UInt8) : ∀ (L cur : List UInt8), Lib.join (sp c cur L) [c] = cur ++ L
  | [], cur => by simp [sp, Lib.join_one]
  | b :: r, cur => by
    unfold sp
    split
    · rename_i h
      subst h
      rw [Lib.join_cons]
      have ih := sp_join b r []
      obtain ⟨x, t, e⟩ := List.exists_cons_of_ne_nil (sp_ne b r [])
      rw [e] at ih ⊢
      rw [Lib.join_cons] at ih
      unfold Lib.joinTail at ih ⊢
      simp only [List.map_cons, List.flatten_cons] at ih ⊢
      rw [List.append_assoc, ih]
      simp
    · rw [sp_join c r, List.append_assoc]; rfl
theorem sp_word (c : UInt8) : ∀ (x cur L : List UInt8), c ∉ x → sp c cur (x ++ L) = sp c (cur ++ x) L
  | [], cur, L, _ => by simp
  | b :: t, cur, L, h => by
    rw [List.cons_append]
    show (if b = c then _ else _) = _
    rw [if_neg (fun e => h (by rw [e]; simp)), sp_word c t _ L (fun e => h (by simp [e])), List.append_assoc]
    rfl
theorem sp_tail (c : UInt8) : ∀ (ps : List (List UInt8)) (cur : List UInt8), (∀ p ∈ ps, c ∉ p) → sp c cur (Lib.joinTail [c] ps) = cur :: ps
  | [], cur, _ => by simp [Lib.joinTail, sp]
  | p :: ps, cur, h => by
    have e : Lib.joinTail [c] (p :: ps) = c :: (p ++ Lib.joinTail [c] ps) := by unfold Lib.joinTail; simp
    rw [e]
    show (if c = c then _ else _) = _
    rw [if_pos rfl, sp_word c p [] _ (h p (by simp)), List.nil_append, sp_tail c ps p (fun q hq => h q (by simp [hq]))]
theorem sp_of_join (c : UInt8) (p : List UInt8) (ps : List (List UInt8)) (h : ∀ q ∈ p :: ps, c ∉ q) : sp c [] (Lib.join (p :: ps) [c]) = p :: ps := by
  rw [Lib.join_cons, sp_word c p [] _ (h p (by simp)), List.nil_append, sp_tail c ps p (fun q hq => h q (by simp [hq]))]
theorem sp_len (c : UInt8) : ∀ (L cur : List UInt8), (sp c cur L).length ≤ L.length + 1
  | [], cur => by simp [sp]
  | b :: r, cur => by
    unfold sp
    split
    · have := sp_len c r []; simp; omega
    · have := sp_len c r (cur ++ [b]); simp; omega
/-- Fields between signs: none is empty. -/
def flds (p : UInt8 → Bool) : List UInt8 → List UInt8 → List (List UInt8)
  | cur, [] => if cur = [] then [] else [cur]
  | cur, b :: r => if p b = true then (if cur = [] then flds p [] r else cur :: flds p [] r) else flds p (cur ++ [b]) r
theorem flds_word (p : UInt8 → Bool) : ∀ (x cur L : List UInt8), (∀ b ∈ x, p b = false) → flds p cur (x ++ L) = flds p (cur ++ x) L
  | [], cur, L, _ => by simp
  | b :: t, cur, L, h => by
    rw [List.cons_append]
    show (if p b = true then _ else _) = _
    rw [if_neg (by rw [h b (by simp)]; simp), flds_word p t _ L (fun q hq => h q (by simp [hq])), List.append_assoc]
    rfl
theorem flds_sign (p : UInt8 → Bool) (b : UInt8) (cur L : List UInt8) (hb : p b = true) (hc : cur ≠ []) : flds p cur (b :: L) = cur :: flds p [] L := by
  show (if p b = true then _ else _) = _
  rw [if_pos hb, if_neg hc]
theorem B_extract (L : List UInt8) (a b : Nat) : (B L).extract a b = B ((L.take b).drop a) := by
  have h : ((B L).extract a b).data = (B ((L.take b).drop a)).data := by
    rw [ByteArray.data_extract]
    unfold B
    simp [List.extract_eq_take_drop, List.drop_take]
  cases h1 : (B L).extract a b
  cases h2 : B ((L.take b).drop a)
  rw [h1, h2] at h
  simp only at h
  rw [h]
theorem B_at (L : List UInt8) (i : Nat) (h : i < (B L).size) : (B L)[i]'h = L[i]'(by rw [B_size] at h; exact h) := by
  show (B L).data[i]'_ = _
  simp [B]
theorem spans_flds (q : Nat → Bool) (p : UInt8 → Bool) (L : List UInt8) (hp : ∀ b ∈ L, q b.toNat = p b) (hA : ∀ b ∈ L, b.toNat < 128) : ∀ (f pos : Nat) (st : Option Nat) (acc : List (Nat × Nat)), pos ≤ L.length → L.length ≤ pos + f → (∀ a, st = some a → a < pos) →
    (Lib.closeSpans (B L) (Lib.spansFromP q (B L) f pos st acc)).map (fun x => (B L).extract x.1 x.2) = acc.map (fun x => (B L).extract x.1 x.2) ++ (flds p (match st with | some a => (L.take pos).drop a | none => []) (L.drop pos)).map B := by
  intro f
  induction f with
  | zero =>
    intro pos st acc h1 h2 h3
    obtain rfl : pos = L.length := by omega
    rw [List.drop_length]
    cases st with
    | none => simp [Lib.spansFromP, Lib.closeSpans, flds]
    | some a =>
      have := h3 a rfl
      have hne : (L.take L.length).drop a ≠ [] := fun e => by
        have := congrArg List.length e
        simp at this
        omega
      simp only [Lib.spansFromP, Lib.closeSpans, flds]
      rw [if_neg hne, B_size, List.map_append]
      simp [B_extract]
  | succ f ih =>
    intro pos st acc h1 h2 h3
    by_cases hlt : pos < L.length
    · have hs : pos < (B L).size := by rw [B_size]; exact hlt
      have hm := List.getElem_mem hlt
      have hv : (B L)[pos]'hs = L[pos]'hlt := B_at L pos hs
      have hd : Utf8.decode (B L) pos = ((L[pos]'hlt).toNat, 1) := by
        have := decode_ascii (B L) pos hs (by rw [hv]; exact hA _ hm)
        rw [this, hv]
      have hdr : L.drop pos = L[pos] :: L.drop (pos + 1) := List.drop_eq_getElem_cons hlt
      have hta : L.take (pos + 1) = L.take pos ++ [L[pos]] := by rw [List.take_add_one, List.getElem?_eq_getElem hlt]; rfl
      simp only [Lib.spansFromP]
      rw [if_pos hs, hd]
      dsimp only
      rw [hp _ hm, hdr]
      cases hb : p L[pos] with
      | true =>
        rw [if_pos rfl]
        cases st with
        | none =>
          dsimp only
          rw [ih (pos + 1) none acc (by omega) (by omega) (fun _ h => by cases h)]
          show _ = _ ++ (if p L[pos] = true then _ else _ : List (List UInt8)).map B
          rw [if_pos hb, if_pos rfl]
        | some a =>
          have := h3 a rfl
          have hne : (L.take pos).drop a ≠ [] := fun e => by
            have := congrArg List.length e
            simp at this
            omega
          dsimp only
          rw [ih (pos + 1) none _ (by omega) (by omega) (fun _ h => by cases h), flds_sign p _ _ _ hb hne, List.map_append]
          simp [B_extract]
      | false =>
        rw [if_neg (by simp)]
        cases st with
        | none =>
          dsimp only
          rw [ih (pos + 1) (some pos) acc (by omega) (by omega) (fun _ h => by injection h with h; omega)]
          show _ = _ ++ (if p L[pos] = true then _ else _ : List (List UInt8)).map B
          rw [if_neg (by rw [hb]; simp), hta]
          have e : ((L.take pos ++ [L[pos]]).drop pos) = [] ++ [L[pos]] := by
            rw [List.drop_append_of_le_length (by rw [List.length_take]; omega), List.drop_of_length_le (by rw [List.length_take]; omega)]
          dsimp only
          rw [e]
        | some a =>
          have := h3 a rfl
          dsimp only
          rw [ih (pos + 1) (some a) acc (by omega) (by omega) (fun _ h => by injection h with h; omega)]
          show _ = _ ++ (if p L[pos] = true then _ else _ : List (List UInt8)).map B
          rw [if_neg (by rw [hb]; simp), hta]
          dsimp only
          rw [List.drop_append_of_le_length (by simp; omega)]
    · obtain rfl : pos = L.length := by omega
      rw [Lib.spansFromP_end _ _ _ _ _ _ (by rw [B_size]; omega), List.drop_length]
      cases st with
      | none => simp [Lib.closeSpans, flds]
      | some a =>
        have := h3 a rfl
        have hne : (L.take L.length).drop a ≠ [] := fun e => by
          have := congrArg List.length e
          simp at this
          omega
        simp only [Lib.closeSpans, flds]
        rw [if_neg hne, B_size, List.map_append]
        simp [B_extract]
theorem fields_flds (q : Nat → Bool) (p : UInt8 → Bool) (L : List UInt8) (hp : ∀ b ∈ L, q b.toNat = p b) (hA : ∀ b ∈ L, b.toNat < 128) : Lib.goFieldsP q (B L) = (flds p [] L).map B := by
  have h := spans_flds q p L hp hA (B L).size 0 none [] (Nat.zero_le _) (by rw [B_size]; omega) (fun _ h => by cases h)
  unfold Lib.goFieldsP Lib.spansOfP
  rw [h]
  simp

theorem dig_two (n : Int) (h0 : 10 ≤ n) (h1 : n < 100) : dig n = [UInt8.ofNat (48 + n.toNat / 10), UInt8.ofNat (48 + n.toNat % 10)] := by
  unfold dig
  rw [Lib.decDigits, dif_neg (by omega), Lib.decDigits, dif_pos (by omega)]
  rfl
theorem dig_len (n : Int) (h0 : 0 ≤ n) (h1 : n < 100) : (dig n).length ≤ 2 := by
  by_cases h : n < 10
  · rw [dig_one n h0 h]; simp
  · rw [dig_two n (by omega) h1]; simp
theorem nums1 (x : Int) (h0 : 0 ≤ x) (h1 : x ≤ 255) : strOfNums [x] = B [UInt8.ofNat x.toNat] := rfl
theorem num_eq (n : Int) (h0 : 0 ≤ n) (h1 : n < 100) (k : Nat) (hk : 2 ≤ k) : spec_l1Num.f k n = some (B (dig n)) := by
  have one : ∀ (k : Nat) (n : Int), 0 ≤ n → n < 10 → spec_l1Num.f (k + 1) n = some (B (dig n)) := by
    intro k n h0 h1
    simp only [spec_l1Num.f]
    rw [if_pos h1, PK.wrap_in (by omega) (by omega), Int.emod_eq_of_lt (by omega) (by omega), nums1 _ (by omega) (by omega), dig_one n h0 h1]
    have e : (48 + n).toNat = 48 + n.toNat := by omega
    rw [e]
  obtain ⟨k, rfl⟩ : ∃ q, k = q + 2 := ⟨k - 2, by omega⟩
  by_cases h : n < 10
  · exact one (k + 1) n h0 h
  · have e1 : Int.tdiv n 10 = n / 10 := Int.tdiv_eq_ediv_of_nonneg h0
    have e2 : Int.tmod n 10 = n % 10 := Int.tmod_eq_emod_of_nonneg h0
    have u : spec_l1Num.f (k + 2) n = if n < 10 then (some (strOfNums (([(wrap64 (48 + n)) % 256] : List Int)))) else ((spec_l1Num.f (k + 1) (wrap64 (Int.tdiv n 10))).bind fun t114 => ((some (([(wrap64 (48 + (Int.tmod n 10))) % 256] : List Int) : List Int)).bind fun y115 => (if t114.size + (strOfNums y115).size ≤ 9223372036854775807 then (some (t114 ++ (strOfNums y115))) else (none)))) := rfl
    rw [u, if_neg h, e1, e2, PK.wrap_in (x := n / 10) (by omega) (by omega), PK.wrap_in (x := 48 + n % 10) (by omega) (by omega), one k (n / 10) (by omega) (by omega), Option.bind_some, Option.bind_some, Int.emod_eq_of_lt (by omega) (by omega), nums1 _ (by omega) (by omega), B_size, B_size, dig_one _ (by omega) (by omega), if_pos (by simp), B_app, dig_two n (by omega) h1]
    have g1 : (n / 10).toNat = n.toNat / 10 := by omega
    have g2 : (48 + n % 10).toNat = 48 + n.toNat % 10 := by omega
    rw [g1, g2]; rfl
theorem itoa_eq (n : Int) (h0 : 0 ≤ n) (h1 : n < 100) : strconv_Itoa.f n = some (B (dig n)) := by
  unfold strconv_Itoa.f
  rw [if_pos h0, if_pos h1]; rfl
def ct (c : S47) : List UInt8 := (((dig c.f0 ++ [46]) ++ dig c.f1) ++ [46]) ++ dig c.f2
structure Cok (c : S47) : Prop where
  a0 : 0 ≤ c.f0
  a1 : c.f0 ≤ 5
  b0 : 0 ≤ c.f1
  b1 : c.f1 ≤ 4
  c0 : 0 ≤ c.f2
  c1 : c.f2 ≤ 20
theorem clue_ok (c : S47) (h : clueB c.f0 c.f1 c.f2 = true) : Cok c := by
  unfold clueB at h
  rw [decide_eq_true_eq] at h
  by_cases h1 : c.f0 = 1 <;> by_cases h4 : c.f0 = 4 <;> constructor <;> omega
theorem ct_len (c : S47) (h : Cok c) : (ct c).length ≤ 8 := by
  obtain ⟨_, _, _, _, _, _⟩ := h
  have h1 := dig_len c.f0 (by omega) (by omega)
  have h2 := dig_len c.f1 (by omega) (by omega)
  have h3 := dig_len c.f2 (by omega) (by omega)
  unfold ct
  simp only [List.length_append, List.length_singleton]
  omega
/-- The texts with commas between. -/
def jt : List (List UInt8) → List UInt8 := fun l => Lib.join l [44]
theorem jt_snoc (l : List (List UInt8)) (x : List UInt8) (h : l ≠ []) : jt (l ++ [x]) = (jt l ++ [44]) ++ x := by
  cases l with
  | nil => exact absurd rfl h
  | cons y ys =>
    unfold jt
    rw [List.cons_append, Lib.join_cons, Lib.join_cons]
    unfold Lib.joinTail
    simp
theorem tail_len : ∀ (l : List (List UInt8)), (∀ x ∈ l, x.length ≤ 8) → (Lib.joinTail [44] l).length ≤ 9 * l.length
  | [], _ => by simp [Lib.joinTail]
  | x :: r, h => by
    have h1 := tail_len r (fun y hy => h y (by simp [hy]))
    have h2 := h x (by simp)
    have e : Lib.joinTail [44] (x :: r) = ([44] ++ x) ++ Lib.joinTail [44] r := by unfold Lib.joinTail; simp
    rw [e]
    simp only [List.length_append, List.length_singleton, List.length_cons, List.length_nil]
    omega
theorem jt_len (l : List (List UInt8)) (h : ∀ x ∈ l, x.length ≤ 8) : (jt l).length ≤ 9 * l.length := by
  cases l with
  | nil => simp [jt, Lib.join_nil]
  | cons x r =>
    have h1 := tail_len r (fun y hy => h y (by simp [hy]))
    have h2 := h x (by simp)
    unfold jt
    rw [Lib.join_cons]
    simp only [List.length_append, List.length_cons]
    omega
theorem spec_text (l : List S47) (hl : l.length ≤ 6) (hc : ∀ c ∈ l, Cok c) : ∀ (d k i : Nat), i + d = l.length → d + 3 ≤ k → spec_pzText.l0 k (B (jt ((l.take i).map ct))) l (l.length : Int) (i : Int) = some (B (jt (l.map ct))) := by
  intro d
  induction d with
  | zero =>
    intro k i hi hk
    obtain ⟨k, rfl⟩ : ∃ q, k = q + 1 := ⟨k - 1, by omega⟩
    obtain rfl : i = l.length := by omega
    simp only [spec_pzText.l0]
    rw [if_neg (by omega), List.take_length]
  | succ d ih =>
    intro k i hi hk
    obtain ⟨k, rfl⟩ : ∃ q, k = q + 1 := ⟨k - 1, by omega⟩
    have hlt : i < l.length := by omega
    have hrd : rd_T47 l (i : Int) = l[i] := PK.rdOf_at hlt _
    have ho := hc l[i] (List.getElem_mem hlt)
    obtain ⟨_, _, _, _, _, _⟩ := ho
    have h1 := dig_len l[i].f0 (by omega) (by omega)
    have h2 := dig_len l[i].f1 (by omega) (by omega)
    have h3 := dig_len l[i].f2 (by omega) (by omega)
    have hj := jt_len ((l.take i).map ct) (fun x hx => by
      obtain ⟨c, hc1, rfl⟩ := List.mem_map.1 hx
      exact ct_len c (hc c (List.mem_of_mem_take hc1)))
    have hj2 : ((l.take i).map ct).length ≤ 6 := by simp; omega
    have n1 := num_eq l[i].f0 (by omega) (by omega) k (by omega)
    have n2 := num_eq l[i].f1 (by omega) (by omega) k (by omega)
    have n3 := num_eq l[i].f2 (by omega) (by omega) k (by omega)
    have ht : (l.take (i + 1)).map ct = (l.take i).map ct ++ [ct l[i]] := by
      rw [List.take_add_one, List.getElem?_eq_getElem hlt, List.map_append]; rfl
    have e46 : (⟨#[46]⟩ : ByteArray) = B [46] := rfl
    have e44 : (⟨#[44]⟩ : ByteArray) = B [44] := rfl
    have ih' := ih k (i + 1) (by omega) (by omega)
    rw [ht] at ih'
    simp only [spec_pzText.l0]
    rw [if_pos (by omega), if_pos (by omega), if_pos (by omega), hrd, n1, n2, n3]
    simp only [Option.bind_some, B_size, e46, e44, B_app]
    rw [PK.w1 hlt (by omega)]
    by_cases c : (i : Int) > 0
    · have hne : (l.take i).map ct ≠ [] := by
        intro h
        have := congrArg List.length h
        rw [List.length_map, List.length_take, List.length_nil] at this
        omega
      rw [if_pos c, if_pos (by (try simp only [List.length_append, List.length_singleton]); first | omega | (trace_state; omega)), if_pos (by (try simp only [List.length_append, List.length_singleton]); first | omega | (trace_state; omega)), if_pos (by (try simp only [List.length_append, List.length_singleton]); first | omega | (trace_state; omega)), if_pos (by (try simp only [List.length_append, List.length_singleton]); first | omega | (trace_state; omega)), if_pos (by (try simp only [List.length_append, List.length_singleton]); first | omega | (trace_state; omega)), if_pos (by (try simp only [List.length_append, List.length_singleton]); first | omega | (trace_state; omega))]
      rw [jt_snoc _ _ hne] at ih'
      exact ih'
    · obtain rfl : i = 0 := by omega
      rw [if_neg c, if_pos (by (try simp only [List.length_append, List.length_singleton]); first | omega | (trace_state; omega)), if_pos (by (try simp only [List.length_append, List.length_singleton]); first | omega | (trace_state; omega)), if_pos (by (try simp only [List.length_append, List.length_singleton]); first | omega | (trace_state; omega)), if_pos (by (try simp only [List.length_append, List.length_singleton]); first | omega | (trace_state; omega)), if_pos (by (try simp only [List.length_append, List.length_singleton]); first | omega | (trace_state; omega))]
      have e0 : jt ((l.take 0).map ct ++ [ct l[0]]) = ct l[0] := by unfold jt; simp [Lib.join_one]
      have e1 : jt ((l.take 0).map ct) = [] := by unfold jt; simp [Lib.join_nil]
      rw [e0] at ih'
      rw [e1, List.nil_append]
      exact ih'
theorem join_eq (xs : List (List UInt8)) (sep : List UInt8) (hn : xs.length ≤ 1000) (hl : (Lib.join xs sep).length ≤ 1000000) : strings_Join.f (xs.map B) (B sep) = some (B (Lib.join xs sep)) := by
  have e : (xs.map B).map (fun x => x.data.toList) = xs := by
    rw [List.map_map]
    conv => rhs; rw [← List.map_id xs]
    exact List.map_congr_left fun x _ => B_list x
  unfold strings_Join.f strings_Join.text
  rw [if_pos (by simp; omega), e, B_list, if_pos (by omega)]; rfl
theorem joined_eq (a b c : Int) (ha : 0 ≤ a ∧ a < 100) (hb : 0 ≤ b ∧ b < 100) (hc : 0 ≤ c ∧ c < 100) (k : Nat) (hk : 5 ≤ k) : impl_joined.f k [a, b, c] ⟨#[46]⟩ = some (B ((((dig a ++ [46]) ++ dig b) ++ [46]) ++ dig c)) := by
  obtain ⟨k, rfl⟩ : ∃ q, k = q + 5 := ⟨k - 5, by omega⟩
  have e0 : rd [a, b, c] 0 = a := rfl
  have e1 : rd [a, b, c] 1 = b := rfl
  have e2 : rd [a, b, c] 2 = c := rfl
  have w0 : wrap64 ((0 : Int) + 1) = 1 := by rw [PK.wrap_in (by omega) (by omega)]; rfl
  have w1 : wrap64 ((1 : Int) + 1) = 2 := by rw [PK.wrap_in (by omega) (by omega)]; rfl
  have w2 : wrap64 ((2 : Int) + 1) = 3 := by rw [PK.wrap_in (by omega) (by omega)]; rfl
  have hj : Lib.join [dig a, dig b, dig c] [46] = (((dig a ++ [46]) ++ dig b) ++ [46]) ++ dig c := by
    rw [Lib.join_cons]; unfold Lib.joinTail; simp
  have h1 := dig_len a ha.1 ha.2
  have h2 := dig_len b hb.1 hb.2
  have h3 := dig_len c hc.1 hc.2
  unfold impl_joined.f
  simp only [impl_joined.l0, List.length_cons, List.length_nil]
  rw [if_pos (by decide), if_pos (by decide), if_pos (by decide), e0, itoa_eq a ha.1 ha.2, Option.bind_some, if_pos (by decide), w0]
  rw [if_pos (by decide), if_pos (by decide), if_pos (by decide), e1, itoa_eq b hb.1 hb.2, Option.bind_some, if_pos (by simp), w1]
  rw [if_pos (by decide), if_pos (by decide), if_pos (by decide), e2, itoa_eq c hc.1 hc.2, Option.bind_some, if_pos (by simp), w2]
  rw [if_neg (by decide)]
  have := join_eq [dig a, dig b, dig c] [46] (by simp) (by rw [hj]; simp only [List.length_append, List.length_singleton]; omega)
  rw [hj] at this
  show (strings_Join.f ([dig a, dig b, dig c].map B) (B [46])).bind _ = _
  rw [this, Option.bind_some]
theorem impl_text (l : List S47) (hl : l.length ≤ 6) (hc : ∀ c ∈ l, Cok c) : ∀ (d k i : Nat), i + d = l.length → d + 6 ≤ k → impl_puzzleText.l0 k ((l.take i).map fun c => B (ct c)) l (l.length : Int) (i : Int) = some (B (jt (l.map ct))) := by
  intro d
  induction d with
  | zero =>
    intro k i hi hk
    obtain ⟨k, rfl⟩ : ∃ q, k = q + 1 := ⟨k - 1, by omega⟩
    obtain rfl : i = l.length := by omega
    have hj := jt_len (l.map ct) (fun x hx => by
      obtain ⟨c, hc1, rfl⟩ := List.mem_map.1 hx
      exact ct_len c (hc c hc1))
    simp only [List.length_map] at hj
    have := join_eq (l.map ct) [44] (by simp; omega) (by show (jt (l.map ct)).length ≤ _; omega)
    rw [List.map_map] at this
    simp only [impl_puzzleText.l0]
    rw [if_neg (by omega), List.take_length]
    show (strings_Join.f (l.map (B ∘ ct)) (B [44])).bind _ = _
    rw [this, Option.bind_some]; rfl
  | succ d ih =>
    intro k i hi hk
    obtain ⟨k, rfl⟩ : ∃ q, k = q + 1 := ⟨k - 1, by omega⟩
    have hlt : i < l.length := by omega
    have hrd : rd_T47 l (i : Int) = l[i] := PK.rdOf_at hlt _
    obtain ⟨_, _, _, _, _, _⟩ := hc l[i] (List.getElem_mem hlt)
    have ht : (l.take (i + 1)).map (fun c => B (ct c)) = (l.take i).map (fun c => B (ct c)) ++ [B (ct l[i])] := by
      rw [List.take_add_one, List.getElem?_eq_getElem hlt, List.map_append]; rfl
    have ih' := ih k (i + 1) (by omega) (by omega)
    rw [ht] at ih'
    simp only [impl_puzzleText.l0]
    rw [if_pos (by omega), if_pos (by omega), if_pos (by omega), hrd, joined_eq _ _ _ (by omega) (by omega) (by omega) k (by omega), Option.bind_some, if_pos (by simp; omega), PK.w1 hlt (by omega)]
    exact ih'

theorem bt_B {L : List UInt8} {i : Nat} (h : i < L.length) : bt (B L) (i : Int) = ((L[i]).toNat : Int) := by
  have hs : i < (B L).size := by rw [B_size]; exact h
  rw [PK.bt_at' hs, B_at]
theorem split_run (L : List UInt8) (c : UInt8) (hL : L.length ≤ 1000) : ∀ (d k i fr : Nat) (acc : List ByteArray), i + d = L.length → d < k → fr ≤ i → acc.length ≤ i →
    spec_l1Split.l0 k (B L) ((c.toNat : Nat) : Int) acc (fr : Int) (i : Int) = some (acc ++ (sp c ((L.take i).drop fr) (L.drop i)).map B) := by
  intro d
  induction d with
  | zero =>
    intro k i fr acc hi hk hf ha
    obtain ⟨k, rfl⟩ : ∃ q, k = q + 1 := ⟨k - 1, by omega⟩
    obtain rfl : i = L.length := by omega
    simp only [spec_l1Split.l0]
    rw [B_size, if_neg (by omega), if_pos (by omega), if_pos (by omega), if_pos (by omega), Int.toNat_natCast, B_extract, List.drop_length]
    rfl
  | succ d ih =>
    intro k i fr acc hi hk hf ha
    obtain ⟨k, rfl⟩ : ∃ q, k = q + 1 := ⟨k - 1, by omega⟩
    have hlt : i < L.length := by omega
    have hdr : L.drop i = L[i] :: L.drop (i + 1) := List.drop_eq_getElem_cons hlt
    have hta : L.take (i + 1) = L.take i ++ [L[i]] := by rw [List.take_add_one, List.getElem?_eq_getElem hlt]; rfl
    simp only [spec_l1Split.l0]
    rw [B_size, if_pos (by omega), if_pos (by omega), bt_B hlt, PK.w1 hlt (by omega)]
    by_cases hb : L[i] = c
    · rw [if_pos (by rw [hb]), if_pos (by omega), if_pos (by omega), if_pos (by omega), if_pos (by omega), Int.toNat_natCast, Int.toNat_natCast, B_extract, ih k (i + 1) (i + 1) _ (by omega) (by omega) (Nat.le_refl _) (by simp; omega), hdr]
      show _ = some (acc ++ (if L[i] = c then _ else _ : List (List UInt8)).map B)
      have e0 : (L.take (i + 1)).drop (i + 1) = [] := List.drop_of_length_le (by rw [List.length_take]; omega)
      rw [if_pos hb, e0]
      simp
    · rw [if_neg (fun e => hb (UInt8.toNat_inj.1 (by omega))), ih k (i + 1) fr acc (by omega) (by omega) (by omega) (by omega), hdr]
      show _ = some (acc ++ (if L[i] = c then _ else _ : List (List UInt8)).map B)
      rw [if_neg hb, hta, List.drop_append_of_le_length (by rw [List.length_take]; omega)]
theorem split_eq (L : List UInt8) (c : UInt8) (hL : L.length ≤ 1000) (k : Nat) (hk : L.length < k) : spec_l1Split.f k (B L) ((c.toNat : Nat) : Int) = some ((sp c [] L).map B) := by
  have h := split_run L c hL L.length k 0 0 [] (by omega) hk (Nat.le_refl _) (Nat.le_refl _)
  unfold spec_l1Split.f
  simpa using h
theorem read_run (x : List UInt8) (hx : x.length ≤ 6) : ∀ (d k i m : Nat), i + d = x.length → d < k → m < 10 ^ i →
    spec_l1Read.l0 k (B x) (m : Int) (i : Int) = some (match Lib.decFrom m (x.drop i) with | some v => (v : Int) | none => -1) := by
  intro d
  induction d with
  | zero =>
    intro k i m hi hk hm
    obtain ⟨k, rfl⟩ : ∃ q, k = q + 1 := ⟨k - 1, by omega⟩
    obtain rfl : i = x.length := by omega
    simp only [spec_l1Read.l0]
    rw [B_size, if_neg (by omega), List.drop_length]
    rfl
  | succ d ih =>
    intro k i m hi hk hm
    obtain ⟨k, rfl⟩ : ∃ q, k = q + 1 := ⟨k - 1, by omega⟩
    have hlt : i < x.length := by omega
    have hdr : x.drop i = x[i] :: x.drop (i + 1) := List.drop_eq_getElem_cons hlt
    have h5 : (10 : Nat) ^ i ≤ 10 ^ 5 := Nat.pow_le_pow_right (by omega) (by omega)
    simp only [spec_l1Read.l0]
    rw [B_size, if_pos (by omega), if_pos (by omega), bt_B hlt, hdr]
    simp only [Lib.decFrom]
    by_cases c1 : (((x[i]).toNat : Nat) : Int) < 48
    · rw [if_pos c1]
      have : Lib.digitVal x[i] = none := by unfold Lib.digitVal; rw [if_neg (by omega)]
      rw [this]
    · rw [if_neg c1]
      by_cases c2 : (((x[i]).toNat : Nat) : Int) > 57
      · rw [if_pos c2]
        have : Lib.digitVal x[i] = none := by unfold Lib.digitVal; rw [if_neg (by omega)]
        rw [this]
      · rw [if_neg c2, dv_of ⟨by omega, by omega⟩, PK.w1 hlt (by omega)]
        have e : wrap64 (wrap64 (10 * (m : Int)) + (((((x[i]).toNat : Nat) : Int) - 48) % 256)) = ((m * 10 + ((x[i]).toNat - 48) : Nat) : Int) := by
          rw [PK.wrap_in (x := 10 * (m : Int)) (by omega) (by omega), Int.emod_eq_of_lt (by omega) (by omega), PK.wrap_in (by omega) (by omega)]
          omega
        rw [e, ih k (i + 1) _ (by omega) (by omega) (by rw [Nat.pow_succ]; omega)]
theorem read_eq (x : List UInt8) (hx : x.length ≤ 1000) (k : Nat) (hk : 20 ≤ k) : spec_l1Read.f k (B x) = some (rdL x) := by
  obtain ⟨k, rfl⟩ : ∃ q, k = q + 1 := ⟨k - 1, by omega⟩
  unfold spec_l1Read.f rdL
  rw [l1In_eq, Option.bind_some, B_size]
  by_cases c : 1 ≤ x.length ∧ x.length ≤ 6
  · have e : (decide ((1 : Int) ≤ (x.length : Int)) && decide ((x.length : Int) ≤ 6)) = true := by simp; omega
    have hr := read_run x c.2 x.length k 0 0 (by omega) (by omega) (by simp)
    have h0 : 0 < x.length := by omega
    have hb := bt_B h0
    have hh : x.head? = some x[0] := by cases x with | nil => simp at h0 | cons _ _ => rfl
    rw [if_pos e, if_pos (by omega)]
    rw [show ((0 : Nat) : Int) = 0 from rfl] at hb hr
    rw [hb]
    simp only [spec_l1Read.j0]
    by_cases c1 : (((x[0]).toNat : Nat) : Int) = 48
    · have e48 : x[0] = 48 := UInt8.toNat_inj.1 (by show (x[0]).toNat = 48; omega)
      rw [if_pos c1]
      by_cases c2 : 1 < x.length
      · rw [if_pos (by simp; omega), if_neg (fun h => h.2 ⟨by rw [hh, e48], c2⟩)]
      · rw [if_neg (by simp; omega), if_pos ⟨c, fun h => c2 h.2⟩, hr]
        rfl
    · rw [if_neg c1, if_neg (by simp), if_pos ⟨c, fun h => c1 (by rw [hh] at h; have := Option.some.inj h.1; rw [this]; rfl)⟩, hr]
      rfl
  · have e : (decide ((1 : Int) ≤ (x.length : Int)) && decide ((x.length : Int) ≤ 6)) = false := by
      rw [Bool.and_eq_false_iff]
      by_cases c1 : 1 ≤ x.length
      · exact .inr (by simp; omega)
      · exact .inl (by simp; omega)
    rw [e, if_neg (by simp), if_neg (fun h => c h.1)]
    simp only [spec_l1Read.j0]
    rw [if_pos trivial]
theorem sp_mem (c : UInt8) : ∀ (L cur : List UInt8), ∀ q ∈ sp c cur L, q.length ≤ cur.length + L.length
  | [], cur, q, h => by
    rw [sp, List.mem_singleton] at h
    subst h
    simp
  | b :: r, cur, q, h => by
    unfold sp at h
    split at h
    · rcases List.mem_cons.1 h with h | h
      · subst h; omega
      · have := sp_mem c r [] q h
        simp at this ⊢
        omega
    · have := sp_mem c r _ q h
      simp at this ⊢
      omega

theorem eqClueS_refl (l : List S47) (hl : l.length ≤ 1048576) (k : Nat) (hk : l.length < k) : laws_eqClueS.f k l l = some true := by
  unfold laws_eqClueS.f
  rw [if_pos rfl]
  have h := PK.all_loop0 l (fun k i => laws_eqClueS.l0 k l l i) 0 (fun _ => true)
    (fun k i hi _ => by
      try dsimp only
      simp only [laws_eqClueS.l0]
      rw [if_pos (by omega), if_pos (by omega), if_pos (by omega)]
      unfold laws_eqClue.f
      rw [if_pos rfl, if_pos rfl, if_pos rfl, Option.bind_some, if_pos rfl, if_pos trivial, PK.w1 hi (by omega)])
    (fun k _ => by
      try dsimp only
      simp only [laws_eqClueS.l0]
      rw [if_neg (by omega)])
    (k := k) (by omega)
  try dsimp only at h
  rw [h]; simp
theorem eqPuzzle_refl (l : List S47) (hl : l.length ≤ 1048576) (k : Nat) (hk : l.length < k) : laws_eqPuzzle.f k l l = some true := by
  unfold laws_eqPuzzle.f; rw [eqClueS_refl l hl k hk]; rfl

def mkC (a : Int) : S47 := ⟨a, a + 1, a + 2⟩
theorem markPuzzle_eq (l : List S47) (hl : l.length ≤ 1048576) (k : Nat) (hk : l.length < k) : laws_markPuzzle.f k l 1 = some (1 + ((3 : Nat) : Int) * (l.length : Int), (List.range l.length).map fun (i : Nat) => mkC (1 + ((3 : Nat) : Int) * (i : Int))) := by
  unfold laws_markPuzzle.f laws_markClueS.f
  have h := PK.mark_loop l.length 0 3 (fun k s a i => laws_markClueS.l0 k s a i) mkC 1 4000000 (by omega) (by omega)
    (fun k i s a _ hs hi h0 hB => by
      try dsimp only
      simp only [laws_markClueS.l0]
      have w1 : wrap64 (a + 1) = a + 1 := PK.wrap_in (by omega) (by omega)
      have w2 : wrap64 (a + 1 + 1) = a + 2 := by rw [PK.wrap_in (by omega) (by omega)]; omega
      have w3 : wrap64 (a + 2 + 1) = a + 3 := by rw [PK.wrap_in (by omega) (by omega)]; omega
      rw [if_pos (by omega), if_pos (by omega), Option.bind_some, Option.bind_some, w1, w2, w3, PK.w1 hi (by omega), Int.toNat_natCast]
      have hi' : i < s.length := by omega
      unfold rd_T47
      have g1 : ∀ v z, (s.set i v).getD ((i : Int)).toNat z = v := fun v z => PK.getD_set hi' v z
      simp only [g1, List.set_set]
      rfl)
    (fun k s a _ hs => by
      try dsimp only
      simp only [laws_markClueS.l0]
      rw [if_neg (by omega)])
    (k := k) (by omega) (s := l) rfl
  try dsimp only at h
  rw [h]; rfl

theorem heldPuzzle_eq (l : List S47) (hl : l.length ≤ 1048576) (hx : ∀ i (h : i < l.length), l[i] = mkC (1 + ((3 : Nat) : Int) * (i : Int))) (k : Nat) (hk : l.length < k) : laws_heldPuzzle.f k l 1 = some (1 + ((3 : Nat) : Int) * (l.length : Int)) := by
  unfold laws_heldPuzzle.f laws_heldClueS.f
  have h := PK.held_loop l 0 3 (fun k a i => laws_heldClueS.l0 k l a i) mkC 1 4000000 (by omega) (by omega) hx
    (fun k i hi a _ h0 hB hm => by
      try dsimp only
      simp only [laws_heldClueS.l0]
      have w1 : wrap64 (a + 1) = a + 1 := PK.wrap_in (by omega) (by omega)
      have w2 : wrap64 (a + 1 + 1) = a + 2 := by rw [PK.wrap_in (by omega) (by omega)]; omega
      have w3 : wrap64 (a + 2 + 1) = a + 3 := by rw [PK.wrap_in (by omega) (by omega)]; omega
      unfold rd_T47
      rw [PK.getD_at hi, hm, w1, w2, w3, PK.w1 hi (by omega)]
      rw [if_pos (by omega), if_pos (by omega), if_pos (show (mkC a).f0 = a from rfl), if_pos (show (mkC a).f1 = a + 1 from rfl), if_pos (show (mkC a).f2 = a + 2 from rfl)]
      rfl)
    (fun k a _ => by
      try dsimp only
      simp only [laws_heldClueS.l0]
      rw [if_neg (by omega)])
    (k := k) (by omega)
  try dsimp only at h
  rw [h, Option.bind_some, if_neg (by omega)]
theorem held_marked (n : Nat) (hn : n ≤ 1048576) (k : Nat) (hk : n < k) : laws_heldPuzzle.f k ((List.range n).map fun (i : Nat) => mkC (1 + ((3 : Nat) : Int) * (i : Int))) 1 = some (1 + ((3 : Nat) : Int) * (n : Int)) := by
  have h := heldPuzzle_eq ((List.range n).map fun (i : Nat) => mkC (1 + ((3 : Nat) : Int) * (i : Int))) (by simpa using hn) (fun i h => PK.marked_at h) k (by simpa using hk)
  simpa using h

theorem rdL_dig0 {n : Int} (h0 : 0 ≤ n) (h1 : n ≤ 1000) : rdL (dig n) = n := by
  by_cases c : 1 ≤ n
  · exact rdL_dig c h1
  · obtain rfl : n = 0 := by omega
    rw [dig_one 0 (by omega) (by omega)]
    rfl
def pc (p : List UInt8) : Option S47 := match sp 46 [] p with
  | [x, y, z] => some ⟨rdL x, rdL y, rdL z⟩
  | _ => none
def pcs : List (List UInt8) → Option (List S47)
  | [] => some []
  | p :: r => (pc p).bind fun c => (pcs r).map (c :: ·)
def okL (l : List S47) : Bool := decide (l.length ≤ 6) && l.all fun c => clueB c.f0 c.f1 c.f2
theorem okL_cok {l : List S47} (h : okL l = true) : l.length ≤ 6 ∧ ∀ c ∈ l, Cok c := by
  unfold okL at h
  simp only [Bool.and_eq_true, decide_eq_true_eq] at h
  exact ⟨h.1, fun x hx => clue_ok x (List.all_eq_true.1 h.2 x hx)⟩
/-- The text of good clues. -/
def Txt (l : List S47) : List UInt8 := jt (l.map ct)
theorem Txt_len {l : List S47} (h : okL l = true) : (Txt l).length ≤ 54 := by
  obtain ⟨h6, hs⟩ := okL_cok h
  have := jt_len (l.map ct) (fun x hx => by
    obtain ⟨c, hc, rfl⟩ := List.mem_map.1 hx
    exact ct_len c (hs c hc))
  rw [List.length_map] at this
  unfold Txt
  omega
theorem txt_spec {l : List S47} (h : okL l = true) (k : Nat) (hk : 100 ≤ k) : spec_pzText.f k l = some (B (Txt l)) := by
  obtain ⟨h6, hs⟩ := okL_cok h
  have h2 := spec_text l h6 hs l.length k 0 (by omega) (by omega)
  unfold spec_pzText.f
  have e0 : ((0 : Nat) : Int) = 0 := rfl
  rw [e0] at h2
  simp only [List.take_zero, List.map_nil] at h2
  exact h2
theorem txt_impl {l : List S47} (h : okL l = true) (k : Nat) (hk : 100 ≤ k) : impl_puzzleText.f k l = some (B (Txt l)) := by
  obtain ⟨h6, hs⟩ := okL_cok h
  have h2 := impl_text l h6 hs l.length k 0 (by omega) (by omega)
  unfold impl_puzzleText.f
  have e0 : ((0 : Nat) : Int) = 0 := rfl
  rw [e0] at h2
  simp only [List.take_zero, List.map_nil] at h2
  exact h2
theorem B_inj {a b : List UInt8} (h : B a = B b) : a = b := by
  have := congrArg (fun z : ByteArray => z.data.toList) h
  simpa only [B_list] using this
theorem B_toList (a : List UInt8) : (B a).toList = a := by rw [Lib.toList_data, B_list]
/-- What the reference's reader ends with: the clues so far and whether they are the text's. -/
def endP (L : List UInt8) (r : List S47) : Bool := okL r && (Txt r == L)
theorem parse_run (L : List UInt8) (ps : List (List UInt8)) (hps : ∀ p ∈ ps, p.length ≤ 80) (hn : ps.length ≤ 100) : ∀ (d k i : Nat) (acc : List S47), i + d = ps.length → d + 1300 ≤ k → acc.length ≤ i →
    ∃ t : List S47 × Bool, spec_pzParse.l0 k (B L) (ps.map B) (ps.length : Int) (i : Int) acc = some t ∧ (t.2 = true → endP L t.1 = true ∧ (pcs (ps.drop i)).map (acc ++ ·) = some t.1) ∧ (∀ r, (pcs (ps.drop i)).map (acc ++ ·) = some r → t = (r, endP L r)) := by
  intro d
  induction d with
  | zero =>
    intro k i acc hi hk ha
    obtain ⟨k, rfl⟩ : ∃ q, k = q + 1 := ⟨k - 1, by omega⟩
    obtain rfl : i = ps.length := by omega
    simp only [spec_pzParse.l0]
    rw [if_neg (by omega), specGood_eq acc (by omega) k (by omega), Option.bind_some, List.drop_length]
    have hm : (pcs ([] : List (List UInt8))).map (acc ++ ·) = some acc := by show some (acc ++ []) = _; rw [List.append_nil]
    rw [hm]
    show ∃ t, (if okL acc = true then _ else _) = some t ∧ _
    by_cases c : okL acc = true
    · rw [if_pos c, txt_spec c k (by omega), Option.bind_some, B_toList, B_toList]
      have e : (Txt acc == L) = endP L acc := by unfold endP; rw [c, Bool.true_and]
      rw [e]
      exact ⟨(acc, endP L acc), rfl, fun h => ⟨h, rfl⟩, fun r hr => by obtain rfl := Option.some.inj hr; rfl⟩
    · rw [if_neg c]
      have e : endP L acc = false := by unfold endP; rw [Bool.eq_false_iff.2 c, Bool.false_and]
      exact ⟨(acc, false), rfl, fun h => (by cases h), fun r hr => by obtain rfl := Option.some.inj hr; rw [e]⟩
  | succ d ih =>
    intro k i acc hi hk ha
    obtain ⟨k, rfl⟩ : ∃ q, k = q + 1 := ⟨k - 1, by omega⟩
    have hlt : i < ps.length := by omega
    have hdr : ps.drop i = ps[i] :: ps.drop (i + 1) := List.drop_eq_getElem_cons hlt
    have hp := hps ps[i] (List.getElem_mem hlt)
    have hrd : rdOf ByteArray.empty (ps.map B) (i : Int) = B ps[i] := by
      rw [PK.rdOf_at (by simpa using hlt)]
      simp
    have hsp := split_eq ps[i] 46 (by omega) k (by omega)
    rw [show (((46 : UInt8).toNat : Nat) : Int) = 46 from rfl] at hsp
    simp only [spec_pzParse.l0]
    rw [if_pos (by omega), if_pos (by omega), if_pos (by simp; omega), hrd, hsp, Option.bind_some, hdr, List.length_map, PK.w1 hlt (by omega)]
    have hm := sp_mem 46 ps[i] []
    have hpc : pc ps[i] = match sp 46 [] ps[i] with | [x, y, z] => some ⟨rdL x, rdL y, rdL z⟩ | _ => none := rfl
    have hcs : pcs (ps[i] :: ps.drop (i + 1)) = (pc ps[i]).bind fun c => (pcs (ps.drop (i + 1))).map (c :: ·) := rfl
    rw [hcs, hpc]
    generalize sp 46 [] ps[i] = W at hm
    match W, hm with
    | [], _ => rw [if_neg (by simp)]; exact ⟨(acc, false), rfl, fun h => (by cases h), fun r hr => by cases hr⟩
    | [x], _ => rw [if_neg (by simp)]; exact ⟨(acc, false), rfl, fun h => (by cases h), fun r hr => by cases hr⟩
    | [x, y], _ => rw [if_neg (by simp)]; exact ⟨(acc, false), rfl, fun h => (by cases h), fun r hr => by cases hr⟩
    | x :: y :: z :: u :: t, _ => rw [if_neg (by simp; omega)]; exact ⟨(acc, false), rfl, fun h => (by cases h), fun r hr => by cases hr⟩
    | [x, y, z], hm =>
      have h1 := hm x (by simp)
      have h2 := hm y (by simp)
      have h3 := hm z (by simp)
      simp only [List.length_nil] at h1 h2 h3
      have e0 : rdOf ByteArray.empty ([x, y, z].map B) 0 = B x := rfl
      have e1 : rdOf ByteArray.empty ([x, y, z].map B) 1 = B y := rfl
      have e2 : rdOf ByteArray.empty ([x, y, z].map B) 2 = B z := rfl
      rw [if_pos (by simp), if_pos (by simp), e0, read_eq x (by omega) k (by omega), Option.bind_some, if_pos (by simp), e1, read_eq y (by omega) k (by omega), Option.bind_some, if_pos (by simp), e2, read_eq z (by omega) k (by omega), Option.bind_some, if_pos (by omega)]
      obtain ⟨t, ht, h4, h5⟩ := ih k (i + 1) (acc ++ [(⟨rdL x, rdL y, rdL z⟩ : S47)]) (by omega) (by omega) (by simp; omega)
      dsimp only
      rw [Option.bind_some, Option.map_map]
      have ef : ((acc ++ ·) ∘ ((⟨rdL x, rdL y, rdL z⟩ : S47) :: ·) : List S47 → List S47) = ((acc ++ [(⟨rdL x, rdL y, rdL z⟩ : S47)]) ++ ·) := by
        funext r
        simp
      rw [ef]
      exact ⟨t, ht, h4, h5⟩
theorem ct_bytes {c : S47} (h : Cok c) : ∀ b ∈ ct c, b = 46 ∨ (48 ≤ b.toNat ∧ b.toNat ≤ 57) := by
  obtain ⟨_, _, _, _, _, _⟩ := h
  intro b hb
  unfold ct at hb
  rcases List.mem_append.1 hb with hb | hb
  · rcases List.mem_append.1 hb with hb | hb
    · rcases List.mem_append.1 hb with hb | hb
      · rcases List.mem_append.1 hb with hb | hb
        · exact .inr ((dig_all _ c.f0 (by omega) (Nat.le_refl _)).1 b hb)
        · exact .inl (List.mem_singleton.1 hb)
      · exact .inr ((dig_all _ c.f1 (by omega) (Nat.le_refl _)).1 b hb)
    · exact .inl (List.mem_singleton.1 hb)
  · exact .inr ((dig_all _ c.f2 (by omega) (Nat.le_refl _)).1 b hb)
theorem dig_ne {n : Int} (h : 0 ≤ n) : dig n ≠ [] := by
  obtain ⟨_, _, b, r, e, _⟩ := dig_all _ n h (Nat.le_refl _)
  rw [e]
  simp
theorem pc_ct {c : S47} (h : Cok c) : pc (ct c) = some c := by
  obtain ⟨_, _, _, _, _, _⟩ := h
  have hd : ∀ n : Int, 0 ≤ n → (46 : UInt8) ∉ dig n := fun n hn hm => absurd ((dig_all _ n hn (Nat.le_refl _)).1 _ hm) (by decide)
  have e : ct c = Lib.join [dig c.f0, dig c.f1, dig c.f2] [46] := by
    rw [Lib.join_cons]
    unfold ct Lib.joinTail
    simp
  unfold pc
  rw [e, sp_of_join 46 _ _ (fun q hq => by
    rcases List.mem_cons.1 hq with rfl | hq
    · exact hd _ (by omega)
    · rcases List.mem_cons.1 hq with rfl | hq
      · exact hd _ (by omega)
      · rw [List.mem_singleton] at hq
        subst hq
        exact hd _ (by omega))]
  dsimp only
  rw [rdL_dig0 (by omega) (by omega), rdL_dig0 (by omega) (by omega), rdL_dig0 (by omega) (by omega)]
theorem pcs_ct : ∀ (l : List S47), (∀ c ∈ l, Cok c) → pcs (l.map ct) = some l
  | [], _ => rfl
  | c :: t, h => by
    show ((pc (ct c)).bind fun c => (pcs (t.map ct)).map (c :: ·)) = _
    rw [pc_ct (h c (by simp)), Option.bind_some, pcs_ct t (fun q hq => h q (by simp [hq]))]
    rfl
theorem Txt_nil : Txt [] = [] := rfl
theorem ct_ne {c : S47} : ct c ≠ [] := by
  intro h
  have := congrArg List.length h
  unfold ct at this
  simp at this
theorem spec_mid (L : List UInt8) (hL : L.length ≤ 60) (h0 : L ≠ []) (k : Nat) (hk : 2000 ≤ k) : ∃ t : List S47 × Bool, spec_pzParse.f k (B L) = some t ∧ (t.2 = true → endP L t.1 = true) ∧ (∀ r, pcs (sp 44 [] L) = some r → t = (r, endP L r)) := by
  have hl := sp_len 44 L []
  have hsp := split_eq L 44 (by omega) k (by omega)
  rw [show (((44 : UInt8).toNat : Nat) : Int) = 44 from rfl] at hsp
  obtain ⟨t, ht, h1, h2⟩ := parse_run L (sp 44 [] L) (fun p hp => by have := sp_mem 44 L [] p hp; simp at this; omega) (by omega) (sp 44 [] L).length k 0 [] (by omega) (by omega) (Nat.le_refl _)
  refine ⟨t, ?_, fun h => (h1 h).1, fun r hr => h2 r ?_⟩
  · unfold spec_pzParse.f
    rw [B_size, if_neg (by omega), if_neg (by rw [B_toList]; exact h0), hsp, Option.bind_some, List.length_map]
    rw [show ((0 : Nat) : Int) = 0 from rfl] at ht
    exact ht
  · rw [List.drop_zero, hr]
    simp
theorem spec_yes {l : List S47} (h : okL l = true) (k : Nat) (hk : 2000 ≤ k) : spec_ParsePuzzle.f k (B (Txt l)) = some (l, true) := by
  obtain ⟨h6, hs⟩ := okL_cok h
  have hlen := Txt_len h
  cases l with
  | nil =>
    unfold spec_ParsePuzzle.f spec_pzParse.f
    rw [B_size, if_neg (by omega), if_pos (by rw [B_toList]; exact Txt_nil), Option.bind_some, if_pos rfl]
  | cons c t =>
    have e : sp 44 [] (Txt (c :: t)) = (c :: t).map ct := by
      unfold Txt jt
      exact sp_of_join 44 (ct c) (t.map ct) (fun q hq hm => by
        have hq2 : q ∈ (c :: t).map ct := hq
        obtain ⟨d, hd, rfl⟩ := List.mem_map.1 hq2
        rcases ct_bytes (hs d hd) _ hm with e | e
        · exact absurd e (by decide)
        · exact absurd e (by decide))
    have h0 : Txt (c :: t) ≠ [] := by
      unfold Txt jt
      rw [List.map_cons, Lib.join_cons]
      intro h
      exact ct_ne (List.append_eq_nil_iff.1 h).1
    obtain ⟨r, hr, _, h2⟩ := spec_mid (Txt (c :: t)) (by omega) h0 k hk
    have h3 := h2 _ (by rw [e]; exact pcs_ct _ hs)
    have e2 : endP (Txt (c :: t)) (c :: t) = true := by unfold endP; rw [h, Bool.true_and]; exact beq_iff_eq.2 rfl
    rw [e2] at h3
    unfold spec_ParsePuzzle.f
    rw [hr, Option.bind_some, h3, if_pos rfl]
theorem spec_no {L : List UInt8} (h : ∀ l, okL l = true → L ≠ Txt l) (k : Nat) (hk : 2000 ≤ k) : spec_ParsePuzzle.f k (B L) = some ([], false) := by
  unfold spec_ParsePuzzle.f
  by_cases hL : 60 < L.length
  · unfold spec_pzParse.f
    rw [B_size, if_pos (by omega), Option.bind_some, if_neg (by simp)]
  · have h0 : L ≠ [] := fun e => h [] rfl (by rw [e, Txt_nil])
    obtain ⟨t, ht, h1, _⟩ := spec_mid L (by omega) h0 k hk
    rw [ht, Option.bind_some, if_neg]
    intro c
    have := h1 c
    unfold endP at this
    rw [Bool.and_eq_true] at this
    exact h _ this.1 (eq_of_beq this.2).symm
/-! The other side. -/
def sgn (b : UInt8) : Bool := b == 46 || b == 44
theorem sgn_dig {n : Int} (h : 0 ≤ n) : ∀ b ∈ dig n, sgn b = false := fun b hb => by
  have := (dig_all _ n h (Nat.le_refl _)).1 b hb
  unfold sgn
  rw [Bool.or_eq_false_iff]
  exact ⟨beq_eq_false_iff_ne.2 (fun e => by rw [e] at this; exact absurd this (by decide)), beq_eq_false_iff_ne.2 (fun e => by rw [e] at this; exact absurd this (by decide))⟩
theorem flds_end {n : Int} (h : 0 ≤ n) : flds sgn [] (dig n) = [dig n] := by
  have := flds_word sgn (dig n) [] [] (sgn_dig h)
  rw [List.append_nil, List.nil_append] at this
  rw [this]
  show (if dig n = [] then _ else _) = _
  rw [if_neg (dig_ne h)]
theorem flds_go {n : Int} (h : 0 ≤ n) (b : UInt8) (hb : sgn b = true) (R : List UInt8) : flds sgn [] (dig n ++ b :: R) = dig n :: flds sgn [] R := by
  rw [flds_word sgn (dig n) [] _ (sgn_dig h), List.nil_append, flds_sign sgn b _ _ hb (dig_ne h)]
def wordsL (l : List S47) : List (List UInt8) := l.flatMap fun c => [dig c.f0, dig c.f1, dig c.f2]
theorem flds_txt : ∀ (t : List S47) (c : S47), (∀ d ∈ c :: t, Cok d) → flds sgn [] (ct c ++ Lib.joinTail [44] (t.map ct)) = wordsL (c :: t)
  | [], c, h => by
    obtain ⟨_, _, _, _, _, _⟩ := h c (by simp)
    have e : ct c ++ Lib.joinTail [44] (([] : List S47).map ct) = dig c.f0 ++ 46 :: (dig c.f1 ++ 46 :: dig c.f2) := by unfold ct Lib.joinTail; simp
    rw [e, flds_go (by omega) 46 (by decide), flds_go (by omega) 46 (by decide), flds_end (by omega)]
    rfl
  | d :: t, c, h => by
    obtain ⟨_, _, _, _, _, _⟩ := h c (by simp)
    have e : ct c ++ Lib.joinTail [44] ((d :: t).map ct) = dig c.f0 ++ 46 :: (dig c.f1 ++ 46 :: (dig c.f2 ++ 44 :: (ct d ++ Lib.joinTail [44] (t.map ct)))) := by
      unfold Lib.joinTail
      rw [ct]
      simp
    rw [e, flds_go (by omega) 46 (by decide), flds_go (by omega) 46 (by decide), flds_go (by omega) 44 (by decide), flds_txt t d (fun q hq => h q (by simp [List.mem_cons.1 hq]))]
    rfl
theorem txt_bytes {l : List S47} (hs : ∀ c ∈ l, Cok c) : ∀ b ∈ Txt l, b = 44 ∨ b = 46 ∨ (48 ≤ b.toNat ∧ b.toNat ≤ 57) := by
  have ht : ∀ (t : List S47), (∀ c ∈ t, Cok c) → ∀ b ∈ Lib.joinTail [44] (t.map ct), b = 44 ∨ b = 46 ∨ (48 ≤ b.toNat ∧ b.toNat ≤ 57) := by
    intro t ht b hb
    unfold Lib.joinTail at hb
    obtain ⟨x, hx, hb⟩ := List.mem_flatten.1 hb
    obtain ⟨y, hy, rfl⟩ := List.mem_map.1 hx
    obtain ⟨c, hc, rfl⟩ := List.mem_map.1 hy
    rcases List.mem_append.1 hb with hb | hb
    · exact .inl (List.mem_singleton.1 hb)
    · exact .inr (ct_bytes (ht c hc) b hb)
  cases l with
  | nil => intro b hb; simp [Txt, jt, Lib.join_nil] at hb
  | cons c t =>
    intro b hb
    unfold Txt jt at hb
    rw [List.map_cons, Lib.join_cons] at hb
    rcases List.mem_append.1 hb with hb | hb
    · exact .inr (ct_bytes (hs c (by simp)) b hb)
    · exact ht t (fun q hq => hs q (by simp [hq])) b hb
theorem sign_eq (b : UInt8) (h : b.toNat < 128) : impl_numbers.isSign ⟨#[46, 44]⟩ b.toNat = sgn b := by
  unfold impl_numbers.isSign sgn
  rw [decide_eq_true h, Bool.true_and, show b.toNat.toUInt8 = b by simp]
  by_cases h1 : b = 46
  · subst h1; decide
  · by_cases h2 : b = 44
    · subst h2; decide
    · simp [h1, h2]
theorem fields_txt {l : List S47} (h : okL l = true) : Lib.goFieldsP (impl_numbers.isSign ⟨#[46, 44]⟩) (B (Txt l)) = (wordsL l).map B := by
  obtain ⟨h6, hs⟩ := okL_cok h
  have hb := txt_bytes hs
  have hA : ∀ b ∈ Txt l, b.toNat < 128 := fun b hm => by
    rcases hb b hm with e | e | e
    · rw [e]; decide
    · rw [e]; decide
    · omega
  rw [fields_flds _ sgn (Txt l) (fun b hm => sign_eq b (hA b hm)) hA]
  cases l with
  | nil => rfl
  | cons c t =>
    congr 1
    unfold Txt jt
    rw [List.map_cons, Lib.join_cons]
    exact flds_txt t c hs
theorem num_dig {n : Int} (h0 : 0 ≤ n) (h1 : n ≤ 20) : impl_numbers.num (B (dig n)) 20 = (n, true) := by
  unfold impl_numbers.num
  rw [B_list, atoi_dig (by omega) (by omega)]
  dsimp only
  have e : impl_numbers.itoa n = B (dig n) := by
    unfold impl_numbers.itoa Lib.itoa
    rw [if_neg (by omega)]
    rfl
  rw [if_pos ⟨e, by omega, h1⟩]
theorem good_txt : ∀ (l : List S47), (∀ c ∈ l, Cok c) → impl_numbers.good 20 ((wordsL l).map B) = true ∧ impl_numbers.vals 20 ((wordsL l).map B) = l.flatMap fun c => [c.f0, c.f1, c.f2]
  | [], _ => ⟨rfl, rfl⟩
  | c :: t, h => by
    obtain ⟨_, _, _, _, _, _⟩ := h c (by simp)
    obtain ⟨h1, h2⟩ := good_txt t (fun q hq => h q (by simp [hq]))
    have e : (wordsL (c :: t)).map B = B (dig c.f0) :: B (dig c.f1) :: B (dig c.f2) :: (wordsL t).map B := rfl
    have n0 := num_dig (n := c.f0) (by omega) (by omega)
    have n1 := num_dig (n := c.f1) (by omega) (by omega)
    have n2 := num_dig (n := c.f2) (by omega) (by omega)
    rw [e]
    unfold impl_numbers.good at h1 ⊢
    unfold impl_numbers.vals at h2 ⊢
    refine ⟨?_, ?_⟩
    · rw [List.all_cons, List.all_cons, List.all_cons, n0, n1, n2, h1]
      rfl
    · rw [List.map_cons, List.map_cons, List.map_cons, n0, n1, n2, h2]
      rfl
theorem pairs_flat : ∀ (l : List S47), impl_ParsePuzzle.pairs (l.flatMap fun c => [c.f0, c.f1, c.f2]) = l ∧ (l.flatMap fun c => [c.f0, c.f1, c.f2]).length = 3 * l.length
  | [] => ⟨rfl, rfl⟩
  | c :: t => by
    obtain ⟨h1, h2⟩ := pairs_flat t
    have e : ((c :: t).flatMap fun c => [c.f0, c.f1, c.f2]) = c.f0 :: c.f1 :: c.f2 :: t.flatMap fun c => [c.f0, c.f1, c.f2] := rfl
    rw [e]
    refine ⟨?_, ?_⟩
    · show (⟨c.f0, c.f1, c.f2⟩ : S47) :: impl_ParsePuzzle.pairs _ = _
      rw [h1]
    · simp only [List.length_cons, h2]
      omega
theorem impl_is (l : List S47) : impl_IsPuzzle.f l = some (okL l) := implPuzzle_eq l
theorem impl_yes {l : List S47} (h : okL l = true) (k : Nat) (hk : 100 ≤ k) : impl_ParsePuzzle.f k (B (Txt l)) = some (l, true) := by
  obtain ⟨h6, hs⟩ := okL_cok h
  have hl := Txt_len h
  obtain ⟨g1, g2⟩ := good_txt l hs
  obtain ⟨p1, p2⟩ := pairs_flat l
  unfold impl_ParsePuzzle.f impl_numbers.f
  rw [if_pos ⟨by rw [B_size]; omega, by decide⟩, Option.bind_some]
  unfold impl_numbers.nums
  rw [fields_txt h, if_pos g1, g2]
  dsimp only
  rw [if_neg (by omega), if_pos ⟨rfl, by omega⟩, p1, impl_is, Option.bind_some, if_pos h, txt_impl h k hk, Option.bind_some, if_pos rfl]
theorem impl_no {L : List UInt8} (hL : L.length ≤ 1048576) (h : ∀ l, okL l = true → L ≠ Txt l) (k : Nat) (hk : 100 ≤ k) : impl_ParsePuzzle.f k (B L) = some ([], false) := by
  unfold impl_ParsePuzzle.f impl_numbers.f
  rw [if_pos ⟨by rw [B_size]; omega, by decide⟩, Option.bind_some]
  have hn : (impl_numbers.nums (B L) ⟨#[46, 44]⟩ 20).1.length ≤ 1048576 := by
    have := impl_numbers.words_le (impl_numbers.isSign ⟨#[46, 44]⟩) (B L)
    rw [B_size] at this
    unfold impl_numbers.nums impl_numbers.vals
    split
    · simp only [List.length_map]; omega
    · simp
  generalize impl_numbers.nums (B L) ⟨#[46, 44]⟩ 20 = t at hn
  rw [if_neg (by omega)]
  by_cases c : t.2 = true ∧ t.1.length % 3 = 0
  · rw [if_pos c, impl_is, Option.bind_some]
    by_cases d : okL (impl_ParsePuzzle.pairs t.1) = true
    · rw [if_pos d, txt_impl d k hk, Option.bind_some, if_neg (fun e => h _ d (B_inj e).symm)]
    · rw [if_neg d]
  · rw [if_neg c]
theorem both (L : List UInt8) (hL : L.length ≤ 1048576) : ∃ r : List S47 × Bool, r.1.length ≤ 6 ∧ (∀ k, 2000 ≤ k → spec_ParsePuzzle.f k (B L) = some r) ∧ ∀ k, 2000 ≤ k → impl_ParsePuzzle.f k (B L) = some r := by
  by_cases c : ∃ l, okL l = true ∧ L = Txt l
  · obtain ⟨l, h, rfl⟩ := c
    exact ⟨(l, true), (okL_cok h).1, fun k hk => spec_yes h k hk, fun k hk => impl_yes h k (by omega)⟩
  · have h : ∀ l, okL l = true → L ≠ Txt l := fun l hl e => c ⟨l, hl, e⟩
    exact ⟨([], false), by simp, fun k hk => spec_no h k hk, fun k hk => impl_no hL h k (by omega)⟩

theorem FnExactParsePuzzle : laws_FnExactParsePuzzle.Pure2 := by
  intro a0 hl
  refine ⟨5000, ?_⟩
  unfold laws_FnExactParsePuzzle.f
  by_cases c : (a0.size : Int) > 1048576
  · rw [if_pos c]
  · rw [if_neg c]
    obtain ⟨L, rfl⟩ : ∃ L, a0 = B L := ⟨a0.data.toList, by cases a0; simp [B]⟩
    rw [B_size] at c
    obtain ⟨r, hr, hs, hi⟩ := both L (by omega)
    have he : ∀ j, 100 < j → laws_eqPuzzle.f j r.1 r.1 = some true := fun j hj => eqPuzzle_refl _ (by omega) j (by omega)
    have hm := markPuzzle_eq r.1 (by omega)
    have hh := held_marked r.1.length (by omega)
    rw [hs _ (by omega), Option.bind_some, hi _ (by omega), Option.bind_some, he _ (by omega), Option.bind_some, if_pos rfl]
    simp only [laws_FnExactParsePuzzle.j0]
    rw [if_neg (by simp), hm _ (by omega), Option.bind_some, hh _ (by omega), Option.bind_some, if_neg (by omega), if_pos rfl, hi _ (by omega), Option.bind_some, he _ (by omega), Option.bind_some, if_pos rfl]
    simp only [laws_FnExactParsePuzzle.j1]
    rw [if_neg (by simp), hh _ (by omega), Option.bind_some, if_neg (by omega), if_pos rfl]
end Go.Proofs.YtejnbnppiipdlaaDoor.Pure
