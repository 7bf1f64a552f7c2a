/- The boxes' taster functions of both sides agree, and they are what they are said to be: codes of pralines, most pralines, least tasters and rounds, what a taster tastes. Conditions: none. -/
import Derived.Test.YtdikeggkfkkajaaStFnBoxesTasted
import Derived.Test.YtdikeggkfkkajaaPK
namespace Go.Proofs.Ytdikeggkfkkajaa.Pure
open Go.RowKit Go.Proofs.Ytdikeggkfkkajaa.PFnBoxesTasted Go.Proofs.YtdikeggkfkkajaaW.PrintWords Go.Proofs.YtdikeggkfkkajaaW.PrintLast Go.Proofs.YtdikeggkfkkajaaW.PrintMore
set_option linter.unusedVariables false
set_option linter.unusedSimpArgs false

theorem l1In_eq (a b c : Int) : spec_l1In.f a b c = some (decide (b ≤ a) && decide (a ≤ c)) := by
  unfold spec_l1In.f
  by_cases h : b ≤ a
  · rw [if_pos h]; simp [h]
  · rw [if_neg h]; simp [h]
theorem within_eq (a b c : Int) : impl_within.f a b c = some (decide (b ≤ a) && decide (a ≤ c)) := by
  unfold impl_within.f
  by_cases h : b ≤ a
  · rw [if_pos h]; simp [h]
  · rw [if_neg h]; simp [h]

theorem l1All_eq (l : List Int) (hl : l.length ≤ 4611686018427387904) (a b : Int) (k : Nat) (hk : l.length < k) : spec_l1All.f k l a b = some (l.all fun n => decide (a ≤ n) && decide (n ≤ b)) := by
  unfold spec_l1All.f
  exact PK.all_loop0 l (fun k i => spec_l1All.l0 k a b l (l.length : Int) i) 0 (fun n => decide (a ≤ n) && decide (n ≤ b))
    (fun k i hi _ => by
      try dsimp only
      simp only [spec_l1All.l0]
      rw [if_pos (by omega), if_pos (by omega), if_pos (by omega), PK.rd_at hi, l1In_eq, Option.bind_some, PK.w1 hi hl])
    (fun k _ => by
      try dsimp only
      simp only [spec_l1All.l0]
      rw [if_neg (by omega)])
    (by omega)

def E (t r : Nat) : Nat := min ((r + 1) ^ t) 1000000
theorem mn_eq (a b : Int) : mn a b = min a b := by unfold mn; split <;> omega
theorem product_run (b t : Nat) (hb : 1 ≤ b) (hb2 : b ≤ 2000000) (ht : t ≤ 100) : ∀ (d k i out : Nat), i + d = t → d < k → out = b ^ i → out ≤ 1000000 →
    impl_product.l0 k 1000000 (out : Int) (List.replicate t (b : Int)) (t : Int) (i : Int) = some (if b ^ t ≤ 1000000 then ((b ^ t : Nat) : Int) else 1000001) := by
  intro d
  induction d with
  | zero =>
    intro k i out hi hk ho hM
    obtain ⟨k, rfl⟩ : ∃ q, k = q + 1 := ⟨k - 1, by omega⟩
    obtain rfl : i = t := by omega
    simp only [impl_product.l0]
    rw [if_neg (by omega), ← ho, if_pos hM]
  | succ d ih =>
    intro k i out hi hk ho hM
    obtain ⟨k, rfl⟩ : ∃ q, k = q + 1 := ⟨k - 1, by omega⟩
    have hlt : i < (List.replicate t (b : Int)).length := by rw [List.length_replicate]; omega
    have hrd : rd (List.replicate t (b : Int)) (i : Int) = (b : Int) := by rw [PK.rd_at hlt, List.getElem_replicate]
    have hdv : Int.tdiv 1000000 (b : Int) = ((1000000 / b : Nat) : Int) := by rw [Int.tdiv_eq_ediv_of_nonneg (by omega)]; rfl
    have hdl : 1000000 / b ≤ 1000000 := Nat.div_le_self _ _
    have hiff := Nat.div_lt_iff_lt_mul (show 0 < b by omega) (x := 1000000) (y := out)
    generalize 1000000 / b = q at hdv hdl hiff
    have hs : out * b = b ^ (i + 1) := by rw [ho, Nat.pow_succ]
    have hle : b ^ (i + 1) ≤ b ^ t := Nat.pow_le_pow_right hb (by omega)
    have hmul : out * b ≤ 1000000 * 2000000 := Nat.mul_le_mul hM hb2
    have hcast : (out : Int) * (b : Int) = ((out * b : Nat) : Int) := by rw [Int.natCast_mul]
    simp only [impl_product.l0]
    rw [List.length_replicate, if_pos (by omega), if_pos (by omega), if_pos (by omega), hrd, if_pos (by omega), if_neg (by omega), hdv, PK.wrap_in (x := (q : Int)) (by omega) (by omega)]
    by_cases c : q < out
    · rw [if_pos (by omega), if_neg (by have := hiff.1 c; omega), PK.wrap_in (x := 1000000 + 1) (by omega) (by omega)]; rfl
    · have c2 : ¬ 1000000 < out * b := fun h => c (hiff.2 h)
      rw [if_neg (by omega), hcast, PK.wrap_in (x := ((out * b : Nat) : Int)) (by omega) (by omega), PK.w1 (show i < t by omega) (by omega)]
      exact ih k (i + 1) (out * b) (by omega) (by omega) hs (by omega)
theorem enough_eq (t r : Nat) (ht : t ≤ 20) (hr : r ≤ 1000000) (k : Nat) (hk : 30 ≤ k) : impl_enough.f k (t : Int) (r : Int) = some ((E t r : Nat) : Int) := by
  have hw : wrap64 ((r : Int) + 1) = ((r + 1 : Nat) : Int) := by rw [PK.wrap_in (by omega) (by omega)]; omega
  have hp := product_run (r + 1) t (by omega) (by omega) (by omega) t k 0 1 (by omega) (by omega) (by simp) (by omega)
  unfold impl_enough.f slices_Repeat_int_int.f impl_product.f
  rw [hw, if_pos ⟨rfl, by omega, by omega⟩, Option.bind_some, Int.toNat_natCast, List.length_replicate]
  have e : ([((r + 1 : Nat) : Int)] : List Int).getD 0 0 = ((r + 1 : Nat) : Int) := rfl
  have e0 : ((0 : Nat) : Int) = 0 := rfl
  have e1 : ((1 : Nat) : Int) = 1 := rfl
  rw [e0, e1] at hp
  rw [e, hp, Option.bind_some, mn_eq]
  unfold E
  congr 1
  split <;> omega
theorem least_eq (a b : Int) : spec_l1Least.f a b = some (min a b) := by
  unfold spec_l1Least.f
  split <;> (congr 1; omega)
theorem most_eq (a b : Int) : spec_l1Most.f a b = some (max a b) := by
  unfold spec_l1Most.f
  split <;> (congr 1; omega)
theorem room_run (r : Nat) (hr : r ≤ 1000000) : ∀ (d k out : Nat), d ≤ 1000 → d < k → 1 ≤ out → out ≤ 4000000000000 → spec_bxRoom.l0 k (d : Int) (r : Int) (out : Int) = some ((min (out * (r + 1) ^ d) 1000000 : Nat) : Int) := by
  intro d
  induction d with
  | zero =>
    intro k out hd hk h1 h2
    obtain ⟨k, rfl⟩ : ∃ q, k = q + 1 := ⟨k - 1, by omega⟩
    simp only [spec_bxRoom.l0]
    rw [if_neg (by omega), least_eq, Option.bind_some, Nat.pow_zero, Nat.mul_one]
    congr 1
    omega
  | succ d ih =>
    intro k out hd hk h1 h2
    obtain ⟨k, rfl⟩ : ∃ q, k = q + 1 := ⟨k - 1, by omega⟩
    have hpos : 1 ≤ (r + 1) ^ (d + 1) := Nat.pow_pos (by omega)
    have hge : out * 1 ≤ out * (r + 1) ^ (d + 1) := Nat.mul_le_mul_left _ hpos
    have hw : wrap64 ((r : Int) + 1) = ((r + 1 : Nat) : Int) := by rw [PK.wrap_in (by omega) (by omega)]; omega
    have hw2 : wrap64 (((d + 1 : Nat) : Int) - 1) = (d : Int) := by rw [PK.wrap_in (by omega) (by omega)]; omega
    simp only [spec_bxRoom.l0]
    rw [if_pos (by omega)]
    by_cases c : (out : Int) < 1000000
    · have hmul : out * (r + 1) ≤ 1000000 * 1000001 := Nat.mul_le_mul (by omega) (by omega)
      have hmul1 : out * 1 ≤ out * (r + 1) := Nat.mul_le_mul_left _ (by omega)
      have hcast : (out : Int) * ((r + 1 : Nat) : Int) = ((out * (r + 1) : Nat) : Int) := by rw [Int.natCast_mul]
      rw [if_pos c, hw, hw2, hcast, PK.wrap_in (x := ((out * (r + 1) : Nat) : Int)) (by omega) (by omega), ih k (out * (r + 1)) (by omega) (by omega) (by omega) (by omega)]
      rw [Nat.mul_assoc, Nat.pow_succ, Nat.mul_comm (r + 1)]
    · rw [if_neg c, least_eq, Option.bind_some]
      congr 1
      omega
theorem room_eq (t r : Nat) (ht : t ≤ 20) (hr : r ≤ 1000000) (k : Nat) (hk : 30 ≤ k) : spec_bxRoom.f k (t : Int) (r : Int) = some ((E t r : Nat) : Int) := by
  unfold spec_bxRoom.f E
  have := room_run r hr t k 1 (by omega) (by omega) (by omega) (by omega)
  rw [Nat.one_mul] at this
  exact this
theorem E_r {t r s : Nat} (h : r ≤ s) : E t r ≤ E t s := by
  unfold E
  have := Nat.pow_le_pow_left (show r + 1 ≤ s + 1 by omega) t
  omega
theorem E_t {t s r : Nat} (h : t ≤ s) : E t r ≤ E s r := by
  unfold E
  have := Nat.pow_le_pow_right (show 0 < r + 1 by omega) h
  omega
theorem E_le (t r : Nat) : E t r ≤ 1000000 := by unfold E; omega
theorem E_0 (r : Nat) : E 0 r = 1 := by unfold E; simp
theorem E_ge {t : Nat} (ht : 1 ≤ t) {r : Nat} : min (r + 1) 1000000 ≤ E t r := by
  have := E_t (r := r) ht
  unfold E at this ⊢
  rw [Nat.pow_one] at this
  exact this
theorem E_20 {r : Nat} (hr : 1 ≤ r) : E 20 r = 1000000 := by
  have h := E_r (t := 20) hr
  have h1 : E 20 1 = 1000000 := by decide
  have := E_le 20 r
  omega
def Found (P t r : Int) : Prop := (1 ≤ P ∧ P ≤ 1000000) ∧ (1 ≤ t ∧ t ≤ 20) ∧ (1 ≤ r ∧ r ≤ 20) ∧ P ≤ (E t.toNat r.toNat : Int)
instance (P t r : Int) : Decidable (Found P t r) := by unfold Found; infer_instance
theorem some_dec {p q : Prop} [Decidable p] [Decidable q] (h : p ↔ q) : some (decide p) = some (decide q) := by congr 1; exact decide_eq_decide.2 h
theorem some_not {p : Prop} [Decidable p] (h : ¬ p) : some false = some (decide p) := by congr 1; exact (decide_eq_false h).symm
theorem dec2 (p q : Prop) [Decidable p] [Decidable q] : (decide p && decide q) = decide (p ∧ q) := by by_cases hp : p <;> by_cases hq : q <;> simp [hp, hq]
theorem tasters_eq (t r : Int) : impl_areTasters.f t r = some (decide ((1 ≤ t ∧ t ≤ 20) ∧ 1 ≤ r ∧ r ≤ 20)) := by
  unfold impl_areTasters.f
  rw [within_eq, Option.bind_some, within_eq, Option.bind_some, dec2, dec2]
  by_cases c : 1 ≤ t ∧ t ≤ 20
  · rw [if_pos (decide_eq_true c)]; simp [c]
  · rw [if_neg (by simpa using c)]; simp [c]
theorem both_eq (t r : Int) : spec_bxBoth.f t r = some (decide ((1 ≤ t ∧ t ≤ 20) ∧ 1 ≤ r ∧ r ≤ 20)) := by
  unfold spec_bxBoth.f
  rw [l1In_eq, Option.bind_some, l1In_eq, Option.bind_some, dec2, dec2]
  by_cases c : 1 ≤ t ∧ t ≤ 20
  · rw [if_pos (decide_eq_true c)]; simp [c]
  · rw [if_neg (by simpa using c)]; simp [c]
theorem found_eq (P t r : Int) (k : Nat) (hk : 30 ≤ k) : impl_areFound.f k P t r = some (decide (Found P t r)) := by
  unfold impl_areFound.f impl_arePralines.f
  rw [within_eq, Option.bind_some, Option.bind_some, dec2, tasters_eq, Option.bind_some]
  by_cases c1 : 1 ≤ P ∧ P ≤ 1000000
  · rw [if_pos (decide_eq_true c1)]
    by_cases c2 : (1 ≤ t ∧ t ≤ 20) ∧ 1 ≤ r ∧ r ≤ 20
    · obtain ⟨t, rfl⟩ : ∃ n : Nat, t = (n : Int) := ⟨t.toNat, by omega⟩
      obtain ⟨r, rfl⟩ : ∃ n : Nat, r = (n : Int) := ⟨r.toNat, by omega⟩
      rw [if_pos (decide_eq_true c2), enough_eq t r (by omega) (by omega) k hk, Option.bind_some]
      exact some_dec ⟨fun h => ⟨c1, c2.1, c2.2, by simpa using h⟩, fun h => by simpa using h.2.2.2⟩
    · rw [if_neg (by simpa using c2)]
      exact some_not (fun h => c2 ⟨h.2.1, h.2.2.1⟩)
  · rw [if_neg (by simpa using c1)]
    exact some_not (fun h => c1 h.1)
theorem enoughS_eq (P t r : Int) (k : Nat) (hk : 30 ≤ k) : spec_bxEnough.f k P t r = some (decide (Found P t r)) := by
  unfold spec_bxEnough.f spec_bxPralines.f
  rw [l1In_eq, Option.bind_some, Option.bind_some, dec2, both_eq, Option.bind_some]
  by_cases c1 : 1 ≤ P ∧ P ≤ 1000000
  · rw [if_pos (decide_eq_true c1)]
    by_cases c2 : (1 ≤ t ∧ t ≤ 20) ∧ 1 ≤ r ∧ r ≤ 20
    · obtain ⟨t, rfl⟩ : ∃ n : Nat, t = (n : Int) := ⟨t.toNat, by omega⟩
      obtain ⟨r, rfl⟩ : ∃ n : Nat, r = (n : Int) := ⟨r.toNat, by omega⟩
      rw [if_pos (decide_eq_true c2), room_eq t r (by omega) (by omega) k hk, Option.bind_some]
      exact some_dec ⟨fun h => ⟨c1, c2.1, c2.2, by simpa using h⟩, fun h => by simpa using h.2.2.2⟩
    · rw [if_neg (by simpa using c2)]
      exact some_not (fun h => c2 ⟨h.2.1, h.2.2.1⟩)
  · rw [if_neg (by simpa using c1)]
    exact some_not (fun h => c1 h.1)

def dg (b : Nat) : Nat → Nat → List Int
  | 0, _ => []
  | t + 1, w => dg b t (w / b) ++ [((w % b : Nat) : Int)]
theorem dg_len (b : Nat) : ∀ t w, (dg b t w).length = t
  | 0, _ => rfl
  | t + 1, w => by unfold dg; rw [List.length_append, dg_len b t]; rfl
theorem set_drop (out : List Int) (n : Nat) (v : Int) (h : n < out.length) : (out.set n v).drop n = v :: out.drop (n + 1) := by
  rw [List.drop_eq_getElem_cons (by rw [List.length_set]; exact h), List.getElem_set_self, List.drop_set_of_lt (by omega)]
theorem code_run (r : Nat) (hr : r ≤ 1000000) : ∀ (n k w : Nat) (out : List Int), n ≤ out.length → n ≤ 1000 → n < k → w ≤ 1000000000000 →
    impl_code.l0 k (r : Int) (w : Int) out ((n : Int) - 1) = some (dg (r + 1) n w ++ out.drop n) := by
  intro n
  induction n with
  | zero =>
    intro k w out h1 h2 h3 h4
    obtain ⟨k, rfl⟩ : ∃ q, k = q + 1 := ⟨k - 1, by omega⟩
    simp only [impl_code.l0]
    rw [if_neg (by omega), List.drop_zero]; rfl
  | succ n ih =>
    intro k w out h1 h2 h3 h4
    obtain ⟨k, rfl⟩ : ∃ q, k = q + 1 := ⟨k - 1, by omega⟩
    have e : (((n + 1 : Nat) : Int) - 1) = (n : Int) := by omega
    have hw : wrap64 ((r : Int) + 1) = ((r + 1 : Nat) : Int) := by rw [PK.wrap_in (by omega) (by omega)]; omega
    have hd : Int.tdiv (w : Int) ((r + 1 : Nat) : Int) = ((w / (r + 1) : Nat) : Int) := by rw [Int.tdiv_eq_ediv_of_nonneg (by omega)]; rfl
    have hm : Int.tmod (w : Int) ((r + 1 : Nat) : Int) = ((w % (r + 1) : Nat) : Int) := by rw [Int.tmod_eq_emod_of_nonneg (by omega)]; rfl
    have hdl : w / (r + 1) ≤ w := Nat.div_le_self _ _
    have hs := set_drop out n ((w % (r + 1) : Nat) : Int) (by omega)
    have ih' := ih k (w / (r + 1)) (out.set n ((w % (r + 1) : Nat) : Int)) (by rw [List.length_set]; omega) (by omega) (by omega) (by omega)
    have hu : dg (r + 1) (n + 1) w = dg (r + 1) n (w / (r + 1)) ++ [((w % (r + 1) : Nat) : Int)] := rfl
    rw [hs] at ih'
    rw [e, hu, List.append_assoc]
    generalize w / (r + 1) = wd at hd hdl ih'
    generalize w % (r + 1) = wm at hm ih'
    simp only [impl_code.l0]
    rw [if_pos (by omega), hw, if_neg (by omega), if_pos (by omega), if_pos (by omega), hd, hm, PK.wrap_in (x := (wd : Int)) (by omega) (by omega), PK.wrap_in (x := (n : Int) - 1) (by omega) (by omega), Int.toNat_natCast]
    exact ih'
theorem code_eq (t r w : Nat) (ht : t ≤ 20) (hr : r ≤ 1000000) (hw : w ≤ 1000000000000) (k : Nat) (hk : 30 ≤ k) : impl_code.f k (t : Int) (r : Int) (w : Int) = some (dg (r + 1) t w) := by
  unfold impl_code.f
  have := code_run r hr t k w (List.replicate t 0) (by simp) (by omega) (by omega) hw
  rw [if_pos (by omega), Int.toNat_natCast, if_pos (by omega), PK.wrap_in (x := (t : Int) - 1) (by omega) (by omega), this, List.drop_eq_nil_of_le (by simp), List.append_nil]
theorem bx_code (k : Nat) : ∀ (x1 x2 : Int) (x7 : List Int) (x8 : Int), spec_bxCode.l0 k x1 x2 x7 x8 = impl_code.l0 k x1 x2 x7 x8 := by
  induction k with
  | zero => intro x1 x2 x7 x8; rfl
  | succ k ih =>
    intro x1 x2 x7 x8
    simp only [spec_bxCode.l0, impl_code.l0, ih]
theorem bxcode_eq (t r w : Nat) (ht : t ≤ 20) (hr : r ≤ 1000000) (hw : w ≤ 1000000000000) (k : Nat) (hk : 30 ≤ k) : spec_bxCode.f k (t : Int) (r : Int) (w : Int) = some (dg (r + 1) t w) := by
  rw [← code_eq t r w ht hr hw k hk]
  unfold spec_bxCode.f impl_code.f
  rw [bx_code]
/-- The number that digits tell, from the left. -/
def acc (b : Int) : Int → List Int → Int
  | a, [] => a
  | a, n :: l => acc b (a * b + n) l
theorem acc_app (b : Int) : ∀ (l : List Int) (a n : Int), acc b a (l ++ [n]) = acc b a l * b + n
  | [], a, n => rfl
  | m :: l, a, n => by show acc b (a * b + m) (l ++ [n]) = _; rw [acc_app b l]; rfl
theorem mul_ge {a b : Int} (ha : 0 ≤ a) (hb : 1 ≤ b) : a ≤ a * b := by
  have := Int.mul_le_mul_of_nonneg_left hb ha
  rw [Int.mul_one] at this
  exact this
theorem acc_ge (b : Int) (hb : 1 ≤ b) : ∀ (l : List Int) (a : Int), 0 ≤ a → (∀ n ∈ l, 0 ≤ n) → a ≤ acc b a l
  | [], a, _, _ => Int.le_refl _
  | n :: l, a, ha, hl => by
    have h1 := hl n (by simp)
    have h2 := mul_ge ha hb
    have := acc_ge b hb l (a * b + n) (by omega) (fun m hm => hl m (by simp [hm]))
    show a ≤ acc b (a * b + n) l
    omega
theorem acc_dg (b : Nat) (hb : 1 ≤ b) : ∀ (t w : Nat), w < b ^ t → acc (b : Int) 0 (dg b t w) = (w : Int)
  | 0, w, h => by
    rw [Nat.pow_zero] at h
    obtain rfl : w = 0 := by omega
    rfl
  | t + 1, w, h => by
    unfold dg
    rw [acc_app, acc_dg b hb t (w / b) (Nat.div_lt_of_lt_mul (by rw [Nat.mul_comm, ← Nat.pow_succ]; exact h))]
    have := Nat.div_add_mod w b
    rw [Nat.mul_comm] at this
    rw [← Int.natCast_mul, ← Int.natCast_add, this]
theorem dg_in (b : Nat) (hb : 1 ≤ b) : ∀ (t w : Nat), ∀ n ∈ dg b t w, 0 ≤ n ∧ n < (b : Int) ∧ n ≤ (w : Int)
  | 0, w, n, h => by simp [dg] at h
  | t + 1, w, n, h => by
    unfold dg at h
    rw [List.mem_append, List.mem_singleton] at h
    rcases h with h | rfl
    · obtain ⟨h1, h2, h3⟩ := dg_in b hb t (w / b) n h
      have := Nat.div_le_self w b
      exact ⟨h1, h2, by omega⟩
    · have h1 := Nat.mod_lt w (show 0 < b by omega)
      have h2 := Nat.mod_le w b
      exact ⟨by omega, by omega, by omega⟩
theorem dg_acc (b : Nat) (hb : 1 ≤ b) : ∀ (t : Nat) (l : List Int), l.length = t → (∀ n ∈ l, 0 ≤ n ∧ n < (b : Int)) → 0 ≤ acc (b : Int) 0 l ∧ dg b t (acc (b : Int) 0 l).toNat = l
  | 0, l, h, _ => by
    obtain rfl := List.eq_nil_of_length_eq_zero h
    exact ⟨Int.le_refl _, rfl⟩
  | t + 1, l, h, hl => by
    obtain ⟨l', n, rfl⟩ : ∃ l' n, l = l' ++ [n] := by
      have hne : l ≠ [] := by intro e; subst e; simp at h
      exact ⟨l.dropLast, l.getLast hne, (List.dropLast_concat_getLast hne).symm⟩
    rw [List.length_append, List.length_singleton] at h
    obtain ⟨h1, h2⟩ := dg_acc b hb t l' (by omega) (fun m hm => hl m (by simp [hm]))
    obtain ⟨h3, h4⟩ := hl n (by simp)
    rw [acc_app]
    obtain ⟨a, ha⟩ : ∃ a : Nat, acc (b : Int) 0 l' = (a : Int) := ⟨_, (Int.toNat_of_nonneg h1).symm⟩
    obtain ⟨m, rfl⟩ : ∃ m : Nat, n = (m : Int) := ⟨n.toNat, by omega⟩
    rw [ha, Int.toNat_natCast] at h2
    rw [ha]
    have e : ((a : Int) * (b : Int) + (m : Int)) = ((a * b + m : Nat) : Int) := by rw [Int.natCast_add, Int.natCast_mul]
    have hmb : m < b := by omega
    rw [e, Int.toNat_natCast]
    refine ⟨by omega, ?_⟩
    unfold dg
    have e1 : (a * b + m) / b = a := by rw [Nat.mul_comm, Nat.mul_add_div (by omega), Nat.div_eq_of_lt hmb, Nat.add_zero]
    have e2 : (a * b + m) % b = m := by rw [Nat.mul_comm, Nat.mul_add_mod, Nat.mod_eq_of_lt hmb]
    rw [e1, e2, h2]
def pr (b P : Int) : Int → List Int → Int × Bool
  | a, [] => (a, true)
  | a, n :: l => if a * b + n ≥ P then (0, false) else pr b P (a * b + n) l
theorem pr_of (b P : Int) (hb : 1 ≤ b) : ∀ (l : List Int) (a : Int), 0 ≤ a → (∀ n ∈ l, 0 ≤ n) → acc b a l < P → pr b P a l = (acc b a l, true)
  | [], a, _, _, _ => rfl
  | n :: l, a, ha, hl, h => by
    have h1 := hl n (by simp)
    have h2 := mul_ge ha hb
    have h3 := acc_ge b hb l (a * b + n) (by omega) (fun m hm => hl m (by simp [hm]))
    have h4 : acc b (a * b + n) l < P := h
    unfold pr
    rw [if_neg (by omega)]
    exact pr_of b P hb l (a * b + n) (by omega) (fun m hm => hl m (by simp [hm])) h
theorem pr_true (b P : Int) : ∀ (l : List Int) (a : Int), a < P → (pr b P a l).2 = true → (pr b P a l).1 = acc b a l ∧ acc b a l < P
  | [], a, h, _ => ⟨rfl, h⟩
  | n :: l, a, h, h2 => by
    unfold pr at h2 ⊢
    by_cases c : a * b + n ≥ P
    · rw [if_pos c] at h2; cases h2
    · rw [if_neg c] at h2 ⊢
      exact pr_true b P l (a * b + n) (by omega) h2
theorem pr_run (P r : Nat) (hP : P ≤ 1000000) (hr : r ≤ 20) (l : List Int) (hl : l.length ≤ 100) (hn : ∀ n ∈ l, 0 ≤ n ∧ n ≤ (r : Int)) : ∀ (d k i : Nat) (a : Int), i + d = l.length → d < k → 0 ≤ a → a < P →
    impl_PralineOfCode.l0 k (P : Int) (r : Int) a l (l.length : Int) (i : Int) = some (pr ((r + 1 : Nat) : Int) (P : Int) a (l.drop i)) := by
  intro d
  induction d with
  | zero =>
    intro k i a hi hk h0 h1
    obtain ⟨k, rfl⟩ : ∃ q, k = q + 1 := ⟨k - 1, by omega⟩
    obtain rfl : i = l.length := by omega
    simp only [impl_PralineOfCode.l0]
    rw [if_neg (by omega), List.drop_length]; rfl
  | succ d ih =>
    intro k i a hi hk h0 h1
    obtain ⟨k, rfl⟩ : ∃ q, k = q + 1 := ⟨k - 1, by omega⟩
    have hlt : i < l.length := by omega
    obtain ⟨n1, n2⟩ := hn l[i] (List.getElem_mem hlt)
    have hrd : rd l (i : Int) = l[i] := PK.rd_at hlt
    have hw : wrap64 ((r : Int) + 1) = ((r + 1 : Nat) : Int) := by rw [PK.wrap_in (by omega) (by omega)]; omega
    have hb1 := mul_ge h0 (show (1 : Int) ≤ ((r + 1 : Nat) : Int) by omega)
    have hb2 : a * ((r + 1 : Nat) : Int) ≤ a * 21 := Int.mul_le_mul_of_nonneg_left (by omega) h0
    rw [List.drop_eq_getElem_cons hlt]
    have hu : pr ((r + 1 : Nat) : Int) (P : Int) a (l[i] :: l.drop (i + 1)) = if a * ((r + 1 : Nat) : Int) + l[i] ≥ (P : Int) then (0, false) else pr ((r + 1 : Nat) : Int) (P : Int) (a * ((r + 1 : Nat) : Int) + l[i]) (l.drop (i + 1)) := rfl
    rw [hu]
    obtain ⟨m, hm⟩ : ∃ m, m = a * ((r + 1 : Nat) : Int) := ⟨_, rfl⟩
    rw [← hm] at hb1 hb2 ⊢
    simp only [impl_PralineOfCode.l0]
    rw [if_pos (by omega), if_pos (by omega), if_pos (by omega), hrd, hw, ← hm, PK.wrap_in (x := m) (by omega) (by omega), PK.wrap_in (x := m + l[i]) (by omega) (by omega)]
    by_cases c : m + l[i] ≥ (P : Int)
    · rw [if_pos c, if_pos c]
    · rw [if_neg c, if_neg c, PK.w1 hlt (by omega)]
      exact ih k (i + 1) _ (by omega) (by omega) (by omega) (by omega)
theorem pr_same (k : Nat) : ∀ (x0 x2 x10 : Int) (x30 : List Int) (x31 x32 : Int), spec_PralineOfCode.l0 k x0 x2 x10 x30 x31 x32 = impl_PralineOfCode.l0 k x0 x2 x10 x30 x31 x32 := by
  induction k with
  | zero => intro x0 x2 x10 x30 x31 x32; rfl
  | succ k ih =>
    intro x0 x2 x10 x30 x31 x32
    simp only [spec_PralineOfCode.l0, impl_PralineOfCode.l0, ih]
theorem within_all (l : List Int) (a b : Int) : impl_areWithin.f l a b = some (decide (∀ n ∈ l, a ≤ n ∧ n ≤ b)) := by
  unfold impl_areWithin.f
  congr 1
  rw [Bool.eq_iff_iff, List.all_eq_true]
  simp
def Given (P t r : Int) (l : List Int) : Prop := Found P t r ∧ (l.length : Int) = t ∧ ∀ n ∈ l, 0 ≤ n ∧ n ≤ r
instance (P t r : Int) (l : List Int) : Decidable (Given P t r l) := by unfold Given; infer_instance
def prR (P t r : Int) (l : List Int) : Int × Bool := if Given P t r l then pr (r + 1) P 0 l else (0, false)
theorem prR_impl (P t r : Int) (l : List Int) (k : Nat) (hk : 200 ≤ k) : impl_PralineOfCode.f k P t r l = some (prR P t r l) := by
  obtain ⟨k, rfl⟩ : ∃ q, k = q + 1 := ⟨k - 1, by omega⟩
  unfold impl_PralineOfCode.f prR
  rw [found_eq P t r _ (by omega), Option.bind_some, within_all, Option.bind_some]
  simp only [impl_PralineOfCode.j0]
  by_cases c1 : Found P t r
  · rw [if_pos (decide_eq_true c1)]
    by_cases c2 : (l.length : Int) = t
    · rw [if_pos c2]
      by_cases c3 : ∀ n ∈ l, 0 ≤ n ∧ n ≤ r
      · rw [decide_eq_true c3, if_neg (by simp), if_pos ⟨c1, c2, c3⟩]
        obtain ⟨⟨p1, p2⟩, ⟨t1, t2⟩, ⟨r1, r2⟩, _⟩ := c1
        obtain ⟨P, rfl⟩ : ∃ n : Nat, P = (n : Int) := ⟨P.toNat, by omega⟩
        obtain ⟨r, rfl⟩ : ∃ n : Nat, r = (n : Int) := ⟨r.toNat, by omega⟩
        have := pr_run P r (by omega) (by omega) l (by omega) c3 l.length k 0 0 (by omega) (by omega) (by omega) (by omega)
        rw [List.drop_zero] at this
        exact this
      · rw [decide_eq_false c3, if_pos (by simp), if_neg (fun h => c3 h.2.2)]
    · rw [if_neg c2, if_pos trivial, if_neg (fun h => c2 h.2.1)]
  · rw [if_neg (by simpa using c1), if_pos trivial, if_neg (fun h => c1 h.1)]
theorem prR_spec (P t r : Int) (l : List Int) (hl : l.length ≤ 1000) (k : Nat) (hk : 1200 ≤ k) : spec_PralineOfCode.f k P t r l = some (prR P t r l) := by
  rw [← prR_impl P t r l k (by omega)]
  unfold spec_PralineOfCode.f impl_PralineOfCode.f
  rw [found_eq P t r _ (by omega), enoughS_eq P t r _ (by omega), l1All_eq l (by omega) 0 r k (by omega)]
  obtain ⟨k, rfl⟩ : ∃ q, k = q + 1 := ⟨k - 1, by omega⟩
  simp only [spec_PralineOfCode.j0, impl_PralineOfCode.j0, pr_same]
  rfl

def CodeOk (P t r w : Int) : Prop := Found P t r ∧ 0 ≤ w ∧ w ≤ P - 1
instance (P t r w : Int) : Decidable (CodeOk P t r w) := by unfold CodeOk; infer_instance
def codeR (P t r w : Int) : List Int × Bool := if CodeOk P t r w then (dg (r.toNat + 1) t.toNat w.toNat, true) else ([], false)
theorem codeR_impl (P t r w : Int) (k : Nat) (hk : 100 ≤ k) : impl_CodeOfPraline.f k P t r w = some (codeR P t r w) := by
  unfold impl_CodeOfPraline.f codeR
  rw [found_eq P t r _ (by omega), Option.bind_some, within_eq, Option.bind_some, dec2]
  by_cases c1 : Found P t r
  · have c1' := c1
    obtain ⟨⟨p1, p2⟩, ⟨t1, t2⟩, ⟨r1, r2⟩, _⟩ := c1'
    rw [if_pos (decide_eq_true c1), PK.wrap_in (x := P - 1) (by omega) (by omega)]
    by_cases c2 : 0 ≤ w ∧ w ≤ P - 1
    · rw [if_pos (decide_eq_true c2), if_pos ⟨c1, c2⟩]
      obtain ⟨t, rfl⟩ : ∃ n : Nat, t = (n : Int) := ⟨t.toNat, by omega⟩
      obtain ⟨r, rfl⟩ : ∃ n : Nat, r = (n : Int) := ⟨r.toNat, by omega⟩
      obtain ⟨w, rfl⟩ : ∃ n : Nat, w = (n : Int) := ⟨w.toNat, by omega⟩
      rw [code_eq t r w (by omega) (by omega) (by omega) k (by omega)]; rfl
    · rw [if_neg (by simpa using c2), if_neg (fun h => c2 h.2)]
  · rw [if_neg (by simpa using c1), if_neg (fun h => c1 h.1)]
theorem codeR_spec (P t r w : Int) (k : Nat) (hk : 100 ≤ k) : spec_CodeOfPraline.f k P t r w = some (codeR P t r w) := by
  unfold spec_CodeOfPraline.f codeR
  rw [enoughS_eq P t r _ (by omega), Option.bind_some, l1In_eq, Option.bind_some, dec2]
  by_cases c1 : Found P t r
  · have c1' := c1
    obtain ⟨⟨p1, p2⟩, ⟨t1, t2⟩, ⟨r1, r2⟩, _⟩ := c1'
    rw [if_pos (decide_eq_true c1), PK.wrap_in (x := P - 1) (by omega) (by omega)]
    by_cases c2 : 0 ≤ w ∧ w ≤ P - 1
    · rw [if_pos (decide_eq_true c2), if_pos ⟨c1, c2⟩]
      obtain ⟨t, rfl⟩ : ∃ n : Nat, t = (n : Int) := ⟨t.toNat, by omega⟩
      obtain ⟨r, rfl⟩ : ∃ n : Nat, r = (n : Int) := ⟨r.toNat, by omega⟩
      obtain ⟨w, rfl⟩ : ∃ n : Nat, w = (n : Int) := ⟨w.toNat, by omega⟩
      rw [bxcode_eq t r w (by omega) (by omega) (by omega) k (by omega)]; rfl
    · rw [if_neg (by simpa using c2), if_neg (fun h => c2 h.2)]
  · rw [if_neg (by simpa using c1), if_neg (fun h => c1 h.1)]
def TR (t r : Int) : Prop := (1 ≤ t ∧ t ≤ 20) ∧ 1 ≤ r ∧ r ≤ 20
instance (t r : Int) : Decidable (TR t r) := by unfold TR; infer_instance
def mostR (t r : Int) : Int × Bool := if TR t r then ((E t.toNat r.toNat : Int), true) else (0, false)
theorem mostR_impl (t r : Int) (k : Nat) (hk : 100 ≤ k) : impl_MostPralines.f k t r = some (mostR t r) := by
  unfold impl_MostPralines.f mostR
  rw [tasters_eq, Option.bind_some]
  by_cases c : TR t r
  · have c' := c
    obtain ⟨⟨t1, t2⟩, r1, r2⟩ := c'
    obtain ⟨t, rfl⟩ : ∃ n : Nat, t = (n : Int) := ⟨t.toNat, by omega⟩
    obtain ⟨r, rfl⟩ : ∃ n : Nat, r = (n : Int) := ⟨r.toNat, by omega⟩
    rw [if_pos (decide_eq_true (show (1 ≤ (t : Int) ∧ (t : Int) ≤ 20) ∧ 1 ≤ (r : Int) ∧ (r : Int) ≤ 20 from c)), if_pos c, enough_eq t r (by omega) (by omega) k (by omega)]; rfl
  · rw [if_neg (show ¬ (decide ((1 ≤ t ∧ t ≤ 20) ∧ 1 ≤ r ∧ r ≤ 20) = true) from fun h => c (of_decide_eq_true h)), if_neg c]
theorem mostR_spec (t r : Int) (k : Nat) (hk : 100 ≤ k) : spec_MostPralines.f k t r = some (mostR t r) := by
  unfold spec_MostPralines.f mostR
  rw [both_eq, Option.bind_some]
  by_cases c : TR t r
  · have c' := c
    obtain ⟨⟨t1, t2⟩, r1, r2⟩ := c'
    obtain ⟨t, rfl⟩ : ∃ n : Nat, t = (n : Int) := ⟨t.toNat, by omega⟩
    obtain ⟨r, rfl⟩ : ∃ n : Nat, r = (n : Int) := ⟨r.toNat, by omega⟩
    rw [if_pos (decide_eq_true (show (1 ≤ (t : Int) ∧ (t : Int) ≤ 20) ∧ 1 ≤ (r : Int) ∧ (r : Int) ≤ 20 from c)), if_pos c, room_eq t r (by omega) (by omega) k (by omega)]; rfl
  · rw [if_neg (show ¬ (decide ((1 ≤ t ∧ t ≤ 20) ∧ 1 ≤ r ∧ r ≤ 20) = true) from fun h => c (of_decide_eq_true h)), if_neg c]
def bitR (P t r : Int) : Int × Bool := if Found P t r then (min (P - 1) r, true) else (0, false)
theorem bitR_impl (P t r : Int) (k : Nat) (hk : 100 ≤ k) : impl_BitterRounds.f k P t r = some (bitR P t r) := by
  unfold impl_BitterRounds.f bitR
  rw [found_eq P t r _ (by omega), Option.bind_some]
  by_cases c : Found P t r
  · rw [if_pos (decide_eq_true c), if_pos c, PK.wrap_in (x := P - 1) (by have := c.1; omega) (by have := c.1; omega), mn_eq]
  · rw [if_neg (fun h => c (of_decide_eq_true h)), if_neg c]
theorem bitR_spec (P t r : Int) (k : Nat) (hk : 100 ≤ k) : spec_BitterRounds.f k P t r = some (bitR P t r) := by
  unfold spec_BitterRounds.f bitR
  rw [enoughS_eq P t r _ (by omega), Option.bind_some]
  by_cases c : Found P t r
  · rw [if_pos (decide_eq_true c), if_pos c, PK.wrap_in (x := P - 1) (by have := c.1; omega) (by have := c.1; omega), least_eq]; rfl
  · rw [if_neg (fun h => c (of_decide_eq_true h)), if_neg c]
def tasted (t r x n : Nat) (i d : Nat) : List Int := ((List.range' i d).filter fun w => decide ((dg (r + 1) t w).getD x 0 = (n : Int))).map fun (w : Nat) => (w : Int)
theorem tasted_step (t r x n i d : Nat) : tasted t r x n i (d + 1) = (if (dg (r + 1) t i).getD x 0 = (n : Int) then [(i : Int)] else []) ++ tasted t r x n (i + 1) d := by
  unfold tasted
  rw [List.range'_succ, List.filter_cons]
  by_cases c : (dg (r + 1) t i).getD x 0 = (n : Int)
  · rw [if_pos c, if_pos (by simpa using c)]; rfl
  · rw [if_neg c, if_neg (by simpa using c)]; rfl
theorem tb_impl (t r x n P : Nat) (ht : t ≤ 20) (hr : r ≤ 20) (hx : x < t) (hP : P ≤ 1000) : ∀ (d k i : Nat) (out : List Int), i + d = P → d + 50 ≤ k → out.length ≤ i →
    impl_TastedBy.l0 k (t : Int) (r : Int) (x : Int) (n : Int) out (P : Int) (i : Int) = some (out ++ tasted t r x n i d, true) := by
  intro d
  induction d with
  | zero =>
    intro k i out hi hk ho
    obtain ⟨k, rfl⟩ : ∃ q, k = q + 1 := ⟨k - 1, by omega⟩
    simp only [impl_TastedBy.l0]
    rw [if_neg (by omega)]
    simp [tasted]
  | succ d ih =>
    intro k i out hi hk ho
    obtain ⟨k, rfl⟩ : ∃ q, k = q + 1 := ⟨k - 1, by omega⟩
    have hlen := dg_len (r + 1) t i
    have hrd : rd (dg (r + 1) t i) (x : Int) = (dg (r + 1) t i).getD x 0 := rfl
    simp only [impl_TastedBy.l0]
    rw [if_pos (by omega), code_eq t r i (by omega) (by omega) (by omega) k (by omega), Option.bind_some, if_pos (by omega), if_pos (by omega), hrd, PK.w1 (show i < P by omega) (by omega), tasted_step]
    by_cases c : (dg (r + 1) t i).getD x 0 = (n : Int)
    · rw [if_pos c, if_pos (by omega), if_pos c, ih k (i + 1) _ (by omega) (by omega) (by rw [List.length_append]; simp; omega), List.append_assoc]
    · rw [if_neg c, if_neg c, ih k (i + 1) _ (by omega) (by omega) (by omega), List.nil_append]
theorem tb_spec (t r x n P : Nat) (ht : t ≤ 20) (hr : r ≤ 20) (hx : x < t) (hP : P ≤ 1000) : ∀ (d k i : Nat) (out : List Int), i + d = P → d + 50 ≤ k → out.length ≤ i →
    spec_TastedBy.l0 k (P : Int) (t : Int) (r : Int) (x : Int) (n : Int) out (i : Int) = some (out ++ tasted t r x n i d, true) := by
  intro d
  induction d with
  | zero =>
    intro k i out hi hk ho
    obtain ⟨k, rfl⟩ : ∃ q, k = q + 1 := ⟨k - 1, by omega⟩
    simp only [spec_TastedBy.l0]
    rw [if_neg (by omega)]
    simp [tasted]
  | succ d ih =>
    intro k i out hi hk ho
    obtain ⟨k, rfl⟩ : ∃ q, k = q + 1 := ⟨k - 1, by omega⟩
    have hlen := dg_len (r + 1) t i
    have hrd : rd (dg (r + 1) t i) (x : Int) = (dg (r + 1) t i).getD x 0 := rfl
    simp only [spec_TastedBy.l0]
    rw [if_pos (by omega), bxcode_eq t r i (by omega) (by omega) (by omega) k (by omega), Option.bind_some, if_pos (by omega), if_pos (by omega), hrd, PK.w1 (show i < P by omega) (by omega), tasted_step]
    by_cases c : (dg (r + 1) t i).getD x 0 = (n : Int)
    · rw [if_pos c, if_pos (by omega), if_pos c, ih k (i + 1) _ (by omega) (by omega) (by rw [List.length_append]; simp; omega), List.append_assoc]
    · rw [if_neg c, if_neg c, ih k (i + 1) _ (by omega) (by omega) (by omega), List.nil_append]
def TastOk (P t r x n : Int) : Prop := Found P t r ∧ P ≤ 1000 ∧ (0 ≤ x ∧ x ≤ t - 1) ∧ 1 ≤ n ∧ n ≤ r
instance (P t r x n : Int) : Decidable (TastOk P t r x n) := by unfold TastOk; infer_instance
def tastR (P t r x n : Int) : List Int × Bool := if TastOk P t r x n then (tasted t.toNat r.toNat x.toNat n.toNat 0 P.toNat, true) else ([], false)
theorem tastR_impl (P t r x n : Int) (k : Nat) (hk : 1200 ≤ k) : impl_TastedBy.f k P t r x n = some (tastR P t r x n) := by
  obtain ⟨k, rfl⟩ : ∃ q, k = q + 1 := ⟨k - 1, by omega⟩
  unfold impl_TastedBy.f tastR
  rw [found_eq P t r _ (by omega), Option.bind_some, within_eq, within_eq, Option.bind_some, Option.bind_some, dec2, dec2]
  simp only [impl_TastedBy.j0]
  by_cases c1 : Found P t r
  · have c1' := c1
    obtain ⟨⟨p1, p2⟩, ⟨t1, t2⟩, ⟨r1, r2⟩, _⟩ := c1'
    rw [if_pos (decide_eq_true c1), PK.wrap_in (x := t - 1) (by omega) (by omega)]
    by_cases c2 : P > 1000
    · rw [if_pos c2, if_pos trivial, if_neg (fun h => by have := h.2.1; omega)]
    · rw [if_neg c2]
      by_cases c3 : 0 ≤ x ∧ x ≤ t - 1
      · rw [if_pos (decide_eq_true c3)]
        by_cases c4 : 1 ≤ n ∧ n ≤ r
        · rw [decide_eq_true c4, if_neg (by simp), if_pos ⟨c1, by omega, c3, c4⟩]
          obtain ⟨P, rfl⟩ : ∃ m : Nat, P = (m : Int) := ⟨P.toNat, by omega⟩
          obtain ⟨t, rfl⟩ : ∃ m : Nat, t = (m : Int) := ⟨t.toNat, by omega⟩
          obtain ⟨r, rfl⟩ : ∃ m : Nat, r = (m : Int) := ⟨r.toNat, by omega⟩
          obtain ⟨x, rfl⟩ : ∃ m : Nat, x = (m : Int) := ⟨x.toNat, by omega⟩
          obtain ⟨n, rfl⟩ : ∃ m : Nat, n = (m : Int) := ⟨n.toNat, by omega⟩
          have := tb_impl t r x n P (by omega) (by omega) (by omega) (by omega) P k 0 [] (by omega) (by omega) (by simp)
          exact this
        · rw [decide_eq_false c4, if_pos (by simp), if_neg (fun h => c4 h.2.2.2)]
      · rw [if_neg (by simpa using c3), if_pos trivial, if_neg (fun h => c3 h.2.2.1)]
  · rw [if_neg (by simpa using c1), if_pos trivial, if_neg (fun h => c1 h.1)]
theorem tastR_spec (P t r x n : Int) (k : Nat) (hk : 1200 ≤ k) : spec_TastedBy.f k P t r x n = some (tastR P t r x n) := by
  obtain ⟨k, rfl⟩ : ∃ q, k = q + 1 := ⟨k - 1, by omega⟩
  unfold spec_TastedBy.f tastR
  rw [enoughS_eq P t r _ (by omega), Option.bind_some, l1In_eq, l1In_eq, Option.bind_some, Option.bind_some, dec2, dec2]
  simp only [spec_TastedBy.j0]
  by_cases c1 : Found P t r
  · have c1' := c1
    obtain ⟨⟨p1, p2⟩, ⟨t1, t2⟩, ⟨r1, r2⟩, _⟩ := c1'
    rw [if_pos (decide_eq_true c1), PK.wrap_in (x := t - 1) (by omega) (by omega)]
    by_cases c2 : P > 1000
    · rw [if_pos c2, if_pos trivial, if_neg (fun h => by have := h.2.1; omega)]
    · rw [if_neg c2]
      by_cases c3 : 0 ≤ x ∧ x ≤ t - 1
      · rw [if_pos (decide_eq_true c3)]
        by_cases c4 : 1 ≤ n ∧ n ≤ r
        · rw [decide_eq_true c4, if_neg (by simp), if_pos ⟨c1, by omega, c3, c4⟩]
          obtain ⟨P, rfl⟩ : ∃ m : Nat, P = (m : Int) := ⟨P.toNat, by omega⟩
          obtain ⟨t, rfl⟩ : ∃ m : Nat, t = (m : Int) := ⟨t.toNat, by omega⟩
          obtain ⟨r, rfl⟩ : ∃ m : Nat, r = (m : Int) := ⟨r.toNat, by omega⟩
          obtain ⟨x, rfl⟩ : ∃ m : Nat, x = (m : Int) := ⟨x.toNat, by omega⟩
          obtain ⟨n, rfl⟩ : ∃ m : Nat, n = (m : Int) := ⟨n.toNat, by omega⟩
          have := tb_spec t r x n P (by omega) (by omega) (by omega) (by omega) P k 0 [] (by omega) (by omega) (by simp)
          exact this
        · rw [decide_eq_false c4, if_pos (by simp), if_neg (fun h => c4 h.2.2.2)]
      · rw [if_neg (by simpa using c3), if_pos trivial, if_neg (fun h => c3 h.2.2.1)]
  · rw [if_neg (by simpa using c1), if_pos trivial, if_neg (fun h => c1 h.1)]
theorem least_ex (p : Nat → Prop) [DecidablePred p] : ∀ N, p N → ∃ m, m ≤ N ∧ p m ∧ ∀ j, j < m → ¬ p j := by
  intro N
  induction N using Nat.strongRecOn with
  | _ N ih =>
    intro h
    by_cases c : ∃ j, j < N ∧ p j
    · obtain ⟨j, hj, hp⟩ := c
      obtain ⟨m, h1, h2, h3⟩ := ih j hj hp
      exact ⟨m, by omega, h2, h3⟩
    · exact ⟨N, Nat.le_refl _, h, fun j hj hp => c ⟨j, hj, hp⟩⟩
theorem tf_loop (P r m : Nat) (hr : r ≤ 20) (hm : m ≤ 20) (h1 : P ≤ E m r) (h2 : ∀ j, j < m → ¬ P ≤ E j r) : ∀ (d k i : Nat), i + d = m → d + 50 ≤ k →
    impl_TastersFor.l0 k (P : Int) (r : Int) (i : Int) = some ((m : Int), true) ∧ spec_TastersFor.l0 k (P : Int) (r : Int) (i : Int) = some ((m : Int), true) := by
  intro d
  induction d with
  | zero =>
    intro k i hi hk
    obtain ⟨k, rfl⟩ : ∃ q, k = q + 1 := ⟨k - 1, by omega⟩
    obtain rfl : i = m := by omega
    simp only [impl_TastersFor.l0, spec_TastersFor.l0]
    rw [enough_eq i r (by omega) (by omega) k (by omega), room_eq i r (by omega) (by omega) k (by omega), Option.bind_some, Option.bind_some, if_neg (by omega), if_neg (by omega)]
    exact ⟨rfl, rfl⟩
  | succ d ih =>
    intro k i hi hk
    obtain ⟨k, rfl⟩ : ∃ q, k = q + 1 := ⟨k - 1, by omega⟩
    have h3 := h2 i (by omega)
    simp only [impl_TastersFor.l0, spec_TastersFor.l0]
    rw [enough_eq i r (by omega) (by omega) k (by omega), room_eq i r (by omega) (by omega) k (by omega), Option.bind_some, Option.bind_some, if_pos (by omega), if_pos (by omega), PK.w1 (show i < m by omega) (by omega)]
    exact ih k (i + 1) (by omega) (by omega)
theorem rf_loop (P t m : Nat) (ht : t ≤ 20) (hm : m ≤ 1000000) (h1 : P ≤ E t m) (h2 : ∀ j, j < m → ¬ P ≤ E t j) : ∀ (d k i : Nat), i + d = m → d + 50 ≤ k →
    impl_RoundsFor.l0 k (P : Int) (t : Int) (i : Int) = some ((m : Int), true) := by
  intro d
  induction d with
  | zero =>
    intro k i hi hk
    obtain ⟨k, rfl⟩ : ∃ q, k = q + 1 := ⟨k - 1, by omega⟩
    obtain rfl : i = m := by omega
    simp only [impl_RoundsFor.l0]
    rw [enough_eq t i (by omega) (by omega) k (by omega), Option.bind_some, if_neg (by omega)]
  | succ d ih =>
    intro k i hi hk
    obtain ⟨k, rfl⟩ : ∃ q, k = q + 1 := ⟨k - 1, by omega⟩
    have h3 := h2 i (by omega)
    simp only [impl_RoundsFor.l0]
    rw [enough_eq t i (by omega) (by omega) k (by omega), Option.bind_some, if_pos (by omega), PK.w1 (show i < m by omega) (by omega)]
    exact ih k (i + 1) (by omega) (by omega)
theorem rf_bin (P t m : Nat) (ht : t ≤ 20) (h1 : P ≤ E t m) (h2 : ∀ j, j < m → ¬ P ≤ E t j) : ∀ (d k lo hi : Nat), hi - lo ≤ d → d + 50 ≤ k → lo ≤ m → m ≤ hi → hi ≤ 1000000 →
    spec_RoundsFor.l0 k (P : Int) (t : Int) (lo : Int) (hi : Int) = some ((m : Int), true) := by
  intro d
  induction d with
  | zero =>
    intro k lo hi hd hk hl hh hM
    obtain ⟨k, rfl⟩ : ∃ q, k = q + 1 := ⟨k - 1, by omega⟩
    obtain rfl : lo = m := by omega
    simp only [spec_RoundsFor.l0]
    rw [if_neg (by omega)]
  | succ d ih =>
    intro k lo hi hd hk hl hh hM
    obtain ⟨k, rfl⟩ : ∃ q, k = q + 1 := ⟨k - 1, by omega⟩
    by_cases c : lo < hi
    · have e0 : Int.tdiv ((lo : Int) + (hi : Int)) 2 = (((lo + hi) / 2 : Nat) : Int) := by rw [Int.tdiv_eq_ediv_of_nonneg (by omega)]; omega
      have hmid1 : lo ≤ (lo + hi) / 2 := by omega
      have hmid2 : (lo + hi) / 2 < hi := by omega
      have hw := PK.wrap_in (x := (lo : Int) + (hi : Int)) (by omega) (by omega)
      generalize (lo + hi) / 2 = mid at e0 hmid1 hmid2
      have hw2 := PK.wrap_in (x := (mid : Int)) (by omega) (by omega)
      simp only [spec_RoundsFor.l0]
      simp only [hw, e0, hw2]
      clear hw e0 hw2
      rw [if_pos (by omega), room_eq t mid (by omega) (by omega) k (by omega), Option.bind_some]
      by_cases c2 : P ≤ E t mid
      · have : m ≤ mid := by
          by_cases h : m ≤ mid
          · exact h
          · exact absurd c2 (h2 mid (by omega))
        rw [if_pos (by omega)]
        exact ih k lo mid (by omega) (by omega) hl this (by omega)
      · have : mid < m := by
          by_cases h : mid < m
          · exact h
          · have := E_r (t := t) (show m ≤ mid by omega)
            omega
        rw [if_neg (by omega), PK.w1 (show mid < hi by omega) (by omega)]
        exact ih k (mid + 1) hi (by omega) (by omega) (by omega) hh hM
    · obtain rfl : lo = m := by omega
      simp only [spec_RoundsFor.l0]
      rw [if_neg (by omega)]

theorem and255 (x : Int) : 0 ≤ Go.bits .and .u64 x 255 ∧ Go.bits .and .u64 x 255 ≤ 255 := by
  have h : (BitVec.ofInt IntKind.u64.bits x &&& BitVec.ofInt IntKind.u64.bits 255).toNat ≤ 255 := by
    rw [BitVec.toNat_and]
    have e : (BitVec.ofInt IntKind.u64.bits 255).toNat = 255 := by decide
    rw [e]
    exact Nat.and_le_right
  unfold Go.bits
  generalize hb : (BitVec.ofInt IntKind.u64.bits x &&& BitVec.ofInt IntKind.u64.bits 255).toNat = m at h
  show 0 ≤ IntKind.u64.wrap ((BitVec.ofInt IntKind.u64.bits x &&& BitVec.ofInt IntKind.u64.bits 255).toNat : Int) ∧ IntKind.u64.wrap ((BitVec.ofInt IntKind.u64.bits x &&& BitVec.ofInt IntKind.u64.bits 255).toNat : Int) ≤ 255
  rw [hb]
  have : IntKind.u64.wrap (m : Int) = (m : Int) := by unfold IntKind.wrap; simp [IntKind.bits, IntKind.signed]; omega
  omega
/-- Bytes, and a place that is not past b. -/
structure Cur (l : List Int) (a b : Int) : Prop where
  bytes : ∀ x ∈ l, 0 ≤ x ∧ x ≤ 255
  lo : 0 ≤ a
  hi : a ≤ b
theorem Cur.up {l : List Int} {a b c : Int} (h : Cur l a b) (hb : b ≤ c) : Cur l a c := ⟨h.bytes, h.lo, Int.le_trans h.hi hb⟩
theorem rd_byte {l : List Int} (h : ∀ x ∈ l, 0 ≤ x ∧ x ≤ 255) (i : Int) : 0 ≤ rd l i ∧ rd l i ≤ 255 := by
  have e : rd l i = l.getD i.toNat 0 := rfl
  rw [e, List.getD_eq_getElem?_getD]
  by_cases c : i.toNat < l.length
  · rw [List.getElem?_eq_getElem c]; exact h _ (List.getElem_mem c)
  · rw [List.getElem?_eq_none (by omega)]; exact ⟨Int.le_refl _, by decide⟩
theorem next_ok {l : List Int} {a b : Int} (x : Int) (h : Cur l a b) (hb : b ≤ 1000000) : ∃ v a' x', spec_l1Cur_next.f l a x = some (v, a', x') ∧ (0 ≤ v ∧ v ≤ 255) ∧ Cur l a' (b + 1) := by
  obtain ⟨h1, h2, h3⟩ := h
  have hr := rd_byte h1 a
  have hw : wrap64 (a + 1) = a + 1 := PK.wrap_in (by omega) (by omega)
  have hc : Cur l (a + 1) (b + 1) := ⟨h1, by omega, by omega⟩
  have hwr : wrap64 (rd l a) = rd l a := PK.wrap_in (by omega) (by omega)
  unfold spec_l1Cur_next.f
  rw [hw, hwr]
  by_cases c1 : a < (l.length : Int)
  · rw [if_pos c1, if_pos h2]
    by_cases c2 : a + 1 ≤ (l.length : Int)
    · rw [if_pos c2]; exact ⟨_, _, _, rfl, hr, hc⟩
    · omega
  · rw [if_neg c1]
    by_cases c2 : a + 1 ≤ (l.length : Int)
    · omega
    · rw [if_neg c2]
      refine ⟨_, _, _, rfl, ?_, hc⟩
      have := and255 ((IntKind.u64.wrap ((IntKind.u64.wrap ((IntKind.u64.wrap (x * 6364136223846793005)))) + 1442695040888963407)) / 1099511627776)
      rw [PK.wrap_in (by omega) (by omega)]
      exact this
theorem tmod_in {v n : Int} (h : 0 ≤ v) (hn : 0 < n) : 0 ≤ Int.tmod v n ∧ Int.tmod v n < n := by
  rw [Int.tmod_eq_emod_of_nonneg h]
  exact ⟨Int.emod_nonneg _ (by omega), Int.emod_lt_of_pos _ hn⟩
theorem pick_ok {l : List Int} {a b : Int} (x n : Int) (h : Cur l a b) (hb : b ≤ 900000) : ∃ v a' x', spec_l1Cur_pick.f l a x n = some (v, a', x') ∧ (0 ≤ v ∧ (v < n ∨ v = 0)) ∧ Cur l a' (b + 2) := by
  unfold spec_l1Cur_pick.f
  by_cases c1 : n ≤ 1
  · rw [if_pos c1]; exact ⟨_, _, _, rfl, ⟨Int.le_refl _, .inr rfl⟩, h.up (by omega)⟩
  · rw [if_neg c1]
    obtain ⟨v, a1, x1, e1, hv, hc1⟩ := next_ok x h (by omega)
    rw [e1, Option.bind_some]
    by_cases c2 : n > 200
    · rw [if_pos c2]
      obtain ⟨v2, a2, x2, e2, hv2, hc2⟩ := next_ok x1 hc1 (by omega)
      rw [e2, Option.bind_some, if_neg (by omega)]
      have h0 : 0 ≤ wrap64 ((wrap64 (v * 256)) + v2) := by rw [PK.wrap_in (x := v * 256) (by omega) (by omega), PK.wrap_in (by omega) (by omega)]; omega
      have hm := tmod_in h0 (show 0 < n by omega)
      exact ⟨_, _, _, rfl, ⟨hm.1, .inl hm.2⟩, hc2.up (by omega)⟩
    · rw [if_neg c2, if_neg (by omega)]
      have hm := tmod_in hv.1 (show 0 < n by omega)
      exact ⟨_, _, _, rfl, ⟨hm.1, .inl hm.2⟩, hc1.up (by omega)⟩
theorem among_ok {l : List Int} {a b : Int} (x : Int) (l1 : List Int) (h1 : 0 < l1.length) (h : Cur l a b) (hb : b ≤ 900000) : ∃ v a' x', spec_l1Cur_among.f l a x l1 = some (v, a', x') ∧ Cur l a' (b + 2) := by
  unfold spec_l1Cur_among.f
  obtain ⟨v, a1, x1, e1, hv, hc1⟩ := pick_ok x (l1.length : Int) h hb
  rw [e1, Option.bind_some, if_pos hv.1, if_pos (by omega)]
  exact ⟨_, _, _, rfl, hc1⟩
theorem pralines_ok {l : List Int} {a b : Int} (x : Int) (h : Cur l a b) (hb : b ≤ 800000) : ∃ v a' x', spec_l1Cur_pralines.f l a x = some (v, a', x') ∧ Cur l a' (b + 4) := by
  unfold spec_l1Cur_pralines.f spec_l1Cur_one.f
  obtain ⟨v, a1, x1, e1, hv, hc1⟩ := pick_ok x 12 h (by omega)
  rw [e1, Option.bind_some, Option.bind_some]
  by_cases c : (v == 0) = true
  · rw [if_pos c]
    obtain ⟨v2, a2, x2, e2, hc2⟩ := among_ok x1 ([0, (-1), 1000, 1001, 1000000, 1000001, 4611686018427387904] : List Int) (by decide) hc1 (by omega)
    rw [e2]
    exact ⟨_, _, _, rfl, hc2.up (by omega)⟩
  · rw [if_neg c]
    obtain ⟨v2, a2, x2, e2, hv2, hc2⟩ := pick_ok x1 30 hc1 (by omega)
    rw [e2]
    exact ⟨_, _, _, rfl, hc2.up (by omega)⟩
theorem drawers_ok {l : List Int} {a b : Int} (x : Int) (h : Cur l a b) (hb : b ≤ 800000) : ∃ t r a' x', spec_l1Cur_tasters.f l a x = some (t, r, a', x') ∧ Cur l a' (b + 4) := by
  unfold spec_l1Cur_tasters.f
  obtain ⟨v, a1, x1, e1, hc1⟩ := among_ok x ([1, 2, 3, 4, 5, 2, 3, 4, 20, 21, 0, (-1)] : List Int) (by decide) h (by omega)
  rw [e1, Option.bind_some]
  obtain ⟨v2, a2, x2, e2, hc2⟩ := among_ok x1 ([1, 1, 2, 2, 3, 4, 20, 21, 0] : List Int) (by decide) hc1 (by omega)
  rw [e2]
  exact ⟨_, _, _, _, rfl, hc2.up (by omega)⟩
theorem start_ok {l : List Int} (h : ∀ x ∈ l, 0 ≤ x ∧ x ≤ 255) : ∃ P t r a' x', (∃ a1 x1, spec_l1Cur_pralines.f l 0 0 = some (P, a1, x1) ∧ spec_l1Cur_tasters.f l a1 x1 = some (t, r, a', x')) ∧ Cur l a' 10 := by
  obtain ⟨P, a1, x1, e1, hc1⟩ := pralines_ok 0 (⟨h, Int.le_refl _, Int.le_refl _⟩ : Cur l 0 0) (by omega)
  obtain ⟨t, r, a2, x2, e2, hc2⟩ := drawers_ok x1 hc1 (by omega)
  exact ⟨P, t, r, a2, x2, ⟨a1, x1, e1, e2⟩, hc2.up (by omega)⟩
theorem drawCode_ok {l : List Int} (h : ∀ x ∈ l, 0 ≤ x ∧ x ≤ 255) : ∃ P t r w, spec_DrawCodeOfPraline.f l = some (P, t, r, w) := by
  obtain ⟨P, t, r, a, x, ⟨a1, x1, e1, e2⟩, hc⟩ := start_ok h
  unfold spec_DrawCodeOfPraline.f
  rw [e1, Option.bind_some, e2, Option.bind_some, most_eq, Option.bind_some, least_eq, Option.bind_some]
  obtain ⟨v, a2, x2, e3, hv, hc2⟩ := pick_ok x (wrap64 ((min (max P 0) 40) + 2)) hc (by omega)
  rw [e3, Option.bind_some]
  obtain ⟨v3, a3, x3, e4, hv3, hc3⟩ := pick_ok x2 9 hc2 (by omega)
  rw [e4]
  exact ⟨_, _, _, _, rfl⟩
theorem drawTasters_ok {l : List Int} (h : ∀ x ∈ l, 0 ≤ x ∧ x ≤ 255) : ∃ P r, spec_DrawTastersFor.f l = some (P, r) := by
  obtain ⟨P, t, r, a, x, ⟨a1, x1, e1, e2⟩, hc⟩ := start_ok h
  unfold spec_DrawTastersFor.f
  rw [e1, Option.bind_some, e2]
  exact ⟨_, _, rfl⟩
theorem drawRounds_ok {l : List Int} (h : ∀ x ∈ l, 0 ≤ x ∧ x ≤ 255) : ∃ P t, spec_DrawRoundsFor.f l = some (P, t) := by
  obtain ⟨P, t, r, a, x, ⟨a1, x1, e1, e2⟩, hc⟩ := start_ok h
  unfold spec_DrawRoundsFor.f
  rw [e1, Option.bind_some, e2]
  exact ⟨_, _, rfl⟩
theorem drawTasted_ok {l : List Int} (h : ∀ x ∈ l, 0 ≤ x ∧ x ≤ 255) : ∃ P t r y n, spec_DrawTastedBy.f l = some (P, t, r, y, n) := by
  obtain ⟨P, t, r, a, x, ⟨a1, x1, e1, e2⟩, hc⟩ := start_ok h
  unfold spec_DrawTastedBy.f
  rw [e1, Option.bind_some, e2, Option.bind_some, most_eq, Option.bind_some, least_eq, Option.bind_some]
  obtain ⟨v, a2, x2, e3, hv, hc2⟩ := pick_ok x (wrap64 ((min (max t 0) 20) + 1)) hc (by omega)
  rw [e3, Option.bind_some]
  obtain ⟨v3, a3, x3, e4, hv3, hc3⟩ := pick_ok x2 9 hc2 (by omega)
  rw [e4, Option.bind_some, most_eq, Option.bind_some, least_eq, Option.bind_some]
  obtain ⟨v4, a4, x4, e5, hv4, hc4⟩ := pick_ok x3 (wrap64 ((min (max r 0) 20) + 2)) hc3 (by omega)
  rw [e5]
  exact ⟨_, _, _, _, _, rfl⟩
theorem drawPraline_run (l : List Int) (P t r : Int) : ∀ (n k : Nat) (out : List Int) (a x b : Int), n < k → n ≤ 100 → out.length + n ≤ 1000 → Cur l a b → b + 4 * (n : Int) ≤ 100000 → ∃ c, spec_DrawPralineOfCode.l0 k P t r out (n : Int) l a x = some (P, t, r, c) ∧ c.length = out.length + n := by
  intro n
  induction n with
  | zero =>
    intro k out a x b hk hn ho hc hb
    obtain ⟨k, rfl⟩ : ∃ q, k = q + 1 := ⟨k - 1, by omega⟩
    simp only [spec_DrawPralineOfCode.l0]
    rw [if_neg (by omega)]
    exact ⟨out, rfl, rfl⟩
  | succ n ih =>
    intro k out a x b hk hn ho hc hb
    obtain ⟨k, rfl⟩ : ∃ q, k = q + 1 := ⟨k - 1, by omega⟩
    have hw : wrap64 (((n + 1 : Nat) : Int) - 1) = (n : Int) := by rw [PK.wrap_in (by omega) (by omega)]; omega
    simp only [spec_DrawPralineOfCode.l0]
    rw [if_pos (by omega), hw]
    by_cases c : ((n + 1 : Nat) : Int) < 4
    · rw [if_pos c, most_eq, Option.bind_some, least_eq, Option.bind_some]
      obtain ⟨v, a2, x2, e3, hv, hc2⟩ := pick_ok x (wrap64 ((min (max r 0) 20) + 2)) hc (by omega)
      rw [e3, Option.bind_some]
      obtain ⟨v3, a3, x3, e4, hv3, hc3⟩ := pick_ok x2 20 hc2 (by omega)
      rw [e4, Option.bind_some, if_pos (by omega)]
      obtain ⟨cc, h1, h2⟩ := ih k (out ++ [wrap64 (v - (wrap64 (Int.tdiv v3 19)))]) a3 x3 _ (by omega) (by omega) (by rw [List.length_append, List.length_singleton]; omega) hc3 (by omega)
      exact ⟨cc, h1, by rw [h2, List.length_append, List.length_singleton]; omega⟩
    · rw [if_neg c, if_pos (by omega)]
      obtain ⟨cc, h1, h2⟩ := ih k (out ++ [0]) a x b (by omega) (by omega) (by rw [List.length_append, List.length_singleton]; omega) hc (by omega)
      exact ⟨cc, h1, by rw [h2, List.length_append, List.length_singleton]; omega⟩
theorem drawPraline_ok {l : List Int} (h : ∀ x ∈ l, 0 ≤ x ∧ x ≤ 255) (k : Nat) (hk : 100 ≤ k) : ∃ P t r c, spec_DrawPralineOfCode.f k l = some (P, t, r, c) ∧ c.length ≤ 100 := by
  obtain ⟨P, t, r, a, x, ⟨a1, x1, e1, e2⟩, hc⟩ := start_ok h
  unfold spec_DrawPralineOfCode.f
  rw [e1, Option.bind_some, e2, Option.bind_some, least_eq, Option.bind_some]
  by_cases c : 0 ≤ min t 22
  · obtain ⟨n, hn⟩ : ∃ n : Nat, min t 22 = (n : Int) := ⟨(min t 22).toNat, by omega⟩
    obtain ⟨cc, h1, h2⟩ := drawPraline_run l P t r n k [] a x 10 (by omega) (by omega) (by simp; omega) hc (by omega)
    rw [hn]
    exact ⟨P, t, r, cc, h1, by rw [h2]; simp; omega⟩
  · obtain ⟨k, rfl⟩ : ∃ q, k = q + 1 := ⟨k - 1, by omega⟩
    simp only [spec_DrawPralineOfCode.l0]
    rw [if_neg (by omega)]
    exact ⟨P, t, r, [], rfl, by simp⟩

theorem take_succ_rd {l : List Int} {i : Nat} (h : i < l.length) : l.take (i + 1) = l.take i ++ [rd l (i : Int)] := by
  rw [PK.rd_at h, List.take_add_one, List.getElem?_eq_getElem h]; rfl
theorem same_run (a b : List Int) (hl : a.length = b.length) (hn : a.length ≤ 4000000) : ∀ (d k i : Nat), i + d = a.length → d < k → a.take i = b.take i →
    laws_ySame.l0 k a b (a.length : Int) (i : Int) = some (decide (a = b)) := by
  intro d
  induction d with
  | zero =>
    intro k i hi hk he
    obtain ⟨k, rfl⟩ : ∃ q, k = q + 1 := ⟨k - 1, by omega⟩
    rw [List.take_of_length_le (by omega), List.take_of_length_le (by omega)] at he
    simp only [laws_ySame.l0]
    rw [if_neg (by omega), decide_eq_true he]
  | succ d ih =>
    intro k i hi hk he
    obtain ⟨k, rfl⟩ : ∃ q, k = q + 1 := ⟨k - 1, by omega⟩
    simp only [laws_ySame.l0]
    rw [if_pos (by omega), if_pos (by omega), if_pos (by omega), if_pos (by omega), PK.w1 (show i < a.length by omega) (by omega)]
    by_cases c : rd a (i : Int) = rd b (i : Int)
    · rw [if_pos c]
      exact ih k (i + 1) (by omega) (by omega) (by rw [take_succ_rd (by omega), take_succ_rd (by omega), he, c])
    · rw [if_neg c, decide_eq_false]
      intro e
      exact c (by rw [e])
theorem same_eq (a b : List Int) (ha : a.length ≤ 4000) (hb : b.length ≤ 4000) (k : Nat) (hk : 5000 ≤ k) : laws_ySame.f k a b = some (decide (a = b)) := by
  unfold laws_ySame.f
  by_cases c : (a.length : Int) = (b.length : Int)
  · rw [if_pos c]
    exact same_run a b (by omega) (by omega) a.length k 0 (by omega) (by omega) rfl
  · rw [if_neg c, decide_eq_false]
    intro e
    exact c (by rw [e])
theorem has_run (l : List Int) (x : Int) (hn : l.length ≤ 4000000) : ∀ (d k i : Nat), i + d = l.length → d < k → x ∉ l.take i →
    laws_yHas.l0 k x l (l.length : Int) (i : Int) = some (decide (x ∈ l)) := by
  intro d
  induction d with
  | zero =>
    intro k i hi hk he
    obtain ⟨k, rfl⟩ : ∃ q, k = q + 1 := ⟨k - 1, by omega⟩
    rw [List.take_of_length_le (by omega)] at he
    simp only [laws_yHas.l0]
    rw [if_neg (by omega), decide_eq_false he]
  | succ d ih =>
    intro k i hi hk he
    obtain ⟨k, rfl⟩ : ∃ q, k = q + 1 := ⟨k - 1, by omega⟩
    have hlt : i < l.length := by omega
    simp only [laws_yHas.l0]
    rw [if_pos (by omega), if_pos (by omega), if_pos (by omega), PK.w1 hlt (by omega)]
    by_cases c : rd l (i : Int) = x
    · rw [if_pos c, decide_eq_true]
      rw [← c, PK.rd_at hlt]
      exact List.getElem_mem hlt
    · rw [if_neg c]
      refine ih k (i + 1) (by omega) (by omega) ?_
      rw [take_succ_rd hlt, List.mem_append, List.mem_singleton]
      rintro (h | h)
      · exact he h
      · exact c h.symm
theorem has_eq (l : List Int) (x : Int) (hl : l.length ≤ 4000) (k : Nat) (hk : 5000 ≤ k) : laws_yHas.f k l x = some (decide (x ∈ l)) := by
  unfold laws_yHas.f
  exact has_run l x (by omega) l.length k 0 (by omega) (by omega) (by simp)
theorem rises_run (l : List Int) (hp : l.Pairwise (· < ·)) (hn : l.length ≤ 4000) : ∀ (d k i : Nat), i + d = l.length → d < k →
    laws_yRises.l0 k l ((i + 1 : Nat) : Int) = some true := by
  intro d
  induction d with
  | zero =>
    intro k i hi hk
    obtain ⟨k, rfl⟩ : ∃ q, k = q + 1 := ⟨k - 1, by omega⟩
    simp only [laws_yRises.l0]
    rw [if_neg (by omega)]
  | succ d ih =>
    intro k i hi hk
    obtain ⟨k, rfl⟩ : ∃ q, k = q + 1 := ⟨k - 1, by omega⟩
    have hw : wrap64 (((i + 1 : Nat) : Int) - 1) = (i : Int) := by rw [PK.wrap_in (by omega) (by omega)]; omega
    have hw2 : wrap64 (((i + 1 : Nat) : Int) + 1) = ((i + 1 + 1 : Nat) : Int) := by rw [PK.wrap_in (by omega) (by omega)]; omega
    simp only [laws_yRises.l0]
    rw [hw, hw2]
    by_cases c : i + 1 < l.length
    · have hlt : i < l.length := by omega
      have h := List.pairwise_iff_getElem.1 hp i (i + 1) hlt c (by omega)
      rw [if_pos (by omega), if_pos (by omega), if_pos (by omega), if_pos (by omega), PK.rd_at hlt, PK.rd_at c, if_neg (by omega)]
      exact ih k (i + 1) (by omega) (by omega)
    · rw [if_neg (by omega)]
theorem rises_eq (l : List Int) (hp : l.Pairwise (· < ·)) (hn : l.length ≤ 4000) (k : Nat) (hk : 5000 ≤ k) : laws_yRises.f k l = some true := by
  unfold laws_yRises.f
  have := rises_run l hp hn l.length k 0 (by omega) (by omega)
  exact this
theorem tasted_mem (t r x n P w : Nat) : (w : Int) ∈ tasted t r x n 0 P ↔ w < P ∧ (dg (r + 1) t w).getD x 0 = (n : Int) := by
  unfold tasted
  rw [List.mem_map]
  constructor
  · rintro ⟨v, hv, e⟩
    obtain rfl : v = w := by omega
    rw [List.mem_filter, List.mem_range'] at hv
    obtain ⟨⟨j, h1, h2⟩, h3⟩ := hv
    exact ⟨by omega, of_decide_eq_true h3⟩
  · rintro ⟨h1, h2⟩
    exact ⟨w, List.mem_filter.2 ⟨List.mem_range'.2 ⟨w, h1, by omega⟩, decide_eq_true h2⟩, rfl⟩
theorem tasted_len (t r x n P : Nat) : (tasted t r x n 0 P).length ≤ P := by
  unfold tasted
  rw [List.length_map]
  refine Nat.le_trans (List.length_filter_le _ _) ?_
  rw [List.length_range']; exact Nat.le_refl _
theorem tasted_up (t r x n P : Nat) : (tasted t r x n 0 P).Pairwise (· < ·) := by
  unfold tasted
  rw [List.pairwise_map]
  refine List.Pairwise.imp ?_ (List.Pairwise.filter _ List.pairwise_lt_range')
  intro a b h
  omega
theorem tf_ok (P r : Int) (k : Nat) (hk : 200 ≤ k) :
    (∃ m : Nat, impl_TastersFor.f k P r = some ((m : Int), true) ∧ spec_TastersFor.f k P r = some ((m : Int), true) ∧ m ≤ 20 ∧ (1 ≤ P ∧ P ≤ 1000000) ∧ (1 ≤ r ∧ r ≤ 20) ∧ P ≤ (E m r.toNat : Int) ∧ ∀ j, j < m → ¬ P ≤ (E j r.toNat : Int)) ∨
    (impl_TastersFor.f k P r = some (0, false) ∧ spec_TastersFor.f k P r = some (0, false)) := by
  obtain ⟨k, rfl⟩ : ∃ q, k = q + 1 := ⟨k - 1, by omega⟩
  unfold impl_TastersFor.f spec_TastersFor.f impl_arePralines.f spec_bxPralines.f
  rw [within_eq, within_eq, l1In_eq, l1In_eq, Option.bind_some, Option.bind_some, Option.bind_some, Option.bind_some, dec2, dec2]
  simp only [impl_TastersFor.j0, spec_TastersFor.j0]
  by_cases c1 : 1 ≤ P ∧ P ≤ 1000000
  · rw [if_pos (decide_eq_true c1)]
    by_cases c2 : 1 ≤ r ∧ r ≤ 20
    · rw [decide_eq_true c2, if_neg (by simp)]
      left
      obtain ⟨P, rfl⟩ : ∃ m : Nat, P = (m : Int) := ⟨P.toNat, by omega⟩
      obtain ⟨r, rfl⟩ : ∃ m : Nat, r = (m : Int) := ⟨r.toNat, by omega⟩
      rw [Int.toNat_natCast]
      obtain ⟨m, hm, h1, h2⟩ := least_ex (fun m => P ≤ E m r) 20 (by show P ≤ E 20 r; rw [E_20 (by omega)]; omega)
      obtain ⟨e1, e2⟩ := tf_loop P r m (by omega) hm h1 h2 m k 0 (by omega) (by omega)
      exact ⟨m, e1, (by rw [if_pos (decide_eq_true c1), Option.bind_some, if_neg (by simp)]; exact e2), hm, c1, c2, by omega, fun j hj => by have := h2 j hj; omega⟩
    · right
      rw [decide_eq_false c2, if_pos (by simp)]
      refine ⟨rfl, ?_⟩
      rw [if_pos (decide_eq_true c1), Option.bind_some, if_pos (by simp)]
  · right
    rw [if_neg (by simpa using c1)]
    refine ⟨by rw [if_pos trivial], ?_⟩
    rw [if_neg (by simpa using c1), if_pos trivial]
theorem rf_ok (P t : Int) (k : Nat) (hk : 1000200 ≤ k) :
    (∃ m : Nat, impl_RoundsFor.f k P t = some ((m : Int), true) ∧ spec_RoundsFor.f k P t = some ((m : Int), true) ∧ m ≤ 1000000 ∧ (1 ≤ P ∧ P ≤ 1000000) ∧ (1 ≤ t ∧ t ≤ 20) ∧ P ≤ (E t.toNat m : Int) ∧ ∀ j, j < m → ¬ P ≤ (E t.toNat j : Int)) ∨
    (impl_RoundsFor.f k P t = some (0, false) ∧ spec_RoundsFor.f k P t = some (0, false)) := by
  obtain ⟨k, rfl⟩ : ∃ q, k = q + 1 := ⟨k - 1, by omega⟩
  unfold impl_RoundsFor.f spec_RoundsFor.f impl_arePralines.f spec_bxPralines.f
  rw [within_eq, within_eq, l1In_eq, l1In_eq, Option.bind_some, Option.bind_some, Option.bind_some, Option.bind_some, dec2, dec2]
  simp only [impl_RoundsFor.j0, spec_RoundsFor.j0]
  by_cases c1 : 1 ≤ P ∧ P ≤ 1000000
  · rw [if_pos (decide_eq_true c1)]
    by_cases c2 : 1 ≤ t ∧ t ≤ 20
    · rw [decide_eq_true c2, if_neg (by simp)]
      left
      obtain ⟨P, rfl⟩ : ∃ m : Nat, P = (m : Int) := ⟨P.toNat, by omega⟩
      obtain ⟨t, rfl⟩ : ∃ m : Nat, t = (m : Int) := ⟨t.toNat, by omega⟩
      rw [Int.toNat_natCast]
      obtain ⟨m, hm, h1, h2⟩ := least_ex (fun m => P ≤ E t m) 1000000 (by
        show P ≤ E t 1000000
        have h := E_ge (show 1 ≤ t by omega) (r := 1000000)
        omega)
      have e1 := rf_loop P t m (by omega) hm h1 h2 m k 0 (by omega) (by omega)
      have e2 := rf_bin P t m (by omega) h1 h2 1000000 k 0 1000000 (by omega) (by omega) (by omega) hm (by omega)
      exact ⟨m, e1, (by rw [if_pos (decide_eq_true c1), Option.bind_some, if_neg (by simp)]; exact e2), hm, c1, c2, by omega, fun j hj => by have := h2 j hj; omega⟩
    · right
      rw [decide_eq_false c2, if_pos (by simp)]
      refine ⟨rfl, ?_⟩
      rw [if_pos (decide_eq_true c1), Option.bind_some, if_pos (by simp)]
  · right
    rw [if_neg (by simpa using c1)]
    refine ⟨by rw [if_pos trivial], ?_⟩
    rw [if_neg (by simpa using c1), if_pos trivial]

theorem room_ge {P t r : Nat} (h : P ≤ E t r) : P ≤ (r + 1) ^ t := by unfold E at h; omega
theorem codeR_ok {P t r w : Nat} (hF : Found P t r) (hw : w < P) : codeR (P : Int) (t : Int) (r : Int) (w : Int) = (dg (r + 1) t w, true) := by
  unfold codeR
  rw [if_pos ⟨hF, by omega, by omega⟩, Int.toNat_natCast, Int.toNat_natCast, Int.toNat_natCast]
theorem mostR_ok {t r : Nat} (ht : 1 ≤ t ∧ t ≤ 20) (hr : 1 ≤ r ∧ r ≤ 20) : mostR (t : Int) (r : Int) = ((E t r : Int), true) := by
  unfold mostR
  rw [if_pos ⟨⟨by omega, by omega⟩, by omega, by omega⟩, Int.toNat_natCast, Int.toNat_natCast]
theorem tastR_ok {P t r x n : Nat} (hF : Found P t r) (hP : P ≤ 1000) (hx : x < t) (hn : 1 ≤ n ∧ n ≤ r) : tastR (P : Int) (t : Int) (r : Int) (x : Int) (n : Int) = (tasted t r x n 0 P, true) := by
  unfold tastR
  rw [if_pos ⟨hF, by omega, ⟨by omega, by omega⟩, by omega, by omega⟩, Int.toNat_natCast, Int.toNat_natCast, Int.toNat_natCast, Int.toNat_natCast, Int.toNat_natCast]
theorem l1_run (P t r x n : Nat) (hF : Found P t r) (hx : x < t) (hP : P ≤ 1000) : ∀ (d k i : Nat), i + d = min P 60 → 6000 + 2 * d ≤ k →
    laws_FnBoxesTasted.l1 k (P : Int) (t : Int) (r : Int) (x : Int) (n : Int) (tasted t r x n 0 P) (i : Int) = some true := by
  intro d
  induction d with
  | zero =>
    intro k i hi hk
    obtain ⟨k, rfl⟩ : ∃ q, k = q + 2 := ⟨k - 2, by omega⟩
    simp only [laws_FnBoxesTasted.l1, laws_FnBoxesTasted.j16]
    by_cases c : (i : Int) < (P : Int)
    · rw [if_pos c, decide_eq_false (show ¬ (i : Int) < 60 by omega), if_neg (by simp)]
    · rw [if_neg c, if_neg (by simp)]
  | succ d ih =>
    intro k i hi hk
    obtain ⟨k, rfl⟩ : ∃ q, k = q + 2 := ⟨k - 2, by omega⟩
    have hlen := dg_len (r + 1) t i
    have hl := tasted_len t r x n P
    have hrd : rd (dg (r + 1) t i) (x : Int) = (dg (r + 1) t i).getD x 0 := rfl
    have hmem := tasted_mem t r x n P i
    simp only [laws_FnBoxesTasted.l1, laws_FnBoxesTasted.j16]
    rw [if_pos (by omega), decide_eq_true (show (i : Int) < 60 by omega), if_pos rfl, codeR_impl _ _ _ _ _ (by omega), codeR_ok hF (by omega), Option.bind_some, if_pos rfl, has_eq _ _ (by omega) _ (by omega), Option.bind_some,
      if_pos (by omega), if_pos (by show (x : Int) < ((dg (r + 1) t i).length : Int); omega), hrd, PK.w1 (show i < 60 by omega) (by omega)]
    rw [if_neg ?_]
    · exact ih k (i + 1) (by omega) (by omega)
    · by_cases c : (dg (r + 1) t i).getD x 0 = (n : Int)
      · rw [decide_eq_true (hmem.2 ⟨by omega, c⟩), c]; simp
      · rw [decide_eq_false (fun h => c (hmem.1 h).2), beq_eq_false_iff_ne.mpr c]; simp
theorem j14_ok (P t r x n : Int) (k : Nat) (hk : 8000 ≤ k) : laws_FnBoxesTasted.j14 k P t r x n (tastR P t r x n).1 (tastR P t r x n).2 = some true := by
  obtain ⟨k, rfl⟩ : ∃ q, k = q + 1 := ⟨k - 1, by omega⟩
  by_cases c : TastOk P t r x n
  · obtain ⟨hF, hP, hx, hn⟩ := c
    have hF' := hF
    obtain ⟨⟨p1, p2⟩, ⟨t1, t2⟩, ⟨r1, r2⟩, _⟩ := hF'
    obtain ⟨P, rfl⟩ : ∃ m : Nat, P = (m : Int) := ⟨P.toNat, by omega⟩
    obtain ⟨t, rfl⟩ : ∃ m : Nat, t = (m : Int) := ⟨t.toNat, by omega⟩
    obtain ⟨r, rfl⟩ : ∃ m : Nat, r = (m : Int) := ⟨r.toNat, by omega⟩
    obtain ⟨x, rfl⟩ : ∃ m : Nat, x = (m : Int) := ⟨x.toNat, by omega⟩
    obtain ⟨n, rfl⟩ : ∃ m : Nat, n = (m : Int) := ⟨n.toNat, by omega⟩
    have hl := tasted_len t r x n P
    rw [tastR_ok hF (by omega) (by omega) (by omega)]
    simp only [laws_FnBoxesTasted.j14]
    rw [if_pos trivial, rises_eq _ (tasted_up t r x n P) (by omega) _ (by omega), Option.bind_some, if_pos rfl]
    exact l1_run P t r x n hF (by omega) (by omega) (min P 60) k 0 (by omega) (by omega)
  · have : tastR P t r x n = ([], false) := by unfold tastR; rw [if_neg c]
    rw [this]
    simp only [laws_FnBoxesTasted.j14]
    rw [if_neg (by simp)]
theorem j13_ok (P t r : Int) (c : List Int) (hc : c.length ≤ 100) (a b d e f : Int) (g : List Int) (h : Bool) (hn : ∀ k, 8000 ≤ k → laws_FnBoxesTasted.j14 k a b d e f g h = some true) (k : Nat) (hk : 9000 ≤ k) :
    laws_FnBoxesTasted.j13 k P t r c (prR P t r c).1 (prR P t r c).2 a b d e f g h = some true := by
  obtain ⟨k, rfl⟩ : ∃ q, k = q + 1 := ⟨k - 1, by omega⟩
  simp only [laws_FnBoxesTasted.j13]
  by_cases c1 : (prR P t r c).2 = true
  · rw [if_pos c1]
    have c2 : Given P t r c := by
      by_cases c2 : Given P t r c
      · exact c2
      · unfold prR at c1; rw [if_neg c2] at c1; cases c1
    have e0 : prR P t r c = pr (r + 1) P 0 c := by unfold prR; rw [if_pos c2]
    rw [e0] at c1 ⊢
    obtain ⟨hF, hl, hx⟩ := c2
    have hF' := hF
    obtain ⟨⟨p1, p2⟩, ⟨t1, t2⟩, ⟨r1, r2⟩, _⟩ := hF'
    obtain ⟨h1, h2⟩ := pr_true (r + 1) P c 0 (by omega) c1
    obtain ⟨P, rfl⟩ : ∃ m : Nat, P = (m : Int) := ⟨P.toNat, by omega⟩
    obtain ⟨t, rfl⟩ : ∃ m : Nat, t = (m : Int) := ⟨t.toNat, by omega⟩
    obtain ⟨r, rfl⟩ : ∃ m : Nat, r = (m : Int) := ⟨r.toNat, by omega⟩
    have er : ((r : Int) + 1) = ((r + 1 : Nat) : Int) := by omega
    rw [er] at h1 h2 ⊢
    obtain ⟨h3, h4⟩ := dg_acc (r + 1) (by omega) t c (by omega) (fun n hn => by have := hx n hn; omega)
    rw [h1]
    obtain ⟨w, hw⟩ : ∃ w : Nat, acc ((r + 1 : Nat) : Int) 0 c = (w : Int) := ⟨_, (Int.toNat_of_nonneg h3).symm⟩
    rw [hw] at h2 h4 ⊢
    rw [Int.toNat_natCast] at h4
    rw [codeR_impl _ _ _ _ _ (by omega), codeR_ok hF (by omega), Option.bind_some, if_pos rfl, h4, same_eq c c (by omega) (by omega) _ (by omega), Option.bind_some, decide_eq_true rfl, if_pos rfl]
    exact hn k (by omega)
  · rw [if_neg c1]
    exact hn k (by omega)
theorem j10_ok (P t m : Int) (ok : Bool) (hR : ok = false ∨ ∃ q : Nat, m = (q : Int) ∧ q ≤ 1000000 ∧ (1 ≤ P ∧ P ≤ 1000000) ∧ (1 ≤ t ∧ t ≤ 20) ∧ P ≤ (E t.toNat q : Int) ∧ ∀ j, j < q → ¬ P ≤ (E t.toNat j : Int))
    (x41 x42 x43 : Int) (x44 : List Int) (x45 : Int) (x46 : Bool) (a b d e f : Int) (g : List Int) (h : Bool) (hn : ∀ k, 9000 ≤ k → laws_FnBoxesTasted.j13 k x41 x42 x43 x44 x45 x46 a b d e f g h = some true) (k : Nat) (hk : 9100 ≤ k) :
    laws_FnBoxesTasted.j10 k P t m ok x41 x42 x43 x44 x45 x46 a b d e f g h false = some true := by
  obtain ⟨k, rfl⟩ : ∃ q, k = q + 3 := ⟨k - 3, by omega⟩
  simp only [laws_FnBoxesTasted.j10, laws_FnBoxesTasted.j11]
  rw [if_neg (by simp)]
  rcases hR with rfl | ⟨q, rfl, h1, h2, h3, h4, h5⟩
  · rw [if_neg (by simp), if_neg (by simp)]
    exact hn (k + 1) (by omega)
  · cases ok with
    | false => rw [if_neg (by simp), if_neg (by simp)]; exact hn (k + 1) (by omega)
    | true =>
      rw [if_pos rfl]
      obtain ⟨t, rfl⟩ : ∃ n : Nat, t = (n : Int) := ⟨t.toNat, by omega⟩
      rw [Int.toNat_natCast] at h4 h5
      by_cases c1 : (q : Int) ≥ 1
      · rw [if_pos c1]
        by_cases c2 : (q : Int) ≤ 20
        · rw [decide_eq_true c2, if_pos rfl, mostR_impl _ _ _ (by omega), mostR_ok (by omega) (by omega), Option.bind_some, if_pos rfl, decide_eq_false (show ¬ (E t q : Int) < P by omega)]
          simp only [laws_FnBoxesTasted.j12]
          rw [if_neg (by simp)]
          by_cases c3 : (q : Int) > 1
          · have hw : wrap64 ((q : Int) - 1) = ((q - 1 : Nat) : Int) := by rw [PK.wrap_in (by omega) (by omega)]; omega
            have h6 := h5 (q - 1) (by omega)
            rw [if_pos c3, hw, mostR_impl _ _ _ (by omega), mostR_ok (by omega) (by omega), Option.bind_some, if_pos rfl, if_neg (by show ¬ (E t (q - 1) : Int) ≥ P; omega)]
            exact hn k (by omega)
          · rw [if_neg c3]
            exact hn k (by omega)
        · rw [decide_eq_false c2, if_neg (by simp)]
          exact hn (k + 1) (by omega)
      · rw [if_neg c1, if_neg (by simp)]
        exact hn (k + 1) (by omega)
theorem j6_ok (P r m : Int) (ok : Bool) (hR : ok = false ∨ ∃ q : Nat, m = (q : Int) ∧ q ≤ 20 ∧ (1 ≤ P ∧ P ≤ 1000000) ∧ (1 ≤ r ∧ r ≤ 20) ∧ P ≤ (E q r.toNat : Int) ∧ ∀ j, j < q → ¬ P ≤ (E j r.toNat : Int))
    (x35 x36 x37 : Int) (x38 : Bool) (x41 x42 x43 : Int) (x44 : List Int) (x45 : Int) (x46 : Bool) (a b d e f : Int) (g : List Int) (h : Bool) (hn : ∀ k, 9100 ≤ k → laws_FnBoxesTasted.j10 k x35 x36 x37 x38 x41 x42 x43 x44 x45 x46 a b d e f g h false = some true) (k : Nat) (hk : 9200 ≤ k) :
    laws_FnBoxesTasted.j6 k P r m ok x35 x36 x37 x38 x41 x42 x43 x44 x45 x46 a b d e f g h false = some true := by
  have h9 : ∀ k, 9101 ≤ k → laws_FnBoxesTasted.j9 k P m ok x35 x36 x37 x38 x41 x42 x43 x44 x45 x46 a b d e f g h = some true := by
    intro k hk
    obtain ⟨k, rfl⟩ : ∃ q, k = q + 1 := ⟨k - 1, by omega⟩
    simp only [laws_FnBoxesTasted.j9]
    rcases hR with rfl | ⟨q, rfl, h1, h2, h3, h4, h5⟩
    · rw [if_neg (by simp)]; exact hn k (by omega)
    · cases ok with
      | false => rw [if_neg (by simp)]; exact hn k (by omega)
      | true =>
        rw [if_pos rfl]
        have e : (((q : Int) == 0) != (P == 1)) = false := by
          by_cases c : P = 1
          · have : q = 0 := by
              by_cases cq : q = 0
              · exact cq
              · have h6 := h5 0 (by omega)
                rw [E_0] at h6
                omega
            subst this; subst c; rfl
          · have : q ≠ 0 := by
              intro hq
              rw [hq, E_0] at h4
              omega
            have e1 : ((q : Int) == 0) = false := by rw [beq_eq_false_iff_ne]; omega
            have e2 : (P == 1) = false := by rw [beq_eq_false_iff_ne]; exact c
            rw [e1, e2]; rfl
        rw [e]
        exact hn k (by omega)
  obtain ⟨k, rfl⟩ : ∃ q, k = q + 3 := ⟨k - 3, by omega⟩
  simp only [laws_FnBoxesTasted.j6, laws_FnBoxesTasted.j7]
  rw [if_neg (by simp)]
  rcases hR with rfl | ⟨q, rfl, h1, h2, h3, h4, h5⟩
  · rw [if_neg (by simp), if_neg (by simp)]
    exact h9 (k + 1) (by omega)
  · cases ok with
    | false => rw [if_neg (by simp), if_neg (by simp)]; exact h9 (k + 1) (by omega)
    | true =>
      rw [if_pos rfl]
      obtain ⟨r, rfl⟩ : ∃ n : Nat, r = (n : Int) := ⟨r.toNat, by omega⟩
      rw [Int.toNat_natCast] at h4 h5
      by_cases c1 : (q : Int) ≥ 1
      · rw [decide_eq_true c1, if_pos rfl, mostR_impl _ _ _ (by omega), mostR_ok (by omega) (by omega), Option.bind_some, if_pos rfl, decide_eq_false (show ¬ (E q r : Int) < P by omega)]
        simp only [laws_FnBoxesTasted.j8]
        rw [if_neg (by simp)]
        by_cases c3 : (q : Int) > 1
        · have hw : wrap64 ((q : Int) - 1) = ((q - 1 : Nat) : Int) := by rw [PK.wrap_in (by omega) (by omega)]; omega
          have h6 := h5 (q - 1) (by omega)
          rw [if_pos c3, hw, mostR_impl _ _ _ (by omega), mostR_ok (by omega) (by omega), Option.bind_some, if_pos rfl, if_neg (by show ¬ (E (q - 1) r : Int) ≥ P; omega)]
          exact h9 k (by omega)
        · rw [if_neg c3]
          exact h9 k (by omega)
      · rw [decide_eq_false c1, if_neg (by simp)]
        exact h9 (k + 1) (by omega)
theorem bne_same (b : Bool) : ¬ ((b != b) = true) := by cases b <;> simp
theorem j5_ok {l : List Int} (hl : ∀ x ∈ l, 0 ≤ x ∧ x ≤ 255) (k : Nat) (hk : 1100000 ≤ k) : laws_FnBoxesTasted.j5 k l = some true := by
  obtain ⟨k, rfl⟩ : ∃ q, k = q + 1 := ⟨k - 1, by omega⟩
  obtain ⟨P1, r1, d1⟩ := drawTasters_ok hl
  obtain ⟨P2, t2, d2⟩ := drawRounds_ok hl
  obtain ⟨P3, t3, r3, c3, d3, hc3⟩ := drawPraline_ok hl k (by omega)
  obtain ⟨P4, t4, r4, x4, n4, d4⟩ := drawTasted_ok hl
  have e1 : ∃ m1 ok1, impl_TastersFor.f k P1 r1 = some (m1, ok1) ∧ spec_TastersFor.f k P1 r1 = some (m1, ok1) ∧ (ok1 = false ∨ ∃ q : Nat, m1 = (q : Int) ∧ q ≤ 20 ∧ (1 ≤ P1 ∧ P1 ≤ 1000000) ∧ (1 ≤ r1 ∧ r1 ≤ 20) ∧ P1 ≤ (E q r1.toNat : Int) ∧ ∀ j, j < q → ¬ P1 ≤ (E j r1.toNat : Int)) := by
    rcases tf_ok P1 r1 k (by omega) with ⟨m, h1, h2, h3⟩ | ⟨h1, h2⟩
    · exact ⟨_, _, h1, h2, .inr ⟨m, rfl, h3⟩⟩
    · exact ⟨_, _, h1, h2, .inl rfl⟩
  have e2 : ∃ m2 ok2, impl_RoundsFor.f k P2 t2 = some (m2, ok2) ∧ spec_RoundsFor.f k P2 t2 = some (m2, ok2) ∧ (ok2 = false ∨ ∃ q : Nat, m2 = (q : Int) ∧ q ≤ 1000000 ∧ (1 ≤ P2 ∧ P2 ≤ 1000000) ∧ (1 ≤ t2 ∧ t2 ≤ 20) ∧ P2 ≤ (E t2.toNat q : Int) ∧ ∀ j, j < q → ¬ P2 ≤ (E t2.toNat j : Int)) := by
    rcases rf_ok P2 t2 k (by omega) with ⟨m, h1, h2, h3⟩ | ⟨h1, h2⟩
    · exact ⟨_, _, h1, h2, .inr ⟨m, rfl, h3⟩⟩
    · exact ⟨_, _, h1, h2, .inl rfl⟩
  obtain ⟨m1, ok1, i1, s1, f1⟩ := e1
  obtain ⟨m2, ok2, i2, s2, f2⟩ := e2
  have hlen : (tastR P4 t4 r4 x4 n4).1.length ≤ 1000 := by
    unfold tastR
    by_cases c : TastOk P4 t4 r4 x4 n4
    · rw [if_pos c]
      have := tasted_len t4.toNat r4.toNat x4.toNat n4.toNat P4.toNat
      have := c.2.1
      show (tasted t4.toNat r4.toNat x4.toNat n4.toNat 0 P4.toNat).length ≤ 1000
      omega
    · rw [if_neg c]; simp
  simp only [laws_FnBoxesTasted.j5]
  rw [d1, Option.bind_some, i1, Option.bind_some, s1, Option.bind_some, d2, Option.bind_some, i2, Option.bind_some, s2, Option.bind_some, d3, Option.bind_some,
    prR_impl _ _ _ _ _ (by omega), Option.bind_some, prR_spec _ _ _ _ (by show c3.length ≤ 1000; omega) _ (by omega), Option.bind_some, d4, Option.bind_some, tastR_impl _ _ _ _ _ _ (by omega), Option.bind_some, tastR_spec _ _ _ _ _ _ (by omega), Option.bind_some,
    if_neg (bne_same _), if_pos rfl, if_neg (bne_same _), if_pos rfl, if_neg (bne_same _), if_pos rfl, if_neg (bne_same _), same_eq _ _ (by show (tastR P4 t4 r4 x4 n4).1.length ≤ 4000; omega) (by show (tastR P4 t4 r4 x4 n4).1.length ≤ 4000; omega) _ (by omega), Option.bind_some, decide_eq_true rfl]
  exact j6_ok P1 r1 m1 ok1 f1 P2 t2 m2 ok2 P3 t3 r3 c3 _ _ P4 t4 r4 x4 n4 _ _ (fun k hk => j10_ok P2 t2 m2 ok2 f2 P3 t3 r3 c3 _ _ P4 t4 r4 x4 n4 _ _ (fun k hk => j13_ok P3 t3 r3 c3 hc3 P4 t4 r4 x4 n4 _ _ (fun k hk => j14_ok P4 t4 r4 x4 n4 k hk) k hk) k hk) k (by omega)
theorem l0_run {l : List Int} (P t r w : Nat) (hF : Found P t r) (hw : w < P) (h5 : ∀ k, 1100000 ≤ k → laws_FnBoxesTasted.j5 k l = some true) : ∀ (d k i : Nat), i + d = t → 1110000 + 4 * d ≤ k →
    laws_FnBoxesTasted.l0 k l (P : Int) (t : Int) (r : Int) (w : Int) (dg (r + 1) t w) (min ((P : Int) - 1) (r : Int)) (dg (r + 1) t w) (((dg (r + 1) t w).length : Nat) : Int) (i : Int) = some true := by
  obtain ⟨⟨p1, p2⟩, ⟨t1, t2⟩, ⟨r1, r2⟩, hE⟩ := id hF
  rw [Int.toNat_natCast, Int.toNat_natCast] at hE
  have hroom : P ≤ (r + 1) ^ t := room_ge (by omega)
  have hlen := dg_len (r + 1) t w
  have hacc := acc_dg (r + 1) (by omega) t w (by omega)
  intro d
  induction d with
  | zero =>
    intro k i hi hk
    obtain ⟨k, rfl⟩ : ∃ q, k = q + 1 := ⟨k - 1, by omega⟩
    simp only [laws_FnBoxesTasted.l0]
    rw [if_neg (by omega)]
    by_cases c : (w : Int) > 0
    · have hww : wrap64 ((w : Int) - 1) = ((w - 1 : Nat) : Int) := by rw [PK.wrap_in (by omega) (by omega)]; omega
      have hlen2 := dg_len (r + 1) t (w - 1)
      have hacc2 := acc_dg (r + 1) (by omega) t (w - 1) (by omega)
      rw [if_pos c, hww, codeR_impl _ _ _ _ _ (by omega), codeR_ok hF (by omega), Option.bind_some, if_pos rfl, same_eq _ _ (by show (dg (r + 1) t (w - 1)).length ≤ 4000; omega) (by omega) _ (by omega), Option.bind_some, decide_eq_false ?_, if_neg (by simp)]
      · exact h5 k (by omega)
      · intro e
        have e' : dg (r + 1) t (w - 1) = dg (r + 1) t w := e
        rw [e', hacc] at hacc2
        omega
    · rw [if_neg c]
      exact h5 k (by omega)
  | succ d ih =>
    intro k i hi hk
    obtain ⟨k, rfl⟩ : ∃ q, k = q + 3 := ⟨k - 3, by omega⟩
    have hlt : i < (dg (r + 1) t w).length := by omega
    have hrd : rd (dg (r + 1) t w) (i : Int) = (dg (r + 1) t w)[i] := PK.rd_at hlt
    obtain ⟨n1, n2, n3⟩ := dg_in (r + 1) (by omega) t w _ (List.getElem_mem hlt)
    have hgd : (dg (r + 1) t w).getD i 0 = (dg (r + 1) t w)[i] := by rw [List.getD_eq_getElem?_getD, List.getElem?_eq_getElem hlt]; rfl
    have hnext : ∀ k, 1110000 + 4 * d ≤ k → laws_FnBoxesTasted.l0 k l (P : Int) (t : Int) (r : Int) (w : Int) (dg (r + 1) t w) (min ((P : Int) - 1) (r : Int)) (dg (r + 1) t w) (((dg (r + 1) t w).length : Nat) : Int) (wrap64 ((i : Int) + 1)) = some true := by
      intro k hk
      rw [PK.w1 (show i < t by omega) (by omega)]
      exact ih k (i + 1) (by omega) hk
    generalize (dg (r + 1) t w)[i] = v at hrd n1 n2 n3 hgd
    simp only [laws_FnBoxesTasted.l0, laws_FnBoxesTasted.j3]
    rw [if_pos (by omega), if_pos (by omega), if_pos (by omega), hrd, if_neg (by omega), if_neg (by omega), decide_eq_false (show ¬ v > min ((P : Int) - 1) (r : Int) by omega), if_neg (by simp)]
    by_cases c1 : (P : Int) ≤ 100
    · rw [if_pos c1]
      by_cases c2 : v > 0
      · obtain ⟨n, rfl⟩ : ∃ n : Nat, v = (n : Int) := ⟨v.toNat, by omega⟩
        have hl := tasted_len t r i n P
        have hm := (tasted_mem t r i n P w).2 ⟨hw, hgd⟩
        rw [decide_eq_true c2]
        simp only [laws_FnBoxesTasted.j4]
        rw [if_pos trivial, tastR_impl _ _ _ _ _ _ (by omega), tastR_ok hF (by omega) (by omega) (by omega), Option.bind_some, if_pos rfl, has_eq _ _ (by show (tasted t r i n 0 P).length ≤ 4000; omega) _ (by omega), Option.bind_some, decide_eq_true hm, if_pos rfl]
        exact hnext k (by omega)
      · rw [decide_eq_false c2]
        simp only [laws_FnBoxesTasted.j4]
        rw [if_neg (by simp)]
        exact hnext k (by omega)
    · rw [if_neg c1]
      simp only [laws_FnBoxesTasted.j4]
      rw [if_neg (by simp)]
      exact hnext k (by omega)
theorem j0_ok {l : List Int} (P t r w : Int) (h5 : ∀ k, 1100000 ≤ k → laws_FnBoxesTasted.j5 k l = some true) (k : Nat) (hk : 1120000 ≤ k) :
    laws_FnBoxesTasted.j0 k l P t r w (codeR P t r w).1 (codeR P t r w).2 (bitR P t r).1 false = some true := by
  obtain ⟨k, rfl⟩ : ∃ q, k = q + 1 := ⟨k - 1, by omega⟩
  by_cases c : CodeOk P t r w
  · obtain ⟨hF, hw1, hw2⟩ := c
    have hb : (bitR P t r).1 = min (P - 1) r := by unfold bitR; rw [if_pos hF]
    rw [hb]
    obtain ⟨⟨p1, p2⟩, ⟨t1, t2⟩, ⟨r1, r2⟩, hE⟩ := id hF
    obtain ⟨P, rfl⟩ : ∃ m : Nat, P = (m : Int) := ⟨P.toNat, by omega⟩
    obtain ⟨t, rfl⟩ : ∃ m : Nat, t = (m : Int) := ⟨t.toNat, by omega⟩
    obtain ⟨r, rfl⟩ : ∃ m : Nat, r = (m : Int) := ⟨r.toNat, by omega⟩
    obtain ⟨w, rfl⟩ : ∃ m : Nat, w = (m : Int) := ⟨w.toNat, by omega⟩
    rw [Int.toNat_natCast, Int.toNat_natCast] at hE
    have hroom : P ≤ (r + 1) ^ t := room_ge (by omega)
    have hlen := dg_len (r + 1) t w
    have hacc := acc_dg (r + 1) (by omega) t w (by omega)
    have hin := dg_in (r + 1) (by omega) t w
    have er : ((r : Int) + 1) = ((r + 1 : Nat) : Int) := by omega
    have hpr : prR (P : Int) (t : Int) (r : Int) (dg (r + 1) t w) = ((w : Int), true) := by
      unfold prR
      rw [if_pos ⟨hF, by omega, fun n hn => by have := hin n hn; omega⟩, er, pr_of _ _ (by omega) _ 0 (Int.le_refl _) (fun n hn => (hin n hn).1) (by rw [hacc]; omega), hacc]
    rw [codeR_ok hF (by omega)]
    simp only [laws_FnBoxesTasted.j0]
    rw [if_neg (by simp), if_pos trivial, prR_impl _ _ _ _ _ (by omega), hpr, Option.bind_some, if_pos (by omega), if_pos rfl]
    obtain ⟨k, rfl⟩ : ∃ q, k = q + 1 := ⟨k - 1, by omega⟩
    simp only [laws_FnBoxesTasted.j1]
    rw [if_neg (by simp)]
    exact l0_run P t r w hF (by omega) h5 t k 0 (by omega) (by omega)
  · have : codeR P t r w = ([], false) := by unfold codeR; rw [if_neg c]
    rw [this]
    simp only [laws_FnBoxesTasted.j0]
    rw [if_neg (by simp), if_neg (by simp)]
    exact h5 k (by omega)
theorem most_2 {t r : Int} (h : TR t r) : 2 ≤ (mostR t r).1 := by
  unfold mostR
  rw [if_pos h]
  obtain ⟨⟨t1, t2⟩, r1, r2⟩ := h
  show (2 : Int) ≤ (E t.toNat r.toNat : Int)
  have := E_ge (t := t.toNat) (by omega) (r := r.toNat)
  omega
theorem FnBoxesTasted : laws_FnBoxesTasted.Pure2 := by
  intro l0 l1 h0 h1
  have hb0 : ∀ x ∈ l0, 0 ≤ x ∧ x ≤ 255 := fun x hx => by simpa [Lit.wf, IntKind.min, IntKind.max, IntKind.bits, IntKind.signed] using h0.2 x hx
  have hb1 : ∀ x ∈ l1, 0 ≤ x ∧ x ≤ 255 := fun x hx => by simpa [Lit.wf, IntKind.min, IntKind.max, IntKind.bits, IntKind.signed] using h1.2 x hx
  obtain ⟨k, hk⟩ : ∃ k : Nat, k ≥ 1200000 := ⟨1200000, Nat.le_refl _⟩
  refine ⟨k, ?_⟩
  have h5 : ∀ k, 1100000 ≤ k → laws_FnBoxesTasted.j5 k l1 = some true := fun k hk => j5_ok hb1 k hk
  obtain ⟨P, t, r, w, d⟩ := drawCode_ok hb0
  have hbig : ∃ b, laws_big.f l0 l1 = some b := by
    unfold laws_big.f
    by_cases c : (l0.length : Int) > 1048576
    · rw [if_pos c]; exact ⟨_, rfl⟩
    · rw [if_neg c]; exact ⟨_, rfl⟩
  obtain ⟨b, hb⟩ := hbig
  have hlen : (codeR P t r w).1.length ≤ 20 := by
    unfold codeR
    by_cases c : CodeOk P t r w
    · rw [if_pos c]
      have := dg_len (r.toNat + 1) t.toNat w.toNat
      have := c.1.2.1
      show (dg (r.toNat + 1) t.toNat w.toNat).length ≤ 20
      omega
    · rw [if_neg c]; simp
  have hj := j0_ok P t r w h5 k (by omega)
  have f1 : (codeR P t r w).2 = true → Found P t r := by
    intro h
    by_cases c : CodeOk P t r w
    · exact c.1
    · unfold codeR at h; rw [if_neg c] at h; cases h
  have f2 : (bitR P t r).2 = true ↔ Found P t r := by
    unfold bitR
    by_cases c : Found P t r
    · rw [if_pos c]; exact ⟨fun _ => c, fun _ => rfl⟩
    · rw [if_neg c]; exact ⟨fun h => (by cases h), fun h => absurd h c⟩
  have f3 : (mostR t r).2 = true ↔ TR t r := by
    unfold mostR
    by_cases c : TR t r
    · rw [if_pos c]; exact ⟨fun _ => c, fun _ => rfl⟩
    · rw [if_neg c]; exact ⟨fun h => (by cases h), fun h => absurd h c⟩
  have f4 : Found P t r → ¬ P > (mostR t r).1 := by
    intro h
    have h' := h.2.2.2
    have hT : TR t r := ⟨h.2.1, h.2.2.1⟩
    unfold mostR
    rw [if_pos hT]
    show ¬ P > (E t.toNat r.toNat : Int)
    omega
  have f5 : TR t r → decide ((mostR t r).1 < 2) = false := fun h => decide_eq_false (by have := most_2 h; omega)
  unfold laws_FnBoxesTasted.f
  rw [hb, Option.bind_some]
  by_cases cb : b = true
  · rw [if_pos cb]
  · rw [if_neg cb, d, Option.bind_some, codeR_impl _ _ _ _ _ (by omega), Option.bind_some, codeR_spec _ _ _ _ _ (by omega), Option.bind_some, mostR_impl _ _ _ (by omega), Option.bind_some, mostR_spec _ _ _ (by omega), Option.bind_some, bitR_impl _ _ _ _ (by omega), Option.bind_some, bitR_spec _ _ _ _ (by omega), Option.bind_some,
      if_neg (bne_same _), same_eq _ _ (by show (codeR P t r w).1.length ≤ 4000; omega) (by show (codeR P t r w).1.length ≤ 4000; omega) _ (by omega), Option.bind_some, decide_eq_true rfl, if_pos rfl, if_neg (bne_same _), if_pos rfl, if_neg (bne_same _), if_pos rfl]
    show (if (codeR P t r w).2 = true then _ else _) = some true
    by_cases c1 : (codeR P t r w).2 = true
    · have hF := f1 c1
      have hT : TR t r := ⟨hF.2.1, hF.2.2.1⟩
      rw [if_pos c1]
      show (if (bitR P t r).2 = true then _ else _) = some true
      rw [if_pos (f2.2 hF)]
      show (if (mostR t r).2 = true then _ else _) = some true
      rw [if_pos (f3.2 hT)]
      show (if P > (mostR t r).1 then _ else _) = some true
      rw [if_neg (f4 hF)]
      show laws_FnBoxesTasted.j0 k l1 P t r w (codeR P t r w).1 (codeR P t r w).2 (bitR P t r).1 (decide ((mostR t r).1 < 2)) = some true
      rw [f5 hT]
      exact hj
    · rw [if_neg c1]
      show (if (bitR P t r).2 = true then _ else _) = some true
      by_cases c2 : (bitR P t r).2 = true
      · have hF := f2.1 c2
        have hT : TR t r := ⟨hF.2.1, hF.2.2.1⟩
        rw [if_pos c2]
        show (if (mostR t r).2 = true then _ else _) = some true
        rw [if_pos (f3.2 hT)]
        show (if P > (mostR t r).1 then _ else _) = some true
        rw [if_neg (f4 hF)]
        show laws_FnBoxesTasted.j0 k l1 P t r w (codeR P t r w).1 (codeR P t r w).2 (bitR P t r).1 (decide ((mostR t r).1 < 2)) = some true
        rw [f5 hT]
        exact hj
      · rw [if_neg c2]
        show (if (mostR t r).2 = true then _ else _) = some true
        by_cases c3 : (mostR t r).2 = true
        · rw [if_pos c3]
          show laws_FnBoxesTasted.j0 k l1 P t r w (codeR P t r w).1 (codeR P t r w).2 (bitR P t r).1 (decide ((mostR t r).1 < 2)) = some true
          rw [f5 (f3.1 c3)]
          exact hj
        · rw [if_neg c3]
          exact hj

end Go.Proofs.Ytdikeggkfkkajaa.Pure
