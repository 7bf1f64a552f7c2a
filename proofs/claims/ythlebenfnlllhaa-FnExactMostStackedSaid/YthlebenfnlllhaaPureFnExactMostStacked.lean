/- MostStacked answers as the reference does: of at most seven slabs how many can be stacked at most, else nothing; its argument stays as it was. Conditions: none. -/
import Derived.Test.YthlebenfnlllhaaStFnExactMostStacked
import Derived.Test.YthlebenfnlllhaaPK
namespace Go.Proofs.Ythlebenfnlllhaa.Pure
open Go.RowKit Go.Proofs.Ythlebenfnlllhaa.PFnExactMostStacked Go.Proofs.YthlebenfnlllhaaW.PrintWords Go.Proofs.YthlebenfnlllhaaW.PrintLast Go.Proofs.YthlebenfnlllhaaW.PrintMore
set_option linter.unusedVariables false
set_option linter.unusedSimpArgs false

def toSl (x : S108) : S98 := ⟨x.f0, x.f1⟩
theorem szSlabS_cases (l : List S108) (hl : l.length ≤ maxLen) : (∃ t, laws_szSlabS.f l 1048576 = some t ∧ t < 0) ∨ (∃ t, laws_szSlabS.f l 1048576 = some t ∧ ¬ t < 0 ∧ l.length ≤ 1048576) := by
  unfold maxLen at hl
  have hw : wrap64 (1048576 - (l.length : Int)) = 1048576 - (l.length : Int) := PK.wrap_in (by omega) (by omega)
  unfold laws_szSlabS.f
  rw [hw]
  by_cases h : (1048576 - (l.length : Int)) < 0
  · exact .inl ⟨-1, by rw [if_pos h], by omega⟩
  · exact .inr ⟨1048576 - (l.length : Int), by rw [if_neg h], h, by omega⟩
theorem toSlabS_eq (l : List S108) (hl : l.length ≤ 1048576) (k : Nat) (hk : l.length < k) : laws_toSlabS.f k l = some (l.map toSl) := by
  unfold laws_toSlabS.f
  rw [if_pos (by omega), if_pos (by omega), Int.toNat_natCast]
  have h := PK.fill_loop (ρ := List S98) l.length 0 (fun k s i => laws_toSlabS.l0 k l s i) (fun i => toSl (l.getD i z108)) (fun s => some s)
    (fun k i s _ hs hi => by
      try dsimp only
      simp only [laws_toSlabS.l0]
      rw [if_pos (by omega), if_pos (by omega)]
      unfold laws_toSlab.f
      rw [Option.bind_some, if_pos (by omega), PK.w1 hi (by omega), Int.toNat_natCast]
      congr 1)
    (fun k s _ hs => by
      try dsimp only
      simp only [laws_toSlabS.l0]
      rw [if_neg (by omega)])
    (k := k) (by omega) (s := List.replicate l.length z98) (by simp)
  try dsimp only at h
  rw [h, PK.map_range]
theorem eqSlabS_refl (l : List S98) (hl : l.length ≤ 1048576) (k : Nat) (hk : l.length < k) : laws_eqSlabS.f k l l = some true := by
  unfold laws_eqSlabS.f
  rw [if_pos rfl]
  have h := PK.all_loop0 l (fun k i => laws_eqSlabS.l0 k l l i) 0 (fun _ => true)
    (fun k i hi _ => by
      try dsimp only
      simp only [laws_eqSlabS.l0]
      rw [if_pos (by omega), if_pos (by omega), if_pos (by omega)]
      unfold laws_eqSlab.f
      rw [if_pos rfl, if_pos rfl, Option.bind_some, if_pos rfl, if_pos trivial, PK.w1 hi (by omega)])
    (fun k _ => by
      try dsimp only
      simp only [laws_eqSlabS.l0]
      rw [if_neg (by omega)])
    (k := k) (by omega)
  try dsimp only at h
  rw [h]; simp

/-- A list of different numbers below n is no longer than n. -/
theorem nodup_len : ∀ (n : Nat) (l : List Int), l.Nodup → (∀ x ∈ l, 0 ≤ x ∧ x < (n : Int)) → l.length ≤ n
  | 0, l, _, h => by
    cases l with
    | nil => exact Nat.le_refl _
    | cons x xs => have := h x (by simp); omega
  | n + 1, l, hn, h => by
    have h2 := nodup_len n (l.erase (n : Int)) (hn.erase _) (fun x hx => by
      have h3 := (hn.mem_erase_iff).1 hx
      have := h x h3.2
      have h4 := h3.1
      omega)
    rw [List.length_erase] at h2
    split at h2 <;> omega
def F (b r : List Int) : List Int := if b.length < r.length then r else b
theorem F_nil (x : List Int) : F [] x = x := by
  unfold F
  cases x with
  | nil => rfl
  | cons y ys => rw [if_pos (by simp)]
theorem F_assoc (a b c : List Int) : F (F a b) c = F a (F b c) := by
  unfold F
  repeat' split
  all_goals first | rfl | omega
section
variable (l : List S98)
def room : List Int → Int
  | [] => 7000
  | i :: rest => if room rest - (rd_T98 l i).f0 < (rd_T98 l i).f1 then room rest - (rd_T98 l i).f0 else (rd_T98 l i).f1
def tot : List Int → Int
  | [] => 0
  | i :: rest => (rd_T98 l i).f0 + tot rest
def okc (bg : List Int) (i : Nat) : Bool := !bg.contains (i : Int) && decide ((rd_T98 l (i : Int)).f0 ≤ room l bg.reverse)
def bgo (rec : List Int → List Int) (bg : List Int) : Nat → Nat → List Int → List Int
  | 0, _, b => b
  | m + 1, i, b => bgo rec bg m (i + 1) (if okc l bg i = true then F b (rec (bg ++ [(i : Int)])) else b)
def bst : Nat → List Int → List Int
  | 0, bg => bg
  | e + 1, bg => bgo l (bst e) bg l.length 0 bg
theorem bgo_F (rec : List Int → List Int) (bg a : List Int) : ∀ (m i : Nat) (b : List Int), bgo l rec bg m i (F a b) = F a (bgo l rec bg m i b)
  | 0, _, _ => rfl
  | m + 1, i, b => by
    simp only [bgo]
    split
    · rw [F_assoc]; exact bgo_F rec bg a m (i + 1) _
    · exact bgo_F rec bg a m (i + 1) b
theorem bgo_len (rec : List Int → List Int) (bg : List Int) (M : Nat) (hr : ∀ i : Nat, (rec (bg ++ [(i : Int)])).length ≤ M) : ∀ (m i : Nat) (b : List Int), b.length ≤ M → (bgo l rec bg m i b).length ≤ M
  | 0, _, _, h => h
  | m + 1, i, b, h => by
    simp only [bgo]
    refine bgo_len rec bg M hr m (i + 1) _ ?_
    split
    · unfold F; split
      · exact hr i
      · exact h
    · exact h
theorem bst_len : ∀ (e : Nat) (bg : List Int), (bst l e bg).length ≤ bg.length + e
  | 0, bg => Nat.le_refl _
  | e + 1, bg => bgo_len l _ bg _ (fun i => by have := bst_len e (bg ++ [(i : Int)]); simp only [List.length_append, List.length_singleton] at this; omega) _ _ _ (by omega)
structure Ok : Prop where
  n7 : l.length ≤ 7
  w : ∀ i : Int, 0 ≤ i → i < (l.length : Int) → 1 ≤ (rd_T98 l i).f0 ∧ (rd_T98 l i).f0 ≤ 1000 ∧ 1 ≤ (rd_T98 l i).f1 ∧ (rd_T98 l i).f1 ≤ 1000
structure Vld (bg : List Int) : Prop where
  nd : bg.Nodup
  rg : ∀ x ∈ bg, 0 ≤ x ∧ x < (l.length : Int)
  ck : 0 ≤ room l bg.reverse
variable {l} {bg : List Int}
theorem tot_le (h : Ok l) : ∀ (r : List Int), (∀ x ∈ r, 0 ≤ x ∧ x < (l.length : Int)) → 0 ≤ tot l r ∧ tot l r ≤ 1000 * (r.length : Int)
  | [], _ => by simp [tot]
  | i :: rest, hr => by
    have h1 := tot_le h rest (fun x hx => hr x (by simp [hx]))
    have h2 := h.w i (hr i (by simp)).1 (hr i (by simp)).2
    simp only [tot, List.length_cons]
    omega
theorem room_le (h : Ok l) : ∀ (r : List Int), (∀ x ∈ r, 0 ≤ x ∧ x < (l.length : Int)) → room l r ≤ 7000 ∧ -1000 * (r.length : Int) ≤ room l r
  | [], _ => by simp [room]
  | i :: rest, hr => by
    have h1 := room_le h rest (fun x hx => hr x (by simp [hx]))
    have h2 := h.w i (hr i (by simp)).1 (hr i (by simp)).2
    simp only [room, List.length_cons]
    split <;> omega
theorem chk_room (h : Ok l) : ∀ (r : List Int) (a : Int), r.Nodup → (∀ x ∈ r, 0 ≤ x ∧ x < (l.length : Int)) → 0 ≤ a → a + tot l r ≤ 7000 → impl_isStack.chk l r a = decide (a ≤ room l r)
  | [], a, _, _, _, h4 => by
    have h5 : a ≤ 7000 := by simpa [tot] using h4
    show true = decide (a ≤ 7000)
    rw [decide_eq_true h5]
  | i :: rest, a, h1, h2, h3, h4 => by
    have hi := h.w i (h2 i (by simp)).1 (h2 i (by simp)).2
    have ht := tot_le h rest (fun x hx => h2 x (by simp [hx]))
    have hn := List.nodup_cons.1 h1
    have hc : rest.contains i = false := by rw [← Bool.not_eq_true]; simp; exact hn.1
    simp only [tot] at h4
    have ih := chk_room h rest (a + (rd_T98 l i).f0) hn.2 (fun x hx => h2 x (by simp [hx])) (by omega) (by omega)
    have hw : wrap64 (a + (rd_T98 l i).f0) = a + (rd_T98 l i).f0 := PK.wrap_in (by omega) (by omega)
    have key : impl_isStack.chk l (i :: rest) a = if rest.contains i = true ∨ (rd_T98 l i).f1 < a then false else impl_isStack.chk l rest (wrap64 (a + (rd_T98 l i).f0)) := rfl
    have hr : room l (i :: rest) = if room l rest - (rd_T98 l i).f0 < (rd_T98 l i).f1 then room l rest - (rd_T98 l i).f0 else (rd_T98 l i).f1 := rfl
    rw [key, hc, hw, ih, hr]
    simp only [Bool.false_eq_true, false_or]
    by_cases c : (rd_T98 l i).f1 < a
    · rw [if_pos c]; symm; rw [decide_eq_false_iff_not]; split <;> omega
    · rw [if_neg c]
      by_cases d : a + (rd_T98 l i).f0 ≤ room l rest
      · rw [decide_eq_true d]; symm; rw [decide_eq_true_iff]; split <;> omega
      · rw [decide_eq_false d]; symm; rw [decide_eq_false_iff_not]; split <;> omega
theorem vld_len (h : Vld l bg) : bg.length ≤ l.length := nodup_len l.length bg h.nd h.rg
theorem vld_step (h : Ok l) (hv : Vld l bg) {i : Nat} (hi : i < l.length) (ho : okc l bg i = true) : Vld l (bg ++ [(i : Int)]) := by
  unfold okc at ho
  simp only [Bool.and_eq_true, Bool.not_eq_true', decide_eq_true_eq] at ho
  have hw := h.w (i : Int) (by omega) (by omega)
  refine ⟨?_, ?_, ?_⟩
  · rw [List.nodup_append]
    refine ⟨hv.nd, by simp, ?_⟩
    intro a ha b hb hab
    simp at hb
    subst hb
    subst hab
    have := List.contains_iff_mem.2 ha
    rw [this] at ho
    simp at ho
  · intro x hx
    rcases List.mem_append.1 hx with hx | hx
    · exact hv.rg x hx
    · simp at hx; subst hx; omega
  · rw [List.reverse_append]
    show 0 ≤ room l ((i : Int) :: bg.reverse)
    simp only [room]
    split <;> omega
theorem isStack_eq (h : Ok l) (hv : Vld l bg) {i : Nat} (hi : i < l.length) : impl_isStack.f l (bg ++ [(i : Int)]) = some (okc l bg i) := by
  have hw := h.w (i : Int) (by omega) (by omega)
  unfold impl_isStack.f okc
  have hall : ((bg ++ [(i : Int)]).all fun n => decide (0 ≤ n) && decide (n ≤ (l.length : Int) - 1)) = true := by
    rw [List.all_eq_true]
    intro x hx
    have : 0 ≤ x ∧ x < (l.length : Int) := by
      rcases List.mem_append.1 hx with hx | hx
      · exact hv.rg x hx
      · simp at hx; subst hx; omega
    simp; omega
  have key : impl_isStack.chk l ((i : Int) :: bg.reverse) 0 = if bg.reverse.contains (i : Int) = true ∨ (rd_T98 l i).f1 < 0 then false else impl_isStack.chk l bg.reverse (wrap64 (0 + (rd_T98 l i).f0)) := rfl
  rw [hall, Bool.true_and, List.reverse_append]
  show some (impl_isStack.chk l ((i : Int) :: bg.reverse) 0) = _
  rw [key, List.contains_reverse]
  by_cases c : bg.contains (i : Int) = true
  · rw [if_pos (Or.inl c), c]; rfl
  · have c2 : bg.contains (i : Int) = false := by simpa using c
    rw [if_neg (by rintro (h1 | h1); exact c h1; omega), c2, Int.zero_add, PK.wrap_in (by omega) (by omega)]
    have hr : ∀ x ∈ bg.reverse, 0 ≤ x ∧ x < (l.length : Int) := fun x hx => hv.rg x (by simpa using hx)
    have ht := tot_le h bg.reverse hr
    have hl2 : (bg ++ [(i : Int)]).length ≤ l.length := nodup_len l.length _ (by
      rw [List.nodup_append]
      refine ⟨hv.nd, by simp, ?_⟩
      intro a ha b hb hab
      simp at hb
      subst hb
      subst hab
      have := List.contains_iff_mem.2 ha
      exact c this) (fun x hx => by
      rcases List.mem_append.1 hx with hx | hx
      · exact hv.rg x hx
      · simp at hx; subst hx; omega)
    simp only [List.length_append, List.length_singleton] at hl2
    have h7 := h.n7
    rw [chk_room h bg.reverse _ (by rw [List.Nodup, List.pairwise_reverse]; exact hv.nd.imp (fun h => h.symm)) hr (by omega) (by simp only [List.length_reverse] at ht; omega)]
    rfl
theorem nest_eq (h : Ok l) : ∀ (e d : Nat) (bg : List Int) (acc : List (List Int)), e ≤ d → Vld l bg → bg.length + e = l.length + 1 → acc.length + 8 ^ e ≤ 999999999 →
    ∃ r, Rows.nest (fun r => impl_isStack.f l r) l.length d bg acc = some r ∧ r.length ≤ acc.length + 8 ^ e ∧ ∀ b0, r.foldl F b0 = F (acc.foldl F b0) (bst l e bg)
  | 0, d, bg, acc, _, hv, hl, _ => by have := vld_len hv; omega
  | e + 1, d, bg, acc, hd, hv, hl, ha => by
    obtain ⟨d, rfl⟩ : ∃ q, d = q + 1 := ⟨d - 1, by omega⟩
    have h7 := h.n7
    have hp : 8 ^ (e + 1) = 8 ^ e * 8 := Nat.pow_succ ..
    have hp1 : 1 ≤ 8 ^ e := Nat.one_le_pow _ _ (by omega)
    have inner : ∀ (m i : Nat) (acc : List (List Int)), i + m = l.length → acc.length + m * 8 ^ e ≤ 999999999 →
        ∃ r, Rows.go (Rows.nest (fun r => impl_isStack.f l r) l.length d) (fun r => impl_isStack.f l r) bg m i acc = some r ∧ r.length ≤ acc.length + m * 8 ^ e ∧ ∀ b0, r.foldl F b0 = bgo l (bst l e) bg m i (acc.foldl F b0) := by
      intro m
      induction m with
      | zero => intro i acc _ _; exact ⟨acc, rfl, by omega, fun _ => rfl⟩
      | succ m ih =>
        intro i acc hi hb
        have hm : (m + 1) * 8 ^ e = m * 8 ^ e + 8 ^ e := Nat.succ_mul ..
        rw [hm] at hb
        simp only [Rows.go]
        rw [isStack_eq h hv (show i < l.length by omega), Option.bind_some]
        by_cases c : okc l bg i = true
        · rw [c, if_pos rfl]
          obtain ⟨t, ht, htl, htf⟩ := nest_eq h e d (bg ++ [(i : Int)]) acc (by omega) (vld_step h hv (by omega) c) (by simp only [List.length_append, List.length_singleton]; omega) (by omega)
          obtain ⟨r, hr, hrl, hrf⟩ := ih (i + 1) t (by omega) (by omega)
          refine ⟨r, by rw [ht, Option.bind_some]; exact hr, by omega, fun b0 => ?_⟩
          rw [hrf, htf]
          simp only [bgo]
          rw [if_pos c]
        · rw [if_neg c]
          obtain ⟨r, hr, hrl, hrf⟩ := ih (i + 1) acc (by omega) (by omega)
          refine ⟨r, hr, by omega, fun b0 => ?_⟩
          rw [hrf]
          simp only [bgo]
          rw [if_neg c]
    have hle : l.length * 8 ^ e ≤ 7 * 8 ^ e := Nat.mul_le_mul_right _ h7
    obtain ⟨r, hr, hrl, hrf⟩ := inner l.length 0 (acc ++ [bg]) (by omega) (by simp only [List.length_append, List.length_singleton]; omega)
    simp only [List.length_append, List.length_singleton] at hrl
    refine ⟨r, ?_, by omega, fun b0 => ?_⟩
    · simp only [Rows.nest]
      rw [if_pos (by omega)]
      exact hr
    · rw [hrf, List.foldl_append]
      simp only [List.foldl_cons, List.foldl_nil, bst]
      exact bgo_F l (bst l e) bg (acc.foldl F b0) l.length 0 bg
theorem l1Own_eq (x : List Int) (h : x.length < 1000) : spec_l1Own.f x = some x := by
  unfold spec_l1Own.f
  rw [Option.bind_some, if_pos (by simp; omega), List.nil_append]
theorem l1Has_eq (x : Int) (bg : List Int) (hl : bg.length ≤ 1000) : ∀ (d k i : Nat), i + d = bg.length → d < k → spec_l1Has.l0 k x bg (bg.length : Int) (i : Int) = some ((bg.drop i).contains x) := by
  intro d
  induction d with
  | zero =>
    intro k i hi hk
    obtain ⟨k, rfl⟩ : ∃ q, k = q + 1 := ⟨k - 1, by omega⟩
    obtain rfl : i = bg.length := by omega
    simp only [spec_l1Has.l0]
    rw [if_neg (by omega)]; simp
  | succ d ih =>
    intro k i hi hk
    obtain ⟨k, rfl⟩ : ∃ q, k = q + 1 := ⟨k - 1, by omega⟩
    have hlt : i < bg.length := by omega
    simp only [spec_l1Has.l0]
    rw [if_pos (by omega), if_pos (by omega), if_pos (by omega), PK.rd_at hlt, List.drop_eq_getElem_cons hlt, List.contains_cons]
    by_cases c : bg[i] = x
    · rw [if_pos c, c]; simp
    · rw [if_neg c, PK.w1 hlt (by omega), ih k (i + 1) (by omega) (by omega)]
      have : (x == bg[i]) = false := by simp; exact fun h => c h.symm
      rw [this, Bool.false_or]
theorem skAll_l0 (h : Ok l) {bg : List Int} (hv : Vld l bg) (x2 : Int) (x9 : List Int) (x11 : Int) : ∀ (d k i : Nat) (x10 : Int), i + d = bg.length → d < k → ∃ x10', spec_skAll.l0 k l bg x2 x9 x10 x11 bg (bg.length : Int) (i : Int) = spec_skAll.l1 (k - d - 1) l bg x2 x9 x10' x11 l (l.length : Int) 0 := by
  have hb := vld_len hv
  have h7 := h.n7
  intro d
  induction d with
  | zero =>
    intro k i x10 hi hk
    obtain ⟨k, rfl⟩ : ∃ q, k = q + 1 := ⟨k - 1, by omega⟩
    refine ⟨x10, ?_⟩
    simp only [spec_skAll.l0]
    rw [if_neg (by omega)]
    rfl
  | succ d ih =>
    intro k i x10 hi hk
    obtain ⟨k, rfl⟩ : ∃ q, k = q + 1 := ⟨k - 1, by omega⟩
    have hlt : i < bg.length := by omega
    have hr := hv.rg bg[i] (List.getElem_mem hlt)
    obtain ⟨x10', hx⟩ := ih k (i + 1) (wrap64 (x10 + ((rd_T98 l bg[i]).f0))) (by omega) (by omega)
    refine ⟨x10', ?_⟩
    simp only [spec_skAll.l0]
    rw [if_pos (by omega), if_pos (by omega), if_pos (by omega), PK.rd_at hlt, if_pos hr.1, if_pos hr.2, PK.w1 hlt (by omega), hx]
    congr 1; omega
theorem l1Least_eq (a b : Int) : spec_l1Least.f a b = some (if a < b then a else b) := by unfold spec_l1Least.f; split <;> rfl
theorem l1Most_some (a b : Int) : ∃ r, spec_l1Most.f a b = some r := by unfold spec_l1Most.f; split <;> exact ⟨_, rfl⟩
theorem skAll_eq (h : Ok l) : ∀ (e k : Nat) (bg : List Int), 40 * e ≤ k → Vld l bg → bg.length + e = l.length + 1 → ∃ hv ct, spec_skAll.f k l bg (room l bg.reverse) = some (bst l e bg, hv, ct)
  | 0, k, bg, _, hv, hl => by have := vld_len hv; omega
  | e + 1, k, bg, hk, hv, hl => by
    have h7 := h.n7
    have hb := vld_len hv
    have inner : ∀ (m k i : Nat) (b : List Int) (x10 x11 : Int), i + m = l.length → 40 * e + 2 * m + 12 ≤ k →
        ∃ hv ct, spec_skAll.l1 k l bg (room l bg.reverse) b x10 x11 l (l.length : Int) (i : Int) = some (bgo l (bst l e) bg m i b, hv, ct) := by
      intro m
      induction m with
      | zero =>
        intro k i b x10 x11 hi hk
        obtain ⟨k, rfl⟩ : ∃ q, k = q + 1 := ⟨k - 1, by omega⟩
        refine ⟨x10, x11, ?_⟩
        simp only [spec_skAll.l1]
        rw [if_neg (by omega)]
        rfl
      | succ m ih =>
        intro k i b x10 x11 hi hk
        obtain ⟨k, rfl⟩ : ∃ q, k = q + 1 := ⟨k - 1, by omega⟩
        obtain ⟨k, rfl⟩ : ∃ q, k = q + 1 := ⟨k - 1, by omega⟩
        have hlt : i < l.length := by omega
        have hhas : spec_l1Has.f (k + 1) bg (i : Int) = some (bg.contains (i : Int)) := by
          unfold spec_l1Has.f
          have := l1Has_eq (i : Int) bg (by omega) bg.length (k + 1) 0 (by omega) (by omega)
          simpa using this
        have hw := h.w (i : Int) (by omega) (by omega)
        have hrm := room_le h bg.reverse (fun x hx => hv.rg x (by simpa using hx))
        simp only [List.length_reverse] at hrm
        simp only [spec_skAll.l1]
        rw [if_pos (by omega), if_pos (by omega), if_pos (by omega), hhas, Option.bind_some]
        simp only [bgo]
        by_cases c : bg.contains (i : Int) = true
        · have hok : okc l bg i = false := by unfold okc; rw [c]; rfl
          rw [if_pos c]
          simp only [spec_skAll.j2]
          rw [if_pos trivial, PK.w1 hlt (by omega), hok]
          simp only [Bool.false_eq_true, if_false]
          exact ih k (i + 1) b x10 x11 (by omega) (by omega)
        · rw [if_neg c]
          by_cases d : (rd_T98 l (i : Int)).f0 > room l bg.reverse
          · have hok : okc l bg i = false := by unfold okc; rw [decide_eq_false (by omega), Bool.and_false]
            rw [decide_eq_true d]
            simp only [spec_skAll.j2]
            rw [if_pos trivial, PK.w1 hlt (by omega), hok]
            simp only [Bool.false_eq_true, if_false]
            exact ih k (i + 1) b x10 x11 (by omega) (by omega)
          · have hok : okc l bg i = true := by unfold okc; rw [decide_eq_true (by omega), Bool.and_true]; simpa using c
            have hroom : room l (bg ++ [(i : Int)]).reverse = if (room l bg.reverse - (rd_T98 l (i : Int)).f0) < (rd_T98 l (i : Int)).f1 then (room l bg.reverse - (rd_T98 l (i : Int)).f0) else (rd_T98 l (i : Int)).f1 := by
              rw [List.reverse_append]; rfl
            obtain ⟨h1, c1, hf⟩ := skAll_eq h e k (bg ++ [(i : Int)]) (by omega) (vld_step h hv hlt hok) (by simp only [List.length_append, List.length_singleton]; omega)
            rw [decide_eq_false d]
            simp only [spec_skAll.j2]
            rw [if_neg (by simp), l1Own_eq bg (by omega), Option.bind_some, Option.bind_some, if_pos (by simp only [List.length_singleton]; omega), PK.wrap_in (by omega) (by omega), l1Least_eq, Option.bind_some, ← hroom, hf, Option.bind_some, hok, if_pos rfl]
            dsimp only
            rw [PK.w1 hlt (by omega)]
            unfold F
            by_cases f : b.length < (bst l e (bg ++ [(i : Int)])).length
            · obtain ⟨q, hq⟩ := l1Most_some x10 h1
              rw [if_pos (by omega), hq, Option.bind_some, if_pos f]
              exact ih k (i + 1) _ q _ (by omega) (by omega)
            · obtain ⟨q, hq⟩ := l1Most_some x10 h1
              rw [if_neg (by omega), hq, Option.bind_some, if_neg f]
              exact ih k (i + 1) _ q _ (by omega) (by omega)
    obtain ⟨k, rfl⟩ : ∃ q, k = q + 1 := ⟨k - 1, by omega⟩
    simp only [spec_skAll.f]
    rw [l1Own_eq bg (by omega), Option.bind_some]
    obtain ⟨x10', hx⟩ := skAll_l0 h hv (room l bg.reverse) bg 1 bg.length k 0 0 (by omega) (by omega)
    obtain ⟨p, q, hpq⟩ := inner l.length (k - bg.length - 1) 0 bg x10' 1 (by omega) (by omega)
    refine ⟨p, q, ?_⟩
    have e0 : ((0 : Nat) : Int) = 0 := rfl
    rw [e0] at hx hpq
    rw [hx, hpq]
    rfl
end

def slabB (x : S98) : Bool := decide (1 ≤ x.f0) && decide (x.f0 ≤ 1000) && (decide (1 ≤ x.f1) && decide (x.f1 ≤ 1000))
theorem l1In_eq (a b c : Int) : spec_l1In.f a b c = some (decide (b ≤ a) && decide (a ≤ c)) := by
  unfold spec_l1In.f
  by_cases h : a ≥ b
  · rw [if_pos h, decide_eq_true h, Bool.true_and]
  · rw [if_neg h, decide_eq_false h, Bool.false_and]
theorem skSlabs_eq (l : List S98) (hl : l.length ≤ 1048576) (k : Nat) (hk : l.length < k) : spec_skSlabs.f k l = some ((decide (1 ≤ l.length) && decide (l.length ≤ 7)) && l.all slabB) := by
  unfold spec_skSlabs.f
  rw [l1In_eq, Option.bind_some]
  have e1 : decide ((1 : Int) ≤ (l.length : Int)) = decide (1 ≤ l.length) := by rw [decide_eq_decide]; omega
  have e2 : decide ((l.length : Int) ≤ 7) = decide (l.length ≤ 7) := by rw [decide_eq_decide]; omega
  rw [e1, e2]
  by_cases c : (decide (1 ≤ l.length) && decide (l.length ≤ 7)) = true
  · rw [if_pos c, c, Bool.true_and]
    have h := PK.all_loop0 l (fun k i => spec_skSlabs.l0 k l (l.length : Int) i) 0 slabB
      (fun k i hi _ => by
        try dsimp only
        simp only [spec_skSlabs.l0]
        have hrd : rd_T98 l (i : Int) = l[i] := PK.rdOf_at hi _
        rw [if_pos (by omega), if_pos (by omega), if_pos (by omega), hrd, l1In_eq, l1In_eq, Option.bind_some, Option.bind_some, PK.w1 hi (by omega)]
        unfold slabB
        by_cases d1 : (decide (1 ≤ l[i].f0) && decide (l[i].f0 ≤ 1000)) = true
        · rw [if_pos d1, d1, Bool.true_and]
        · rw [if_neg d1, Bool.eq_false_iff.2 d1, Bool.false_and, if_neg (by simp)])
      (fun k _ => by
        try dsimp only
        simp only [spec_skSlabs.l0]
        rw [if_neg (by omega)])
      (k := k) (by omega)
    exact h
  · rw [if_neg c, Bool.eq_false_iff.2 c, Bool.false_and]
theorem core (l : List S98) (hl : l.length ≤ 1048576) (k : Nat) (hk : l.length + 400 < k) : ∃ (b : Bool) (R : List Int), R.length ≤ 100 ∧ spec_skSlabs.f k l = some b ∧ (b = true → ∃ p q, spec_skEach.f k l = some (R, p, q)) ∧ (b = false → R = []) ∧ impl_FirstStack.f l = some (R, b) := by
  unfold impl_FirstStack.f impl_AreSlabs.f
  rw [skSlabs_eq l hl k (by omega), Option.bind_some, show impl_AreSlabs.slabB = slabB from funext fun x => by unfold impl_AreSlabs.slabB slabB; simp [Bool.and_assoc]]
  by_cases c : ((decide (1 ≤ l.length) && decide (l.length ≤ 7)) && l.all slabB) = true
  · rw [if_pos c, c]
    simp only [Bool.and_eq_true, decide_eq_true_eq] at c
    obtain ⟨⟨c1, c2⟩, c3⟩ := c
    have ho : Ok l := ⟨c2, fun i h0 h1 => by
      have hi : i.toNat < l.length := by omega
      have hrd : rd_T98 l i = l[i.toNat] := by
        have := PK.rdOf_at (xs := l) hi z98
        rw [Int.toNat_of_nonneg h0] at this; exact this
      have := List.all_eq_true.1 c3 l[i.toNat] (List.getElem_mem hi)
      rw [hrd]
      simp [slabB] at this
      omega⟩
    have hv : Vld l ([] : List Int) := ⟨by simp, by simp, by simp [room]⟩
    obtain ⟨p, q, hs⟩ := skAll_eq ho (l.length + 1) k [] (by omega) hv (by simp)
    have hp : (8 : Nat) ^ (l.length + 1) ≤ 8 ^ 8 := Nat.pow_le_pow_right (by omega) (by omega)
    have h8 : (8 : Nat) ^ 8 = 16777216 := by decide
    obtain ⟨r, hr, _, hf⟩ := nest_eq ho (l.length + 1) 50 [] [] (by omega) hv (by simp) (by simp only [List.length_nil]; omega)
    refine ⟨true, bst l (l.length + 1) [], ?_, rfl, fun _ => ⟨p, q, ?_⟩, (fun h => by cases h), ?_⟩
    · have := bst_len l (l.length + 1) []
      simp only [List.length_nil] at this
      omega
    · unfold spec_skEach.f
      have e0 : room l ([] : List Int).reverse = 7000 := rfl
      rw [e0] at hs
      rw [hs, Option.bind_some]
    · unfold impl_stacks.f
      rw [hr, Option.bind_some]
      have hb : Rows.best r = bst l (l.length + 1) [] := by
        have := hf []
        unfold Rows.best
        show r.foldl F [] = _
        rw [this]
        exact F_nil _
      rw [hb]
  · rw [if_neg c, Bool.eq_false_iff.2 c]
    exact ⟨false, [], by simp, rfl, (fun h => by cases h), fun _ => rfl, rfl⟩

theorem both (l : List S98) (hl : l.length ≤ 1048576) (k : Nat) (hk : l.length + 400 < k) : ∃ r : Int × Bool, spec_MostStacked.f k l = some r ∧ impl_MostStacked.f l = some r := by
  obtain ⟨b, R, h1, h2, h3, h4, h5⟩ := core l hl k hk
  refine ⟨((R.length : Int), b), ?_, ?_⟩
  · unfold spec_MostStacked.f
    rw [h2, Option.bind_some]
    cases b with
    | true =>
      obtain ⟨p, q, h⟩ := h3 rfl
      rw [if_pos rfl, h, Option.bind_some]
    | false => rw [if_neg (by simp), h4 rfl]; rfl
  · unfold impl_MostStacked.f
    rw [h5, Option.bind_some]
theorem FnExactMostStacked : laws_FnExactMostStacked.Pure := by
  intro l hl
  refine ⟨l.length + 1000, ?_⟩
  unfold laws_FnExactMostStacked.f
  rcases szSlabS_cases l hl.1 with ⟨t, h, h1⟩ | ⟨t, h, h1, h2⟩
  · rw [h, Option.bind_some, if_pos h1]
  · rw [h, Option.bind_some, if_neg h1]
    have h2' : (l.map toSl).length ≤ 1048576 := by simpa using h2
    have hp : ∀ j, l.length < j → laws_toSlabS.f j l = some (l.map toSl) := fun j hj => toSlabS_eq l h2 j hj
    have hm : (l.map toSl).length = l.length := by simp
    obtain ⟨r, hs, hi⟩ := both (l.map toSl) h2' (l.length + 1000) (by omega)
    generalize l.map toSl = L at hp hs hi h2' hm
    have hL : ∀ j, l.length < j → laws_eqSlabS.f j L L = some true := fun j hj => eqSlabS_refl _ h2' j (by omega)
    rw [hp _ (by omega), Option.bind_some, hs, Option.bind_some, Option.bind_some, hi, Option.bind_some, if_pos rfl]
    simp only [laws_FnExactMostStacked.j0]
    rw [if_neg (by simp), hp _ (by omega), Option.bind_some, hL _ (by omega), Option.bind_some, if_pos rfl]
end Go.Proofs.Ythlebenfnlllhaa.Pure
