/- SumsReached answers as the reference does: of at most twelve weights all sums that some of them have, ascending, each once; its argument stays as it was, and what it hands back is new memory. Conditions: none. -/
import Derived.Test.YtdikeggkfkkajaaStFnExactSumsReached
import Derived.Test.YtdikeggkfkkajaaPK
namespace Go.Proofs.Ytdikeggkfkkajaa.Pure
open Go.RowKit Go.Proofs.Ytdikeggkfkkajaa.PFnExactSumsReached Go.Proofs.YtdikeggkfkkajaaW.PrintWords Go.Proofs.YtdikeggkfkkajaaW.PrintLast Go.Proofs.YtdikeggkfkkajaaW.PrintMore
set_option linter.unusedVariables false
set_option linter.unusedSimpArgs false

theorem l1In_eq (a b c : Int) : spec_l1In.f a b c = some (decide (b ≤ a) && decide (a ≤ c)) := by
  unfold spec_l1In.f
  by_cases h : b ≤ a
  · rw [if_pos h]; simp [h]
  · rw [if_neg h]; simp [h]
theorem within_eq (a b c : Int) : impl_within.f a b c = some (decide (b ≤ a) && decide (a ≤ c)) := by
  unfold impl_within.f
  by_cases h : b ≤ a
  · rw [if_pos h]; simp [h]
  · rw [if_neg h]; simp [h]

theorem eqIntS_refl (l : List Int) (hl : l.length ≤ 1048576) (k : Nat) (hk : l.length < k) : laws_eqIntS.f k l l = some true := by
  unfold laws_eqIntS.f
  rw [if_pos rfl]
  have h := PK.all_loop0 l (fun k i => laws_eqIntS.l0 k l l i) 0 (fun _ => true)
    (fun k i hi _ => by
      try dsimp only
      simp only [laws_eqIntS.l0]
      rw [if_pos (by omega), if_pos (by omega), if_pos (by omega), PK.w1 hi (by omega)])
    (fun k _ => by
      try dsimp only
      simp only [laws_eqIntS.l0]
      rw [if_neg (by omega)])
    (k := k) (by omega)
  try dsimp only at h
  rw [h]; simp
def mkI (a : Int) : Int := a
theorem markIntS_eq (l : List Int) (hl : l.length ≤ 1048576) (k : Nat) (hk : l.length < k) : laws_markIntS.f k l 1 = some (1 + ((1 : Nat) : Int) * (l.length : Int), (List.range l.length).map fun (i : Nat) => mkI (1 + ((1 : Nat) : Int) * (i : Int))) := by
  unfold laws_markIntS.f
  have h := PK.mark_loop l.length 0 1 (fun k s a i => laws_markIntS.l0 k s a i) mkI 1 4000000 (by omega) (by omega)
    (fun k i s a _ hs hi h0 hB => by
      try dsimp only
      simp only [laws_markIntS.l0]
      have w1 : wrap64 (a + 1) = a + 1 := PK.wrap_in (by omega) (by omega)
      rw [if_pos (by omega), if_pos (by omega), w1, PK.w1 hi (by omega), Int.toNat_natCast]
      rfl)
    (fun k s a _ hs => by
      try dsimp only
      simp only [laws_markIntS.l0]
      rw [if_neg (by omega)])
    (k := k) (by omega) (s := l) rfl
  try dsimp only at h
  rw [h]
theorem heldIntS_eq (l : List Int) (hl : l.length ≤ 1048576) (hx : ∀ i (h : i < l.length), l[i] = mkI (1 + ((1 : Nat) : Int) * (i : Int))) (k : Nat) (hk : l.length < k) : laws_heldIntS.f k l 1 = some (1 + ((1 : Nat) : Int) * (l.length : Int)) := by
  unfold laws_heldIntS.f
  have h := PK.held_loop l 0 1 (fun k a i => laws_heldIntS.l0 k l a i) mkI 1 4000000 (by omega) (by omega) hx
    (fun k i hi a _ h0 hB hm => by
      try dsimp only
      simp only [laws_heldIntS.l0]
      have w1 : wrap64 (a + 1) = a + 1 := PK.wrap_in (by omega) (by omega)
      rw [PK.rd_at hi, hm, w1, PK.w1 hi (by omega)]
      rw [if_pos (by omega), if_pos (by omega), if_pos (show mkI a = a from rfl)]
      rfl)
    (fun k a _ => by
      try dsimp only
      simp only [laws_heldIntS.l0]
      rw [if_neg (by omega)])
    (k := k) (by omega)
  try dsimp only at h
  rw [h]
theorem heldInt_marked (n : Nat) (hn : n ≤ 1048576) (k : Nat) (hk : n < k) : laws_heldIntS.f k ((List.range n).map fun (i : Nat) => mkI (1 + ((1 : Nat) : Int) * (i : Int))) 1 = some (1 + ((1 : Nat) : Int) * (n : Int)) := by
  have h := heldIntS_eq ((List.range n).map fun (i : Nat) => mkI (1 + ((1 : Nat) : Int) * (i : Int))) (by simpa using hn) (fun i h => PK.marked_at h) k (by simpa using hk)
  simpa using h

theorem toIntS_eq (l : List Int) (hl : l.length ≤ 1048576) (k : Nat) (hk : l.length < k) : laws_toIntS.f k l = some l := by
  unfold laws_toIntS.f
  rw [if_pos (by omega), if_pos (by omega), Int.toNat_natCast]
  have h := PK.fill_loop (ρ := List Int) l.length 0 (fun k s i => laws_toIntS.l0 k l s i) (fun i => l.getD i 0) (fun s => some s)
    (fun k i s _ hs hi => by
      try dsimp only
      simp only [laws_toIntS.l0]
      rw [if_pos (by omega), if_pos (by omega), if_pos (by omega), PK.w1 hi (by omega), Int.toNat_natCast]
      rfl)
    (fun k s _ hs => by
      try dsimp only
      simp only [laws_toIntS.l0]
      rw [if_neg (by omega)])
    (k := k) (by omega) (s := List.replicate l.length 0) (by simp)
  try dsimp only at h
  rw [h]
  have := PK.map_range l 0 (fun x => x)
  simpa using this

theorem l1All_eq (l : List Int) (hl : l.length ≤ 4611686018427387904) (a b : Int) (k : Nat) (hk : l.length < k) : spec_l1All.f k l a b = some (l.all fun n => decide (a ≤ n) && decide (n ≤ b)) := by
  unfold spec_l1All.f
  exact PK.all_loop0 l (fun k i => spec_l1All.l0 k a b l (l.length : Int) i) 0 (fun n => decide (a ≤ n) && decide (n ≤ b))
    (fun k i hi _ => by
      try dsimp only
      simp only [spec_l1All.l0]
      rw [if_pos (by omega), if_pos (by omega), if_pos (by omega), PK.rd_at hi, l1In_eq, Option.bind_some, PK.w1 hi hl])
    (fun k _ => by
      try dsimp only
      simp only [spec_l1All.l0]
      rw [if_neg (by omega)])
    (by omega)

abbrev step := impl_SumsReached.step
abbrev sums := impl_SumsReached.sums
def gd (T : List Bool) (j : Nat) : Bool := T.getD j false
def upd (T : List Bool) (x : Nat) : List Bool := (List.range T.length).map fun j => gd T j || (decide (x ≤ j) && gd T (j - x))
theorem upd_len (T : List Bool) (x : Nat) : (upd T x).length = T.length := by unfold upd; simp
theorem upd_at (T : List Bool) (x j : Nat) (h : j < T.length) : gd (upd T x) j = (gd T j || (decide (x ≤ j) && gd T (j - x))) := by
  unfold upd
  rw [gd, List.getD_eq_getElem?_getD, List.getElem?_map, List.getElem?_range h]
  rfl
theorem gd_set (T : List Bool) (s : Nat) (v : Bool) (j : Nat) (h : s < T.length) : gd (T.set s v) j = if j = s then v else gd T j := by
  unfold gd
  rw [List.getD_eq_getElem?_getD, List.getD_eq_getElem?_getD]
  by_cases e : j = s
  · subst e; rw [if_pos rfl, List.getElem?_set_self h]; rfl
  · rw [if_neg e, List.getElem?_set_ne (Ne.symm e)]
theorem gd_ext {T U : List Bool} (hl : T.length = U.length) (h : ∀ j, j < T.length → gd T j = gd U j) : T = U := by
  apply List.ext_getElem hl
  intro j h1 h2
  have := h j h1
  unfold gd at this
  rw [List.getD_eq_getElem?_getD, List.getD_eq_getElem?_getD, List.getElem?_eq_getElem h1, List.getElem?_eq_getElem h2] at this
  exact this
theorem l1_run (T : List Bool) (hT : T.length ≤ 100000) (x : Nat) (hx : 1 ≤ x) (l : List Int) (n i : Int) (R : List Int × Bool) (M : Nat) : ∀ (d k : Nat) (cur : List Bool), x + d ≤ T.length → cur.length = T.length →
    (∀ j, j < T.length → gd cur j = if x + d ≤ j then gd (upd T x) j else gd T j) → d + M < k → (∀ K, M ≤ K → spec_SumsReached.l0 K (upd T x) l n (wrap64 (i + 1)) = some R) → spec_SumsReached.l1 k cur (x : Int) (((x + d : Nat) : Int) - 1) l n i = some R := by
  intro d
  induction d with
  | zero =>
    intro k cur hd hl hc hk hR
    obtain ⟨k, rfl⟩ : ∃ q, k = q + 1 := ⟨k - 1, by omega⟩
    have e : cur = upd T x := gd_ext (by rw [hl, upd_len]) (fun j hj => by
      rw [hc j (by omega)]
      by_cases c : x + 0 ≤ j
      · rw [if_pos c]
      · rw [if_neg c, upd_at T x j (by omega), decide_eq_false (by omega), Bool.false_and, Bool.or_false])
    subst e
    simp only [spec_SumsReached.l1]
    rw [if_neg (by omega)]
    exact hR k (by omega)
  | succ d ih =>
    intro k cur hd hl hc hk hR
    obtain ⟨k, rfl⟩ : ∃ q, k = q + 1 := ⟨k - 1, by omega⟩
    have es : (((x + (d + 1) : Nat) : Int) - 1) = ((x + d : Nat) : Int) := by omega
    have hw1 : wrap64 (((x + d : Nat) : Int) - 1) = ((x + d : Nat) : Int) - 1 := PK.wrap_in (by omega) (by omega)
    have hw2 : wrap64 (((x + d : Nat) : Int) - (x : Int)) = ((d : Nat) : Int) := by rw [PK.wrap_in (by omega) (by omega)]; omega
    have hcs : gd cur (x + d) = gd T (x + d) := by rw [hc _ (by omega), if_neg (by omega)]
    have hr1 : rdOf false cur ((x + d : Nat) : Int) = gd T (x + d) := by rw [← hcs]; rfl
    have hr2 : rdOf false cur ((d : Nat) : Int) = gd T d := by
      have : gd cur d = gd T d := by rw [hc _ (by omega), if_neg (by omega)]
      rw [← this]; rfl
    have hup := upd_at T x (x + d) (by omega)
    rw [decide_eq_true (by omega), Bool.true_and, Nat.add_sub_cancel_left] at hup
    have go : ∀ v, v = gd (upd T x) (x + d) → spec_SumsReached.l1 k (cur.set (x + d) v) (x : Int) (((x + d : Nat) : Int) - 1) l n i = some R := fun v hv => by
      refine ih k (cur.set (x + d) v) (by omega) (by rw [List.length_set]; exact hl) (fun j hj => ?_) (by omega) hR
      rw [gd_set _ _ _ _ (by omega)]
      by_cases e : j = x + d
      · subst e; rw [if_pos rfl, if_pos (Nat.le_refl _), hv]
      · rw [if_neg e, hc j hj]
        by_cases c : x + d ≤ j
        · rw [if_pos c, if_pos (by omega)]
        · rw [if_neg c, if_neg (by omega)]
    rw [es]
    simp only [spec_SumsReached.l1]
    rw [if_pos (by omega), if_pos (by omega), if_pos (by omega), hr1, hw1, hw2, hr2, Int.toNat_natCast]
    cases hb : gd T (x + d) with
    | true =>
      rw [if_pos rfl]
      exact go true (by rw [hup, hb, Bool.true_or])
    | false =>
      rw [if_neg (by simp), if_pos (by omega), if_pos (by omega)]
      exact go _ (by rw [hup, hb, Bool.false_or])
def outOf (T : List Bool) (i d : Nat) : List Int := ((List.range' i d).filter fun j => gd T j).map fun (j : Nat) => (j : Int)
theorem l2_run (T : List Bool) (hT : T.length ≤ 100000) : ∀ (d k i : Nat) (acc : List Int), i + d = T.length → acc.length ≤ i → d < k → spec_SumsReached.l2 k acc T (T.length : Int) (i : Int) = some (acc ++ outOf T i d, true) := by
  intro d
  induction d with
  | zero =>
    intro k i acc hi ha hk
    obtain ⟨k, rfl⟩ : ∃ q, k = q + 1 := ⟨k - 1, by omega⟩
    simp only [spec_SumsReached.l2]
    rw [if_neg (by omega)]
    simp [outOf]
  | succ d ih =>
    intro k i acc hi ha hk
    obtain ⟨k, rfl⟩ : ∃ q, k = q + 1 := ⟨k - 1, by omega⟩
    have hr : rdOf false T (i : Int) = gd T i := rfl
    have ho : outOf T i (d + 1) = (if gd T i = true then [(i : Int)] else []) ++ outOf T (i + 1) d := by
      unfold outOf
      rw [List.range'_succ, List.filter_cons]
      split <;> rfl
    simp only [spec_SumsReached.l2]
    rw [if_pos (by omega), if_pos (by omega), if_pos (by omega), hr, PK.w1 (show i < T.length by omega) (by omega), ho]
    cases hb : gd T i with
    | true =>
      rw [if_pos rfl, if_pos (by omega), if_pos rfl, ih k (i + 1) _ (by omega) (by rw [List.length_append]; simp; omega) (by omega), List.append_assoc]
    | false =>
      rw [if_neg (by simp), if_neg (by simp), ih k (i + 1) _ (by omega) (by omega) (by omega), List.nil_append]
theorem l0_run (l : List Int) (hl : l.length ≤ 1000) (S : Nat) (hS : S ≤ 50000) (hx : ∀ x ∈ l, 1 ≤ x ∧ x ≤ (S : Int)) : ∀ (d k i : Nat) (T : List Bool), i + d = l.length → T.length = S + 1 → (d + 1) * (S + 5) ≤ k →
    spec_SumsReached.l0 k T l (l.length : Int) (i : Int) = some (outOf ((l.drop i).foldl (fun T x => upd T x.toNat) T) 0 (S + 1), true) := by
  intro d
  induction d with
  | zero =>
    intro k i T hi hT hk
    rw [Nat.zero_add, Nat.one_mul] at hk
    obtain ⟨k, rfl⟩ : ∃ q, k = q + 1 := ⟨k - 1, by omega⟩
    have e : l.drop i = [] := List.drop_eq_nil_of_le (by omega)
    rw [e]
    simp only [spec_SumsReached.l0]
    rw [if_neg (by omega)]
    have := l2_run T (by omega) (S + 1) k 0 [] (by omega) (by simp) (by omega)
    exact this
  | succ d ih =>
    intro k i T hi hT hk
    rw [Nat.succ_mul] at hk
    have hB : S + 5 ≤ (d + 1) * (S + 5) := by rw [Nat.succ_mul]; omega
    obtain ⟨k, rfl⟩ : ∃ q, k = q + 1 := ⟨k - 1, by omega⟩
    have hlt : i < l.length := by omega
    obtain ⟨hx1, hx2⟩ := hx l[i] (List.getElem_mem hlt)
    obtain ⟨x, hxe⟩ : ∃ x : Nat, l[i] = (x : Int) := ⟨l[i].toNat, by omega⟩
    have hrd : rd l (i : Int) = (x : Int) := by rw [PK.rd_at hlt, hxe]
    have hw : wrap64 ((T.length : Int) - 1) = ((x + (S + 1 - x) : Nat) : Int) - 1 := by rw [PK.wrap_in (by omega) (by omega)]; omega
    rw [List.drop_eq_getElem_cons hlt, List.foldl_cons, hxe, Int.toNat_natCast]
    simp only [spec_SumsReached.l0]
    rw [if_pos (by omega), if_pos (by omega), if_pos (by omega), hrd, hw]
    refine l1_run T (by omega) x (by omega) l _ _ _ ((d + 1) * (S + 5)) (S + 1 - x) k T (by omega) rfl (fun j hj => by rw [if_neg (by omega)]) (by omega) (fun K hK => ?_)
    rw [PK.w1 hlt (by omega)]
    exact ih K (i + 1) (upd T x) (by omega) (by rw [upd_len]; exact hT) hK
structure Rep (T : List Bool) (L : List Int) (n : Nat) (a : Int) : Prop where
  len : T.length = n
  mem : ∀ j, j < n → (gd T j = true ↔ (j : Int) ∈ L)
  bnd : ∀ y ∈ L, 0 ≤ y ∧ y ≤ a
  asc : L.Pairwise (· < ·)
theorem rep_step {T : List Bool} {L : List Int} {n : Nat} {a x : Int} (h : Rep T L n a) (hx : 1 ≤ x) (ha : 0 ≤ a) (hn : a + x < n) (hn2 : n ≤ 100000) : Rep (upd T x.toNat) (step L x) n (a + x) := by
  obtain ⟨h1, h2, h3, h4⟩ := h
  have ht := Sorted.tidy (L ++ L.map fun m => wrap64 (m + x))
  have hw : ∀ m ∈ L, wrap64 (m + x) = m + x := fun m hm => by
    have := h3 m hm
    exact PK.wrap_in (by omega) (by omega)
  have hm : ∀ y, y ∈ step L x ↔ y ∈ L ∨ ∃ m ∈ L, y = m + x := fun y => by
    show y ∈ Lib.compact _ ↔ _
    rw [ht.2 y, List.mem_append, List.mem_map]
    constructor
    · rintro (h | ⟨m, hm, rfl⟩)
      · exact .inl h
      · exact .inr ⟨m, hm, hw m hm⟩
    · rintro (h | ⟨m, hm, rfl⟩)
      · exact .inl h
      · exact .inr ⟨m, hm, hw m hm⟩
  refine ⟨by rw [upd_len]; exact h1, fun j hj => ?_, fun y hy => ?_, ht.1⟩
  · rw [upd_at T _ j (by omega), hm, Bool.or_eq_true, Bool.and_eq_true, decide_eq_true_eq, h2 j hj]
    constructor
    · rintro (h | ⟨c, h⟩)
      · exact .inl h
      · exact .inr ⟨_, (h2 (j - x.toNat) (by omega)).1 h, by omega⟩
    · rintro (h | ⟨m, hm, e⟩)
      · exact .inl h
      · have := h3 m hm
        refine .inr ⟨by omega, (h2 (j - x.toNat) (by omega)).2 ?_⟩
        rw [show ((j - x.toNat : Nat) : Int) = m by omega]
        exact hm
  · rcases (hm y).1 hy with h | ⟨m, h, rfl⟩
    · have := h3 y h; omega
    · have := h3 m h; omega
theorem rep_fold {n : Nat} (hn2 : n ≤ 100000) : ∀ (xs : List Int) (T : List Bool) (L : List Int) (a : Int), Rep T L n a → 0 ≤ a → (∀ x ∈ xs, 1 ≤ x) → a + xs.sum < n → Rep (xs.foldl (fun T x => upd T x.toNat) T) (xs.foldl step L) n (a + xs.sum)
  | [], T, L, a, h, _, _, _ => by simpa using h
  | x :: xs, T, L, a, h, ha, hx, hs => by
    have h1 := hx x (by simp)
    have h0 : 0 ≤ xs.sum := by
      have : ∀ (l : List Int), (∀ x ∈ l, 1 ≤ x) → 0 ≤ l.sum := by
        intro l
        induction l with
        | nil => intro _; simp
        | cons y l ih => intro hl; rw [List.sum_cons]; have := ih (fun z hz => hl z (by simp [hz])); have := hl y (by simp); omega
      exact this xs (fun y hy => hx y (by simp [hy]))
    rw [List.sum_cons] at hs ⊢
    have := rep_fold hn2 xs (upd T x.toNat) (step L x) (a + x) (rep_step h h1 ha (by omega) hn2) (by omega) (fun y hy => hx y (by simp [hy])) (by omega)
    rw [List.foldl_cons, List.foldl_cons, ← Int.add_assoc]
    exact this
theorem sum_in : ∀ (l : List Int), (∀ x ∈ l, 1 ≤ x ∧ x ≤ 1000) → (l.length : Int) ≤ l.sum ∧ l.sum ≤ 1000 * (l.length : Int) ∧ ∀ x ∈ l, x ≤ l.sum
  | [], _ => by simp
  | y :: l, h => by
    obtain ⟨h1, h2, h3⟩ := sum_in l (fun x hx => h x (by simp [hx]))
    have hy := h y (by simp)
    rw [List.sum_cons, List.length_cons]
    refine ⟨by omega, by omega, fun x hx => ?_⟩
    rcases List.mem_cons.1 hx with rfl | hx
    · omega
    · have := h3 x hx; omega
theorem skSum_eq {l : List Int} (hl : l.length ≤ 12) (h : ∀ x ∈ l, 1 ≤ x ∧ x ≤ 1000) (k : Nat) (hk : 12 < k) : spec_skSum.f k l = some l.sum := by
  have key : ∀ (d i k : Nat) (s : Int), i + d = l.length → d < k → s = (l.take i).sum → spec_skSum.l0 k s l (l.length : Int) (i : Int) = some l.sum := by
    intro d
    induction d with
    | zero =>
      intro i k s hi hk hs
      obtain ⟨k, rfl⟩ : ∃ q, k = q + 1 := ⟨k - 1, by omega⟩
      obtain rfl : i = l.length := by omega
      simp only [spec_skSum.l0]
      rw [if_neg (by omega), hs, List.take_length]
    | succ d ih =>
      intro i k s hi hk hs
      obtain ⟨k, rfl⟩ : ∃ q, k = q + 1 := ⟨k - 1, by omega⟩
      have hlt : i < l.length := by omega
      have ht : l.take (i + 1) = l.take i ++ [l[i]] := by rw [List.take_add_one, List.getElem?_eq_getElem hlt]; rfl
      have hs2 : (l.take (i + 1)).sum = s + l[i] := by rw [ht, List.sum_append, hs]; simp
      have hb2 := (sum_in (l.take (i + 1)) (fun x hx => h x (List.mem_of_mem_take hx))).2.1
      have hb3 := (sum_in (l.take (i + 1)) (fun x hx => h x (List.mem_of_mem_take hx))).1
      rw [List.length_take] at hb2 hb3
      have hrd : rd l (i : Int) = l[i] := PK.rd_at hlt
      simp only [spec_skSum.l0]
      rw [if_pos (by omega), if_pos (by omega), if_pos (by omega), hrd, PK.w1 hlt (by omega), PK.wrap_in (by omega) (by omega)]
      exact ih (i + 1) k _ (by omega) (by omega) hs2.symm
  unfold spec_skSum.f
  have := key l.length 0 k 0 (by omega) (by omega) (by simp)
  exact this
def wB (l : List Int) : Bool := (decide (1 ≤ l.length) && decide (l.length ≤ 12)) && l.all fun n => decide (1 ≤ n) && decide (n ≤ 1000)
theorem wB_iff {l : List Int} : wB l = true ↔ (1 ≤ l.length ∧ l.length ≤ 12) ∧ ∀ x ∈ l, 1 ≤ x ∧ x ≤ 1000 := by
  unfold wB
  simp only [Bool.and_eq_true, decide_eq_true_eq, List.all_eq_true]
theorem len_tests (l : List Int) : (decide ((1 : Int) ≤ (l.length : Int)) && decide ((l.length : Int) ≤ 12)) = (decide (1 ≤ l.length) && decide (l.length ≤ 12)) := by
  rw [Bool.eq_iff_iff]; simp; omega
theorem skGood_eq (l : List Int) (hl : l.length ≤ 1048576) (k : Nat) (hk : l.length < k) : spec_skGood.f k l = some (wB l) := by
  unfold spec_skGood.f wB
  rw [l1In_eq, Option.bind_some, len_tests]
  cases hc : (decide (1 ≤ l.length) && decide (l.length ≤ 12)) with
  | false => rfl
  | true => rw [if_pos rfl, l1All_eq l (by omega) 1 1000 k hk]; rfl
theorem aw_eq (l : List Int) : impl_AreWeights.f l = some (wB l) := by
  unfold impl_AreWeights.f impl_areWithin.f wB
  rw [within_eq, Option.bind_some, len_tests]
  cases hc : (decide (1 ≤ l.length) && decide (l.length ≤ 12)) <;> rfl
def reachR (l : List Int) : List Int × Bool := if wB l = true then (sums l, true) else ([], false)
theorem sums_eq {l : List Int} (hl : l.length ≤ 12) (h : ∀ x ∈ l, 1 ≤ x ∧ x ≤ 1000) (S : Nat) (hS : (S : Int) = l.sum) :
    outOf (l.foldl (fun T x => upd T x.toNat) ((List.replicate (S + 1) false).set 0 true)) 0 (S + 1) = sums l ∧ (sums l).length ≤ 12001 := by
  obtain ⟨h1, h2, h3⟩ := sum_in l h
  have r0 : Rep ((List.replicate (S + 1) false).set 0 true) [0] (S + 1) 0 := by
    refine ⟨by simp, fun j hj => ?_, fun y hy => ?_, by simp⟩
    · rw [gd_set _ _ _ _ (by simp), List.mem_singleton]
      by_cases e : j = 0
      · subst e; simp
      · rw [if_neg e]
        unfold gd
        rw [List.getD_eq_getElem?_getD, List.getElem?_replicate]
        simp [hj]
        omega
    · rw [List.mem_singleton] at hy; omega
  have r := rep_fold (n := S + 1) (by omega) l _ _ 0 r0 (by omega) (fun x hx => (h x hx).1) (by omega)
  obtain ⟨r1, r2, r3, r4⟩ := r
  refine ⟨Sorted.asc_eq ?_ r4 (fun x => ?_), ?_⟩
  · unfold outOf
    refine List.Pairwise.map _ (fun a b hab => ?_) (List.Pairwise.filter _ (List.pairwise_lt_range' ..))
    omega
  · unfold outOf
    rw [List.mem_map]
    constructor
    · rintro ⟨j, hj, rfl⟩
      rw [List.mem_filter, List.mem_range'_1] at hj
      exact (r2 j (by omega)).1 hj.2
    · intro hx
      have hb := r3 x hx
      refine ⟨x.toNat, List.mem_filter.2 ⟨List.mem_range'_1.2 ⟨by omega, by omega⟩, (r2 x.toNat (by omega)).2 ?_⟩, by omega⟩
      rw [show ((x.toNat : Nat) : Int) = x by omega]
      exact hx
  · exact Sorted.asc_len _ 0 12001 r4 (fun x hx => by have := r3 x hx; omega)
theorem FnExactSumsReached : laws_FnExactSumsReached.Pure2 := by
  intro l _
  refine ⟨l.length + 400000, ?_⟩
  unfold laws_FnExactSumsReached.f
  by_cases hL : (l.length : Int) > 1048576
  · rw [if_pos hL]
  rw [if_neg hL]
  have hn : l.length ≤ 1048576 := by omega
  have hp : ∀ j, l.length < j → laws_toIntS.f j l = some l := fun j hj => toIntS_eq l hn j hj
  have hs : ∀ j, l.length + 300000 < j → spec_SumsReached.f j l = some (reachR l) := fun j hj => by
    unfold spec_SumsReached.f reachR
    rw [skGood_eq l hn _ (by omega), Option.bind_some]
    by_cases hB : wB l = true
    · obtain ⟨h12, hx⟩ := wB_iff.1 hB
      obtain ⟨s1, s2, s3⟩ := sum_in l hx
      obtain ⟨S, hS⟩ : ∃ S : Nat, (S : Int) = l.sum := ⟨l.sum.toNat, by omega⟩
      have hw : wrap64 (l.sum + 1) = ((S + 1 : Nat) : Int) := by rw [PK.wrap_in (by omega) (by omega)]; omega
      have hrun := l0_run l (by omega) S (by omega) (fun x hx2 => ⟨(hx x hx2).1, by rw [hS]; exact s3 x hx2⟩) l.length j 0 ((List.replicate (S + 1) false).set 0 true) (by omega) (by simp) (by
        have : (l.length + 1) * (S + 5) ≤ 13 * (S + 5) := Nat.mul_le_mul_right _ (by omega)
        omega)
      rw [List.drop_zero, (sums_eq h12.2 hx S hS).1] at hrun
      rw [if_pos hB, if_pos hB, skSum_eq h12.2 hx _ (by omega), Option.bind_some, hw, if_pos (by omega), Int.toNat_natCast, if_pos (by omega), Option.bind_some, if_pos (by simp)]
      exact hrun
    · rw [if_neg hB, if_neg hB]
  have hi : impl_SumsReached.f l = some (reachR l) := by
    unfold impl_SumsReached.f reachR
    rw [aw_eq, Option.bind_some]
    by_cases hB : wB l = true
    · rw [if_pos hB, if_pos hB, if_pos (wB_iff.1 hB).1.2]
    · rw [if_neg hB, if_neg hB]
  have hr : (reachR l).1.length ≤ 12001 := by
    unfold reachR
    by_cases hB : wB l = true
    · obtain ⟨h12, hx⟩ := wB_iff.1 hB
      obtain ⟨s1, s2, s3⟩ := sum_in l hx
      rw [if_pos hB]
      exact (sums_eq h12.2 hx l.sum.toNat (by omega)).2
    · rw [if_neg hB]; simp
  generalize reachR l = r at hs hi hr
  have he : ∀ j, 13000 < j → laws_eqIntS.f j r.1 r.1 = some true := fun j hj => eqIntS_refl _ (by omega) j (by omega)
  have hL2 : ∀ j, l.length < j → laws_eqIntS.f j l l = some true := fun j hj => eqIntS_refl _ hn j (by omega)
  have hk1 := markIntS_eq l hn
  have hk2 := markIntS_eq r.1 (by omega)
  have hh := heldInt_marked r.1.length (by omega)
  rw [hp _ (by omega), Option.bind_some, hs _ (by omega), Option.bind_some, Option.bind_some, hi, Option.bind_some, he _ (by omega), Option.bind_some, if_pos rfl]
  simp only [laws_FnExactSumsReached.j0]
  rw [if_neg (by simp), hp _ (by omega), Option.bind_some, hL2 _ (by omega), Option.bind_some, if_pos rfl, hk1 _ (by omega), Option.bind_some, if_neg (by omega), he _ (by omega), Option.bind_some, if_pos rfl]
  simp only [laws_FnExactSumsReached.j1]
  rw [if_neg (by simp), hk2 _ (by omega), Option.bind_some, hh _ (by omega), Option.bind_some, if_neg (by omega), if_pos rfl]
  rw [hp _ (by omega), Option.bind_some, hi, Option.bind_some, he _ (by omega), Option.bind_some, if_pos rfl]
  simp only [laws_FnExactSumsReached.j2]
  rw [if_neg (by simp), hh _ (by omega), Option.bind_some, if_neg (by omega), if_pos rfl]
end Go.Proofs.Ytdikeggkfkkajaa.Pure
