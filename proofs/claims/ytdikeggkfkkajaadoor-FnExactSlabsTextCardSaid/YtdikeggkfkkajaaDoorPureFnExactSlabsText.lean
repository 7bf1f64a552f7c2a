/- SlabsText answers as the reference does: of slabs their text, else nothing; its argument stays as it was. Conditions: none. -/
import Derived.Test.YtdikeggkfkkajaaDoorStFnExactSlabsText
import Derived.Test.YtdikeggkfkkajaaDoorPK
namespace Go.Proofs.YtdikeggkfkkajaaDoor.Pure
open Go.RowKit Go.Proofs.YtdikeggkfkkajaaDoor.PFnExactSlabsText Go.Proofs.YtdikeggkfkkajaaDoorW.PrintWords Go.Proofs.YtdikeggkfkkajaaDoorW.PrintLast Go.Proofs.YtdikeggkfkkajaaDoorW.PrintMore
set_option linter.unusedVariables false
set_option linter.unusedSimpArgs false

def slabB (x : S78) : Bool := decide (1 ≤ x.f0) && decide (x.f0 ≤ 1000) && (decide (1 ≤ x.f1) && decide (x.f1 ≤ 1000))
theorem l1In_eq (a b c : Int) : spec_l1In.f a b c = some (decide (b ≤ a) && decide (a ≤ c)) := by
  unfold spec_l1In.f
  by_cases h : a ≥ b
  · rw [if_pos h, decide_eq_true h, Bool.true_and]
  · rw [if_neg h, decide_eq_false h, Bool.false_and]
theorem skSlabs_eq (l : List S78) (hl : l.length ≤ 1048576) (k : Nat) (hk : l.length < k) : spec_skSlabs.f k l = some ((decide (1 ≤ l.length) && decide (l.length ≤ 7)) && l.all slabB) := by
  unfold spec_skSlabs.f
  rw [l1In_eq, Option.bind_some]
  have e1 : decide ((1 : Int) ≤ (l.length : Int)) = decide (1 ≤ l.length) := by rw [decide_eq_decide]; omega
  have e2 : decide ((l.length : Int) ≤ 7) = decide (l.length ≤ 7) := by rw [decide_eq_decide]; omega
  rw [e1, e2]
  by_cases c : (decide (1 ≤ l.length) && decide (l.length ≤ 7)) = true
  · rw [if_pos c, c, Bool.true_and]
    have h := PK.all_loop0 l (fun k i => spec_skSlabs.l0 k l (l.length : Int) i) 0 slabB
      (fun k i hi _ => by
        try dsimp only
        simp only [spec_skSlabs.l0]
        have hrd : rd_T78 l (i : Int) = l[i] := PK.rdOf_at hi _
        rw [if_pos (by omega), if_pos (by omega), if_pos (by omega), hrd, l1In_eq, l1In_eq, Option.bind_some, Option.bind_some, PK.w1 hi (by omega)]
        unfold slabB
        by_cases d1 : (decide (1 ≤ l[i].f0) && decide (l[i].f0 ≤ 1000)) = true
        · rw [if_pos d1, d1, Bool.true_and]
        · rw [if_neg d1, Bool.eq_false_iff.2 d1, Bool.false_and, if_neg (by simp)])
      (fun k _ => by
        try dsimp only
        simp only [spec_skSlabs.l0]
        rw [if_neg (by omega)])
      (k := k) (by omega)
    exact h
  · rw [if_neg c, Bool.eq_false_iff.2 c, Bool.false_and]

def toSl (x : S80) : S78 := ⟨x.f0, x.f1⟩
theorem szSlabS_cases (l : List S80) (hl : l.length ≤ maxLen) : (∃ t, laws_szSlabS.f l 1048576 = some t ∧ t < 0) ∨ (∃ t, laws_szSlabS.f l 1048576 = some t ∧ ¬ t < 0 ∧ l.length ≤ 1048576) := by
  unfold maxLen at hl
  have hw : wrap64 (1048576 - (l.length : Int)) = 1048576 - (l.length : Int) := PK.wrap_in (by omega) (by omega)
  unfold laws_szSlabS.f
  rw [hw]
  by_cases h : (1048576 - (l.length : Int)) < 0
  · exact .inl ⟨-1, by rw [if_pos h], by omega⟩
  · exact .inr ⟨1048576 - (l.length : Int), by rw [if_neg h], h, by omega⟩
theorem toSlabS_eq (l : List S80) (hl : l.length ≤ 1048576) (k : Nat) (hk : l.length < k) : laws_toSlabS.f k l = some (l.map toSl) := by
  unfold laws_toSlabS.f
  rw [if_pos (by omega), if_pos (by omega), Int.toNat_natCast]
  have h := PK.fill_loop (ρ := List S78) l.length 0 (fun k s i => laws_toSlabS.l0 k l s i) (fun i => toSl (l.getD i z80)) (fun s => some s)
    (fun k i s _ hs hi => by
      try dsimp only
      simp only [laws_toSlabS.l0]
      rw [if_pos (by omega), if_pos (by omega)]
      unfold laws_toSlab.f
      rw [Option.bind_some, if_pos (by omega), PK.w1 hi (by omega), Int.toNat_natCast]
      congr 1)
    (fun k s _ hs => by
      try dsimp only
      simp only [laws_toSlabS.l0]
      rw [if_neg (by omega)])
    (k := k) (by omega) (s := List.replicate l.length z78) (by simp)
  try dsimp only at h
  rw [h, PK.map_range]
theorem eqSlabS_refl (l : List S78) (hl : l.length ≤ 1048576) (k : Nat) (hk : l.length < k) : laws_eqSlabS.f k l l = some true := by
  unfold laws_eqSlabS.f
  rw [if_pos rfl]
  have h := PK.all_loop0 l (fun k i => laws_eqSlabS.l0 k l l i) 0 (fun _ => true)
    (fun k i hi _ => by
      try dsimp only
      simp only [laws_eqSlabS.l0]
      rw [if_pos (by omega), if_pos (by omega), if_pos (by omega)]
      unfold laws_eqSlab.f
      rw [if_pos rfl, if_pos rfl, Option.bind_some, if_pos rfl, if_pos trivial, PK.w1 hi (by omega)])
    (fun k _ => by
      try dsimp only
      simp only [laws_eqSlabS.l0]
      rw [if_neg (by omega)])
    (k := k) (by omega)
  try dsimp only at h
  rw [h]; simp

def B (l : List UInt8) : ByteArray := ⟨l.toArray⟩
theorem B_app (a b : List UInt8) : B a ++ B b = B (a ++ b) := by
  have : (B a ++ B b).data = (B (a ++ b)).data := by rw [ByteArray.data_append]; simp [B]
  cases h : B a ++ B b; cases h2 : B (a ++ b)
  simp_all
theorem B_size (l : List UInt8) : (B l).size = l.length := by show l.toArray.size = _; simp
theorem B_list (l : List UInt8) : (B l).data.toList = l := by simp [B]
def dig (n : Int) : List UInt8 := Lib.decDigits n.toNat
theorem dig_one (n : Int) (h0 : 0 ≤ n) (h1 : n < 10) : dig n = [UInt8.ofNat (48 + n.toNat)] := by
  unfold dig
  rw [Lib.decDigits, dif_pos (by omega)]
theorem dig_more (n : Int) (h0 : 10 ≤ n) : dig n = dig (n / 10) ++ [UInt8.ofNat (48 + n.toNat % 10)] := by
  unfold dig
  rw [Lib.decDigits, dif_neg (by omega), show (n / 10).toNat = n.toNat / 10 by omega]
theorem nums1 (x : Int) (h0 : 0 ≤ x) (h1 : x ≤ 255) : strOfNums [x] = B [UInt8.ofNat x.toNat] := rfl
def NumOk (kk : Nat) (N : Int) : Prop := ∀ n : Int, 0 ≤ n → n < N → (dig n).length ≤ kk ∧ ∀ k, kk ≤ k → spec_l1Num.f k n = some (B (dig n))
theorem num_one : NumOk 1 10 := fun n h0 h1 => ⟨by rw [dig_one n h0 h1]; simp, fun k hk => by
  obtain ⟨k, rfl⟩ : ∃ q, k = q + 1 := ⟨k - 1, by omega⟩
  simp only [spec_l1Num.f]
  rw [if_pos h1, PK.wrap_in (by omega) (by omega), Int.emod_eq_of_lt (by omega) (by omega), nums1 _ (by omega) (by omega), dig_one n h0 h1]
  have e : (48 + n).toNat = 48 + n.toNat := by omega
  rw [e]⟩
theorem num_more {kk : Nat} {N : Int} (h : NumOk kk N) (hk1 : kk ≤ 100) (hN : N ≤ 100000000) (hN1 : 10 ≤ N) : NumOk (kk + 1) (10 * N) := fun n h0 h1 => by
  by_cases c : n < 10
  · obtain ⟨a, b⟩ := h n h0 (by omega)
    exact ⟨by omega, fun k hk => b k (by omega)⟩
  · obtain ⟨a, b⟩ := h (n / 10) (by omega) (by omega)
    refine ⟨by rw [dig_more n (by omega), List.length_append, List.length_singleton]; omega, fun k hk => ?_⟩
    obtain ⟨k, rfl⟩ : ∃ q, k = q + 1 := ⟨k - 1, by omega⟩
    have e1 : Int.tdiv n 10 = n / 10 := Int.tdiv_eq_ediv_of_nonneg h0
    have e2 : Int.tmod n 10 = n % 10 := Int.tmod_eq_emod_of_nonneg h0
    have hb := b k (by omega)
    have g2 : (48 + n % 10).toNat = 48 + n.toNat % 10 := by omega
    simp only [spec_l1Num.f]
    rw [if_neg c, e1, e2, PK.wrap_in (x := n / 10) (by omega) (by omega), PK.wrap_in (x := 48 + n % 10) (by omega) (by omega), hb, Option.bind_some, Option.bind_some, Int.emod_eq_of_lt (by omega) (by omega), nums1 _ (by omega) (by omega), B_size, B_size, if_pos (by rw [List.length_singleton]; omega), B_app, dig_more n (by omega), g2]
theorem num4 : NumOk 4 10000 := by
  have h2 := num_more num_one (by omega) (by omega) (by omega)
  have h3 := num_more h2 (by omega) (by omega) (by omega)
  exact num_more h3 (by omega) (by omega) (by omega)

/-- The texts with commas between. -/
def jt : List (List UInt8) → List UInt8 := fun l => Lib.join l [44]
theorem jt_snoc (l : List (List UInt8)) (x : List UInt8) (h : l ≠ []) : jt (l ++ [x]) = (jt l ++ [44]) ++ x := by
  cases l with
  | nil => exact absurd rfl h
  | cons y ys =>
    unfold jt
    rw [List.cons_append, Lib.join_cons, Lib.join_cons]
    unfold Lib.joinTail
    simp
theorem tail_len : ∀ (l : List (List UInt8)), (∀ x ∈ l, x.length ≤ 9) → (Lib.joinTail [44] l).length ≤ 10 * l.length
  | [], _ => by simp [Lib.joinTail]
  | x :: r, h => by
    have h1 := tail_len r (fun y hy => h y (by simp [hy]))
    have h2 := h x (by simp)
    have e : Lib.joinTail [44] (x :: r) = ([44] ++ x) ++ Lib.joinTail [44] r := by unfold Lib.joinTail; simp
    rw [e]
    simp only [List.length_append, List.length_singleton, List.length_cons, List.length_nil]
    omega
theorem jt_len (l : List (List UInt8)) (h : ∀ x ∈ l, x.length ≤ 9) : (jt l).length ≤ 10 * l.length := by
  cases l with
  | nil => simp [jt, Lib.join_nil]
  | cons x r =>
    have h1 := tail_len r (fun y hy => h y (by simp [hy]))
    have h2 := h x (by simp)
    unfold jt
    rw [Lib.join_cons]
    simp only [List.length_append, List.length_cons]
    omega
theorem join_eq (xs : List (List UInt8)) (sep : List UInt8) (hn : xs.length ≤ 1000) (hl : (Lib.join xs sep).length ≤ 1000000) : strings_Join.f (xs.map B) (B sep) = some (B (Lib.join xs sep)) := by
  have e : (xs.map B).map (fun x => x.data.toList) = xs := by
    rw [List.map_map]
    conv => rhs; rw [← List.map_id xs]
    exact List.map_congr_left fun x _ => B_list x
  unfold strings_Join.f strings_Join.text
  rw [if_pos (by simp; omega), e, B_list, if_pos (by omega)]; rfl

theorem itoa_eq (n : Int) (h0 : 0 ≤ n) (h1 : n < 1000000) : strconv_Itoa.f n = some (B (dig n)) := by
  unfold strconv_Itoa.f
  rw [if_pos h0, if_pos h1]; rfl
def st (c : S78) : List UInt8 := (dig c.f0 ++ [94]) ++ dig c.f1
structure Sok (c : S78) : Prop where
  a0 : 1 ≤ c.f0
  a1 : c.f0 ≤ 1000
  b0 : 1 ≤ c.f1
  b1 : c.f1 ≤ 1000
theorem slab_ok (c : S78) (h : slabB c = true) : Sok c := by
  unfold slabB at h
  simp only [Bool.and_eq_true, decide_eq_true_eq] at h
  exact ⟨h.1.1, h.1.2, h.2.1, h.2.2⟩
theorem implB (x : S78) : impl_AreSlabs.slabB x = slabB x := by
  unfold impl_AreSlabs.slabB slabB
  simp [Bool.and_assoc]
theorem st_len (c : S78) (h : Sok c) : (st c).length ≤ 9 := by
  obtain ⟨_, _, _, _⟩ := h
  have h1 := (num4 c.f0 (by omega) (by omega)).1
  have h2 := (num4 c.f1 (by omega) (by omega)).1
  unfold st
  simp only [List.length_append, List.length_singleton]
  omega
theorem spec_text (l : List S78) (hl : l.length ≤ 7) (hc : ∀ c ∈ l, Sok c) : ∀ (d k i : Nat), i + d = l.length → d + 6 ≤ k → spec_skText.l0 k (B (jt ((l.take i).map st))) l (l.length : Int) (i : Int) = some (B (jt (l.map st))) := by
  intro d
  induction d with
  | zero =>
    intro k i hi hk
    obtain ⟨k, rfl⟩ : ∃ q, k = q + 1 := ⟨k - 1, by omega⟩
    obtain rfl : i = l.length := by omega
    simp only [spec_skText.l0]
    rw [if_neg (by omega), List.take_length]
  | succ d ih =>
    intro k i hi hk
    obtain ⟨k, rfl⟩ : ∃ q, k = q + 1 := ⟨k - 1, by omega⟩
    have hlt : i < l.length := by omega
    have hrd : rd_T78 l (i : Int) = l[i] := PK.rdOf_at hlt _
    obtain ⟨_, _, _, _⟩ := hc l[i] (List.getElem_mem hlt)
    obtain ⟨h1, n1⟩ := num4 l[i].f0 (by omega) (by omega)
    obtain ⟨h2, n2⟩ := num4 l[i].f1 (by omega) (by omega)
    have hj := jt_len ((l.take i).map st) (fun x hx => by
      obtain ⟨c, hc1, rfl⟩ := List.mem_map.1 hx
      exact st_len c (hc c (List.mem_of_mem_take hc1)))
    have hj2 : ((l.take i).map st).length ≤ 7 := by simp; omega
    have ht : (l.take (i + 1)).map st = (l.take i).map st ++ [st l[i]] := by
      rw [List.take_add_one, List.getElem?_eq_getElem hlt, List.map_append]; rfl
    have e94 : (⟨#[94]⟩ : ByteArray) = B [94] := rfl
    have e44 : (⟨#[44]⟩ : ByteArray) = B [44] := rfl
    have ih' := ih k (i + 1) (by omega) (by omega)
    rw [ht] at ih'
    simp only [spec_skText.l0]
    rw [if_pos (by omega), if_pos (by omega), if_pos (by omega), hrd, n1 k (by omega), n2 k (by omega)]
    simp only [Option.bind_some, B_size, e94, e44, B_app]
    rw [PK.w1 hlt (by omega)]
    by_cases c : (i : Int) > 0
    · have hne : (l.take i).map st ≠ [] := by
        intro h
        have := congrArg List.length h
        rw [List.length_map, List.length_take, List.length_nil] at this
        omega
      rw [if_pos c, if_pos (by omega), if_pos (by omega), if_pos (by omega), if_pos (by omega)]
      rw [jt_snoc _ _ hne] at ih'
      exact ih'
    · obtain rfl : i = 0 := by omega
      rw [if_neg c, if_pos (by omega), if_pos (by omega), if_pos (by omega)]
      have e0 : jt ((l.take 0).map st ++ [st l[0]]) = st l[0] := by unfold jt; simp [Lib.join_one]
      have e1 : jt ((l.take 0).map st) = [] := by unfold jt; simp [Lib.join_nil]
      rw [e0] at ih'
      rw [e1, List.nil_append]
      exact ih'
theorem impl_text (l : List S78) (hl : l.length ≤ 7) (hc : ∀ c ∈ l, Sok c) : ∀ (d k i : Nat), i + d = l.length → d + 6 ≤ k → impl_slabsText.l0 k ((l.take i).map fun c => B (st c)) l (l.length : Int) (i : Int) = some (B (jt (l.map st))) := by
  intro d
  induction d with
  | zero =>
    intro k i hi hk
    obtain ⟨k, rfl⟩ : ∃ q, k = q + 1 := ⟨k - 1, by omega⟩
    obtain rfl : i = l.length := by omega
    have hj := jt_len (l.map st) (fun x hx => by
      obtain ⟨c, hc1, rfl⟩ := List.mem_map.1 hx
      exact st_len c (hc c hc1))
    simp only [List.length_map] at hj
    have := join_eq (l.map st) [44] (by simp; omega) (by show (jt (l.map st)).length ≤ _; omega)
    rw [List.map_map] at this
    simp only [impl_slabsText.l0]
    rw [if_neg (by omega), List.take_length]
    show (strings_Join.f (l.map (B ∘ st)) (B [44])).bind _ = _
    rw [this, Option.bind_some]; rfl
  | succ d ih =>
    intro k i hi hk
    obtain ⟨k, rfl⟩ : ∃ q, k = q + 1 := ⟨k - 1, by omega⟩
    have hlt : i < l.length := by omega
    have hrd : rd_T78 l (i : Int) = l[i] := PK.rdOf_at hlt _
    obtain ⟨_, _, _, _⟩ := hc l[i] (List.getElem_mem hlt)
    obtain ⟨h1, -⟩ := num4 l[i].f0 (by omega) (by omega)
    obtain ⟨h2, -⟩ := num4 l[i].f1 (by omega) (by omega)
    have ht : (l.take (i + 1)).map (fun c => B (st c)) = (l.take i).map (fun c => B (st c)) ++ [B (st l[i])] := by
      rw [List.take_add_one, List.getElem?_eq_getElem hlt, List.map_append]; rfl
    have e94 : (⟨#[94]⟩ : ByteArray) = B [94] := rfl
    have ih' := ih k (i + 1) (by omega) (by omega)
    rw [ht] at ih'
    simp only [impl_slabsText.l0]
    rw [if_pos (by omega), if_pos (by omega), if_pos (by omega), hrd, itoa_eq _ (by omega) (by omega), itoa_eq _ (by omega) (by omega)]
    simp only [Option.bind_some, B_size, e94, B_app]
    rw [if_pos (by omega), if_pos (by omega), if_pos (by simp; omega), PK.w1 hlt (by omega)]
    exact ih'
theorem both (l : List S78) (hl : l.length ≤ 1048576) (k : Nat) (hk : l.length + 30 < k) : ∃ r : ByteArray × Bool, spec_SlabsText.f k l = some r ∧ impl_SlabsText.f k l = some r := by
  unfold spec_SlabsText.f impl_SlabsText.f impl_AreSlabs.f
  have e : l.all impl_AreSlabs.slabB = l.all slabB := by
    congr 1
    funext x
    exact implB x
  rw [skSlabs_eq l hl k (by omega), e, Option.bind_some, Option.bind_some]
  by_cases c : ((decide (1 ≤ l.length) && decide (l.length ≤ 7)) && l.all slabB) = true
  · rw [if_pos c, if_pos c]
    simp only [Bool.and_eq_true, decide_eq_true_eq] at c
    have hc : ∀ c ∈ l, Sok c := fun x hx => slab_ok x (List.all_eq_true.1 c.2 x hx)
    have h1 := spec_text l c.1.2 hc l.length k 0 (by omega) (by omega)
    have h2 := impl_text l c.1.2 hc l.length k 0 (by omega) (by omega)
    have e1 : B (jt ((l.take 0).map st)) = (⟨#[]⟩ : ByteArray) := by unfold jt; simp [Lib.join_nil, B]
    rw [e1] at h1
    refine ⟨(B (jt (l.map st)), true), ?_, ?_⟩
    · unfold spec_skText.f
      have e0 : ((0 : Nat) : Int) = 0 := rfl
      rw [e0] at h1
      rw [h1, Option.bind_some]
    · unfold impl_slabsText.f
      have e0 : ((0 : Nat) : Int) = 0 := rfl
      rw [e0] at h2
      simp only [List.take_zero, List.map_nil] at h2
      rw [h2, Option.bind_some]
  · rw [if_neg c, if_neg c]
    exact ⟨_, rfl, rfl⟩
theorem FnExactSlabsText : laws_FnExactSlabsText.Pure := by
  intro l hl
  refine ⟨l.length + 100, ?_⟩
  unfold laws_FnExactSlabsText.f
  rcases szSlabS_cases l hl.1 with ⟨t, h, h1⟩ | ⟨t, h, h1, h2⟩
  · rw [h, Option.bind_some, if_pos h1]
  · have h2' : (l.map toSl).length ≤ 1048576 := by simpa using h2
    have hp : ∀ j, l.length < j → laws_toSlabS.f j l = some (l.map toSl) := fun j hj => toSlabS_eq l h2 j hj
    have hm : (l.map toSl).length = l.length := by simp
    obtain ⟨r, hs, hi⟩ := both (l.map toSl) h2' (l.length + 100) (by omega)
    generalize l.map toSl = L at hp hs hi h2' hm
    rw [h, Option.bind_some, if_neg h1, hp _ (by omega), Option.bind_some, hs, Option.bind_some, Option.bind_some, hi, Option.bind_some, if_pos rfl]
    simp only [laws_FnExactSlabsText.j0]
    rw [if_neg (by simp), hp _ (by omega), Option.bind_some, eqSlabS_refl _ h2' _ (by omega), Option.bind_some, if_pos rfl]
end Go.Proofs.YtdikeggkfkkajaaDoor.Pure
