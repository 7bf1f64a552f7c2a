/- LongestNest answers as the reference does: of at most ten boxes the first longest row of indices of boxes each of which goes into the next one, else nothing; its argument stays as it was, and what it hands back is new memory. Conditions: none. -/
import Derived.Test.YthlebenfnlllhaaStFnExactLongestNest
import Derived.Test.YthlebenfnlllhaaPK
namespace Go.Proofs.Ythlebenfnlllhaa.Pure
open Go.RowKit Go.Proofs.Ythlebenfnlllhaa.PFnExactLongestNest Go.Proofs.YthlebenfnlllhaaW.PrintWords Go.Proofs.YthlebenfnlllhaaW.PrintLast Go.Proofs.YthlebenfnlllhaaW.PrintMore
set_option linter.unusedVariables false
set_option linter.unusedSimpArgs false

def toB (x : S23) : S26 := ⟨x.f0, x.f1, x.f2⟩
theorem szBoxS_cases (l : List S23) (hl : l.length ≤ maxLen) : (∃ t, laws_szBoxS.f l 1048576 = some t ∧ t < 0) ∨ (∃ t, laws_szBoxS.f l 1048576 = some t ∧ ¬ t < 0 ∧ l.length ≤ 1048576) := by
  unfold maxLen at hl
  have hw : wrap64 (1048576 - (l.length : Int)) = 1048576 - (l.length : Int) := PK.wrap_in (by omega) (by omega)
  unfold laws_szBoxS.f
  rw [hw]
  by_cases h : (1048576 - (l.length : Int)) < 0
  · exact .inl ⟨-1, by rw [if_pos h], by omega⟩
  · exact .inr ⟨1048576 - (l.length : Int), by rw [if_neg h], h, by omega⟩
theorem toBoxS_eq (l : List S23) (hl : l.length ≤ 1048576) (k : Nat) (hk : l.length < k) : laws_toBoxS.f k l = some (l.map toB) := by
  unfold laws_toBoxS.f
  rw [if_pos (by omega), if_pos (by omega), Int.toNat_natCast]
  have h := PK.fill_loop (ρ := List S26) l.length 0 (fun k s i => laws_toBoxS.l0 k l s i) (fun i => toB (l.getD i z23)) (fun s => some s)
    (fun k i s _ hs hi => by
      try dsimp only
      simp only [laws_toBoxS.l0]
      rw [if_pos (by omega), if_pos (by omega)]
      unfold laws_toBox.f
      rw [Option.bind_some, if_pos (by omega), PK.w1 hi (by omega), Int.toNat_natCast]
      congr 1)
    (fun k s _ hs => by
      try dsimp only
      simp only [laws_toBoxS.l0]
      rw [if_neg (by omega)])
    (k := k) (by omega) (s := List.replicate l.length z26) (by simp)
  try dsimp only at h
  rw [h, PK.map_range]
theorem eqBoxS_refl (l : List S26) (hl : l.length ≤ 1048576) (k : Nat) (hk : l.length < k) : laws_eqBoxS.f k l l = some true := by
  unfold laws_eqBoxS.f
  rw [if_pos rfl]
  have h := PK.all_loop0 l (fun k i => laws_eqBoxS.l0 k l l i) 0 (fun _ => true)
    (fun k i hi _ => by
      try dsimp only
      simp only [laws_eqBoxS.l0]
      rw [if_pos (by omega), if_pos (by omega), if_pos (by omega)]
      unfold laws_eqBox.f
      rw [if_pos rfl, if_pos rfl, if_pos rfl, Option.bind_some, if_pos rfl, if_pos trivial, PK.w1 hi (by omega)])
    (fun k _ => by
      try dsimp only
      simp only [laws_eqBoxS.l0]
      rw [if_neg (by omega)])
    (k := k) (by omega)
  try dsimp only at h
  rw [h]; simp

def mkB (a : Int) : S26 := ⟨a, a + 1, a + 2⟩
theorem markBoxS_eq (l : List S26) (hl : l.length ≤ 1048576) (k : Nat) (hk : l.length < k) : laws_markBoxS.f k l 1 = some (1 + ((3 : Nat) : Int) * (l.length : Int), (List.range l.length).map fun (i : Nat) => mkB (1 + ((3 : Nat) : Int) * (i : Int))) := by
  unfold laws_markBoxS.f
  have h := PK.mark_loop l.length 0 3 (fun k s a i => laws_markBoxS.l0 k s a i) mkB 1 4000000 (by omega) (by omega)
    (fun k i s a _ hs hi h0 hB => by
      try dsimp only
      simp only [laws_markBoxS.l0]
      have w1 : wrap64 (a + 1) = a + 1 := PK.wrap_in (by omega) (by omega)
      have w2 : wrap64 (a + 1 + 1) = a + 2 := by rw [PK.wrap_in (by omega) (by omega)]; omega
      have w3 : wrap64 (a + 2 + 1) = a + 3 := by rw [PK.wrap_in (by omega) (by omega)]; omega
      rw [if_pos (by omega), if_pos (by omega), Option.bind_some, Option.bind_some, w1, w2, w3, PK.w1 hi (by omega), Int.toNat_natCast]
      have hi' : i < s.length := by omega
      unfold rd_T26
      have g1 : ∀ v z, (s.set i v).getD ((i : Int)).toNat z = v := fun v z => PK.getD_set hi' v z
      simp only [g1, List.set_set]
      rfl)
    (fun k s a _ hs => by
      try dsimp only
      simp only [laws_markBoxS.l0]
      rw [if_neg (by omega)])
    (k := k) (by omega) (s := l) rfl
  try dsimp only at h
  rw [h]

theorem eqIntS_refl (l : List Int) (hl : l.length ≤ 1048576) (k : Nat) (hk : l.length < k) : laws_eqIntS.f k l l = some true := by
  unfold laws_eqIntS.f
  rw [if_pos rfl]
  have h := PK.all_loop0 l (fun k i => laws_eqIntS.l0 k l l i) 0 (fun _ => true)
    (fun k i hi _ => by
      try dsimp only
      simp only [laws_eqIntS.l0]
      rw [if_pos (by omega), if_pos (by omega), if_pos (by omega), PK.w1 hi (by omega)])
    (fun k _ => by
      try dsimp only
      simp only [laws_eqIntS.l0]
      rw [if_neg (by omega)])
    (k := k) (by omega)
  try dsimp only at h
  rw [h]; simp
def mkI (a : Int) : Int := a
theorem markIntS_eq (l : List Int) (hl : l.length ≤ 1048576) (k : Nat) (hk : l.length < k) : laws_markIntS.f k l 1 = some (1 + ((1 : Nat) : Int) * (l.length : Int), (List.range l.length).map fun (i : Nat) => mkI (1 + ((1 : Nat) : Int) * (i : Int))) := by
  unfold laws_markIntS.f
  have h := PK.mark_loop l.length 0 1 (fun k s a i => laws_markIntS.l0 k s a i) mkI 1 4000000 (by omega) (by omega)
    (fun k i s a _ hs hi h0 hB => by
      try dsimp only
      simp only [laws_markIntS.l0]
      have w1 : wrap64 (a + 1) = a + 1 := PK.wrap_in (by omega) (by omega)
      rw [if_pos (by omega), if_pos (by omega), w1, PK.w1 hi (by omega), Int.toNat_natCast]
      rfl)
    (fun k s a _ hs => by
      try dsimp only
      simp only [laws_markIntS.l0]
      rw [if_neg (by omega)])
    (k := k) (by omega) (s := l) rfl
  try dsimp only at h
  rw [h]
theorem heldIntS_eq (l : List Int) (hl : l.length ≤ 1048576) (hx : ∀ i (h : i < l.length), l[i] = mkI (1 + ((1 : Nat) : Int) * (i : Int))) (k : Nat) (hk : l.length < k) : laws_heldIntS.f k l 1 = some (1 + ((1 : Nat) : Int) * (l.length : Int)) := by
  unfold laws_heldIntS.f
  have h := PK.held_loop l 0 1 (fun k a i => laws_heldIntS.l0 k l a i) mkI 1 4000000 (by omega) (by omega) hx
    (fun k i hi a _ h0 hB hm => by
      try dsimp only
      simp only [laws_heldIntS.l0]
      have w1 : wrap64 (a + 1) = a + 1 := PK.wrap_in (by omega) (by omega)
      rw [PK.rd_at hi, hm, w1, PK.w1 hi (by omega)]
      rw [if_pos (by omega), if_pos (by omega), if_pos (show mkI a = a from rfl)]
      rfl)
    (fun k a _ => by
      try dsimp only
      simp only [laws_heldIntS.l0]
      rw [if_neg (by omega)])
    (k := k) (by omega)
  try dsimp only at h
  rw [h]
theorem heldInt_marked (n : Nat) (hn : n ≤ 1048576) (k : Nat) (hk : n < k) : laws_heldIntS.f k ((List.range n).map fun (i : Nat) => mkI (1 + ((1 : Nat) : Int) * (i : Int))) 1 = some (1 + ((1 : Nat) : Int) * (n : Int)) := by
  have h := heldIntS_eq ((List.range n).map fun (i : Nat) => mkI (1 + ((1 : Nat) : Int) * (i : Int))) (by simpa using hn) (fun i h => PK.marked_at h) k (by simpa using hk)
  simpa using h

theorem go_len (M : Nat) {rec : List Int → List Int → Option (List Int)} {ok : Nat → Option Bool} {bg : List Int} (hr : ∀ i acc t, rec (bg ++ [i]) acc = some t → acc.length ≤ M → t.length ≤ M) :
    ∀ (m i : Nat) (acc r : List Int), Nest.go rec ok bg m i acc = some r → acc.length ≤ M → r.length ≤ M
  | 0, _, acc, r, h, ha => by simp only [Nest.go] at h; obtain rfl := Option.some.inj h; exact ha
  | m + 1, i, acc, r, h, ha => by
    simp only [Nest.go] at h
    obtain ⟨b, _, h⟩ := Option.bind_eq_some_iff.mp h
    split at h
    · obtain ⟨t, ht, h⟩ := Option.bind_eq_some_iff.mp h
      exact go_len M hr m (i + 1) t r h (hr _ _ _ ht ha)
    · exact go_len M hr m (i + 1) acc r h ha
theorem nest_len {α : Type} {into : α → α → Option Bool} {z : α} {bs : List α} (M : Nat) : ∀ (k : Nat) (bg acc r : List Int), Nest.nest into z bs k bg acc = some r → acc.length ≤ M → bg.length + k ≤ M → r.length ≤ M
  | 0, _, _, _, h, _, _ => by simp [Nest.nest] at h
  | k + 1, bg, acc, r, h, ha, hb => by
    simp only [Nest.nest] at h
    refine go_len M (fun i acc t ht h2 => nest_len M k _ _ _ ht h2 (by simp only [List.length_append, List.length_singleton]; omega)) _ _ _ _ h ?_
    split <;> omega
theorem go_some {rec : List Int → List Int → Option (List Int)} {ok : Nat → Option Bool} {bg : List Int} (n : Nat) (hok : ∀ i, i < n → ∃ b, ok i = some b) (hr : ∀ i, i < n → ok i = some true → ∀ acc, ∃ t, rec (bg ++ [(i : Int)]) acc = some t) :
    ∀ (m i : Nat) (acc : List Int), i + m = n → ∃ r, Nest.go rec ok bg m i acc = some r
  | 0, _, acc, _ => ⟨acc, rfl⟩
  | m + 1, i, acc, hi => by
    obtain ⟨b, hb⟩ := hok i (by omega)
    simp only [Nest.go, hb, Option.bind_some]
    cases b with
    | true =>
      obtain ⟨t, ht⟩ := hr i (by omega) hb acc
      rw [if_pos rfl, ht, Option.bind_some]
      exact go_some n hok hr m (i + 1) t (by omega)
    | false =>
      rw [if_neg (by simp)]
      exact go_some n hok hr m (i + 1) acc (by omega)
/-- With a number that grows along 'into', at most L, L + 1 rounds are enough behind one, L + 2 at the start. -/
theorem nest_some {α : Type} {into : α → α → Option Bool} {z : α} {bs : List α} (v : α → Int) (L : Int) (hv : ∀ x, x ∈ bs → 1 ≤ v x ∧ v x ≤ L) (ht : ∀ a b, ∃ q, into a b = some q) (hi : ∀ a b, into a b = some true → v a < v b) :
    ∀ (k : Nat) (bg acc : List Int), (bg.length = 0 ∧ L + 2 ≤ (k : Int) ∨ bg.length ≠ 0 ∧ 0 ≤ bg.getD (bg.length - 1) 0 ∧ bg.getD (bg.length - 1) 0 < (bs.length : Int) ∧ L + 1 - v (bs.getD (bg.getD (bg.length - 1) 0).toNat z) < (k : Int)) → 0 ≤ L → ∃ r, Nest.nest into z bs k bg acc = some r
  | 0, bg, acc, h, hL => by
    rcases h with ⟨_, h⟩ | ⟨_, h0, h1, h2⟩
    · omega
    · have hm : (bs.getD (bg.getD (bg.length - 1) 0).toNat z) ∈ bs := by
        have hj : (bg.getD (bg.length - 1) 0).toNat < bs.length := by omega
        rw [List.getD_eq_getElem?_getD (l := bs), List.getElem?_eq_getElem hj]; exact List.getElem_mem hj
      have := (hv _ hm).2
      omega
  | k + 1, bg, acc, h, hL => by
    have hmem : ∀ j, j < bs.length → bs.getD j z ∈ bs := fun j hj => by
      rw [List.getD_eq_getElem?_getD, List.getElem?_eq_getElem hj]; exact List.getElem_mem hj
    simp only [Nest.nest]
    refine go_some bs.length (fun i hi => ?_) (fun i hin hok acc => ?_) bs.length 0 _ (by omega)
    · unfold Nest.ok
      rcases h with ⟨h, _⟩ | ⟨h, h0, h1, h2⟩
      · rw [if_pos h]; exact ⟨true, rfl⟩
      · rw [if_neg h, if_pos ⟨h0, h1⟩]; exact ht _ _
    · have hlast : (bg ++ [(i : Int)]).getD ((bg ++ [(i : Int)]).length - 1) 0 = (i : Int) := by simp
      refine nest_some v L hv ht hi k _ _ (.inr ⟨by simp, ?_⟩) hL
      rw [hlast]
      refine ⟨by omega, by omega, ?_⟩
      rw [Int.toNat_natCast]
      have hb := hv _ (hmem i hin)
      rcases h with ⟨h, h2⟩ | ⟨h, h0, h1, h2⟩
      · omega
      · unfold Nest.ok at hok
        rw [if_neg h, if_pos ⟨h0, h1⟩] at hok
        have := hi _ _ hok
        omega

theorem l1In_eq (a b c : Int) : spec_l1In.f a b c = some (decide (b ≤ a) && decide (a ≤ c)) := by
  unfold spec_l1In.f
  by_cases h : a ≥ b
  · rw [if_pos h, decide_eq_true h, Bool.true_and]
  · rw [if_neg h, decide_eq_false h, Bool.false_and]
theorem within_eq (a b c : Int) : impl_within.f a b c = some (decide (b ≤ a) && decide (a ≤ c)) := by
  unfold impl_within.f
  by_cases h : b ≤ a
  · rw [if_pos h, decide_eq_true h, Bool.true_and]
  · rw [if_neg h, decide_eq_false h, Bool.false_and]
def boxB (b : S26) : Bool := decide (1 ≤ b.f2) && decide (b.f2 ≤ b.f1) && decide (b.f1 ≤ b.f0) && decide (b.f0 ≤ 60)
theorem goodS (b : S26) : spec_LongestNest.good b = boxB b := by
  unfold spec_LongestNest.good spec_wrGood.f boxB
  simp only [l1In_eq, Option.bind_some]
  rw [Bool.eq_iff_iff]
  by_cases h1 : 1 ≤ b.f0 <;> by_cases h2 : b.f0 ≤ 60 <;> by_cases h3 : 1 ≤ b.f1 <;> by_cases h4 : b.f1 ≤ b.f0 <;> simp [h1, h2, h3, h4] <;> omega
theorem goodI (b : S26) : impl_LongestNest.good b = boxB b := by
  unfold impl_LongestNest.good impl_IsBox.f boxB
  simp only [within_eq, Option.bind_some]
  rw [Bool.eq_iff_iff]
  by_cases h1 : 1 ≤ b.f2 <;> by_cases h2 : b.f2 ≤ b.f1 <;> by_cases h4 : b.f1 ≤ b.f0 <;> simp [h1, h2, h4]
theorem into_eq : (spec_LongestNest.into : S26 → S26 → Option Bool) = impl_LongestNest.into := rfl
theorem both (l : List S26) : ∃ r : List Int × Bool, r.1.length ≤ 100 ∧ spec_LongestNest.f l = some r ∧ impl_LongestNest.f l = some r := by
  unfold spec_LongestNest.f impl_LongestNest.f
  rw [into_eq, show (spec_LongestNest.good : S26 → Bool) = boxB from funext goodS, show (impl_LongestNest.good : S26 → Bool) = boxB from funext goodI]
  split
  · exact ⟨([], false), by simp, rfl, rfl⟩
  · split
    · rename_i hall
      have hv : ∀ x : S26, x ∈ l → 1 ≤ x.f0 ∧ x.f0 ≤ 60 := fun x hx => by
        have := List.all_eq_true.1 hall x hx
        simp [boxB] at this
        omega
      obtain ⟨t, ht⟩ := nest_some (into := impl_LongestNest.into) (z := z26) (bs := l) (fun x => x.f0) 60 hv (fun a b => by
          unfold impl_LongestNest.into impl_fits.f
          repeat' (first | exact ⟨_, rfl⟩ | split)) (fun a b h => by
          unfold impl_LongestNest.into impl_fits.f at h
          split at h
          · assumption
          · cases h) 70 [] [] (.inl ⟨rfl, by decide⟩) (by decide)
      exact ⟨(t, true), nest_len 100 70 [] [] t ht (by simp) (by simp), by rw [ht]; rfl, by rw [ht]; rfl⟩
    · exact ⟨([], false), by simp, rfl, rfl⟩
theorem FnExactLongestNest : laws_FnExactLongestNest.Pure := by
  intro l hl
  refine ⟨l.length + 130, ?_⟩
  unfold laws_FnExactLongestNest.f
  rcases szBoxS_cases l hl.1 with ⟨t, h, h1⟩ | ⟨t, h, h1, h2⟩
  · rw [h, Option.bind_some, if_pos h1]
  · rw [h, Option.bind_some, if_neg h1]
    have h2' : (l.map toB).length ≤ 1048576 := by simpa using h2
    have hp : ∀ j, l.length < j → laws_toBoxS.f j l = some (l.map toB) := fun j hj => toBoxS_eq l h2 j hj
    obtain ⟨r, hr, hs, hi⟩ := both (l.map toB)
    have hm : (l.map toB).length = l.length := by simp
    generalize l.map toB = L at hp hs hi h2' hm
    have he : ∀ j, 100 < j → laws_eqIntS.f j r.1 r.1 = some true := fun j hj => eqIntS_refl _ (by omega) j (by omega)
    have hL : ∀ j, l.length < j → laws_eqBoxS.f j L L = some true := fun j hj => eqBoxS_refl _ h2' j (by omega)
    have hk1 := markBoxS_eq L h2'
    have hk2 := markIntS_eq r.1 (by omega)
    have hh := heldInt_marked r.1.length (by omega)
    rw [hp _ (by omega), Option.bind_some, hs, Option.bind_some, Option.bind_some, hi, Option.bind_some, he _ (by omega), Option.bind_some, if_pos rfl]
    simp only [laws_FnExactLongestNest.j0]
    rw [if_neg (by simp), hp _ (by omega), Option.bind_some, hL _ (by omega), Option.bind_some, if_pos rfl, hk1 _ (by omega), Option.bind_some, if_neg (by omega), he _ (by omega), Option.bind_some, if_pos rfl]
    simp only [laws_FnExactLongestNest.j1]
    rw [if_neg (by simp), hk2 _ (by omega), Option.bind_some, hh _ (by omega), Option.bind_some, if_neg (by omega), if_pos rfl]
    rw [hp _ (by omega), Option.bind_some, hi, Option.bind_some, he _ (by omega), Option.bind_some, if_pos rfl]
    simp only [laws_FnExactLongestNest.j2]
    rw [if_neg (by simp), hh _ (by omega), Option.bind_some, if_neg (by omega), if_pos rfl]
end Go.Proofs.Ythlebenfnlllhaa.Pure
