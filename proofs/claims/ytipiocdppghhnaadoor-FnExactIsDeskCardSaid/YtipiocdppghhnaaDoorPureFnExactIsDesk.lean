/- IsDesk answers as the reference does, at every desk: a bar, nuts, strips, weights, slabs; its argument stays as it was. Conditions: none. -/
import Derived.Test.YtipiocdppghhnaaDoorStFnExactIsDesk
import Derived.Test.YtipiocdppghhnaaDoorPK
namespace Go.Proofs.YtipiocdppghhnaaDoor.Pure
open Go.RowKit Go.Proofs.YtipiocdppghhnaaDoor.PFnExactIsDesk Go.Proofs.YtipiocdppghhnaaDoorW.PrintWords Go.Proofs.YtipiocdppghhnaaDoorW.PrintLast Go.Proofs.YtipiocdppghhnaaDoorW.PrintMore
set_option linter.unusedVariables false
set_option linter.unusedSimpArgs false

theorem szStringS_cases (l : List ByteArray) (hl : l.length ≤ maxLen) (hx : ∀ x ∈ l, x.size ≤ maxLen) (x1 : Int) (h0 : 0 ≤ x1) (h1 : x1 ≤ 1048576) (k : Nat) (hk : l.length < k) :
    (∃ t, laws_szStringS.f k l x1 = some t ∧ t < 0) ∨ (∃ t, laws_szStringS.f k l x1 = some t ∧ 0 ≤ t ∧ t ≤ 1048576 ∧ l.length ≤ 1048576 ∧ ∀ x ∈ l, x.size ≤ 1048576) := by
  unfold maxLen at hl hx
  have loop : ∀ (d k i : Nat) (x1 : Int), l.length ≤ 1048576 → i + d = l.length → d < k → 0 ≤ x1 → x1 ≤ 1048576 → (∃ t, laws_szStringS.l0 k l x1 (i : Int) = some t ∧ t < 0) ∨ (∃ t, laws_szStringS.l0 k l x1 (i : Int) = some t ∧ 0 ≤ t ∧ t ≤ 1048576 ∧ ∀ x ∈ l.drop i, x.size ≤ 1048576) := by
    intro d
    induction d with
    | zero =>
      intro k i x1 hll hi hk h0 h1
      obtain ⟨k, rfl⟩ : ∃ q, k = q + 1 := ⟨k - 1, by omega⟩
      obtain rfl : i = l.length := by omega
      refine .inr ⟨x1, ?_, h0, h1, by simp⟩
      simp only [laws_szStringS.l0]
      rw [if_neg (by omega)]
    | succ d ih =>
      intro k i x1 hll hi hk h0 h1
      obtain ⟨k, rfl⟩ : ∃ q, k = q + 1 := ⟨k - 1, by omega⟩
      have hlt : i < l.length := by omega
      have hrd : rdOf ByteArray.empty l (i : Int) = l[i] := PK.rdOf_at hlt _
      have hs := hx l[i] (List.getElem_mem hlt)
      have hw : wrap64 (x1 - (l[i].size : Int)) = x1 - (l[i].size : Int) := PK.wrap_in (by omega) (by omega)
      simp only [laws_szStringS.l0]
      rw [if_pos (by omega), if_pos (by omega), hrd, hw, PK.w1 hlt (by omega)]
      by_cases c : x1 - (l[i].size : Int) < 0
      · rw [if_pos c]; exact .inl ⟨-1, rfl, by omega⟩
      · rw [if_neg c]
        rcases ih k (i + 1) (x1 - (l[i].size : Int)) hll (by omega) (by omega) (by omega) (by omega) with h | ⟨t, h2, h3, h4, h5⟩
        · exact .inl h
        · refine .inr ⟨t, h2, h3, h4, fun x hx => ?_⟩
          rw [List.drop_eq_getElem_cons hlt] at hx
          rcases List.mem_cons.1 hx with rfl | hx
          · omega
          · exact h5 x hx
  have hw : wrap64 (x1 - (l.length : Int)) = x1 - (l.length : Int) := PK.wrap_in (by omega) (by omega)
  unfold laws_szStringS.f
  rw [hw]
  by_cases c : x1 - (l.length : Int) < 0
  · rw [if_pos c]; exact .inl ⟨-1, rfl, by omega⟩
  · rw [if_neg c]
    have e0 : ((0 : Nat) : Int) = 0 := rfl
    have hlp := loop l.length k 0 (x1 - (l.length : Int)) (by omega) (by omega) hk (by omega) (by omega)
    rw [e0] at hlp
    rcases hlp with h | ⟨t, h2, h3, h4, h5⟩
    · exact .inl h
    · exact .inr ⟨t, h2, h3, h4, by omega, fun x hx => h5 x (by simpa using hx)⟩
theorem toStringS_eq (l : List ByteArray) (hl : l.length ≤ 1048576) (k : Nat) (hk : l.length < k) : laws_toStringS.f k l = some l := by
  unfold laws_toStringS.f
  rw [if_pos (by omega), if_pos (by omega), Int.toNat_natCast]
  have h := PK.fill_loop (ρ := List ByteArray) l.length 0 (fun k s i => laws_toStringS.l0 k l s i) (fun i => l.getD i ByteArray.empty) (fun s => some s)
    (fun k i s _ hs hi => by
      try dsimp only
      simp only [laws_toStringS.l0]
      rw [if_pos (by omega), if_pos (by omega), if_pos (by omega), PK.w1 hi (by omega), Int.toNat_natCast]
      rfl)
    (fun k s _ hs => by
      try dsimp only
      simp only [laws_toStringS.l0]
      rw [if_neg (by omega)])
    (k := k) (by omega) (s := List.replicate l.length (⟨#[]⟩ : ByteArray)) (by simp)
  try dsimp only at h
  rw [h]
  have := PK.map_range l ByteArray.empty (fun x => x)
  simpa using this
theorem eqStringS_refl (l : List ByteArray) (hl : l.length ≤ 1048576) (k : Nat) (hk : l.length < k) : laws_eqStringS.f k l l = some true := by
  unfold laws_eqStringS.f
  rw [if_pos rfl]
  have h := PK.all_loop0 l (fun k i => laws_eqStringS.l0 k l l i) 0 (fun _ => true)
    (fun k i hi _ => by
      try dsimp only
      simp only [laws_eqStringS.l0]
      rw [if_pos (by omega), if_pos (by omega), if_pos (by omega), PK.w1 hi (by omega)])
    (fun k _ => by
      try dsimp only
      simp only [laws_eqStringS.l0]
      rw [if_neg (by omega)])
    (k := k) (by omega)
  try dsimp only at h
  rw [h]; simp

theorem szIntS_cases (l : List Int) (hl : l.length ≤ maxLen) (x1 : Int) (h0 : 0 ≤ x1) (h1 : x1 ≤ 1048576) : (∃ t, laws_szIntS.f l x1 = some t ∧ t < 0) ∨ (∃ t, laws_szIntS.f l x1 = some t ∧ 0 ≤ t ∧ t ≤ 1048576 ∧ l.length ≤ 1048576) := by
  unfold maxLen at hl
  have hw : wrap64 (x1 - (l.length : Int)) = x1 - (l.length : Int) := PK.wrap_in (by omega) (by omega)
  unfold laws_szIntS.f
  rw [hw]
  by_cases h : (x1 - (l.length : Int)) < 0
  · exact .inl ⟨-1, by rw [if_pos h], by omega⟩
  · exact .inr ⟨x1 - (l.length : Int), by rw [if_neg h], by omega, by omega, by omega⟩
theorem toIntS_eq (l : List Int) (hl : l.length ≤ 1048576) (k : Nat) (hk : l.length < k) : laws_toIntS.f k l = some l := by
  unfold laws_toIntS.f
  rw [if_pos (by omega), if_pos (by omega), Int.toNat_natCast]
  have h := PK.fill_loop (ρ := List Int) l.length 0 (fun k s i => laws_toIntS.l0 k l s i) (fun i => l.getD i 0) (fun s => some s)
    (fun k i s _ hs hi => by
      try dsimp only
      simp only [laws_toIntS.l0]
      rw [if_pos (by omega), if_pos (by omega), if_pos (by omega), PK.w1 hi (by omega), Int.toNat_natCast]
      rfl)
    (fun k s _ hs => by
      try dsimp only
      simp only [laws_toIntS.l0]
      rw [if_neg (by omega)])
    (k := k) (by omega) (s := List.replicate l.length 0) (by simp)
  try dsimp only at h
  rw [h]
  have := PK.map_range l 0 (fun x => x)
  simpa using this

theorem eqIntS_refl (l : List Int) (hl : l.length ≤ 1048576) (k : Nat) (hk : l.length < k) : laws_eqIntS.f k l l = some true := by
  unfold laws_eqIntS.f
  rw [if_pos rfl]
  have h := PK.all_loop0 l (fun k i => laws_eqIntS.l0 k l l i) 0 (fun _ => true)
    (fun k i hi _ => by
      try dsimp only
      simp only [laws_eqIntS.l0]
      rw [if_pos (by omega), if_pos (by omega), if_pos (by omega), PK.w1 hi (by omega)])
    (fun k _ => by
      try dsimp only
      simp only [laws_eqIntS.l0]
      rw [if_neg (by omega)])
    (k := k) (by omega)
  try dsimp only at h
  rw [h]; simp

def toSl (x : S110) : S108 := ⟨x.f0, x.f1⟩
theorem szSlabS_cases (l : List S110) (hl : l.length ≤ maxLen) : (∃ t, laws_szSlabS.f l 1048576 = some t ∧ t < 0) ∨ (∃ t, laws_szSlabS.f l 1048576 = some t ∧ ¬ t < 0 ∧ l.length ≤ 1048576) := by
  unfold maxLen at hl
  have hw : wrap64 (1048576 - (l.length : Int)) = 1048576 - (l.length : Int) := PK.wrap_in (by omega) (by omega)
  unfold laws_szSlabS.f
  rw [hw]
  by_cases h : (1048576 - (l.length : Int)) < 0
  · exact .inl ⟨-1, by rw [if_pos h], by omega⟩
  · exact .inr ⟨1048576 - (l.length : Int), by rw [if_neg h], h, by omega⟩
theorem toSlabS_eq (l : List S110) (hl : l.length ≤ 1048576) (k : Nat) (hk : l.length < k) : laws_toSlabS.f k l = some (l.map toSl) := by
  unfold laws_toSlabS.f
  rw [if_pos (by omega), if_pos (by omega), Int.toNat_natCast]
  have h := PK.fill_loop (ρ := List S108) l.length 0 (fun k s i => laws_toSlabS.l0 k l s i) (fun i => toSl (l.getD i z110)) (fun s => some s)
    (fun k i s _ hs hi => by
      try dsimp only
      simp only [laws_toSlabS.l0]
      rw [if_pos (by omega), if_pos (by omega)]
      unfold laws_toSlab.f
      rw [Option.bind_some, if_pos (by omega), PK.w1 hi (by omega), Int.toNat_natCast]
      congr 1)
    (fun k s _ hs => by
      try dsimp only
      simp only [laws_toSlabS.l0]
      rw [if_neg (by omega)])
    (k := k) (by omega) (s := List.replicate l.length z108) (by simp)
  try dsimp only at h
  rw [h, PK.map_range]
theorem eqSlabS_refl (l : List S108) (hl : l.length ≤ 1048576) (k : Nat) (hk : l.length < k) : laws_eqSlabS.f k l l = some true := by
  unfold laws_eqSlabS.f
  rw [if_pos rfl]
  have h := PK.all_loop0 l (fun k i => laws_eqSlabS.l0 k l l i) 0 (fun _ => true)
    (fun k i hi _ => by
      try dsimp only
      simp only [laws_eqSlabS.l0]
      rw [if_pos (by omega), if_pos (by omega), if_pos (by omega)]
      unfold laws_eqSlab.f
      rw [if_pos rfl, if_pos rfl, Option.bind_some, if_pos rfl, if_pos trivial, PK.w1 hi (by omega)])
    (fun k _ => by
      try dsimp only
      simp only [laws_eqSlabS.l0]
      rw [if_neg (by omega)])
    (k := k) (by omega)
  try dsimp only at h
  rw [h]; simp

def slabB (x : S108) : Bool := decide (1 ≤ x.f0) && decide (x.f0 ≤ 1000) && (decide (1 ≤ x.f1) && decide (x.f1 ≤ 1000))
theorem l1In_eq (a b c : Int) : spec_l1In.f a b c = some (decide (b ≤ a) && decide (a ≤ c)) := by
  unfold spec_l1In.f
  by_cases h : a ≥ b
  · rw [if_pos h, decide_eq_true h, Bool.true_and]
  · rw [if_neg h, decide_eq_false h, Bool.false_and]
theorem skSlabs_eq (l : List S108) (hl : l.length ≤ 1048576) (k : Nat) (hk : l.length < k) : spec_skSlabs.f k l = some ((decide (1 ≤ l.length) && decide (l.length ≤ 7)) && l.all slabB) := by
  unfold spec_skSlabs.f
  rw [l1In_eq, Option.bind_some]
  have e1 : decide ((1 : Int) ≤ (l.length : Int)) = decide (1 ≤ l.length) := by rw [decide_eq_decide]; omega
  have e2 : decide ((l.length : Int) ≤ 7) = decide (l.length ≤ 7) := by rw [decide_eq_decide]; omega
  rw [e1, e2]
  by_cases c : (decide (1 ≤ l.length) && decide (l.length ≤ 7)) = true
  · rw [if_pos c, c, Bool.true_and]
    have h := PK.all_loop0 l (fun k i => spec_skSlabs.l0 k l (l.length : Int) i) 0 slabB
      (fun k i hi _ => by
        try dsimp only
        simp only [spec_skSlabs.l0]
        have hrd : rd_T108 l (i : Int) = l[i] := PK.rdOf_at hi _
        rw [if_pos (by omega), if_pos (by omega), if_pos (by omega), hrd, l1In_eq, l1In_eq, Option.bind_some, Option.bind_some, PK.w1 hi (by omega)]
        unfold slabB
        by_cases d1 : (decide (1 ≤ l[i].f0) && decide (l[i].f0 ≤ 1000)) = true
        · rw [if_pos d1, d1, Bool.true_and]
        · rw [if_neg d1, Bool.eq_false_iff.2 d1, Bool.false_and, if_neg (by simp)])
      (fun k _ => by
        try dsimp only
        simp only [spec_skSlabs.l0]
        rw [if_neg (by omega)])
      (k := k) (by omega)
    exact h
  · rw [if_neg c, Bool.eq_false_iff.2 c, Bool.false_and]

theorem within_eq (a b c : Int) : impl_within.f a b c = some (decide (b ≤ a) && decide (a ≤ c)) := by
  unfold impl_within.f
  by_cases h : b ≤ a
  · rw [if_pos h, decide_eq_true h, Bool.true_and]
  · rw [if_neg h, decide_eq_false h, Bool.false_and]
def barB (a b : Int) : Bool := (decide (1 ≤ a) && decide (a ≤ 12)) && (decide (1 ≤ b) && decide (b ≤ 12))
theorem bar_s (a b : Int) : spec_brGood.f a b = some (barB a b) := by
  unfold spec_brGood.f barB
  rw [l1In_eq, l1In_eq, Option.bind_some, Option.bind_some]
  by_cases c : (decide (1 ≤ a) && decide (a ≤ 12)) = true
  · rw [if_pos c, c, Bool.true_and]
  · rw [if_neg c, Bool.eq_false_iff.2 c, Bool.false_and]
theorem bar_i (a b : Int) : impl_isBar.f a b = some (barB a b) := by
  unfold impl_isBar.f barB
  rw [within_eq, within_eq, Option.bind_some, Option.bind_some]
  by_cases c : (decide (1 ≤ a) && decide (a ≤ 12)) = true
  · rw [if_pos c, c, Bool.true_and]
  · rw [if_neg c, Bool.eq_false_iff.2 c, Bool.false_and]
def allIn (l : List Int) (lo hi : Int) : Bool := l.all fun n => decide (lo ≤ n) && decide (n ≤ hi)
theorem l1All_eq (l : List Int) (lo hi : Int) (hl : l.length ≤ 1048576) (k : Nat) (hk : l.length < k) : spec_l1All.f k l lo hi = some (allIn l lo hi) := by
  unfold spec_l1All.f allIn
  exact PK.all_loop0 l (fun k i => spec_l1All.l0 k lo hi l (l.length : Int) i) 0 (fun n => decide (lo ≤ n) && decide (n ≤ hi))
    (fun k i hi' _ => by
      try dsimp only
      simp only [spec_l1All.l0]
      rw [if_pos (by omega), if_pos (by omega), if_pos (by omega), PK.rd_at hi', l1In_eq, Option.bind_some, PK.w1 hi' (by omega)])
    (fun k _ => by
      try dsimp only
      simp only [spec_l1All.l0]
      rw [if_neg (by omega)])
    (by omega)
def D (b : UInt8) : Bool := decide (48 ≤ b.toNat) && decide (b.toNat ≤ 57)
def digB (s : ByteArray) : Bool := s.data.toList.all D
theorem dig_in (b : UInt8) : ([48, 49, 50, 51, 52, 53, 54, 55, 56, 57] : List UInt8).contains b = D b := by
  rw [Bool.eq_iff_iff, List.contains_iff_mem]
  unfold D
  simp only [List.mem_cons, List.not_mem_nil, or_false, Bool.and_eq_true, decide_eq_true_eq, ← UInt8.toNat_inj]
  show (b.toNat = 48 ∨ b.toNat = 49 ∨ b.toNat = 50 ∨ b.toNat = 51 ∨ b.toNat = 52 ∨ b.toNat = 53 ∨ b.toNat = 54 ∨ b.toNat = 55 ∨ b.toNat = 56 ∨ b.toNat = 57) ↔ _
  omega
theorem drop_nil (p : UInt8 → Bool) (l : List UInt8) : l.dropWhile p = [] ↔ ∀ x ∈ l, p x = true := by
  induction l with
  | nil => simp
  | cons a l ih =>
    rw [List.dropWhile_cons]
    by_cases h : p a = true
    · rw [if_pos h, ih]; simp [h]
    · rw [if_neg h]; simp [h]
theorem trim_nil (l cs : List UInt8) : (Lib.trimS l cs == []) = l.all (cs.contains ·) := by
  rw [Bool.eq_iff_iff, beq_iff_eq, List.all_eq_true]
  unfold Lib.trimS Lib.trimLeftS Lib.trimRightS
  rw [drop_nil]
  constructor
  · intro h x hx
    have h1 : x ∈ l.reverse.takeWhile (cs.contains ·) ++ l.reverse.dropWhile (cs.contains ·) := by rw [List.takeWhile_append_dropWhile]; simpa using hx
    rcases List.mem_append.1 h1 with h2 | h2
    · exact List.all_eq_true.1 (List.all_takeWhile) x h2
    · exact h x (by simpa using h2)
  · intro h x hx
    have h2 : x ∈ l.reverse.dropWhile (cs.contains ·) := by simpa using hx
    exact h x (by simpa using (List.dropWhile_sublist _).mem h2)
def nutsB (l : List ByteArray) : Bool := (decide (1 ≤ (l.length : Int)) && decide ((l.length : Int) ≤ 8)) && ((decide (1 ≤ ((l.getD 0 ByteArray.empty).size : Int)) && decide (((l.getD 0 ByteArray.empty).size : Int) ≤ 8)) && l.all fun r => ((r.size : Int) == ((l.getD 0 ByteArray.empty).size : Int)) && digB r)
theorem nuts_l1 (x0 : List ByteArray) (s : ByteArray) (hs : s.size ≤ 1000) (x18 : List ByteArray) (x19 x20 : Int) : ∀ (d k i : Nat), i + d = s.size → d < k → spec_ntGood.l1 k x0 s (i : Int) x18 x19 x20 = if (s.data.toList.drop i).all D = true then spec_ntGood.l0 (k - d - 1) x0 x18 x19 (wrap64 (x20 + 1)) else some false := by
  have hsz : s.data.toList.length = s.size := by rw [Array.length_toList]; rfl
  intro d
  induction d with
  | zero =>
    intro k i hi hk
    obtain ⟨k, rfl⟩ : ∃ q, k = q + 1 := ⟨k - 1, by omega⟩
    obtain rfl : i = s.size := by omega
    simp only [spec_ntGood.l1]
    rw [if_neg (by omega), List.drop_of_length_le (by omega)]
    rfl
  | succ d ih =>
    intro k i hi hk
    obtain ⟨k, rfl⟩ : ∃ q, k = q + 1 := ⟨k - 1, by omega⟩
    have hlt : i < s.size := by omega
    have hlt2 : i < s.data.toList.length := by omega
    have hb : bt s (i : Int) = (s.data.toList[i].toNat : Int) := by rw [PK.bt_at' hlt]; rfl
    simp only [spec_ntGood.l1]
    rw [if_pos (by omega), if_pos (by omega), hb, List.drop_eq_getElem_cons hlt2, List.all_cons, PK.w1 hlt (by omega)]
    unfold D
    by_cases c1 : (s.data.toList[i].toNat : Int) < 48
    · rw [if_pos c1, decide_eq_false (by omega), Bool.false_and, Bool.false_and, if_neg (by simp)]
    · rw [if_neg c1, decide_eq_true (by omega), Bool.true_and]
      by_cases c2 : (s.data.toList[i].toNat : Int) > 57
      · rw [if_pos c2, decide_eq_false (by omega), Bool.false_and, if_neg (by simp)]
      · rw [if_neg c2, decide_eq_true (by omega), Bool.true_and, ih k (i + 1) (by omega) (by omega)]
        unfold D
        rw [show k + 1 - (d + 1) - 1 = k - d - 1 by omega]
theorem nuts_l0 (l : List ByteArray) (h1 : 1 ≤ l.length) (hl : l.length ≤ 1000) (h8 : (l.getD 0 ByteArray.empty).size ≤ 8) : ∀ (d k i : Nat), i + d = l.length → 20 * d < k → spec_ntGood.l0 k l l (l.length : Int) (i : Int) = some ((l.drop i).all fun r => ((r.size : Int) == ((l.getD 0 ByteArray.empty).size : Int)) && digB r) := by
  have h00 : rdOf ByteArray.empty l 0 = l.getD 0 ByteArray.empty := rfl
  intro d
  induction d with
  | zero =>
    intro k i hi hk
    obtain ⟨k, rfl⟩ : ∃ q, k = q + 1 := ⟨k - 1, by omega⟩
    obtain rfl : i = l.length := by omega
    simp only [spec_ntGood.l0]
    rw [if_neg (by omega)]; simp
  | succ d ih =>
    intro k i hi hk
    obtain ⟨k, rfl⟩ : ∃ q, k = q + 1 := ⟨k - 1, by omega⟩
    have hlt : i < l.length := by omega
    have hrd : rdOf ByteArray.empty l (i : Int) = l[i] := PK.rdOf_at hlt _
    simp only [spec_ntGood.l0]
    rw [if_pos (by omega), if_pos (by omega), if_pos (by omega), if_pos (by omega), hrd, h00, List.drop_eq_getElem_cons hlt, List.all_cons]
    by_cases c : (l[i].size : Int) = ((l.getD 0 ByteArray.empty).size : Int)
    · have hn := nuts_l1 l l[i] (by omega) l (l.length : Int) (i : Int) l[i].size k 0 (by omega) (by omega)
      have e0 : ((0 : Nat) : Int) = 0 := rfl
      rw [e0, List.drop_zero] at hn
      rw [if_pos c, hn, beq_iff_eq.2 c, Bool.true_and]
      unfold digB
      by_cases e : l[i].data.toList.all D = true
      · rw [if_pos e, e, Bool.true_and, PK.w1 hlt (by omega), ih _ (i + 1) (by omega) (by omega)]
        unfold digB
        rfl
      · rw [if_neg e, Bool.eq_false_iff.2 e, Bool.false_and]
    · rw [if_neg c, beq_eq_false_iff_ne.2 c, Bool.false_and, Bool.false_and]
theorem nuts_s (l : List ByteArray) (hl : l.length ≤ 1048576) (k : Nat) (hk : 300 < k) : spec_ntGood.f k l = some (nutsB l) := by
  have h00 : rdOf ByteArray.empty l 0 = l.getD 0 ByteArray.empty := rfl
  obtain ⟨k, rfl⟩ : ∃ q, k = q + 1 := ⟨k - 1, by omega⟩
  unfold spec_ntGood.f nutsB
  rw [l1In_eq, Option.bind_some]
  by_cases c : (decide (1 ≤ (l.length : Int)) && decide ((l.length : Int) ≤ 8)) = true
  · rw [if_pos c, c, Bool.true_and]
    simp only [Bool.and_eq_true, decide_eq_true_eq] at c
    rw [if_pos (by omega), h00, l1In_eq, Option.bind_some]
    simp only [spec_ntGood.j0]
    by_cases e : (decide (1 ≤ ((l.getD 0 ByteArray.empty).size : Int)) && decide (((l.getD 0 ByteArray.empty).size : Int) ≤ 8)) = true
    · rw [e, Bool.true_and, if_neg (by simp)]
      simp only [Bool.and_eq_true, decide_eq_true_eq] at e
      have := nuts_l0 l (by omega) (by omega) (by omega) l.length k 0 (by omega) (by omega)
      simpa using this
    · rw [Bool.eq_false_iff.2 e, Bool.false_and, if_pos (by simp)]
  · rw [if_neg c, Bool.eq_false_iff.2 c, Bool.false_and]
    simp only [spec_ntGood.j0]
    rw [if_pos trivial]
theorem nuts_i (l : List ByteArray) (hl : l.length ≤ 1048576) : impl_AreNuts.f l = some (nutsB l) := by
  unfold impl_AreNuts.f impl_areRows.f nutsB
  rw [if_pos (by omega), if_pos (by decide), if_pos (by decide), Option.bind_some]
  by_cases c : (decide (1 ≤ (l.length : Int)) && decide ((l.length : Int) ≤ 8)) = true
  · rw [c, Bool.true_and, Bool.true_and]
    simp only [Bool.and_eq_true, decide_eq_true_eq] at c
    congr 1
    obtain ⟨y, ys, rfl⟩ : ∃ y ys, l = y :: ys := by
      cases l with
      | nil => simp at c
      | cons y ys => exact ⟨y, ys, rfl⟩
    have h0 : (y :: ys).getD 0 ByteArray.empty = y := rfl
    rw [h0]
    have hb : ∀ x, impl_areRows.bad (y.size : Int) 8 ⟨#[48, 49, 50, 51, 52, 53, 54, 55, 56, 57]⟩ x = !(((x.size : Int) == (y.size : Int)) && ((decide (1 ≤ (x.size : Int)) && decide ((x.size : Int) ≤ 8)) && digB x)) := by
      intro x
      unfold impl_areRows.bad digB
      have ht := trim_nil x.data.toList [48, 49, 50, 51, 52, 53, 54, 55, 56, 57]
      have e : (fun b => ([48, 49, 50, 51, 52, 53, 54, 55, 56, 57] : List UInt8).contains b) = D := funext dig_in
      rw [e] at ht
      show (!((x.size : Int) == (y.size : Int)) || !(decide (1 ≤ (x.size : Int)) && decide ((x.size : Int) ≤ 8)) || !(Lib.trimS x.data.toList [48, 49, 50, 51, 52, 53, 54, 55, 56, 57] == [])) = _
      rw [ht]
      cases ((x.size : Int) == (y.size : Int)) <;> cases (decide (1 ≤ (x.size : Int)) && decide ((x.size : Int) ≤ 8)) <;> cases (x.data.toList.all D) <;> rfl
    rw [Bool.eq_iff_iff]
    simp only [Bool.not_eq_true', Bool.and_eq_true, decide_eq_true_eq, List.any_eq_false, List.all_eq_true, hb, Bool.not_eq_false, Bool.not_not, beq_iff_eq]
    constructor
    · intro h
      have hy := h y (by simp)
      exact ⟨hy.2.1, fun x hx => ⟨(h x hx).1, (h x hx).2.2⟩⟩
    · rintro ⟨h1, h2⟩ x hx
      have := h2 x hx
      exact ⟨this.1, by omega, this.2⟩
  · rw [Bool.eq_false_iff.2 c, Bool.false_and, Bool.false_and]
def lenIn (l : List Int) (m : Int) : Bool := decide (1 ≤ (l.length : Int)) && decide ((l.length : Int) ≤ m)
theorem strips_s (l : List Int) (hl : l.length ≤ 1048576) (k : Nat) (hk : l.length < k) : spec_laStrips.f k l 1 = some (lenIn l 8 && allIn l 1 60) := by
  unfold spec_laStrips.f lenIn
  rw [l1In_eq, Option.bind_some, l1All_eq l 1 60 hl k hk]
  by_cases c : (decide (1 ≤ (l.length : Int)) && decide ((l.length : Int) ≤ 8)) = true
  · rw [if_pos c, c, Bool.true_and, Option.bind_some]
    by_cases e : allIn l 1 60 = true
    · rw [if_pos e, e, l1In_eq]; rfl
    · rw [if_neg e, Bool.eq_false_iff.2 e]
  · rw [if_neg c, Bool.eq_false_iff.2 c, Bool.false_and]
theorem strips_i (l : List Int) : impl_areStrips.f l = some (lenIn l 8 && allIn l 1 60) := by
  unfold impl_areStrips.f impl_areWithin.f lenIn allIn
  rw [within_eq, Option.bind_some, Option.bind_some]
  by_cases c : (decide (1 ≤ (l.length : Int)) && decide ((l.length : Int) ≤ 8)) = true
  · rw [if_pos c, c, Bool.true_and]
  · rw [if_neg c, Bool.eq_false_iff.2 c, Bool.false_and]
theorem weights_s (l : List Int) (hl : l.length ≤ 1048576) (k : Nat) (hk : l.length < k) : spec_skGood.f k l = some (lenIn l 12 && allIn l 1 1000) := by
  unfold spec_skGood.f lenIn
  rw [l1In_eq, Option.bind_some, l1All_eq l 1 1000 hl k hk, Option.bind_some]
  by_cases c : (decide (1 ≤ (l.length : Int)) && decide ((l.length : Int) ≤ 12)) = true
  · rw [if_pos c, c, Bool.true_and]
  · rw [if_neg c, Bool.eq_false_iff.2 c, Bool.false_and]
theorem weights_i (l : List Int) : impl_AreWeights.f l = some (lenIn l 12 && allIn l 1 1000) := by
  unfold impl_AreWeights.f impl_areWithin.f lenIn allIn
  rw [within_eq, Option.bind_some, Option.bind_some]
  by_cases c : (decide (1 ≤ (l.length : Int)) && decide ((l.length : Int) ≤ 12)) = true
  · rw [if_pos c, c, Bool.true_and]
  · rw [if_neg c, Bool.eq_false_iff.2 c, Bool.false_and]
theorem slabs_i (l : List S108) : impl_AreSlabs.f l = some ((decide (1 ≤ l.length) && decide (l.length ≤ 7)) && l.all slabB) := by
  unfold impl_AreSlabs.f
  rw [show impl_AreSlabs.slabB = slabB from funext fun x => by unfold impl_AreSlabs.slabB slabB; simp [Bool.and_assoc]]
theorem both (a b : Int) (n : List ByteArray) (s w : List Int) (l : List S108) (hn : n.length ≤ 1048576) (hs : s.length ≤ 1048576) (hw : w.length ≤ 1048576) (hl : l.length ≤ 1048576) (k : Nat) (hk : s.length < k) (hk2 : w.length < k) (hk3 : l.length < k) (hk4 : 300 < k) :
    ∃ r : Bool, spec_IsDesk.f k a b n s w l = some r ∧ impl_IsDesk.f a b n s w l = some r := by
  unfold spec_IsDesk.f spec_cnGood.f impl_IsDesk.f
  rw [bar_s, bar_i, nuts_s n hn k hk4, nuts_i n hn, strips_s s hs k hk, strips_i, weights_s w hw k hk2, weights_i, skSlabs_eq l hl k hk3, slabs_i]
  simp only [Option.bind_some]
  cases barB a b <;> cases nutsB n <;> cases (lenIn s 8 && allIn s 1 60) <;> cases (lenIn w 12 && allIn w 1 1000) <;> cases ((decide (1 ≤ l.length) && decide (l.length ≤ 7)) && l.all slabB) <;> exact ⟨_, rfl, rfl⟩
theorem FnExactIsDesk : laws_FnExactIsDesk.Pure := by
  intro a b n s w l _ _ hn hs hw hl
  refine ⟨n.length + s.length + w.length + l.length + 400, ?_⟩
  generalize hK : n.length + s.length + w.length + l.length + 400 = K
  unfold laws_FnExactIsDesk.f laws_szDesk.f
  rcases szStringS_cases n hn.1 hn.2 1048576 (by omega) (by omega) K (by omega) with ⟨t, h, h1⟩ | ⟨t, h, h1, h2, h3, h4⟩
  · rw [h, Option.bind_some, if_pos h1, Option.bind_some, if_pos (by omega)]
  rw [h, Option.bind_some, if_neg (by omega)]
  rcases szIntS_cases s hs.1 t h1 h2 with ⟨t2, g, g1⟩ | ⟨t2, g, g1, g2, g3⟩
  · rw [g, Option.bind_some, if_pos g1, Option.bind_some, if_pos (by omega)]
  rw [g, Option.bind_some, if_neg (by omega)]
  rcases szIntS_cases w hw.1 t2 g1 g2 with ⟨t3, e, e1⟩ | ⟨t3, e, e1, e2, e3⟩
  · rw [e, Option.bind_some, if_pos e1, Option.bind_some, if_pos (by omega)]
  rw [e, Option.bind_some, if_neg (by omega)]
  have hll : laws_szSlabS.f l t3 = laws_szSlabS.f l t3 := rfl
  have hlm := hl.1
  unfold maxLen at hlm
  have hwr : wrap64 (t3 - (l.length : Int)) = t3 - (l.length : Int) := PK.wrap_in (by omega) (by omega)
  by_cases c : t3 - (l.length : Int) < 0
  · unfold laws_szSlabS.f
    rw [hwr, if_pos c, Option.bind_some, if_pos (by omega), Option.bind_some, if_pos (by omega)]
  have hsl : laws_szSlabS.f l t3 = some (t3 - (l.length : Int)) := by unfold laws_szSlabS.f; rw [hwr, if_neg c]
  have hl6 : l.length ≤ 1048576 := by omega
  rw [hsl, Option.bind_some, if_neg (by omega), Option.bind_some, if_neg (by omega)]
  have hm : (l.map toSl).length = l.length := by simp
  have hd : laws_toDesk.f K a b n s w l = some (a, b, n, s, w, l.map toSl) := by
    unfold laws_toDesk.f laws_toBar.f
    rw [Option.bind_some, toStringS_eq n h3 K (by omega), Option.bind_some, toIntS_eq s g3 K (by omega), Option.bind_some, toIntS_eq w e3 K (by omega), Option.bind_some, toSlabS_eq l hl6 K (by omega), Option.bind_some]
  obtain ⟨r, h5, h6⟩ := both a b n s w (l.map toSl) h3 g3 e3 (by omega) K (by omega) (by omega) (by omega) (by omega)
  have hq : laws_eqDesk.f K a b n s w (l.map toSl) a b n s w (l.map toSl) = some true := by
    unfold laws_eqDesk.f laws_eqBar.f
    rw [if_pos rfl, if_pos rfl, Option.bind_some, if_pos rfl, eqStringS_refl n h3 K (by omega), Option.bind_some, if_pos rfl, eqIntS_refl s g3 K (by omega), Option.bind_some, if_pos rfl, eqIntS_refl w e3 K (by omega), Option.bind_some, if_pos rfl, eqSlabS_refl _ (by omega) K (by omega), Option.bind_some, if_pos rfl]
  rw [hd, Option.bind_some]
  dsimp only
  rw [h5, Option.bind_some, Option.bind_some]
  dsimp only
  rw [h6, Option.bind_some, if_neg (by simp), Option.bind_some]
  dsimp only
  rw [hq, Option.bind_some, if_pos rfl]
end Go.Proofs.YtipiocdppghhnaaDoor.Pure
