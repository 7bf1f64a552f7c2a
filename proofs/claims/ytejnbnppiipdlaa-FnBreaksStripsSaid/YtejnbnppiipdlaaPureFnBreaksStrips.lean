/- The games with strips: values are the least numbers that no pair of parts has, moves, lost lengths, good moves and plays of both sides agree, good moves leave strips lost (the rule of xor), and plays are no longer than the longest; the facts on single strips come from tables of all strips up to 60 that the kernel checks. Conditions: none. -/
import Derived.Test.YtejnbnppiipdlaaStFnBreaksStrips
import Derived.Test.YtejnbnppiipdlaaPK
namespace Go.Proofs.Ytejnbnppiipdlaa.Pure
open Go.RowKit Go.Proofs.Ytejnbnppiipdlaa.PFnBreaksStrips Go.Proofs.YtejnbnppiipdlaaW.PrintWords Go.Proofs.YtejnbnppiipdlaaW.PrintLast Go.Proofs.YtejnbnppiipdlaaW.PrintMore
set_option linter.unusedVariables false
set_option linter.unusedSimpArgs false

theorem l1In_eq (a b c : Int) : spec_l1In.f a b c = some (decide (b ≤ a) && decide (a ≤ c)) := by
  unfold spec_l1In.f
  by_cases h : b ≤ a
  · rw [if_pos h]; simp [h]
  · rw [if_neg h]; simp [h]
theorem within_eq (a b c : Int) : impl_within.f a b c = some (decide (b ≤ a) && decide (a ≤ c)) := by
  unfold impl_within.f
  by_cases h : b ≤ a
  · rw [if_pos h]; simp [h]
  · rw [if_neg h]; simp [h]

theorem l1All_eq (l : List Int) (hl : l.length ≤ 4611686018427387904) (a b : Int) (k : Nat) (hk : l.length < k) : spec_l1All.f k l a b = some (l.all fun n => decide (a ≤ n) && decide (n ≤ b)) := by
  unfold spec_l1All.f
  exact PK.all_loop0 l (fun k i => spec_l1All.l0 k a b l (l.length : Int) i) 0 (fun n => decide (a ≤ n) && decide (n ≤ b))
    (fun k i hi _ => by
      try dsimp only
      simp only [spec_l1All.l0]
      rw [if_pos (by omega), if_pos (by omega), if_pos (by omega), PK.rd_at hi, l1In_eq, Option.bind_some, PK.w1 hi hl])
    (fun k _ => by
      try dsimp only
      simp only [spec_l1All.l0]
      rw [if_neg (by omega)])
    (by omega)

def tot (l : List Nat) : Nat := l.foldl (fun a x => a ^^^ x) 0
theorem tot_go (l : List Nat) (a : Nat) : l.foldl (fun a x => a ^^^ x) a = a ^^^ tot l := by
  unfold tot
  induction l generalizing a with
  | nil => simp
  | cons x l ih => rw [List.foldl_cons, List.foldl_cons, ih, ih (0 ^^^ x), Nat.zero_xor, Nat.xor_assoc]
theorem tot_cons (x : Nat) (l : List Nat) : tot (x :: l) = x ^^^ tot l := by
  show l.foldl (fun a x => a ^^^ x) (0 ^^^ x) = _
  rw [tot_go, Nat.zero_xor]
theorem tot_lt (l : List Nat) (h : ∀ x ∈ l, x < 16) : tot l < 16 := by
  induction l with
  | nil => decide
  | cons x l ih =>
    rw [tot_cons]
    exact Nat.xor_lt_two_pow (n := 4) (h x List.mem_cons_self) (ih fun y hy => h y (List.mem_cons_of_mem _ hy))
theorem tot_set (l : List Nat) (i : Nat) (hi : i < l.length) (y : Nat) : tot (l.set i y) = tot l ^^^ l[i] ^^^ y := by
  induction l generalizing i with
  | nil => simp at hi
  | cons x l ih =>
    cases i with
    | zero =>
      rw [List.set_cons_zero, tot_cons, tot_cons, List.getElem_cons_zero, Nat.xor_comm x, Nat.xor_assoc, Nat.xor_assoc, ← Nat.xor_assoc x, Nat.xor_self, Nat.zero_xor, Nat.xor_comm]
    | succ i =>
      have hi' : i < l.length := by simpa using hi
      rw [List.set_cons_succ, tot_cons, tot_cons, ih i hi', List.getElem_cons_succ, Nat.xor_assoc, Nat.xor_assoc, Nat.xor_assoc]
theorem tot_bit (l : List Nat) (t : Nat) (h : ∀ x ∈ l, x.testBit t = false) : (tot l).testBit t = false := by
  induction l with
  | nil => simp [tot]
  | cons x l ih =>
    rw [tot_cons, Nat.testBit_xor, h x List.mem_cons_self, ih fun y hy => h y (List.mem_cons_of_mem _ hy)]; rfl
theorem nim_table : ((List.range 16).all fun x => (List.range 16).all fun T => T == 0 || !x.testBit T.log2 || decide (x ^^^ T < x)) = true := by decide +kernel
theorem top_table : ((List.range 16).all fun T => T == 0 || T.testBit T.log2) = true := by decide +kernel
theorem nim (l : List Nat) (h : ∀ x ∈ l, x < 16) (h0 : tot l ≠ 0) : ∃ x ∈ l, x ^^^ tot l < x := by
  have hT := tot_lt l h
  have h1 := List.all_eq_true.1 top_table (tot l) (List.mem_range.2 hT)
  have hb : (tot l).testBit (tot l).log2 = true := by simpa [h0] using h1
  by_cases c : ∃ x ∈ l, x.testBit (tot l).log2 = true
  · obtain ⟨x, hx, hxb⟩ := c
    refine ⟨x, hx, ?_⟩
    have h2 := List.all_eq_true.1 (List.all_eq_true.1 nim_table x (List.mem_range.2 (h x hx))) (tot l) (List.mem_range.2 hT)
    simpa [h0, hxb] using h2
  · have := tot_bit l (tot l).log2 (fun x hx => by
      cases hq : x.testBit (tot l).log2 with
      | false => rfl
      | true => exact absurd ⟨x, hx, hq⟩ c)
    rw [this] at hb; cases hb

/-! strips: values and plays as tables, and what all of them have -/
def can (L : Nat) (u : Bool) (n a : Nat) : Bool := decide (L ≤ a) && decide (L ≤ n - a) && (!u || !(2 * a == n))
def mv (L : Nat) (u : Bool) (n : Nat) : List Nat := (List.range' 1 (n / 2)).filter (can L u n)
def nmexGo (S : List Nat) : Nat → Nat → Nat
  | 0, i => i
  | k + 1, i => if S.contains i then nmexGo S k (i + 1) else i
def nmex (S : List Nat) : Nat := nmexGo S S.length 0
def nbest (mx : Bool) : List Nat → Nat
  | [] => 0
  | x :: r => r.foldl (fun a y => if (if mx then Nat.blt a y else Nat.blt y a) then y else a) x
def okAt (L : Nat) (u : Bool) (n : Nat) (ms V M F : List Nat) : Bool :=
  match V, M, F with
  | v :: _, m :: M', f :: F' =>
    (decide (v < 16) && ((ms.isEmpty == (m == 0)) && ((f == 0) == (m == 0)) && Nat.ble f m && (m == 0 || Nat.ble m (n / L - 1)) && (u || m == 0 || m == n / L - 1))) &&
    ms.all fun a => Nat.ble (M'.getD (n - 1 - a) 0 + M'.getD (a - 1) 0 + 1) m && Nat.ble f (F'.getD (n - 1 - a) 0 + F'.getD (a - 1) 0 + 1)
  | _, _, _ => false
/-- The tables up to n, the last first, and whether all is well. -/
def okTo (L : Nat) (u : Bool) : Nat → Bool × (List Nat × List Nat × List Nat)
  | 0 => (true, ([0], [0], [0]))
  | n + 1 => match okTo L u n with
    | (b, V, M, F) =>
      let ms := mv L u (n + 1)
      let V2 := nmex (ms.map fun a => V.getD (n - a) 0 ^^^ V.getD (a - 1) 0) :: V
      let M2 := nbest true (ms.map fun a => 1 + M.getD (n - a) 0 + M.getD (a - 1) 0) :: M
      let F2 := nbest false (ms.map fun a => 1 + F.getD (n - a) 0 + F.getD (a - 1) 0) :: F
      (b && okAt L u (n + 1) ms V2 M2 F2, V2, M2, F2)
theorem str_tab : ((List.range 60).all fun L => (okTo (L + 1) true 60).1 && (okTo (L + 1) false 60).1) = true := by decide +kernel
def VT (L : Nat) (u : Bool) (n : Nat) : List Nat := (okTo L u n).2.1
def MT (L : Nat) (u : Bool) (n : Nat) : List Nat := (okTo L u n).2.2.1
def FT (L : Nat) (u : Bool) (n : Nat) : List Nat := (okTo L u n).2.2.2
def V (L : Nat) (u : Bool) (n : Nat) : Nat := (VT L u n).getD 0 0
def M (L : Nat) (u : Bool) (n : Nat) : Nat := (MT L u n).getD 0 0
def F (L : Nat) (u : Bool) (n : Nat) : Nat := (FT L u n).getD 0 0
theorem VT_succ (L : Nat) (u : Bool) (n : Nat) : VT L u (n + 1) = nmex ((mv L u (n + 1)).map fun a => (VT L u n).getD (n - a) 0 ^^^ (VT L u n).getD (a - 1) 0) :: VT L u n := rfl
theorem MT_succ (L : Nat) (u : Bool) (n : Nat) : MT L u (n + 1) = nbest true ((mv L u (n + 1)).map fun a => 1 + (MT L u n).getD (n - a) 0 + (MT L u n).getD (a - 1) 0) :: MT L u n := rfl
theorem FT_succ (L : Nat) (u : Bool) (n : Nat) : FT L u (n + 1) = nbest false ((mv L u (n + 1)).map fun a => 1 + (FT L u n).getD (n - a) 0 + (FT L u n).getD (a - 1) 0) :: FT L u n := rfl
theorem VT_at (L : Nat) (u : Bool) : ∀ (n i : Nat), i ≤ n → (VT L u n).getD (n - i) 0 = V L u i := by
  intro n
  induction n with
  | zero => intro i hi; obtain rfl : i = 0 := by omega
            rfl
  | succ n ih =>
    intro i hi
    by_cases c : i = n + 1
    · rw [c, Nat.sub_self]; rfl
    · rw [VT_succ, show n + 1 - i = (n - i) + 1 by omega, List.getD_cons_succ]
      exact ih i (by omega)
theorem MT_at (L : Nat) (u : Bool) : ∀ (n i : Nat), i ≤ n → (MT L u n).getD (n - i) 0 = M L u i := by
  intro n
  induction n with
  | zero => intro i hi; obtain rfl : i = 0 := by omega
            rfl
  | succ n ih =>
    intro i hi
    by_cases c : i = n + 1
    · rw [c, Nat.sub_self]; rfl
    · rw [MT_succ, show n + 1 - i = (n - i) + 1 by omega, List.getD_cons_succ]
      exact ih i (by omega)
theorem FT_at (L : Nat) (u : Bool) : ∀ (n i : Nat), i ≤ n → (FT L u n).getD (n - i) 0 = F L u i := by
  intro n
  induction n with
  | zero => intro i hi; obtain rfl : i = 0 := by omega
            rfl
  | succ n ih =>
    intro i hi
    by_cases c : i = n + 1
    · rw [c, Nat.sub_self]; rfl
    · rw [FT_succ, show n + 1 - i = (n - i) + 1 by omega, List.getD_cons_succ]
      exact ih i (by omega)
theorem mv_in {L : Nat} {u : Bool} {n a : Nat} (h : a ∈ mv L u n) : 1 ≤ a ∧ 2 * a ≤ n ∧ L ≤ a ∧ L ≤ n - a ∧ (u = true → 2 * a ≠ n) := by
  unfold mv at h
  rw [List.mem_filter, List.mem_range'] at h
  obtain ⟨⟨j, hj, rfl⟩, h2⟩ := h
  unfold can at h2
  simp only [Bool.and_eq_true, decide_eq_true_eq, Bool.or_eq_true, Bool.not_eq_true', beq_eq_false_iff_ne] at h2
  refine ⟨by omega, by omega, h2.1.1, h2.1.2, fun hu => ?_⟩
  rcases h2.2 with h3 | h3
  · rw [hu] at h3; cases h3
  · exact h3
theorem V_eq (L : Nat) (u : Bool) (n : Nat) : V L u (n + 1) = nmex ((mv L u (n + 1)).map fun a => V L u a ^^^ V L u (n + 1 - a)) := by
  have e : V L u (n + 1) = nmex ((mv L u (n + 1)).map fun a => (VT L u n).getD (n - a) 0 ^^^ (VT L u n).getD (a - 1) 0) := rfl
  rw [e]
  congr 1
  apply List.map_congr_left
  intro a ha
  have h := mv_in ha
  rw [VT_at L u n a (by omega), show a - 1 = n - (n + 1 - a) by omega, VT_at L u n (n + 1 - a) (by omega)]
theorem M_eq (L : Nat) (u : Bool) (n : Nat) : M L u (n + 1) = nbest true ((mv L u (n + 1)).map fun a => 1 + M L u a + M L u (n + 1 - a)) := by
  have e : M L u (n + 1) = nbest true ((mv L u (n + 1)).map fun a => 1 + (MT L u n).getD (n - a) 0 + (MT L u n).getD (a - 1) 0) := rfl
  rw [e]
  congr 1
  apply List.map_congr_left
  intro a ha
  have h := mv_in ha
  rw [MT_at L u n a (by omega), show a - 1 = n - (n + 1 - a) by omega, MT_at L u n (n + 1 - a) (by omega)]
theorem F_eq (L : Nat) (u : Bool) (n : Nat) : F L u (n + 1) = nbest false ((mv L u (n + 1)).map fun a => 1 + F L u a + F L u (n + 1 - a)) := by
  have e : F L u (n + 1) = nbest false ((mv L u (n + 1)).map fun a => 1 + (FT L u n).getD (n - a) 0 + (FT L u n).getD (a - 1) 0) := rfl
  rw [e]
  congr 1
  apply List.map_congr_left
  intro a ha
  have h := mv_in ha
  rw [FT_at L u n a (by omega), show a - 1 = n - (n + 1 - a) by omega, FT_at L u n (n + 1 - a) (by omega)]
theorem ok_one {L : Nat} {u : Bool} (hL : 1 ≤ L ∧ L ≤ 60) : (okTo L u 60).1 = true := by
  have h := List.all_eq_true.1 str_tab (L - 1) (List.mem_range.2 (by omega))
  rw [show L - 1 + 1 = L by omega, Bool.and_eq_true] at h
  cases u
  · exact h.2
  · exact h.1
theorem ok_down {L : Nat} {u : Bool} {n : Nat} (h : (okTo L u (n + 1)).1 = true) : (okTo L u n).1 = true ∧ okAt L u (n + 1) (mv L u (n + 1)) (VT L u (n + 1)) (MT L u (n + 1)) (FT L u (n + 1)) = true := by
  have e : (okTo L u (n + 1)).1 = ((okTo L u n).1 && okAt L u (n + 1) (mv L u (n + 1)) (VT L u (n + 1)) (MT L u (n + 1)) (FT L u (n + 1))) := rfl
  rw [e, Bool.and_eq_true] at h
  exact h
theorem ok_to {L : Nat} {u : Bool} (hL : 1 ≤ L ∧ L ≤ 60) : ∀ (d n : Nat), n + d = 60 → (okTo L u n).1 = true := by
  intro d
  induction d with
  | zero => intro n hn; obtain rfl : n = 60 := by omega
            exact ok_one hL
  | succ d ih => intro n hn; exact (ok_down (ih (n + 1) (by omega))).1
structure Facts (L : Nat) (u : Bool) (n : Nat) : Prop where
  lt : V L u n < 16
  empty : mv L u n = [] ↔ M L u n = 0
  few : F L u n = 0 ↔ M L u n = 0
  le : F L u n ≤ M L u n
  most : M L u n = 0 ∨ M L u n ≤ n / L - 1
  just : u = true ∨ M L u n = 0 ∨ M L u n = n / L - 1
  part : ∀ a ∈ mv L u n, M L u a + M L u (n - a) + 1 ≤ M L u n ∧ F L u n ≤ F L u a + F L u (n - a) + 1
theorem facts {L : Nat} {u : Bool} {n : Nat} (hL : 1 ≤ L ∧ L ≤ 60) (hn : 1 ≤ n ∧ n ≤ 60) : Facts L u n := by
  obtain ⟨n, rfl⟩ : ∃ m, n = m + 1 := ⟨n - 1, by omega⟩
  have h := (ok_down (ok_to (u := u) hL (60 - (n + 1)) (n + 1) (by omega))).2
  have eV : VT L u (n + 1) = V L u (n + 1) :: VT L u n := rfl
  have eM : MT L u (n + 1) = M L u (n + 1) :: MT L u n := rfl
  have eF : FT L u (n + 1) = F L u (n + 1) :: FT L u n := rfl
  rw [eV, eM, eF] at h
  simp only [okAt, Bool.and_eq_true, decide_eq_true_eq, beq_iff_eq, Bool.or_eq_true, List.all_eq_true, Nat.ble_eq] at h
  obtain ⟨⟨h1, ⟨⟨⟨h2, h3⟩, h4⟩, h5⟩, h6⟩, h7⟩ := h
  refine ⟨h1, ?_, ?_, h4, h5, ?_, fun a ha => ?_⟩
  · rw [← List.isEmpty_iff, h2]; simp
  · have := h3
    by_cases c : M L u (n + 1) = 0
    · rw [c] at this; simpa [c] using this
    · have h8 : (M L u (n + 1) == 0) = false := beq_eq_false_iff_ne.2 c
      rw [h8] at this
      have h9 := beq_eq_false_iff_ne.1 this
      exact ⟨fun e => absurd e h9, fun e => absurd e c⟩
  · rcases h6 with (h6 | h6) | h6
    · exact .inl h6
    · exact .inr (.inl h6)
    · exact .inr (.inr h6)
  · have hm := mv_in ha
    have h8 := h7 a ha
    rw [show n + 1 - 1 - a = n - a by omega, MT_at L u n a (by omega), FT_at L u n a (by omega), show a - 1 = n - (n + 1 - a) by omega, MT_at L u n (n + 1 - a) (by omega), FT_at L u n (n + 1 - a) (by omega)] at h8
    exact h8
theorem nmexGo_spec (S : List Nat) : ∀ (k i : Nat), i + k = S.length → (∀ j, j < i → j ∈ S) → Chomp.mexGo (S.map fun (x : Nat) => (x : Int)) k i = nmexGo S k i := by
  intro k
  induction k with
  | zero => intro i _ _; rfl
  | succ k ih =>
    intro i hi hj
    unfold Chomp.mexGo nmexGo
    by_cases c : i ∈ S
    · rw [if_pos (List.mem_map.2 ⟨i, c, rfl⟩), if_pos (List.contains_iff_mem.2 c)]
      exact ih (i + 1) (by omega) (fun j h => by
        by_cases e : j = i
        · rw [e]; exact c
        · exact hj j (by omega))
    · rw [if_neg (fun h => by obtain ⟨x, hx, e⟩ := List.mem_map.1 h; obtain rfl : x = i := by omega
                              exact c hx), if_neg (fun h => c (List.contains_iff_mem.1 h))]
theorem nmex_eq (S : List Nat) : Chomp.mex (S.map fun (x : Nat) => (x : Int)) = nmex S := by
  unfold Chomp.mex nmex
  rw [List.length_map]
  exact nmexGo_spec S S.length 0 (by omega) (fun j h => by omega)
theorem V_mex {L : Nat} {u : Bool} {n : Nat} (hn : 1 ≤ n) : V L u n ∉ (mv L u n).map (fun a => V L u a ^^^ V L u (n - a)) ∧ ∀ j, j < V L u n → j ∈ (mv L u n).map (fun a => V L u a ^^^ V L u (n - a)) := by
  obtain ⟨n, rfl⟩ : ∃ m, n = m + 1 := ⟨n - 1, by omega⟩
  have h := Chomp.mex_spec (((mv L u (n + 1)).map (fun a => V L u a ^^^ V L u (n + 1 - a))).map fun (x : Nat) => (x : Int))
  rw [nmex_eq, ← V_eq] at h
  refine ⟨fun hm => h.1 (List.mem_map.2 ⟨_, hm, rfl⟩), fun j hj => ?_⟩
  obtain ⟨x, hx, e⟩ := List.mem_map.1 (h.2 j hj)
  obtain rfl : x = j := by omega
  exact hx

/-! strips: moves, values and plays of both sides in closed form -/
def ints (l : List Nat) : List Int := l.map fun (a : Nat) => (a : Int)
def VL (L : Nat) (u : Bool) (n : Nat) : List Int := (List.range (n + 1)).map fun i => (V L u i : Int)
def ML (L : Nat) (u : Bool) (n : Nat) : List Int := (List.range (n + 1)).map fun i => (M L u i : Int)
def FL (L : Nat) (u : Bool) (n : Nat) : List Int := (List.range (n + 1)).map fun i => (F L u i : Int)
theorem tl_at {f : Nat → Nat} {n i : Nat} (h : i ≤ n) : ((List.range (n + 1)).map fun j => (f j : Int)).getD i 0 = (f i : Int) := by
  rw [List.getD_eq_getElem?_getD, List.getElem?_map, List.getElem?_range (by omega)]; rfl
theorem tl_succ {f : Nat → Nat} (n : Nat) : ((List.range (n + 2)).map fun j => (f j : Int)) = ((List.range (n + 1)).map fun j => (f j : Int)) ++ [(f (n + 1) : Int)] := by
  rw [show n + 2 = (n + 1) + 1 by omega, List.range_succ, List.map_append]; rfl
theorem strip_eq (a : Int) : impl_isStrip.f a = some (decide (1 ≤ a ∧ a ≤ 60)) := by
  unfold impl_isStrip.f
  rw [within_eq, Option.bind_some, ← Bool.decide_and]
theorem can_eq {L n a : Nat} (u : Bool) (hL : L ≤ 100) (hn : n ≤ 1000) (ha : 2 * a ≤ n) : impl_rule_can.f (L : Int) u (n : Int) (a : Int) = some (can L u n a) := by
  unfold impl_rule_can.f can
  have hw : wrap64 ((n : Int) - (a : Int)) = ((n - a : Nat) : Int) := by rw [PK.wrap_in (by omega) (by omega)]; omega
  have hw2 : wrap64 (2 * (a : Int)) = ((2 * a : Nat) : Int) := by rw [PK.wrap_in (by omega) (by omega)]; omega
  rw [hw, hw2]
  by_cases c1 : L ≤ a
  · rw [if_pos (by omega), decide_eq_true c1, Bool.true_and]
    by_cases c2 : L ≤ n - a
    · rw [if_pos (by omega), decide_eq_true c2, Bool.true_and]
      cases u with
      | true =>
        rw [if_pos rfl]
        congr 1
        by_cases c3 : 2 * a = n
        · rw [c3]; simp
        · rw [bne_iff_ne.2 (show ((2 * a : Nat) : Int) ≠ (n : Int) by omega), beq_eq_false_iff_ne.2 c3]; rfl
      | false => rw [if_neg (by simp)]; rfl
    · rw [if_neg (by omega), decide_eq_false c2]; rfl
  · rw [if_neg (by omega), decide_eq_false c1]; rfl
theorem canS_eq {L n a : Nat} (u : Bool) (hL : L ≤ 100) (hn : n ≤ 1000) (ha : 2 * a ≤ n) : spec_laCan.f (n : Int) (a : Int) (L : Int) u = some (can L u n a) := by
  unfold spec_laCan.f can
  have hw : wrap64 ((n : Int) - (a : Int)) = ((n - a : Nat) : Int) := by rw [PK.wrap_in (by omega) (by omega)]; omega
  rw [hw]
  by_cases c1 : L ≤ a
  · rw [if_pos (by omega), decide_eq_true c1, Bool.true_and]
    by_cases c2 : L ≤ n - a
    · rw [if_pos (by omega), decide_eq_true c2, Bool.true_and]
      cases u with
      | true =>
        rw [if_pos rfl]
        congr 1
        by_cases c3 : 2 * a = n
        · have e : n - a = a := by omega
          rw [e, c3]; simp
        · rw [bne_iff_ne.2 (show (a : Int) ≠ ((n - a : Nat) : Int) by omega), beq_eq_false_iff_ne.2 c3]; rfl
      | false => rw [if_neg (by simp)]; rfl
    · rw [if_neg (by omega), decide_eq_false c2]; rfl
  · rw [if_neg (by omega), decide_eq_false c1]; rfl
theorem two_le {a n : Nat} (hn : n ≤ 1000) (ha : a ≤ 1000) : (wrap64 (2 * (a : Int)) ≤ (n : Int)) ↔ 2 * a ≤ n := by
  rw [PK.wrap_in (by omega) (by omega)]; omega
theorem filt_succ (p : Nat → Bool) (i d : Nat) : (List.range' i (d + 1)).filter p = (if p i then [i] else []) ++ (List.range' (i + 1) d).filter p := by
  rw [List.range'_succ, List.filter_cons]
  cases p i <;> rfl
theorem moves_run (L : Nat) (u : Bool) (n : Nat) (hL : L ≤ 100) (hn : n ≤ 100) : ∀ (d k a : Nat) (acc : List Int), a + d = n / 2 + 1 → 1 ≤ a → d < k → acc.length + d ≤ 1000 →
    impl_rule_moves.l0 k (n : Int) acc (a : Int) (L : Int) u = some (acc ++ ints ((List.range' a d).filter (can L u n))) := by
  intro d
  induction d with
  | zero =>
    intro k a acc ha h1 hk hl
    obtain ⟨k, rfl⟩ : ∃ q, k = q + 1 := ⟨k - 1, by omega⟩
    simp only [impl_rule_moves.l0]
    rw [if_neg (by rw [two_le (by omega) (by omega)]; omega)]; simp [ints]
  | succ d ih =>
    intro k a acc ha h1 hk hl
    obtain ⟨k, rfl⟩ : ∃ q, k = q + 1 := ⟨k - 1, by omega⟩
    simp only [impl_rule_moves.l0]
    rw [if_pos (by rw [two_le (by omega) (by omega)]; omega), can_eq u hL (by omega) (by omega), Option.bind_some, PK.w1 (show a < 1000 by omega) (by omega), filt_succ]
    cases hc : can L u n a with
    | true =>
      rw [if_pos rfl, if_pos (by omega), ih k (a + 1) _ (by omega) (by omega) (by omega) (by rw [List.length_append, List.length_singleton]; omega), if_pos rfl]
      congr 1
      show (acc ++ [(a : Int)]) ++ _ = acc ++ ((a : Int) :: ints _)
      rw [List.append_assoc]; rfl
    | false =>
      rw [if_neg (by simp), ih k (a + 1) _ (by omega) (by omega) (by omega) (by omega), if_neg (by simp), List.nil_append]
theorem rmoves_eq {L n : Nat} (u : Bool) (hL : L ≤ 100) (hn : n ≤ 100) {k : Nat} (hk : 200 ≤ k) : impl_rule_moves.f k (L : Int) u (n : Int) = some (ints (mv L u n)) := by
  unfold impl_rule_moves.f
  have h := moves_run L u n hL hn (n / 2) k 1 [] (by omega) (by omega) (by omega) (by simp; omega)
  rw [List.nil_append] at h
  exact h
theorem smoves_run (L : Nat) (u : Bool) (n : Nat) (hL : L ≤ 100) (hn : n ≤ 100) : ∀ (d k a : Nat) (acc : List Int), a + d = n / 2 + 1 → 1 ≤ a → d < k → acc.length + d ≤ 1000 →
    spec_StripMoves.l0 k (n : Int) (L : Int) u acc (a : Int) = some (acc ++ ints ((List.range' a d).filter (can L u n)), true) := by
  intro d
  induction d with
  | zero =>
    intro k a acc ha h1 hk hl
    obtain ⟨k, rfl⟩ : ∃ q, k = q + 1 := ⟨k - 1, by omega⟩
    simp only [spec_StripMoves.l0]
    rw [if_neg (by rw [two_le (by omega) (by omega)]; omega)]; simp [ints]
  | succ d ih =>
    intro k a acc ha h1 hk hl
    obtain ⟨k, rfl⟩ : ∃ q, k = q + 1 := ⟨k - 1, by omega⟩
    simp only [spec_StripMoves.l0]
    rw [if_pos (by rw [two_le (by omega) (by omega)]; omega), canS_eq u hL (by omega) (by omega), Option.bind_some, PK.w1 (show a < 1000 by omega) (by omega), filt_succ]
    cases hc : can L u n a with
    | true =>
      rw [if_pos rfl, if_pos (by omega), ih k (a + 1) _ (by omega) (by omega) (by omega) (by rw [List.length_append, List.length_singleton]; omega), if_pos rfl]
      congr 2
      show (acc ++ [(a : Int)]) ++ _ = acc ++ ((a : Int) :: ints _)
      rw [List.append_assoc]; rfl
    | false =>
      rw [if_neg (by simp), ih k (a + 1) _ (by omega) (by omega) (by omega) (by omega), if_neg (by simp), List.nil_append]
theorem mv_len (L : Nat) (u : Bool) (n : Nat) : (mv L u n).length ≤ n / 2 := by
  unfold mv
  refine Nat.le_trans (List.length_filter_le _ _) ?_
  rw [List.length_range']; exact Nat.le_refl _
theorem ints_mem {l : List Nat} {x : Int} (h : x ∈ ints l) : ∃ a ∈ l, x = (a : Int) := by
  obtain ⟨a, ha, e⟩ := List.mem_map.1 h
  exact ⟨a, ha, e.symm⟩
theorem xbits_tab : ((List.range 16).all fun a => (List.range 16).all fun b => Go.bits .xor .i64 (a : Int) (b : Int) == ((a ^^^ b : Nat) : Int)) = true := by decide +kernel
theorem xbits {a b : Nat} (ha : a < 16) (hb : b < 16) : Go.bits .xor .i64 (a : Int) (b : Int) = ((a ^^^ b : Nat) : Int) := by
  have h := List.all_eq_true.1 (List.all_eq_true.1 xbits_tab a (List.mem_range.2 ha)) b (List.mem_range.2 hb)
  simpa using h
theorem V_lt {L : Nat} {u : Bool} {n : Nat} (hL : 1 ≤ L ∧ L ≤ 60) (hn : n ≤ 60) : V L u n < 16 := by
  by_cases c : n = 0
  · subst c; show (0 : Nat) < 16; omega
  · exact (facts hL ⟨by omega, hn⟩).lt
theorem vals_eq {L : Nat} (u : Bool) (hL : 1 ≤ L ∧ L ≤ 60) {k : Nat} (hk : 200 ≤ k) : ∀ n : Nat, n ≤ 60 → impl_rule_values.vals k (L : Int) u n = some (VL L u n) := by
  intro n
  induction n with
  | zero => intro _; rfl
  | succ n ih =>
    intro hn
    have hlen : (VL L u n).length = n + 1 := by unfold VL; rw [List.length_map, List.length_range]
    have hxr : ∀ a ∈ mv L u (n + 1), impl_rule_values.xr (VL L u n) (n + 1) (a : Int) = ((V L u a ^^^ V L u (n + 1 - a) : Nat) : Int) := by
      intro a ha
      have h := mv_in ha
      unfold impl_rule_values.xr VL
      rw [Int.toNat_natCast, tl_at (by omega), tl_at (by omega), xbits (V_lt hL (by omega)) (V_lt hL (by omega))]
    have hfit : impl_rule_values.Fit (VL L u n) (ints (mv L u (n + 1))) (n + 1) := by
      have hm := mv_len L u (n + 1)
      refine ⟨hlen, by omega, by unfold ints; rw [List.length_map]; omega, fun m hm => ?_, fun m hm => ?_⟩
      · obtain ⟨a, ha, rfl⟩ := ints_mem hm
        have h := mv_in ha
        omega
      · obtain ⟨a, ha, rfl⟩ := ints_mem hm
        have h := mv_in ha
        rw [hxr a ha]
        have := Nat.xor_lt_two_pow (n := 4) (V_lt (u := u) hL (show a ≤ 60 by omega)) (V_lt (u := u) hL (show n + 1 - a ≤ 60 by omega))
        omega
    simp only [impl_rule_values.vals]
    rw [ih (by omega), Option.bind_some]
    unfold impl_rule_values.nx
    rw [rmoves_eq u (by omega) (by omega) hk, Option.bind_some, if_pos hfit]
    congr 1
    have e : (ints (mv L u (n + 1))).map (impl_rule_values.xr (VL L u n) (n + 1)) = ((mv L u (n + 1)).map fun a => V L u a ^^^ V L u (n + 1 - a)).map fun (x : Nat) => (x : Int) := by
      unfold ints
      rw [List.map_map, List.map_map]
      exact List.map_congr_left fun a ha => hxr a ha
    rw [e, nmex_eq, ← V_eq]
    unfold VL
    exact (tl_succ n).symm
theorem values_eq {L n : Nat} (u : Bool) (hL : 1 ≤ L ∧ L ≤ 60) (hn : n ≤ 60) {k : Nat} (hk : 200 ≤ k) : impl_rule_values.f k (L : Int) u (n : Int) = some (VL L u n) := by
  unfold impl_rule_values.f
  rw [if_pos (by omega), Int.toNat_natCast]
  exact vals_eq u hL hk n hn

/-! the reference's table of values -/
theorem l1has_run (l : List Int) (x : Int) (hn : l.length ≤ 4000000) : ∀ (d k i : Nat), i + d = l.length → d < k → x ∉ l.take i →
    spec_l1Has.l0 k x l (l.length : Int) (i : Int) = some (decide (x ∈ l)) := by
  intro d
  induction d with
  | zero =>
    intro k i hi hk he
    obtain ⟨k, rfl⟩ : ∃ q, k = q + 1 := ⟨k - 1, by omega⟩
    rw [List.take_of_length_le (by omega)] at he
    simp only [spec_l1Has.l0]
    rw [if_neg (by omega), decide_eq_false he]
  | succ d ih =>
    intro k i hi hk he
    obtain ⟨k, rfl⟩ : ∃ q, k = q + 1 := ⟨k - 1, by omega⟩
    have hlt : i < l.length := by omega
    simp only [spec_l1Has.l0]
    rw [if_pos (by omega), if_pos (by omega), if_pos (by omega), PK.w1 hlt (by omega)]
    by_cases c : rd l (i : Int) = x
    · rw [if_pos c, decide_eq_true]
      rw [← c, PK.rd_at hlt]
      exact List.getElem_mem hlt
    · rw [if_neg c]
      refine ih k (i + 1) (by omega) (by omega) ?_
      rw [List.take_add_one, List.getElem?_eq_getElem hlt, List.mem_append]
      rintro (h | h)
      · exact he h
      · rw [PK.rd_at hlt] at c
        have h2 : x ∈ [l[i]] := h
        exact c (List.mem_singleton.1 h2).symm
theorem l1has_eq (l : List Int) (x : Int) (hl : l.length ≤ 4000) (k : Nat) (hk : 5000 ≤ k) : spec_l1Has.f k l x = some (decide (x ∈ l)) := by
  unfold spec_l1Has.f
  exact l1has_run l x (by omega) l.length k 0 (by omega) (by omega) (by simp)
/-- The table while it is made: right below m, c at m, 0 behind. -/
def TV (f : Nat → Nat) (N m : Nat) (c : Int) : List Int := (List.range (N + 1)).map fun i => if i < m then (f i : Int) else if i = m then c else 0
theorem TV_len (f : Nat → Nat) (N m : Nat) (c : Int) : (TV f N m c).length = N + 1 := by unfold TV; rw [List.length_map, List.length_range]
theorem TV_get {f : Nat → Nat} {N m i : Nat} {c : Int} (h : i < (TV f N m c).length) : (TV f N m c)[i] = if i < m then (f i : Int) else if i = m then c else 0 := by simp [TV]
theorem TV_at {f : Nat → Nat} {N m i : Nat} {c : Int} (h : i ≤ N) : rd (TV f N m c) (i : Int) = if i < m then (f i : Int) else if i = m then c else 0 := by
  rw [PK.rd_at (by rw [TV_len]; omega), TV_get]
theorem TV_set {f : Nat → Nat} {N m : Nat} {c c' : Int} : (TV f N m c).set m c' = TV f N m c' := by
  apply List.ext_getElem
  · rw [List.length_set, TV_len, TV_len]
  · intro i h1 h2
    rw [List.getElem_set, TV_get, TV_get]
    by_cases e : m = i
    · subst e
      rw [if_pos rfl, if_neg (by omega), if_pos rfl]
    · rw [if_neg e]
      by_cases c2 : i < m
      · rw [if_pos c2, if_pos c2]
      · rw [if_neg c2, if_neg c2, if_neg (fun z => e z.symm), if_neg (fun z => e z.symm)]
theorem TV_next (f : Nat → Nat) (N m : Nat) : TV f N m (f m : Int) = TV f N (m + 1) 0 := by
  unfold TV
  apply List.map_congr_left
  intro i _
  by_cases c : i < m
  · rw [if_pos c, if_pos (by omega)]
  · by_cases c2 : i = m
    · rw [if_neg c, if_pos c2, if_pos (by omega), c2]
    · rw [if_neg c, if_neg c2, if_neg (by omega)]; split <;> rfl
theorem TV_start (f : Nat → Nat) (N : Nat) (h0 : f 0 = 0) : List.replicate (N + 1) 0 = TV f N 1 0 := by
  apply List.ext_getElem
  · rw [List.length_replicate, TV_len]
  · intro i h1 h2
    rw [List.getElem_replicate, TV_get]
    by_cases c : i < 1
    · rw [if_pos c, show i = 0 by omega, h0]; rfl
    · rw [if_neg c]; split <;> rfl
theorem TV_end (f : Nat → Nat) (N : Nat) : TV f N (N + 1) 0 = (List.range (N + 1)).map fun i => (f i : Int) := by
  unfold TV
  apply List.map_congr_left
  intro i hi
  rw [if_pos (List.mem_range.1 hi)]
theorem V_0 (L : Nat) (u : Bool) : V L u 0 = 0 := rfl
def xs (L : Nat) (u : Bool) (n : Nat) (l : List Nat) : List Int := l.map fun a => ((V L u a ^^^ V L u (n - a) : Nat) : Int)
theorem lav_l1 (L : Nat) (u : Bool) (N n : Nat) (hL : 1 ≤ L ∧ L ≤ 60) (hN : N ≤ 60) (hn : 1 ≤ n ∧ n ≤ N) : ∀ (d k a : Nat) (acc : List Int), a + d = n / 2 + 1 → 1 ≤ a → d < k → acc.length + d ≤ 1000 →
    spec_laValues.l1 k (N : Int) (L : Int) u (TV (V L u) N n 0) (n : Int) acc (a : Int) = spec_laValues.l2 (k - d - 1) (N : Int) (L : Int) u (TV (V L u) N n 0) (n : Int) (acc ++ xs L u n ((List.range' a d).filter (can L u n))) := by
  intro d
  induction d with
  | zero =>
    intro k a acc ha h1 hk hl
    obtain ⟨k, rfl⟩ : ∃ q, k = q + 1 := ⟨k - 1, by omega⟩
    simp only [spec_laValues.l1]
    rw [if_neg (by rw [two_le (by omega) (by omega)]; omega)]
    simp [xs]
  | succ d ih =>
    intro k a acc ha h1 hk hl
    obtain ⟨k, rfl⟩ : ∃ q, k = q + 1 := ⟨k - 1, by omega⟩
    have hw : wrap64 ((n : Int) - (a : Int)) = ((n - a : Nat) : Int) := by rw [PK.wrap_in (by omega) (by omega)]; omega
    simp only [spec_laValues.l1]
    rw [if_pos (by rw [two_le (by omega) (by omega)]; omega), canS_eq u (by omega) (by omega) (by omega), Option.bind_some, PK.w1 (show a < 1000 by omega) (by omega), filt_succ, show k + 1 - (d + 1) - 1 = k - d - 1 by omega]
    cases hc : can L u n a with
    | true =>
      rw [if_pos rfl, if_pos (by omega), if_pos (by rw [TV_len]; omega), hw, if_pos (by omega), if_pos (by rw [TV_len]; omega), if_pos (by omega), TV_at (by omega), TV_at (by omega), if_pos (by omega), if_pos (by omega), xbits (V_lt hL (by omega)) (V_lt hL (by omega)),
        ih k (a + 1) _ (by omega) (by omega) (by omega) (by rw [List.length_append, List.length_singleton]; omega), if_pos rfl]
      congr 1
      unfold xs
      rw [List.map_append, List.append_assoc]; rfl
    | false =>
      rw [if_neg (by simp), ih k (a + 1) _ (by omega) (by omega) (by omega) (by omega), if_neg (by simp), List.nil_append]
theorem xs_mem {L : Nat} {u : Bool} {n : Nat} {j : Nat} : ((j : Nat) : Int) ∈ xs L u n (mv L u n) ↔ j ∈ (mv L u n).map (fun a => V L u a ^^^ V L u (n - a)) := by
  unfold xs
  rw [List.mem_map, List.mem_map]
  constructor
  · rintro ⟨a, ha, e⟩; exact ⟨a, ha, by omega⟩
  · rintro ⟨a, ha, e⟩; exact ⟨a, ha, by omega⟩
theorem lav_l2 (L : Nat) (u : Bool) (N n : Nat) (hN : N ≤ 60) (hn : 1 ≤ n ∧ n ≤ N) (hv : V L u n < 16) : ∀ (d k c : Nat), c + d = V L u n → 6000 + d < k →
    spec_laValues.l2 k (N : Int) (L : Int) u (TV (V L u) N n (c : Int)) (n : Int) (xs L u n (mv L u n)) = spec_laValues.l0 (k - d - 1) (N : Int) (L : Int) u (TV (V L u) N (n + 1) 0) ((n + 1 : Nat) : Int) := by
  have hm := V_mex (L := L) (u := u) hn.1
  have hl : (xs L u n (mv L u n)).length ≤ 60 := by unfold xs; rw [List.length_map]; have := mv_len L u n; omega
  intro d
  induction d with
  | zero =>
    intro k c hc hk
    obtain ⟨k, rfl⟩ : ∃ q, k = q + 1 := ⟨k - 1, by omega⟩
    obtain rfl : c = V L u n := by omega
    simp only [spec_laValues.l2]
    rw [if_pos (by omega), if_pos (by rw [TV_len]; omega), TV_at (by omega), if_neg (by omega), if_pos rfl, l1has_eq _ _ (by omega) _ (by omega), Option.bind_some, if_neg (by rw [decide_eq_true_eq, xs_mem]; exact hm.1), PK.w1 (show n < 100 by omega) (by omega), TV_next]
    rfl
  | succ d ih =>
    intro k c hc hk
    obtain ⟨k, rfl⟩ : ∃ q, k = q + 1 := ⟨k - 1, by omega⟩
    simp only [spec_laValues.l2]
    rw [if_pos (by omega), if_pos (by rw [TV_len]; omega), TV_at (by omega), if_neg (by omega), if_pos rfl, l1has_eq _ _ (by omega) _ (by omega), Option.bind_some, if_pos (by rw [decide_eq_true_eq, xs_mem]; exact hm.2 c (by omega)), PK.w1 (show c < 100 by omega) (by omega), Int.toNat_natCast, TV_set, ih k (c + 1) (by omega) (by omega), show k + 1 - (d + 1) - 1 = k - d - 1 by omega]
theorem lav_l0 (L : Nat) (u : Bool) (N : Nat) (hL : 1 ≤ L ∧ L ≤ 60) (hN : N ≤ 60) : ∀ (d k n : Nat), n + d = N + 1 → 1 ≤ n → 7000 + 100 * d < k →
    spec_laValues.l0 k (N : Int) (L : Int) u (TV (V L u) N n 0) (n : Int) = some (VL L u N) := by
  intro d
  induction d with
  | zero =>
    intro k n hn h1 hk
    obtain ⟨k, rfl⟩ : ∃ q, k = q + 1 := ⟨k - 1, by omega⟩
    obtain rfl : n = N + 1 := by omega
    simp only [spec_laValues.l0]
    rw [if_neg (by omega), TV_end]; rfl
  | succ d ih =>
    intro k n hn h1 hk
    obtain ⟨k, rfl⟩ : ∃ q, k = q + 1 := ⟨k - 1, by omega⟩
    have hv := V_lt (u := u) hL (show n ≤ 60 by omega)
    have e1 := lav_l1 L u N n hL hN ⟨h1, by omega⟩ (n / 2) k 1 [] (by omega) (by omega) (by omega) (by simp; omega)
    have e2 := lav_l2 L u N n hN ⟨h1, by omega⟩ hv (V L u n) (k - n / 2 - 1) 0 (by omega) (by omega)
    simp only [spec_laValues.l0]
    rw [if_pos (by omega)]
    refine Eq.trans e1 ?_
    rw [List.nil_append]
    refine Eq.trans e2 ?_
    exact ih _ (n + 1) (by omega) (by omega) (by omega)
theorem laValues_eq {L N : Nat} (u : Bool) (hL : 1 ≤ L ∧ L ≤ 60) (hN : N ≤ 60) {k : Nat} (hk : 20000 ≤ k) : spec_laValues.f k (N : Int) (L : Int) u = some (VL L u N) := by
  unfold spec_laValues.f
  rw [PK.w1 (show N < 100 by omega) (by omega), Int.toNat_natCast, if_pos (by omega), if_pos (by omega), TV_start (V L u) N (V_0 L u)]
  exact lav_l0 L u N hL hN N k 1 (by omega) (by omega) (by omega)
theorem laStrip_eq (a b : Int) : spec_laStrip.f a b = some (decide ((1 ≤ a ∧ a ≤ 60) ∧ 1 ≤ b ∧ b ≤ 60)) := by
  unfold spec_laStrip.f
  rw [l1In_eq, l1In_eq, Option.bind_some, Option.bind_some, ← Bool.decide_and, ← Bool.decide_and]
  by_cases c : 1 ≤ a ∧ a ≤ 60
  · rw [if_pos (decide_eq_true c)]; simp [c]
  · rw [if_neg (by simpa using c)]; simp [c]
theorem VL_len (L : Nat) (u : Bool) (n : Nat) : (VL L u n).length = n + 1 := by unfold VL; rw [List.length_map, List.length_range]
theorem VL_at {L : Nat} {u : Bool} {n i : Nat} (h : i ≤ n) : rd (VL L u n) (i : Int) = (V L u i : Int) := by
  have e : rd (VL L u n) (i : Int) = (VL L u n).getD ((i : Int)).toNat 0 := rfl
  rw [e, Int.toNat_natCast]
  exact tl_at h
theorem Value_eq {L n : Nat} (u : Bool) (hL : 1 ≤ L ∧ L ≤ 60) (hn : 1 ≤ n ∧ n ≤ 60) {k : Nat} (hk : 20000 ≤ k) : impl_StripValue.f k (n : Int) (L : Int) u = some ((V L u n : Int), true) := by
  unfold impl_StripValue.f
  rw [strip_eq, Option.bind_some, if_pos (decide_eq_true (by omega)), strip_eq, Option.bind_some, if_pos (decide_eq_true (by omega)), values_eq u hL hn.2 (by omega), Option.bind_some, if_pos (by omega), if_pos (by rw [VL_len]; omega), VL_at (Nat.le_refl _)]
theorem ValueS_eq {L n : Nat} (u : Bool) (hL : 1 ≤ L ∧ L ≤ 60) (hn : 1 ≤ n ∧ n ≤ 60) {k : Nat} (hk : 20000 ≤ k) : spec_StripValue.f k (n : Int) (L : Int) u = some ((V L u n : Int), true) := by
  unfold spec_StripValue.f
  rw [laStrip_eq, Option.bind_some, if_pos (decide_eq_true ⟨by omega, by omega⟩), laValues_eq u hL hn.2 hk, Option.bind_some, if_pos (by omega), if_pos (by rw [VL_len]; omega), VL_at (Nat.le_refl _)]
theorem Moves_eq {L n : Nat} (u : Bool) (hL : 1 ≤ L ∧ L ≤ 60) (hn : 1 ≤ n ∧ n ≤ 60) {k : Nat} (hk : 20000 ≤ k) : impl_StripMoves.f k (n : Int) (L : Int) u = some (ints (mv L u n), true) := by
  unfold impl_StripMoves.f
  rw [strip_eq, Option.bind_some, if_pos (decide_eq_true (by omega)), strip_eq, Option.bind_some, if_pos (decide_eq_true (by omega)), rmoves_eq u (by omega) (by omega) (by omega), Option.bind_some]
theorem MovesS_eq {L n : Nat} (u : Bool) (hL : 1 ≤ L ∧ L ≤ 60) (hn : 1 ≤ n ∧ n ≤ 60) {k : Nat} (hk : 20000 ≤ k) : spec_StripMoves.f k (n : Int) (L : Int) u = some (ints (mv L u n), true) := by
  unfold spec_StripMoves.f
  rw [laStrip_eq, Option.bind_some, if_pos (decide_eq_true ⟨by omega, by omega⟩)]
  have h := smoves_run L u n (by omega) (by omega) (n / 2) k 1 [] (by omega) (by omega) (by omega) (by simp; omega)
  exact h
def lostL (L : Nat) (u : Bool) (n : Nat) : List Nat := (List.range' 1 n).filter fun i => V L u i == 0
theorem lost_run (L : Nat) (u : Bool) (n : Nat) (hn : n ≤ 60) : ∀ (d k i : Nat) (acc : List Int), i + d = n + 1 → 1 ≤ i → d < k → acc.length + d ≤ 1000 → impl_LostStrips.l0 k acc (VL L u n) ((VL L u n).length : Int) (i : Int) = some (acc ++ ints ((List.range' i d).filter fun i => V L u i == 0), true) := by
  intro d
  induction d with
  | zero =>
    intro k i acc hi h1 hk hl
    obtain ⟨k, rfl⟩ : ∃ q, k = q + 1 := ⟨k - 1, by omega⟩
    simp only [impl_LostStrips.l0]
    rw [if_neg (by rw [VL_len]; omega)]; simp [ints]
  | succ d ih =>
    intro k i acc hi h1 hk hl
    obtain ⟨k, rfl⟩ : ∃ q, k = q + 1 := ⟨k - 1, by omega⟩
    simp only [impl_LostStrips.l0]
    rw [if_pos (by rw [VL_len]; omega), if_pos (by omega), if_pos (by rw [VL_len]; omega), if_pos (by omega), VL_at (by omega), PK.w1 (show i < 100 by omega) (by omega), filt_succ]
    by_cases c : V L u i = 0
    · rw [if_pos (by omega), if_pos (by omega), ih k (i + 1) _ (by omega) (by omega) (by omega) (by rw [List.length_append, List.length_singleton]; omega), if_pos (by simpa using c)]
      congr 2
      show (acc ++ [(i : Int)]) ++ _ = acc ++ ((i : Int) :: ints _)
      rw [List.append_assoc]; rfl
    · rw [if_neg (by omega), ih k (i + 1) _ (by omega) (by omega) (by omega) (by omega), if_neg (by simpa using c), List.nil_append]
theorem lostS_l0 (k : Nat) : ∀ a b c d, spec_LostStrips.l0 k a b c d = impl_LostStrips.l0 k a b c d := by
  induction k with
  | zero => intro a b c d; rfl
  | succ k ih => intro a b c d; simp only [spec_LostStrips.l0, impl_LostStrips.l0, ih]
theorem lost_first (L : Nat) (u : Bool) (n : Nat) (hn : n ≤ 60) (k : Nat) (hk : 200 ≤ k) : impl_LostStrips.l0 k [] (VL L u n) ((VL L u n).length : Int) 0 = some (ints (lostL L u n), true) := by
  obtain ⟨k, rfl⟩ : ∃ q, k = q + 1 := ⟨k - 1, by omega⟩
  have h := lost_run L u n hn n k 1 [] (by omega) (by omega) (by omega) (by simp; omega)
  have e : wrap64 (0 + 1) = ((1 : Nat) : Int) := by rw [PK.wrap_in (by omega) (by omega)]; rfl
  simp only [impl_LostStrips.l0]
  rw [if_pos (by rw [VL_len]; omega), if_pos (Int.le_refl _), if_pos (by rw [VL_len]; omega), if_neg (by omega), e]
  exact h
theorem Lost_eq {L n : Nat} (u : Bool) (hL : 1 ≤ L ∧ L ≤ 60) (hn : 1 ≤ n ∧ n ≤ 60) {k : Nat} (hk : 30000 ≤ k) : impl_LostStrips.f k (n : Int) (L : Int) u = some (ints (lostL L u n), true) := by
  obtain ⟨k, rfl⟩ : ∃ q, k = q + 1 := ⟨k - 1, by omega⟩
  unfold impl_LostStrips.f
  rw [strip_eq, Option.bind_some, if_pos (decide_eq_true (by omega)), strip_eq, Option.bind_some, decide_eq_true (show 1 ≤ (L : Int) ∧ (L : Int) ≤ 60 by omega)]
  simp only [impl_LostStrips.j0]
  rw [if_neg (by decide), values_eq u hL hn.2 (by omega), Option.bind_some]
  exact lost_first L u n hn.2 k (by omega)
theorem LostS_eq {L n : Nat} (u : Bool) (hL : 1 ≤ L ∧ L ≤ 60) (hn : 1 ≤ n ∧ n ≤ 60) {k : Nat} (hk : 30000 ≤ k) : spec_LostStrips.f k (n : Int) (L : Int) u = some (ints (lostL L u n), true) := by
  unfold spec_LostStrips.f
  rw [laStrip_eq, Option.bind_some, if_pos (decide_eq_true ⟨by omega, by omega⟩), laValues_eq u hL hn.2 (by omega), Option.bind_some, lostS_l0]
  exact lost_first L u n hn.2 k (by omega)

/-! several strips: their value, won ones, good moves -/
theorem xor_zero {a b : Nat} (h : a ^^^ b = 0) : a = b := by
  have h2 : a ^^^ b ^^^ b = 0 ^^^ b := by rw [h]
  rwa [Nat.xor_assoc, Nat.xor_self, Nat.xor_zero, Nat.zero_xor] at h2
theorem tot_snoc (l : List Nat) (x : Nat) : tot (l ++ [x]) = tot l ^^^ x := by unfold tot; rw [List.foldl_append]; rfl
def okS (l : List Int) : Bool := (decide (1 ≤ (l.length : Int)) && decide ((l.length : Int) ≤ 8)) && l.all fun n => decide (1 ≤ n) && decide (n ≤ 60)
theorem areStrips_eq (l : List Int) : impl_areStrips.f l = some (okS l) := by
  unfold impl_areStrips.f okS
  rw [within_eq, Option.bind_some]
  cases h : (decide (1 ≤ (l.length : Int)) && decide ((l.length : Int) ≤ 8)) with
  | true => rw [if_pos rfl, Bool.true_and]; rfl
  | false => rw [if_neg (by simp), Bool.false_and]
theorem laStrips_eq (l : List Int) (a : Int) (k : Nat) (hk : 100 ≤ k) : spec_laStrips.f k l a = some (okS l && decide (1 ≤ a ∧ a ≤ 60)) := by
  unfold spec_laStrips.f okS
  rw [l1In_eq, Option.bind_some]
  cases h : (decide (1 ≤ (l.length : Int)) && decide ((l.length : Int) ≤ 8)) with
  | true =>
    rw [Bool.and_eq_true, decide_eq_true_eq, decide_eq_true_eq] at h
    rw [if_pos rfl, Bool.true_and, l1All_eq l (by omega) 1 60 k (by omega), Option.bind_some]
    cases h2 : (l.all fun n => decide (1 ≤ n) && decide (n ≤ 60)) with
    | true => rw [if_pos rfl, Bool.true_and, l1In_eq, Option.bind_some, ← Bool.decide_and]
    | false => rw [if_neg (by simp), Bool.false_and]
  | false => rw [if_neg (by simp), Bool.false_and, Bool.false_and]
/-- Strips that there are. -/
structure St (s : List Nat) : Prop where
  one : 1 ≤ s.length
  few : s.length ≤ 8
  all : ∀ n ∈ s, 1 ≤ n ∧ n ≤ 60
theorem okS_nat {l : List Int} (h : okS l = true) : ∃ s : List Nat, l = ints s ∧ St s := by
  unfold okS at h
  simp only [Bool.and_eq_true, decide_eq_true_eq, List.all_eq_true] at h
  obtain ⟨⟨h1, h2⟩, h3⟩ := h
  refine ⟨l.map Int.toNat, ?_, ⟨by rw [List.length_map]; omega, by rw [List.length_map]; omega, fun n hn => ?_⟩⟩
  · unfold ints
    rw [List.map_map]
    refine ((List.map_congr_left fun x hx => ?_).trans (List.map_id l)).symm
    have := h3 x hx
    show ((x.toNat : Nat) : Int) = x
    omega
  · obtain ⟨x, hx, rfl⟩ := List.mem_map.1 hn
    have := h3 x hx
    omega
theorem ints_len (s : List Nat) : (ints s).length = s.length := by unfold ints; rw [List.length_map]
theorem ints_okS {s : List Nat} (h : St s) : okS (ints s) = true := by
  unfold okS
  simp only [Bool.and_eq_true, decide_eq_true_eq, List.all_eq_true]
  have h1 := h.one
  have h2 := h.few
  refine ⟨⟨by rw [ints_len]; omega, by rw [ints_len]; omega⟩, fun x hx => ?_⟩
  obtain ⟨a, ha, rfl⟩ := ints_mem hx
  have := h.all a ha
  omega
theorem ints_rd {s : List Nat} {i : Nat} (h : i < s.length) : rd (ints s) (i : Int) = (s[i] : Int) := by
  rw [PK.rd_at (by rw [ints_len]; exact h)]
  simp [ints]
def T (L : Nat) (u : Bool) (s : List Nat) : Nat := tot (s.map (V L u))
theorem T_lt {L : Nat} {u : Bool} {s : List Nat} (hL : 1 ≤ L ∧ L ≤ 60) (h : St s) : T L u s < 16 := tot_lt _ (fun x hx => by
  obtain ⟨n, hn, rfl⟩ := List.mem_map.1 hx
  exact V_lt hL (h.all n hn).2)
theorem tog_run {L : Nat} (u : Bool) (hL : 1 ≤ L ∧ L ≤ 60) (s : List Nat) (h : St s) : ∀ (d k i acc : Nat), i + d = s.length → d < k → acc < 16 →
    impl_together.l0 k (VL L u 60) (acc : Int) (ints s) ((ints s).length : Int) (i : Int) = some ((acc ^^^ tot ((s.drop i).map (V L u)) : Nat) : Int) := by
  have hf := h.few
  intro d
  induction d with
  | zero =>
    intro k i acc hi hk ha
    obtain ⟨k, rfl⟩ : ∃ q, k = q + 1 := ⟨k - 1, by omega⟩
    simp only [impl_together.l0]
    rw [if_neg (by rw [ints_len]; omega), List.drop_eq_nil_of_le (by omega)]
    show some (acc : Int) = some ((acc ^^^ 0 : Nat) : Int)
    rw [Nat.xor_zero]
  | succ d ih =>
    intro k i acc hi hk ha
    obtain ⟨k, rfl⟩ : ∃ q, k = q + 1 := ⟨k - 1, by omega⟩
    have hlt : i < s.length := by omega
    have hn := h.all s[i] (List.getElem_mem hlt)
    have hv := V_lt (u := u) hL hn.2
    simp only [impl_together.l0]
    rw [if_pos (by rw [ints_len]; omega), if_pos (by omega), if_pos (by rw [ints_len]; omega), ints_rd hlt, if_pos (by omega), if_pos (by rw [VL_len]; omega), VL_at hn.2, xbits ha hv, PK.w1 hlt (by omega),
      ih k (i + 1) _ (by omega) (by omega) (Nat.xor_lt_two_pow (n := 4) ha hv), List.drop_eq_getElem_cons hlt, List.map_cons, tot_cons, Nat.xor_assoc]
theorem tog_eq {L : Nat} (u : Bool) (hL : 1 ≤ L ∧ L ≤ 60) {s : List Nat} (h : St s) {k : Nat} (hk : 100 ≤ k) : impl_together.f k (ints s) (VL L u 60) = some (T L u s : Int) := by
  have hf := h.few
  unfold impl_together.f
  have e := tog_run u hL s h s.length k 0 0 (by omega) (by omega) (by omega)
  rw [Nat.zero_xor, List.drop_zero] at e
  exact e
theorem laAll_l0 (k : Nat) : ∀ a b c d e, spec_laAll.l0 k a b c d e = impl_together.l0 k a b c d e := by
  induction k with
  | zero => intro a b c d e; rfl
  | succ k ih => intro a b c d e; simp only [spec_laAll.l0, impl_together.l0, ih]
theorem laAll_eq {L : Nat} (u : Bool) (hL : 1 ≤ L ∧ L ≤ 60) {s : List Nat} (h : St s) {k : Nat} (hk : 100 ≤ k) : spec_laAll.f k (ints s) (VL L u 60) = some (T L u s : Int) := by
  unfold spec_laAll.f
  rw [laAll_l0]
  exact tog_eq u hL h hk
theorem Wins_eq {L : Nat} (u : Bool) (hL : 1 ≤ L ∧ L ≤ 60) {s : List Nat} (h : St s) {k : Nat} (hk : 1000 ≤ k) : impl_WinsStrips.f k (ints s) (L : Int) u = some (decide (T L u s ≠ 0), true) := by
  obtain ⟨k, rfl⟩ : ∃ q, k = q + 1 := ⟨k - 1, by omega⟩
  unfold impl_WinsStrips.f
  rw [areStrips_eq, ints_okS h, Option.bind_some, if_pos rfl, strip_eq, Option.bind_some, decide_eq_true (show 1 ≤ (L : Int) ∧ (L : Int) ≤ 60 by omega)]
  simp only [impl_WinsStrips.j0]
  have e : ((60 : Nat) : Int) = 60 := rfl
  rw [if_neg (by decide), ← e, values_eq u hL (Nat.le_refl _) (by omega), Option.bind_some, tog_eq u hL h (by omega), Option.bind_some]
  by_cases c : T L u s = 0
  · rw [decide_eq_false (show ¬ (T L u s : Int) > 0 by omega), decide_eq_false (by simpa using c)]
  · rw [decide_eq_true (show (T L u s : Int) > 0 by omega), decide_eq_true c]
theorem WinsS_eq {L : Nat} (u : Bool) (hL : 1 ≤ L ∧ L ≤ 60) {s : List Nat} (h : St s) {k : Nat} (hk : 30000 ≤ k) : spec_WinsStrips.f k (ints s) (L : Int) u = some (decide (T L u s ≠ 0), true) := by
  unfold spec_WinsStrips.f
  have e : ((60 : Nat) : Int) = 60 := rfl
  rw [laStrips_eq _ _ _ (by omega), ints_okS h, Option.bind_some, decide_eq_true (show 1 ≤ (L : Int) ∧ (L : Int) ≤ 60 by omega), Bool.true_and, if_pos rfl, ← e, laValues_eq u hL (Nat.le_refl _) (by omega), Option.bind_some, laAll_eq u hL h (by omega), Option.bind_some]
  by_cases c : T L u s = 0
  · rw [c, decide_eq_false (by simp)]; rfl
  · rw [bne_iff_ne.2 (show (T L u s : Int) ≠ 0 by omega), decide_eq_true c]
def zr (L : Nat) (u : Bool) (t n a : Nat) : Bool := (t ^^^ V L u n ^^^ V L u a ^^^ V L u (n - a)) == 0
def gm (L : Nat) (u : Bool) (t n : Nat) : List Nat := (mv L u n).filter (zr L u t n)
def en (p : Nat × Nat) : List Int := [(p.1 : Int), (p.2 : Int)]
def gat (L : Nat) (u : Bool) (t : Nat) (s : List Nat) (i : Nat) : List (Nat × Nat) := (gm L u t (s.getD i 0)).map fun a => (i, a)
def gp (L : Nat) (u : Bool) (s : List Nat) : List (Nat × Nat) := (List.range s.length).flatMap (gat L u (T L u s) s)
theorem x4 {L : Nat} {u : Bool} {t n a : Nat} (hL : 1 ≤ L ∧ L ≤ 60) (ht : t < 16) (hn : n ≤ 60) (ha : a ≤ 60) : Go.bits .xor .i64 (Go.bits .xor .i64 (Go.bits .xor .i64 (t : Int) (V L u n : Int)) (V L u a : Int)) (V L u (n - a) : Int) = ((t ^^^ V L u n ^^^ V L u a ^^^ V L u (n - a) : Nat) : Int) := by
  have h1 := V_lt (u := u) hL hn
  have h2 := V_lt (u := u) hL ha
  have h3 := V_lt (u := u) hL (show n - a ≤ 60 by omega)
  have h4 := Nat.xor_lt_two_pow (n := 4) ht h1
  have h5 := Nat.xor_lt_two_pow (n := 4) h4 h2
  rw [xbits ht h1, xbits h4 h2, xbits h5 h3]
theorem zr_iff {L : Nat} {u : Bool} {t n a : Nat} : zr L u t n a = true ↔ t ^^^ V L u n ^^^ V L u a ^^^ V L u (n - a) = 0 := by unfold zr; exact beq_iff_eq
theorem gi_l1 {L : Nat} (u : Bool) (hL : 1 ≤ L ∧ L ≤ 60) (s : List Nat) (h : St s) (i n : Nat) (hn : n ≤ 60) (N M' : Int) (ms : List Nat) (hms : ∀ a ∈ ms, 2 * a ≤ n) (hml : ms.length ≤ 100) : ∀ (d k j : Nat) (acc : List (List Int)), j + d = ms.length → 1000 + d < k → acc.length + d ≤ 1000 →
    impl_GoodStrips.l1 k (ints s) acc (VL L u 60) (i : Int) (n : Int) (ints s) N M' (ints ms) ((ints ms).length : Int) (j : Int) (L : Int) u = impl_GoodStrips.l0 (k - d - 1) (ints s) (acc ++ ((ms.drop j).filter (zr L u (T L u s) n)).map fun a => en (i, a)) (VL L u 60) (ints s) N (wrap64 (M' + 1)) (L : Int) u := by
  have hT := T_lt (u := u) hL h
  intro d
  induction d with
  | zero =>
    intro k j acc hj hk hl
    obtain ⟨k, rfl⟩ : ∃ q, k = q + 1 := ⟨k - 1, by omega⟩
    conv => lhs; unfold impl_GoodStrips.l1
    rw [if_neg (by rw [ints_len]; omega), List.drop_eq_nil_of_le (by omega)]
    simp
  | succ d ih =>
    intro k j acc hj hk hl
    obtain ⟨k, rfl⟩ : ∃ q, k = q + 1 := ⟨k - 1, by omega⟩
    have hlt : j < ms.length := by omega
    have ha := hms ms[j] (List.getElem_mem hlt)
    have hw : wrap64 ((n : Int) - (ms[j] : Int)) = ((n - ms[j] : Nat) : Int) := by rw [PK.wrap_in (by omega) (by omega)]; omega
    conv => lhs; unfold impl_GoodStrips.l1
    rw [if_pos (by rw [ints_len]; omega), if_pos (by omega), if_pos (by rw [ints_len]; omega), tog_eq u hL h (by omega), Option.bind_some, if_pos (by omega), if_pos (by rw [VL_len]; omega), ints_rd hlt, if_pos (by omega), if_pos (by rw [VL_len]; omega), hw, if_pos (by omega), if_pos (by rw [VL_len]; omega),
      VL_at hn, VL_at (show ms[j] ≤ 60 by omega), VL_at (show n - ms[j] ≤ 60 by omega), x4 hL hT hn (by omega), PK.w1 hlt (by omega), List.drop_eq_getElem_cons hlt, show k + 1 - (d + 1) - 1 = k - d - 1 by omega]
    by_cases c : T L u s ^^^ V L u n ^^^ V L u ms[j] ^^^ V L u (n - ms[j]) = 0
    · rw [if_pos (by omega), if_pos (by omega), ih k (j + 1) _ (by omega) (by omega) (by rw [List.length_append, List.length_singleton]; omega), List.filter_cons_of_pos (zr_iff.2 c), List.map_cons, List.append_assoc]
      rfl
    · rw [if_neg (by omega), ih k (j + 1) _ (by omega) (by omega) (by omega), List.filter_cons_of_neg (by rw [zr_iff]; exact c)]
theorem gs_l1 {L : Nat} (u : Bool) (hL : 1 ≤ L ∧ L ≤ 60) (s : List Nat) (t : Nat) (ht : t < 16) (i n : Nat) (hn : n ≤ 60) (N M' : Int) : ∀ (d k a : Nat) (acc : List (List Int)), a + d = n / 2 + 1 → 1 ≤ a → d < k → acc.length + d ≤ 1000 →
    spec_GoodStrips.l1 k (L : Int) u (VL L u 60) (t : Int) acc (i : Int) (n : Int) (a : Int) (ints s) N M' = spec_GoodStrips.l0 (k - d - 1) (L : Int) u (VL L u 60) (t : Int) (acc ++ (((List.range' a d).filter (can L u n)).filter (zr L u t n)).map fun a => en (i, a)) (ints s) N (wrap64 (M' + 1)) := by
  intro d
  induction d with
  | zero =>
    intro k a acc ha h1 hk hl
    obtain ⟨k, rfl⟩ : ∃ q, k = q + 1 := ⟨k - 1, by omega⟩
    conv => lhs; unfold spec_GoodStrips.l1
    rw [if_neg (by rw [two_le (by omega) (by omega)]; omega)]
    simp
  | succ d ih =>
    intro k a acc ha h1 hk hl
    obtain ⟨k, rfl⟩ : ∃ q, k = q + 1 := ⟨k - 1, by omega⟩
    have hw : wrap64 ((n : Int) - (a : Int)) = ((n - a : Nat) : Int) := by rw [PK.wrap_in (by omega) (by omega)]; omega
    conv => lhs; unfold spec_GoodStrips.l1
    rw [if_pos (by rw [two_le (by omega) (by omega)]; omega), canS_eq u (by omega) (by omega) (by omega), Option.bind_some, PK.w1 (show a < 1000 by omega) (by omega), filt_succ, show k + 1 - (d + 1) - 1 = k - d - 1 by omega]
    cases hc : can L u n a with
    | true =>
      rw [if_pos rfl, if_pos rfl, if_pos (by omega), if_pos (by rw [VL_len]; omega), if_pos (by omega), if_pos (by rw [VL_len]; omega), hw, if_pos (by omega), if_pos (by rw [VL_len]; omega), VL_at hn, VL_at (show a ≤ 60 by omega), VL_at (show n - a ≤ 60 by omega), x4 hL ht hn (by omega)]
      by_cases c : t ^^^ V L u n ^^^ V L u a ^^^ V L u (n - a) = 0
      · rw [if_pos (by omega), if_pos (by omega), ih k (a + 1) _ (by omega) (by omega) (by omega) (by rw [List.length_append, List.length_singleton]; omega), List.singleton_append, List.filter_cons_of_pos (zr_iff.2 c), List.map_cons, List.append_assoc]
        rfl
      · rw [if_neg (by omega), ih k (a + 1) _ (by omega) (by omega) (by omega) (by omega), List.singleton_append, List.filter_cons_of_neg (by rw [zr_iff]; exact c)]
    | false =>
      rw [if_neg (by simp), ih k (a + 1) _ (by omega) (by omega) (by omega) (by omega), if_neg (by simp), List.nil_append]
theorem getD_at' {s : List Nat} {i : Nat} (h : i < s.length) : s.getD i 0 = s[i] := by rw [List.getD_eq_getElem?_getD, List.getElem?_eq_getElem h]; rfl
theorem gm_le {L : Nat} {u : Bool} {t n : Nat} (hn : n ≤ 60) : (gm L u t n).length ≤ 30 := by
  have h1 := mv_len L u n
  have h2 : (gm L u t n).length ≤ (mv L u n).length := List.length_filter_le _ _
  omega
theorem gi_l0 {L : Nat} (u : Bool) (hL : 1 ≤ L ∧ L ≤ 60) (s : List Nat) (h : St s) : ∀ (d k i : Nat) (acc : List (List Int)), i + d = s.length → 2000 + 200 * d < k → acc.length + 60 * d ≤ 900 →
    impl_GoodStrips.l0 k (ints s) acc (VL L u 60) (ints s) ((ints s).length : Int) (i : Int) (L : Int) u = some (acc ++ ((List.range' i d).flatMap (gat L u (T L u s) s)).map en, true) := by
  have hf := h.few
  intro d
  induction d with
  | zero =>
    intro k i acc hi hk hl
    obtain ⟨k, rfl⟩ : ∃ q, k = q + 1 := ⟨k - 1, by omega⟩
    conv => lhs; unfold impl_GoodStrips.l0
    rw [if_neg (by rw [ints_len]; omega)]
    simp
  | succ d ih =>
    intro k i acc hi hk hl
    obtain ⟨k, rfl⟩ : ∃ q, k = q + 1 := ⟨k - 1, by omega⟩
    have hlt : i < s.length := by omega
    have hn := h.all s[i] (List.getElem_mem hlt)
    have hm := mv_len L u s[i]
    have hg := gm_le (L := L) (u := u) (t := T L u s) hn.2
    have e := gi_l1 u hL s h i s[i] hn.2 ((ints s).length : Int) (i : Int) (mv L u s[i]) (fun a ha => (mv_in ha).2.1) (by omega) (mv L u s[i]).length k 0 acc (by omega) (by omega) (by omega)
    rw [List.drop_zero, PK.w1 hlt (by omega)] at e
    conv => lhs; unfold impl_GoodStrips.l0
    rw [if_pos (by rw [ints_len]; omega), if_pos (by omega), if_pos (by rw [ints_len]; omega), ints_rd hlt, rmoves_eq u (by omega) (by omega) (by omega), Option.bind_some]
    refine Eq.trans e ?_
    rw [ih _ (i + 1) _ (by omega) (by omega) (by rw [List.length_append, List.length_map]; unfold gm at hg; omega), List.range'_succ, List.flatMap_cons, List.map_append, List.append_assoc]
    unfold gat gm
    rw [getD_at' hlt, List.map_map]
    rfl
theorem gs_l0 {L : Nat} (u : Bool) (hL : 1 ≤ L ∧ L ≤ 60) (s : List Nat) (h : St s) (t : Nat) (ht : t < 16) : ∀ (d k i : Nat) (acc : List (List Int)), i + d = s.length → 2000 + 200 * d < k → acc.length + 60 * d ≤ 900 →
    spec_GoodStrips.l0 k (L : Int) u (VL L u 60) (t : Int) acc (ints s) ((ints s).length : Int) (i : Int) = some (acc ++ ((List.range' i d).flatMap (gat L u t s)).map en, true) := by
  have hf := h.few
  intro d
  induction d with
  | zero =>
    intro k i acc hi hk hl
    obtain ⟨k, rfl⟩ : ∃ q, k = q + 1 := ⟨k - 1, by omega⟩
    conv => lhs; unfold spec_GoodStrips.l0
    rw [if_neg (by rw [ints_len]; omega)]
    simp
  | succ d ih =>
    intro k i acc hi hk hl
    obtain ⟨k, rfl⟩ : ∃ q, k = q + 1 := ⟨k - 1, by omega⟩
    have hlt : i < s.length := by omega
    have hn := h.all s[i] (List.getElem_mem hlt)
    have hg := gm_le (L := L) (u := u) (t := t) hn.2
    have e := gs_l1 u hL s t ht i s[i] hn.2 ((ints s).length : Int) (i : Int) (s[i] / 2) k 1 acc (by omega) (by omega) (by omega) (by omega)
    rw [PK.w1 hlt (by omega)] at e
    conv => lhs; unfold spec_GoodStrips.l0
    rw [if_pos (by rw [ints_len]; omega), if_pos (by omega), if_pos (by rw [ints_len]; omega), ints_rd hlt]
    refine Eq.trans e ?_
    rw [ih _ (i + 1) _ (by omega) (by omega) (by rw [List.length_append, List.length_map]; unfold gm mv at hg; omega), List.range'_succ, List.flatMap_cons, List.map_append, List.append_assoc]
    unfold gat gm
    rw [getD_at' hlt, List.map_map]
    rfl
theorem Good_eq {L : Nat} (u : Bool) (hL : 1 ≤ L ∧ L ≤ 60) {s : List Nat} (h : St s) {k : Nat} (hk : 30000 ≤ k) : impl_GoodStrips.f k (ints s) (L : Int) u = some ((gp L u s).map en, true) := by
  obtain ⟨k, rfl⟩ : ∃ q, k = q + 1 := ⟨k - 1, by omega⟩
  have hf := h.few
  unfold impl_GoodStrips.f
  rw [areStrips_eq, ints_okS h, Option.bind_some, if_pos rfl, strip_eq, Option.bind_some, decide_eq_true (show 1 ≤ (L : Int) ∧ (L : Int) ≤ 60 by omega)]
  have e : ((60 : Nat) : Int) = 60 := rfl
  simp only [impl_GoodStrips.j0]
  rw [if_neg (by decide), ← e, values_eq u hL (Nat.le_refl _) (by omega), Option.bind_some]
  have e2 := gi_l0 u hL s h s.length k 0 [] (by omega) (by omega) (by simp; omega)
  rw [List.nil_append, ← List.range_eq_range'] at e2
  exact e2
theorem GoodS_eq {L : Nat} (u : Bool) (hL : 1 ≤ L ∧ L ≤ 60) {s : List Nat} (h : St s) {k : Nat} (hk : 30000 ≤ k) : spec_GoodStrips.f k (ints s) (L : Int) u = some ((gp L u s).map en, true) := by
  have hf := h.few
  have e : ((60 : Nat) : Int) = 60 := rfl
  unfold spec_GoodStrips.f
  rw [laStrips_eq _ _ _ (by omega), ints_okS h, Option.bind_some, decide_eq_true (show 1 ≤ (L : Int) ∧ (L : Int) ≤ 60 by omega), Bool.true_and, if_pos rfl, ← e, laValues_eq u hL (Nat.le_refl _) (by omega), Option.bind_some, laAll_eq u hL h (by omega), Option.bind_some]
  have e2 := gs_l0 u hL s h (T L u s) (T_lt hL h) s.length k 0 [] (by omega) (by omega) (by simp; omega)
  rw [List.nil_append, ← List.range_eq_range'] at e2
  exact e2
theorem gp_mem {L : Nat} {u : Bool} {s : List Nat} {p : Nat × Nat} : p ∈ gp L u s ↔ p.1 < s.length ∧ p.2 ∈ mv L u (s.getD p.1 0) ∧ T L u s ^^^ V L u (s.getD p.1 0) ^^^ V L u p.2 ^^^ V L u (s.getD p.1 0 - p.2) = 0 := by
  unfold gp gat gm
  rw [List.mem_flatMap]
  constructor
  · rintro ⟨i, hi, h⟩
    obtain ⟨a, ha, rfl⟩ := List.mem_map.1 h
    have h2 := List.mem_filter.1 ha
    exact ⟨List.mem_range.1 hi, h2.1, zr_iff.1 h2.2⟩
  · rintro ⟨h1, h2, h3⟩
    exact ⟨p.1, List.mem_range.2 h1, List.mem_map.2 ⟨p.2, List.mem_filter.2 ⟨h2, zr_iff.2 h3⟩, rfl⟩⟩
theorem gp_lex (L : Nat) (u : Bool) (s : List Nat) : (gp L u s).Pairwise fun p q => p.1 < q.1 ∨ p.1 = q.1 ∧ p.2 < q.2 := by
  unfold gp
  rw [List.pairwise_flatMap]
  refine ⟨fun i _ => ?_, ?_⟩
  · unfold gat gm mv
    rw [List.pairwise_map]
    refine List.Pairwise.imp ?_ (List.Pairwise.filter _ (List.Pairwise.filter _ List.pairwise_lt_range'))
    intro a b hab
    exact .inr ⟨rfl, hab⟩
  · rw [List.range_eq_range']
    refine List.Pairwise.imp ?_ List.pairwise_lt_range'
    intro i j hij p hp q hq
    obtain ⟨a, _, rfl⟩ := List.mem_map.1 hp
    obtain ⟨b, _, rfl⟩ := List.mem_map.1 hq
    exact .inl hij
theorem sum_le (l : List Nat) (h : ∀ x ∈ l, x ≤ 30) : l.sum ≤ 30 * l.length := by
  induction l with
  | nil => simp
  | cons x l ih =>
    have h1 := h x List.mem_cons_self
    have h2 := ih fun y hy => h y (List.mem_cons_of_mem _ hy)
    rw [List.sum_cons, List.length_cons]; omega
theorem gp_len {L : Nat} {u : Bool} {s : List Nat} (h : St s) : (gp L u s).length ≤ 240 := by
  have hf := h.few
  unfold gp
  rw [List.length_flatMap]
  have h2 := sum_le ((List.range s.length).map fun a => (gat L u (T L u s) s a).length) (fun x hx => by
    obtain ⟨i, hi, rfl⟩ := List.mem_map.1 hx
    have hi' := List.mem_range.1 hi
    unfold gat
    rw [List.length_map, getD_at' hi']
    exact gm_le (h.all _ (List.getElem_mem hi')).2)
  rw [List.length_map, List.length_range] at h2
  omega
theorem gp_ne {L : Nat} {u : Bool} {s : List Nat} (hL : 1 ≤ L ∧ L ≤ 60) (h : St s) : gp L u s ≠ [] ↔ T L u s ≠ 0 := by
  constructor
  · intro hne e
    obtain ⟨p, hp⟩ := List.exists_mem_of_ne_nil _ hne
    obtain ⟨h1, h2, h3⟩ := gp_mem.1 hp
    rw [e, Nat.zero_xor, Nat.xor_assoc] at h3
    rw [getD_at' h1] at h2 h3
    have hn := h.all _ (List.getElem_mem h1)
    exact (V_mex (L := L) (u := u) hn.1).1 (List.mem_map.2 ⟨p.2, h2, (xor_zero h3).symm⟩)
  · intro hne e
    obtain ⟨x, hx, hlt⟩ := nim (s.map (V L u)) (fun x hx => by
      obtain ⟨n, hn, rfl⟩ := List.mem_map.1 hx
      exact V_lt hL (h.all n hn).2) hne
    obtain ⟨n, hn, rfl⟩ := List.mem_map.1 hx
    obtain ⟨i, hi, rfl⟩ := List.mem_iff_getElem.1 hn
    obtain ⟨a, ha, e2⟩ := List.mem_map.1 ((V_mex (L := L) (u := u) (h.all _ hn).1).2 _ hlt)
    have : (i, a) ∈ gp L u s := gp_mem.2 ⟨hi, by rw [getD_at' hi]; exact ha, by
      show T L u s ^^^ V L u (s.getD i 0) ^^^ V L u a ^^^ V L u (s.getD i 0 - a) = 0
      rw [getD_at' hi, Nat.xor_assoc, e2]
      show T L u s ^^^ V L u s[i] ^^^ (V L u s[i] ^^^ T L u s) = 0
      rw [Nat.xor_comm (V L u s[i]) (T L u s), Nat.xor_self]⟩
    rw [e] at this
    cases this

/-! breaking one of several strips -/
def canI (L : Int) (u : Bool) (n a : Int) : Bool := decide (a ≥ L) && (decide (n - a ≥ L) && (!u || decide (2 * a ≠ n)))
theorem rcan_I {L n a : Int} (u : Bool) (hn : 0 ≤ n ∧ n ≤ 60) (ha : -1000 ≤ a ∧ a ≤ 1000) : impl_rule_can.f L u n a = some (canI L u n a) := by
  have hw : wrap64 (n - a) = n - a := PK.wrap_in (by omega) (by omega)
  have hw2 : wrap64 (2 * a) = 2 * a := PK.wrap_in (by omega) (by omega)
  unfold impl_rule_can.f canI
  rw [hw, hw2]
  by_cases c1 : a ≥ L
  · rw [if_pos c1, decide_eq_true c1, Bool.true_and]
    by_cases c2 : n - a ≥ L
    · rw [if_pos c2, decide_eq_true c2, Bool.true_and]
      cases u
      · rfl
      · rw [if_pos rfl]
        by_cases c : 2 * a = n
        · simp [c]
        · simp [c]
    · rw [if_neg c2, decide_eq_false c2]; rfl
  · rw [if_neg c1, decide_eq_false c1]; rfl
theorem lcan_I {L n a : Int} (u : Bool) (hn : 0 ≤ n ∧ n ≤ 60) (ha : -1000 ≤ a ∧ a ≤ 1000) : spec_laCan.f n a L u = some (canI L u n a) := by
  have hw : wrap64 (n - a) = n - a := PK.wrap_in (by omega) (by omega)
  unfold spec_laCan.f canI
  rw [hw]
  by_cases c1 : a ≥ L
  · rw [if_pos c1, decide_eq_true c1, Bool.true_and]
    by_cases c2 : n - a ≥ L
    · rw [if_pos c2, decide_eq_true c2, Bool.true_and]
      cases u
      · rfl
      · rw [if_pos rfl]
        by_cases c : 2 * a = n
        · rw [decide_eq_false (by simpa using c), show (a != n - a) = false from bne_eq_false_iff_eq.2 (by omega)]; rfl
        · rw [decide_eq_true c, show (a != n - a) = true from bne_iff_ne.2 (by omega)]; rfl
    · rw [if_neg c2, decide_eq_false c2]; rfl
  · rw [if_neg c1, decide_eq_false c1]; rfl
theorem canI_in {L n a : Int} {u : Bool} (h : canI L u n a = true) (hL : 1 ≤ L) (hn : n ≤ 60) : 1 ≤ a ∧ a ≤ n - 1 := by
  unfold canI at h
  rw [Bool.and_eq_true, Bool.and_eq_true, decide_eq_true_eq, decide_eq_true_eq] at h
  omega
def Brk (l : List Int) (i a b : Int) (u : Bool) : Prop := okS l = true ∧ (1 ≤ b ∧ b ≤ 60) ∧ (0 ≤ i ∧ i < (l.length : Int)) ∧ l.length ≠ 8 ∧ canI b u (rd l i) a = true
instance Brk.dec (l : List Int) (i a b : Int) (u : Bool) : Decidable (Brk l i a b u) := by unfold Brk; infer_instance
def brk (l : List Int) (i a b : Int) (u : Bool) : List Int × Bool := if Brk l i a b u then (l.set i.toNat a ++ [rd l i - a], true) else ([], false)
theorem okS_all {l : List Int} (h : okS l = true) : (1 ≤ l.length ∧ l.length ≤ 8) ∧ ∀ x ∈ l, 1 ≤ x ∧ x ≤ 60 := by
  unfold okS at h
  simp only [Bool.and_eq_true, decide_eq_true_eq, List.all_eq_true] at h
  exact ⟨⟨by omega, by omega⟩, h.2⟩
theorem rd_in {l : List Int} (h : okS l = true) {i : Int} (hi : 0 ≤ i ∧ i < (l.length : Int)) : 1 ≤ rd l i ∧ rd l i ≤ 60 := by
  obtain ⟨j, rfl⟩ : ∃ j : Nat, i = (j : Int) := ⟨i.toNat, by omega⟩
  rw [PK.rd_at (show j < l.length by omega)]
  exact (okS_all h).2 _ (List.getElem_mem _)
theorem brk_no {l : List Int} {i a b : Int} {u : Bool} (h : ¬ Brk l i a b u) : brk l i a b u = ([], false) := if_neg h
theorem Break_I (l : List Int) (i a b : Int) (u : Bool) : impl_BreakStrip.f l i a b u = some (brk l i a b u) := by
  unfold impl_BreakStrip.f
  rw [areStrips_eq, Option.bind_some]
  by_cases h : okS l = true
  · have hl := (okS_all h).1
    rw [if_pos h, strip_eq, Option.bind_some]
    by_cases hb : 1 ≤ b ∧ b ≤ 60
    · rw [if_pos (decide_eq_true hb), within_eq, Option.bind_some, ← Bool.decide_and, PK.wrap_in (x := (l.length : Int) - 1) (by omega) (by omega)]
      by_cases hi : 0 ≤ i ∧ i ≤ (l.length : Int) - 1
      · rw [if_pos (decide_eq_true hi)]
        by_cases h8 : (l.length : Int) = 8
        · rw [if_pos h8, brk_no (fun z => z.2.2.2.1 (by omega))]
        · have hr := rd_in h (i := i) (by omega)
          rw [if_neg h8, strip_eq, Option.bind_some]
          by_cases ha : 1 ≤ a ∧ a ≤ 60
          · rw [if_pos (decide_eq_true ha), if_pos hi.1, if_pos (by omega), rcan_I u (by omega) (by omega), Option.bind_some]
            by_cases hc : canI b u (rd l i) a = true
            · rw [if_pos hc]
              have e : brk l i a b u = (l.set i.toNat a ++ [rd l i - a], true) := if_pos ⟨h, hb, by omega, by omega, hc⟩
              unfold slices_Clone_int_int.f
              rw [if_pos (by omega), Option.bind_some, Option.bind_some, if_pos (by simp; omega), Option.bind_some, if_pos (by rw [List.length_append]; omega), e, List.set_append_left _ _ (by omega), PK.wrap_in (by omega) (by omega)]
            · rw [if_neg hc, brk_no (fun z => hc z.2.2.2.2)]
          · rw [if_neg (by simpa using ha), brk_no (fun z => ha (by have := canI_in z.2.2.2.2 hb.1 hr.2; omega))]
      · rw [if_neg (by simpa using hi), brk_no (fun z => hi (by have := z.2.2.1; omega))]
    · rw [if_neg (by simpa using hb), brk_no (fun z => hb z.2.1)]
  · rw [if_neg h, brk_no (fun z => h z.1)]
theorem Break_S (l : List Int) (i a b : Int) (u : Bool) (k : Nat) (hk : 100 ≤ k) : spec_BreakStrip.f k l i a b u = some (brk l i a b u) := by
  unfold spec_BreakStrip.f
  rw [laStrips_eq l b k hk, Option.bind_some]
  by_cases h : okS l = true
  · have hl := (okS_all h).1
    by_cases hb : 1 ≤ b ∧ b ≤ 60
    · rw [h, decide_eq_true hb, Bool.and_self, if_pos rfl]
      by_cases h8 : (l.length : Int) = 8
      · rw [if_pos h8, brk_no (fun z => z.2.2.2.1 (by omega))]
      · rw [if_neg h8, l1In_eq, Option.bind_some, ← Bool.decide_and, PK.wrap_in (x := (l.length : Int) - 1) (by omega) (by omega)]
        by_cases hi : 0 ≤ i ∧ i ≤ (l.length : Int) - 1
        · have hr := rd_in h (i := i) (by omega)
          rw [if_pos (decide_eq_true hi), if_pos hi.1, if_pos (by omega), l1In_eq, Option.bind_some, ← Bool.decide_and, PK.wrap_in (x := rd l i - 1) (by omega) (by omega)]
          by_cases ha : 1 ≤ a ∧ a ≤ rd l i - 1
          · rw [if_pos (decide_eq_true ha), lcan_I u (by omega) (by omega), Option.bind_some]
            by_cases hc : canI b u (rd l i) a = true
            · rw [if_pos hc]
              have e : brk l i a b u = (l.set i.toNat a ++ [rd l i - a], true) := if_pos ⟨h, hb, by omega, by omega, hc⟩
              unfold spec_l1Own.f
              rw [Option.bind_some, if_pos (by simp; omega), Option.bind_some, List.nil_append, if_pos (by omega), Option.bind_some, if_pos (by rw [List.length_set]; omega), e, PK.wrap_in (by omega) (by omega)]
            · rw [if_neg hc, brk_no (fun z => hc z.2.2.2.2)]
          · rw [if_neg (by simpa using ha), brk_no (fun z => ha (canI_in z.2.2.2.2 hb.1 hr.2))]
        · rw [if_neg (by simpa using hi), brk_no (fun z => hi (by have := z.2.2.1; omega))]
    · rw [decide_eq_false hb, Bool.and_false, if_neg (by simp), brk_no (fun z => hb z.2.1)]
  · rw [Bool.eq_false_iff.2 h, Bool.false_and, if_neg (by simp), brk_no (fun z => h z.1)]
theorem sum_set (l : List Int) : ∀ (i : Nat) (h : i < l.length) (a : Int), (l.set i a).sum = l.sum - l[i] + a := by
  induction l with
  | nil => intro i h; simp at h
  | cons x l ih =>
    intro i h a
    cases i with
    | zero => rw [List.set_cons_zero, List.sum_cons, List.sum_cons, List.getElem_cons_zero]; omega
    | succ i =>
      have := ih i (by simpa using h) a
      rw [List.set_cons_succ, List.sum_cons, List.sum_cons, List.getElem_cons_succ, this]; omega
theorem ysum_run (l : List Int) (hl : ∀ x ∈ l, 0 ≤ x ∧ x ≤ 60) (hn : l.length ≤ 100) : ∀ (d k i : Nat) (acc : Int), i + d = l.length → d < k → (0 ≤ acc ∧ acc ≤ 60 * (i : Int)) → laws_ySum.l0 k acc l (l.length : Int) (i : Int) = some (acc + (l.drop i).sum) := by
  intro d
  induction d with
  | zero =>
    intro k i acc hi hk ha
    obtain ⟨k, rfl⟩ : ∃ q, k = q + 1 := ⟨k - 1, by omega⟩
    simp only [laws_ySum.l0]
    rw [if_neg (by omega), List.drop_eq_nil_of_le (by omega)]; simp
  | succ d ih =>
    intro k i acc hi hk ha
    obtain ⟨k, rfl⟩ : ∃ q, k = q + 1 := ⟨k - 1, by omega⟩
    have hlt : i < l.length := by omega
    have hx := hl _ (List.getElem_mem hlt)
    simp only [laws_ySum.l0]
    rw [if_pos (by omega), if_pos (by omega), if_pos (by omega), PK.rd_at hlt, PK.wrap_in (x := acc + l[i]) (by omega) (by omega), PK.w1 hlt (by omega), ih k (i + 1) _ (by omega) (by omega) (by omega), List.drop_eq_getElem_cons hlt, List.sum_cons, Int.add_assoc]
theorem ysum_eq (l : List Int) (hl : ∀ x ∈ l, 0 ≤ x ∧ x ≤ 60) (hn : l.length ≤ 100) (k : Nat) (hk : 1000 ≤ k) : laws_ySum.f k l = some l.sum := by
  unfold laws_ySum.f
  have h := ysum_run l hl hn l.length k 0 0 (by omega) (by omega) (by omega)
  rw [List.drop_zero, Int.zero_add] at h
  exact h
theorem j9_ok (l : List Int) (i a b : Int) (u : Bool) (k : Nat) (hk : 2000 ≤ k) : laws_FnBreaksStrips.j9 k l i a (brk l i a b u).1 (brk l i a b u).2 = some true := by
  obtain ⟨k, rfl⟩ : ∃ q, k = q + 1 := ⟨k - 1, by omega⟩
  simp only [laws_FnBreaksStrips.j9]
  by_cases h : Brk l i a b u
  · have e : brk l i a b u = (l.set i.toNat a ++ [rd l i - a], true) := if_pos h
    obtain ⟨h1, h2, h3, h4, h5⟩ := h
    have hl := okS_all h1
    have hr := rd_in h1 h3
    have ha := canI_in h5 h2.1 hr.2
    obtain ⟨j, rfl⟩ : ∃ j : Nat, i = (j : Int) := ⟨i.toNat, by omega⟩
    have hj : j < l.length := by omega
    rw [e]
    rw [Int.toNat_natCast]
    have hlen : (l.set j a ++ [rd l (j : Int) - a]).length = l.length + 1 := by rw [List.length_append, List.length_set]; rfl
    have hall : ∀ x ∈ l.set j a ++ [rd l (j : Int) - a], 0 ≤ x ∧ x ≤ 60 := by
      intro x hx
      rcases List.mem_append.1 hx with hx | hx
      · rcases List.mem_or_eq_of_mem_set hx with hx | rfl
        · have := hl.2 x hx; omega
        · omega
      · rw [List.mem_singleton] at hx; omega
    have e1 : rd (l.set j a ++ [rd l (j : Int) - a]) (j : Int) = a := by
      rw [PK.rd_at (by omega), List.getElem_append_left (by rw [List.length_set]; exact hj), List.getElem_set_self]
    have e2 : rd (l.set j a ++ [rd l (j : Int) - a]) (l.length : Int) = rd l (j : Int) - a := by
      rw [PK.rd_at (by omega), List.getElem_append_right (by rw [List.length_set]; exact Nat.le_refl _)]
      simp
    have e3 : (l.set j a ++ [rd l (j : Int) - a]).sum = l.sum := by
      rw [List.sum_append, sum_set l j hj, PK.rd_at hj, List.sum_cons, List.sum_nil]; omega
    rw [if_pos rfl, hlen, PK.w1 (show l.length < 100 by omega) (by omega), if_pos rfl, ysum_eq _ hall (by omega) k (by omega), Option.bind_some, ysum_eq l (fun x hx => by have := hl.2 x hx; omega) (by omega) k (by omega), Option.bind_some, if_pos e3, if_pos (by omega), if_pos (by omega), if_pos e1, if_pos (by omega), if_pos (by omega), if_pos (by omega), e2, PK.wrap_in (by omega) (by omega), if_pos rfl]
  · rw [brk_no h, if_neg (by simp)]
theorem can_canI {L n a : Nat} {u : Bool} (ha : 2 * a ≤ n) (h : can L u n a = true) : canI (L : Int) u (n : Int) (a : Int) = true := by
  unfold can at h
  unfold canI
  simp only [Bool.and_eq_true, decide_eq_true_eq, Bool.or_eq_true, Bool.not_eq_true', beq_eq_false_iff_ne] at h ⊢
  obtain ⟨⟨h1, h2⟩, h3⟩ := h
  refine ⟨by omega, by omega, ?_⟩
  rcases h3 with h3 | h3
  · exact .inl h3
  · exact .inr (by omega)
theorem mv_can {L : Nat} {u : Bool} {n a : Nat} (h : a ∈ mv L u n) : can L u n a = true := (List.mem_filter.1 h).2
theorem brk_mv {L : Nat} {u : Bool} {s : List Nat} (hL : 1 ≤ L ∧ L ≤ 60) (h : St s) (h8 : s.length < 8) {i a : Nat} (hi : i < s.length) (ha : a ∈ mv L u s[i]) : brk (ints s) (i : Int) (a : Int) (L : Int) u = (ints (s.set i a ++ [s[i] - a]), true) := by
  have hm := mv_in ha
  have e : brk (ints s) (i : Int) (a : Int) (L : Int) u = ((ints s).set ((i : Int)).toNat (a : Int) ++ [rd (ints s) (i : Int) - (a : Int)], true) := if_pos ⟨ints_okS h, by omega, by rw [ints_len]; omega, by rw [ints_len]; omega, by
    rw [ints_rd hi]
    exact can_canI hm.2.1 (mv_can ha)⟩
  rw [e, ints_rd hi, Int.toNat_natCast]
  congr 1
  unfold ints
  rw [List.map_append, List.map_set]
  congr 1
  show [(s[i] : Int) - (a : Int)] = [((s[i] - a : Nat) : Int)]
  congr 1
  omega
theorem St_next {L : Nat} {u : Bool} {s : List Nat} (h : St s) (h8 : s.length < 8) {i a : Nat} (hi : i < s.length) (ha : a ∈ mv L u s[i]) : St (s.set i a ++ [s[i] - a]) := by
  have hm := mv_in ha
  have hn := h.all _ (List.getElem_mem hi)
  refine ⟨by rw [List.length_append, List.length_singleton]; omega, by rw [List.length_append, List.length_set, List.length_singleton]; omega, fun x hx => ?_⟩
  rcases List.mem_append.1 hx with hx | hx
  · rcases List.mem_or_eq_of_mem_set hx with hx | rfl
    · exact h.all x hx
    · omega
  · rw [List.mem_singleton] at hx; omega
theorem T_next {L : Nat} {u : Bool} {s : List Nat} {i a : Nat} (hi : i < s.length) : T L u (s.set i a ++ [s[i] - a]) = T L u s ^^^ V L u s[i] ^^^ V L u a ^^^ V L u (s[i] - a) := by
  unfold T
  rw [List.map_append, List.map_set]
  show tot ((s.map (V L u)).set i (V L u a) ++ [V L u (s[i] - a)]) = _
  rw [tot_snoc, tot_set _ i (by rw [List.length_map]; exact hi), List.getElem_map]

theorem take_succ_rd {l : List Int} {i : Nat} (h : i < l.length) : l.take (i + 1) = l.take i ++ [rd l (i : Int)] := by
  rw [PK.rd_at h, List.take_add_one, List.getElem?_eq_getElem h]; rfl
theorem has_run (l : List Int) (x : Int) (hn : l.length ≤ 4000000) : ∀ (d k i : Nat), i + d = l.length → d < k → x ∉ l.take i →
    laws_yHas.l0 k x l (l.length : Int) (i : Int) = some (decide (x ∈ l)) := by
  intro d
  induction d with
  | zero =>
    intro k i hi hk he
    obtain ⟨k, rfl⟩ : ∃ q, k = q + 1 := ⟨k - 1, by omega⟩
    rw [List.take_of_length_le (by omega)] at he
    simp only [laws_yHas.l0]
    rw [if_neg (by omega), decide_eq_false he]
  | succ d ih =>
    intro k i hi hk he
    obtain ⟨k, rfl⟩ : ∃ q, k = q + 1 := ⟨k - 1, by omega⟩
    have hlt : i < l.length := by omega
    simp only [laws_yHas.l0]
    rw [if_pos (by omega), if_pos (by omega), if_pos (by omega), PK.w1 hlt (by omega)]
    by_cases c : rd l (i : Int) = x
    · rw [if_pos c, decide_eq_true]
      rw [← c, PK.rd_at hlt]
      exact List.getElem_mem hlt
    · rw [if_neg c]
      refine ih k (i + 1) (by omega) (by omega) ?_
      rw [take_succ_rd hlt, List.mem_append, List.mem_singleton]
      rintro (h | h)
      · exact he h
      · exact c h.symm
theorem has_eq (l : List Int) (x : Int) (hl : l.length ≤ 4000) (k : Nat) (hk : 5000 ≤ k) : laws_yHas.f k l x = some (decide (x ∈ l)) := by
  unfold laws_yHas.f
  exact has_run l x (by omega) l.length k 0 (by omega) (by omega) (by simp)

theorem same_run (a b : List Int) (hl : a.length = b.length) (hn : a.length ≤ 4000000) : ∀ (d k i : Nat), i + d = a.length → d < k → a.take i = b.take i →
    laws_ySame.l0 k a b (a.length : Int) (i : Int) = some (decide (a = b)) := by
  intro d
  induction d with
  | zero =>
    intro k i hi hk he
    obtain ⟨k, rfl⟩ : ∃ q, k = q + 1 := ⟨k - 1, by omega⟩
    rw [List.take_of_length_le (by omega), List.take_of_length_le (by omega)] at he
    simp only [laws_ySame.l0]
    rw [if_neg (by omega), decide_eq_true he]
  | succ d ih =>
    intro k i hi hk he
    obtain ⟨k, rfl⟩ : ∃ q, k = q + 1 := ⟨k - 1, by omega⟩
    simp only [laws_ySame.l0]
    rw [if_pos (by omega), if_pos (by omega), if_pos (by omega), if_pos (by omega), PK.w1 (show i < a.length by omega) (by omega)]
    by_cases c : rd a (i : Int) = rd b (i : Int)
    · rw [if_pos c]
      exact ih k (i + 1) (by omega) (by omega) (by rw [take_succ_rd (by omega), take_succ_rd (by omega), he, c])
    · rw [if_neg c, decide_eq_false]
      intro e
      exact c (by rw [e])
theorem same_eq (a b : List Int) (ha : a.length ≤ 4000) (hb : b.length ≤ 4000) (k : Nat) (hk : 5000 ≤ k) : laws_ySame.f k a b = some (decide (a = b)) := by
  unfold laws_ySame.f
  by_cases c : (a.length : Int) = (b.length : Int)
  · rw [if_pos c]
    exact same_run a b (by omega) (by omega) a.length k 0 (by omega) (by omega) rfl
  · rw [if_neg c, decide_eq_false]
    intro e
    exact c (by rw [e])
theorem rises_run (l : List Int) (hp : l.Pairwise (· < ·)) (hn : l.length ≤ 4000) : ∀ (d k i : Nat), i + d = l.length → d < k →
    laws_yRises.l0 k l ((i + 1 : Nat) : Int) = some true := by
  intro d
  induction d with
  | zero =>
    intro k i hi hk
    obtain ⟨k, rfl⟩ : ∃ q, k = q + 1 := ⟨k - 1, by omega⟩
    simp only [laws_yRises.l0]
    rw [if_neg (by omega)]
  | succ d ih =>
    intro k i hi hk
    obtain ⟨k, rfl⟩ : ∃ q, k = q + 1 := ⟨k - 1, by omega⟩
    have hw : wrap64 (((i + 1 : Nat) : Int) - 1) = (i : Int) := by rw [PK.wrap_in (by omega) (by omega)]; omega
    have hw2 : wrap64 (((i + 1 : Nat) : Int) + 1) = ((i + 1 + 1 : Nat) : Int) := by rw [PK.wrap_in (by omega) (by omega)]; omega
    simp only [laws_yRises.l0]
    rw [hw, hw2]
    by_cases c : i + 1 < l.length
    · have hlt : i < l.length := by omega
      have h := List.pairwise_iff_getElem.1 hp i (i + 1) hlt c (by omega)
      rw [if_pos (by omega), if_pos (by omega), if_pos (by omega), if_pos (by omega), PK.rd_at hlt, PK.rd_at c, if_neg (by omega)]
      exact ih k (i + 1) (by omega) (by omega)
    · rw [if_neg (by omega)]
theorem rises_eq (l : List Int) (hp : l.Pairwise (· < ·)) (hn : l.length ≤ 4000) (k : Nat) (hk : 5000 ≤ k) : laws_yRises.f k l = some true := by
  unfold laws_yRises.f
  have := rises_run l hp hn l.length k 0 (by omega) (by omega)
  exact this

/-! the law's own rounds -/
theorem bne_f {a b : Bool} (h : a = b) : (a != b) = false := by rw [h]; cases b <;> rfl
theorem rdL2_at {G : List (Nat × Nat)} {j : Nat} (h : j < G.length) : rd_L2 (G.map en) (j : Int) = en G[j] := by
  have e : rd_L2 (G.map en) (j : Int) = (G.map en).getD ((j : Int)).toNat [] := rfl
  rw [e, Int.toNat_natCast, List.getD_eq_getElem?_getD, List.getElem?_eq_getElem (by rw [List.length_map]; exact h), List.getElem_map]
  rfl
theorem en_0 (p : Nat × Nat) : rd (en p) 0 = (p.1 : Int) := rfl
theorem en_1 (p : Nat × Nat) : rd (en p) 1 = (p.2 : Int) := rfl
theorem en_len (p : Nat × Nat) : (en p).length = 2 := rfl
theorem j8_ok {L : Nat} (u : Bool) (hL : 1 ≤ L ∧ L ≤ 60) (s : List Nat) (h : St s) (x55 : List Int) (x56 x57 : Int) (x60 : List Int) (x61 : Bool) (N : Int) (j : Nat) (hj : j < (gp L u s).length) (k : Nat) (hk : 40000 ≤ k)
    (ih : laws_FnBreaksStrips.l3 k (ints s) (L : Int) u ((gp L u s).map en) x55 x56 x57 x60 x61 ((gp L u s).map en) N ((j + 1 : Nat) : Int) = some true) :
    laws_FnBreaksStrips.j8 (k + 1) (ints s) (L : Int) u ((gp L u s).map en) x55 x56 x57 x60 x61 ((gp L u s).map en) N (j : Int) false = some true := by
  have hG := gp_len (L := L) (u := u) h
  conv => lhs; unfold laws_FnBreaksStrips.j8
  rw [if_neg (by decide), PK.w1 hj (by omega), rdL2_at hj, en_len, en_0, en_1]
  by_cases c : s.length < 8
  · obtain ⟨h1, h2, h3⟩ := gp_mem.1 (List.getElem_mem hj)
    rw [getD_at' h1] at h2 h3
    rw [if_pos (by rw [ints_len]; omega), if_pos (by decide), if_pos (by decide), Break_I, Option.bind_some, brk_mv hL h c h1 h2]
    show (impl_WinsStrips.f k (ints _) (L : Int) u).bind _ = _
    rw [Wins_eq u hL (St_next h c h1 h2) (by omega), Option.bind_some, T_next h1, h3]
    exact ih
  · rw [if_neg (by rw [ints_len]; omega)]
    exact ih
theorem l3_ok {L : Nat} (u : Bool) (hL : 1 ≤ L ∧ L ≤ 60) (s : List Nat) (h : St s) (x55 : List Int) (x56 x57 : Int) (x60 : List Int) (x61 : Bool) (h9 : ∀ k, 2000 ≤ k → laws_FnBreaksStrips.j9 k x55 x56 x57 x60 x61 = some true) : ∀ (d k j : Nat), j + d = (gp L u s).length → 50000 + 2 * d ≤ k →
    laws_FnBreaksStrips.l3 k (ints s) (L : Int) u ((gp L u s).map en) x55 x56 x57 x60 x61 ((gp L u s).map en) (((gp L u s).map en).length : Int) (j : Int) = some true := by
  have hG := gp_len (L := L) (u := u) h
  intro d
  induction d with
  | zero =>
    intro k j hj hk
    obtain ⟨k, rfl⟩ : ∃ q, k = q + 1 := ⟨k - 1, by omega⟩
    conv => lhs; unfold laws_FnBreaksStrips.l3
    rw [if_neg (by rw [List.length_map]; omega)]
    exact h9 k (by omega)
  | succ d ih =>
    intro k j hj hk
    obtain ⟨k, rfl⟩ : ∃ q, k = q + 2 := ⟨k - 2, by omega⟩
    have hlt : j < (gp L u s).length := by omega
    have h8 := j8_ok u hL s h x55 x56 x57 x60 x61 (((gp L u s).map en).length : Int) j hlt k (by omega) (ih k (j + 1) (by omega) (by omega))
    conv => lhs; unfold laws_FnBreaksStrips.l3
    rw [if_pos (by rw [List.length_map]; omega), if_pos (by omega), if_pos (by rw [List.length_map]; omega), rdL2_at hlt, en_len, if_pos (by decide)]
    by_cases c : (j : Int) > 0
    · have hw : wrap64 ((j : Int) - 1) = ((j - 1 : Nat) : Int) := by rw [PK.wrap_in (by omega) (by omega)]; omega
      have hlx := List.pairwise_iff_getElem.1 (gp_lex L u s) (j - 1) j (by omega) hlt (by omega)
      rw [if_pos c, hw, if_pos (by omega), if_pos (by rw [List.length_map]; omega), rdL2_at (show j - 1 < _ by omega), en_len, en_0, en_0, en_1, en_1, if_pos (by decide), if_pos (by decide), if_neg (by omega)]
      by_cases c2 : (((gp L u s)[j - 1].1 : Nat) : Int) = ((gp L u s)[j].1 : Int)
      · rw [if_pos c2, if_pos (by decide), if_pos (by decide), decide_eq_false (by omega)]
        exact h8
      · rw [if_neg c2]
        exact h8
    · rw [if_neg c]
      exact h8
theorem l2_ok {L : Nat} (u : Bool) (hL : 1 ≤ L ∧ L ≤ 60) (s : List Nat) (h : St s) (x55 : List Int) (x56 x57 : Int) (x60 : List Int) (x61 : Bool) (h9 : ∀ k, 2000 ≤ k → laws_FnBreaksStrips.j9 k x55 x56 x57 x60 x61 = some true) : ∀ (d k i acc : Nat), i + d = s.length → 60000 + d ≤ k → acc < 16 → acc ^^^ tot ((s.drop i).map (V L u)) = T L u s →
    laws_FnBreaksStrips.l2 k (ints s) (L : Int) u ((gp L u s).map en) (decide (T L u s ≠ 0)) x55 x56 x57 x60 x61 (acc : Int) (ints s) ((ints s).length : Int) (i : Int) = some true := by
  have hf := h.few
  have hG := gp_len (L := L) (u := u) h
  intro d
  induction d with
  | zero =>
    intro k i acc hi hk ha he
    obtain ⟨k, rfl⟩ : ∃ q, k = q + 1 := ⟨k - 1, by omega⟩
    have e0 : acc = T L u s := by
      rw [List.drop_eq_nil_of_le (by omega)] at he
      rw [← he]; exact (Nat.xor_zero acc).symm
    conv => lhs; unfold laws_FnBreaksStrips.l2
    rw [if_neg (by rw [ints_len]; omega), e0, bne_f (show decide (T L u s ≠ 0) = ((T L u s : Int) != 0) by
      by_cases c : T L u s = 0
      · rw [c]; rfl
      · rw [decide_eq_true c, bne_iff_ne.2 (show (T L u s : Int) ≠ 0 by omega)]), if_neg (by decide)]
    exact l3_ok u hL s h x55 x56 x57 x60 x61 h9 (gp L u s).length k 0 (by omega) (by omega)
  | succ d ih =>
    intro k i acc hi hk ha he
    obtain ⟨k, rfl⟩ : ∃ q, k = q + 1 := ⟨k - 1, by omega⟩
    have hlt : i < s.length := by omega
    have hn := h.all s[i] (List.getElem_mem hlt)
    have hv := V_lt (u := u) hL hn.2
    conv => lhs; unfold laws_FnBreaksStrips.l2
    rw [if_pos (by rw [ints_len]; omega), if_pos (by omega), if_pos (by rw [ints_len]; omega), ints_rd hlt, Value_eq u hL hn (by omega), Option.bind_some, if_pos rfl, PK.w1 hlt (by omega)]
    show laws_FnBreaksStrips.l2 k _ _ _ _ _ _ _ _ _ _ (Go.bits .xor .i64 (acc : Int) (V L u s[i] : Int)) _ _ _ = _
    rw [xbits ha hv]
    refine ih k (i + 1) _ (by omega) (by omega) (Nat.xor_lt_two_pow (n := 4) ha hv) ?_
    rw [List.drop_eq_getElem_cons hlt, List.map_cons, tot_cons] at he
    rw [Nat.xor_assoc]
    exact he
theorem j5_ok {L : Nat} (u : Bool) (hL : 1 ≤ L ∧ L ≤ 60) (s : List Nat) (h : St s) (x55 : List Int) (x56 x57 : Int) (x60 : List Int) (x61 : Bool) (h9 : ∀ k, 2000 ≤ k → laws_FnBreaksStrips.j9 k x55 x56 x57 x60 x61 = some true) (k : Nat) (hk : 70000 ≤ k) :
    laws_FnBreaksStrips.j5 k (ints s) (L : Int) u ((gp L u s).map en) true (decide (T L u s ≠ 0)) x55 x56 x57 x60 x61 false = some true := by
  have hf := h.few
  obtain ⟨k, rfl⟩ : ∃ q, k = q + 1 := ⟨k - 1, by omega⟩
  simp only [laws_FnBreaksStrips.j5]
  rw [if_neg (by decide), if_pos True.intro]
  exact l2_ok u hL s h x55 x56 x57 x60 x61 h9 s.length k 0 0 (by omega) (by omega) (by omega) (by rw [Nat.zero_xor, List.drop_zero]; rfl)

/-! plays -/
theorem blt {a b : Nat} : Nat.blt a b = true ↔ a < b := by rw [Nat.blt_eq]
theorem nbest_snoc (mx : Bool) (l : List Nat) (y : Nat) : nbest mx (l ++ [y]) = if l = [] then y else if (if mx then Nat.blt (nbest mx l) y else Nat.blt y (nbest mx l)) then y else nbest mx l := by
  cases l with
  | nil => rfl
  | cons x r =>
    rw [if_neg (by simp)]
    show (r ++ [y]).foldl _ x = _
    rw [List.foldl_append]; rfl
/-- A table of plays. -/
structure Plays (L : Nat) (u mx : Bool) (f : Nat → Nat) : Prop where
  zero : f 0 = 0
  step : ∀ n, f (n + 1) = nbest mx ((mv L u (n + 1)).map fun a => 1 + f a + f (n + 1 - a))
  le : ∀ n, n ≤ 60 → f n ≤ 60
theorem M_plays {L : Nat} (u : Bool) (hL : 1 ≤ L ∧ L ≤ 60) : Plays L u true (M L u) := ⟨rfl, fun n => M_eq L u n, fun n hn => by
  by_cases c : n = 0
  · subst c; show 0 ≤ 60; omega
  · rcases (facts (u := u) hL ⟨by omega, hn⟩).most with h | h
    · omega
    · have := Nat.div_le_self n L; omega⟩
theorem F_plays {L : Nat} (u : Bool) (hL : 1 ≤ L ∧ L ≤ 60) : Plays L u false (F L u) := ⟨rfl, fun n => F_eq L u n, fun n hn => by
  by_cases c : n = 0
  · subst c; show 0 ≤ 60; omega
  · have h1 := (facts (u := u) hL ⟨by omega, hn⟩).le
    have h2 := (M_plays u hL).le n hn
    omega⟩
theorem bst_eq (mx : Bool) (b : Int → Int → Bool) (hb : ∀ x y : Nat, b (y : Int) (x : Int) = if mx then Nat.blt x y else Nat.blt y x) (l : List Nat) : impl_play.bst b (l.map fun (x : Nat) => (x : Int)) = (nbest mx l : Int) := by
  cases l with
  | nil => rfl
  | cons x r =>
    show (r.map fun (x : Nat) => (x : Int)).foldl (fun a y => if b y a then y else a) (x : Int) = ((r.foldl (fun a y => if (if mx then Nat.blt a y else Nat.blt y a) then y else a) x : Nat) : Int)
    induction r generalizing x with
    | nil => rfl
    | cons y r ih =>
      rw [List.map_cons, List.foldl_cons, List.foldl_cons, hb x y, ← ih]
      congr 1
      generalize (if mx = true then Nat.blt x y else Nat.blt y x) = q
      cases q <;> rfl
theorem plays_eq {L : Nat} (u mx : Bool) (hL : 1 ≤ L ∧ L ≤ 60) (b : Int → Int → Bool) (hb : ∀ x y : Nat, b (y : Int) (x : Int) = if mx then Nat.blt x y else Nat.blt y x) (f : Nat → Nat) (hf : Plays L u mx f) {k : Nat} (hk : 200 ≤ k) : ∀ n : Nat, n ≤ 60 → impl_play.vals k b (L : Int) u n = some ((List.range (n + 1)).map fun i => (f i : Int)) := by
  intro n
  induction n with
  | zero => intro _; show some [(0 : Int)] = some [(f 0 : Int)]; rw [hf.zero]; rfl
  | succ n ih =>
    intro hn
    have hown : ∀ a ∈ mv L u (n + 1), impl_play.own ((List.range (n + 1)).map fun i => (f i : Int)) (n + 1) (a : Int) = ((1 + f a + f (n + 1 - a) : Nat) : Int) := by
      intro a ha
      have h := mv_in ha
      unfold impl_play.own
      rw [Int.toNat_natCast, tl_at (by omega), tl_at (by omega)]
      omega
    have hfit : impl_play.Fit ((List.range (n + 1)).map fun i => (f i : Int)) (ints (mv L u (n + 1))) (n + 1) := by
      have hm := mv_len L u (n + 1)
      refine ⟨by rw [List.length_map, List.length_range], by omega, by unfold ints; rw [List.length_map]; omega, fun m hm => ?_, fun m hm => ?_⟩
      · obtain ⟨a, ha, rfl⟩ := ints_mem hm
        have h := mv_in ha
        omega
      · obtain ⟨i, hi, rfl⟩ := List.mem_map.1 hm
        have := hf.le i (by have := List.mem_range.1 hi; omega)
        omega
    simp only [impl_play.vals]
    rw [ih (by omega), Option.bind_some]
    unfold impl_play.nx
    rw [rmoves_eq u (by omega) (by omega) hk, Option.bind_some, if_pos hfit]
    congr 1
    have e : (ints (mv L u (n + 1))).map (impl_play.own ((List.range (n + 1)).map fun i => (f i : Int)) (n + 1)) = ((mv L u (n + 1)).map fun a => 1 + f a + f (n + 1 - a)).map fun (x : Nat) => (x : Int) := by
      unfold ints
      rw [List.map_map, List.map_map]
      exact List.map_congr_left fun a ha => hown a ha
    rw [e, bst_eq mx b hb, ← hf.step]
    exact (tl_succ n).symm
theorem pf_eq {L n : Nat} (u mx : Bool) (hL : 1 ≤ L ∧ L ≤ 60) (hn : 1 ≤ n ∧ n ≤ 60) (b : Int → Int → Bool) (hb : ∀ x y : Nat, b (y : Int) (x : Int) = if mx then Nat.blt x y else Nat.blt y x) (f : Nat → Nat) (hf : Plays L u mx f) {k : Nat} (hk : 200 ≤ k) : impl_play.pf k b (n : Int) (L : Int) u = some ((f n : Int), true) := by
  unfold impl_play.pf
  rw [strip_eq, Option.bind_some, if_pos (decide_eq_true (by omega)), strip_eq, Option.bind_some, if_pos (decide_eq_true (by omega)), if_pos (by omega), Int.toNat_natCast, plays_eq u mx hL b hb f hf hk n hn.2, Option.bind_some, tl_at (Nat.le_refl _)]
theorem Longest_eq {L n : Nat} (u : Bool) (hL : 1 ≤ L ∧ L ≤ 60) (hn : 1 ≤ n ∧ n ≤ 60) {k : Nat} (hk : 200 ≤ k) : impl_LongestStripPlay.f k (n : Int) (L : Int) u = some ((M L u n : Int), true) := by
  unfold impl_LongestStripPlay.f
  refine pf_eq u true hL hn _ (fun x y => ?_) _ (M_plays u hL) hk
  rw [if_pos rfl]
  by_cases c : x < y
  · rw [decide_eq_true (by omega)]; exact (blt.2 c).symm
  · rw [decide_eq_false (by omega)]
    cases h : Nat.blt x y with
    | false => rfl
    | true => exact absurd (blt.1 h) c
theorem Shortest_eq {L n : Nat} (u : Bool) (hL : 1 ≤ L ∧ L ≤ 60) (hn : 1 ≤ n ∧ n ≤ 60) {k : Nat} (hk : 200 ≤ k) : impl_ShortestStripPlay.f k (n : Int) (L : Int) u = some ((F L u n : Int), true) := by
  unfold impl_ShortestStripPlay.f
  refine pf_eq u false hL hn _ (fun x y => ?_) _ (F_plays u hL) hk
  rw [if_neg (by simp)]
  by_cases c : y < x
  · rw [decide_eq_true (by omega)]; exact (blt.2 c).symm
  · rw [decide_eq_false (by omega)]
    cases h : Nat.blt y x with
    | false => rfl
    | true => exact absurd (blt.1 h) c
theorem lap_l1 (L : Nat) (u mx : Bool) (f : Nat → Nat) (hf : Plays L u mx f) (N n : Nat) (hL : 1 ≤ L ∧ L ≤ 60) (hN : N ≤ 60) (hn : 1 ≤ n ∧ n ≤ N) : ∀ (d k a : Nat) (pre : List Nat), a + d = n / 2 + 1 → 1 ≤ a → d < k →
    spec_laPlay.l1 k (N : Int) (L : Int) u mx (TV f N n (nbest mx pre : Int)) (n : Int) (!pre.isEmpty) (a : Int) = spec_laPlay.l0 (k - d - 1) (N : Int) (L : Int) u mx (TV f N n (nbest mx (pre ++ (((List.range' a d).filter (can L u n)).map fun a => 1 + f a + f (n - a))) : Int)) ((n + 1 : Nat) : Int) := by
  intro d
  induction d with
  | zero =>
    intro k a pre ha h1 hk
    obtain ⟨k, rfl⟩ : ∃ q, k = q + 1 := ⟨k - 1, by omega⟩
    simp only [spec_laPlay.l1]
    rw [if_neg (by rw [two_le (by omega) (by omega)]; omega), PK.w1 (show n < 100 by omega) (by omega)]
    simp
  | succ d ih =>
    intro k a pre ha h1 hk
    obtain ⟨k, rfl⟩ : ∃ q, k = q + 1 := ⟨k - 1, by omega⟩
    have hw : wrap64 ((n : Int) - (a : Int)) = ((n - a : Nat) : Int) := by rw [PK.wrap_in (by omega) (by omega)]; omega
    have ha1 := hf.le a (by omega)
    have ha2 := hf.le (n - a) (by omega)
    have hy : wrap64 (wrap64 ((f a : Int) + (f (n - a) : Int)) + 1) = ((1 + f a + f (n - a) : Nat) : Int) := by rw [PK.wrap_in (x := (f a : Int) + (f (n - a) : Int)) (by omega) (by omega), PK.wrap_in (by omega) (by omega)]; omega
    have r1 : rd (TV f N n (nbest mx pre : Int)) (a : Int) = (f a : Int) := by rw [TV_at (by omega), if_pos (by omega)]
    have r2 : rd (TV f N n (nbest mx pre : Int)) ((n - a : Nat) : Int) = (f (n - a) : Int) := by rw [TV_at (by omega), if_pos (by omega)]
    have r3 : rd (TV f N n (nbest mx pre : Int)) (n : Int) = (nbest mx pre : Int) := by rw [TV_at (by omega), if_neg (by omega), if_pos rfl]
    simp only [spec_laPlay.l1]
    rw [if_pos (by rw [two_le (by omega) (by omega)]; omega), canS_eq u (by omega) (by omega) (by omega), Option.bind_some, PK.w1 (show a < 1000 by omega) (by omega), filt_succ, show k + 1 - (d + 1) - 1 = k - d - 1 by omega]
    cases hc : can L u n a with
    | true =>
      have h2 := ih k (a + 1) (pre ++ [1 + f a + f (n - a)]) (by omega) (by omega) (by omega)
      rw [if_pos rfl, if_pos (by omega), if_pos (by rw [TV_len]; omega), hw, if_pos (by omega), if_pos (by rw [TV_len]; omega), r1, r2, r3, hy, if_pos rfl]
      have e1 : pre ++ (([a] ++ (List.range' (a + 1) d).filter (can L u n)).map fun a => 1 + f a + f (n - a)) = (pre ++ [1 + f a + f (n - a)]) ++ (((List.range' (a + 1) d).filter (can L u n)).map fun a => 1 + f a + f (n - a)) := by rw [List.map_append, List.append_assoc]; rfl
      rw [e1]
      have e2 : (!(pre ++ [1 + f a + f (n - a)]).isEmpty) = true := by cases pre <;> rfl
      rw [e2, nbest_snoc] at h2
      refine Eq.trans ?_ h2
      cases pre with
      | nil =>
        rw [if_neg (by simp), if_pos (by omega), if_pos (by rw [TV_len]; omega), Int.toNat_natCast, TV_set, if_pos rfl]
      | cons x r =>
        rw [if_pos (show (!(x :: r).isEmpty) = true from rfl), if_neg (show ¬ ((x :: r) = ([] : List Nat)) by simp)]
        generalize nbest mx (x :: r) = b
        generalize 1 + f a + f (n - a) = y
        have hn0 : (0 : Int) ≤ (n : Int) := by omega
        have hl : (n : Int) < ((TV f N n (b : Int)).length : Int) := by rw [TV_len]; omega
        simp only [if_pos hn0, if_pos hl, Int.toNat_natCast, TV_set]
        have hbl : ∀ p q : Nat, ¬ p < q → Nat.blt p q = false := fun p q c => by
          cases h : Nat.blt p q with
          | false => rfl
          | true => exact absurd (blt.1 h) c
        cases mx with
        | true =>
          by_cases c : b < y
          · have hb := blt.2 c
            have hi : (y : Int) > (b : Int) := by omega
            simp only [hb, ↓reduceIte, if_pos hi]
          · have hb := hbl _ _ c
            have hi : ¬ (y : Int) > (b : Int) := by omega
            simp only [hb, ↓reduceIte, if_neg hi, Bool.false_eq_true]
        | false =>
          by_cases c : y < b
          · have hb := blt.2 c
            have hi : (y : Int) < (b : Int) := by omega
            simp only [hb, ↓reduceIte, if_pos hi, Bool.false_eq_true]
          · have hb := hbl _ _ c
            have hi : ¬ (y : Int) < (b : Int) := by omega
            simp only [hb, ↓reduceIte, if_neg hi, Bool.false_eq_true]
    | false =>
      rw [if_neg (by simp), ih k (a + 1) pre (by omega) (by omega) (by omega), if_neg (by simp), List.nil_append]
theorem lap_l0 (L : Nat) (u mx : Bool) (f : Nat → Nat) (hf : Plays L u mx f) (N : Nat) (hL : 1 ≤ L ∧ L ≤ 60) (hN : N ≤ 60) : ∀ (d k n : Nat), n + d = N + 1 → 1 ≤ n → 7000 + 100 * d < k →
    spec_laPlay.l0 k (N : Int) (L : Int) u mx (TV f N n 0) (n : Int) = some ((List.range (N + 1)).map fun i => (f i : Int)) := by
  intro d
  induction d with
  | zero =>
    intro k n hn h1 hk
    obtain ⟨k, rfl⟩ : ∃ q, k = q + 1 := ⟨k - 1, by omega⟩
    obtain rfl : n = N + 1 := by omega
    simp only [spec_laPlay.l0]
    rw [if_neg (by omega), TV_end]
  | succ d ih =>
    intro k n hn h1 hk
    obtain ⟨k, rfl⟩ : ∃ q, k = q + 1 := ⟨k - 1, by omega⟩
    obtain ⟨m, rfl⟩ : ∃ m, n = m + 1 := ⟨n - 1, by omega⟩
    have e1 := lap_l1 L u mx f hf N (m + 1) hL hN ⟨h1, by omega⟩ ((m + 1) / 2) k 1 [] (by omega) (by omega) (by omega)
    rw [List.nil_append] at e1
    have e2 : nbest mx (((List.range' 1 ((m + 1) / 2)).filter (can L u (m + 1))).map fun a => 1 + f a + f (m + 1 - a)) = f (m + 1) := (hf.step m).symm
    rw [e2, TV_next] at e1
    simp only [spec_laPlay.l0]
    rw [if_pos (by omega)]
    refine Eq.trans e1 ?_
    exact ih _ (m + 1 + 1) (by omega) (by omega) (by omega)
theorem laPlay_eq {L N : Nat} (u mx : Bool) (f : Nat → Nat) (hf : Plays L u mx f) (hL : 1 ≤ L ∧ L ≤ 60) (hN : N ≤ 60) {k : Nat} (hk : 20000 ≤ k) : spec_laPlay.f k (N : Int) (L : Int) u mx = some ((List.range (N + 1)).map fun i => (f i : Int)) := by
  unfold spec_laPlay.f
  rw [PK.w1 (show N < 100 by omega) (by omega), Int.toNat_natCast, if_pos (by omega), if_pos (by omega), TV_start f N hf.zero]
  exact lap_l0 L u mx f hf N hL hN N k 1 (by omega) (by omega) (by omega)
theorem tl_rd {f : Nat → Nat} {n i : Nat} (h : i ≤ n) : rd ((List.range (n + 1)).map fun j => (f j : Int)) (i : Int) = (f i : Int) := by
  have e : rd ((List.range (n + 1)).map fun j => (f j : Int)) (i : Int) = ((List.range (n + 1)).map fun j => (f j : Int)).getD ((i : Int)).toNat 0 := rfl
  rw [e, Int.toNat_natCast]
  exact tl_at h
theorem LongestS_eq {L n : Nat} (u : Bool) (hL : 1 ≤ L ∧ L ≤ 60) (hn : 1 ≤ n ∧ n ≤ 60) {k : Nat} (hk : 20000 ≤ k) : spec_LongestStripPlay.f k (n : Int) (L : Int) u = some ((M L u n : Int), true) := by
  unfold spec_LongestStripPlay.f
  rw [laStrip_eq, Option.bind_some, if_pos (decide_eq_true ⟨by omega, by omega⟩), laPlay_eq u true (M L u) (M_plays u hL) hL hn.2 hk, Option.bind_some, if_pos (by omega), if_pos (by rw [List.length_map, List.length_range]; omega), tl_rd (Nat.le_refl _)]
theorem ShortestS_eq {L n : Nat} (u : Bool) (hL : 1 ≤ L ∧ L ≤ 60) (hn : 1 ≤ n ∧ n ≤ 60) {k : Nat} (hk : 20000 ≤ k) : spec_ShortestStripPlay.f k (n : Int) (L : Int) u = some ((F L u n : Int), true) := by
  unfold spec_ShortestStripPlay.f
  rw [laStrip_eq, Option.bind_some, if_pos (decide_eq_true ⟨by omega, by omega⟩), laPlay_eq u false (F L u) (F_plays u hL) hL hn.2 hk, Option.bind_some, if_pos (by omega), if_pos (by rw [List.length_map, List.length_range]; omega), tl_rd (Nat.le_refl _)]

theorem and255 (x : Int) : 0 ≤ Go.bits .and .u64 x 255 ∧ Go.bits .and .u64 x 255 ≤ 255 := by
  have h : (BitVec.ofInt IntKind.u64.bits x &&& BitVec.ofInt IntKind.u64.bits 255).toNat ≤ 255 := by
    rw [BitVec.toNat_and]
    have e : (BitVec.ofInt IntKind.u64.bits 255).toNat = 255 := by decide
    rw [e]
    exact Nat.and_le_right
  unfold Go.bits
  generalize hb : (BitVec.ofInt IntKind.u64.bits x &&& BitVec.ofInt IntKind.u64.bits 255).toNat = m at h
  show 0 ≤ IntKind.u64.wrap ((BitVec.ofInt IntKind.u64.bits x &&& BitVec.ofInt IntKind.u64.bits 255).toNat : Int) ∧ IntKind.u64.wrap ((BitVec.ofInt IntKind.u64.bits x &&& BitVec.ofInt IntKind.u64.bits 255).toNat : Int) ≤ 255
  rw [hb]
  have : IntKind.u64.wrap (m : Int) = (m : Int) := by unfold IntKind.wrap; simp [IntKind.bits, IntKind.signed]; omega
  omega
/-- Bytes, and a place that is not past b. -/
structure Cur (l : List Int) (a b : Int) : Prop where
  bytes : ∀ x ∈ l, 0 ≤ x ∧ x ≤ 255
  lo : 0 ≤ a
  hi : a ≤ b
theorem Cur.up {l : List Int} {a b c : Int} (h : Cur l a b) (hb : b ≤ c) : Cur l a c := ⟨h.bytes, h.lo, Int.le_trans h.hi hb⟩
theorem rd_byte {l : List Int} (h : ∀ x ∈ l, 0 ≤ x ∧ x ≤ 255) (i : Int) : 0 ≤ rd l i ∧ rd l i ≤ 255 := by
  have e : rd l i = l.getD i.toNat 0 := rfl
  rw [e, List.getD_eq_getElem?_getD]
  by_cases c : i.toNat < l.length
  · rw [List.getElem?_eq_getElem c]; exact h _ (List.getElem_mem c)
  · rw [List.getElem?_eq_none (by omega)]; exact ⟨Int.le_refl _, by decide⟩
theorem next_ok {l : List Int} {a b : Int} (x : Int) (h : Cur l a b) (hb : b ≤ 1000000) : ∃ v a' x', spec_l1Cur_next.f l a x = some (v, a', x') ∧ (0 ≤ v ∧ v ≤ 255) ∧ Cur l a' (b + 1) := by
  obtain ⟨h1, h2, h3⟩ := h
  have hr := rd_byte h1 a
  have hw : wrap64 (a + 1) = a + 1 := PK.wrap_in (by omega) (by omega)
  have hc : Cur l (a + 1) (b + 1) := ⟨h1, by omega, by omega⟩
  have hwr : wrap64 (rd l a) = rd l a := PK.wrap_in (by omega) (by omega)
  unfold spec_l1Cur_next.f
  rw [hw, hwr]
  by_cases c1 : a < (l.length : Int)
  · rw [if_pos c1, if_pos h2]
    by_cases c2 : a + 1 ≤ (l.length : Int)
    · rw [if_pos c2]; exact ⟨_, _, _, rfl, hr, hc⟩
    · omega
  · rw [if_neg c1]
    by_cases c2 : a + 1 ≤ (l.length : Int)
    · omega
    · rw [if_neg c2]
      refine ⟨_, _, _, rfl, ?_, hc⟩
      have := and255 ((IntKind.u64.wrap ((IntKind.u64.wrap ((IntKind.u64.wrap (x * 6364136223846793005)))) + 1442695040888963407)) / 1099511627776)
      rw [PK.wrap_in (by omega) (by omega)]
      exact this
theorem tmod_in {v n : Int} (h : 0 ≤ v) (hn : 0 < n) : 0 ≤ Int.tmod v n ∧ Int.tmod v n < n := by
  rw [Int.tmod_eq_emod_of_nonneg h]
  exact ⟨Int.emod_nonneg _ (by omega), Int.emod_lt_of_pos _ hn⟩
theorem pick_ok {l : List Int} {a b : Int} (x n : Int) (h : Cur l a b) (hb : b ≤ 900000) : ∃ v a' x', spec_l1Cur_pick.f l a x n = some (v, a', x') ∧ (0 ≤ v ∧ (v < n ∨ v = 0)) ∧ Cur l a' (b + 2) := by
  unfold spec_l1Cur_pick.f
  by_cases c1 : n ≤ 1
  · rw [if_pos c1]; exact ⟨_, _, _, rfl, ⟨Int.le_refl _, .inr rfl⟩, h.up (by omega)⟩
  · rw [if_neg c1]
    obtain ⟨v, a1, x1, e1, hv, hc1⟩ := next_ok x h (by omega)
    rw [e1, Option.bind_some]
    by_cases c2 : n > 200
    · rw [if_pos c2]
      obtain ⟨v2, a2, x2, e2, hv2, hc2⟩ := next_ok x1 hc1 (by omega)
      rw [e2, Option.bind_some, if_neg (by omega)]
      have h0 : 0 ≤ wrap64 ((wrap64 (v * 256)) + v2) := by rw [PK.wrap_in (x := v * 256) (by omega) (by omega), PK.wrap_in (by omega) (by omega)]; omega
      have hm := tmod_in h0 (show 0 < n by omega)
      exact ⟨_, _, _, rfl, ⟨hm.1, .inl hm.2⟩, hc2.up (by omega)⟩
    · rw [if_neg c2, if_neg (by omega)]
      have hm := tmod_in hv.1 (show 0 < n by omega)
      exact ⟨_, _, _, rfl, ⟨hm.1, .inl hm.2⟩, hc1.up (by omega)⟩
theorem among_ok {l : List Int} {a b : Int} (x : Int) (l1 : List Int) (h1 : 0 < l1.length) (h : Cur l a b) (hb : b ≤ 900000) : ∃ v a' x', spec_l1Cur_among.f l a x l1 = some (v, a', x') ∧ Cur l a' (b + 2) := by
  unfold spec_l1Cur_among.f
  obtain ⟨v, a1, x1, e1, hv, hc1⟩ := pick_ok x (l1.length : Int) h hb
  rw [e1, Option.bind_some, if_pos hv.1, if_pos (by omega)]
  exact ⟨_, _, _, rfl, hc1⟩

/-! strips: the law put together -/
theorem not_strip {a b : Int} (h : ¬ ((1 ≤ a ∧ a ≤ 60) ∧ 1 ≤ b ∧ b ≤ 60)) {α : Type} (x : α) (g : Option α) :
    ((impl_isStrip.f a).bind fun t => if t = true then (impl_isStrip.f b).bind fun t2 => if t2 = true then g else some x else some x) = some x := by
  rw [strip_eq, strip_eq, Option.bind_some, Option.bind_some]
  by_cases c : 1 ≤ a ∧ a ≤ 60
  · rw [if_pos (decide_eq_true c), if_neg (by simpa using fun h1 => (fun h2 => h ⟨c, h1, h2⟩))]
  · rw [if_neg (by simpa using c)]
theorem no_all {a b : Int} (u : Bool) (h : ¬ ((1 ≤ a ∧ a ≤ 60) ∧ 1 ≤ b ∧ b ≤ 60)) (k : Nat) :
    impl_StripMoves.f k a b u = some ([], false) ∧ spec_StripMoves.f k a b u = some ([], false) ∧ impl_StripValue.f k a b u = some (0, false) ∧ spec_StripValue.f k a b u = some (0, false) ∧
    spec_LostStrips.f k a b u = some ([], false) ∧ impl_LongestStripPlay.f k a b u = some (0, false) ∧ spec_LongestStripPlay.f k a b u = some (0, false) ∧ impl_ShortestStripPlay.f k a b u = some (0, false) ∧ spec_ShortestStripPlay.f k a b u = some (0, false) := by
  have hs : spec_laStrip.f a b = some false := by rw [laStrip_eq, decide_eq_false h]
  have hf : ¬ (false = true) := by decide
  refine ⟨not_strip h _ _, ?_, not_strip h _ _, ?_, ?_, not_strip h _ _, ?_, not_strip h _ _, ?_⟩
  · unfold spec_StripMoves.f; rw [hs, Option.bind_some, if_neg hf]
  · unfold spec_StripValue.f; rw [hs, Option.bind_some, if_neg hf]
  · unfold spec_LostStrips.f; rw [hs, Option.bind_some, if_neg hf]
  · unfold spec_LongestStripPlay.f; rw [hs, Option.bind_some, if_neg hf]
  · unfold spec_ShortestStripPlay.f; rw [hs, Option.bind_some, if_neg hf]
theorem no_lost {a b : Int} (u : Bool) (h : ¬ ((1 ≤ a ∧ a ≤ 60) ∧ 1 ≤ b ∧ b ≤ 60)) {k : Nat} (hk : 1 ≤ k) : impl_LostStrips.f k a b u = some ([], false) := by
  obtain ⟨k, rfl⟩ : ∃ q, k = q + 1 := ⟨k - 1, by omega⟩
  unfold impl_LostStrips.f
  rw [strip_eq, strip_eq, Option.bind_some, Option.bind_some]
  simp only [impl_LostStrips.j0]
  by_cases c : 1 ≤ a ∧ a ≤ 60
  · rw [if_pos (decide_eq_true c), decide_eq_false (fun h1 => h ⟨c, h1⟩), if_pos (by decide)]
  · rw [if_neg (by simpa using c), if_pos True.intro]
theorem no_strips {l : List Int} {a : Int} (u : Bool) (h : ¬ (okS l = true ∧ 1 ≤ a ∧ a ≤ 60)) {k : Nat} (hk : 100 ≤ k) :
    impl_GoodStrips.f k l a u = some ([], false) ∧ spec_GoodStrips.f k l a u = some ([], false) ∧ impl_WinsStrips.f k l a u = some (false, false) ∧ spec_WinsStrips.f k l a u = some (false, false) := by
  have hs : spec_laStrips.f k l a = some false := by
    rw [laStrips_eq _ _ _ hk]
    by_cases c : okS l = true
    · rw [c, decide_eq_false (fun h1 => h ⟨c, h1⟩)]; rfl
    · rw [Bool.eq_false_iff.2 c]; rfl
  have hf : ¬ (false = true) := by decide
  obtain ⟨k, rfl⟩ : ∃ q, k = q + 1 := ⟨k - 1, by omega⟩
  refine ⟨?_, ?_, ?_, ?_⟩
  · unfold impl_GoodStrips.f
    rw [areStrips_eq, strip_eq, Option.bind_some, Option.bind_some]
    simp only [impl_GoodStrips.j0]
    by_cases c : okS l = true
    · rw [if_pos c, decide_eq_false (fun h1 => h ⟨c, h1⟩), if_pos (by decide)]
    · rw [if_neg c, if_pos True.intro]
  · unfold spec_GoodStrips.f; rw [hs, Option.bind_some, if_neg hf]
  · unfold impl_WinsStrips.f
    rw [areStrips_eq, strip_eq, Option.bind_some, Option.bind_some]
    simp only [impl_WinsStrips.j0]
    by_cases c : okS l = true
    · rw [if_pos c, decide_eq_false (fun h1 => h ⟨c, h1⟩), if_pos (by decide)]
    · rw [if_neg c, if_pos True.intro]
  · unfold spec_WinsStrips.f; rw [hs, Option.bind_some, if_neg hf]
theorem yrows_run (G : List (Nat × Nat)) (hn : G.length ≤ 4000) : ∀ (d k i : Nat), i + d = G.length → 6000 + d < k → laws_yRows.l0 k (G.map en) (G.map en) ((G.map en).length : Int) (i : Int) = some true := by
  intro d
  induction d with
  | zero =>
    intro k i hi hk
    obtain ⟨k, rfl⟩ : ∃ q, k = q + 1 := ⟨k - 1, by omega⟩
    simp only [laws_yRows.l0]
    rw [if_neg (by rw [List.length_map]; omega)]
  | succ d ih =>
    intro k i hi hk
    obtain ⟨k, rfl⟩ : ∃ q, k = q + 1 := ⟨k - 1, by omega⟩
    have hlt : i < G.length := by omega
    simp only [laws_yRows.l0]
    rw [if_pos (by rw [List.length_map]; omega), if_pos (by omega), if_pos (by rw [List.length_map]; omega), if_pos (by rw [List.length_map]; omega), rdL2_at hlt, same_eq _ _ (by rw [en_len]; omega) (by rw [en_len]; omega) k (by omega), Option.bind_some, decide_eq_true rfl, if_pos rfl, PK.w1 hlt (by omega)]
    exact ih k (i + 1) (by omega) (by omega)
theorem yrows_eq (G : List (Nat × Nat)) (hn : G.length ≤ 4000) {k : Nat} (hk : 11000 ≤ k) : laws_yRows.f k (G.map en) (G.map en) = some true := by
  unfold laws_yRows.f
  rw [if_pos rfl]
  exact yrows_run G hn G.length k 0 (by omega) (by omega)
theorem brk_len (l : List Int) (i a b : Int) (u : Bool) : (brk l i a b u).1.length ≤ 9 := by
  unfold brk
  by_cases c : Brk l i a b u
  · rw [if_pos c]
    have h := okS_all c.1
    show (l.set i.toNat a ++ [rd l i - a]).length ≤ 9
    rw [List.length_append, List.length_set, List.length_singleton]; omega
  · rw [if_neg c]; simp
theorem strips_run {l : List Int} : ∀ (d k : Nat) (acc : List Int) (a x b : Int), d < k → acc.length + d ≤ 9 → Cur l a b → b + 4 * (d : Int) ≤ 100000 → ∃ o a' x', spec_l1Cur_strips.l0 k acc (d : Int) l a x = some (o, a', x') ∧ o.length ≤ 9 ∧ Cur l a' (b + 4 * (d : Int)) := by
  intro d
  induction d with
  | zero =>
    intro k acc a x b hk ha hc hb
    obtain ⟨k, rfl⟩ : ∃ q, k = q + 1 := ⟨k - 1, by omega⟩
    simp only [spec_l1Cur_strips.l0]
    rw [if_neg (by omega)]
    exact ⟨_, _, _, rfl, by omega, hc.up (by omega)⟩
  | succ d ih =>
    intro k acc a x b hk ha hc hb
    obtain ⟨k, rfl⟩ : ∃ q, k = q + 1 := ⟨k - 1, by omega⟩
    have hw : wrap64 (((d + 1 : Nat) : Int) - 1) = (d : Int) := by rw [PK.wrap_in (by omega) (by omega)]; omega
    simp only [spec_l1Cur_strips.l0]
    obtain ⟨v, a1, x1, e1, _, hc1⟩ := pick_ok x 14 hc (by omega)
    rw [if_pos (by omega), e1, Option.bind_some, if_pos (by omega), hw]
    obtain ⟨o, a2, x2, e2, h2, h3⟩ := ih k (acc ++ [wrap64 (1 + v)]) a1 x1 _ (by omega) (by rw [List.length_append, List.length_singleton]; omega) hc1 (by omega)
    exact ⟨o, a2, x2, e2, h2, h3.up (by omega)⟩
theorem one_ok {l : List Int} {a b : Int} (x n : Int) (h : Cur l a b) (hb : b ≤ 900000) : ∃ v a' x', spec_l1Cur_one.f l a x n = some (v, a', x') ∧ Cur l a' (b + 2) := by
  unfold spec_l1Cur_one.f
  obtain ⟨v, a1, x1, e1, _, hc1⟩ := pick_ok x n h hb
  rw [e1]
  exact ⟨_, _, _, rfl, hc1⟩
theorem least_ok {l : List Int} {a b : Int} (x : Int) (h : Cur l a b) (hb : b ≤ 900000) : ∃ v a' x', spec_l1Cur_leastPart.f l a x = some (v, a', x') ∧ Cur l a' (b + 2) := by
  unfold spec_l1Cur_leastPart.f
  obtain ⟨v, a1, x1, e1, hc1⟩ := among_ok x ([1, 1, 1, 2, 2, 3, 4, 0, 60, 61] : List Int) (by decide) h hb
  rw [e1]
  exact ⟨_, _, _, rfl, hc1⟩
def manyS : List (List Int) := [[], [0], [60], [61], [-1, 3], [1, 1, 1, 1, 1, 1, 1, 1], [1, 1, 1, 1, 1, 1, 1, 1, 1]]
theorem manyS_ok : ((List.range 7).all fun i => decide ((rd_L2 manyS (i : Int)).length ≤ 9)) = true := by decide
theorem strips_ok {l : List Int} {a b : Int} (x : Int) (h : Cur l a b) (hb : b ≤ 90000) (k : Nat) (hk : 100 ≤ k) : ∃ o a' x', spec_l1Cur_strips.f k l a x = some (o, a', x') ∧ o.length ≤ 9 ∧ Cur l a' (b + 40) := by
  unfold spec_l1Cur_strips.f
  obtain ⟨v, a1, x1, e1, hc1⟩ := one_ok x 14 h (by omega)
  rw [e1, Option.bind_some]
  cases v with
  | true =>
    rw [if_pos rfl, Option.bind_some]
    obtain ⟨n, a2, x2, e2, hn, hc2⟩ := pick_ok x1 7 hc1 (by omega)
    rw [e2, Option.bind_some, if_pos hn.1, if_pos (by show n < 7; omega)]
    obtain ⟨m, rfl⟩ : ∃ m : Nat, n = (m : Int) := ⟨n.toNat, by omega⟩
    exact ⟨_, _, _, rfl, of_decide_eq_true (List.all_eq_true.1 manyS_ok m (List.mem_range.2 (by omega))), hc2.up (by omega)⟩
  | false =>
    rw [if_neg Bool.false_ne_true]
    obtain ⟨n, a2, x2, e2, hn, hc2⟩ := pick_ok x1 4 hc1 (by omega)
    rw [e2, Option.bind_some]
    obtain ⟨m, hm⟩ : ∃ m : Nat, wrap64 (1 + n) = (m : Int) := ⟨(1 + n).toNat, by rw [PK.wrap_in (by omega) (by omega)]; omega⟩
    have hm2 : m ≤ 4 := by rw [PK.wrap_in (by omega) (by omega)] at hm; omega
    show ∃ o a' x', spec_l1Cur_strips.l0 k [] (wrap64 (1 + n)) l a2 x2 = some (o, a', x') ∧ _
    rw [hm]
    obtain ⟨o, a3, x3, e3, h3, h4⟩ := strips_run (l := l) m k [] a2 x2 _ (by omega) (by simp; omega) hc2 (by omega)
    exact ⟨o, a3, x3, e3, h3, h4.up (by omega)⟩
theorem drawGood_ok {l : List Int} (h : ∀ x ∈ l, 0 ≤ x ∧ x ≤ 255) {k : Nat} (hk : 100 ≤ k) : ∃ s p u, spec_DrawGoodStrips.f k l = some (s, p, u) := by
  unfold spec_DrawGoodStrips.f spec_DrawWinsStrips.f
  obtain ⟨s, a1, x1, e1, _, hc1⟩ := strips_ok 0 (⟨h, Int.le_refl _, Int.le_refl _⟩ : Cur l 0 0) (by omega) k hk
  rw [e1, Option.bind_some]
  obtain ⟨p, a2, x2, e2, hc2⟩ := least_ok x1 hc1 (by omega)
  rw [e2, Option.bind_some]
  obtain ⟨u, a3, x3, e3, _⟩ := one_ok x2 2 hc2 (by omega)
  rw [e3]
  exact ⟨_, _, _, rfl⟩
theorem drawBreak_ok {l : List Int} (h : ∀ x ∈ l, 0 ≤ x ∧ x ≤ 255) {k : Nat} (hk : 100 ≤ k) : ∃ s i a b u, spec_DrawBreakStrip.f k l = some (s, i, a, b, u) := by
  unfold spec_DrawBreakStrip.f
  obtain ⟨s, a1, x1, e1, _, hc1⟩ := strips_ok 0 (⟨h, Int.le_refl _, Int.le_refl _⟩ : Cur l 0 0) (by omega) k hk
  rw [e1, Option.bind_some]
  obtain ⟨p, a2, x2, e2, _, hc2⟩ := pick_ok x1 (wrap64 ((s.length : Int) + 1)) hc1 (by omega)
  rw [e2, Option.bind_some]
  obtain ⟨q, a3, x3, e3, _, hc3⟩ := pick_ok x2 9 hc2 (by omega)
  rw [e3, Option.bind_some]
  obtain ⟨r, a4, x4, e4, _, hc4⟩ := pick_ok x3 9 hc3 (by omega)
  rw [e4, Option.bind_some]
  obtain ⟨t, a5, x5, e5, hc5⟩ := least_ok x4 hc4 (by omega)
  rw [e5, Option.bind_some]
  obtain ⟨u, a6, x6, e6, _⟩ := one_ok x5 2 hc5 (by omega)
  rw [e6]
  exact ⟨_, _, _, _, _, rfl⟩
theorem drawMoves_ok {l : List Int} (h : ∀ x ∈ l, 0 ≤ x ∧ x ≤ 255) : ∃ s p u, spec_DrawStripMoves.f l = some (s, p, u) := by
  unfold spec_DrawStripMoves.f spec_DrawStripValue.f
  obtain ⟨s, a1, x1, e1, hc1⟩ := among_ok 0 ([1, 2, 3, 4, 5, 6, 7, 8, 9, 10, 13, 20, 60, 61, 0, (-1)] : List Int) (by decide) (⟨h, Int.le_refl _, Int.le_refl _⟩ : Cur l 0 0) (by omega)
  rw [e1, Option.bind_some]
  obtain ⟨p, a2, x2, e2, hc2⟩ := least_ok x1 hc1 (by omega)
  rw [e2, Option.bind_some]
  obtain ⟨u, a3, x3, e3, _⟩ := one_ok x2 2 hc2 (by omega)
  rw [e3]
  exact ⟨_, _, _, rfl⟩
theorem j4_ok {l : List Int} (h : ∀ x ∈ l, 0 ≤ x ∧ x ≤ 255) {k : Nat} (hk : 80000 ≤ k) : laws_FnBreaksStrips.j4 k l = some true := by
  obtain ⟨k, rfl⟩ : ∃ q, k = q + 1 := ⟨k - 1, by omega⟩
  obtain ⟨s, p, u, e1⟩ := drawGood_ok h (show 100 ≤ k by omega)
  obtain ⟨s2, i, a, b, u2, e2⟩ := drawBreak_ok h (show 100 ≤ k by omega)
  have hB := brk_len s2 i a b u2
  have h9 : ∀ k, 2000 ≤ k → laws_FnBreaksStrips.j9 k s2 i a (brk s2 i a b u2).1 (brk s2 i a b u2).2 = some true := fun k hk => j9_ok s2 i a b u2 k hk
  simp only [laws_FnBreaksStrips.j4]
  rw [e1, e2]
  simp only [Option.bind_some]
  rw [Break_I, Break_S _ _ _ _ _ k (by omega)]
  by_cases c : okS s = true ∧ 1 ≤ p ∧ p ≤ 60
  · obtain ⟨s', rfl, hs⟩ := okS_nat c.1
    obtain ⟨L, rfl⟩ : ∃ L : Nat, p = (L : Int) := ⟨p.toNat, by omega⟩
    have hL : 1 ≤ L ∧ L ≤ 60 := by omega
    have hG := gp_len (L := L) (u := u) hs
    rw [Good_eq u hL hs (by omega), GoodS_eq u hL hs (by omega), Wins_eq u hL hs (by omega), WinsS_eq u hL hs (by omega)]
    simp only [Option.bind_some, bne_self_eq_false, Bool.false_eq_true, if_false]
    rw [yrows_eq _ (by omega) (by omega), Option.bind_some, if_pos rfl, same_eq _ _ (by omega) (by omega) k (by omega), Option.bind_some, decide_eq_true rfl, if_pos rfl]
    have e : (decide (T L u s' ≠ 0) != decide ((((gp L u s').map en).length : Int) > 0)) = false := by
      have hne := gp_ne (L := L) (u := u) hL hs
      rw [List.length_map]
      by_cases c0 : T L u s' = 0
      · have h0 : gp L u s' = [] := by
          by_cases z : gp L u s' = []
          · exact z
          · exact absurd c0 (hne.1 z)
        rw [h0, decide_eq_false (fun z => z c0)]; rfl
      · have h0 := List.length_pos_iff.2 (hne.2 c0)
        rw [decide_eq_true c0, decide_eq_true (by omega)]; rfl
    rw [e]
    exact j5_ok u hL s' hs s2 i a _ _ h9 k (by omega)
  · obtain ⟨g1, g2, g3, g4⟩ := no_strips u c (show 100 ≤ k by omega)
    rw [g1, g2, g3, g4]
    simp only [Option.bind_some, bne_self_eq_false, Bool.false_eq_true, if_false]
    rw [yrows_eq [] (by simp) (by omega) |> (show laws_yRows.f k [] [] = some true from ·), Option.bind_some, if_pos rfl, same_eq _ _ (by omega) (by omega) k (by omega), Option.bind_some, decide_eq_true rfl, if_pos rfl]
    obtain ⟨k, rfl⟩ : ∃ q, k = q + 1 := ⟨k - 1, by omega⟩
    show laws_FnBreaksStrips.j5 (k + 1) s p u [] false false s2 i a _ _ false = some true
    simp only [laws_FnBreaksStrips.j5]
    rw [if_neg (by decide), if_neg (by decide)]
    exact h9 k (by omega)
theorem l1_ok {l : List Int} (h : ∀ x ∈ l, 0 ≤ x ∧ x ≤ 255) {L n : Nat} (u : Bool) (hL : 1 ≤ L ∧ L ≤ 60) (hn : 1 ≤ n ∧ n ≤ 60) : ∀ (d k c : Nat), c + d = V L u n → 90000 + d < k →
    laws_FnBreaksStrips.l1 k l (n : Int) (L : Int) u (V L u n : Int) (M L u n : Int) (xs L u n (mv L u n)) (c : Int) = some true := by
  have hf := facts (u := u) hL hn
  have hx := V_mex (L := L) (u := u) hn.1
  have hlt := hf.lt
  have hml := mv_len L u n
  intro d
  induction d with
  | zero =>
    intro k c hc hk
    obtain ⟨k, rfl⟩ : ∃ q, k = q + 1 := ⟨k - 1, by omega⟩
    have h4 := j4_ok h (show 80000 ≤ k by omega)
    simp only [laws_FnBreaksStrips.l1]
    rw [if_neg (by omega)]
    by_cases cu : u = true
    · rw [if_pos cu]; exact h4
    · obtain ⟨q, hq⟩ : ∃ q, n / L = q := ⟨_, rfl⟩
      have hqn : q ≤ 60 := by rw [← hq]; exact Nat.le_trans (Nat.div_le_self n L) hn.2
      have hj := hf.just
      rw [hq] at hj
      rw [if_neg cu, if_neg (by omega), ← Int.ofNat_tdiv, hq, PK.wrap_in (x := (q : Int)) (by omega) (by omega), PK.wrap_in (by omega) (by omega)]
      by_cases c2 : (M L u n : Int) = (q : Int) - 1
      · rw [if_pos c2]; exact h4
      · rw [if_neg c2, if_neg (by
          rcases hj with z | z | z
          · exact absurd z cu
          · omega
          · omega)]
        exact h4
  | succ d ih =>
    intro k c hc hk
    obtain ⟨k, rfl⟩ : ∃ q, k = q + 1 := ⟨k - 1, by omega⟩
    simp only [laws_FnBreaksStrips.l1]
    rw [if_pos (by omega), has_eq _ _ (by unfold xs; rw [List.length_map]; omega) k (by omega), Option.bind_some, decide_eq_true (xs_mem.2 (hx.2 c (by omega))), if_pos rfl, PK.w1 (show c < 100 by omega) (by omega)]
    exact ih k (c + 1) (by omega) (by omega)
theorem w_two {a : Nat} (h : 1 ≤ a ∧ a ≤ 60) : wrap64 (2 * (a : Int)) = 2 * (a : Int) := PK.wrap_in (by omega) (by omega)
theorem w_sum {x y z a b : Nat} (h : x + y + 1 ≤ z) (hz : z ≤ 60) (ha : a ≤ x) (hb : b ≤ y) : wrap64 (wrap64 ((a : Int) + (b : Int)) + 1) = (a : Int) + (b : Int) + 1 := by
  rw [PK.wrap_in (x := (a : Int) + (b : Int)) (by omega) (by omega), PK.wrap_in (by omega) (by omega)]
theorem w_not {x y z : Nat} (h : x + y + 1 ≤ z) : ¬ ((x : Int) + (y : Int) + 1 > (z : Int)) := by omega
theorem w_not2 {x y z : Nat} (h : z ≤ x + y + 1) : ¬ ((x : Int) + (y : Int) + 1 < (z : Int)) := by omega
theorem w_not3 {a n : Nat} (h : 2 * a ≤ n) : ¬ (2 * (a : Int) > (n : Int)) := by omega
theorem w_not4 {a n : Nat} (h : 2 * a ≠ n) : ¬ (2 * (a : Int) = (n : Int)) := by omega
theorem l0_ok {l : List Int} (h : ∀ x ∈ l, 0 ≤ x ∧ x ≤ 255) {L n : Nat} (u : Bool) (hL : 1 ≤ L ∧ L ≤ 60) (hn : 1 ≤ n ∧ n ≤ 60) : ∀ (d k i : Nat), i + d = (mv L u n).length → 91000 + d < k →
    laws_FnBreaksStrips.l0 k l (n : Int) (L : Int) u (V L u n : Int) (M L u n : Int) (F L u n : Int) (xs L u n ((mv L u n).take i)) (ints (mv L u n)) ((ints (mv L u n)).length : Int) (i : Int) = some true := by
  have hf := facts (u := u) hL hn
  have hx := V_mex (L := L) (u := u) hn.1
  have hlt := hf.lt
  have hml := mv_len L u n
  intro d
  induction d with
  | zero =>
    intro k i hi hk
    obtain ⟨k, rfl⟩ : ∃ q, k = q + 1 := ⟨k - 1, by omega⟩
    simp only [laws_FnBreaksStrips.l0]
    rw [if_neg (by rw [ints_len]; omega), List.take_of_length_le (by omega)]
    exact l1_ok h u hL hn (V L u n) k 0 (by omega) (by omega)
  | succ d ih =>
    intro k i hi hk
    obtain ⟨k, rfl⟩ : ∃ q, k = q + 1 := ⟨k - 1, by omega⟩
    have hil : i < (mv L u n).length := by omega
    have ham := List.getElem_mem hil
    have hm := mv_in ham
    have ha : 1 ≤ (mv L u n)[i] ∧ (mv L u n)[i] ≤ 60 := by omega
    have hb : 1 ≤ n - (mv L u n)[i] ∧ n - (mv L u n)[i] ≤ 60 := by omega
    have hp := hf.part _ ham
    have hFa := (facts (u := u) hL ha).le
    have hFb := (facts (u := u) hL hb).le
    have hMa : M L u n ≤ 60 := by
      rcases hf.most with z | z
      · omega
      · have := Nat.div_le_self n L; omega
    have hw : wrap64 ((n : Int) - ((mv L u n)[i] : Int)) = ((n - (mv L u n)[i] : Nat) : Int) := by rw [PK.wrap_in (by omega) (by omega)]; omega
    have hxb := xbits (V_lt (u := u) hL ha.2) (V_lt (u := u) hL hb.2)
    have hxl : (xs L u n ((mv L u n).take i)).length < 100 := by unfold xs; rw [List.length_map, List.length_take]; omega
    have hxs : xs L u n ((mv L u n).take (i + 1)) = xs L u n ((mv L u n).take i) ++ [((V L u (mv L u n)[i] ^^^ V L u (n - (mv L u n)[i]) : Nat) : Int)] := by
      unfold xs
      rw [List.take_add_one, List.getElem?_eq_getElem hil, List.map_append]; rfl
    have hxm : (V L u (mv L u n)[i] ^^^ V L u (n - (mv L u n)[i])) ≠ V L u n := fun z => hx.1 (List.mem_map.2 ⟨_, ham, z⟩)
    have hi2 := ih k (i + 1) (by omega) (by omega)
    rw [hxs] at hi2
    simp only [laws_FnBreaksStrips.l0]
    rw [if_pos (by rw [ints_len]; omega), if_pos (by omega), if_pos (by rw [ints_len]; omega), ints_rd hil, hw, Value_eq u hL ha (by omega), Value_eq u hL hb (by omega), Longest_eq u hL ha (by omega), Longest_eq u hL hb (by omega), Shortest_eq u hL ha (by omega), Shortest_eq u hL hb (by omega)]
    simp only [Option.bind_some, if_true]
    rw [if_neg (by omega), hxb, PK.w1 hil (by omega)]
    generalize hq : (mv L u n)[i] = a at *
    have w1 := w_two ha
    have w2 := w_sum hp.1 hMa (Nat.le_refl _) (Nat.le_refl _)
    have w3 := w_sum hp.1 hMa hFa hFb
    have c1 : ¬ ((V L u a ^^^ V L u (n - a) : Nat) : Int) = (V L u n : Int) := fun z => hxm (Int.ofNat_inj.1 z)
    have c2 := w_not hp.1
    have c3 := w_not2 hp.2
    have c4 : (xs L u n ((mv L u n).take i)).length < 17592186044416 := Nat.lt_trans hxl (by decide)
    have c5 := w_not3 hm.2.1
    rw [w1, w2, w3, if_neg c5]
    by_cases cu : u = true
    · have c6 := w_not4 (hm.2.2.2.2 cu)
      rw [if_pos cu, if_neg c6, if_neg c1, if_neg c2, if_neg c3, if_pos c4]; exact hi2
    · rw [if_neg cu, if_neg c1, if_neg c2, if_neg c3, if_pos c4]; exact hi2
theorem mv_rises (L : Nat) (u : Bool) (n : Nat) : (ints (mv L u n)).Pairwise (· < ·) := by
  unfold ints mv
  rw [List.pairwise_map]
  refine (List.Pairwise.filter _ (List.pairwise_lt_range' (s := 1) (n := n / 2))).imp (fun h => by omega)
theorem lost_rises (L : Nat) (u : Bool) (n : Nat) : (ints (lostL L u n)).Pairwise (· < ·) := by
  unfold ints lostL
  rw [List.pairwise_map]
  refine (List.Pairwise.filter _ (List.pairwise_lt_range' (s := 1) (n := n))).imp (fun h => by omega)
theorem lost_len (L : Nat) (u : Bool) (n : Nat) : (ints (lostL L u n)).length ≤ n := by
  rw [ints_len]; unfold lostL
  exact Nat.le_trans (List.length_filter_le _ _) (by rw [List.length_range']; exact Nat.le_refl _)
theorem lost_mem {L : Nat} {u : Bool} {n : Nat} (hn : 1 ≤ n) : (n : Int) ∈ ints (lostL L u n) ↔ V L u n = 0 := by
  unfold ints lostL
  rw [List.mem_map]
  constructor
  · rintro ⟨a, ha, e⟩
    obtain rfl : a = n := by omega
    rw [List.mem_filter] at ha
    exact beq_iff_eq.1 ha.2
  · intro h
    exact ⟨n, List.mem_filter.2 ⟨List.mem_range'.2 ⟨n - 1, by omega, by omega⟩, beq_iff_eq.2 h⟩, rfl⟩
theorem bne2 {p q : Prop} [Decidable p] [Decidable q] (h : p ↔ q) : (decide p != decide q) = false := by
  rw [decide_eq_decide.2 h]; cases decide q <;> rfl
theorem beq0 (x : Int) : (x == 0) = decide (x = 0) := by by_cases c : x = 0 <;> simp [c]
theorem j0_ok {l : List Int} (h : ∀ x ∈ l, 0 ≤ x ∧ x ≤ 255) {L n : Nat} (u : Bool) (hL : 1 ≤ L ∧ L ≤ 60) (hn : 1 ≤ n ∧ n ≤ 60) {k : Nat} (hk : 100000 ≤ k) :
    laws_FnBreaksStrips.j0 k l (n : Int) (L : Int) u (ints (mv L u n)) true (V L u n : Int) (ints (lostL L u n)) (M L u n : Int) (F L u n : Int) false = some true := by
  have hf := facts (u := u) hL hn
  have hml := mv_len L u n
  have hll := lost_len L u n
  obtain ⟨k, rfl⟩ : ∃ q, k = q + 2 := ⟨k - 2, by omega⟩
  have h1 : laws_FnBreaksStrips.j1 (k + 1) l (n : Int) (L : Int) u (ints (mv L u n)) (V L u n : Int) (M L u n : Int) (F L u n : Int) false = some true := by
    simp only [laws_FnBreaksStrips.j1]
    rw [if_neg (by decide)]
    exact l0_ok h u hL hn (mv L u n).length k 0 (by omega) (by omega)
  obtain ⟨q, hq⟩ : ∃ q, n / L = q := ⟨_, rfl⟩
  have hqn : q ≤ 60 := by rw [← hq]; exact Nat.le_trans (Nat.div_le_self n L) hn.2
  have hm := hf.most
  rw [hq] at hm
  simp only [laws_FnBreaksStrips.j0]
  rw [if_neg (by decide), if_pos True.intro, rises_eq _ (mv_rises L u n) (by rw [ints_len]; omega) (k + 1) (by omega), Option.bind_some, if_pos rfl, rises_eq _ (lost_rises L u n) (by omega) (k + 1) (by omega), Option.bind_some, if_pos rfl, has_eq (ints (lostL L u n)) (n : Int) (by omega) (k + 1) (by omega), Option.bind_some]
  simp only [beq0]
  have e0 : ((ints (mv L u n)).length : Int) = 0 ↔ (M L u n : Int) = 0 := by
    rw [ints_len]
    have := hf.empty
    rw [← List.length_eq_zero_iff] at this
    omega
  rw [bne2 (show (n : Int) ∈ ints (lostL L u n) ↔ (V L u n : Int) = 0 by rw [lost_mem hn.1]; omega), if_neg (by decide), bne2 e0, if_neg (by decide), bne2 (show (F L u n : Int) = 0 ↔ (M L u n : Int) = 0 by have := hf.few; omega), if_neg (by decide), if_neg (by have := hf.le; omega), if_neg (by omega),
    ← Int.ofNat_tdiv, hq, PK.wrap_in (x := (q : Int)) (by omega) (by omega), PK.wrap_in (by omega) (by omega)]
  by_cases c : (M L u n : Int) > (q : Int) - 1
  · rw [if_pos c, decide_eq_false (by rcases hm with z | z <;> omega)]
    exact h1
  · rw [if_neg c]; exact h1
theorem j0_no {l : List Int} (h : ∀ x ∈ l, 0 ≤ x ∧ x ≤ 255) (a b : Int) (u : Bool) {k : Nat} (hk : 100000 ≤ k) : laws_FnBreaksStrips.j0 k l a b u [] false 0 [] 0 0 false = some true := by
  obtain ⟨k, rfl⟩ : ∃ q, k = q + 1 := ⟨k - 1, by omega⟩
  simp only [laws_FnBreaksStrips.j0]
  rw [if_neg (by decide), if_neg (by decide)]
  exact j4_ok h (by omega)
theorem FnBreaksStrips : laws_FnBreaksStrips.Pure2 := by
  intro l0 l1 h0 h1
  have hb0 : ∀ x ∈ l0, 0 ≤ x ∧ x ≤ 255 := fun x hx => by simpa [Lit.wf, IntKind.min, IntKind.max, IntKind.bits, IntKind.signed] using h0.2 x hx
  have hb1 : ∀ x ∈ l1, 0 ≤ x ∧ x ≤ 255 := fun x hx => by simpa [Lit.wf, IntKind.min, IntKind.max, IntKind.bits, IntKind.signed] using h1.2 x hx
  obtain ⟨k, hk⟩ : ∃ k : Nat, k ≥ 200000 := ⟨200000, Nat.le_refl _⟩
  refine ⟨k, ?_⟩
  have hbig : ∃ b, laws_big.f l0 l1 = some b := by
    unfold laws_big.f
    by_cases c : (l0.length : Int) > 1048576
    · rw [if_pos c]; exact ⟨_, rfl⟩
    · rw [if_neg c]; exact ⟨_, rfl⟩
  obtain ⟨b, hb⟩ := hbig
  obtain ⟨x, y, u, hd⟩ := drawMoves_ok hb0
  unfold laws_FnBreaksStrips.f
  rw [hb, Option.bind_some]
  by_cases cb : b = true
  · rw [if_pos cb]
  · rw [if_neg cb, hd]
    simp only [Option.bind_some]
    by_cases c : (1 ≤ x ∧ x ≤ 60) ∧ 1 ≤ y ∧ y ≤ 60
    · obtain ⟨n, rfl⟩ : ∃ n : Nat, x = (n : Int) := ⟨x.toNat, by omega⟩
      obtain ⟨L, rfl⟩ : ∃ n : Nat, y = (n : Int) := ⟨y.toNat, by omega⟩
      have hL : 1 ≤ L ∧ L ≤ 60 := by omega
      have hn : 1 ≤ n ∧ n ≤ 60 := by omega
      have hml := mv_len L u n
      have hll := lost_len L u n
      rw [Moves_eq u hL hn (by omega), MovesS_eq u hL hn (by omega), Value_eq u hL hn (by omega), ValueS_eq u hL hn (by omega), Lost_eq u hL hn (by omega), LostS_eq u hL hn (by omega), Longest_eq u hL hn (by omega), LongestS_eq u hL hn (by omega), Shortest_eq u hL hn (by omega), ShortestS_eq u hL hn (by omega)]
      simp only [Option.bind_some, bne_self_eq_false, Bool.false_eq_true, if_false]
      rw [same_eq _ _ (by rw [ints_len]; omega) (by rw [ints_len]; omega) k (by omega), Option.bind_some, decide_eq_true rfl, if_pos rfl, if_pos True.intro, same_eq _ _ (by omega) (by omega) k (by omega), Option.bind_some, decide_eq_true rfl, if_pos rfl, if_pos True.intro, if_pos True.intro]
      exact j0_ok hb1 u hL hn (by omega)
    · obtain ⟨g1, g2, g3, g4, g5, g6, g7, g8, g9⟩ := no_all u c k
      rw [g1, g2, g3, g4, no_lost u c (by omega), g5, g6, g7, g8, g9]
      simp only [Option.bind_some, bne_self_eq_false, Bool.false_eq_true, if_false]
      rw [same_eq [] [] (by simp) (by simp) k (by omega), Option.bind_some, decide_eq_true rfl, if_pos rfl, if_pos True.intro, Option.bind_some, if_pos rfl, if_pos True.intro, if_pos True.intro]
      exact j0_no hb1 x y u (by omega)

end Go.Proofs.Ytejnbnppiipdlaa.Pure
