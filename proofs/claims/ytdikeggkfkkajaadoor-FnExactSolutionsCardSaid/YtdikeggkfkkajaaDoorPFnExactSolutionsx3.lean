-- Made by a program of this session (wip/xprint.py) out of the translation.
import Derived.Test.YtdikeggkfkkajaaDoorPFnExactSolutionsx0
import Derived.Test.YtdikeggkfkkajaaDoorPFnExactSolutionsx1
import Derived.Test.YtdikeggkfkkajaaDoorPFnExactSolutionsx2
namespace Go.Proofs.YtdikeggkfkkajaaDoor.PFnExactSolutions
open Go.RowKit Go.Proofs.YtdikeggkfkkajaaDoorW.PrintWords Go.Proofs.YtdikeggkfkkajaaDoorW.PrintLast Go.Proofs.YtdikeggkfkkajaaDoorW.PrintMore
attribute [local go_sem] max2_int min2_int max_two min_two max_three min_three max_four min_four   -- for this text's walks alone
set_option linter.unusedVariables false
set_option linter.unusedSimpArgs false

/-! ### spec_cmHeaps: function 78 -/
theorem spec_cmHeaps.keyF {r : List Int} (hr : Chomp.Ok r) : ∀ k : Nat, 6 < k → spec_cmKey.f k r = some (All.key r) := by
 have h6 := hr.2.1
 have knil : ∀ d, All.key6 d [] = 0 := fun d => by cases d <;> rfl
 have loop : ∀ (d i k : Nat) (s : Int), i + d = 6 → d < k → 0 ≤ s → s + 1 ≤ 7 ^ i → spec_cmKey.l0 k r s (i : Int) = some (s * 7 ^ d + All.key6 d (r.drop i)) := by
  intro d
  induction d with
  | zero =>
   intro i k s hi hk h0 h1
   obtain ⟨k, rfl⟩ : ∃ q, k = q + 1 := ⟨k - 1, by omega⟩
   simp only [spec_cmKey.l0]
   rw [if_neg (by omega)]
   simp [All.key6]
  | succ d ih =>
   intro i k s hi hk h0 h1
   obtain ⟨k, rfl⟩ : ∃ q, k = q + 1 := ⟨k - 1, by omega⟩
   have hp : (7 : Int) ^ i ≤ 16807 := by
    have : i = 0 ∨ i = 1 ∨ i = 2 ∨ i = 3 ∨ i = 4 ∨ i = 5 := by omega
    rcases this with rfl | rfl | rfl | rfl | rfl | rfl <;> decide
   have hp1 : (7 : Int) ^ (i + 1) = 7 ^ i * 7 := Int.pow_succ 7 i
   have hd1 : (7 : Int) ^ (d + 1) = 7 ^ d * 7 := Int.pow_succ 7 d
   have hw : wrap64 ((i : Int) + 1) = ((i + 1 : Nat) : Int) := by rw [PK.wrap_in (by omega) (by omega)]; omega
   have hs7 : wrap64 (s * 7) = s * 7 := PK.wrap_in (by omega) (by omega)
   simp only [spec_cmKey.l0]
   rw [if_pos (by omega), hs7, hw]
   by_cases c : i < r.length
   ·have hx := hr.2.2 _ (List.getElem_mem c)
    rw [if_pos (by omega), if_pos (by omega), PK.rd_at c, PK.wrap_in (by omega) (by omega), ih (i + 1) k _ (by omega) (by omega) (by omega) (by omega), List.drop_eq_getElem_cons c]
    show some ((s * 7 + r[i]) * 7 ^ d + All.key6 d (r.drop (i + 1))) = some (s * 7 ^ (d + 1) + (r[i] * 7 ^ d + All.key6 d (r.drop (i + 1))))
    rw [hd1, Int.add_mul, Int.mul_assoc, Int.mul_comm 7, Int.add_assoc]
   ·rw [if_neg (by omega), ih (i + 1) k _ (by omega) (by omega) (by omega) (by omega), List.drop_eq_nil_of_le (by omega), List.drop_eq_nil_of_le (by omega), knil, knil, hd1, Int.mul_assoc, Int.mul_comm 7]
 intro k hk
 unfold spec_cmKey.f
 have := loop 6 0 k 0 (by omega) (by omega) (by omega) (by decide)
 have e0 : ((0 : Nat) : Int) = 0 := rfl
 rw [e0] at this
 rw [this]
 simp [All.key]
theorem spec_cmHeaps.biteF {r : List Int} (hr : Chomp.Ok r) {x : Int} (hx : 0 ≤ x) (y : Nat) : ∀ k : Nat, 6 < k → spec_cmBite.f k r x (y : Int) = some (Chomp.bit r x y) := by
 have h6 := hr.2.1
 have loop : ∀ (d i k : Nat) (acc : List Int), i + d = r.length → d < k → acc.length ≤ i → spec_cmBite.l0 k x (y : Int) acc r (r.length : Int) (i : Int) = some (acc ++ ((Chomp.cut r x y).drop i).filter fun n => !(n == 0)) := by
  intro d
  induction d with
  | zero =>
   intro i k acc hi hk ha
   obtain ⟨k, rfl⟩ : ∃ q, k = q + 1 := ⟨k - 1, by omega⟩
   simp only [spec_cmBite.l0]
   rw [if_neg (by omega), List.drop_eq_nil_of_le (by rw [Chomp.cut_length]; omega)]
   simp
  | succ d ih =>
   intro i k acc hi hk ha
   obtain ⟨k, rfl⟩ : ∃ q, k = q + 1 := ⟨k - 1, by omega⟩
   have hlt : i < r.length := by omega
   have hlt2 : i < (Chomp.cut r x y).length := by rw [Chomp.cut_length]; exact hlt
   have hw : wrap64 ((i : Int) + 1) = ((i + 1 : Nat) : Int) := by rw [PK.wrap_in (by omega) (by omega)]; omega
   have hv := hr.2.2 _ (List.getElem_mem hlt)
   have hg := Chomp.cut_getD r x y i hlt
   rw [List.getD_eq_getElem?_getD, List.getElem?_eq_getElem hlt2, Option.getD_some, List.getD_eq_getElem?_getD, List.getElem?_eq_getElem hlt, Option.getD_some] at hg
   simp only [spec_cmBite.l0]
   rw [if_pos (by omega), if_pos (by omega), if_pos (by omega), PK.rd_at hlt, hw, List.drop_eq_getElem_cons hlt2, hg, List.filter_cons]
   by_cases c : y ≤ i
   ·have hl : spec_l1Least.f r[i] x = some (if x < r[i] then x else r[i]) := by
     unfold spec_l1Least.f
     by_cases c2 : r[i] < x
     ·rw [if_pos c2, if_neg (by omega)]
     ·rw [if_neg c2]
      by_cases c3 : x < r[i]
      ·rw [if_pos c3]
      ·rw [if_neg c3, show x = r[i] by omega]
    rw [if_pos (by omega), if_pos c, hl, Option.bind_some]
    generalize hq : (if x < r[i] then x else r[i]) = q
    have hq0 : 0 ≤ q := by rw [← hq]; split <;> omega
    by_cases c4 : 0 < q
    ·rw [if_pos (by omega), if_pos (by omega), ih (i + 1) k _ (by omega) (by omega) (by rw [List.length_append]; simp; omega), if_pos (by simp; omega)]
     simp
    ·rw [if_neg (by omega), ih (i + 1) k _ (by omega) (by omega) (by omega), if_neg (by simp; omega)]
   ·rw [if_neg (by omega), if_neg c, if_pos (by omega), if_pos (by omega), ih (i + 1) k _ (by omega) (by omega) (by rw [List.length_append]; simp; omega), if_pos (by simp; omega)]
    simp
 intro k hk
 unfold spec_cmBite.f
 have := loop r.length 0 k [] (by omega) (by omega) (by simp)
 have e0 : ((0 : Nat) : Int) = 0 := rfl
 rw [e0] at this
 rw [this]
 simp [Chomp.bit]
theorem spec_cmHeaps.movesF {r : List Int} (hr : Chomp.Ok r) : ∀ k : Nat, 120 < k → spec_cmMoves.f k r = some (Chomp.moves r) := by
 have h6 := hr.2.1
 have inner : ∀ (y : Nat) (d x k : Nat) (acc : List (List Int)), y < r.length → x + d = (r.getD y 0).toNat → d < k → acc.length + d ≤ 1000 →
   spec_cmMoves.l1 k acc (y : Int) (r.getD y 0) (x : Int) r (r.length : Int) (y : Int) = spec_cmMoves.l0 (k - d - 1) (acc ++ (((List.range' x d).filter fun x => decide (0 < x + y)).map fun (x : Nat) => [(x : Int), (y : Int)])) r (r.length : Int) ((y + 1 : Nat) : Int) := by
  intro y d
  induction d with
  | zero =>
   intro x k acc hy hx hk ha
   obtain ⟨k, rfl⟩ : ∃ q, k = q + 1 := ⟨k - 1, by omega⟩
   have hw : wrap64 ((y : Int) + 1) = ((y + 1 : Nat) : Int) := by rw [PK.wrap_in (by omega) (by omega)]; omega
   simp only [spec_cmMoves.l1]
   rw [if_neg (by omega), hw]
   simp
  | succ d ih =>
   intro x k acc hy hx hk ha
   obtain ⟨k, rfl⟩ : ∃ q, k = q + 1 := ⟨k - 1, by omega⟩
   have hr6 : r.getD y 0 ≤ 6 := by
    rw [List.getD_eq_getElem?_getD, List.getElem?_eq_getElem hy]
    exact (hr.2.2 _ (List.getElem_mem hy)).2
   have hw : wrap64 ((x : Int) + 1) = ((x + 1 : Nat) : Int) := by rw [PK.wrap_in (by omega) (by omega)]; omega
   have hw2 : wrap64 ((x : Int) + (y : Int)) = (x : Int) + (y : Int) := PK.wrap_in (by omega) (by omega)
   simp only [spec_cmMoves.l1]
   rw [if_pos (by omega), hw, hw2, List.range'_succ]
   by_cases h1 : 0 < x + y
   ·rw [if_pos (by omega), if_pos (by omega), ih (x + 1) k _ hy (by omega) (by omega) (by rw [List.length_append]; simp; omega), List.filter_cons, if_pos (by simp; omega)]
    rw [show k + 1 - (d + 1) - 1 = k - d - 1 by omega]
    simp
   ·rw [if_neg (by omega), ih (x + 1) k _ hy (by omega) (by omega) (by omega), List.filter_cons, if_neg (by simp; omega)]
    rw [show k + 1 - (d + 1) - 1 = k - d - 1 by omega]
 have outer : ∀ (d y k : Nat) (acc : List (List Int)), y + d = r.length → 20 * d < k → acc.length ≤ 6 * y → spec_cmMoves.l0 k acc r (r.length : Int) (y : Int) = some (acc ++ (List.range' y d).flatMap (Chomp.movesAt r)) := by
  intro d
  induction d with
  | zero =>
   intro y k acc hy hk ha
   obtain ⟨k, rfl⟩ : ∃ q, k = q + 1 := ⟨k - 1, by omega⟩
   simp only [spec_cmMoves.l0]
   rw [if_neg (by omega)]; simp
  | succ d ih =>
   intro y k acc hy hk ha
   obtain ⟨k, rfl⟩ : ∃ q, k = q + 1 := ⟨k - 1, by omega⟩
   have hlt : y < r.length := by omega
   have hr6 : (r.getD y 0).toNat ≤ 6 := by
    rw [List.getD_eq_getElem?_getD, List.getElem?_eq_getElem hlt]
    have := (hr.2.2 _ (List.getElem_mem hlt)).2
    simp; omega
   have hrd : rd r (y : Int) = r.getD y 0 := rfl
   have hi := inner y (r.getD y 0).toNat 0 k acc hlt (by omega) (by omega) (by omega)
   have e0 : ((0 : Nat) : Int) = 0 := rfl
   rw [e0] at hi
   simp only [spec_cmMoves.l0]
   rw [if_pos (by omega), if_pos (by omega), if_pos (by omega), hrd, hi]
   have hm : (((List.range' 0 (r.getD y 0).toNat).filter fun x => decide (0 < x + y)).map fun (x : Nat) => [(x : Int), (y : Int)]) = Chomp.movesAt r y := by unfold Chomp.movesAt; rw [List.range_eq_range']
   rw [hm, ih (y + 1) _ _ (by omega) (by omega) (by have := Chomp.movesAt_len hr.2.2 y; rw [List.length_append]; omega), List.range'_succ, List.flatMap_cons, List.append_assoc]
 intro k hk
 unfold spec_cmMoves.f
 have := outer r.length 0 k [] (by omega) (by omega) (by simp)
 have e0 : ((0 : Nat) : Int) = 0 := rfl
 rw [e0] at this
 rw [this, List.nil_append]
 unfold Chomp.moves
 rw [List.range_eq_range']
def spec_cmHeaps.f (a0 : Int) (a1 : Int) : Option (List Int) := if 0 ≤ a0 ∧ a0 ≤ 6 ∧ 0 ≤ a1 ∧ a1 ≤ 6 then some (All.tab (All.all a0.toNat a1.toNat)) else none
theorem spec_cmHeaps.take_snoc {α : Type} {L : List α} {k : Nat} (h : k < L.length) : L.take (k + 1) = L.take k ++ [L[k]] := by rw [List.take_add_one, List.getElem?_eq_getElem h]; rfl
/-- Of what the first j bites leave, these are the heaps. -/
def spec_cmHeaps.Seen (r : List Int) (L : List (List Int)) (j : Nat) (S : List Bool) : Prop := S.length = 37 ∧ ∀ i, i < 37 → S.getD i false = decide ((i : Int) ∈ (L.take j).map (fun m => (Chomp.H (Chomp.bit r (m.getD 0 0) (m.getD 1 0).toNat) : Int)))
theorem spec_cmHeaps.seen_step {r : List Int} {L : List (List Int)} {j h : Nat} {S : List Bool} (hS : spec_cmHeaps.Seen r L j S) (hj : j < L.length) (hh : h < 37) (e : Chomp.H (Chomp.bit r ((L.getD j []).getD 0 0) ((L.getD j []).getD 1 0).toNat) = h) : spec_cmHeaps.Seen r L (j + 1) (S.set h true) := by
 refine ⟨by rw [List.length_set]; exact hS.1, fun i hi => ?_⟩
 have h0 := hS.2 i hi
 have hL : L[j] = L.getD j [] := by rw [List.getD_eq_getElem?_getD, List.getElem?_eq_getElem hj]; rfl
 rw [spec_cmHeaps.take_snoc hj, List.map_append, hL, List.getD_eq_getElem?_getD, List.getElem?_set]
 by_cases c : h = i
 ·subst c
  rw [if_pos rfl, if_pos (by rw [hS.1]; exact hh), Option.getD_some]
  symm
  apply decide_eq_true
  refine List.mem_append.2 (.inr (List.mem_map.2 ⟨L.getD j [], by simp, ?_⟩))
  show ((Chomp.H (Chomp.bit r ((L.getD j []).getD 0 0) ((L.getD j []).getD 1 0).toNat) : Nat) : Int) = _
  rw [e]
 ·rw [if_neg c, ← List.getD_eq_getElem?_getD, h0]
  apply decide_eq_decide.2
  simp only [List.map_cons, List.map_nil, List.mem_append, List.mem_singleton, e]
  constructor
  ·exact fun h => .inl h
  ·rintro (h | h)
   ·exact h
   ·omega
theorem spec_cmHeaps.seen_0 (r : List Int) (L : List (List Int)) : spec_cmHeaps.Seen r L 0 (List.replicate (Int.toNat 37) false) := by
 refine ⟨rfl, fun i hi => ?_⟩
 show (List.replicate 37 false).getD i false = _
 rw [List.getD_eq_getElem?_getD, List.getElem?_replicate]
 split <;> simp
set_option maxHeartbeats 16000000 in
set_option maxRecDepth 100000 in
theorem spec_cmHeaps.calls (a0 : Int) (a1 : Int) (r : List Int) (w : World) (h : spec_cmHeaps.f a0 a1 = some r) :
  Calls Tryd.prog 78 #[.int .i64 a0, .int .i64 a1] w fun e w' => ∃ v0_ : Value, e = .returned (v0_) ∧ Kd.R (Kd.int .i64) 3 w' w.heap.size (fun _ => True) v0_ r ∧ Below w.heap.size w w' := by
 have hcond : 0 ≤ a0 ∧ a0 ≤ 6 ∧ 0 ≤ a1 ∧ a1 ≤ 6 := by
  by_cases hc : 0 ≤ a0 ∧ a0 ≤ 6 ∧ 0 ≤ a1 ∧ a1 ≤ 6
  ·exact hc
  ·simp only [spec_cmHeaps.f, if_neg hc] at h; cases h
 simp only [spec_cmHeaps.f, if_pos hcond] at h
 obtain rfl := Option.some.inj h
 clear h
 obtain ⟨wide, rfl⟩ := Int.eq_ofNat_of_zero_le hcond.1
 obtain ⟨high, rfl⟩ := Int.eq_ofNat_of_zero_le hcond.2.2.1
 have hw6 : wide ≤ 6 := by omega
 have hh6 : high ≤ 6 := by omega
 rw [Int.toNat_natCast, Int.toNat_natCast]
 have hall : spec_cmAll.f (wide : Int) (high : Int) = some (All.all wide high) := by
  unfold spec_cmAll.f
  rw [if_pos (by omega), Int.toNat_natCast, Int.toNat_natCast]
  refine All.look_all wide high ?_
  refine Nat.lt_of_le_of_lt (Nat.le_trans (Nat.pow_le_pow_left (show wide + 1 ≤ 7 by omega) high) (Nat.pow_le_pow_right (by omega) hh6)) (by decide)
 have HALL := Aside0.mk (fun W => spec_cmAll.calls (wide : Int) (high : Int) _ W hall)
 have HOK := Aside0.mk (fun r (h : r ∈ All.all wide high) => All.ok_all h hw6 hh6)
 have HAH := Aside0.mk (fun n (hn : n < (All.all wide high).length) m (hm : m ∈ Chomp.moves ((All.all wide high).getD n [])) => All.tab_ahead hw6 hh6 hn hm)
 have HLEN := Aside0.mk (show (All.all wide high).length ≤ 117649 by
  have h1 := All.tails_len high wide
  have h2 : (wide + 1) ^ high ≤ 7 ^ 6 := Nat.le_trans (Nat.pow_le_pow_left (show wide + 1 ≤ 7 by omega) high) (Nat.pow_le_pow_right (by omega) hh6)
  have h3 : (7 : Nat) ^ 6 = 117649 := by decide
  unfold All.all
  rw [List.length_tail]; omega)
 clear hall hcond hw6 hh6
 generalize All.all wide high = L at HALL HOK HAH HLEN ⊢
 have HB := Aside0.mk (Below.refl w.heap.size w)
 have hL64 : (L.length : Int) ≤ 9223372036854775807 := by have := HLEN.out; omega
 go_enter Tryd.func78, Tryd.ntmps78
 go_wp2_with (first
  | ((with_reducible refine gate_dst (N := 12) rfl ?_); refine Kd.R_make (Kd.int .i64) _ 3 rfl (N := 12) rfl 38 _ _ rfl (117649 : Int) rfl rfl Tryd.underlying38 (.int .i64 0) 8 info3 rfl (by decide) (by omega) (0 : Int) (ok := fun _ => True) (okp := fun _ => True) rfl (fun _ hk => hk) trivial (by omega) (by omega) (Below.refl w.heap.size w) (Nat.le_refl _) ?_; intro vt w1 ho hb hg_ hnew_; clear hg_ hnew_; obtain ⟨gt, ct, et, hgt, hlt, _⟩ := Kd.R_form ho (by rw [List.length_replicate]; omega); have et' : vt = .slice (some ⟨gt, 0, none⟩) 117649 ct := (by rw [et, List.length_replicate]; rfl); subst et'; have HT := Aside0.mk (Kd.R_tight rfl ho); have GT := Aside0.mk hgt; have LT := Aside0.mk hlt; have B1 := Aside0.mk hb; clear ho hb hgt hlt et HB)
  | (go_at_call 65; go_loud (refine (HALL.out _).mono ?_; rintro e w2 ⟨v2, rfl, ho, hb⟩; obtain ⟨A2, c2, e2⟩ := Kd.S_slice ho; subst e2; have HS := Aside0.mk (Kd.S_mono (Kd.S_bound ho) (fun k hk => (⟨hk.2.1, hk.2.2.1⟩ : w1.heap.size ≤ k ∧ k < w2.heap.size))); have n1_ := Aside0.mk (Kd.R_below HT.out hb); have B2 := Aside0.mk (below_step B1.out hb); have Z12 := Aside0.mk hb.size; clear HT ho hb; have HT := n1_; clear n1_)))
 go_loopg [17] L.length (fun gg s17 wr => ∃ kk : Nat, kk ≤ L.length ∧ L.length - kk ≤ gg ∧ s17 = .int .i64 kk ∧ Aside0 (Kd.R (Kd.int .i64) 3 wr w.heap.size (fun k => some k = (Value.slice (some ⟨gt, 0, none⟩) 117649 ct).ownBlock) (.slice (some ⟨gt, 0, none⟩) 117649 ct) (All.tab (L.take kk))) ∧ Aside0 (Kd.S (Kd.slice 3 (Kd.int .i64)) 38 wr w1.heap.size (fun k => w1.heap.size ≤ k ∧ k < w2.heap.size) (.slice A2 L.length c2) L) ∧ Aside0 (Below w.heap.size w wr) ∧ Aside0 (w2.heap.size ≤ wr.heap.size))
 case atStart => exact ⟨0, Nat.zero_le _, by omega, rfl, HT, HS, B2, ⟨Nat.le_refl _⟩⟩
 case round =>
  clear HT HS B2
  obtain ⟨kk, hkk, hgg, rfl, HT, HS, HB, HZ⟩ := hrel
  by_cases hlt : kk < L.length
  ·have hltz : (kk : Int) < (L.length : Int) := by omega
   rcases Del.row_formS HS.out with ⟨_, h2⟩ | ⟨gv, cv, hv⟩
   ·rw [h2] at hlt; simp at hlt
   injection hv with hA hn hc2
   clear hn
   subst hA; subst hc2
   obtain ⟨_, _, _, curv, hgv, hnv, _, hMv⟩ := Del.row_ofS rfl HS.out ([] : List Int)
   have hm := hMv kk hlt
   have hmem := Lam.getD_mem hlt ([] : List Int)
   have hok := HOK.out _ hmem
   have hah := HAH.out kk hlt
   have hrk : L[kk] = L.getD kk [] := by rw [List.getD_eq_getElem?_getD, List.getElem?_eq_getElem hlt]; rfl
   have HRK := Aside0.mk hrk
   clear hrk
   generalize hrr : L.getD kk [] = r at hm hok hah HRK
   have HAHR := Aside0.mk hah
   obtain ⟨vr, hvr, hRr⟩ := hm
   have hx0 : wr.cell? ⟨gv, kk, none⟩ = some curv[kk]! := (blk_cell hgv kk).trans (Del.arr_at (by omega))
   injection hvr with hvr
   rw [hvr] at hx0
   rcases Del.row_formR hRr with ⟨_, h3⟩ | ⟨g0, c0, hq⟩
   ·exact absurd h3 hok.1
   subst hq
   have hRt := Kd.R_tight rfl hRr
   obtain ⟨_, hrc, hbr, cur0, hg0, _, _, _⟩ := Del.row_ofR rfl hRr (0 : Int)
   have hok0 := hRr.1 g0 (by simp [Value.ownBlock])
   have HCR := Aside0.mk (fun W (hX : W.heap[g0]? = wr.heap[g0]?) => (Kd.R_reads' (Kd.R_move (w1 := W) hRt (fun k hk => by
    have : k = g0 := by simpa [Value.ownBlock] using hk
    rw [this]; exact hX))).2.2)
   have hmv := spec_cmHeaps.movesF hok 121 (by omega)
   have hkey := spec_cmHeaps.keyF hok 7 (by omega)
   have hklt := All.key_lt hok
   have HMV := Aside0.mk (fun W (hX : W.heap[g0]? = wr.heap[g0]?) => spec_cmMoves.calls 121 (some ⟨g0, 0, none⟩) c0 r _ W (HCR.out W hX) hrc hmv)
   have HKY := Aside0.mk (fun W (hX : W.heap[g0]? = wr.heap[g0]?) => spec_cmKey.calls 7 (some ⟨g0, 0, none⟩) c0 r _ W (HCR.out W hX) hrc hkey)
   have HBT := Aside0.mk (fun (x y : Nat) (W : World) (hX : W.heap[g0]? = wr.heap[g0]?) => spec_cmBite.calls 7 (some ⟨g0, 0, none⟩) c0 r (x : Int) (y : Int) (Chomp.bit r (x : Int) y) W (HCR.out W hX) hrc (spec_cmHeaps.biteF hok (by omega) y 7 (by omega)))
   have HOKR := Aside0.mk hok
   have HH := Aside0.mk (Chomp.H_eq hok)
   have HH36 := Aside0.mk (Chomp.H_le hok)
   have HML := Aside0.mk (Chomp.moves_len hok)
   obtain ⟨q, hq⟩ := Int.eq_ofNat_of_zero_le hklt.1
   have HQ := Aside0.mk hq
   rw [hq] at HKY
   have hq117 : (q : Int) < 117649 := by have := hklt.2; omega
   have G0 := Aside0.mk (⟨hok0.1.1, hok0.1.2⟩ : w1.heap.size ≤ g0 ∧ g0 < w2.heap.size)
   have LEN := Aside0.mk hlt
   clear hklt hq hkey hmv hok hah hmem hMv hnv hgv hbr hg0 hok0 hRt hrr hvr hRr
   generalize hM : Chomp.moves r = M at HMV HH HML HAHR
   have HM := Aside0.mk hM
   clear hM
   have hM64 : (M.length : Int) ≤ 9223372036854775807 := by have := HML.out; omega
   go_wp2_with (first
    | ((with_reducible refine gate_dst (N := 21) rfl ?_); refine Kd.R_make Kd.bool _ 4 rfl (N := 21) rfl 125 _ _ rfl (37 : Int) rfl rfl Tryd.underlying125 (.bool false) 1 info4 rfl (by decide) (by omega) false (ok := fun _ => True) (okp := fun _ => True) rfl (fun _ hk => hk) trivial (by omega) (by omega) (Below.refl wr.heap.size wr) (Nat.le_refl _) ?_; intro vs w3 ho hb hg_ hnew_; clear hg_ hnew_; obtain ⟨gs, cs, es, hgs, hls, _⟩ := Kd.R_form ho (by rw [List.length_replicate]; omega); have es' : vs = .slice (some ⟨gs, 0, none⟩) 37 cs := (by rw [es, List.length_replicate]; rfl); subst es'; have HN := Aside0.mk (Kd.R_tight rfl ho); have GS := Aside0.mk hgs; have LS := Aside0.mk hls; have n1_ := Aside0.mk (Kd.R_below HT.out hb); have n2_ := Aside0.mk (Kd.S_below HS.out hb); have n3_ := Aside0.mk (below_step HB.out hb); have n4_ := Aside0.mk (hb.block g0 (by have := G0.out; have := HZ.out; omega)); have Z3 := Aside0.mk (Nat.le_trans HZ.out hb.size); clear HT HS HB ho hb hgs hls es; have HT := n1_; have HS := n2_; have HB := n3_; have X0 := n4_; clear n1_ n2_ n3_ n4_)
    | (go_at_call 106; go_loud (refine (HMV.out _ X0.out).mono ?_; rintro e w4 ⟨v4, rfl, ho, hb⟩; obtain ⟨A4, c4, e4⟩ := Kd.S_slice ho; subst e4; have HMS := Aside0.mk (Kd.S_mono (Kd.S_bound ho) (fun k hk => (hk.2.1 : w3.heap.size ≤ k))); have n1_ := Aside0.mk (Kd.R_below HT.out hb); have n2_ := Aside0.mk (Kd.S_below HS.out hb); have n3_ := Aside0.mk (below_step HB.out hb); have n4_ := Aside0.mk ((hb.block g0 (by have := G0.out; have := Z3.out; omega)).trans X0.out); have n5_ := Aside0.mk (Kd.R_below HN.out hb); have Z4 := Aside0.mk (Nat.le_trans Z3.out hb.size); clear HT HS HB X0 HN ho hb; have HT := n1_; have HS := n2_; have HB := n3_; have X0 := n4_; have HN := n5_; clear n1_ n2_ n3_ n4_ n5_)))
   obtain ⟨wo, hwo⟩ : ∃ wo, wo = wr := ⟨wr, rfl⟩
   subst hwo
   go_loopg [25] M.length (fun gg2 s25 wz => ∃ (jj : Nat) (SN : List Bool), jj ≤ M.length ∧ M.length - jj ≤ gg2 ∧ s25 = .int .i64 jj ∧ Aside0 (spec_cmHeaps.Seen r M jj SN) ∧ Aside0 (Kd.R Kd.bool 4 wz wo.heap.size (fun k => some k = (Value.slice (some ⟨gs, 0, none⟩) 37 cs).ownBlock) (.slice (some ⟨gs, 0, none⟩) 37 cs) SN) ∧ Aside0 (Kd.R (Kd.int .i64) 3 wz w.heap.size (fun k => some k = (Value.slice (some ⟨gt, 0, none⟩) 117649 ct).ownBlock) (.slice (some ⟨gt, 0, none⟩) 117649 ct) (All.tab (L.take kk))) ∧ Aside0 (Kd.S (Kd.slice 3 (Kd.int .i64)) 38 wz w1.heap.size (fun k => w1.heap.size ≤ k ∧ k < w2.heap.size) (.slice (some ⟨gv, 0, none⟩) L.length c2) L) ∧ Aside0 (Kd.S (Kd.slice 3 (Kd.int .i64)) 38 wz w3.heap.size (fun k => w3.heap.size ≤ k) (.slice A4 M.length c4) M) ∧ Aside0 (Below w.heap.size w wz) ∧ Aside0 (wz.heap[g0]? = wo.heap[g0]?) ∧ Aside0 (w2.heap.size ≤ wz.heap.size))
   case atStart => exact ⟨0, _, Nat.zero_le _, by omega, rfl, ⟨spec_cmHeaps.seen_0 r M⟩, HN, HT, HS, HMS, HB, X0, Z4⟩
   case round =>
    clear HN HT HS HMS HB X0 Z4 Z3
    obtain ⟨jj, SN, hjj, hgg2, rfl, HSN, HN, HT, HS, HMS, HB, X0, HZ2⟩ := hrel
    by_cases hlt2 : jj < M.length
    ·have hltz2 : (jj : Int) < (M.length : Int) := by omega
     rcases Del.row_formS HMS.out with ⟨_, h2⟩ | ⟨gm, cm, hv⟩
     ·rw [h2] at hlt2; simp at hlt2
     injection hv with hA hn hc4
     clear hn
     subst hA; subst hc4
     obtain ⟨_, _, _, curm, hgm, hnm, _, hMm⟩ := Del.row_ofS rfl HMS.out ([] : List Int)
     have hm := hMm jj hlt2
     have hmem : M.getD jj [] ∈ Chomp.moves r := by rw [HM.out]; exact Lam.getD_mem hlt2 ([] : List Int)
     have hahr := HAHR.out _ (by rw [← HM.out]; exact hmem)
     obtain ⟨x, y, hxy0, hy, hx, hp⟩ := Chomp.moves_mem hmem
     have hbok := Chomp.bit_Ok HOKR.out (x := (x : Int)) (y := y) (by omega) (by omega)
     have HXY := Aside0.mk hxy0
     rw [hxy0] at hm hahr
     obtain ⟨vm, hvm, hRm⟩ := hm
     have hx0 : wr.cell? ⟨gm, jj, none⟩ = some curm[jj]! := (blk_cell hgm jj).trans (Del.arr_at (by omega))
     injection hvm with hvm
     rw [hvm] at hx0
     rcases Del.row_formR hRm with ⟨_, h3⟩ | ⟨gq, cq, hq⟩
     ·cases h3
     have hq' : vm = .slice (some ⟨gq, 0, none⟩) 2 cq := hq
     clear hq
     subst hq'
     obtain ⟨_, _, hbq, curq, hgq, hnq, _, hMq⟩ := Del.row_ofR rfl hRm (0 : Int)
     have HQ0 := Aside0.mk (show curq[0]? = some (.int .i64 (x : Int)) by have h9 : [curq[0]!] = [Value.int .i64 (x : Int)] := hMq 0 (by omega); injection h9 with h9; rw [Del.arr_at (by omega), h9])
     have HQ1 := Aside0.mk (show curq[1]? = some (.int .i64 (y : Int)) by have h9 : [curq[1]!] = [Value.int .i64 (y : Int)] := hMq 1 (by omega); injection h9 with h9; rw [Del.arr_at (by omega), h9])
     have hahr' : (All.tab (L.take kk)).getD (All.key (Chomp.bit r (x : Int) y)).toNat 0 = (Chomp.H (Chomp.bit r (x : Int) y) : Int) + 1 := hahr
     have hH36 := Chomp.H_le hbok
     have hkb := spec_cmHeaps.keyF hbok 7 (by omega)
     have hkl := All.key_lt hbok
     obtain ⟨qb, hqb⟩ := Int.eq_ofNat_of_zero_le hkl.1
     rw [hqb] at hahr' hkb hkl
     rw [Int.toNat_natCast] at hahr'
     have hqb117 : (qb : Int) < 117649 := hkl.2
     have HKB := Aside0.mk (fun A c W h1 h2 => spec_cmKey.calls 7 A c (Chomp.bit r (x : Int) y) _ W h1 h2 hkb)
     have HB2 := Aside0.mk (HBT.out x y)
     obtain ⟨h, hhd⟩ : ∃ h, Chomp.H (Chomp.bit r (x : Int) y) = h := ⟨_, rfl⟩
     have HHD := Aside0.mk hhd
     rw [hhd] at hahr' hH36
     obtain ⟨_, ht0, _, _⟩ := Del.R_put HT.out (i := qb) (by omega)
     rw [hahr'] at ht0
     obtain ⟨hbs, hs0, hsf, hsp⟩ := Del.R_putS HN.out false (i := h) (by omega)
     have hh37 : (h : Int) < 37 := by omega
     generalize SN.getD h false = sb at hs0
     have HSP := Aside0.mk hsp
     clear hsp hMm hMq hRm hmem hxy0 hvm hy hx hp hbq hnq hnm hahr hahr' hkb hkl hqb hbok hhd hH36
     have TCL := Aside0.mk (⟨ht0, hs0, hsf, hgq⟩ : wr.cell? ⟨gt, qb, none⟩ = some (.int .i64 ((h : Int) + 1)) ∧ wr.cell? ⟨gs, h, none⟩ = some (.bool sb) ∧ wr.frozen? ⟨gs, h, none⟩ = false ∧ wr.heap[gq]? = some (.cells curq 3 (0, 0)))
     clear ht0 hs0 hsf hgq
     go_wp2
     have BZ : Below wr.heap.size wr wr.drew := below_drew (Below.refl _ _)
     refine start_ (n := 16) (S := fun w' => Below wr.heap.size wr w') (ds := [15]) #[false, false, false, false, false, false, false, false, false, false, false, false, false, false, false, false] (by kernel_rfl) rfl rfl BZ (fun hHeld => ?_)
     generalize wr.drew = we at BZ hHeld ⊢
     have hLq := blk_lt TCL.out.2.2.2
     have hLt := World.block_lt_of_cell? _ _ TCL.out.1
     refine pure_ (i := 0) (N := some 29) (v := ?_) (a' := ?_) #[true, false, false, false, false, false, false, false, false, false, false, false, false, false, false, false] rfl rfl (by kernel_rfl) (fun _ _ _ h => h) (Or.inl ⟨by rfl, ?_⟩) ?_ ?_
     rotate_left
     ·intro w'
      go_simp
      with_reducible rfl
     rotate_left
     ·simp only [Act.put, Lam.pa, Lam.pb, Lam.pc, i64_w, i32_w]
      rfl
     refine pure_ (i := 1) (N := some 30) (v := ?_) (a' := ?_) #[true, true, false, false, false, false, false, false, false, false, false, false, false, false, false, false] rfl rfl (by kernel_rfl) (fun _ _ _ h => h) (Or.inl ⟨by rfl, ?_⟩) ?_ ?_
     rotate_left
     ·intro w'
      go_simp
      with_reducible rfl
     rotate_left
     ·simp only [Act.put, Lam.pa, Lam.pb, Lam.pc, i64_w, i32_w]
      rfl
     refine pure_ (i := 2) (N := some 31) (v := ?_) (a' := ?_) #[true, true, true, false, false, false, false, false, false, false, false, false, false, false, false, false] rfl rfl (by kernel_rfl) (fun _ _ _ h => h) (Or.inl ⟨by rfl, ?_⟩) ?_ ?_
     rotate_left
     ·intro w'
      go_simp
      with_reducible rfl
     rotate_left
     ·simp only [Act.put, Lam.pa, Lam.pb, Lam.pc, i64_w, i32_w]
      rfl
     refine pure_ (i := 3) (N := some 32) (v := ?_) (a' := ?_) #[true, true, true, true, false, false, false, false, false, false, false, false, false, false, false, false] rfl rfl (by kernel_rfl) (fun _ _ _ h => h) (Or.inl ⟨by rfl, ?_⟩) ?_ ?_
     rotate_left
     ·intro w'
      go_simp
      with_reducible rfl
     rotate_left
     ·simp only [Act.put, Lam.pa, Lam.pb, Lam.pc, i64_w, i32_w]
      rfl
     refine pure_ (i := 4) (N := some 33) (v := ?_) (a' := ?_) #[true, true, true, true, true, false, false, false, false, false, false, false, false, false, false, false] rfl rfl (by kernel_rfl) (fun _ _ _ h => h) (Or.inl ⟨by rfl, ?_⟩) ?_ ?_
     rotate_left
     ·intro w'
      go_simp
      with_reducible rfl
     rotate_left
     ·simp only [Act.put, Lam.pa, Lam.pb, Lam.pc, i64_w, i32_w]
      rfl
     refine take_ (i := 5) (N := some 34) (v := ?_) (a' := ?_) #[true, true, true, true, true, true, false, false, false, false, false, false, false, false, false, false] rfl rfl (by kernel_rfl) (fun _ _ _ h => h) (Or.inl ⟨by rfl, ?_⟩) hHeld ?_ ?_
     rotate_left
     ·rintro w' s0
      have s1 := (blk_cell (blk_below TCL.out.2.2.2 s0) 0).trans HQ0.out
      go_simp
      with_reducible rfl
     rotate_left
     ·simp only [Act.put, Lam.pa, Lam.pb, Lam.pc, i64_w, i32_w]
      rfl
     refine pure_ (i := 6) (N := some 35) (v := ?_) (a' := ?_) #[true, true, true, true, true, true, true, false, false, false, false, false, false, false, false, false] rfl rfl (by kernel_rfl) (fun _ _ _ h => h) (Or.inl ⟨by rfl, ?_⟩) ?_ ?_
     rotate_left
     ·intro w'
      go_simp
      with_reducible rfl
     rotate_left
     ·simp only [Act.put, Lam.pa, Lam.pb, Lam.pc, i64_w, i32_w]
      rfl
     refine pure_ (i := 7) (N := some 36) (v := ?_) (a' := ?_) #[true, true, true, true, true, true, true, true, false, false, false, false, false, false, false, false] rfl rfl (by kernel_rfl) (fun _ _ _ h => h) (Or.inl ⟨by rfl, ?_⟩) ?_ ?_
     rotate_left
     ·intro w'
      go_simp
      with_reducible rfl
     rotate_left
     ·simp only [Act.put, Lam.pa, Lam.pb, Lam.pc, i64_w, i32_w]
      rfl
     refine take_ (i := 8) (N := some 37) (v := ?_) (a' := ?_) #[true, true, true, true, true, true, true, true, true, false, false, false, false, false, false, false] rfl rfl (by kernel_rfl) (fun _ _ _ h => h) (Or.inl ⟨by rfl, ?_⟩) hHeld ?_ ?_
     rotate_left
     ·rintro w' s0
      have s1 := (blk_cell (blk_below TCL.out.2.2.2 s0) 1).trans HQ1.out
      go_simp
      with_reducible rfl
     rotate_left
     ·simp only [Act.put, Lam.pa, Lam.pb, Lam.pc, i64_w, i32_w]
      rfl
     refine one_ (i := 9) (N := some 38) #[true, true, true, true, true, true, true, true, true, true, false, false, false, false, false, false] rfl rfl (by kernel_rfl) (by decide) (fun K hK => ?_)
     refine goes_ Tryd.func107 (by kernel_rfl) rfl #[.slice (some ⟨g0, 0, none⟩) r.length c0, .int .i64 (x : Int), .int .i64 (y : Int)] (by rfl) rfl rfl (by (try simp only [List.map_toArray, List.map_cons, List.map_nil]); first | done | rfl | (simp [Act.eval]; done)) ?_
     refine (HB2.out we ((hHeld.block g0 (by have := G0.out; have := HZ2.out; omega)).trans X0.out)).mono ?_
     rintro e w5 ⟨v5, rfl, ho5, hb5⟩
     obtain ⟨A5, c5, e5⟩ := Kd.R_slice ho5
     subst e5
     refine ⟨_, rfl, ?_⟩
     refine hK.out _ _ (below_step hHeld hb5) (fun hHeld => ?_)
     clear hK K
     refine norm_ (a' := ?_) ?_ ?_
     rotate_left
     ·show Act.put _ (some 38) _ = _
      simp only [Act.put, Lam.pa, Lam.pb, Lam.pc, i64_w, i32_w]
      rfl
     refine one_ (i := 10) (N := some 39) #[true, true, true, true, true, true, true, true, true, true, true, false, false, false, false, false] rfl rfl (by kernel_rfl) (by decide) (fun K hK => ?_)
     refine goes_ Tryd.func105 (by kernel_rfl) rfl #[.slice A5 (Chomp.bit r (x : Int) y).length c5] (by rfl) rfl rfl (by (try simp only [List.map_toArray, List.map_cons, List.map_nil]); first | done | rfl | (simp [Act.eval]; done)) ?_
     refine (HKB.out A5 c5 w5 (Kd.R_reads' ho5).2.2 (Kd.R_reads' ho5).2.1).mono ?_
     rintro e w6 ⟨rfl, hd6⟩
     refine ⟨_, rfl, ?_⟩
     refine hK.out _ _ (below_step hHeld hd6.below) (fun hHeld => ?_)
     clear hK K ho5 hb5 hd6 BZ
     refine norm_ (a' := ?_) ?_ ?_
     rotate_left
     ·show Act.put _ (some 39) _ = _
      simp only [Act.put, Lam.pa, Lam.pb, Lam.pc, i64_w, i32_w]
      rfl
     refine pure_ (i := 11) (N := some 40) (v := ?_) (a' := ?_) #[true, true, true, true, true, true, true, true, true, true, true, true, false, false, false, false] rfl rfl (by kernel_rfl) (fun _ _ _ h => h) (Or.inl ⟨by rfl, ?_⟩) ?_ ?_
     rotate_left
     ·intro w'
      go_simp
      with_reducible rfl
     rotate_left
     ·simp only [Act.put, Lam.pa, Lam.pb, Lam.pc, i64_w, i32_w]
      rfl
     refine take_ (i := 12) (N := some 41) (v := ?_) (a' := ?_) #[true, true, true, true, true, true, true, true, true, true, true, true, true, false, false, false] rfl rfl (by kernel_rfl) (fun _ _ _ h => h) (Or.inl ⟨by rfl, ?_⟩) hHeld ?_ ?_
     rotate_left
     ·rintro w' s0
      have s1 := (s0.cell hLt).trans TCL.out.1
      go_simp
      with_reducible rfl
     rotate_left
     ·simp only [Act.put, Lam.pa, Lam.pb, Lam.pc, i64_w, i32_w]
      rfl
     refine pure_ (i := 13) (N := some 42) (v := .int .i64 (h : Int)) (a' := ?_) #[true, true, true, true, true, true, true, true, true, true, true, true, true, true, false, false] rfl rfl (by kernel_rfl) (fun _ _ _ h => h) (Or.inl ⟨by rfl, ?_⟩) ?_ ?_
     ·intro w'
      have e9 : wrap64 ((h : Int) + 1 - 1) = (h : Int) := by rw [PK.wrap_in (by omega) (by omega)]; omega
      have e8 : ((h : Int) + 1 - 1) = (h : Int) := by omega
      go_simp
      rw [i64_w]; exact PK.wrap_in (by omega) (by omega)
     rotate_left
     ·simp only [Act.put, Lam.pa, Lam.pb, Lam.pc, i64_w, i32_w]
      rfl
     refine pure_ (i := 14) (N := some 43) (v := ?_) (a' := ?_) #[true, true, true, true, true, true, true, true, true, true, true, true, true, true, true, false] rfl rfl (by kernel_rfl) (fun _ _ _ h => h) (Or.inl ⟨by rfl, ?_⟩) ?_ ?_
     rotate_left
     ·intro w'
      go_simp
      with_reducible rfl
     rotate_left
     ·simp only [Act.put, Lam.pa, Lam.pb, Lam.pc, i64_w, i32_w]
      rfl
     have hLs := World.block_lt_of_cell? _ _ TCL.out.2.1
     have y0 : w6.cell? ⟨gs, h, none⟩ = some (.bool sb) := (hHeld.cell hLs).trans TCL.out.2.1
     have y1 : w6.frozen? ⟨gs, h, none⟩ = false := by
      have h9 := TCL.out.2.2.1
      unfold World.frozen? at h9 ⊢
      rw [hHeld.block gs hLs]
      exact h9
     refine last_ (i := 15) (N := none) #[true, true, true, true, true, true, true, true, true, true, true, true, true, true, true, true] rfl rfl (by kernel_rfl) (by decide) (fun K hK => ?_)
     refine skip_ (w1 := w6.setCell ⟨gs, h, none⟩ (.bool true)) (by rfl) rfl ?hrun ?_
     case hrun =>
      go_simp
     refine hK.out _ _ ?_
     clear hK K
     refine done_ (by kernel_rfl) ?_
     have BW := Aside0.mk hHeld
     have N9 := Aside0.mk (Kd.R_below HN.out hHeld)
     obtain ⟨_, _, _, hsp⟩ := Del.R_putS N9.out false (i := h) (by omega)
     have N10 := Aside0.mk (hsp true).1
     clear hsp hHeld y0 y1 hLq hLt
     have hne : ∀ g, g < w2.heap.size → g ≠ gs := fun g hg he => by have := GS.out; have := HZ.out; omega
     have HNE := Aside0.mk hne
     have LSS := Aside0.mk hLs
     clear hne hLs
     go_wp2
     go_roundg (M.length - (jj + 1))
     case measure => omega
     case rel =>
      refine ⟨jj + 1, _, by omega, by omega, by go_num, ⟨spec_cmHeaps.seen_step HSN.out hlt2 (by omega) (by rw [HXY.out]; exact HHD.out)⟩, N10, ⟨Kd.R_far (p := ⟨gs, h, none⟩) (Kd.R_below HT.out BW.out) (fun k hk => ?_) _⟩, ⟨Kd.S_far (p := ⟨gs, h, none⟩) (Kd.S_below HS.out BW.out) (fun k hk => HNE.out k hk.2) _⟩, ⟨Kd.S_far (p := ⟨gs, h, none⟩) (Kd.S_below HMS.out BW.out) (fun k hk => ?_) _⟩, ⟨below_set (g := gs) (below_step HB.out BW.out) (Nat.le_trans (Nat.le_trans B1.out.size Z12.out) (Nat.le_trans HZ.out GS.out))⟩, ⟨?_⟩, ⟨?_⟩⟩
      ·have : k = gt := by simpa [Value.ownBlock] using hk
       rw [this]
       exact HNE.out gt (Nat.lt_of_lt_of_le LT.out Z12.out)
      ·show k ≠ gs
       have := LS.out; omega
      ·rw [Below.heap_setCell _ ⟨gs, h, none⟩ _ g0 (HNE.out g0 G0.out.2), BW.out.block g0 (by have := G0.out; have := HZ2.out; omega)]
       exact X0.out
      ·have := BW.out.size; have := HZ2.out; simp [World.setCell]; omega
    ·have hltz2 : ¬ (jj : Int) < (M.length : Int) := by omega
     obtain rfl : jj = M.length := by omega
     clear HMS
     have HSM := Aside0.mk (show ∀ i : Nat, i < 37 → SN.getD i false = decide ((i : Int) ∈ M.map (fun m => (Chomp.H (Chomp.bit r (m.getD 0 0) (m.getD 1 0).toNat) : Int))) from fun i hi => by have := HSN.out.2 i hi; rwa [List.take_length] at this)
     clear HSN
     go_wp2
     obtain ⟨wz, hwz⟩ : ∃ wz, wz = wr := ⟨wr, rfl⟩
     subst hwz
     go_loopg [11] 37 (fun gg3 s11 wy => ∃ hh : Nat, 37 - hh ≤ gg3 ∧ s11 = .int .i64 hh ∧ hh < 37 ∧ Aside0 (∀ j : Nat, j < hh → (j : Int) ∈ M.map (fun m => (Chomp.H (Chomp.bit r (m.getD 0 0) (m.getD 1 0).toNat) : Int))) ∧ wy = wz)
     case atStart => exact ⟨0, by omega, rfl, by omega, ⟨fun j hj => absurd hj (Nat.not_lt_zero _)⟩, rfl⟩
     case round =>
      obtain ⟨hh, hgg3, rfl, hh37, HIN, hwy⟩ := hrel
      subst hwy
      obtain ⟨_, hs0, _, _⟩ := Del.R_putS HN.out false (i := hh) hh37
      rw [HSM.out hh hh37] at hs0
      have hh37z : (hh : Int) < 37 := by omega
      by_cases hin : (hh : Int) ∈ M.map (fun m => (Chomp.H (Chomp.bit r (m.getD 0 0) (m.getD 1 0).toNat) : Int))
      ·rw [decide_eq_true hin] at hs0
       have HIN2 := Aside0.mk hin
       clear hin
       have h36 : hh + 1 < 37 := by
        have h1 := Chomp.mex_spec (M.map (fun m => (Chomp.H (Chomp.bit r (m.getD 0 0) (m.getD 1 0).toNat) : Int)))
        rw [← HH.out] at h1
        have h2 := HH36.out
        rcases Nat.lt_trichotomy hh (Chomp.H r) with h | h | h
        ·omega
        ·rw [h] at HIN2; exact absurd HIN2.out h1.1
        ·exact absurd (HIN.out _ h) h1.1
       go_wp2
       go_roundg (37 - (hh + 1))
       case measure => omega
       case rel =>
        exact ⟨hh + 1, by omega, by go_num, h36, ⟨fun j hj => by
         by_cases e : j = hh
         ·rw [e]; exact HIN2.out
         ·exact HIN.out j (by omega)⟩, rfl⟩
      ·rw [decide_eq_false hin] at hs0
       have HMX := Aside0.mk (show hh = Chomp.H r by rw [HH.out]; exact Chomp.mex_is hin HIN.out)
       clear hin HIN
       obtain ⟨hbt, ht0, htf, htp⟩ := Del.R_put HT.out (i := q) (by omega)
       generalize (All.tab (L.take kk)).getD q 0 = tq at ht0
       have HTP := Aside0.mk htp
       have HBT2 := Aside0.mk hbt
       have KC := Aside0.mk ht0
       have KF := Aside0.mk htf
       clear htp hbt ht0 htf
       go_wp2_with (go_at_call 105; go_loud (refine (HKY.out _ X0.out).mono ?_; rintro e w7 ⟨rfl, hd⟩; have W7 := Aside0.mk hd.below; clear hd; have ht1 : w7.cell? ⟨gt, q, none⟩ = some (.int .i64 tq) := (W7.out.cell (World.block_lt_of_cell? _ _ KC.out)).trans KC.out; have htf1 : w7.frozen? ⟨gt, q, none⟩ = false := (by have h9 := KF.out; unfold World.frozen? at h9 ⊢; rw [W7.out.block gt (World.block_lt_of_cell? _ _ KC.out)]; exact h9)))
       go_roundg (L.length - (kk + 1))
       case measure => omega
       case rel =>
        obtain ⟨_, _, _, hput⟩ := Del.R_put (Kd.R_below HT.out W7.out) (i := q) (by omega)
        refine ⟨kk + 1, by omega, by omega, by go_num, ⟨?_⟩, ⟨Kd.S_far (p := ⟨gt, q, none⟩) (Kd.S_below HS.out W7.out) (fun k hk => ?_) _⟩, ⟨below_set (g := gt) (below_step HB.out W7.out) GT.out⟩, ⟨?_⟩⟩
        ·have h1 := (hput ((hh : Int) + 1)).1
         have e1 : All.tab (L.take (kk + 1)) = (All.tab (L.take kk)).set q ((hh : Int) + 1) := by
          rw [spec_cmHeaps.take_snoc LEN.out, All.tab_snoc, HRK.out]
          unfold All.step
          rw [HQ.out, Int.toNat_natCast, HMX.out]
         rw [e1]
         exact h1
        ·show k ≠ gt
         have := LT.out; have := hk.1; omega
        ·have := W7.out.size; have := HZ2.out; simp [World.setCell]; omega
  ·have hltz : ¬ (kk : Int) < (L.length : Int) := by omega
   obtain rfl : kk = L.length := by omega
   have ho := HT.out
   rw [List.take_length] at ho
   have HO := Aside0.mk (Kd.R_mono ho (fun _ _ => trivial) : Kd.R (Kd.int .i64) 3 wr w.heap.size (fun _ => True) _ _)
   clear ho
   go_wp2
   go_ret
   exact ⟨_, rfl, HO.out, HB.out⟩

/-! ### spec_pzHeaps: function 45 -/
def spec_pzHeaps.f  : Option (List Int) := (spec_cmHeaps.f 5 4).bind fun t133 => (some t133)
set_option maxHeartbeats 8000000 in
set_option maxRecDepth 100000 in
theorem spec_pzHeaps.calls  (r : List Int) (w : World) (h : spec_pzHeaps.f  = some r) :
  Calls Tryd.prog 45 #[] w fun e w' => ∃ v0_ : Value, e = .returned (v0_) ∧ Kd.R (Kd.int .i64) 3 w' w.heap.size (fun _ => True) v0_ r ∧ Below w.heap.size w w' := by
 have HB := Aside0.mk (Below.refl w.heap.size w)
 have H : ((spec_cmHeaps.f 5 4).bind fun t133 => (some t133)) = some r := h
 clear h
 replace H := Option.bind_eq_some_iff.mp H
 obtain ⟨t133, A10, H⟩ := H
 replace H : (some t133) = some r := H
 have A1 := Aside0.mk A10
 clear A10
 obtain rfl := Option.some.inj H
 go_enter Tryd.func45, Tryd.ntmps45
 go_wp2_with (first | ((with_reducible refine gate_callee (f := 78) rfl ?_); refine goesL_ (some 1) rfl rfl Tryd.func78 (by kernel_rfl) rfl #[.int .i64 5, .int .i64 4] rfl (by (try simp only [List.map_toArray, List.map_cons, List.map_nil]); first | done | rfl | (simp only [List.length_drop, List.length_take]; rfl)) ?_; (with_reducible refine (spec_cmHeaps.calls 5 4 t133 _ A1.out).mono ?_); rintro e w2 ⟨v134, rfl, ho0, hb⟩; refine ⟨_, rfl, ?_⟩; have n0_ := Aside0.mk (Kd.R_lower ho0 (below_size (Lam.al))); have n1_ := Aside0.mk (below_step (Lam.al) hb); clear HB; have HO135 := n0_; have HB := n1_; clear n0_ n1_; (try clear hb); (try clear hb2); (try clear hk); (try clear hi); (try clear ho0)))
 go_ret
 exact ⟨_, by first | rfl | (simp [errW_none, errW_some] <;> rfl) | (simp [*, errW_none, errW_some] <;> rfl), by (with_reducible repeat (first | apply Kd.R_alloc | apply Kd.R_drewN | apply Kd.R_drew)); exact HO135.out, Lam.al⟩

/-! ### spec_cmSum: function 104 -/
def spec_cmSum.l0 : Nat → Int → List Int → Int → Int → Option (Int)
 | 0, _, _, _, _ => none
 | k + 1, x3, x6, x7, x8 => if x8 < x7 then (if 0 ≤ x8 then (if x8 < (x6.length : Int) then (spec_cmSum.l0 k (wrap64 (x3 + (rd x6 x8))) x6 x7 (wrap64 (x8 + 1))) else (none)) else (none)) else (some x3)
def spec_cmSum.f (k : Nat) (l0 : List Int) : Option (Int) := spec_cmSum.l0 k 0 l0 (l0.length : Int) 0
theorem spec_cmSum.mono_l : ∀ k, (∀ y0 y1 y2 y3, LeO (spec_cmSum.l0 k y0 y1 y2 y3) (spec_cmSum.l0 (k + 1) y0 y1 y2 y3))
 | 0 => fun _ _ _ _ r h => by simp [spec_cmSum.l0] at h
 | k + 1 => by
  have ih0 := spec_cmSum.mono_l k
  ·intro y0 y1 y2 y3
   unfold spec_cmSum.l0
   repeat' first
   | (with_reducible exact ih0 _ _ _ _)
   | (with_reducible exact LeO.refl _)
   | (with_reducible exact LeO.none _)
   | (with_reducible refine LeO.ite ?_ ?_)
   | (with_reducible refine LeO.bind ?_ (fun _ => ?_))
   | exact ih0 _ _ _ _
   | exact LeO.none _
   | refine LeO.ite ?_ ?_
   | refine LeO.bind ?_ (fun _ => ?_)
theorem spec_cmSum.mono : ∀ a0 k, LeO (spec_cmSum.f k a0) (spec_cmSum.f (k + 1) a0) := by
 intro a0 k
 have ih0 := spec_cmSum.mono_l k
 unfold spec_cmSum.f
 repeat' first
   | (with_reducible exact ih0 _ _ _ _)
   | (with_reducible exact LeO.refl _)
   | (with_reducible exact LeO.none _)
   | (with_reducible refine LeO.ite ?_ ?_)
   | (with_reducible refine LeO.bind ?_ (fun _ => ?_))
   | exact ih0 _ _ _ _
   | exact LeO.none _
   | refine LeO.ite ?_ ?_
   | refine LeO.bind ?_ (fun _ => ?_)
set_option maxHeartbeats 8000000 in
set_option maxRecDepth 100000 in
theorem spec_cmSum.calls (k : Nat) (A0 : Option Addr) (c0 : Nat) (l0 : List Int) (r : Int) (w : World) (hr0 : Kd.C (Kd.int .i64) w A0 l0.length l0) (hc0 : l0.length ≤ c0) (h : spec_cmSum.f k l0 = some r) :
  Calls Tryd.prog 104 #[.slice A0 l0.length c0] w fun e w' => e = .returned (.int .i64 r) ∧ Drawn0 w w' := by
 have HR0 := Aside0.mk hr0
 have HC0 := Aside0.mk hc0
 clear hr0 hc0
 have H : (spec_cmSum.l0 k 0 l0 (l0.length : Int) 0) = some r := h
 clear h
 have H' := Aside0.mk H
 clear H
 go_enter Tryd.func104, Tryd.ntmps104
 go_wp2
 go_loopg [3, 8] k (fun kq v3 v8 w' => ∃ (x3_1 : Int) (x8_1 : Int), v3 = .int .i64 x3_1 ∧ v8 = .int .i64 x8_1 ∧ Aside0 (spec_cmSum.l0 kq x3_1 l0 (l0.length : Int) x8_1 = some r) ∧ Aside0 (kq ≤ k) ∧ Drawn0 w w')
 case atStart => exact ⟨(0), (0), (by first | rfl | (simp; done) | (simp [*]; done)), (by first | rfl | (simp; done) | (simp [*]; done)), H', ⟨Nat.le_refl _⟩, by repeat (first | exact Drawn0.refl _ | apply Drawn0.step)⟩
 case round =>
  clear H'
  try clear c1
  obtain ⟨x3_1, x8_1, rfl, rfl, HA, HK1, ⟨m1, rfl⟩⟩ := hrel
  cases gk with
  | zero => exact absurd HA.out (by simp [spec_cmSum.l0])
  | succ k1 =>
   have H := HA.out
   clear HA
   simp only [spec_cmSum.l0] at H
   by_cases c2 : x8_1 < (l0.length : Int)
   ·rw [if_pos c2] at H
    have c2b0 : decide (x8_1 < (l0.length : Int)) = true := decide_eq_true c2
    clear c2
    by_cases c3 : 0 ≤ x8_1
    ·rw [if_pos c3] at H
     have c3b0 : decide (0 ≤ x8_1) = true := decide_eq_true c3
     clear c3
     by_cases c4 : x8_1 < (l0.length : Int)
     ·rw [if_pos c4] at H
      have c4b0 : decide (x8_1 < (l0.length : Int)) = true := decide_eq_true c4
      clear c4
      have H' := Aside0.mk H
      clear H
      have p136 : 0 ≤ (x8_1 : Int) := of_decide_eq_true (by first | (with_reducible assumption) | assumption)
      have q136 : x8_1 < (l0.length : Int) := of_decide_eq_true (by first | (with_reducible assumption) | assumption)
      obtain ⟨ad136, e136, hx136_0⟩ := Kd.at_int HR0.out x8_1 p136 q136
      cases e136
      replace p136 := eq_true p136
      replace q136 := eq_true q136
      go_wp2
      go_roundg k1
      case measure => have := HK1.out; omega
      case rel => exact ⟨(wrap64 (x3_1 + (rd l0 x8_1))), (wrap64 (x8_1 + 1)), (by first | rfl | (simp; done) | (simp [*]; done)), (by first | rfl | (simp; done) | (simp [*]; done)), H', ⟨by have := HK1.out; omega⟩, by repeat (first | exact Drawn0.refl _ | apply Drawn0.step)⟩
     ·rw [if_neg c4] at H
      exact absurd H (by simp)
    ·rw [if_neg c3] at H
     exact absurd H (by simp)
   ·rw [if_neg c2] at H
    have c2b0 : decide (x8_1 < (l0.length : Int)) = false := decide_eq_false c2
    clear c2
    obtain rfl := Option.some.inj H
    go_wp2
    go_ret
    exact ⟨by first | rfl | (simp; done) | (simp [*]; done), by repeat (first | exact Drawn0.refl _ | apply Drawn0.step)⟩

end Go.Proofs.YtdikeggkfkkajaaDoor.PFnExactSolutions
