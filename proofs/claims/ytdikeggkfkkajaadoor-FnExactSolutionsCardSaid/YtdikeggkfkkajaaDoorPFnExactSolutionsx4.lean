-- Made by a program of this session (wip/xprint.py) out of the translation.
import Derived.Test.YtdikeggkfkkajaaDoorPFnExactSolutionsx0
import Derived.Test.YtdikeggkfkkajaaDoorPFnExactSolutionsx1
import Derived.Test.YtdikeggkfkkajaaDoorPFnExactSolutionsx2
import Derived.Test.YtdikeggkfkkajaaDoorPFnExactSolutionsx3
namespace Go.Proofs.YtdikeggkfkkajaaDoor.PFnExactSolutions
open Go.RowKit Go.Proofs.YtdikeggkfkkajaaDoorW.PrintWords Go.Proofs.YtdikeggkfkkajaaDoorW.PrintLast Go.Proofs.YtdikeggkfkkajaaDoorW.PrintMore
attribute [local go_sem] max2_int min2_int max_two min_two max_three min_three max_four min_four   -- for this text's walks alone
set_option linter.unusedVariables false
set_option linter.unusedSimpArgs false

/-! ### spec_pzValue: function 66 -/
mutual
def spec_pzValue.l0 : Nat → Int → Int → List Int → Int → Int → Option (Int)
 | 0, _, _, _, _, _ => none
 | k + 1, x1, x9, x70, x71, x72 => if x72 < x71 then (if 0 ≤ x72 then (if x72 < (x70.length : Int) then (if (rd x70 x72) > x1 then (spec_pzValue.l0 k x1 (wrap64 (x9 + 1)) x70 x71 (wrap64 (x72 + 1))) else (spec_pzValue.l0 k x1 x9 x70 x71 (wrap64 (x72 + 1)))) else (none)) else (none)) else (some x9)
def spec_pzValue.l1 : Nat → List Int → List Int → Int → List (List Int) → Int → Int → Option (Int)
 | 0, _, _, _, _, _, _ => none
 | k + 1, x2, x3, x9, x16, x17, x18 => if x18 < x17 then (if 0 ≤ x18 then (if x18 < (x16.length : Int) then (if 0 < ((rd_L3 x16 x18).length : Int) then (if 1 < ((rd_L3 x16 x18).length : Int) then ((spec_cmBite.f k x2 (rd (rd_L3 x16 x18) 0) (rd (rd_L3 x16 x18) 1)).bind fun t150 => ((spec_cmKey.f k t150).bind fun t153 => (if 0 ≤ t153 then (if t153 < (x3.length : Int) then (if (rd x3 t153) = 1 then (spec_pzValue.l1 k x2 x3 (wrap64 (x9 + 1)) x16 x17 (wrap64 (x18 + 1))) else (spec_pzValue.l1 k x2 x3 x9 x16 x17 (wrap64 (x18 + 1)))) else (none)) else (none)))) else (none)) else (none)) else (none)) else (none)) else (some x9)
end
def spec_pzValue.f (k : Nat) (a0 : Int) (a1 : Int) (l2 : List Int) (l3 : List Int) : Option (Int) := if a0 = 0 then ((spec_cmSum.f k l2).bind fun t137 => (some t137)) else (if a0 = 1 then (if a1 < (l2.length : Int) then (if 0 ≤ a1 then (some (rd l2 a1)) else (none)) else (some 0)) else (if a0 = 2 then ((spec_cmKey.f k l2).bind fun t139 => (if 0 ≤ t139 then (if t139 < (l3.length : Int) then (if (rd l3 t139) > 1 then (some 1) else (some 0)) else (none)) else (none))) else (if a0 = 3 then ((spec_cmKey.f k l2).bind fun t141 => (if 0 ≤ t141 then (if t141 < (l3.length : Int) then (some (wrap64 ((rd l3 t141) - 1))) else (none)) else (none))) else (if a0 = 4 then (spec_pzValue.l0 k a1 0 l2 (l2.length : Int) 0) else ((spec_cmMoves.f k l2).bind fun t144 => (spec_pzValue.l1 k l2 l3 0 t144 (t144.length : Int) 0))))))
theorem spec_pzValue.mono_l : ∀ k, (∀ y0 y1 y2 y3 y4, LeO (spec_pzValue.l0 k y0 y1 y2 y3 y4) (spec_pzValue.l0 (k + 1) y0 y1 y2 y3 y4)) ∧ (∀ y0 y1 y2 y3 y4 y5, LeO (spec_pzValue.l1 k y0 y1 y2 y3 y4 y5) (spec_pzValue.l1 (k + 1) y0 y1 y2 y3 y4 y5))
 | 0 => ⟨fun _ _ _ _ _ r h => by simp [spec_pzValue.l0] at h, fun _ _ _ _ _ _ r h => by simp [spec_pzValue.l1] at h⟩
 | k + 1 => by
  obtain ⟨ih0, ih1⟩ := spec_pzValue.mono_l k
  refine ⟨?_, ?_⟩
  ·intro y0 y1 y2 y3 y4
   unfold spec_pzValue.l0
   repeat' first
   | (with_reducible exact ih0 _ _ _ _ _)
   | (with_reducible exact ih1 _ _ _ _ _ _)
   | (with_reducible exact spec_cmBite.mono _ _ _ _)
   | (with_reducible exact spec_cmKey.mono _ _)
   | (with_reducible exact spec_cmMoves.mono _ _)
   | (with_reducible exact spec_cmSum.mono _ _)
   | (with_reducible exact LeO.refl _)
   | (with_reducible exact LeO.none _)
   | (with_reducible refine LeO.ite ?_ ?_)
   | (with_reducible refine LeO.bind ?_ (fun _ => ?_))
   | exact ih0 _ _ _ _ _
   | exact ih1 _ _ _ _ _ _
   | exact spec_cmBite.mono _ _ _ _
   | exact spec_cmKey.mono _ _
   | exact spec_cmMoves.mono _ _
   | exact spec_cmSum.mono _ _
   | exact LeO.none _
   | refine LeO.ite ?_ ?_
   | refine LeO.bind ?_ (fun _ => ?_)
  ·intro y0 y1 y2 y3 y4 y5
   unfold spec_pzValue.l1
   repeat' first
   | (with_reducible exact ih0 _ _ _ _ _)
   | (with_reducible exact ih1 _ _ _ _ _ _)
   | (with_reducible exact spec_cmBite.mono _ _ _ _)
   | (with_reducible exact spec_cmKey.mono _ _)
   | (with_reducible exact spec_cmMoves.mono _ _)
   | (with_reducible exact spec_cmSum.mono _ _)
   | (with_reducible exact LeO.refl _)
   | (with_reducible exact LeO.none _)
   | (with_reducible refine LeO.ite ?_ ?_)
   | (with_reducible refine LeO.bind ?_ (fun _ => ?_))
   | exact ih0 _ _ _ _ _
   | exact ih1 _ _ _ _ _ _
   | exact spec_cmBite.mono _ _ _ _
   | exact spec_cmKey.mono _ _
   | exact spec_cmMoves.mono _ _
   | exact spec_cmSum.mono _ _
   | exact LeO.none _
   | refine LeO.ite ?_ ?_
   | refine LeO.bind ?_ (fun _ => ?_)
theorem spec_pzValue.mono : ∀ a0 a1 a2 a3 k, LeO (spec_pzValue.f k a0 a1 a2 a3) (spec_pzValue.f (k + 1) a0 a1 a2 a3) := by
 intro a0 a1 a2 a3 k
 obtain ⟨ih0, ih1⟩ := spec_pzValue.mono_l k
 unfold spec_pzValue.f
 repeat' first
   | (with_reducible exact ih0 _ _ _ _ _)
   | (with_reducible exact ih1 _ _ _ _ _ _)
   | (with_reducible exact spec_cmBite.mono _ _ _ _)
   | (with_reducible exact spec_cmKey.mono _ _)
   | (with_reducible exact spec_cmMoves.mono _ _)
   | (with_reducible exact spec_cmSum.mono _ _)
   | (with_reducible exact LeO.refl _)
   | (with_reducible exact LeO.none _)
   | (with_reducible refine LeO.ite ?_ ?_)
   | (with_reducible refine LeO.bind ?_ (fun _ => ?_))
   | exact ih0 _ _ _ _ _
   | exact ih1 _ _ _ _ _ _
   | exact spec_cmBite.mono _ _ _ _
   | exact spec_cmKey.mono _ _
   | exact spec_cmMoves.mono _ _
   | exact spec_cmSum.mono _ _
   | exact LeO.none _
   | refine LeO.ite ?_ ?_
   | refine LeO.bind ?_ (fun _ => ?_)
def spec_pzValue.T6 : Bool × List (List Nat × List Nat) := (true, [([], []), ([], []), ([], []), ([2], [2]), ([3], [3]), ([], []), ([5], [5]), ([6], [6]), ([1, 4, 7], [1, 4, 7]), ([8, 8], [8]), ([0, 9], [0, 9]), ([10], [10]), ([11], [11])])
def spec_pzValue.B6 : List Nat := [0, 0, 0, 4, 12, 0, 32, 96, 254, 510, 1023, 2047, 4095]
theorem spec_pzValue.tab6 : rtab .any (opsOf Tryd.f66 6) = spec_pzValue.T6 := by kernel_rfl
theorem spec_pzValue.bits6 : waitsOk spec_pzValue.T6.2 spec_pzValue.B6 = true := by kernel_rfl
set_option maxHeartbeats 8000000 in
set_option maxRecDepth 100000 in
theorem spec_pzValue.calls (k : Nat) (a0 : Int) (a1 : Int) (A2 : Option Addr) (c2 : Nat) (l2 : List Int) (A3 : Option Addr) (c3 : Nat) (l3 : List Int) (r : Int) (w : World) (hr2 : Kd.C (Kd.int .i64) w A2 l2.length l2) (hc2 : l2.length ≤ c2) (hr3 : Kd.C (Kd.int .i64) w A3 l3.length l3) (hc3 : l3.length ≤ c3) (h : spec_pzValue.f k a0 a1 l2 l3 = some r) :
  Calls Tryd.prog 66 #[.int .i64 a0, .int .i64 a1, .slice A2 l2.length c2, .slice A3 l3.length c3] w fun e w' => e = .returned (.int .i64 r) ∧ Below w.heap.size w w' := by
 have HR2 := Aside0.mk hr2
 have HC2 := Aside0.mk hc2
 clear hr2 hc2
 have HR3 := Aside0.mk hr3
 have HC3 := Aside0.mk hc3
 clear hr3 hc3
 have HB := Aside0.mk (Below.refl w.heap.size w)
 have H : (if a0 = 0 then ((spec_cmSum.f k l2).bind fun t137 => (some t137)) else (if a0 = 1 then (if a1 < (l2.length : Int) then (if 0 ≤ a1 then (some (rd l2 a1)) else (none)) else (some 0)) else (if a0 = 2 then ((spec_cmKey.f k l2).bind fun t139 => (if 0 ≤ t139 then (if t139 < (l3.length : Int) then (if (rd l3 t139) > 1 then (some 1) else (some 0)) else (none)) else (none))) else (if a0 = 3 then ((spec_cmKey.f k l2).bind fun t141 => (if 0 ≤ t141 then (if t141 < (l3.length : Int) then (some (wrap64 ((rd l3 t141) - 1))) else (none)) else (none))) else (if a0 = 4 then (spec_pzValue.l0 k a1 0 l2 (l2.length : Int) 0) else ((spec_cmMoves.f k l2).bind fun t144 => (spec_pzValue.l1 k l2 l3 0 t144 (t144.length : Int) 0))))))) = some r := h
 clear h
 by_cases c5 : a0 = 0
 ·rw [if_pos c5] at H
  have c5b0 : (a0 == 0) = true := beq_iff_eq.mpr c5
  have c5b1 : (a0 != 0) = false := bne_eq_false_iff_eq.mpr c5
  clear c5
  replace H := Option.bind_eq_some_iff.mp H
  obtain ⟨t137, A60, H⟩ := H
  replace H : (some t137) = some r := H
  have A6 := Aside0.mk A60
  clear A60
  obtain rfl := Option.some.inj H
  go_enter Tryd.func66, Tryd.ntmps66
  go_wp2_with (first | ((with_reducible refine gate_callee (f := 104) rfl ?_); refine goesL_ (some 41) rfl rfl Tryd.func104 (by kernel_rfl) rfl #[.slice A2 l2.length c2] rfl (by (try simp only [List.map_toArray, List.map_cons, List.map_nil]); first | done | rfl | (simp only [List.length_drop, List.length_take]; rfl)) ?_; (with_reducible refine (spec_cmSum.calls k _ _ l2 t137 _ ?side1 ?side2 A6.out).mono ?_); (case side1 => repeat (first | exact HR2.out | (with_reducible refine Kd.C_alloc ?_ _) | (with_reducible refine Kd.C_drewN ?_ _) | (with_reducible refine Kd.C_drew ?_))); (case side2 => exact HC2.out); rintro e w' ⟨rfl, ⟨nd, rfl⟩⟩; refine ⟨_, rfl, ?_⟩))
  go_ret
  exact ⟨by first | rfl | (simp [errW_none, errW_some] <;> rfl) | (simp [*, errW_none, errW_some] <;> rfl), Lam.al⟩
 ·rw [if_neg c5] at H
  have c5b0 : (a0 == 0) = false := beq_eq_false_iff_ne.mpr c5
  have c5b1 : (a0 != 0) = true := bne_iff_ne.mpr c5
  by_cases c7 : a0 = 1
  ·rw [if_pos c7] at H
   have c7b0 : (a0 == 1) = true := beq_iff_eq.mpr c7
   have c7b1 : (a0 != 1) = false := bne_eq_false_iff_eq.mpr c7
   clear c7
   by_cases c8 : a1 < (l2.length : Int)
   ·rw [if_pos c8] at H
    have c8b0 : decide (a1 < (l2.length : Int)) = true := decide_eq_true c8
    clear c8
    by_cases c9 : 0 ≤ a1
    ·rw [if_pos c9] at H
     have c9b0 : decide (0 ≤ a1) = true := decide_eq_true c9
     clear c9
     obtain rfl := Option.some.inj H
     have p138 : 0 ≤ (a1 : Int) := of_decide_eq_true (by first | (with_reducible assumption) | assumption)
     have q138 : a1 < (l2.length : Int) := of_decide_eq_true (by first | (with_reducible assumption) | assumption)
     obtain ⟨ad138, e138, hx138_0⟩ := Kd.at_int HR2.out a1 p138 q138
     cases e138
     replace p138 := eq_true p138
     replace q138 := eq_true q138
     go_enter Tryd.func66, Tryd.ntmps66
     go_wp2
     go_ret
     exact ⟨by first | rfl | (simp [errW_none, errW_some] <;> rfl) | (simp [*, errW_none, errW_some] <;> rfl), Lam.al⟩
    ·rw [if_neg c9] at H
     exact absurd H (by simp)
   ·rw [if_neg c8] at H
    have c8b0 : decide (a1 < (l2.length : Int)) = false := decide_eq_false c8
    clear c8
    obtain rfl := Option.some.inj H
    go_enter Tryd.func66, Tryd.ntmps66
    go_wp2
    go_ret
    exact ⟨by first | rfl | (simp [errW_none, errW_some] <;> rfl) | (simp [*, errW_none, errW_some] <;> rfl), Lam.al⟩
  ·rw [if_neg c7] at H
   have c7b0 : (a0 == 1) = false := beq_eq_false_iff_ne.mpr c7
   have c7b1 : (a0 != 1) = true := bne_iff_ne.mpr c7
   by_cases c10 : a0 = 2
   ·rw [if_pos c10] at H
    have c10b0 : (a0 == 2) = true := beq_iff_eq.mpr c10
    have c10b1 : (a0 != 2) = false := bne_eq_false_iff_eq.mpr c10
    clear c10
    replace H := Option.bind_eq_some_iff.mp H
    obtain ⟨t139, A110, H⟩ := H
    replace H : (if 0 ≤ t139 then (if t139 < (l3.length : Int) then (if (rd l3 t139) > 1 then (some 1) else (some 0)) else (none)) else (none)) = some r := H
    have A11 := Aside0.mk A110
    clear A110
    by_cases c12 : 0 ≤ t139
    ·rw [if_pos c12] at H
     have c12b0 : decide (0 ≤ t139) = true := decide_eq_true c12
     clear c12
     by_cases c13 : t139 < (l3.length : Int)
     ·rw [if_pos c13] at H
      have c13b0 : decide (t139 < (l3.length : Int)) = true := decide_eq_true c13
      clear c13
      by_cases c14 : (rd l3 t139) > 1
      ·rw [if_pos c14] at H
       have c14b0 : decide (1 < (rd l3 t139)) = true := decide_eq_true c14
       clear c14
       obtain rfl := Option.some.inj H
       go_enter Tryd.func66, Tryd.ntmps66
       go_wp2_with (first | ((with_reducible refine gate_callee (f := 105) rfl ?_); refine goesL_ (some 56) rfl rfl Tryd.func105 (by kernel_rfl) rfl #[.slice A2 l2.length c2] rfl (by (try simp only [List.map_toArray, List.map_cons, List.map_nil]); first | done | rfl | (simp only [List.length_drop, List.length_take]; rfl)) ?_; (with_reducible refine (spec_cmKey.calls k _ _ l2 t139 _ ?side1 ?side2 A11.out).mono ?_); (case side1 => repeat (first | exact HR2.out | (with_reducible refine Kd.C_alloc ?_ _) | (with_reducible refine Kd.C_drewN ?_ _) | (with_reducible refine Kd.C_drew ?_))); (case side2 => exact HC2.out); rintro e w' ⟨rfl, ⟨nd, rfl⟩⟩; refine ⟨_, rfl, ?_⟩; have p140 : 0 ≤ (t139 : Int) := of_decide_eq_true (by first | (with_reducible assumption) | assumption); have q140 : t139 < (l3.length : Int) := of_decide_eq_true (by first | (with_reducible assumption) | assumption); obtain ⟨ad140, e140, hx140_0⟩ := Kd.at_int HR3.out t139 p140 q140; cases e140; replace p140 := eq_true p140; replace q140 := eq_true q140))
       go_ret
       exact ⟨by first | rfl | (simp [errW_none, errW_some] <;> rfl) | (simp [*, errW_none, errW_some] <;> rfl), Lam.al⟩
      ·rw [if_neg c14] at H
       have c14b0 : decide (1 < (rd l3 t139)) = false := decide_eq_false c14
       clear c14
       obtain rfl := Option.some.inj H
       go_enter Tryd.func66, Tryd.ntmps66
       go_wp2_with (first | ((with_reducible refine gate_callee (f := 105) rfl ?_); refine goesL_ (some 56) rfl rfl Tryd.func105 (by kernel_rfl) rfl #[.slice A2 l2.length c2] rfl (by (try simp only [List.map_toArray, List.map_cons, List.map_nil]); first | done | rfl | (simp only [List.length_drop, List.length_take]; rfl)) ?_; (with_reducible refine (spec_cmKey.calls k _ _ l2 t139 _ ?side1 ?side2 A11.out).mono ?_); (case side1 => repeat (first | exact HR2.out | (with_reducible refine Kd.C_alloc ?_ _) | (with_reducible refine Kd.C_drewN ?_ _) | (with_reducible refine Kd.C_drew ?_))); (case side2 => exact HC2.out); rintro e w' ⟨rfl, ⟨nd, rfl⟩⟩; refine ⟨_, rfl, ?_⟩; have p140 : 0 ≤ (t139 : Int) := of_decide_eq_true (by first | (with_reducible assumption) | assumption); have q140 : t139 < (l3.length : Int) := of_decide_eq_true (by first | (with_reducible assumption) | assumption); obtain ⟨ad140, e140, hx140_0⟩ := Kd.at_int HR3.out t139 p140 q140; cases e140; replace p140 := eq_true p140; replace q140 := eq_true q140))
       go_ret
       exact ⟨by first | rfl | (simp [errW_none, errW_some] <;> rfl) | (simp [*, errW_none, errW_some] <;> rfl), Lam.al⟩
     ·rw [if_neg c13] at H
      exact absurd H (by simp)
    ·rw [if_neg c12] at H
     exact absurd H (by simp)
   ·rw [if_neg c10] at H
    have c10b0 : (a0 == 2) = false := beq_eq_false_iff_ne.mpr c10
    have c10b1 : (a0 != 2) = true := bne_iff_ne.mpr c10
    by_cases c15 : a0 = 3
    ·rw [if_pos c15] at H
     have c15b0 : (a0 == 3) = true := beq_iff_eq.mpr c15
     have c15b1 : (a0 != 3) = false := bne_eq_false_iff_eq.mpr c15
     clear c15
     replace H := Option.bind_eq_some_iff.mp H
     obtain ⟨t141, A160, H⟩ := H
     replace H : (if 0 ≤ t141 then (if t141 < (l3.length : Int) then (some (wrap64 ((rd l3 t141) - 1))) else (none)) else (none)) = some r := H
     have A16 := Aside0.mk A160
     clear A160
     by_cases c17 : 0 ≤ t141
     ·rw [if_pos c17] at H
      have c17b0 : decide (0 ≤ t141) = true := decide_eq_true c17
      clear c17
      by_cases c18 : t141 < (l3.length : Int)
      ·rw [if_pos c18] at H
       have c18b0 : decide (t141 < (l3.length : Int)) = true := decide_eq_true c18
       clear c18
       obtain rfl := Option.some.inj H
       go_enter Tryd.func66, Tryd.ntmps66
       go_wp2_with (first | ((with_reducible refine gate_callee (f := 105) rfl ?_); refine goesL_ (some 64) rfl rfl Tryd.func105 (by kernel_rfl) rfl #[.slice A2 l2.length c2] rfl (by (try simp only [List.map_toArray, List.map_cons, List.map_nil]); first | done | rfl | (simp only [List.length_drop, List.length_take]; rfl)) ?_; (with_reducible refine (spec_cmKey.calls k _ _ l2 t141 _ ?side1 ?side2 A16.out).mono ?_); (case side1 => repeat (first | exact HR2.out | (with_reducible refine Kd.C_alloc ?_ _) | (with_reducible refine Kd.C_drewN ?_ _) | (with_reducible refine Kd.C_drew ?_))); (case side2 => exact HC2.out); rintro e w' ⟨rfl, ⟨nd, rfl⟩⟩; refine ⟨_, rfl, ?_⟩; have p142 : 0 ≤ (t141 : Int) := of_decide_eq_true (by first | (with_reducible assumption) | assumption); have q142 : t141 < (l3.length : Int) := of_decide_eq_true (by first | (with_reducible assumption) | assumption); obtain ⟨ad142, e142, hx142_0⟩ := Kd.at_int HR3.out t141 p142 q142; cases e142; replace p142 := eq_true p142; replace q142 := eq_true q142))
       go_ret
       exact ⟨by first | rfl | (simp [errW_none, errW_some] <;> rfl) | (simp [*, errW_none, errW_some] <;> rfl), Lam.al⟩
      ·rw [if_neg c18] at H
       exact absurd H (by simp)
     ·rw [if_neg c17] at H
      exact absurd H (by simp)
    ·rw [if_neg c15] at H
     have c15b0 : (a0 == 3) = false := beq_eq_false_iff_ne.mpr c15
     have c15b1 : (a0 != 3) = true := bne_iff_ne.mpr c15
     by_cases c19 : a0 = 4
     ·rw [if_pos c19] at H
      have c19b0 : (a0 == 4) = true := beq_iff_eq.mpr c19
      have c19b1 : (a0 != 4) = false := bne_eq_false_iff_eq.mpr c19
      clear c19
      have H' := Aside0.mk H
      clear H
      go_enter Tryd.func66, Tryd.ntmps66
      go_wp2
      go_loopg [9, 72] k (fun kq v9 v72 w' => ∃ (x9_1 : Int) (x72_1 : Int), v9 = .int .i64 x9_1 ∧ v72 = .int .i64 x72_1 ∧ Aside0 (spec_pzValue.l0 kq a1 x9_1 l2 (l2.length : Int) x72_1 = some r) ∧ Aside0 (kq ≤ k) ∧ Aside0 (Below w.heap.size w w'))
      case atStart => exact ⟨(0), (0), (by first | rfl | (simp; done) | (simp [*]; done)), (by first | rfl | (simp; done) | (simp [*]; done)), H', ⟨Nat.le_refl _⟩, ⟨Lam.al⟩⟩
      case round =>
       clear H'
       try clear c1
       try clear p1
       try clear q1
       try clear hx1
       try clear c2
       try clear p2
       try clear c3
       try clear c5
       try clear c5b0
       try clear c5b1
       try clear c6
       try clear p6
       try clear c7
       try clear c7b0
       try clear c7b1
       try clear c8
       try clear c8b0
       try clear c9
       try clear c9b0
       try clear c10
       try clear c10b0
       try clear c10b1
       try clear c12
       try clear c12b0
       try clear c13
       try clear c13b0
       try clear p13
       try clear q13
       try clear hx13
       try clear c14
       try clear c14b0
       try clear p14
       try clear q14
       try clear hx14
       try clear c15
       try clear c15b0
       try clear c15b1
       try clear c17
       try clear c17b0
       try clear c18
       try clear c18b0
       try clear c19
       try clear c19b0
       try clear c19b1
       try clear hx138_0
       try clear hx140_0
       try clear hx142_0
       try clear p138
       try clear p140
       try clear p142
       try clear q138
       try clear q140
       try clear q142
       obtain ⟨x9_1, x72_1, rfl, rfl, HA, HK1, HB⟩ := hrel
       cases gk with
       | zero => exact absurd HA.out (by simp [spec_pzValue.l0])
       | succ k1 =>
        have H := HA.out
        clear HA
        simp only [spec_pzValue.l0] at H
        by_cases c20 : x72_1 < (l2.length : Int)
        ·rw [if_pos c20] at H
         have c20b0 : decide (x72_1 < (l2.length : Int)) = true := decide_eq_true c20
         clear c20
         by_cases c21 : 0 ≤ x72_1
         ·rw [if_pos c21] at H
          have c21b0 : decide (0 ≤ x72_1) = true := decide_eq_true c21
          clear c21
          by_cases c22 : x72_1 < (l2.length : Int)
          ·rw [if_pos c22] at H
           have c22b0 : decide (x72_1 < (l2.length : Int)) = true := decide_eq_true c22
           clear c22
           by_cases c23 : (rd l2 x72_1) > a1
           ·rw [if_pos c23] at H
            have c23b0 : decide (a1 < (rd l2 x72_1)) = true := decide_eq_true c23
            clear c23
            have H' := Aside0.mk H
            clear H
            have p143 : 0 ≤ (x72_1 : Int) := of_decide_eq_true (by first | (with_reducible assumption) | assumption)
            have q143 : x72_1 < (l2.length : Int) := of_decide_eq_true (by first | (with_reducible assumption) | assumption)
            obtain ⟨ad143, e143, hx143_0⟩ := Kd.at_int HR2.out x72_1 p143 q143
            cases e143
            replace hx143_0 := (HB.out.cell (World.block_lt_of_cell? w _ hx143_0)).trans hx143_0
            replace p143 := eq_true p143
            replace q143 := eq_true q143
            go_wp2
            go_roundg k1
            case measure => have := HK1.out; omega
            case rel => exact ⟨(wrap64 (x9_1 + 1)), (wrap64 (x72_1 + 1)), (by first | rfl | (simp; done) | (simp [*]; done)), (by first | rfl | (simp; done) | (simp [*]; done)), H', ⟨by have := HK1.out; omega⟩, ⟨Lam.al⟩⟩
           ·rw [if_neg c23] at H
            have c23b0 : decide (a1 < (rd l2 x72_1)) = false := decide_eq_false c23
            clear c23
            have H' := Aside0.mk H
            clear H
            have p143 : 0 ≤ (x72_1 : Int) := of_decide_eq_true (by first | (with_reducible assumption) | assumption)
            have q143 : x72_1 < (l2.length : Int) := of_decide_eq_true (by first | (with_reducible assumption) | assumption)
            obtain ⟨ad143, e143, hx143_0⟩ := Kd.at_int HR2.out x72_1 p143 q143
            cases e143
            replace hx143_0 := (HB.out.cell (World.block_lt_of_cell? w _ hx143_0)).trans hx143_0
            replace p143 := eq_true p143
            replace q143 := eq_true q143
            go_wp2
            go_roundg k1
            case measure => have := HK1.out; omega
            case rel => exact ⟨(x9_1), (wrap64 (x72_1 + 1)), (by first | rfl | (simp; done) | (simp [*]; done)), (by first | rfl | (simp; done) | (simp [*]; done)), H', ⟨by have := HK1.out; omega⟩, ⟨Lam.al⟩⟩
          ·rw [if_neg c22] at H
           exact absurd H (by simp)
         ·rw [if_neg c21] at H
          exact absurd H (by simp)
        ·rw [if_neg c20] at H
         have c20b0 : decide (x72_1 < (l2.length : Int)) = false := decide_eq_false c20
         clear c20
         obtain rfl := Option.some.inj H
         go_wp2
         go_ret
         exact ⟨by first | rfl | (simp [errW_none, errW_some] <;> rfl) | (simp [*, errW_none, errW_some] <;> rfl), Lam.al⟩
     ·rw [if_neg c19] at H
      have c19b0 : (a0 == 4) = false := beq_eq_false_iff_ne.mpr c19
      have c19b1 : (a0 != 4) = true := bne_iff_ne.mpr c19
      replace H := Option.bind_eq_some_iff.mp H
      obtain ⟨t144, A240, H⟩ := H
      replace H : (spec_pzValue.l1 k l2 l3 0 t144 (t144.length : Int) 0) = some r := H
      have A24 := Aside0.mk A240
      clear A240
      have H' := Aside0.mk H
      clear H
      go_enter Tryd.func66, Tryd.ntmps66
      go_wp2_with (first | ((with_reducible refine gate_callee (f := 106) rfl ?_); refine goesL_ (some 16) rfl rfl Tryd.func106 (by kernel_rfl) rfl #[.slice A2 l2.length c2] rfl (by (try simp only [List.map_toArray, List.map_cons, List.map_nil]); first | done | rfl | (simp only [List.length_drop, List.length_take]; rfl)) ?_; (with_reducible refine (spec_cmMoves.calls k _ _ l2 t144 _ ?side1 ?side2 A24.out).mono ?_); (case side1 => repeat (first | exact HR2.out | (with_reducible refine Kd.C_alloc ?_ _) | (with_reducible refine Kd.C_drewN ?_ _) | (with_reducible refine Kd.C_drew ?_))); (case side2 => exact HC2.out); rintro e w25 ⟨v145, rfl, ho0, hb⟩; refine ⟨_, rfl, ?_⟩; have n0_ := Aside0.mk (Kd.S_lower ho0 (below_size (Lam.al))); have n1_ := Aside0.mk (below_step (Lam.al) hb); clear HB; have HO146 := n0_; have HB := n1_; clear n0_ n1_; (try clear hb); (try clear hb2); (try clear hk); (try clear hi); (try clear ho0); obtain ⟨Ao26, co26, eo26⟩ := Kd.S_slice HO146.out; subst eo26))
      go_loopg [9, 18] k (fun kq v9 v18 w' => ∃ (x9_1 : Int) (x18_1 : Int), v9 = .int .i64 x9_1 ∧ v18 = .int .i64 x18_1 ∧ Aside0 (spec_pzValue.l1 kq l2 l3 x9_1 t144 (t144.length : Int) x18_1 = some r) ∧ Aside0 (kq ≤ k) ∧ Aside0 (Kd.S (Kd.slice 3 (Kd.int .i64)) 38 w' w.heap.size (fun _ => True) (.slice Ao26 t144.length co26) t144) ∧ Aside0 (Below w.heap.size w w'))
      case atStart => exact ⟨(0), (0), (by first | rfl | (simp; done) | (simp [*]; done)), (by first | rfl | (simp; done) | (simp [*]; done)), H', ⟨Nat.le_refl _⟩, ⟨Lam.sq HO146.out⟩, ⟨Lam.al⟩⟩
      case round =>
       clear H'
       try clear c1
       try clear p1
       try clear q1
       try clear hx1
       try clear c2
       try clear p2
       try clear c3
       try clear c5
       try clear c5b0
       try clear c5b1
       try clear c6
       try clear p6
       try clear c7
       try clear c7b0
       try clear c7b1
       try clear c8
       try clear c8b0
       try clear c9
       try clear c9b0
       try clear c10
       try clear c10b0
       try clear c10b1
       try clear c12
       try clear c12b0
       try clear c13
       try clear c13b0
       try clear p13
       try clear q13
       try clear hx13
       try clear c14
       try clear c14b0
       try clear p14
       try clear q14
       try clear hx14
       try clear c15
       try clear c15b0
       try clear c15b1
       try clear c17
       try clear c17b0
       try clear c18
       try clear c18b0
       try clear c19
       try clear c19b0
       try clear c19b1
       try clear c20
       try clear c20b0
       try clear c21
       try clear c21b0
       try clear c22
       try clear c22b0
       try clear c23
       try clear c23b0
       try clear hx138_0
       try clear hx140_0
       try clear hx142_0
       try clear hx143_0
       try clear p1
       try clear p13
       try clear p138
       try clear p14
       try clear p140
       try clear p142
       try clear p143
       try clear p2
       try clear p6
       try clear q1
       try clear q13
       try clear q138
       try clear q14
       try clear q140
       try clear q142
       try clear q143
       obtain ⟨x9_1, x18_1, rfl, rfl, HA, HK1, HO_16, HB⟩ := hrel
       cases gk with
       | zero => exact absurd HA.out (by simp [spec_pzValue.l1])
       | succ k1 =>
        have H := HA.out
        clear HA
        simp only [spec_pzValue.l1] at H
        by_cases c27 : x18_1 < (t144.length : Int)
        ·rw [if_pos c27] at H
         have c27b0 : decide (x18_1 < (t144.length : Int)) = true := decide_eq_true c27
         clear c27
         by_cases c28 : 0 ≤ x18_1
         ·rw [if_pos c28] at H
          have c28b0 : decide (0 ≤ x18_1) = true := decide_eq_true c28
          clear c28
          by_cases c29 : x18_1 < (t144.length : Int)
          ·rw [if_pos c29] at H
           have c29b0 : decide (x18_1 < (t144.length : Int)) = true := decide_eq_true c29
           clear c29
           by_cases c30 : 0 < ((rd_L3 t144 x18_1).length : Int)
           ·rw [if_pos c30] at H
            have c30b0 : decide (0 < ((rd_L3 t144 x18_1).length : Int)) = true := decide_eq_true c30
            have c30b1 : decide (0 < (rd_L3 t144 x18_1).length) = true := decide_eq_true (by omega)
            clear c30
            by_cases c31 : 1 < ((rd_L3 t144 x18_1).length : Int)
            ·rw [if_pos c31] at H
             have c31b0 : decide (1 < ((rd_L3 t144 x18_1).length : Int)) = true := decide_eq_true c31
             have c31b1 : decide (1 < (rd_L3 t144 x18_1).length) = true := decide_eq_true (by omega)
             clear c31
             replace H := Option.bind_eq_some_iff.mp H
             obtain ⟨t150, A320, H⟩ := H
             replace H : ((spec_cmKey.f k1 t150).bind fun t153 => (if 0 ≤ t153 then (if t153 < (l3.length : Int) then (if (rd l3 t153) = 1 then (spec_pzValue.l1 k1 l2 l3 (wrap64 (x9_1 + 1)) t144 (t144.length : Int) (wrap64 (x18_1 + 1))) else (spec_pzValue.l1 k1 l2 l3 x9_1 t144 (t144.length : Int) (wrap64 (x18_1 + 1)))) else (none)) else (none))) = some r := H
             have A32 := Aside0.mk A320
             clear A320
             replace H := Option.bind_eq_some_iff.mp H
             obtain ⟨t153, A330, H⟩ := H
             replace H : (if 0 ≤ t153 then (if t153 < (l3.length : Int) then (if (rd l3 t153) = 1 then (spec_pzValue.l1 k1 l2 l3 (wrap64 (x9_1 + 1)) t144 (t144.length : Int) (wrap64 (x18_1 + 1))) else (spec_pzValue.l1 k1 l2 l3 x9_1 t144 (t144.length : Int) (wrap64 (x18_1 + 1)))) else (none)) else (none)) = some r := H
             have A33 := Aside0.mk A330
             clear A330
             by_cases c34 : 0 ≤ t153
             ·rw [if_pos c34] at H
              have c34b0 : decide (0 ≤ t153) = true := decide_eq_true c34
              clear c34
              by_cases c35 : t153 < (l3.length : Int)
              ·rw [if_pos c35] at H
               have c35b0 : decide (t153 < (l3.length : Int)) = true := decide_eq_true c35
               clear c35
               by_cases c36 : (rd l3 t153) = 1
               ·rw [if_pos c36] at H
                have c36b0 : ((rd l3 t153) == 1) = true := beq_iff_eq.mpr c36
                have c36b1 : ((rd l3 t153) != 1) = false := bne_eq_false_iff_eq.mpr c36
                clear c36
                have H' := Aside0.mk H
                clear H
                have p147 : 0 ≤ (x18_1 : Int) := of_decide_eq_true (by first | (with_reducible assumption) | assumption)
                have q147 : x18_1 < (t144.length : Int) := of_decide_eq_true (by first | (with_reducible assumption) | assumption)
                obtain ⟨ad147, A147_0, c147_0, e147, hx147_0, hl147_0, hi147_0⟩ := at_L3 (Kd.S_reads' HO_16.out).2.2 x18_1 p147 q147
                cases e147
                obtain ⟨ce147, hce147, hMe147, hcc147⟩ := Kd.S_get HO_16.out [] x18_1 p147 (by first | exact q147 | exact of_decide_eq_true (by first | (with_reducible assumption) | assumption) | (have e_ := (Kd.S_reads' HO_16.out).1; omega))
                obtain ⟨ve147_0, rfl, ge147_0⟩ := hMe147
                have hv147_0 := hcc147 0 _ rfl
                rw [Nat.add_zero, show ((Kd.slice 3 (Kd.int .i64))).sz = 1 from rfl, Nat.mul_one] at hv147_0
                replace hv147_0 := Option.some.inj (hv147_0.symm.trans hx147_0)
                rw [hv147_0] at ge147_0
                have HL147_0 := Aside0.mk (show Kd.R (Kd.int .i64) 3 _ _ _ _ (rd_L3 t144 x18_1) from ge147_0)
                clear hv147_0 ge147_0
                clear hcc147 hce147
                have HR147_0 := Aside0.mk hi147_0
                have HC147_0 := Aside0.mk hl147_0
                clear hi147_0 hl147_0
                replace p147 := eq_true p147
                replace q147 := eq_true q147
                try go_wp2
                have n0_ := Aside0.mk (Kd.S_drew HO_16.out)
                have n1_ := Aside0.mk (Kd.R_drew HL147_0.out)
                have n2_ := Aside0.mk (Kd.C_drew HR147_0.out)
                have n3_ := Aside0.mk (below_drew1 HB.out)
                clear HO_16
                clear HL147_0
                clear HR147_0
                clear HB
                have HO_16 := n0_
                have HL147_0 := n1_
                have HR147_0 := n2_
                have HB := n3_
                clear n0_ n1_ n2_ n3_
                have p148 : 0 ≤ (0 : Int) := (by omega)
                have q148 : 0 < ((rd_L3 t144 x18_1).length : Int) := of_decide_eq_true (by first | (with_reducible assumption) | assumption)
                obtain ⟨ad148, e148, hx148_0⟩ := Kd.at_int (by repeat (first | (with_reducible exact HR147_0.out) | (with_reducible refine Kd.C_alloc ?_ _) | (with_reducible refine Kd.C_drewN ?_ _) | (with_reducible refine Kd.C_drew ?_) | exact HR147_0.out)) 0 p148 q148
                cases e148
                have qi148 : (0 < (rd_L3 t144 x18_1).length) = True := eq_true (by omega)
                (try rw [show ((0 : Int)).toNat = 0 from rfl] at hx148_0)
                (try rw [Addr.add_zero'] at hx148_0)
                replace p148 := eq_true p148
                replace q148 := eq_true q148
                have p149 : 0 ≤ (1 : Int) := (by omega)
                have q149 : 1 < ((rd_L3 t144 x18_1).length : Int) := of_decide_eq_true (by first | (with_reducible assumption) | assumption)
                obtain ⟨ad149, e149, hx149_0⟩ := Kd.at_int (by repeat (first | (with_reducible exact HR147_0.out) | (with_reducible refine Kd.C_alloc ?_ _) | (with_reducible refine Kd.C_drewN ?_ _) | (with_reducible refine Kd.C_drew ?_) | exact HR147_0.out)) 1 p149 q149
                obtain rfl : ad148 = ad149 := (by injection e149)
                (try simp only [show (1 : Int).toNat = 1 from rfl, Nat.reduceMul, Nat.reduceEqDiff, Go.Addr.add, ↓reduceIte] at hx149_0)
                have qi149 : (1 < (rd_L3 t144 x18_1).length) = True := eq_true (by omega)
                (try rw [show ((1 : Int)).toNat = 1 from rfl] at hx149_0)
                replace p149 := eq_true p149
                replace q149 := eq_true q149
                have p154 : 0 ≤ (t153 : Int) := of_decide_eq_true (by first | (with_reducible assumption) | assumption)
                have q154 : t153 < (l3.length : Int) := of_decide_eq_true (by first | (with_reducible assumption) | assumption)
                obtain ⟨ad154, e154, hx154_0⟩ := Kd.at_int HR3.out t153 p154 q154
                have hw154_0 := hx154_0
                cases e154
                replace hx154_0 := (HB.out.cell (World.block_lt_of_cell? w _ hx154_0)).trans hx154_0
                replace p154 := eq_true p154
                replace q154 := eq_true q154
                refine start_ (n := 13) (S := fun w' => w'.cell? ad148 = some (.int .i64 (rd (rd_L3 t144 x18_1) 0)) ∧ w'.cell? ⟨ad148.block, ad148.off + 1, none⟩ = some (.int .i64 (rd (rd_L3 t144 x18_1) 1)) ∧ w'.cell? (ad154.add (t153).toNat) = some (.int .i64 (rd l3 t153))) (ds := []) #[false, false, false, false, false, false, false, false, false, false, false, false, false] (by kernel_rfl) rfl rfl ⟨hx148_0, hx149_0, ((HB.out.cell (World.block_lt_of_cell? w _ hw154_0)).trans hw154_0)⟩ (fun hHeld => ?_); refine with_tabW spec_pzValue.tab6 spec_pzValue.bits6 (fun HT_ HW_ => ?_)
                generalize wr.drew = w37 at HO_16 HL147_0 HR147_0 HB hx148_0 hx149_0 hx154_0 hHeld ⊢
                refine pure_ (i := 0) (N := some 22) (v := ?_) (a' := ?_) #[true, false, false, false, false, false, false, false, false, false, false, false, false] rfl rfl (any_of HT_.out (by kernel_rfl)) (fun _ _ _ h => h) (Or.inl ⟨by rfl, ?_⟩) ?_ ?_
                rotate_left
                ·intro w'
                 go_simp
                 with_reducible rfl
                rotate_left
                ·simp only [Act.put, Lam.pa, Lam.pb, Lam.pc, i64_w, i32_w]
                 rfl
                refine pure_ (i := 1) (N := some 23) (v := ?_) (a' := ?_) #[true, true, false, false, false, false, false, false, false, false, false, false, false] rfl rfl (any_of HT_.out (by kernel_rfl)) (fun _ _ _ h => h) (Or.inl ⟨by rfl, ?_⟩) ?_ ?_
                rotate_left
                ·intro w'
                 go_simp
                 with_reducible rfl
                rotate_left
                ·simp only [Act.put, Lam.pa, Lam.pb, Lam.pc, i64_w, i32_w]
                 rfl
                refine pure_ (i := 2) (N := some 24) (v := ?_) (a' := ?_) #[true, true, true, false, false, false, false, false, false, false, false, false, false] rfl rfl (any_of HT_.out (by kernel_rfl)) (fun _ _ _ h => h) (Or.inl ⟨by rfl, ?_⟩) ?_ ?_
                rotate_left
                ·intro w'
                 go_simp
                 with_reducible rfl
                rotate_left
                ·simp only [Act.put, Lam.pa, Lam.pb, Lam.pc, i64_w, i32_w]
                 rfl
                refine pure_ (i := 3) (N := some 25) (v := ?_) (a' := ?_) #[true, true, true, true, false, false, false, false, false, false, false, false, false] rfl rfl (any_of HT_.out (by kernel_rfl)) (fun _ _ _ h => h) (Or.inl ⟨by rfl, ?_⟩) ?_ ?_
                rotate_left
                ·intro w'
                 go_simp
                 with_reducible rfl
                rotate_left
                ·simp only [Act.put, Lam.pa, Lam.pb, Lam.pc, i64_w, i32_w]
                 rfl
                refine pure_ (i := 5) (N := some 27) (v := ?_) (a' := ?_) #[true, true, true, true, false, true, false, false, false, false, false, false, false] rfl rfl (any_of HT_.out (by kernel_rfl)) (fun _ _ _ h => h) (Or.inl ⟨by rfl, ?_⟩) ?_ ?_
                rotate_left
                ·intro w'
                 go_simp
                 with_reducible rfl
                rotate_left
                ·simp only [Act.put, Lam.pa, Lam.pb, Lam.pc, i64_w, i32_w]
                 rfl
                refine pure_ (i := 6) (N := some 28) (v := ?_) (a' := ?_) #[true, true, true, true, false, true, true, false, false, false, false, false, false] rfl rfl (any_of HT_.out (by kernel_rfl)) (fun _ _ _ h => h) (Or.inl ⟨by rfl, ?_⟩) ?_ ?_
                rotate_left
                ·intro w'
                 go_simp
                 with_reducible rfl
                rotate_left
                ·simp only [Act.put, Lam.pa, Lam.pb, Lam.pc, i64_w, i32_w]
                 rfl
                refine take_ (i := 4) (N := some 26) (v := ?_) (a' := ?_) #[true, true, true, true, true, true, true, false, false, false, false, false, false] rfl rfl (take_ofW HT_.out HW_.out (by kernel_rfl)) (fun _ _ _ h => h) (Or.inl ⟨by rfl, ?_⟩) hHeld ?_ ?_
                rotate_left
                ·rintro w' ⟨s0, s1, s2⟩
                 go_simp
                 with_reducible rfl
                rotate_left
                ·simp only [Act.put, Lam.pa, Lam.pb, Lam.pc, i64_w, i32_w]
                 rfl
                refine take_ (i := 7) (N := some 29) (v := ?_) (a' := ?_) #[true, true, true, true, true, true, true, true, false, false, false, false, false] rfl rfl (take_ofW HT_.out HW_.out (by kernel_rfl)) (fun _ _ _ h => h) (Or.inl ⟨by rfl, ?_⟩) hHeld ?_ ?_
                rotate_left
                ·rintro w' ⟨s0, s1, s2⟩
                 go_simp
                 with_reducible rfl
                rotate_left
                ·simp only [Act.put, Lam.pa, Lam.pb, Lam.pc, i64_w, i32_w]
                 rfl
                refine one_ (i := 8) (N := some 30) #[true, true, true, true, true, true, true, true, true, false, false, false, false] rfl rfl (one_of HT_.out (by kernel_rfl)) (by decide) (fun K hK => ?_)
                refine goes_ Tryd.func107 (by kernel_rfl) rfl #[.slice A2 l2.length c2, .int .i64 (rd (rd_L3 t144 x18_1) 0), .int .i64 (rd (rd_L3 t144 x18_1) 1)] (by rfl) rfl rfl (by (try simp only [List.map_toArray, List.map_cons, List.map_nil]); first | done | rfl | (simp only [List.length_drop, List.length_take]; rfl)) ?_
                with_reducible refine (spec_cmBite.calls k1 _ _ l2 (rd (rd_L3 t144 x18_1) 0) (rd (rd_L3 t144 x18_1) 1) t150 _ ?side1 ?side2 A32.out).mono ?_
                (case side1 => repeat (first | exact (Kd.C_below HR2.out HB.out) | (with_reducible refine Kd.C_alloc ?_ _) | (with_reducible refine Kd.C_drewN ?_ _) | (with_reducible refine Kd.C_drew ?_)))
                (case side2 => exact HC2.out)
                rintro e w38 ⟨v151, rfl, ho0, hb⟩
                have HS0_ := (hb.cell (World.block_lt_of_cell? _ _ (hHeld.1))).trans (hHeld.1)
                have HS1_ := (hb.cell (World.block_lt_of_cell? _ _ (hHeld.2.1))).trans (hHeld.2.1)
                refine ⟨_, rfl, ?_⟩
                have n0_ := Aside0.mk (Kd.S_elder' (Lam.sq HO_16.out) (Kd.R_base ho0) hb)
                have n1_ := Aside0.mk (Kd.R_elder' (Lam.rq HL147_0.out) (Kd.R_base ho0) hb)
                have n2_ := Aside0.mk (Kd.R_lower (Kd.R_new' ho0 (Kd.R_lt (Lam.rq HL147_0.out))) (below_size (Lam.al)))
                have n3_ := Aside0.mk (Kd.C_below (by repeat (first | (with_reducible exact HR147_0.out) | (with_reducible refine Kd.C_alloc ?_ _) | (with_reducible refine Kd.C_drewN ?_ _) | (with_reducible refine Kd.C_drew ?_) | exact HR147_0.out)) hb)
                have n4_ := Aside0.mk (below_step (Lam.al) hb)
                clear HO_16
                clear HL147_0
                clear HR147_0
                clear HB
                have HO_16 := n0_
                have HL147_0 := n1_
                have HO152 := n2_
                have HR147_0 := n3_
                have HB := n4_
                clear n0_ n1_ n2_ n3_ n4_
                (try clear hb)
                (try clear hb2)
                (try clear hk)
                (try clear hi)
                (try clear ho0)
                obtain ⟨Ao39, co39, eo39⟩ := Kd.R_slice HO152.out
                (first | subst eo39 | (injection eo39 with f1_ f2_ f3_; have f4_ := f1_.symm; have f5_ := f3_.symm; clear f1_ f2_ f3_; subst f4_; subst f5_))
                refine hK.out _ _ ⟨HS0_, HS1_, ((HB.out.cell (World.block_lt_of_cell? w _ hw154_0)).trans hw154_0)⟩ (fun hHeld => ?_)
                clear hK K
                refine norm_ (a' := ?_) ?_ ?_
                rotate_left
                ·show Act.put _ (some 30) _ = _
                 simp only [Act.put, Lam.pa, Lam.pb, Lam.pc, i64_w, i32_w]
                 rfl
                refine one_ (i := 9) (N := some 31) #[true, true, true, true, true, true, true, true, true, true, false, false, false] rfl rfl (one_of HT_.out (by kernel_rfl)) (by decide) (fun K hK => ?_)
                refine goes_ Tryd.func105 (by kernel_rfl) rfl #[.slice Ao39 t150.length co39] (by rfl) rfl rfl (by (try simp only [List.map_toArray, List.map_cons, List.map_nil]); first | done | rfl | (simp only [List.length_drop, List.length_take]; rfl)) ?_
                with_reducible refine (spec_cmKey.calls k1 _ _ t150 t153 _ ?side1 ?side2 A33.out).mono ?_
                (case side1 => repeat (first | exact (Kd.R_reads' HO152.out).2.2 | (with_reducible refine Kd.C_alloc ?_ _) | (with_reducible refine Kd.C_drewN ?_ _) | (with_reducible refine Kd.C_drew ?_)))
                (case side2 => exact (Kd.R_reads' HO152.out).2.1)
                rintro e w' ⟨rfl, ⟨nd, rfl⟩⟩
                refine ⟨_, rfl, ?_⟩
                refine hK.out _ _ ⟨hHeld.1, hHeld.2.1, ((HB.out.cell (World.block_lt_of_cell? w _ hw154_0)).trans hw154_0)⟩ (fun hHeld => ?_)
                clear hK K
                refine norm_ (a' := ?_) ?_ ?_
                rotate_left
                ·show Act.put _ (some 31) _ = _
                 simp only [Act.put, Lam.pa, Lam.pb, Lam.pc, i64_w, i32_w]
                 rfl
                refine pure_ (i := 10) (N := some 32) (v := ?_) (a' := ?_) #[true, true, true, true, true, true, true, true, true, true, true, false, false] rfl rfl (any_of HT_.out (by kernel_rfl)) (fun _ _ _ h => h) (Or.inl ⟨by rfl, ?_⟩) ?_ ?_
                rotate_left
                ·intro w'
                 go_simp
                 with_reducible rfl
                rotate_left
                ·simp only [Act.put, Lam.pa, Lam.pb, Lam.pc, i64_w, i32_w]
                 rfl
                refine take_ (i := 11) (N := some 33) (v := ?_) (a' := ?_) #[true, true, true, true, true, true, true, true, true, true, true, true, false] rfl rfl (take_ofW HT_.out HW_.out (by kernel_rfl)) (fun _ _ _ h => h) (Or.inl ⟨by rfl, ?_⟩) hHeld ?_ ?_
                rotate_left
                ·rintro w' ⟨s0, s1, s2⟩
                 go_simp
                 with_reducible rfl
                rotate_left
                ·simp only [Act.put, Lam.pa, Lam.pb, Lam.pc, i64_w, i32_w]
                 rfl
                refine pure_ (i := 12) (N := some 34) (v := ?_) (a' := ?_) #[true, true, true, true, true, true, true, true, true, true, true, true, true] rfl rfl (any_of HT_.out (by kernel_rfl)) (fun _ _ _ h => h) (Or.inl ⟨by rfl, ?_⟩) ?_ ?_
                rotate_left
                ·intro w'
                 go_simp
                 with_reducible rfl
                rotate_left
                ·simp only [Act.put, Lam.pa, Lam.pb, Lam.pc, i64_w, i32_w]
                 rfl
                refine done_ (done_of HT_.out (by kernel_rfl)) ?_
                try go_wp2
                go_roundg k1
                case measure => have := HK1.out; omega
                case rel => exact ⟨(wrap64 (x9_1 + 1)), (wrap64 (x18_1 + 1)), (by first | rfl | (simp; done) | (simp [*]; done)), (by first | rfl | (simp; done) | (simp [*]; done)), H', ⟨by have := HK1.out; omega⟩, ⟨by (with_reducible repeat (first | apply Kd.S_alloc | apply Kd.S_drewN | apply Kd.S_drew)); exact Kd.S_mono HO_16.out (fun _ hk => trivial)⟩, ⟨Lam.al⟩⟩
               ·rw [if_neg c36] at H
                have c36b0 : ((rd l3 t153) == 1) = false := beq_eq_false_iff_ne.mpr c36
                have c36b1 : ((rd l3 t153) != 1) = true := bne_iff_ne.mpr c36
                have H' := Aside0.mk H
                clear H
                have p147 : 0 ≤ (x18_1 : Int) := of_decide_eq_true (by first | (with_reducible assumption) | assumption)
                have q147 : x18_1 < (t144.length : Int) := of_decide_eq_true (by first | (with_reducible assumption) | assumption)
                obtain ⟨ad147, A147_0, c147_0, e147, hx147_0, hl147_0, hi147_0⟩ := at_L3 (Kd.S_reads' HO_16.out).2.2 x18_1 p147 q147
                cases e147
                obtain ⟨ce147, hce147, hMe147, hcc147⟩ := Kd.S_get HO_16.out [] x18_1 p147 (by first | exact q147 | exact of_decide_eq_true (by first | (with_reducible assumption) | assumption) | (have e_ := (Kd.S_reads' HO_16.out).1; omega))
                obtain ⟨ve147_0, rfl, ge147_0⟩ := hMe147
                have hv147_0 := hcc147 0 _ rfl
                rw [Nat.add_zero, show ((Kd.slice 3 (Kd.int .i64))).sz = 1 from rfl, Nat.mul_one] at hv147_0
                replace hv147_0 := Option.some.inj (hv147_0.symm.trans hx147_0)
                rw [hv147_0] at ge147_0
                have HL147_0 := Aside0.mk (show Kd.R (Kd.int .i64) 3 _ _ _ _ (rd_L3 t144 x18_1) from ge147_0)
                clear hv147_0 ge147_0
                clear hcc147 hce147
                have HR147_0 := Aside0.mk hi147_0
                have HC147_0 := Aside0.mk hl147_0
                clear hi147_0 hl147_0
                replace p147 := eq_true p147
                replace q147 := eq_true q147
                try go_wp2
                have n0_ := Aside0.mk (Kd.S_drew HO_16.out)
                have n1_ := Aside0.mk (Kd.R_drew HL147_0.out)
                have n2_ := Aside0.mk (Kd.C_drew HR147_0.out)
                have n3_ := Aside0.mk (below_drew1 HB.out)
                clear HO_16
                clear HL147_0
                clear HR147_0
                clear HB
                have HO_16 := n0_
                have HL147_0 := n1_
                have HR147_0 := n2_
                have HB := n3_
                clear n0_ n1_ n2_ n3_
                have p148 : 0 ≤ (0 : Int) := (by omega)
                have q148 : 0 < ((rd_L3 t144 x18_1).length : Int) := of_decide_eq_true (by first | (with_reducible assumption) | assumption)
                obtain ⟨ad148, e148, hx148_0⟩ := Kd.at_int (by repeat (first | (with_reducible exact HR147_0.out) | (with_reducible refine Kd.C_alloc ?_ _) | (with_reducible refine Kd.C_drewN ?_ _) | (with_reducible refine Kd.C_drew ?_) | exact HR147_0.out)) 0 p148 q148
                cases e148
                have qi148 : (0 < (rd_L3 t144 x18_1).length) = True := eq_true (by omega)
                (try rw [show ((0 : Int)).toNat = 0 from rfl] at hx148_0)
                (try rw [Addr.add_zero'] at hx148_0)
                replace p148 := eq_true p148
                replace q148 := eq_true q148
                have p149 : 0 ≤ (1 : Int) := (by omega)
                have q149 : 1 < ((rd_L3 t144 x18_1).length : Int) := of_decide_eq_true (by first | (with_reducible assumption) | assumption)
                obtain ⟨ad149, e149, hx149_0⟩ := Kd.at_int (by repeat (first | (with_reducible exact HR147_0.out) | (with_reducible refine Kd.C_alloc ?_ _) | (with_reducible refine Kd.C_drewN ?_ _) | (with_reducible refine Kd.C_drew ?_) | exact HR147_0.out)) 1 p149 q149
                obtain rfl : ad148 = ad149 := (by injection e149)
                (try simp only [show (1 : Int).toNat = 1 from rfl, Nat.reduceMul, Nat.reduceEqDiff, Go.Addr.add, ↓reduceIte] at hx149_0)
                have qi149 : (1 < (rd_L3 t144 x18_1).length) = True := eq_true (by omega)
                (try rw [show ((1 : Int)).toNat = 1 from rfl] at hx149_0)
                replace p149 := eq_true p149
                replace q149 := eq_true q149
                have p154 : 0 ≤ (t153 : Int) := of_decide_eq_true (by first | (with_reducible assumption) | assumption)
                have q154 : t153 < (l3.length : Int) := of_decide_eq_true (by first | (with_reducible assumption) | assumption)
                obtain ⟨ad154, e154, hx154_0⟩ := Kd.at_int HR3.out t153 p154 q154
                have hw154_0 := hx154_0
                cases e154
                replace hx154_0 := (HB.out.cell (World.block_lt_of_cell? w _ hx154_0)).trans hx154_0
                replace p154 := eq_true p154
                replace q154 := eq_true q154
                refine start_ (n := 13) (S := fun w' => w'.cell? ad148 = some (.int .i64 (rd (rd_L3 t144 x18_1) 0)) ∧ w'.cell? ⟨ad148.block, ad148.off + 1, none⟩ = some (.int .i64 (rd (rd_L3 t144 x18_1) 1)) ∧ w'.cell? (ad154.add (t153).toNat) = some (.int .i64 (rd l3 t153))) (ds := []) #[false, false, false, false, false, false, false, false, false, false, false, false, false] (by kernel_rfl) rfl rfl ⟨hx148_0, hx149_0, ((HB.out.cell (World.block_lt_of_cell? w _ hw154_0)).trans hw154_0)⟩ (fun hHeld => ?_); refine with_tabW spec_pzValue.tab6 spec_pzValue.bits6 (fun HT_ HW_ => ?_)
                generalize wr.drew = w40 at HO_16 HL147_0 HR147_0 HB hx148_0 hx149_0 hx154_0 hHeld ⊢
                refine pure_ (i := 0) (N := some 22) (v := ?_) (a' := ?_) #[true, false, false, false, false, false, false, false, false, false, false, false, false] rfl rfl (any_of HT_.out (by kernel_rfl)) (fun _ _ _ h => h) (Or.inl ⟨by rfl, ?_⟩) ?_ ?_
                rotate_left
                ·intro w'
                 go_simp
                 with_reducible rfl
                rotate_left
                ·simp only [Act.put, Lam.pa, Lam.pb, Lam.pc, i64_w, i32_w]
                 rfl
                refine pure_ (i := 1) (N := some 23) (v := ?_) (a' := ?_) #[true, true, false, false, false, false, false, false, false, false, false, false, false] rfl rfl (any_of HT_.out (by kernel_rfl)) (fun _ _ _ h => h) (Or.inl ⟨by rfl, ?_⟩) ?_ ?_
                rotate_left
                ·intro w'
                 go_simp
                 with_reducible rfl
                rotate_left
                ·simp only [Act.put, Lam.pa, Lam.pb, Lam.pc, i64_w, i32_w]
                 rfl
                refine pure_ (i := 2) (N := some 24) (v := ?_) (a' := ?_) #[true, true, true, false, false, false, false, false, false, false, false, false, false] rfl rfl (any_of HT_.out (by kernel_rfl)) (fun _ _ _ h => h) (Or.inl ⟨by rfl, ?_⟩) ?_ ?_
                rotate_left
                ·intro w'
                 go_simp
                 with_reducible rfl
                rotate_left
                ·simp only [Act.put, Lam.pa, Lam.pb, Lam.pc, i64_w, i32_w]
                 rfl
                refine pure_ (i := 3) (N := some 25) (v := ?_) (a' := ?_) #[true, true, true, true, false, false, false, false, false, false, false, false, false] rfl rfl (any_of HT_.out (by kernel_rfl)) (fun _ _ _ h => h) (Or.inl ⟨by rfl, ?_⟩) ?_ ?_
                rotate_left
                ·intro w'
                 go_simp
                 with_reducible rfl
                rotate_left
                ·simp only [Act.put, Lam.pa, Lam.pb, Lam.pc, i64_w, i32_w]
                 rfl
                refine pure_ (i := 5) (N := some 27) (v := ?_) (a' := ?_) #[true, true, true, true, false, true, false, false, false, false, false, false, false] rfl rfl (any_of HT_.out (by kernel_rfl)) (fun _ _ _ h => h) (Or.inl ⟨by rfl, ?_⟩) ?_ ?_
                rotate_left
                ·intro w'
                 go_simp
                 with_reducible rfl
                rotate_left
                ·simp only [Act.put, Lam.pa, Lam.pb, Lam.pc, i64_w, i32_w]
                 rfl
                refine pure_ (i := 6) (N := some 28) (v := ?_) (a' := ?_) #[true, true, true, true, false, true, true, false, false, false, false, false, false] rfl rfl (any_of HT_.out (by kernel_rfl)) (fun _ _ _ h => h) (Or.inl ⟨by rfl, ?_⟩) ?_ ?_
                rotate_left
                ·intro w'
                 go_simp
                 with_reducible rfl
                rotate_left
                ·simp only [Act.put, Lam.pa, Lam.pb, Lam.pc, i64_w, i32_w]
                 rfl
                refine take_ (i := 4) (N := some 26) (v := ?_) (a' := ?_) #[true, true, true, true, true, true, true, false, false, false, false, false, false] rfl rfl (take_ofW HT_.out HW_.out (by kernel_rfl)) (fun _ _ _ h => h) (Or.inl ⟨by rfl, ?_⟩) hHeld ?_ ?_
                rotate_left
                ·rintro w' ⟨s0, s1, s2⟩
                 go_simp
                 with_reducible rfl
                rotate_left
                ·simp only [Act.put, Lam.pa, Lam.pb, Lam.pc, i64_w, i32_w]
                 rfl
                refine take_ (i := 7) (N := some 29) (v := ?_) (a' := ?_) #[true, true, true, true, true, true, true, true, false, false, false, false, false] rfl rfl (take_ofW HT_.out HW_.out (by kernel_rfl)) (fun _ _ _ h => h) (Or.inl ⟨by rfl, ?_⟩) hHeld ?_ ?_
                rotate_left
                ·rintro w' ⟨s0, s1, s2⟩
                 go_simp
                 with_reducible rfl
                rotate_left
                ·simp only [Act.put, Lam.pa, Lam.pb, Lam.pc, i64_w, i32_w]
                 rfl
                refine one_ (i := 8) (N := some 30) #[true, true, true, true, true, true, true, true, true, false, false, false, false] rfl rfl (one_of HT_.out (by kernel_rfl)) (by decide) (fun K hK => ?_)
                refine goes_ Tryd.func107 (by kernel_rfl) rfl #[.slice A2 l2.length c2, .int .i64 (rd (rd_L3 t144 x18_1) 0), .int .i64 (rd (rd_L3 t144 x18_1) 1)] (by rfl) rfl rfl (by (try simp only [List.map_toArray, List.map_cons, List.map_nil]); first | done | rfl | (simp only [List.length_drop, List.length_take]; rfl)) ?_
                with_reducible refine (spec_cmBite.calls k1 _ _ l2 (rd (rd_L3 t144 x18_1) 0) (rd (rd_L3 t144 x18_1) 1) t150 _ ?side1 ?side2 A32.out).mono ?_
                (case side1 => repeat (first | exact (Kd.C_below HR2.out HB.out) | (with_reducible refine Kd.C_alloc ?_ _) | (with_reducible refine Kd.C_drewN ?_ _) | (with_reducible refine Kd.C_drew ?_)))
                (case side2 => exact HC2.out)
                rintro e w41 ⟨v151, rfl, ho0, hb⟩
                have HS0_ := (hb.cell (World.block_lt_of_cell? _ _ (hHeld.1))).trans (hHeld.1)
                have HS1_ := (hb.cell (World.block_lt_of_cell? _ _ (hHeld.2.1))).trans (hHeld.2.1)
                refine ⟨_, rfl, ?_⟩
                have n0_ := Aside0.mk (Kd.S_elder' (Lam.sq HO_16.out) (Kd.R_base ho0) hb)
                have n1_ := Aside0.mk (Kd.R_elder' (Lam.rq HL147_0.out) (Kd.R_base ho0) hb)
                have n2_ := Aside0.mk (Kd.R_lower (Kd.R_new' ho0 (Kd.R_lt (Lam.rq HL147_0.out))) (below_size (Lam.al)))
                have n3_ := Aside0.mk (Kd.C_below (by repeat (first | (with_reducible exact HR147_0.out) | (with_reducible refine Kd.C_alloc ?_ _) | (with_reducible refine Kd.C_drewN ?_ _) | (with_reducible refine Kd.C_drew ?_) | exact HR147_0.out)) hb)
                have n4_ := Aside0.mk (below_step (Lam.al) hb)
                clear HO_16
                clear HL147_0
                clear HR147_0
                clear HB
                have HO_16 := n0_
                have HL147_0 := n1_
                have HO152 := n2_
                have HR147_0 := n3_
                have HB := n4_
                clear n0_ n1_ n2_ n3_ n4_
                (try clear hb)
                (try clear hb2)
                (try clear hk)
                (try clear hi)
                (try clear ho0)
                obtain ⟨Ao42, co42, eo42⟩ := Kd.R_slice HO152.out
                (first | subst eo42 | (injection eo42 with f1_ f2_ f3_; have f4_ := f1_.symm; have f5_ := f3_.symm; clear f1_ f2_ f3_; subst f4_; subst f5_))
                refine hK.out _ _ ⟨HS0_, HS1_, ((HB.out.cell (World.block_lt_of_cell? w _ hw154_0)).trans hw154_0)⟩ (fun hHeld => ?_)
                clear hK K
                refine norm_ (a' := ?_) ?_ ?_
                rotate_left
                ·show Act.put _ (some 30) _ = _
                 simp only [Act.put, Lam.pa, Lam.pb, Lam.pc, i64_w, i32_w]
                 rfl
                refine one_ (i := 9) (N := some 31) #[true, true, true, true, true, true, true, true, true, true, false, false, false] rfl rfl (one_of HT_.out (by kernel_rfl)) (by decide) (fun K hK => ?_)
                refine goes_ Tryd.func105 (by kernel_rfl) rfl #[.slice Ao42 t150.length co42] (by rfl) rfl rfl (by (try simp only [List.map_toArray, List.map_cons, List.map_nil]); first | done | rfl | (simp only [List.length_drop, List.length_take]; rfl)) ?_
                with_reducible refine (spec_cmKey.calls k1 _ _ t150 t153 _ ?side1 ?side2 A33.out).mono ?_
                (case side1 => repeat (first | exact (Kd.R_reads' HO152.out).2.2 | (with_reducible refine Kd.C_alloc ?_ _) | (with_reducible refine Kd.C_drewN ?_ _) | (with_reducible refine Kd.C_drew ?_)))
                (case side2 => exact (Kd.R_reads' HO152.out).2.1)
                rintro e w' ⟨rfl, ⟨nd, rfl⟩⟩
                refine ⟨_, rfl, ?_⟩
                refine hK.out _ _ ⟨hHeld.1, hHeld.2.1, ((HB.out.cell (World.block_lt_of_cell? w _ hw154_0)).trans hw154_0)⟩ (fun hHeld => ?_)
                clear hK K
                refine norm_ (a' := ?_) ?_ ?_
                rotate_left
                ·show Act.put _ (some 31) _ = _
                 simp only [Act.put, Lam.pa, Lam.pb, Lam.pc, i64_w, i32_w]
                 rfl
                refine pure_ (i := 10) (N := some 32) (v := ?_) (a' := ?_) #[true, true, true, true, true, true, true, true, true, true, true, false, false] rfl rfl (any_of HT_.out (by kernel_rfl)) (fun _ _ _ h => h) (Or.inl ⟨by rfl, ?_⟩) ?_ ?_
                rotate_left
                ·intro w'
                 go_simp
                 with_reducible rfl
                rotate_left
                ·simp only [Act.put, Lam.pa, Lam.pb, Lam.pc, i64_w, i32_w]
                 rfl
                refine take_ (i := 11) (N := some 33) (v := ?_) (a' := ?_) #[true, true, true, true, true, true, true, true, true, true, true, true, false] rfl rfl (take_ofW HT_.out HW_.out (by kernel_rfl)) (fun _ _ _ h => h) (Or.inl ⟨by rfl, ?_⟩) hHeld ?_ ?_
                rotate_left
                ·rintro w' ⟨s0, s1, s2⟩
                 go_simp
                 with_reducible rfl
                rotate_left
                ·simp only [Act.put, Lam.pa, Lam.pb, Lam.pc, i64_w, i32_w]
                 rfl
                refine pure_ (i := 12) (N := some 34) (v := ?_) (a' := ?_) #[true, true, true, true, true, true, true, true, true, true, true, true, true] rfl rfl (any_of HT_.out (by kernel_rfl)) (fun _ _ _ h => h) (Or.inl ⟨by rfl, ?_⟩) ?_ ?_
                rotate_left
                ·intro w'
                 go_simp
                 with_reducible rfl
                rotate_left
                ·simp only [Act.put, Lam.pa, Lam.pb, Lam.pc, i64_w, i32_w]
                 rfl
                refine done_ (done_of HT_.out (by kernel_rfl)) ?_
                try go_wp2
                go_roundg k1
                case measure => have := HK1.out; omega
                case rel => exact ⟨(x9_1), (wrap64 (x18_1 + 1)), (by first | rfl | (simp; done) | (simp [*]; done)), (by first | rfl | (simp; done) | (simp [*]; done)), H', ⟨by have := HK1.out; omega⟩, ⟨by (with_reducible repeat (first | apply Kd.S_alloc | apply Kd.S_drewN | apply Kd.S_drew)); exact Kd.S_mono HO_16.out (fun _ hk => trivial)⟩, ⟨Lam.al⟩⟩
              ·rw [if_neg c35] at H
               exact absurd H (by simp)
             ·rw [if_neg c34] at H
              exact absurd H (by simp)
            ·rw [if_neg c31] at H
             exact absurd H (by simp)
           ·rw [if_neg c30] at H
            exact absurd H (by simp)
          ·rw [if_neg c29] at H
           exact absurd H (by simp)
         ·rw [if_neg c28] at H
          exact absurd H (by simp)
        ·rw [if_neg c27] at H
         have c27b0 : decide (x18_1 < (t144.length : Int)) = false := decide_eq_false c27
         clear c27
         obtain rfl := Option.some.inj H
         go_wp2
         go_ret
         exact ⟨by first | rfl | (simp [errW_none, errW_some] <;> rfl) | (simp [*, errW_none, errW_some] <;> rfl), Lam.al⟩

end Go.Proofs.YtdikeggkfkkajaaDoor.PFnExactSolutions
