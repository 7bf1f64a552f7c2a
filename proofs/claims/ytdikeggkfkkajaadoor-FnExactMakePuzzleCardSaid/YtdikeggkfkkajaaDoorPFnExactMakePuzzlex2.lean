-- Made by a program of this session (wip/xprint.py) out of the translation.
import Derived.Test.YtdikeggkfkkajaaDoorPFnExactMakePuzzlex0
import Derived.Test.YtdikeggkfkkajaaDoorPFnExactMakePuzzlex1
namespace Go.Proofs.YtdikeggkfkkajaaDoor.PFnExactMakePuzzle
open Go.RowKit Go.Proofs.YtdikeggkfkkajaaDoorW.PrintWords Go.Proofs.YtdikeggkfkkajaaDoorW.PrintLast Go.Proofs.YtdikeggkfkkajaaDoorW.PrintMore
attribute [local go_sem] max2_int min2_int max_two min_two max_three min_three max_four min_four   -- for this text's walks alone
set_option linter.unusedVariables false
set_option linter.unusedSimpArgs false

/-! ### spec_cmGood: function 77 -/
mutual
def spec_cmGood.j0 : Nat → List Int → Bool → Option (Bool)
 | 0, _, _ => none
 | k + 1, x0, x12 => if x12 = true then (some false) else (spec_cmGood.l0 k x0 1)
def spec_cmGood.l0 : Nat → List Int → Int → Option (Bool)
 | 0, _, _ => none
 | k + 1, x0, x3 => if x3 < (x0.length : Int) then (if 0 ≤ x3 then (if 0 ≤ (wrap64 (x3 - 1)) then (if (wrap64 (x3 - 1)) < (x0.length : Int) then (if (rd x0 x3) > (rd x0 (wrap64 (x3 - 1))) then (some false) else (spec_cmGood.l0 k x0 (wrap64 (x3 + 1)))) else (none)) else (none)) else (none)) else (some true)
end
def spec_cmGood.f (k : Nat) (l0 : List Int) : Option (Bool) := (spec_l1In.f (l0.length : Int) 1 6).bind fun t117 => (if t117 = true then ((spec_l1All.f k l0 1 6).bind fun t118 => (spec_cmGood.j0 k l0 (!t118))) else (spec_cmGood.j0 k l0 true))
theorem spec_cmGood.mono_l : ∀ k, (∀ y0 y1, LeO (spec_cmGood.j0 k y0 y1) (spec_cmGood.j0 (k + 1) y0 y1)) ∧ (∀ y0 y1, LeO (spec_cmGood.l0 k y0 y1) (spec_cmGood.l0 (k + 1) y0 y1))
 | 0 => ⟨fun _ _ r h => by simp [spec_cmGood.j0] at h, fun _ _ r h => by simp [spec_cmGood.l0] at h⟩
 | k + 1 => by
  obtain ⟨ih0, ih1⟩ := spec_cmGood.mono_l k
  refine ⟨?_, ?_⟩
  ·intro y0 y1
   unfold spec_cmGood.j0
   repeat' first
   | (with_reducible exact ih0 _ _)
   | (with_reducible exact ih1 _ _)
   | (with_reducible exact spec_l1All.mono _ _ _ _)
   | (with_reducible exact LeO.refl _)
   | (with_reducible exact LeO.none _)
   | (with_reducible refine LeO.ite ?_ ?_)
   | (with_reducible refine LeO.bind ?_ (fun _ => ?_))
   | exact ih0 _ _
   | exact ih1 _ _
   | exact spec_l1All.mono _ _ _ _
   | exact LeO.none _
   | refine LeO.ite ?_ ?_
   | refine LeO.bind ?_ (fun _ => ?_)
  ·intro y0 y1
   unfold spec_cmGood.l0
   repeat' first
   | (with_reducible exact ih0 _ _)
   | (with_reducible exact ih1 _ _)
   | (with_reducible exact spec_l1All.mono _ _ _ _)
   | (with_reducible exact LeO.refl _)
   | (with_reducible exact LeO.none _)
   | (with_reducible refine LeO.ite ?_ ?_)
   | (with_reducible refine LeO.bind ?_ (fun _ => ?_))
   | exact ih0 _ _
   | exact ih1 _ _
   | exact spec_l1All.mono _ _ _ _
   | exact LeO.none _
   | refine LeO.ite ?_ ?_
   | refine LeO.bind ?_ (fun _ => ?_)
theorem spec_cmGood.mono : ∀ a0 k, LeO (spec_cmGood.f k a0) (spec_cmGood.f (k + 1) a0) := by
 intro a0 k
 obtain ⟨ih0, ih1⟩ := spec_cmGood.mono_l k
 unfold spec_cmGood.f
 repeat' first
   | (with_reducible exact ih0 _ _)
   | (with_reducible exact ih1 _ _)
   | (with_reducible exact spec_l1All.mono _ _ _ _)
   | (with_reducible exact LeO.refl _)
   | (with_reducible exact LeO.none _)
   | (with_reducible refine LeO.ite ?_ ?_)
   | (with_reducible refine LeO.bind ?_ (fun _ => ?_))
   | exact ih0 _ _
   | exact ih1 _ _
   | exact spec_l1All.mono _ _ _ _
   | exact LeO.none _
   | refine LeO.ite ?_ ?_
   | refine LeO.bind ?_ (fun _ => ?_)
set_option maxHeartbeats 8000000 in
set_option maxRecDepth 100000 in
theorem spec_cmGood.calls (k : Nat) (A0 : Option Addr) (c0 : Nat) (l0 : List Int) (r : Bool) (w : World) (hr0 : Kd.C (Kd.int .i64) w A0 l0.length l0) (hc0 : l0.length ≤ c0) (h : spec_cmGood.f k l0 = some r) :
  Calls Tryd.prog 77 #[.slice A0 l0.length c0] w fun e w' => e = .returned (.bool r) ∧ Drawn0 w w' := by
 have HR0 := Aside0.mk hr0
 have HC0 := Aside0.mk hc0
 clear hr0 hc0
 have H : ((spec_l1In.f (l0.length : Int) 1 6).bind fun t117 => (if t117 = true then ((spec_l1All.f k l0 1 6).bind fun t118 => (spec_cmGood.j0 k l0 (!t118))) else (spec_cmGood.j0 k l0 true))) = some r := h
 clear h
 have HC2 := Aside0.mk H
 clear H
 go_enter Tryd.func77, Tryd.ntmps77
 go_upto_region 1 with (fail)
 repeat (go_quiet (fail); go_upto_region 1 with (fail))
 go_cut [12] (fun v12 wc => ∃ (kq : Nat) (x12_1 : Bool), v12 = .bool x12_1 ∧ Aside0 (spec_cmGood.j0 kq l0 x12_1 = some r) ∧ Aside0 (kq ≤ k) ∧ Drawn0 w wc)
 case first =>
  have H := HC2.out
  clear HC2
  replace H := Option.bind_eq_some_iff.mp H
  obtain ⟨t117, A30, H⟩ := H
  replace H : (if t117 = true then ((spec_l1All.f k l0 1 6).bind fun t118 => (spec_cmGood.j0 k l0 (!t118))) else (spec_cmGood.j0 k l0 true)) = some r := H
  have A3 := Aside0.mk A30
  clear A30
  by_cases c4 : t117 = true
  ·subst c4
   have H1 : ((spec_l1All.f k l0 1 6).bind fun t118 => (spec_cmGood.j0 k l0 (!t118))) = some r := by rw [if_pos rfl] at H; exact H
   clear H
   have H := H1
   clear H1
   replace H := Option.bind_eq_some_iff.mp H
   obtain ⟨t118, A50, H⟩ := H
   replace H : (spec_cmGood.j0 k l0 (!t118)) = some r := H
   have A5 := Aside0.mk A50
   clear A50
   have H' := Aside0.mk H
   clear H
   go_wp2_with (first | (go_at_call 44; (with_reducible refine (spec_l1In.calls (l0.length : Int) 1 6 true _ A3.out).mono ?_); rintro e w' ⟨rfl, ⟨nd, rfl⟩⟩; (try first | exact ⟨rfl, _, World.drewN_drewN _ _ _⟩ | exact ⟨rfl, _, Eq.trans (World.drewN_drewN _ _ _) (congrArg (World.drewN _) (Nat.add_assoc _ _ _))⟩)) | (go_at_call 111; (with_reducible refine (spec_l1All.calls k _ _ l0 1 6 t118 _ ?side1 ?side2 A5.out).mono ?_); (case side1 => repeat (first | exact HR0.out | (with_reducible refine Kd.C_alloc ?_ _) | (with_reducible refine Kd.C_drewN ?_ _) | (with_reducible refine Kd.C_drew ?_))); (case side2 => exact HC0.out); rintro e w' ⟨rfl, ⟨nd, rfl⟩⟩; (try first | exact ⟨rfl, _, World.drewN_drewN _ _ _⟩ | exact ⟨rfl, _, Eq.trans (World.drewN_drewN _ _ _) (congrArg (World.drewN _) (Nat.add_assoc _ _ _))⟩)))
   repeat (go_quiet (first | (go_at_call 44; (with_reducible refine (spec_l1In.calls (l0.length : Int) 1 6 true _ A3.out).mono ?_); rintro e w' ⟨rfl, ⟨nd, rfl⟩⟩; (try first | exact ⟨rfl, _, World.drewN_drewN _ _ _⟩ | exact ⟨rfl, _, Eq.trans (World.drewN_drewN _ _ _) (congrArg (World.drewN _) (Nat.add_assoc _ _ _))⟩)) | (go_at_call 111; (with_reducible refine (spec_l1All.calls k _ _ l0 1 6 t118 _ ?side1 ?side2 A5.out).mono ?_); (case side1 => repeat (first | exact HR0.out | (with_reducible refine Kd.C_alloc ?_ _) | (with_reducible refine Kd.C_drewN ?_ _) | (with_reducible refine Kd.C_drew ?_))); (case side2 => exact HC0.out); rintro e w' ⟨rfl, ⟨nd, rfl⟩⟩; (try first | exact ⟨rfl, _, World.drewN_drewN _ _ _⟩ | exact ⟨rfl, _, Eq.trans (World.drewN_drewN _ _ _) (congrArg (World.drewN _) (Nat.add_assoc _ _ _))⟩))); try go_wp2_with (first | (go_at_call 44; (with_reducible refine (spec_l1In.calls (l0.length : Int) 1 6 true _ A3.out).mono ?_); rintro e w' ⟨rfl, ⟨nd, rfl⟩⟩; (try first | exact ⟨rfl, _, World.drewN_drewN _ _ _⟩ | exact ⟨rfl, _, Eq.trans (World.drewN_drewN _ _ _) (congrArg (World.drewN _) (Nat.add_assoc _ _ _))⟩)) | (go_at_call 111; (with_reducible refine (spec_l1All.calls k _ _ l0 1 6 t118 _ ?side1 ?side2 A5.out).mono ?_); (case side1 => repeat (first | exact HR0.out | (with_reducible refine Kd.C_alloc ?_ _) | (with_reducible refine Kd.C_drewN ?_ _) | (with_reducible refine Kd.C_drew ?_))); (case side2 => exact HC0.out); rintro e w' ⟨rfl, ⟨nd, rfl⟩⟩; (try first | exact ⟨rfl, _, World.drewN_drewN _ _ _⟩ | exact ⟨rfl, _, Eq.trans (World.drewN_drewN _ _ _) (congrArg (World.drewN _) (Nat.add_assoc _ _ _))⟩))))
   go_meet
   case rel => exact ⟨_, (!t118), (by first | rfl | (simp; done) | (simp [*]; done)), H', ⟨by first | omega | exact Nat.le_refl _⟩, by repeat (first | exact Drawn0.refl _ | apply Drawn0.step)⟩
  ·replace c4 := Bool.eq_false_iff.mpr c4
   subst c4
   have H1 : (spec_cmGood.j0 k l0 true) = some r := by rw [if_neg (show ¬ (false = true) by decide)] at H; exact H
   clear H
   have H := H1
   clear H1
   have H' := Aside0.mk H
   clear H
   go_wp2_with (first | (go_at_call 44; (with_reducible refine (spec_l1In.calls (l0.length : Int) 1 6 false _ A3.out).mono ?_); rintro e w' ⟨rfl, ⟨nd, rfl⟩⟩; (try first | exact ⟨rfl, _, World.drewN_drewN _ _ _⟩ | exact ⟨rfl, _, Eq.trans (World.drewN_drewN _ _ _) (congrArg (World.drewN _) (Nat.add_assoc _ _ _))⟩)))
   repeat (go_quiet (first | (go_at_call 44; (with_reducible refine (spec_l1In.calls (l0.length : Int) 1 6 false _ A3.out).mono ?_); rintro e w' ⟨rfl, ⟨nd, rfl⟩⟩; (try first | exact ⟨rfl, _, World.drewN_drewN _ _ _⟩ | exact ⟨rfl, _, Eq.trans (World.drewN_drewN _ _ _) (congrArg (World.drewN _) (Nat.add_assoc _ _ _))⟩))); try go_wp2_with (first | (go_at_call 44; (with_reducible refine (spec_l1In.calls (l0.length : Int) 1 6 false _ A3.out).mono ?_); rintro e w' ⟨rfl, ⟨nd, rfl⟩⟩; (try first | exact ⟨rfl, _, World.drewN_drewN _ _ _⟩ | exact ⟨rfl, _, Eq.trans (World.drewN_drewN _ _ _) (congrArg (World.drewN _) (Nat.add_assoc _ _ _))⟩))))
   go_meet
   case rel => exact ⟨_, (true), (by first | rfl | (simp; done) | (simp [*]; done)), H', ⟨by first | omega | exact Nat.le_refl _⟩, by repeat (first | exact Drawn0.refl _ | apply Drawn0.step)⟩
 case rest =>
  clear HC2
  try clear p2
  try clear c4
  obtain ⟨kq, x12_1, rfl, HA, HJ1, ⟨mc1, rfl⟩⟩ := hcut
  cases kq with
  | zero => exact absurd HA.out (by simp [spec_cmGood.j0])
  | succ kj1 =>
   have H := HA.out
   clear HA
   simp only [spec_cmGood.j0] at H
   by_cases c6 : x12_1 = true
   ·subst c6
    have H1 : (some false) = some r := by rw [if_pos rfl] at H; exact H
    clear H
    have H := H1
    clear H1
    obtain rfl := Option.some.inj H
    go_wp2
    repeat (go_quiet (fail); try go_wp2)
    go_ret
    exact ⟨by first | rfl | (simp; done) | (simp [*]; done), by repeat (first | exact Drawn0.refl _ | apply Drawn0.step)⟩
   ·replace c6 := Bool.eq_false_iff.mpr c6
    subst c6
    have H1 : (spec_cmGood.l0 kj1 l0 1) = some r := by rw [if_neg (show ¬ (false = true) by decide)] at H; exact H
    clear H
    have H := H1
    clear H1
    have H' := Aside0.mk H
    clear H
    go_wp2
    repeat (go_quiet (fail); try go_wp2)
    go_loopg [3] kj1 (fun kq v3 w' => ∃ (x3_2 : Int), v3 = .int .i64 x3_2 ∧ Aside0 (spec_cmGood.l0 kq l0 x3_2 = some r) ∧ Aside0 (kq ≤ kj1) ∧ Drawn0 w w')
    case atStart => exact ⟨(1), (by first | rfl | (simp; done) | (simp [*]; done)), H', ⟨Nat.le_refl _⟩, by repeat (first | exact Drawn0.refl _ | apply Drawn0.step)⟩
    case round =>
     clear H'
     try clear c1
     try clear p2
     try clear c4
     try clear c6
     try clear p2
     obtain ⟨x3_2, rfl, HA, HK2, ⟨m2, rfl⟩⟩ := hrel
     cases gk with
     | zero => exact absurd HA.out (by simp [spec_cmGood.l0])
     | succ k2 =>
      have H := HA.out
      clear HA
      simp only [spec_cmGood.l0] at H
      by_cases c7 : x3_2 < (l0.length : Int)
      ·rw [if_pos c7] at H
       have c7b0 : decide (x3_2 < (l0.length : Int)) = true := decide_eq_true c7
       clear c7
       by_cases c8 : 0 ≤ x3_2
       ·rw [if_pos c8] at H
        have c8b0 : decide (0 ≤ x3_2) = true := decide_eq_true c8
        clear c8
        obtain ⟨ji9, hji9⟩ : ∃ j_ : Int, (wrap64 (x3_2 - 1)) = j_ := ⟨_, rfl⟩
        replace H : (if 0 ≤ (ji9) then (if (ji9) < (l0.length : Int) then (if (rd l0 x3_2) > (rd l0 (ji9)) then (some false) else (spec_cmGood.l0 k2 l0 (wrap64 (x3_2 + 1)))) else (none)) else (none)) = some r := by first | (rw [hji9] at H; exact H) | (simp only [hji9] at H ⊢; exact H)
        have hji9w : (IntKind.i64.wrap (x3_2 - 1)) = ji9 := (i64_w _).trans hji9
        by_cases c10 : 0 ≤ (ji9)
        ·rw [if_pos c10] at H
         have c10b0 : decide (0 ≤ (ji9)) = true := decide_eq_true c10
         clear c10
         by_cases c11 : (ji9) < (l0.length : Int)
         ·rw [if_pos c11] at H
          have c11b0 : decide ((ji9) < (l0.length : Int)) = true := decide_eq_true c11
          clear c11
          by_cases c12 : (rd l0 x3_2) > (rd l0 (ji9))
          ·rw [if_pos c12] at H
           have c12b0 : decide ((rd l0 (ji9)) < (rd l0 x3_2)) = true := decide_eq_true c12
           clear c12
           obtain rfl := Option.some.inj H
           have p119 : 0 ≤ (x3_2 : Int) := of_decide_eq_true (by first | (with_reducible assumption) | assumption)
           have q119 : x3_2 < (l0.length : Int) := of_decide_eq_true (by first | (with_reducible assumption) | assumption)
           obtain ⟨ad119, e119, hx119_0⟩ := Kd.at_int HR0.out x3_2 p119 q119
           cases e119
           replace p119 := eq_true p119
           replace q119 := eq_true q119
           have p120 : 0 ≤ ((ji9) : Int) := of_decide_eq_true (by first | (with_reducible assumption) | assumption)
           have q120 : (ji9) < (l0.length : Int) := of_decide_eq_true (by first | (with_reducible assumption) | assumption)
           obtain ⟨ad120, e120, hx120_0⟩ := Kd.at_int HR0.out (ji9) p120 q120
           obtain rfl : ad119 = ad120 := (by injection e120)
           replace p120 := eq_true p120
           replace q120 := eq_true q120
           go_wp2
           repeat (go_quiet (fail); try go_wp2)
           go_ret
           exact ⟨by first | rfl | (simp; done) | (simp only [← hji9] <;> (first | rfl | simp)) | (simp [*]; done), by repeat (first | exact Drawn0.refl _ | apply Drawn0.step)⟩
          ·rw [if_neg c12] at H
           have c12b0 : decide ((rd l0 (ji9)) < (rd l0 x3_2)) = false := decide_eq_false c12
           clear c12
           have H' := Aside0.mk H
           clear H
           have p119 : 0 ≤ (x3_2 : Int) := of_decide_eq_true (by first | (with_reducible assumption) | assumption)
           have q119 : x3_2 < (l0.length : Int) := of_decide_eq_true (by first | (with_reducible assumption) | assumption)
           obtain ⟨ad119, e119, hx119_0⟩ := Kd.at_int HR0.out x3_2 p119 q119
           cases e119
           replace p119 := eq_true p119
           replace q119 := eq_true q119
           have p120 : 0 ≤ ((ji9) : Int) := of_decide_eq_true (by first | (with_reducible assumption) | assumption)
           have q120 : (ji9) < (l0.length : Int) := of_decide_eq_true (by first | (with_reducible assumption) | assumption)
           obtain ⟨ad120, e120, hx120_0⟩ := Kd.at_int HR0.out (ji9) p120 q120
           obtain rfl : ad119 = ad120 := (by injection e120)
           replace p120 := eq_true p120
           replace q120 := eq_true q120
           go_wp2
           repeat (go_quiet (fail); try go_wp2)
           go_roundg k2
           case measure => have := HJ1.out; have := HK2.out; omega
           case rel => exact ⟨(wrap64 (x3_2 + 1)), (by first | rfl | (simp; done) | (simp [*]; done)), H', ⟨by have := HJ1.out; have := HK2.out; omega⟩, by repeat (first | exact Drawn0.refl _ | apply Drawn0.step)⟩
         ·rw [if_neg c11] at H
          exact absurd H (by simp)
        ·rw [if_neg c10] at H
         exact absurd H (by simp)
       ·rw [if_neg c8] at H
        exact absurd H (by simp)
      ·rw [if_neg c7] at H
       have c7b0 : decide (x3_2 < (l0.length : Int)) = false := decide_eq_false c7
       clear c7
       obtain rfl := Option.some.inj H
       go_wp2
       repeat (go_quiet (fail); try go_wp2)
       go_ret
       exact ⟨by first | rfl | (simp; done) | (simp [*]; done), by repeat (first | exact Drawn0.refl _ | apply Drawn0.step)⟩

/-! ### spec_pzHidden: function 43 -/
def spec_pzHidden.f (k : Nat) (l0 : List Int) : Option (Bool) := (spec_cmGood.f k l0).bind fun t121 => (if t121 = true then (if (l0.length : Int) ≤ 4 then (if 0 < (l0.length : Int) then (some (decide ((rd l0 0) ≤ 5))) else (none)) else (some false)) else (some false))
theorem spec_pzHidden.mono : ∀ a0 k, LeO (spec_pzHidden.f k a0) (spec_pzHidden.f (k + 1) a0) := by
 intro a0 k
 unfold spec_pzHidden.f
 repeat' first
   | (with_reducible exact spec_cmGood.mono _ _)
   | (with_reducible exact LeO.refl _)
   | (with_reducible exact LeO.none _)
   | (with_reducible refine LeO.ite ?_ ?_)
   | (with_reducible refine LeO.bind ?_ (fun _ => ?_))
   | exact spec_cmGood.mono _ _
   | exact LeO.none _
   | refine LeO.ite ?_ ?_
   | refine LeO.bind ?_ (fun _ => ?_)
set_option maxHeartbeats 8000000 in
set_option maxRecDepth 100000 in
theorem spec_pzHidden.calls (k : Nat) (A0 : Option Addr) (c0 : Nat) (l0 : List Int) (r : Bool) (w : World) (hr0 : Kd.C (Kd.int .i64) w A0 l0.length l0) (hc0 : l0.length ≤ c0) (h : spec_pzHidden.f k l0 = some r) :
  Calls Tryd.prog 43 #[.slice A0 l0.length c0] w fun e w' => e = .returned (.bool r) ∧ Drawn0 w w' := by
 have HR0 := Aside0.mk hr0
 have HC0 := Aside0.mk hc0
 clear hr0 hc0
 have H : ((spec_cmGood.f k l0).bind fun t121 => (if t121 = true then (if (l0.length : Int) ≤ 4 then (if 0 < (l0.length : Int) then (some (decide ((rd l0 0) ≤ 5))) else (none)) else (some false)) else (some false))) = some r := h
 clear h
 replace H := Option.bind_eq_some_iff.mp H
 obtain ⟨t121, A20, H⟩ := H
 replace H : (if t121 = true then (if (l0.length : Int) ≤ 4 then (if 0 < (l0.length : Int) then (some (decide ((rd l0 0) ≤ 5))) else (none)) else (some false)) else (some false)) = some r := H
 have A2 := Aside0.mk A20
 clear A20
 by_cases c3 : t121 = true
 ·subst c3
  have H1 : (if (l0.length : Int) ≤ 4 then (if 0 < (l0.length : Int) then (some (decide ((rd l0 0) ≤ 5))) else (none)) else (some false)) = some r := by rw [if_pos rfl] at H; exact H
  clear H
  have H := H1
  clear H1
  by_cases c4 : (l0.length : Int) ≤ 4
  ·rw [if_pos c4] at H
   have c4b0 : decide ((l0.length : Int) ≤ 4) = true := decide_eq_true c4
   have c4b1 : decide (l0.length ≤ 4) = true := decide_eq_true (by omega)
   clear c4
   by_cases c5 : 0 < (l0.length : Int)
   ·rw [if_pos c5] at H
    have c5b0 : decide (0 < (l0.length : Int)) = true := decide_eq_true c5
    have c5b1 : decide (0 < l0.length) = true := decide_eq_true (by omega)
    clear c5
    obtain rfl := Option.some.inj H
    go_enter Tryd.func43, Tryd.ntmps43
    go_wp2_with (first | ((with_reducible refine gate_callee (f := 77) rfl ?_); refine goesL_ (some 4) rfl rfl Tryd.func77 (by kernel_rfl) rfl #[.slice A0 l0.length c0] rfl (by (try simp only [List.map_toArray, List.map_cons, List.map_nil]); first | done | rfl | (simp only [List.length_drop, List.length_take]; rfl)) ?_; (with_reducible refine (spec_cmGood.calls k _ _ l0 true _ ?side1 ?side2 A2.out).mono ?_); (case side1 => repeat (first | exact HR0.out | (with_reducible refine Kd.C_alloc ?_ _) | (with_reducible refine Kd.C_drewN ?_ _) | (with_reducible refine Kd.C_drew ?_))); (case side2 => exact HC0.out); rintro e w' ⟨rfl, ⟨nd, rfl⟩⟩; refine ⟨_, rfl, ?_⟩; have p122 : 0 ≤ (0 : Int) := (by omega); have q122 : 0 < (l0.length : Int) := of_decide_eq_true (by first | (with_reducible assumption) | assumption); obtain ⟨ad122, e122, hx122_0⟩ := Kd.at_int HR0.out 0 p122 q122; cases e122; have qi122 : (0 < l0.length) = True := eq_true (by omega); (try rw [show ((0 : Int)).toNat = 0 from rfl] at hx122_0); (try rw [Addr.add_zero'] at hx122_0); replace p122 := eq_true p122; replace q122 := eq_true q122))
    go_ret
    exact ⟨by first | rfl | (simp; done) | (simp [*]; done), by repeat (first | exact Drawn0.refl _ | apply Drawn0.step)⟩
   ·rw [if_neg c5] at H
    exact absurd H (by simp)
  ·rw [if_neg c4] at H
   have c4b0 : decide ((l0.length : Int) ≤ 4) = false := decide_eq_false c4
   have c4b1 : decide (l0.length ≤ 4) = false := decide_eq_false (by omega)
   clear c4
   obtain rfl := Option.some.inj H
   go_enter Tryd.func43, Tryd.ntmps43
   go_wp2_with (first | ((with_reducible refine gate_callee (f := 77) rfl ?_); refine goesL_ (some 4) rfl rfl Tryd.func77 (by kernel_rfl) rfl #[.slice A0 l0.length c0] rfl (by (try simp only [List.map_toArray, List.map_cons, List.map_nil]); first | done | rfl | (simp only [List.length_drop, List.length_take]; rfl)) ?_; (with_reducible refine (spec_cmGood.calls k _ _ l0 true _ ?side1 ?side2 A2.out).mono ?_); (case side1 => repeat (first | exact HR0.out | (with_reducible refine Kd.C_alloc ?_ _) | (with_reducible refine Kd.C_drewN ?_ _) | (with_reducible refine Kd.C_drew ?_))); (case side2 => exact HC0.out); rintro e w' ⟨rfl, ⟨nd, rfl⟩⟩; refine ⟨_, rfl, ?_⟩))
   go_ret
   exact ⟨by first | rfl | (simp; done) | (simp [*]; done), by repeat (first | exact Drawn0.refl _ | apply Drawn0.step)⟩
 ·replace c3 := Bool.eq_false_iff.mpr c3
  subst c3
  have H1 : (some false) = some r := by rw [if_neg (show ¬ (false = true) by decide)] at H; exact H
  clear H
  have H := H1
  clear H1
  obtain rfl := Option.some.inj H
  go_enter Tryd.func43, Tryd.ntmps43
  go_wp2_with (first | ((with_reducible refine gate_callee (f := 77) rfl ?_); refine goesL_ (some 4) rfl rfl Tryd.func77 (by kernel_rfl) rfl #[.slice A0 l0.length c0] rfl (by (try simp only [List.map_toArray, List.map_cons, List.map_nil]); first | done | rfl | (simp only [List.length_drop, List.length_take]; rfl)) ?_; (with_reducible refine (spec_cmGood.calls k _ _ l0 false _ ?side1 ?side2 A2.out).mono ?_); (case side1 => repeat (first | exact HR0.out | (with_reducible refine Kd.C_alloc ?_ _) | (with_reducible refine Kd.C_drewN ?_ _) | (with_reducible refine Kd.C_drew ?_))); (case side2 => exact HC0.out); rintro e w' ⟨rfl, ⟨nd, rfl⟩⟩; refine ⟨_, rfl, ?_⟩))
  go_ret
  exact ⟨by first | rfl | (simp; done) | (simp [*]; done), by repeat (first | exact Drawn0.refl _ | apply Drawn0.step)⟩

/-! ### spec_l1Own: function 127 -/
def spec_l1Own.f (l0 : List Int) : Option (List Int) := (some (([] : List Int) : List Int)).bind fun y123 => (if y123.length + l0.length < 17592186044416 then (some (y123 ++ l0)) else (none))
set_option maxHeartbeats 8000000 in
set_option maxRecDepth 100000 in
theorem spec_l1Own.calls (A0 : Option Addr) (c0 : Nat) (l0 : List Int) (r : List Int) (w : World) (hr0 : Kd.C (Kd.int .i64) w A0 l0.length l0) (hc0 : l0.length ≤ c0) (h : spec_l1Own.f l0 = some r) :
  Calls Tryd.prog 127 #[.slice A0 l0.length c0] w fun e w' => ∃ v0_ : Value, e = .returned (v0_) ∧ Kd.R (Kd.int .i64) 3 w' w.heap.size (fun _ => True) v0_ r ∧ Below w.heap.size w w' := by
 have HR0 := Aside0.mk hr0
 have HC0 := Aside0.mk hc0
 clear hr0 hc0
 have HB := Aside0.mk (Below.refl w.heap.size w)
 have H : ((some (([] : List Int) : List Int)).bind fun y123 => (if y123.length + l0.length < 17592186044416 then (some (y123 ++ l0)) else (none))) = some r := h
 clear h
 obtain ⟨y123, hy123⟩ : ∃ y_ : List Int, y_ = (([] : List Int)) := ⟨_, rfl⟩
 replace H : (if y123.length + l0.length < 17592186044416 then (some (y123 ++ l0)) else (none)) = some r := by first | (rw [hy123]; with_reducible exact H) | (have H2_ := (Option.bind_some _ _).symm.trans H; rw [hy123]; with_reducible exact H2_) | (have H2_ := (Option.bind_some _ _).symm.trans H; with_reducible exact H2_) | with_reducible exact H | (rw [hy123]; exact H) | exact H
 have Ny123 := Aside0.mk hy123
 clear hy123
 by_cases c2 : y123.length + l0.length < 17592186044416
 ·rw [if_pos c2] at H
  have LMc2 := Aside0.mk c2
  clear c2
  obtain ⟨y126, hy126⟩ : ∃ y_ : List Int, y_ = (y123 ++ l0) := ⟨_, rfl⟩
  replace H : (some y126) = some r := by first | (rw [hy126]; with_reducible exact H) | (have H2_ := (Option.bind_some _ _).symm.trans H; rw [hy126]; with_reducible exact H2_) | (have H2_ := (Option.bind_some _ _).symm.trans H; with_reducible exact H2_) | with_reducible exact H | (rw [hy126]; exact H) | exact H
  have Ny126 := Aside0.mk hy126
  clear hy126
  obtain rfl := Option.some.inj H
  go_enter Tryd.func127, Tryd.ntmps127
  go_wp2_with (first | ((with_reducible refine gate_dst (N := 3) rfl ?_); refine Kd.R_lit (Kd.int .i64) _ 3 ?hg (N := 3) ?hd (xs := ([] : List Int)) (inner := []) (ok := fun _ => True) (okp := fun _ => True) ?hr ?hp (fun _ hk => hk) trivial (Below.refl _ _) (Nat.le_refl _) (by simp) ?_; (case hd => rfl); (case hg => rfl); (case hr => first | (go_simp; done) | (go_simp; rfl)); (case hp => exact (Reps.none _ _)); intro v124 w3 ho4 hb hg_ hnew_; clear hg_ hnew_; (first | rw [← Ny123.out] at ho4 | (simp only [Int.reduceToNat] at ho4; rw [← Ny123.out] at ho4)); have n0_ := Aside0.mk (Kd.R_lower ho4 (below_size (Lam.al))); have n1_ := Aside0.mk (below_step (Lam.al) hb); clear HB; have HO125 := n0_; have HB := n1_; clear n0_ n1_; clear hb ho4) | ((with_reducible refine gate_builtin (b := .append) (xs := #[.tmp 3, .tmp 4]) rfl ?_); at_builtin; refine Kd.R_append_rows (Kd.int .i64) (w0 := w) w.heap.size rfl (.tmp 3) (.tmp 4) 38 3 (.int .i64 0) 8 rfl Tryd.underlying38 info3 rfl (by decide) (by omega) v124 y123 l0 _ _ _ (fun _ => True) (fun _ => False) rfl rfl ?aO ?aR (fun _ _ h => h) (fun _ h => h.elim) ?aF ?aB ?aS ?aL ?_; (case aR => repeat (first | exact (Kd.C_below HR0.out HB.out) | (with_reducible refine Kd.C_alloc ?_ _) | (with_reducible refine Kd.C_drewN ?_ _) | (with_reducible refine Kd.C_drew ?_))); (case aB => exact (Lam.al)); (case aF => exact (fun _ _ => trivial)); (case aO => exact (Lam.rq HO125.out)); (case aS => exact (below_size (Lam.al))); (case aL => have := LMc2.out; omega); intro v127 w5 ho hb hg hat; rw [← Ny126.out] at ho; have n0_ := Aside0.mk (hb); have n1_ := Aside0.mk (ho); clear HB; clear HO125; have HB := n0_; have HO128 := n1_; clear n0_ n1_; clear ho hb hg hat))
  go_ret
  exact ⟨_, by first | rfl | (simp [errW_none, errW_some] <;> rfl) | (simp [*, errW_none, errW_some] <;> rfl), by (with_reducible repeat (first | apply Kd.R_alloc | apply Kd.R_drewN | apply Kd.R_drew)); exact HO128.out, Lam.al⟩
 ·rw [if_neg c2] at H
  exact absurd H (by simp)

/-! ### spec_cmAll: function 65 -/
abbrev spec_cmAll.SS (gl : Nat) (vt : Value) : Nat → Prop := fun q => q = gl ∨ some q = vt.ownBlock
theorem spec_cmAll.notS {W : World} {gl base : Nat} {vt : Value} {acc : List (List Int)} {ok : Nat → Prop} {cx cs : Array Value} {q t : Nat} (hx : W.heap[gl]? = some (.cells cx 26 (0, 0))) (ht : Kd.S (Kd.slice 3 (Kd.int .i64)) 38 W base ok vt acc) (hq : W.heap[q]? = some (.cells cs t (0, 0))) (h1 : t ≠ 26) (h2 : t ≠ 38) : ¬ spec_cmAll.SS gl vt q := by
 rintro (rfl | h)
 ·rw [hx] at hq; cases hq; exact h1 rfl
 ·obtain ⟨inner, ho⟩ := Kd.S_own ht
  obtain ⟨cells, hc⟩ := own_typed ho q h.symm
  rw [hc] at hq; cases hq; exact h2 rfl
theorem spec_cmAll.keepR {w W : World} {gl base : Nat} {vt vb : Value} {acc : List (List Int)} {bg : List Int} {ok : Nat → Prop} {cx : Array Value} (hx : w.heap[gl]? = some (.cells cx 26 (0, 0))) (ht : Kd.S (Kd.slice 3 (Kd.int .i64)) 38 w base ok vt acc) (hb : Kd.R (Kd.int .i64) 3 w base (fun _ => True) vb bg) (hk : Kq.KQ w W (spec_cmAll.SS gl vt)) : Kd.R (Kd.int .i64) 3 W base (fun _ => True) vb bg :=
 Kd.R_mono (Kq.R_kq (Kd.R_bound hb) hk (fun k hk => by
  obtain ⟨_, _, _, q, hq, cells, hc⟩ := hk
  have hq : q = 3 := by simpa [Kd.int, Kd.scalar] using hq
  subst hq
  exact spec_cmAll.notS hx ht hc (by decide) (by decide))) (fun _ _ => trivial)
theorem spec_cmAll.thenS {w W W2 : World} {gl : Nat} {vt vt1 : Value} (h : Kq.KQ w W (spec_cmAll.SS gl vt)) (k : Kq.KQ W W2 (spec_cmAll.SS gl vt1)) (hat : vt1.ownBlock = vt.ownBlock ∨ ∃ b, vt1.ownBlock = some b ∧ w.heap.size ≤ b) : Kq.KQ w W2 (spec_cmAll.SS gl vt) :=
 h.then_ k (fun q hq => by
  rcases hq with hq | hq
  ·exact .inl (.inl hq)
  ·rcases hat with hat | ⟨b, hb, hle⟩
   ·exact .inl (.inr (by rw [hq, hat]))
   ·rw [hb] at hq; cases hq; exact .inr hle)
theorem spec_cmAll.atS {w W : World} {v0 v1 v2 : Value} (h : v1.ownBlock = v0.ownBlock ∨ ∃ b, v1.ownBlock = some b ∧ w.heap.size ≤ b) (hs : w.heap.size ≤ W.heap.size) (k : v2.ownBlock = v1.ownBlock ∨ ∃ b, v2.ownBlock = some b ∧ W.heap.size ≤ b) : v2.ownBlock = v0.ownBlock ∨ ∃ b, v2.ownBlock = some b ∧ w.heap.size ≤ b := by
 rcases k with k | ⟨b, hb, hle⟩
 ·rw [k]; exact h
 ·exact .inr ⟨b, hb, Nat.le_trans hs hle⟩
/-- Rows that are elder than a row made since lie apart from it. -/
theorem spec_cmAll.apartS {w W : World} {base : Nat} {vt vb : Value} {acc : List (List Int)} {ok : Nat → Prop} (h : Kd.S (Kd.slice 3 (Kd.int .i64)) 38 w base ok vt acc) (hb : Below w.heap.size w W) (hv : ∀ k, vb.ownBlock = some k → w.heap.size ≤ k) : Kd.S (Kd.slice 3 (Kd.int .i64)) 38 W base (fun q => some q ≠ vb.ownBlock) vt acc :=
 Kd.S_mono (Kd.S_below (Kd.S_bound h) hb) (fun k hk e => by have h1 := hv k e.symm; have h2 := hk.2.2.1; omega)
set_option maxHeartbeats 8000000 in
set_option maxRecDepth 100000 in
theorem spec_cmAll.rec : ∀ (k wide : Nat) (bg : List Int) (acc r : List (List Int)) (vb vt : Value) (gl base : Nat) (w : World),
  bg.length + k ≤ 1000 → wide ≤ 1000 → base ≤ w.heap.size →
  Kd.R (Kd.int .i64) 3 w base (fun _ => True) vb bg → w.heap[gl]? = some (.cells #[vt] 26 (0, 0)) → Kd.S (Kd.slice 3 (Kd.int .i64)) 38 w base (fun q => some q ≠ vb.ownBlock) vt acc →
  Comb.look k wide bg acc = some r →
  Calls Tryd.prog 103 #[.int .i64 wide, .int .i64 k, vb, .pointer (some ⟨gl, 0, none⟩)] w fun e w' => e = .returned (.tuple #[]) ∧ ∃ vt' : Value, w'.heap[gl]? = some (.cells #[vt'] 26 (0, 0)) ∧ Kd.S (Kd.slice 3 (Kd.int .i64)) 38 w' base (fun _ => True) vt' r ∧ (vt'.ownBlock = vt.ownBlock ∨ ∃ b, vt'.ownBlock = some b ∧ w.heap.size ≤ b) ∧ Kq.KQ w w' (spec_cmAll.SS gl vt) := by
 intro k
 induction k with
 | zero =>
  intro wide bg acc r vb vt gl base w hk hwd hbase hb hx ht h
  have hu38 := Tryd.underlying38
  have hw64 : (wide : Int) ≤ 9223372036854775806 := by omega
  obtain ⟨Ab, cb, rfl⟩ := Kd.R_slice hb
  obtain ⟨At, ct, rfl⟩ := Kd.S_slice ht
  have hacc : acc.length < 1000000000 := by
   rcases Nat.lt_or_ge acc.length 1000000000 with h2 | h2
   ·exact h2
   ·simp only [Comb.look] at h; rw [if_neg (by omega)] at h; cases h
  simp only [Comb.look] at h
  rw [if_pos hacc] at h
  have hcell : w.cell? ⟨gl, 0, none⟩ = some (.slice At acc.length ct) := (blk_cell hx 0).trans rfl
  have hfroz := blk_frozen hx 0
  have HG := Aside0.mk h
  have HCl := Aside0.mk hacc
  have HX := Aside0.mk hx
  have HRb := Aside0.mk hb
  have HRt := Aside0.mk ht
  have HS := Aside0.mk hbase
  have HL := Aside0.mk hk
  have HW := Aside0.mk hwd
  have hown : spec_l1Own.f bg = some bg := by unfold spec_l1Own.f; rw [Option.bind_some, List.length_nil, if_pos (by omega), List.nil_append]
  have HCALL := Aside0.mk (fun W (hW : Kq.KQ w W (spec_cmAll.SS gl (.slice At acc.length ct))) => spec_l1Own.calls Ab cb bg bg W (Kd.R_reads' (spec_cmAll.keepR hx ht hb hW)).2.2 (Kd.R_reads' hb).2.1 hown)
  clear hx hb ht h hacc hbase hk hown hwd
  rcases Nat.eq_zero_or_pos bg.length with c0 | c0
  ·obtain rfl : bg = [] := List.eq_nil_of_length_eq_zero c0
   have X1 := HX
   have K1 := Aside0.mk (Kq.KQ.refl w (spec_cmAll.SS gl (.slice At acc.length ct)))
   have R1 := Aside0.mk (Kd.S_mono HRt.out (fun _ _ => trivial) : Kd.S (Kd.slice 3 (Kd.int .i64)) 38 w base (fun _ => True) (.slice At acc.length ct) acc)
   have HG1 := Aside0.mk (show some (acc) = some r from HG.out)
   clear HG c0 hcell hfroz
   simp only [List.length_nil]
   go_enter Tryd.func103, Tryd.ntmps103
   go_wp2
   have T1 := Aside0.mk (Or.inl rfl : (Value.slice At acc.length ct).ownBlock = (Value.slice At acc.length ct).ownBlock ∨ ∃ b, (Value.slice At acc.length ct).ownBlock = some b ∧ w.heap.size ≤ b)
   (try simp only [Exit.inBlock, Exit.then])
   refine bodyPost_ret (results_none rfl _ _ _) rfl ?_
   obtain rfl := Option.some.inj HG1.out
   exact ⟨rfl, _, X1.out, R1.out, T1.out, K1.out⟩
  ·have cz : ¬ bg.length = 0 := by omega
   have cp : (0 : Int) < (bg.length : Int) := by omega
   have HG1 := Aside0.mk (show some (acc ++ [bg]) = some r from by have h := HG.out; simp only [Comb.put, if_neg cz] at h; exact h)
   clear HG c0 cz
   go_enter Tryd.func103, Tryd.ntmps103
   go_wp2_with (first
     | ((with_reducible refine gate_builtin (b := .append) (xs := #[.tmp 15, .tmp 17]) rfl ?_); at_builtin; go_loud (refine Kd.S_append (Kd.slice 3 (Kd.int .i64)) (w0 := w) base rfl (.tmp 15) (.tmp 17) 26 38 (.slice none 0 0) 24 rfl Tryd.underlying26 info38 rfl (by decide) (by omega) (.slice At acc.length ct) acc bg [.slice Ab bg.length cb] (fun _ => True) (fun k => some k = (Value.slice Ab bg.length cb).ownBlock) rfl rfl ?aP ?aK (fun _ _ => trivial) ?aO (Below.refl _ _) HS.out ?aL ?_); (case aP => exact Kd.M_row (Kd.R_mono (Kd.R_tight rfl HRb.out) (fun _ h => h))); (case aK => exact fun k hk => (Kd.R_apart' HRb.out (Kd.S_typed HRt.out) (by decide)).1 k hk.symm); (case aO => exact Kd.S_mono HRt.out (fun k hk => ⟨trivial, hk⟩)); (case aL => have := HCl.out; omega); intro v1 w1 ho1 hb1 hg1 hat1; obtain ⟨A1, c1, e1⟩ := Kd.S_slice ho1; rw [List.length_append, List.length_singleton] at e1; subst e1; have x1 := blk_grown HX.out hg1 (Kd.S_ne HRt.out HX.out (by decide)); have hcl1 : w1.cell? ⟨gl, 0, none⟩ = some (.slice At acc.length ct) := (blk_cell x1 0).trans rfl; have hfl1 := blk_frozen x1 0; have X1 := Aside0.mk (blk_put (cs := #[.slice At acc.length ct]) x1 0 (.slice A1 (acc.length + 1) c1) rfl); have R1 := Aside0.mk (Kd.S_set ho1 x1 (by simp [Kd.slice, Kd.int, Kd.scalar]) 0 (.slice A1 (acc.length + 1) c1)); have T1 := Aside0.mk hat1; have K1 : Aside0 (Kq.KQ w (w1.setCell ⟨gl, 0, none⟩ (.slice A1 (acc.length + 1) c1)) (spec_cmAll.SS gl (.slice At acc.length ct))) := ⟨Kq.KQ.setCell ⟨⟨hg1.size, fun k hk hs => hg1.block k hk (fun e => hs (.inr e))⟩, hg1.os, hg1.tape, hg1.output⟩ (.inl (.inl rfl)) _⟩; clear hcell hfroz ho1 hb1 hg1 hat1 x1))
   clear hcl1 hfl1
   generalize (w1.setCell ⟨gl, 0, none⟩ (.slice A1 (acc.length + 1) c1)) = w2 at X1 R1 T1 K1 ⊢
   (try simp only [Exit.inBlock, Exit.then])
   refine bodyPost_ret (results_none rfl _ _ _) rfl ?_
   obtain rfl := Option.some.inj HG1.out
   exact ⟨rfl, _, X1.out, R1.out, T1.out, K1.out⟩
 | succ k ih =>
  have IH := Aside0.mk ih
  intro wide bg acc r vb vt gl base w hk hwd hbase hb hx ht h
  have hu38 := Tryd.underlying38
  have hw64 : (wide : Int) ≤ 9223372036854775806 := by omega
  obtain ⟨kz, hkz⟩ : ∃ kz : Int, kz = ((k + 1 : Nat) : Int) := ⟨_, rfl⟩
  rw [← hkz]
  have hk0 : ¬ kz = 0 := by omega
  have hk1 : (1 : Int) ≤ kz := by omega
  have hk2 : kz ≤ 1001 := by omega
  have HKZ := Aside0.mk hkz
  clear hkz
  obtain ⟨Ab, cb, rfl⟩ := Kd.R_slice hb
  obtain ⟨At, ct, rfl⟩ := Kd.S_slice ht
  have hacc : acc.length < 1000000000 := by
   rcases Nat.lt_or_ge acc.length 1000000000 with h2 | h2
   ·exact h2
   ·simp only [Comb.look] at h; rw [if_neg (by omega)] at h; cases h
  simp only [Comb.look] at h
  rw [if_pos hacc] at h
  have hcell : w.cell? ⟨gl, 0, none⟩ = some (.slice At acc.length ct) := (blk_cell hx 0).trans rfl
  have hfroz := blk_frozen hx 0
  have HG := Aside0.mk h
  have HCl := Aside0.mk hacc
  have HX := Aside0.mk hx
  have HRb := Aside0.mk hb
  have HRt := Aside0.mk ht
  have HS := Aside0.mk hbase
  have HL := Aside0.mk hk
  have HW := Aside0.mk hwd
  have hown : spec_l1Own.f bg = some bg := by unfold spec_l1Own.f; rw [Option.bind_some, List.length_nil, if_pos (by omega), List.nil_append]
  have HCALL := Aside0.mk (fun W (hW : Kq.KQ w W (spec_cmAll.SS gl (.slice At acc.length ct))) => spec_l1Own.calls Ab cb bg bg W (Kd.R_reads' (spec_cmAll.keepR hx ht hb hW)).2.2 (Kd.R_reads' hb).2.1 hown)
  clear ih hx hb ht h hacc hbase hk hown hwd
  rcases Nat.eq_zero_or_pos bg.length with c0 | c0
  ·obtain rfl : bg = [] := List.eq_nil_of_length_eq_zero c0
   have X1 := HX
   have K1 := Aside0.mk (Kq.KQ.refl w (spec_cmAll.SS gl (.slice At acc.length ct)))
   have R1 := Aside0.mk (Kd.S_mono HRt.out (fun _ _ => trivial) : Kd.S (Kd.slice 3 (Kd.int .i64)) 38 w base (fun _ => True) (.slice At acc.length ct) acc)
   have HG1 := Aside0.mk (show Comb.go (Comb.look k) [] wide 1 acc = some r from HG.out)
   clear HG c0 hcell hfroz
   simp only [List.length_nil]
   go_enter Tryd.func103, Tryd.ntmps103
   go_wp2
   have T1 := Aside0.mk (Or.inl rfl : (Value.slice At acc.length ct).ownBlock = (Value.slice At acc.length ct).ownBlock ∨ ∃ b, (Value.slice At acc.length ct).ownBlock = some b ∧ w.heap.size ≤ b)
   go_loopg [8] wide (fun gg v w' => ∃ (kk : Nat) (acc1 : List (List Int)) (vt1 : Value), 1 ≤ kk ∧ kk ≤ wide + 1 ∧ wide + 1 - kk ≤ gg ∧ v = .int .i64 kk ∧ Aside0 (Comb.go (Comb.look k) [] (wide + 1 - kk) kk acc1 = some r) ∧ Aside0 (w'.heap[gl]? = some (.cells #[vt1] 26 (0, 0))) ∧ Aside0 (Kd.S (Kd.slice 3 (Kd.int .i64)) 38 w' base (fun _ => True) vt1 acc1) ∧ Aside0 (vt1.ownBlock = (Value.slice At acc.length ct).ownBlock ∨ ∃ b, vt1.ownBlock = some b ∧ w.heap.size ≤ b) ∧ Aside0 (Kq.KQ w w' (spec_cmAll.SS gl (.slice At acc.length ct))))
   case atStart => exact ⟨1, _, _, Nat.le_refl _, by omega, by omega, rfl, ⟨HG1.out⟩, X1, R1, T1, K1⟩
   case round =>
    clear X1 R1 T1 K1 HG1
    obtain ⟨kk, acc1, vt1, hk1, hkk, hgg, rfl, HG, HX1, HR1, HT1, HK1⟩ := hrel
    by_cases hlt : kk ≤ wide
    ·have hltz : (kk : Int) ≤ (wide : Int) := by omega
     obtain ⟨m, hm⟩ : ∃ m, wide + 1 - kk = m + 1 := ⟨wide - kk, by omega⟩
     have H := HG.out
     rw [hm] at H
     simp only [Comb.go] at H
     obtain ⟨t, ht_, H⟩ := Option.bind_eq_some_iff.mp H
     have HT := Aside0.mk ht_
     have HG2 := Aside0.mk H
     clear HG ht_ H
     go_wp2_with (first
      | (go_at_call 127; go_loud (refine (HCALL.out _ HK1.out).mono ?_; rintro e wc ⟨vo, rfl, ho, hbc⟩); have HO := Aside0.mk ho; have HBc := Aside0.mk hbc; clear ho hbc)
      | ((with_reducible refine gate_builtin (b := .append) (xs := #[.tmp 31, .tmp 33]) rfl ?_); at_builtin; go_loud (refine Kd.R_append (Kd.int .i64) (w0 := wr) wr.heap.size rfl (.tmp 31) (.tmp 33) 38 3 (.int .i64 0) 8 rfl hu38 info3 rfl (by decide) (by omega) vo [] (kk : Int) [.int .i64 (kk : Int)] (fun _ => True) (fun _ => False) rfl rfl ?aP (fun _ hk => hk.elim) (fun _ _ => trivial) HO.out HBc.out HBc.out.size ?aL ?_); (case aP => exact rfl); (case aL => have := HL.out; omega); intro v3 w3 ho3 hb3 hg3 hat3; obtain ⟨A3, c3, e3⟩ := Kd.R_slice ho3; rw [List.length_append, List.length_singleton] at e3; subst e3; have K3 := Aside0.mk (Kq.KQ.below HK1.out hb3); have HO3 := Aside0.mk ho3; have HB3 := Aside0.mk hb3; clear HO HBc ho3 hb3 hg3 hat3)
      | (go_at_call 103; rw [show kz - 1 = (k : Int) from by have := HKZ.out; omega]; go_loud (refine (IH.out kk ([] ++ [(kk : Int)]) acc1 t (.slice A3 (0 + 1) c3) vt1 gl base w3 (by have := HL.out; simp only [List.length_append, List.length_singleton]; omega) (by have := HW.out; omega) (Nat.le_trans HS.out K3.out.size) (Kd.R_lower HO3.out (Nat.le_trans HS.out HK1.out.size)) (blk_below HX1.out HB3.out) (spec_cmAll.apartS HR1.out HB3.out (Kd.R_base HO3.out)) HT.out).mono ?_; rintro e w5 ⟨rfl, vt2, hx5, hr5, ht5, hk5⟩); have HX2 := Aside0.mk hx5; have HR2 := Aside0.mk hr5; have HT2 := Aside0.mk (spec_cmAll.atS HT1.out K3.out.size ht5); have HK2 := Aside0.mk (spec_cmAll.thenS K3.out hk5 HT1.out); clear hx5 hr5 ht5 hk5 HX1 HR1 HK1 K3 HO3 HB3))
     go_roundg (wide + 1 - (kk + 1))
     case measure => omega
     case rel => exact ⟨kk + 1, t, vt2, by omega, by omega, by omega, by go_num, ⟨by rw [show wide + 1 - (kk + 1) = m by omega]; exact HG2.out⟩, HX2, HR2, HT2, HK2⟩
    ·obtain rfl : kk = wide + 1 := by omega
     have H := HG.out
     rw [Nat.sub_self] at H
     simp only [Comb.go] at H
     obtain rfl := Option.some.inj H
     clear HG H
     have hltz : ¬ ((wide + 1 : Nat) : Int) ≤ (wide : Int) := by omega
     go_wp2
     go_end0
     exact ⟨rfl, vt1, HX1.out, HR1.out, HT1.out, HK1.out⟩
  ·have cz : ¬ bg.length = 0 := by omega
   have cp : (0 : Int) < (bg.length : Int) := by omega
   have HG1 := Aside0.mk (show Comb.go (Comb.look k) bg wide 1 (acc ++ [bg]) = some r from by have h := HG.out; simp only [Comb.put, if_neg cz] at h; exact h)
   clear HG c0 cz
   go_enter Tryd.func103, Tryd.ntmps103
   go_wp2_with (first
     | ((with_reducible refine gate_builtin (b := .append) (xs := #[.tmp 15, .tmp 17]) rfl ?_); at_builtin; go_loud (refine Kd.S_append (Kd.slice 3 (Kd.int .i64)) (w0 := w) base rfl (.tmp 15) (.tmp 17) 26 38 (.slice none 0 0) 24 rfl Tryd.underlying26 info38 rfl (by decide) (by omega) (.slice At acc.length ct) acc bg [.slice Ab bg.length cb] (fun _ => True) (fun k => some k = (Value.slice Ab bg.length cb).ownBlock) rfl rfl ?aP ?aK (fun _ _ => trivial) ?aO (Below.refl _ _) HS.out ?aL ?_); (case aP => exact Kd.M_row (Kd.R_mono (Kd.R_tight rfl HRb.out) (fun _ h => h))); (case aK => exact fun k hk => (Kd.R_apart' HRb.out (Kd.S_typed HRt.out) (by decide)).1 k hk.symm); (case aO => exact Kd.S_mono HRt.out (fun k hk => ⟨trivial, hk⟩)); (case aL => have := HCl.out; omega); intro v1 w1 ho1 hb1 hg1 hat1; obtain ⟨A1, c1, e1⟩ := Kd.S_slice ho1; rw [List.length_append, List.length_singleton] at e1; subst e1; have x1 := blk_grown HX.out hg1 (Kd.S_ne HRt.out HX.out (by decide)); have hcl1 : w1.cell? ⟨gl, 0, none⟩ = some (.slice At acc.length ct) := (blk_cell x1 0).trans rfl; have hfl1 := blk_frozen x1 0; have X1 := Aside0.mk (blk_put (cs := #[.slice At acc.length ct]) x1 0 (.slice A1 (acc.length + 1) c1) rfl); have R1 := Aside0.mk (Kd.S_set ho1 x1 (by simp [Kd.slice, Kd.int, Kd.scalar]) 0 (.slice A1 (acc.length + 1) c1)); have T1 := Aside0.mk hat1; have K1 : Aside0 (Kq.KQ w (w1.setCell ⟨gl, 0, none⟩ (.slice A1 (acc.length + 1) c1)) (spec_cmAll.SS gl (.slice At acc.length ct))) := ⟨Kq.KQ.setCell ⟨⟨hg1.size, fun k hk hs => hg1.block k hk (fun e => hs (.inr e))⟩, hg1.os, hg1.tape, hg1.output⟩ (.inl (.inl rfl)) _⟩; clear hcell hfroz ho1 hb1 hg1 hat1 x1))
   clear hcl1 hfl1
   generalize (w1.setCell ⟨gl, 0, none⟩ (.slice A1 (acc.length + 1) c1)) = w2 at X1 R1 T1 K1 ⊢
   go_loopg [8] wide (fun gg v w' => ∃ (kk : Nat) (acc1 : List (List Int)) (vt1 : Value), 1 ≤ kk ∧ kk ≤ wide + 1 ∧ wide + 1 - kk ≤ gg ∧ v = .int .i64 kk ∧ Aside0 (Comb.go (Comb.look k) bg (wide + 1 - kk) kk acc1 = some r) ∧ Aside0 (w'.heap[gl]? = some (.cells #[vt1] 26 (0, 0))) ∧ Aside0 (Kd.S (Kd.slice 3 (Kd.int .i64)) 38 w' base (fun _ => True) vt1 acc1) ∧ Aside0 (vt1.ownBlock = (Value.slice At acc.length ct).ownBlock ∨ ∃ b, vt1.ownBlock = some b ∧ w.heap.size ≤ b) ∧ Aside0 (Kq.KQ w w' (spec_cmAll.SS gl (.slice At acc.length ct))))
   case atStart => exact ⟨1, _, _, Nat.le_refl _, by omega, by omega, rfl, ⟨HG1.out⟩, X1, R1, T1, K1⟩
   case round =>
    clear X1 R1 T1 K1 HG1
    obtain ⟨kk, acc1, vt1, hk1, hkk, hgg, rfl, HG, HX1, HR1, HT1, HK1⟩ := hrel
    by_cases hlt : kk ≤ wide
    ·have hltz : (kk : Int) ≤ (wide : Int) := by omega
     obtain ⟨m, hm⟩ : ∃ m, wide + 1 - kk = m + 1 := ⟨wide - kk, by omega⟩
     have H := HG.out
     rw [hm] at H
     simp only [Comb.go] at H
     obtain ⟨t, ht_, H⟩ := Option.bind_eq_some_iff.mp H
     have HT := Aside0.mk ht_
     have HG2 := Aside0.mk H
     clear HG ht_ H
     go_wp2_with (first
      | (go_at_call 127; go_loud (refine (HCALL.out _ HK1.out).mono ?_; rintro e wc ⟨vo, rfl, ho, hbc⟩); have HO := Aside0.mk ho; have HBc := Aside0.mk hbc; clear ho hbc)
      | ((with_reducible refine gate_builtin (b := .append) (xs := #[.tmp 31, .tmp 33]) rfl ?_); at_builtin; go_loud (refine Kd.R_append (Kd.int .i64) (w0 := wr) wr.heap.size rfl (.tmp 31) (.tmp 33) 38 3 (.int .i64 0) 8 rfl hu38 info3 rfl (by decide) (by omega) vo bg (kk : Int) [.int .i64 (kk : Int)] (fun _ => True) (fun _ => False) rfl rfl ?aP (fun _ hk => hk.elim) (fun _ _ => trivial) HO.out HBc.out HBc.out.size ?aL ?_); (case aP => exact rfl); (case aL => have := HL.out; omega); intro v3 w3 ho3 hb3 hg3 hat3; obtain ⟨A3, c3, e3⟩ := Kd.R_slice ho3; rw [List.length_append, List.length_singleton] at e3; subst e3; have K3 := Aside0.mk (Kq.KQ.below HK1.out hb3); have HO3 := Aside0.mk ho3; have HB3 := Aside0.mk hb3; clear HO HBc ho3 hb3 hg3 hat3)
      | (go_at_call 103; rw [show kz - 1 = (k : Int) from by have := HKZ.out; omega]; go_loud (refine (IH.out kk (bg ++ [(kk : Int)]) acc1 t (.slice A3 (bg.length + 1) c3) vt1 gl base w3 (by have := HL.out; simp only [List.length_append, List.length_singleton]; omega) (by have := HW.out; omega) (Nat.le_trans HS.out K3.out.size) (Kd.R_lower HO3.out (Nat.le_trans HS.out HK1.out.size)) (blk_below HX1.out HB3.out) (spec_cmAll.apartS HR1.out HB3.out (Kd.R_base HO3.out)) HT.out).mono ?_; rintro e w5 ⟨rfl, vt2, hx5, hr5, ht5, hk5⟩); have HX2 := Aside0.mk hx5; have HR2 := Aside0.mk hr5; have HT2 := Aside0.mk (spec_cmAll.atS HT1.out K3.out.size ht5); have HK2 := Aside0.mk (spec_cmAll.thenS K3.out hk5 HT1.out); clear hx5 hr5 ht5 hk5 HX1 HR1 HK1 K3 HO3 HB3))
     go_roundg (wide + 1 - (kk + 1))
     case measure => omega
     case rel => exact ⟨kk + 1, t, vt2, by omega, by omega, by omega, by go_num, ⟨by rw [show wide + 1 - (kk + 1) = m by omega]; exact HG2.out⟩, HX2, HR2, HT2, HK2⟩
    ·obtain rfl : kk = wide + 1 := by omega
     have H := HG.out
     rw [Nat.sub_self] at H
     simp only [Comb.go] at H
     obtain rfl := Option.some.inj H
     clear HG H
     have hltz : ¬ ((wide + 1 : Nat) : Int) ≤ (wide : Int) := by omega
     go_wp2
     go_end0
     exact ⟨rfl, vt1, HX1.out, HR1.out, HT1.out, HK1.out⟩
def spec_cmAll.f (a0 : Int) (a1 : Int) : Option ((List (List Int))) := if 0 ≤ a0 ∧ a0 ≤ 1000 ∧ 0 ≤ a1 ∧ a1 ≤ 1000 then Comb.look a1.toNat a0.toNat [] [] else none
set_option maxHeartbeats 8000000 in
set_option maxRecDepth 100000 in
theorem spec_cmAll.calls (a0 : Int) (a1 : Int) (r : List (List Int)) (w : World) (h : spec_cmAll.f a0 a1 = some r) :
  Calls Tryd.prog 65 #[.int .i64 a0, .int .i64 a1] w fun e w' => ∃ v0_ : Value, e = .returned (v0_) ∧ Kd.S (Kd.slice 3 (Kd.int .i64)) 38 w' w.heap.size (fun _ => True) v0_ r ∧ Below w.heap.size w w' := by
 have hc : 0 ≤ a0 ∧ a0 ≤ 1000 ∧ 0 ≤ a1 ∧ a1 ≤ 1000 := by
  by_cases hc : 0 ≤ a0 ∧ a0 ≤ 1000 ∧ 0 ≤ a1 ∧ a1 ≤ 1000
  ·exact hc
  ·simp only [spec_cmAll.f, if_neg hc] at h; cases h
 simp only [spec_cmAll.f, if_pos hc] at h
 obtain ⟨wide, rfl⟩ := Int.eq_ofNat_of_zero_le hc.1
 obtain ⟨high, rfl⟩ := Int.eq_ofNat_of_zero_le hc.2.2.1
 rw [Int.toNat_natCast, Int.toNat_natCast] at h
 have HT := Aside0.mk h
 have HC := Aside0.mk hc
 have HB := Aside0.mk (Below.refl w.heap.size w)
 clear h hc
 go_enter Tryd.func65, Tryd.ntmps65
 go_wp2_with (first
  | ((with_reducible refine gate_dst (N := 5) rfl ?_); refine box_event ?hg (N := 5) ?hd (cs := #[.slice none 0 0]) (t := 26) ?hr ?_; (case hd => rfl); (case hg => rfl); (case hr => first | (go_simp; done) | (go_simp; rfl)); intro g3 hg w3 hbox hb; have G3 := Aside0.mk ((by rw [hg]; exact HB.out.size) : w.heap.size ≤ g3); have n0_ := Aside0.mk (below_step HB.out hb); clear HB; have HB := n0_; clear n0_; have B3 := Aside0.mk hbox; clear hb hbox hg)
  | (go_at_call 103; go_loud (refine (spec_cmAll.rec high wide [] [] r (.slice none 0 0) (.slice none 0 0) g3 w.heap.size w3 (by have := HC.out; simp; omega) (by have := HC.out; omega) HB.out.size (Kd.R_nil _ _ _ _ _) B3.out (Kd.S_nil _ _ _ _ _) HT.out).mono ?_; rintro e w7 ⟨rfl, vt, hx, hr, _, hk⟩); have n0_ := Aside0.mk (Kq.KQ.to_below HB.out hk (fun q hq => by rcases hq with rfl | hq; exact G3.out; simp [Value.ownBlock] at hq)); have hcv : w7.cell? ⟨g3, 0, none⟩ = some vt := (blk_cell hx 0).trans rfl; have HR := Aside0.mk hr; clear HB hr hk hx; have HB := n0_; clear n0_))
 go_ret
 exact ⟨_, rfl, HR.out, HB.out⟩

/-! ### spec_cmKey: function 105 -/
def spec_cmKey.l0 : Nat → List Int → Int → Int → Option (Int)
 | 0, _, _, _ => none
 | k + 1, x0, x3, x4 => if x4 < 6 then (if x4 < (x0.length : Int) then (if 0 ≤ x4 then (spec_cmKey.l0 k x0 (wrap64 ((wrap64 (x3 * 7)) + (rd x0 x4))) (wrap64 (x4 + 1))) else (none)) else (spec_cmKey.l0 k x0 (wrap64 (x3 * 7)) (wrap64 (x4 + 1)))) else (some x3)
def spec_cmKey.f (k : Nat) (l0 : List Int) : Option (Int) := spec_cmKey.l0 k l0 0 0
theorem spec_cmKey.mono_l : ∀ k, (∀ y0 y1 y2, LeO (spec_cmKey.l0 k y0 y1 y2) (spec_cmKey.l0 (k + 1) y0 y1 y2))
 | 0 => fun _ _ _ r h => by simp [spec_cmKey.l0] at h
 | k + 1 => by
  have ih0 := spec_cmKey.mono_l k
  ·intro y0 y1 y2
   unfold spec_cmKey.l0
   repeat' first
   | (with_reducible exact ih0 _ _ _)
   | (with_reducible exact LeO.refl _)
   | (with_reducible exact LeO.none _)
   | (with_reducible refine LeO.ite ?_ ?_)
   | (with_reducible refine LeO.bind ?_ (fun _ => ?_))
   | exact ih0 _ _ _
   | exact LeO.none _
   | refine LeO.ite ?_ ?_
   | refine LeO.bind ?_ (fun _ => ?_)
theorem spec_cmKey.mono : ∀ a0 k, LeO (spec_cmKey.f k a0) (spec_cmKey.f (k + 1) a0) := by
 intro a0 k
 have ih0 := spec_cmKey.mono_l k
 unfold spec_cmKey.f
 repeat' first
   | (with_reducible exact ih0 _ _ _)
   | (with_reducible exact LeO.refl _)
   | (with_reducible exact LeO.none _)
   | (with_reducible refine LeO.ite ?_ ?_)
   | (with_reducible refine LeO.bind ?_ (fun _ => ?_))
   | exact ih0 _ _ _
   | exact LeO.none _
   | refine LeO.ite ?_ ?_
   | refine LeO.bind ?_ (fun _ => ?_)
set_option maxHeartbeats 8000000 in
set_option maxRecDepth 100000 in
theorem spec_cmKey.calls (k : Nat) (A0 : Option Addr) (c0 : Nat) (l0 : List Int) (r : Int) (w : World) (hr0 : Kd.C (Kd.int .i64) w A0 l0.length l0) (hc0 : l0.length ≤ c0) (h : spec_cmKey.f k l0 = some r) :
  Calls Tryd.prog 105 #[.slice A0 l0.length c0] w fun e w' => e = .returned (.int .i64 r) ∧ Drawn0 w w' := by
 have HR0 := Aside0.mk hr0
 have HC0 := Aside0.mk hc0
 clear hr0 hc0
 have H : (spec_cmKey.l0 k l0 0 0) = some r := h
 clear h
 have H' := Aside0.mk H
 clear H
 go_enter Tryd.func105, Tryd.ntmps105
 go_wp2
 go_loopg [3, 4] k (fun kq v3 v4 w' => ∃ (x3_1 : Int) (x4_1 : Int), v3 = .int .i64 x3_1 ∧ v4 = .int .i64 x4_1 ∧ Aside0 (spec_cmKey.l0 kq l0 x3_1 x4_1 = some r) ∧ Aside0 (kq ≤ k) ∧ Drawn0 w w')
 case atStart => exact ⟨(0), (0), (by first | rfl | (simp; done) | (simp [*]; done)), (by first | rfl | (simp; done) | (simp [*]; done)), H', ⟨Nat.le_refl _⟩, by repeat (first | exact Drawn0.refl _ | apply Drawn0.step)⟩
 case round =>
  clear H'
  try clear c1
  obtain ⟨x3_1, x4_1, rfl, rfl, HA, HK1, ⟨m1, rfl⟩⟩ := hrel
  cases gk with
  | zero => exact absurd HA.out (by simp [spec_cmKey.l0])
  | succ k1 =>
   have H := HA.out
   clear HA
   simp only [spec_cmKey.l0] at H
   by_cases c2 : x4_1 < 6
   ·rw [if_pos c2] at H
    have c2b0 : decide (x4_1 < 6) = true := decide_eq_true c2
    clear c2
    by_cases c3 : x4_1 < (l0.length : Int)
    ·rw [if_pos c3] at H
     have c3b0 : decide (x4_1 < (l0.length : Int)) = true := decide_eq_true c3
     clear c3
     by_cases c4 : 0 ≤ x4_1
     ·rw [if_pos c4] at H
      have c4b0 : decide (0 ≤ x4_1) = true := decide_eq_true c4
      clear c4
      have H' := Aside0.mk H
      clear H
      have p129 : 0 ≤ (x4_1 : Int) := of_decide_eq_true (by first | (with_reducible assumption) | assumption)
      have q129 : x4_1 < (l0.length : Int) := of_decide_eq_true (by first | (with_reducible assumption) | assumption)
      obtain ⟨ad129, e129, hx129_0⟩ := Kd.at_int HR0.out x4_1 p129 q129
      cases e129
      replace p129 := eq_true p129
      replace q129 := eq_true q129
      go_wp2
      go_roundg k1
      case measure => have := HK1.out; omega
      case rel => exact ⟨(wrap64 ((wrap64 (x3_1 * 7)) + (rd l0 x4_1))), (wrap64 (x4_1 + 1)), (by first | rfl | (simp; done) | (simp [*]; done)), (by first | rfl | (simp; done) | (simp [*]; done)), H', ⟨by have := HK1.out; omega⟩, by repeat (first | exact Drawn0.refl _ | apply Drawn0.step)⟩
     ·rw [if_neg c4] at H
      exact absurd H (by simp)
    ·rw [if_neg c3] at H
     have c3b0 : decide (x4_1 < (l0.length : Int)) = false := decide_eq_false c3
     clear c3
     have H' := Aside0.mk H
     clear H
     go_wp2
     go_roundg k1
     case measure => have := HK1.out; omega
     case rel => exact ⟨(wrap64 (x3_1 * 7)), (wrap64 (x4_1 + 1)), (by first | rfl | (simp; done) | (simp [*]; done)), (by first | rfl | (simp; done) | (simp [*]; done)), H', ⟨by have := HK1.out; omega⟩, by repeat (first | exact Drawn0.refl _ | apply Drawn0.step)⟩
   ·rw [if_neg c2] at H
    have c2b0 : decide (x4_1 < 6) = false := decide_eq_false c2
    clear c2
    obtain rfl := Option.some.inj H
    go_wp2
    go_ret
    exact ⟨by first | rfl | (simp; done) | (simp [*]; done), by repeat (first | exact Drawn0.refl _ | apply Drawn0.step)⟩

/-! ### spec_cmMoves: function 106 -/
mutual
def spec_cmMoves.l0 : Nat → List (List Int) → List Int → Int → Int → Option ((List (List Int)))
 | 0, _, _, _, _ => none
 | k + 1, x3, x7, x8, x9 => if x9 < x8 then (if 0 ≤ x9 then (if x9 < (x7.length : Int) then (spec_cmMoves.l1 k x3 x9 (rd x7 x9) 0 x7 x8 x9) else (none)) else (none)) else (some x3)
def spec_cmMoves.l1 : Nat → List (List Int) → Int → Int → Int → List Int → Int → Int → Option ((List (List Int)))
 | 0, _, _, _, _, _, _, _ => none
 | k + 1, x3, x4, x5, x6, x7, x8, x9 => if x6 < x5 then (if (wrap64 (x6 + x4)) > 0 then (if x3.length < 5864062014805 then (spec_cmMoves.l1 k (x3 ++ [(([x6, x4] : List Int))]) x4 x5 (wrap64 (x6 + 1)) x7 x8 x9) else (none)) else (spec_cmMoves.l1 k x3 x4 x5 (wrap64 (x6 + 1)) x7 x8 x9)) else (spec_cmMoves.l0 k x3 x7 x8 (wrap64 (x9 + 1)))
end
def spec_cmMoves.f (k : Nat) (l0 : List Int) : Option ((List (List Int))) := spec_cmMoves.l0 k ([] : List (List Int)) l0 (l0.length : Int) 0
theorem spec_cmMoves.mono_l : ∀ k, (∀ y0 y1 y2 y3, LeO (spec_cmMoves.l0 k y0 y1 y2 y3) (spec_cmMoves.l0 (k + 1) y0 y1 y2 y3)) ∧ (∀ y0 y1 y2 y3 y4 y5 y6, LeO (spec_cmMoves.l1 k y0 y1 y2 y3 y4 y5 y6) (spec_cmMoves.l1 (k + 1) y0 y1 y2 y3 y4 y5 y6))
 | 0 => ⟨fun _ _ _ _ r h => by simp [spec_cmMoves.l0] at h, fun _ _ _ _ _ _ _ r h => by simp [spec_cmMoves.l1] at h⟩
 | k + 1 => by
  obtain ⟨ih0, ih1⟩ := spec_cmMoves.mono_l k
  refine ⟨?_, ?_⟩
  ·intro y0 y1 y2 y3
   unfold spec_cmMoves.l0
   repeat' first
   | (with_reducible exact ih0 _ _ _ _)
   | (with_reducible exact ih1 _ _ _ _ _ _ _)
   | (with_reducible exact LeO.refl _)
   | (with_reducible exact LeO.none _)
   | (with_reducible refine LeO.ite ?_ ?_)
   | (with_reducible refine LeO.bind ?_ (fun _ => ?_))
   | exact ih0 _ _ _ _
   | exact ih1 _ _ _ _ _ _ _
   | exact LeO.none _
   | refine LeO.ite ?_ ?_
   | refine LeO.bind ?_ (fun _ => ?_)
  ·intro y0 y1 y2 y3 y4 y5 y6
   unfold spec_cmMoves.l1
   repeat' first
   | (with_reducible exact ih0 _ _ _ _)
   | (with_reducible exact ih1 _ _ _ _ _ _ _)
   | (with_reducible exact LeO.refl _)
   | (with_reducible exact LeO.none _)
   | (with_reducible refine LeO.ite ?_ ?_)
   | (with_reducible refine LeO.bind ?_ (fun _ => ?_))
   | exact ih0 _ _ _ _
   | exact ih1 _ _ _ _ _ _ _
   | exact LeO.none _
   | refine LeO.ite ?_ ?_
   | refine LeO.bind ?_ (fun _ => ?_)
theorem spec_cmMoves.mono : ∀ a0 k, LeO (spec_cmMoves.f k a0) (spec_cmMoves.f (k + 1) a0) := by
 intro a0 k
 obtain ⟨ih0, ih1⟩ := spec_cmMoves.mono_l k
 unfold spec_cmMoves.f
 repeat' first
   | (with_reducible exact ih0 _ _ _ _)
   | (with_reducible exact ih1 _ _ _ _ _ _ _)
   | (with_reducible exact LeO.refl _)
   | (with_reducible exact LeO.none _)
   | (with_reducible refine LeO.ite ?_ ?_)
   | (with_reducible refine LeO.bind ?_ (fun _ => ?_))
   | exact ih0 _ _ _ _
   | exact ih1 _ _ _ _ _ _ _
   | exact LeO.none _
   | refine LeO.ite ?_ ?_
   | refine LeO.bind ?_ (fun _ => ?_)
set_option maxHeartbeats 8000000 in
set_option maxRecDepth 100000 in
theorem spec_cmMoves.calls (k : Nat) (A0 : Option Addr) (c0 : Nat) (l0 : List Int) (r : List (List Int)) (w : World) (hr0 : Kd.C (Kd.int .i64) w A0 l0.length l0) (hc0 : l0.length ≤ c0) (h : spec_cmMoves.f k l0 = some r) :
  Calls Tryd.prog 106 #[.slice A0 l0.length c0] w fun e w' => ∃ v0_ : Value, e = .returned (v0_) ∧ Kd.S (Kd.slice 3 (Kd.int .i64)) 38 w' w.heap.size (fun _ => True) v0_ r ∧ Below w.heap.size w w' := by
 have HR0 := Aside0.mk hr0
 have HC0 := Aside0.mk hc0
 clear hr0 hc0
 have HB := Aside0.mk (Below.refl w.heap.size w)
 have H : (spec_cmMoves.l0 k ([] : List (List Int)) l0 (l0.length : Int) 0) = some r := h
 clear h
 have H' := Aside0.mk H
 clear H
 go_enter Tryd.func106, Tryd.ntmps106
 go_wp2
 go_loopg [3, 9] k (fun kq v3 v9 w' => ∃ (x3_1 : List (List Int)) (x9_1 : Int), v9 = .int .i64 x9_1 ∧ Aside0 (spec_cmMoves.l0 kq x3_1 l0 (l0.length : Int) x9_1 = some r) ∧ Aside0 (kq ≤ k) ∧ Aside0 (Kd.S (Kd.slice 3 (Kd.int .i64)) 38 w' w.heap.size (fun _ => True) v3 x3_1) ∧ Aside0 (Below w.heap.size w w'))
 case atStart => exact ⟨(([] : List (List Int))), (0), (by first | rfl | (simp; done) | (simp [*]; done)), H', ⟨Nat.le_refl _⟩, ⟨by first | exact Kd.S_nil _ _ _ _ _ | exact Kd.N_nil _ _ _ _ _ | exact Kd.V_nil _ _ _ _ _ | exact Kd.Q_nil _ _ _ _ _ | exact Kd.R_nil _ _ _ _ _⟩, ⟨Lam.al⟩⟩
 case round =>
  clear H'
  try clear c1
  obtain ⟨x3_1, x9_1, rfl, HA, HK1, HO_3, HB⟩ := hrel
  cases gk with
  | zero => exact absurd HA.out (by simp [spec_cmMoves.l0])
  | succ k1 =>
   have H := HA.out
   clear HA
   simp only [spec_cmMoves.l0] at H
   by_cases c2 : x9_1 < (l0.length : Int)
   ·rw [if_pos c2] at H
    have c2b0 : decide (x9_1 < (l0.length : Int)) = true := decide_eq_true c2
    clear c2
    by_cases c3 : 0 ≤ x9_1
    ·rw [if_pos c3] at H
     have c3b0 : decide (0 ≤ x9_1) = true := decide_eq_true c3
     clear c3
     by_cases c4 : x9_1 < (l0.length : Int)
     ·rw [if_pos c4] at H
      have c4b0 : decide (x9_1 < (l0.length : Int)) = true := decide_eq_true c4
      clear c4
      have H' := Aside0.mk H
      clear H
      have p130 : 0 ≤ (x9_1 : Int) := of_decide_eq_true (by first | (with_reducible assumption) | assumption)
      have q130 : x9_1 < (l0.length : Int) := of_decide_eq_true (by first | (with_reducible assumption) | assumption)
      obtain ⟨ad130, e130, hx130_0⟩ := Kd.at_int HR0.out x9_1 p130 q130
      cases e130
      replace hx130_0 := (HB.out.cell (World.block_lt_of_cell? w _ hx130_0)).trans hx130_0
      replace p130 := eq_true p130
      replace q130 := eq_true q130
      go_wp2
      go_loopg [3, 6] k1 (fun kq v3 v6 w' => ∃ (x3_2 : List (List Int)) (x6_2 : Int), v6 = .int .i64 x6_2 ∧ Aside0 (spec_cmMoves.l1 kq x3_2 x9_1 (rd l0 x9_1) x6_2 l0 (l0.length : Int) x9_1 = some r) ∧ Aside0 (kq ≤ k1) ∧ Aside0 (Kd.S (Kd.slice 3 (Kd.int .i64)) 38 w' w.heap.size (fun _ => True) v3 x3_2) ∧ Aside0 (Below w.heap.size w w'))
      case atStart => exact ⟨(x3_1), (0), (by first | rfl | (simp; done) | (simp [*]; done)), H', ⟨Nat.le_refl _⟩, ⟨Lam.sq HO_3.out⟩, ⟨Lam.al⟩⟩
      case round =>
       clear H'
       try clear c1
       try clear p1
       try clear q1
       try clear hx1
       try clear c2
       try clear c2b0
       try clear p2
       try clear c3
       try clear c3b0
       try clear c4
       try clear c4b0
       try clear hx130_0
       try clear p130
       try clear q130
       obtain ⟨x3_2, x6_2, rfl, HA, HK2, HO_3, HB⟩ := hrel
       cases gk with
       | zero => exact absurd HA.out (by simp [spec_cmMoves.l1])
       | succ k2 =>
        have H := HA.out
        clear HA
        simp only [spec_cmMoves.l1] at H
        by_cases c5 : x6_2 < (rd l0 x9_1)
        ·rw [if_pos c5] at H
         have c5b0 : decide (x6_2 < (rd l0 x9_1)) = true := decide_eq_true c5
         clear c5
         by_cases c6 : (wrap64 (x6_2 + x9_1)) > 0
         ·rw [if_pos c6] at H
          have c6b0 : decide (0 < (wrap64 (x6_2 + x9_1))) = true := decide_eq_true c6
          clear c6
          obtain ⟨y131, hy131⟩ : ∃ y_ : List Int, y_ = (([x6_2, x9_1] : List Int)) := ⟨_, rfl⟩
          replace H : (if x3_2.length < 5864062014805 then (spec_cmMoves.l1 k2 (x3_2 ++ [y131]) x9_1 (rd l0 x9_1) (wrap64 (x6_2 + 1)) l0 (l0.length : Int) x9_1) else (none)) = some r := by first | (rw [hy131]; with_reducible exact H) | (have H2_ := (Option.bind_some _ _).symm.trans H; rw [hy131]; with_reducible exact H2_) | (have H2_ := (Option.bind_some _ _).symm.trans H; with_reducible exact H2_) | with_reducible exact H | (rw [hy131]; exact H) | exact H
          have Ny131 := Aside0.mk hy131
          clear hy131
          by_cases c7 : x3_2.length < 5864062014805
          ·rw [if_pos c7] at H
           have LMc7 := Aside0.mk c7
           clear c7
           obtain ⟨y134, hy134⟩ : ∃ y_ : List (List Int), y_ = (x3_2 ++ [y131]) := ⟨_, rfl⟩
           replace H : (spec_cmMoves.l1 k2 y134 x9_1 (rd l0 x9_1) (wrap64 (x6_2 + 1)) l0 (l0.length : Int) x9_1) = some r := by first | (rw [hy134]; with_reducible exact H) | (have H2_ := (Option.bind_some _ _).symm.trans H; rw [hy134]; with_reducible exact H2_) | (have H2_ := (Option.bind_some _ _).symm.trans H; with_reducible exact H2_) | with_reducible exact H | (rw [hy134]; exact H) | exact H
           have Ny134 := Aside0.mk hy134
           clear hy134
           have H' := Aside0.mk H
           clear H
           go_wp2_with (first | ((with_reducible refine gate_dst (N := 26) rfl ?_); refine Kd.R_lit (Kd.int .i64) _ 3 ?hg (N := 26) ?hd (xs := ([x6_2, x9_1] : List Int)) (inner := [.int .i64 x6_2, .int .i64 x9_1]) (ok := fun _ => True) (okp := fun _ => True) ?hr ?hp (fun _ hk => hk) trivial (Below.refl _ _) (Nat.le_refl _) (by simp) ?_; (case hd => rfl); (case hg => rfl); (case hr => first | (go_simp; done) | (go_simp; rfl)); (case hp => exact (Reps.one (show Kd.M (Kd.int .i64) _ _ _ x6_2 [.int .i64 x6_2] from rfl) (Reps.one (show Kd.M (Kd.int .i64) _ _ _ x9_1 [.int .i64 x9_1] from rfl) (Reps.none _ _)))); intro v132 w8 ho9 hb hg_ hnew_; clear hg_ hnew_; (first | rw [← Ny131.out] at ho9 | (simp only [Int.reduceToNat] at ho9; rw [← Ny131.out] at ho9)); have n0_ := Aside0.mk (Kd.S_elder' (Lam.sq HO_3.out) (Kd.R_base ho9) hb); have n1_ := Aside0.mk (Kd.R_lower ho9 (below_size (Lam.al))); have n2_ := Aside0.mk (below_step (Lam.al) hb); clear HO_3; clear HB; have HO_3 := n0_; have HO133 := n1_; have HB := n2_; clear n0_ n1_ n2_; clear hb ho9; obtain ⟨Ao11, co11, eo11⟩ := Kd.R_slice HO133.out; subst eo11) | ((with_reducible refine gate_builtin (b := .append) (xs := #[.tmp 23, .tmp 27]) rfl ?_); at_builtin; refine Kd.S_append (Kd.slice 3 (Kd.int .i64)) (w0 := w) w.heap.size rfl (.tmp 23) (.tmp 27) 26 38 (.slice none 0 0) 24 rfl Tryd.underlying26 info38 rfl (by decide) (by omega) u3 x3_2 y131 [.slice Ao11 y131.length co11] (fun _ => True) (fun k_ => some k_ = (.slice Ao11 y131.length co11 : Value).ownBlock) rfl rfl ?aP (fun k_ hk_ => ((Kd.R_mono (ok' := fun k_ => ((fun _ => True)) k_ ∧ some k_ ≠ (u3 : Value).ownBlock) (Kd.R_apart' (HO133.out) (Kd.S_typed HO_3.out) (by decide)) (fun k_ hk => ⟨trivial, hk.2⟩))).1 k_ hk_.symm) ?aF ?aO ?aB ?aS ?aL ?_; (case aP => exact Kd.M_row (Kd.R_mono (Kd.R_tight rfl (Kd.R_mono (ok' := fun k_ => ((fun _ => True)) k_ ∧ some k_ ≠ (u3 : Value).ownBlock) (Kd.R_apart' (HO133.out) (Kd.S_typed HO_3.out) (by decide)) (fun k_ hk => ⟨trivial, hk.2⟩))) (fun _ h_ => h_))); (case aB => exact (Lam.al)); (case aF => exact (fun _ _ => trivial)); (case aO => exact (by (with_reducible repeat (first | apply Kd.S_alloc | apply Kd.S_drewN | apply Kd.S_drew)); exact Kd.S_mono HO_3.out (fun k_ hk => ⟨trivial, fun e_ => hk.2 e_⟩))); (case aS => exact (below_size (Lam.al))); (case aL => have := LMc7.out; omega); intro v135 w10 ho hb hg hat; rw [← Ny134.out] at ho; have n0_ := Aside0.mk (hb); have n1_ := Aside0.mk (ho); clear HB; clear HO_3; clear HO133; have HB := n0_; have HO136 := n1_; clear n0_ n1_; clear ho hb hg hat))
           go_roundg k2
           case measure => have := HK1.out; have := HK2.out; omega
           case rel => exact ⟨(y134), (wrap64 (x6_2 + 1)), (by first | rfl | (simp; done) | (simp [*]; done)), H', ⟨by have := HK1.out; have := HK2.out; omega⟩, ⟨Lam.sq HO136.out⟩, ⟨Lam.al⟩⟩
          ·rw [if_neg c7] at H
           exact absurd H (by simp)
         ·rw [if_neg c6] at H
          have c6b0 : decide (0 < (wrap64 (x6_2 + x9_1))) = false := decide_eq_false c6
          clear c6
          have H' := Aside0.mk H
          clear H
          go_wp2
          go_roundg k2
          case measure => have := HK1.out; have := HK2.out; omega
          case rel => exact ⟨(x3_2), (wrap64 (x6_2 + 1)), (by first | rfl | (simp; done) | (simp [*]; done)), H', ⟨by have := HK1.out; have := HK2.out; omega⟩, ⟨Lam.sq HO_3.out⟩, ⟨Lam.al⟩⟩
        ·rw [if_neg c5] at H
         have c5b0 : decide (x6_2 < (rd l0 x9_1)) = false := decide_eq_false c5
         clear c5
         have H' := Aside0.mk H
         clear H
         go_wp2
         go_roundg k2
         case measure => have := HK1.out; have := HK2.out; omega
         case rel => exact ⟨(x3_2), (wrap64 (x9_1 + 1)), (by first | rfl | (simp; done) | (simp [*]; done)), H', ⟨by have := HK1.out; have := HK2.out; omega⟩, ⟨Lam.sq HO_3.out⟩, ⟨Lam.al⟩⟩
     ·rw [if_neg c4] at H
      exact absurd H (by simp)
    ·rw [if_neg c3] at H
     exact absurd H (by simp)
   ·rw [if_neg c2] at H
    have c2b0 : decide (x9_1 < (l0.length : Int)) = false := decide_eq_false c2
    clear c2
    obtain rfl := Option.some.inj H
    go_wp2
    go_ret
    exact ⟨_, by first | rfl | (simp [errW_none, errW_some] <;> rfl) | (simp [*, errW_none, errW_some] <;> rfl), by (with_reducible repeat (first | apply Kd.S_alloc | apply Kd.S_drewN | apply Kd.S_drew)); exact HO_3.out, Lam.al⟩

/-! ### spec_l1Least: function 128 -/
def spec_l1Least.f (a0 : Int) (a1 : Int) : Option (Int) := if a0 < a1 then (some a0) else (some a1)
set_option maxHeartbeats 8000000 in
set_option maxRecDepth 100000 in
theorem spec_l1Least.calls (a0 : Int) (a1 : Int) (r : Int) (w : World) (h : spec_l1Least.f a0 a1 = some r) :
  Calls Tryd.prog 128 #[.int .i64 a0, .int .i64 a1] w fun e w' => e = .returned (.int .i64 r) ∧ Drawn0 w w' := by
 have H : (if a0 < a1 then (some a0) else (some a1)) = some r := h
 clear h
 by_cases c3 : a0 < a1
 ·rw [if_pos c3] at H
  have c3b0 : decide (a0 < a1) = true := decide_eq_true c3
  clear c3
  obtain rfl := Option.some.inj H
  go_enter Tryd.func128, Tryd.ntmps128
  go_wp2
  go_ret
  exact ⟨by first | rfl | (simp; done) | (simp [*]; done), by repeat (first | exact Drawn0.refl _ | apply Drawn0.step)⟩
 ·rw [if_neg c3] at H
  have c3b0 : decide (a0 < a1) = false := decide_eq_false c3
  clear c3
  obtain rfl := Option.some.inj H
  go_enter Tryd.func128, Tryd.ntmps128
  go_wp2
  go_ret
  exact ⟨by first | rfl | (simp; done) | (simp [*]; done), by repeat (first | exact Drawn0.refl _ | apply Drawn0.step)⟩

end Go.Proofs.YtdikeggkfkkajaaDoor.PFnExactMakePuzzle
