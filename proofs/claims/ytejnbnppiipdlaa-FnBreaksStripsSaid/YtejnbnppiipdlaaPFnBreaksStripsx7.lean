-- Made by a program of this session (wip/xprint.py) out of the translation.
import Derived.Test.YtejnbnppiipdlaaPFnBreaksStripsx0
import Derived.Test.YtejnbnppiipdlaaPFnBreaksStripsx1
import Derived.Test.YtejnbnppiipdlaaPFnBreaksStripsx2
import Derived.Test.YtejnbnppiipdlaaPFnBreaksStripsx6
namespace Go.Proofs.Ytejnbnppiipdlaa.PFnBreaksStrips
open Go.RowKit Go.Proofs.YtejnbnppiipdlaaW.PrintWords Go.Proofs.YtejnbnppiipdlaaW.PrintLast Go.Proofs.YtejnbnppiipdlaaW.PrintMore
attribute [local go_sem] max2_int min2_int max_two min_two max_three min_three max_four min_four   -- for this text's walks alone
set_option linter.unusedVariables false
set_option linter.unusedSimpArgs false

/-! ### impl_GoodStrips: function 21 -/
mutual
def impl_GoodStrips.j0 : Nat → List Int → Int → Bool → Bool → Option ((List (List Int)) × Bool)
 | 0, _, _, _, _ => none
 | k + 1, x0, x1, x2, x22 => if x22 = true then (some (([] : List (List Int)), false)) else ((impl_rule_values.f k x1 x2 60).bind fun t294 => (impl_GoodStrips.l0 k x0 (([] : List (List Int))) t294 x0 (x0.length : Int) 0 x1 x2))
def impl_GoodStrips.l0 : Nat → List Int → List (List Int) → List Int → List Int → Int → Int → Int → Bool → Option ((List (List Int)) × Bool)
 | 0, _, _, _, _, _, _, _, _ => none
 | k + 1, x0, x9, x10, x29, x30, x31, x294000, x294001 => if x31 < x30 then (if 0 ≤ x31 then (if x31 < (x29.length : Int) then ((impl_rule_moves.f k x294000 x294001 (rd x29 x31)).bind fun t298 => (impl_GoodStrips.l1 k x0 x9 x10 x31 (rd x29 x31) x29 x30 x31 t298 (t298.length : Int) 0 x294000 x294001)) else (none)) else (none)) else (some (x9, true))
def impl_GoodStrips.l1 : Nat → List Int → List (List Int) → List Int → Int → Int → List Int → Int → Int → List Int → Int → Int → Int → Bool → Option ((List (List Int)) × Bool)
 | 0, _, _, _, _, _, _, _, _, _, _, _, _, _ => none
 | k + 1, x0, x9, x10, x11, x12, x29, x30, x31, x38, x39, x40, x294000, x294001 => if x40 < x39 then (if 0 ≤ x40 then (if x40 < (x38.length : Int) then ((impl_together.f k x0 x10).bind fun t302 => (if 0 ≤ x12 then (if x12 < (x10.length : Int) then (if 0 ≤ (rd x38 x40) then (if (rd x38 x40) < (x10.length : Int) then (if 0 ≤ (wrap64 (x12 - (rd x38 x40))) then (if (wrap64 (x12 - (rd x38 x40))) < (x10.length : Int) then (if (Go.bits .xor .i64 (Go.bits .xor .i64 (Go.bits .xor .i64 t302 (rd x10 x12)) (rd x10 (rd x38 x40))) (rd x10 (wrap64 (x12 - (rd x38 x40))))) = 0 then (if x9.length < 5864062014805 then (impl_GoodStrips.l1 k x0 (x9 ++ [(([x11, rd x38 x40] : List Int))]) x10 x11 x12 x29 x30 x31 x38 x39 (wrap64 (x40 + 1)) x294000 x294001) else (none)) else (impl_GoodStrips.l1 k x0 x9 x10 x11 x12 x29 x30 x31 x38 x39 (wrap64 (x40 + 1)) x294000 x294001)) else (none)) else (none)) else (none)) else (none)) else (none)) else (none))) else (none)) else (none)) else (impl_GoodStrips.l0 k x0 x9 x10 x29 x30 (wrap64 (x31 + 1)) x294000 x294001)
end
def impl_GoodStrips.f (k : Nat) (l0 : List Int) (a1 : Int) (a2 : Bool) : Option ((List (List Int)) × Bool) := (impl_areStrips.f l0).bind fun t288 => (if t288 = true then ((impl_isStrip.f a1).bind fun t289 => (impl_GoodStrips.j0 k l0 a1 a2 (!t289))) else (impl_GoodStrips.j0 k l0 a1 a2 true))
theorem impl_GoodStrips.mono_l : ∀ k, (∀ y0 y1 y2 y3, LeO (impl_GoodStrips.j0 k y0 y1 y2 y3) (impl_GoodStrips.j0 (k + 1) y0 y1 y2 y3)) ∧ (∀ y0 y1 y2 y3 y4 y5 y6 y7, LeO (impl_GoodStrips.l0 k y0 y1 y2 y3 y4 y5 y6 y7) (impl_GoodStrips.l0 (k + 1) y0 y1 y2 y3 y4 y5 y6 y7)) ∧ (∀ y0 y1 y2 y3 y4 y5 y6 y7 y8 y9 y10 y11 y12, LeO (impl_GoodStrips.l1 k y0 y1 y2 y3 y4 y5 y6 y7 y8 y9 y10 y11 y12) (impl_GoodStrips.l1 (k + 1) y0 y1 y2 y3 y4 y5 y6 y7 y8 y9 y10 y11 y12))
 | 0 => ⟨fun _ _ _ _ r h => by simp [impl_GoodStrips.j0] at h, fun _ _ _ _ _ _ _ _ r h => by simp [impl_GoodStrips.l0] at h, fun _ _ _ _ _ _ _ _ _ _ _ _ _ r h => by simp [impl_GoodStrips.l1] at h⟩
 | k + 1 => by
  obtain ⟨ih0, ih1, ih2⟩ := impl_GoodStrips.mono_l k
  refine ⟨?_, ?_, ?_⟩
  ·intro y0 y1 y2 y3
   unfold impl_GoodStrips.j0
   repeat' first
   | (with_reducible exact ih0 _ _ _ _)
   | (with_reducible exact ih1 _ _ _ _ _ _ _ _)
   | (with_reducible exact ih2 _ _ _ _ _ _ _ _ _ _ _ _ _)
   | (with_reducible exact impl_rule_moves.mono _ _ _ _)
   | (with_reducible exact impl_rule_values.mono _ _ _ _)
   | (with_reducible exact impl_together.mono _ _ _)
   | (with_reducible exact LeO.refl _)
   | (with_reducible exact LeO.none _)
   | (with_reducible refine LeO.ite ?_ ?_)
   | (with_reducible refine LeO.bind ?_ (fun _ => ?_))
   | exact ih0 _ _ _ _
   | exact ih1 _ _ _ _ _ _ _ _
   | exact ih2 _ _ _ _ _ _ _ _ _ _ _ _ _
   | exact impl_rule_moves.mono _ _ _ _
   | exact impl_rule_values.mono _ _ _ _
   | exact impl_together.mono _ _ _
   | exact LeO.none _
   | refine LeO.ite ?_ ?_
   | refine LeO.bind ?_ (fun _ => ?_)
  ·intro y0 y1 y2 y3 y4 y5 y6 y7
   unfold impl_GoodStrips.l0
   repeat' first
   | (with_reducible exact ih0 _ _ _ _)
   | (with_reducible exact ih1 _ _ _ _ _ _ _ _)
   | (with_reducible exact ih2 _ _ _ _ _ _ _ _ _ _ _ _ _)
   | (with_reducible exact impl_rule_moves.mono _ _ _ _)
   | (with_reducible exact impl_rule_values.mono _ _ _ _)
   | (with_reducible exact impl_together.mono _ _ _)
   | (with_reducible exact LeO.refl _)
   | (with_reducible exact LeO.none _)
   | (with_reducible refine LeO.ite ?_ ?_)
   | (with_reducible refine LeO.bind ?_ (fun _ => ?_))
   | exact ih0 _ _ _ _
   | exact ih1 _ _ _ _ _ _ _ _
   | exact ih2 _ _ _ _ _ _ _ _ _ _ _ _ _
   | exact impl_rule_moves.mono _ _ _ _
   | exact impl_rule_values.mono _ _ _ _
   | exact impl_together.mono _ _ _
   | exact LeO.none _
   | refine LeO.ite ?_ ?_
   | refine LeO.bind ?_ (fun _ => ?_)
  ·intro y0 y1 y2 y3 y4 y5 y6 y7 y8 y9 y10 y11 y12
   unfold impl_GoodStrips.l1
   repeat' first
   | (with_reducible exact ih0 _ _ _ _)
   | (with_reducible exact ih1 _ _ _ _ _ _ _ _)
   | (with_reducible exact ih2 _ _ _ _ _ _ _ _ _ _ _ _ _)
   | (with_reducible exact impl_rule_moves.mono _ _ _ _)
   | (with_reducible exact impl_rule_values.mono _ _ _ _)
   | (with_reducible exact impl_together.mono _ _ _)
   | (with_reducible exact LeO.refl _)
   | (with_reducible exact LeO.none _)
   | (with_reducible refine LeO.ite ?_ ?_)
   | (with_reducible refine LeO.bind ?_ (fun _ => ?_))
   | exact ih0 _ _ _ _
   | exact ih1 _ _ _ _ _ _ _ _
   | exact ih2 _ _ _ _ _ _ _ _ _ _ _ _ _
   | exact impl_rule_moves.mono _ _ _ _
   | exact impl_rule_values.mono _ _ _ _
   | exact impl_together.mono _ _ _
   | exact LeO.none _
   | refine LeO.ite ?_ ?_
   | refine LeO.bind ?_ (fun _ => ?_)
theorem impl_GoodStrips.mono : ∀ a0 a1 a2 k, LeO (impl_GoodStrips.f k a0 a1 a2) (impl_GoodStrips.f (k + 1) a0 a1 a2) := by
 intro a0 a1 a2 k
 obtain ⟨ih0, ih1, ih2⟩ := impl_GoodStrips.mono_l k
 unfold impl_GoodStrips.f
 repeat' first
   | (with_reducible exact ih0 _ _ _ _)
   | (with_reducible exact ih1 _ _ _ _ _ _ _ _)
   | (with_reducible exact ih2 _ _ _ _ _ _ _ _ _ _ _ _ _)
   | (with_reducible exact impl_rule_moves.mono _ _ _ _)
   | (with_reducible exact impl_rule_values.mono _ _ _ _)
   | (with_reducible exact impl_together.mono _ _ _)
   | (with_reducible exact LeO.refl _)
   | (with_reducible exact LeO.none _)
   | (with_reducible refine LeO.ite ?_ ?_)
   | (with_reducible refine LeO.bind ?_ (fun _ => ?_))
   | exact ih0 _ _ _ _
   | exact ih1 _ _ _ _ _ _ _ _
   | exact ih2 _ _ _ _ _ _ _ _ _ _ _ _ _
   | exact impl_rule_moves.mono _ _ _ _
   | exact impl_rule_values.mono _ _ _ _
   | exact impl_together.mono _ _ _
   | exact LeO.none _
   | refine LeO.ite ?_ ?_
   | refine LeO.bind ?_ (fun _ => ?_)
set_option maxHeartbeats 8000000 in
set_option maxRecDepth 100000 in
theorem impl_GoodStrips.calls (k : Nat) (A0 : Option Addr) (c0 : Nat) (l0 : List Int) (a1 : Int) (a2 : Bool) (r1 : List (List Int)) (r2 : Bool) (w : World) (hr0 : Kd.C (Kd.int .i64) w A0 l0.length l0) (hc0 : l0.length ≤ c0) (h : impl_GoodStrips.f k l0 a1 a2 = some (r1, r2)) :
  Calls Try.prog 21 #[.slice A0 l0.length c0, .int .i64 a1, .bool a2] w fun e w' => ∃ v0_ : Value, e = .returned (.tuple #[v0_, .bool r2]) ∧ Kd.S (Kd.slice 3 (Kd.int .i64)) 26 w' w.heap.size (fun _ => True) v0_ r1 ∧ Below w.heap.size w w' := by
 have hu69 := Try.underlying69
 have HR0 := Aside0.mk hr0
 have HC0 := Aside0.mk hc0
 clear hr0 hc0
 have HB := Aside0.mk (Below.refl w.heap.size w)
 have H : ((impl_areStrips.f l0).bind fun t288 => (if t288 = true then ((impl_isStrip.f a1).bind fun t289 => (impl_GoodStrips.j0 k l0 a1 a2 (!t289))) else (impl_GoodStrips.j0 k l0 a1 a2 true))) = some (r1, r2) := h
 clear h
 have HC4 := Aside0.mk H
 clear H
 go_enter Try.func21, Try.ntmps21
 go_upto_region 1 with (fail)
 repeat (go_quiet (fail); go_upto_region 1 with (fail))
 go_cut [22] (fun v22 wc => ∃ (kq : Nat) (x22_3 : Bool), v22 = .bool x22_3 ∧ Aside0 (impl_GoodStrips.j0 kq l0 a1 a2 x22_3 = some (r1, r2)) ∧ Aside0 (kq ≤ k) ∧ Aside0 (Below w.heap.size w wc))
 case first =>
  have H := HC4.out
  clear HC4
  replace H := Option.bind_eq_some_iff.mp H
  obtain ⟨t288, A50, H⟩ := H
  (try dsimp only at H)
  have A5 := Aside0.mk A50
  clear A50
  by_cases c6 : t288 = true
  ·subst c6
   have H1 : ((impl_isStrip.f a1).bind fun t289 => (impl_GoodStrips.j0 k l0 a1 a2 (!t289))) = some (r1, r2) := by rw [if_pos rfl] at H; exact H
   clear H
   have H := H1
   clear H1
   replace H := Option.bind_eq_some_iff.mp H
   obtain ⟨t289, A70, H⟩ := H
   replace H : (impl_GoodStrips.j0 k l0 a1 a2 (!t289)) = some (r1, r2) := H
   have A7 := Aside0.mk A70
   clear A70
   have H' := Aside0.mk H
   clear H
   go_wp2_with (first | (go_at_call 63; (with_reducible refine (impl_areStrips.calls _ _ l0 true _ ?side1 ?side2 A5.out).mono ?_); (case side1 => repeat (first | exact (Kd.C_below HR0.out HB.out) | (with_reducible refine Kd.C_alloc ?_ _) | (with_reducible refine Kd.C_drewN ?_ _) | (with_reducible refine Kd.C_drew ?_))); (case side2 => exact HC0.out); rintro e w8 ⟨rfl, hb⟩; have n0_ := Aside0.mk (below_step (Lam.al) hb); clear HB; have HB := n0_; clear n0_; (try clear hb); (try clear hb2); (try clear hk); (try clear hi)) | (go_at_call 52; (with_reducible refine (impl_isStrip.calls a1 t289 _ A7.out).mono ?_); rintro e w' ⟨rfl, ⟨nd, rfl⟩⟩; (try first | exact ⟨rfl, _, World.drewN_drewN _ _ _⟩ | exact ⟨rfl, _, Eq.trans (World.drewN_drewN _ _ _) (congrArg (World.drewN _) (Nat.add_assoc _ _ _))⟩)))
   repeat (go_quiet (first | (go_at_call 63; (with_reducible refine (impl_areStrips.calls _ _ l0 true _ ?side1 ?side2 A5.out).mono ?_); (case side1 => repeat (first | exact (Kd.C_below HR0.out HB.out) | (with_reducible refine Kd.C_alloc ?_ _) | (with_reducible refine Kd.C_drewN ?_ _) | (with_reducible refine Kd.C_drew ?_))); (case side2 => exact HC0.out); rintro e w8 ⟨rfl, hb⟩; have n0_ := Aside0.mk (below_step (Lam.al) hb); clear HB; have HB := n0_; clear n0_; (try clear hb); (try clear hb2); (try clear hk); (try clear hi)) | (go_at_call 52; (with_reducible refine (impl_isStrip.calls a1 t289 _ A7.out).mono ?_); rintro e w' ⟨rfl, ⟨nd, rfl⟩⟩; (try first | exact ⟨rfl, _, World.drewN_drewN _ _ _⟩ | exact ⟨rfl, _, Eq.trans (World.drewN_drewN _ _ _) (congrArg (World.drewN _) (Nat.add_assoc _ _ _))⟩))); try go_wp2_with (first | (go_at_call 63; (with_reducible refine (impl_areStrips.calls _ _ l0 true _ ?side1 ?side2 A5.out).mono ?_); (case side1 => repeat (first | exact (Kd.C_below HR0.out HB.out) | (with_reducible refine Kd.C_alloc ?_ _) | (with_reducible refine Kd.C_drewN ?_ _) | (with_reducible refine Kd.C_drew ?_))); (case side2 => exact HC0.out); rintro e w8 ⟨rfl, hb⟩; have n0_ := Aside0.mk (below_step (Lam.al) hb); clear HB; have HB := n0_; clear n0_; (try clear hb); (try clear hb2); (try clear hk); (try clear hi)) | (go_at_call 52; (with_reducible refine (impl_isStrip.calls a1 t289 _ A7.out).mono ?_); rintro e w' ⟨rfl, ⟨nd, rfl⟩⟩; (try first | exact ⟨rfl, _, World.drewN_drewN _ _ _⟩ | exact ⟨rfl, _, Eq.trans (World.drewN_drewN _ _ _) (congrArg (World.drewN _) (Nat.add_assoc _ _ _))⟩))))
   go_meet
   case rel => exact ⟨_, (!t289), (by first | rfl | (simp; done) | (simp [*]; done)), H', ⟨by first | omega | exact Nat.le_refl _⟩, ⟨Lam.al⟩⟩
  ·replace c6 := Bool.eq_false_iff.mpr c6
   subst c6
   have H1 : (impl_GoodStrips.j0 k l0 a1 a2 true) = some (r1, r2) := by rw [if_neg (show ¬ (false = true) by decide)] at H; exact H
   clear H
   have H := H1
   clear H1
   have H' := Aside0.mk H
   clear H
   go_wp2_with (first | (go_at_call 63; (with_reducible refine (impl_areStrips.calls _ _ l0 false _ ?side1 ?side2 A5.out).mono ?_); (case side1 => repeat (first | exact (Kd.C_below HR0.out HB.out) | (with_reducible refine Kd.C_alloc ?_ _) | (with_reducible refine Kd.C_drewN ?_ _) | (with_reducible refine Kd.C_drew ?_))); (case side2 => exact HC0.out); rintro e w9 ⟨rfl, hb⟩; have n0_ := Aside0.mk (below_step (Lam.al) hb); clear HB; have HB := n0_; clear n0_; (try clear hb); (try clear hb2); (try clear hk); (try clear hi)))
   repeat (go_quiet (first | (go_at_call 63; (with_reducible refine (impl_areStrips.calls _ _ l0 false _ ?side1 ?side2 A5.out).mono ?_); (case side1 => repeat (first | exact (Kd.C_below HR0.out HB.out) | (with_reducible refine Kd.C_alloc ?_ _) | (with_reducible refine Kd.C_drewN ?_ _) | (with_reducible refine Kd.C_drew ?_))); (case side2 => exact HC0.out); rintro e w9 ⟨rfl, hb⟩; have n0_ := Aside0.mk (below_step (Lam.al) hb); clear HB; have HB := n0_; clear n0_; (try clear hb); (try clear hb2); (try clear hk); (try clear hi))); try go_wp2_with (first | (go_at_call 63; (with_reducible refine (impl_areStrips.calls _ _ l0 false _ ?side1 ?side2 A5.out).mono ?_); (case side1 => repeat (first | exact (Kd.C_below HR0.out HB.out) | (with_reducible refine Kd.C_alloc ?_ _) | (with_reducible refine Kd.C_drewN ?_ _) | (with_reducible refine Kd.C_drew ?_))); (case side2 => exact HC0.out); rintro e w9 ⟨rfl, hb⟩; have n0_ := Aside0.mk (below_step (Lam.al) hb); clear HB; have HB := n0_; clear n0_; (try clear hb); (try clear hb2); (try clear hk); (try clear hi))))
   go_meet
   case rel => exact ⟨_, (true), (by first | rfl | (simp; done) | (simp [*]; done)), H', ⟨by first | omega | exact Nat.le_refl _⟩, ⟨Lam.al⟩⟩
 case rest =>
  clear HC4
  try clear c2
  try clear p2
  try clear c6
  obtain ⟨kq, x22_3, rfl, HA, HJ3, HB⟩ := hcut
  cases kq with
  | zero => exact absurd HA.out (by simp [impl_GoodStrips.j0])
  | succ kj3 =>
   have H := HA.out
   clear HA
   simp only [impl_GoodStrips.j0] at H
   by_cases c10 : x22_3 = true
   ·subst c10
    have H1 : (some (([] : List (List Int)), false)) = some (r1, r2) := by rw [if_pos rfl] at H; exact H
    clear H
    have H := H1
    clear H1
    simp only [Option.some.injEq, Prod.mk.injEq] at H
    obtain ⟨rfl, rfl⟩ := H
    go_wp2
    repeat (go_quiet (fail); try go_wp2)
    go_ret2
    exact ⟨_, by first | rfl | (simp [errW_none, errW_some] <;> rfl) | (simp [*, errW_none, errW_some] <;> rfl), by first | exact Kd.S_nil _ _ _ _ _ | exact Kd.N_nil _ _ _ _ _ | exact Kd.V_nil _ _ _ _ _ | exact Kd.Q_nil _ _ _ _ _ | exact Kd.R_nil _ _ _ _ _, Lam.al⟩
   ·replace c10 := Bool.eq_false_iff.mpr c10
    subst c10
    rw [if_neg (show ¬ (false = true) by decide)] at H
    obtain ⟨y290, hy290⟩ : ∃ y_ : List (List Int), y_ = (([] : List (List Int))) := ⟨_, rfl⟩
    replace H : ((impl_rule_values.f kj3 a1 a2 60).bind fun t294 => (impl_GoodStrips.l0 kj3 l0 y290 t294 l0 (l0.length : Int) 0 a1 a2)) = some (r1, r2) := by first | (rw [hy290]; with_reducible exact H) | (have H2_ := (Option.bind_some _ _).symm.trans H; rw [hy290]; with_reducible exact H2_) | (have H2_ := (Option.bind_some _ _).symm.trans H; with_reducible exact H2_) | with_reducible exact H | (rw [hy290]; exact H) | exact H
    have Ny290 := Aside0.mk hy290
    clear hy290
    replace H := Option.bind_eq_some_iff.mp H
    obtain ⟨t294, A110, H⟩ := H
    replace H : (impl_GoodStrips.l0 kj3 l0 y290 t294 l0 (l0.length : Int) 0 a1 a2) = some (r1, r2) := H
    have A11 := Aside0.mk A110
    clear A110
    have H' := Aside0.mk H
    clear H
    go_wp2_with (first | ((with_reducible refine gate_dst (N := 26) rfl ?_); refine Kd.S_lit (Kd.slice 3 (Kd.int .i64)) _ 26 ?hg (N := 26) ?hd (xs := ([] : List (List Int))) (inner := []) (ok := fun _ => True) (okp := fun _ => True) ?hr ?hp (fun _ hk => hk) trivial (Below.refl _ _) (Nat.le_refl _) (by simp) ?_; (case hd => rfl); (case hg => rfl); (case hr => first | (go_simp; done) | (go_simp; rfl)); (case hp => exact (Reps.none _ _)); intro v291 w12 ho13 hb hg_ hnew_; clear hg_ hnew_; (first | rw [← Ny290.out] at ho13 | (simp only [Int.reduceToNat] at ho13; rw [← Ny290.out] at ho13)); have n0_ := Aside0.mk (Kd.S_lower ho13 (below_size (Lam.al))); have n1_ := Aside0.mk (below_step (Lam.al) hb); clear HB; have HO292 := n0_; have HB := n1_; clear n0_ n1_; clear hb ho13) | ((with_reducible refine gate_dst (N := 8) rfl ?_); refine box_event ?hg (N := 8) ?hd (cs := #[.int .i64 0, .bool false]) (t := 69) ?hr ?_; (case hd => rfl); (case hg => rfl); (case hr => first | (go_simp; done) | (go_simp; rfl)); intro gb293 hg w14 hbox hb; have n0_ := Aside0.mk (Kd.S_below (Lam.sq HO292.out) hb); have n1_ := Aside0.mk (below_step (Lam.al) hb); have n2_ := Aside0.mk (hbox); have n3_ := Aside0.mk ((by rw [hg]; exact (below_size (Lam.al)) : w.heap.size ≤ gb293)); have n4_ := Aside0.mk ((by rw [hg]; exact (below_size (Lam.al)) : w.heap.size ≤ gb293)); clear HO292; clear HB; have HO292 := n0_; have HB := n1_; have BK293 := n2_; have GW293 := n3_; have GE293 := n4_; clear n0_ n1_ n2_ n3_ n4_; clear hb hbox hg; have hcz15_0 : w14.cell? ⟨gb293, 0, none⟩ = some (.int .i64 0) := (blk_cell BK293.out 0).trans rfl; have hcz15_1 : w14.cell? ⟨gb293, 1, none⟩ = some (.bool false) := (blk_cell BK293.out 1).trans rfl; have hfz15_0 := blk_frozen BK293.out 0; have hfz15_1 := blk_frozen BK293.out 1) | (go_at_call 56; (with_reducible refine (impl_rule_values.calls kj3 a1 a2 60 t294 _ A11.out).mono ?_); rintro e w16 ⟨v295, rfl, ho0, hb⟩; have n0_ := Aside0.mk (Kd.S_elder' (by (with_reducible repeat (first | apply Kd.S_alloc | apply Kd.S_drewN | apply Kd.S_drew)); exact (Kd.S_mono (Kd.S_far (p := ⟨gb293, 1, none⟩) (Kd.S_far (p := ⟨gb293, 0, none⟩) (Kd.S_types HO292.out BK293.out (by decide)) (fun _ hk => hk.2) (.int .i64 a1)) (fun _ hk => hk.2) (.bool a2)) (fun _ h_ => h_.1))) (Kd.R_base ho0) hb); have n1_ := Aside0.mk (Kd.R_lower ho0 (below_size (Lam.al))); have n2_ := Aside0.mk (blk_below (g := gb293) (o := .cells #[.int .i64 a1, .bool a2] 69 (0, 0)) (by (with_reducible repeat (first | refine blk_drewN ?_ _ | refine blk_drew ?_ | refine blk_alloc ?_ _)); refine blk_put (cs := #[.int .i64 a1, .bool false]) ?_ 1 _ rfl; (with_reducible repeat (first | refine blk_drewN ?_ _ | refine blk_drew ?_ | refine blk_alloc ?_ _)); refine blk_put (cs := #[.int .i64 0, .bool false]) ?_ 0 _ rfl; (with_reducible repeat (first | refine blk_drewN ?_ _ | refine blk_drew ?_ | refine blk_alloc ?_ _)); exact BK293.out) hb); have n3_ := Aside0.mk (below_step (Lam.al) hb); clear HO292; clear BK293; clear HB; have HO292 := n0_; have HO296 := n1_; have BK293 := n2_; have HB := n3_; clear n0_ n1_ n2_ n3_; (try clear hb); (try clear hb2); (try clear hk); (try clear hi); (try clear ho0)))
    repeat (go_quiet (first | ((with_reducible refine gate_dst (N := 26) rfl ?_); refine Kd.S_lit (Kd.slice 3 (Kd.int .i64)) _ 26 ?hg (N := 26) ?hd (xs := ([] : List (List Int))) (inner := []) (ok := fun _ => True) (okp := fun _ => True) ?hr ?hp (fun _ hk => hk) trivial (Below.refl _ _) (Nat.le_refl _) (by simp) ?_; (case hd => rfl); (case hg => rfl); (case hr => first | (go_simp; done) | (go_simp; rfl)); (case hp => exact (Reps.none _ _)); intro v291 w12 ho13 hb hg_ hnew_; clear hg_ hnew_; (first | rw [← Ny290.out] at ho13 | (simp only [Int.reduceToNat] at ho13; rw [← Ny290.out] at ho13)); have n0_ := Aside0.mk (Kd.S_lower ho13 (below_size (Lam.al))); have n1_ := Aside0.mk (below_step (Lam.al) hb); clear HB; have HO292 := n0_; have HB := n1_; clear n0_ n1_; clear hb ho13) | ((with_reducible refine gate_dst (N := 8) rfl ?_); refine box_event ?hg (N := 8) ?hd (cs := #[.int .i64 0, .bool false]) (t := 69) ?hr ?_; (case hd => rfl); (case hg => rfl); (case hr => first | (go_simp; done) | (go_simp; rfl)); intro gb293 hg w14 hbox hb; have n0_ := Aside0.mk (Kd.S_below (Lam.sq HO292.out) hb); have n1_ := Aside0.mk (below_step (Lam.al) hb); have n2_ := Aside0.mk (hbox); have n3_ := Aside0.mk ((by rw [hg]; exact (below_size (Lam.al)) : w.heap.size ≤ gb293)); have n4_ := Aside0.mk ((by rw [hg]; exact (below_size (Lam.al)) : w.heap.size ≤ gb293)); clear HO292; clear HB; have HO292 := n0_; have HB := n1_; have BK293 := n2_; have GW293 := n3_; have GE293 := n4_; clear n0_ n1_ n2_ n3_ n4_; clear hb hbox hg; have hcz15_0 : w14.cell? ⟨gb293, 0, none⟩ = some (.int .i64 0) := (blk_cell BK293.out 0).trans rfl; have hcz15_1 : w14.cell? ⟨gb293, 1, none⟩ = some (.bool false) := (blk_cell BK293.out 1).trans rfl; have hfz15_0 := blk_frozen BK293.out 0; have hfz15_1 := blk_frozen BK293.out 1) | (go_at_call 56; (with_reducible refine (impl_rule_values.calls kj3 a1 a2 60 t294 _ A11.out).mono ?_); rintro e w16 ⟨v295, rfl, ho0, hb⟩; have n0_ := Aside0.mk (Kd.S_elder' (by (with_reducible repeat (first | apply Kd.S_alloc | apply Kd.S_drewN | apply Kd.S_drew)); exact (Kd.S_mono (Kd.S_far (p := ⟨gb293, 1, none⟩) (Kd.S_far (p := ⟨gb293, 0, none⟩) (Kd.S_types HO292.out BK293.out (by decide)) (fun _ hk => hk.2) (.int .i64 a1)) (fun _ hk => hk.2) (.bool a2)) (fun _ h_ => h_.1))) (Kd.R_base ho0) hb); have n1_ := Aside0.mk (Kd.R_lower ho0 (below_size (Lam.al))); have n2_ := Aside0.mk (blk_below (g := gb293) (o := .cells #[.int .i64 a1, .bool a2] 69 (0, 0)) (by (with_reducible repeat (first | refine blk_drewN ?_ _ | refine blk_drew ?_ | refine blk_alloc ?_ _)); refine blk_put (cs := #[.int .i64 a1, .bool false]) ?_ 1 _ rfl; (with_reducible repeat (first | refine blk_drewN ?_ _ | refine blk_drew ?_ | refine blk_alloc ?_ _)); refine blk_put (cs := #[.int .i64 0, .bool false]) ?_ 0 _ rfl; (with_reducible repeat (first | refine blk_drewN ?_ _ | refine blk_drew ?_ | refine blk_alloc ?_ _)); exact BK293.out) hb); have n3_ := Aside0.mk (below_step (Lam.al) hb); clear HO292; clear BK293; clear HB; have HO292 := n0_; have HO296 := n1_; have BK293 := n2_; have HB := n3_; clear n0_ n1_ n2_ n3_; (try clear hb); (try clear hb2); (try clear hk); (try clear hi); (try clear ho0))); try go_wp2_with (first | ((with_reducible refine gate_dst (N := 26) rfl ?_); refine Kd.S_lit (Kd.slice 3 (Kd.int .i64)) _ 26 ?hg (N := 26) ?hd (xs := ([] : List (List Int))) (inner := []) (ok := fun _ => True) (okp := fun _ => True) ?hr ?hp (fun _ hk => hk) trivial (Below.refl _ _) (Nat.le_refl _) (by simp) ?_; (case hd => rfl); (case hg => rfl); (case hr => first | (go_simp; done) | (go_simp; rfl)); (case hp => exact (Reps.none _ _)); intro v291 w12 ho13 hb hg_ hnew_; clear hg_ hnew_; (first | rw [← Ny290.out] at ho13 | (simp only [Int.reduceToNat] at ho13; rw [← Ny290.out] at ho13)); have n0_ := Aside0.mk (Kd.S_lower ho13 (below_size (Lam.al))); have n1_ := Aside0.mk (below_step (Lam.al) hb); clear HB; have HO292 := n0_; have HB := n1_; clear n0_ n1_; clear hb ho13) | ((with_reducible refine gate_dst (N := 8) rfl ?_); refine box_event ?hg (N := 8) ?hd (cs := #[.int .i64 0, .bool false]) (t := 69) ?hr ?_; (case hd => rfl); (case hg => rfl); (case hr => first | (go_simp; done) | (go_simp; rfl)); intro gb293 hg w14 hbox hb; have n0_ := Aside0.mk (Kd.S_below (Lam.sq HO292.out) hb); have n1_ := Aside0.mk (below_step (Lam.al) hb); have n2_ := Aside0.mk (hbox); have n3_ := Aside0.mk ((by rw [hg]; exact (below_size (Lam.al)) : w.heap.size ≤ gb293)); have n4_ := Aside0.mk ((by rw [hg]; exact (below_size (Lam.al)) : w.heap.size ≤ gb293)); clear HO292; clear HB; have HO292 := n0_; have HB := n1_; have BK293 := n2_; have GW293 := n3_; have GE293 := n4_; clear n0_ n1_ n2_ n3_ n4_; clear hb hbox hg; have hcz15_0 : w14.cell? ⟨gb293, 0, none⟩ = some (.int .i64 0) := (blk_cell BK293.out 0).trans rfl; have hcz15_1 : w14.cell? ⟨gb293, 1, none⟩ = some (.bool false) := (blk_cell BK293.out 1).trans rfl; have hfz15_0 := blk_frozen BK293.out 0; have hfz15_1 := blk_frozen BK293.out 1) | (go_at_call 56; (with_reducible refine (impl_rule_values.calls kj3 a1 a2 60 t294 _ A11.out).mono ?_); rintro e w16 ⟨v295, rfl, ho0, hb⟩; have n0_ := Aside0.mk (Kd.S_elder' (by (with_reducible repeat (first | apply Kd.S_alloc | apply Kd.S_drewN | apply Kd.S_drew)); exact (Kd.S_mono (Kd.S_far (p := ⟨gb293, 1, none⟩) (Kd.S_far (p := ⟨gb293, 0, none⟩) (Kd.S_types HO292.out BK293.out (by decide)) (fun _ hk => hk.2) (.int .i64 a1)) (fun _ hk => hk.2) (.bool a2)) (fun _ h_ => h_.1))) (Kd.R_base ho0) hb); have n1_ := Aside0.mk (Kd.R_lower ho0 (below_size (Lam.al))); have n2_ := Aside0.mk (blk_below (g := gb293) (o := .cells #[.int .i64 a1, .bool a2] 69 (0, 0)) (by (with_reducible repeat (first | refine blk_drewN ?_ _ | refine blk_drew ?_ | refine blk_alloc ?_ _)); refine blk_put (cs := #[.int .i64 a1, .bool false]) ?_ 1 _ rfl; (with_reducible repeat (first | refine blk_drewN ?_ _ | refine blk_drew ?_ | refine blk_alloc ?_ _)); refine blk_put (cs := #[.int .i64 0, .bool false]) ?_ 0 _ rfl; (with_reducible repeat (first | refine blk_drewN ?_ _ | refine blk_drew ?_ | refine blk_alloc ?_ _)); exact BK293.out) hb); have n3_ := Aside0.mk (below_step (Lam.al) hb); clear HO292; clear BK293; clear HB; have HO292 := n0_; have HO296 := n1_; have BK293 := n2_; have HB := n3_; clear n0_ n1_ n2_ n3_; (try clear hb); (try clear hb2); (try clear hk); (try clear hi); (try clear ho0))))
    go_loopg [9, 31] kj3 (fun kq v9 v31 w' => ∃ (x9_2 : List (List Int)) (x31_2 : Int), v31 = .int .i64 x31_2 ∧ Aside0 (impl_GoodStrips.l0 kq l0 x9_2 t294 l0 (l0.length : Int) x31_2 a1 a2 = some (r1, r2)) ∧ Aside0 (kq ≤ kj3) ∧ Aside0 (Kd.S (Kd.slice 3 (Kd.int .i64)) 26 w' w.heap.size (fun k_ => some k_ ≠ (v295 : Value).ownBlock) v9 x9_2) ∧ Aside0 (Kd.R (Kd.int .i64) 3 w' w.heap.size (fun _ => True) v295 t294) ∧ Aside0 (w'.heap[gb293]? = some (.cells #[.int .i64 a1, .bool a2] 69 (0, 0))) ∧ Aside0 (Below w.heap.size w w'))
    case atStart => exact ⟨(y290), (0), (by first | rfl | (simp; done) | (simp [*]; done)), H', ⟨Nat.le_refl _⟩, ⟨by (with_reducible repeat (first | apply Kd.S_alloc | apply Kd.S_drewN | apply Kd.S_drew)); exact Kd.S_mono HO292.out (fun _ hk => hk.2)⟩, ⟨Lam.rq HO296.out⟩, ⟨Lam.bq BK293.out⟩, ⟨Lam.al⟩⟩
    case round =>
     clear H'
     try clear c1
     try clear c2
     try clear p2
     try clear c6
     try clear c10
     try clear hcz15_0
     try clear hcz15_1
     try clear hfz15_0
     try clear hfz15_1
     try clear p2
     obtain ⟨x9_2, x31_2, rfl, HA, HK2, HO_9, HO_10, BK293, HB⟩ := hrel
     cases gk with
     | zero => exact absurd HA.out (by simp [impl_GoodStrips.l0])
     | succ k2 =>
      have H := HA.out
      clear HA
      simp only [impl_GoodStrips.l0] at H
      by_cases c17 : x31_2 < (l0.length : Int)
      ·rw [if_pos c17] at H
       have c17b0 : decide (x31_2 < (l0.length : Int)) = true := decide_eq_true c17
       clear c17
       by_cases c18 : 0 ≤ x31_2
       ·rw [if_pos c18] at H
        have c18b0 : decide (0 ≤ x31_2) = true := decide_eq_true c18
        clear c18
        by_cases c19 : x31_2 < (l0.length : Int)
        ·rw [if_pos c19] at H
         have c19b0 : decide (x31_2 < (l0.length : Int)) = true := decide_eq_true c19
         clear c19
         replace H := Option.bind_eq_some_iff.mp H
         obtain ⟨t298, A200, H⟩ := H
         (try dsimp only at H)
         have A20 := Aside0.mk A200
         clear A200
         have H' := Aside0.mk H
         clear H
         have p297 : 0 ≤ (x31_2 : Int) := of_decide_eq_true (by first | (with_reducible assumption) | assumption)
         have q297 : x31_2 < (l0.length : Int) := of_decide_eq_true (by first | (with_reducible assumption) | assumption)
         obtain ⟨ad297, e297, hx297_0⟩ := Kd.at_int HR0.out x31_2 p297 q297
         cases e297
         replace hx297_0 := (HB.out.cell (World.block_lt_of_cell? w _ hx297_0)).trans hx297_0
         replace p297 := eq_true p297
         replace q297 := eq_true q297
         have hcz21_0 : wr.cell? ⟨gb293, 0, none⟩ = some (.int .i64 a1) := (blk_cell BK293.out 0).trans rfl
         have hcz21_1 : wr.cell? ⟨gb293, 1, none⟩ = some (.bool a2) := (blk_cell BK293.out 1).trans rfl
         have hfz21_0 := blk_frozen BK293.out 0
         have hfz21_1 := blk_frozen BK293.out 1
         go_wp2_with (first | (go_at_call 53; (with_reducible refine (impl_rule_moves.calls k2 a1 a2 (rd l0 x31_2) t298 _ A20.out).mono ?_); rintro e w22 ⟨v299, rfl, ho0, hb⟩; have n0_ := Aside0.mk (Kd.S_elder' (Lam.sq HO_9.out) (Kd.R_base ho0) hb); have n1_ := Aside0.mk (Kd.R_elder' (Lam.rq HO_10.out) (Kd.R_base ho0) hb); have n2_ := Aside0.mk (Kd.R_lower (Kd.R_new' ho0 (Kd.R_lt (Lam.rq HO_10.out))) (below_size (Lam.al))); have n3_ := Aside0.mk (blk_below (g := gb293) (o := .cells #[.int .i64 a1, .bool a2] 69 (0, 0)) (Lam.bq BK293.out) hb); have n4_ := Aside0.mk (below_step (Lam.al) hb); clear HO_9; clear HO_10; clear BK293; clear HB; have HO_9 := n0_; have HO_10 := n1_; have HO300 := n2_; have BK293 := n3_; have HB := n4_; clear n0_ n1_ n2_ n3_ n4_; (try clear hb); (try clear hb2); (try clear hk); (try clear hi); (try clear ho0); obtain ⟨Ao23, co23, eo23⟩ := Kd.R_slice HO300.out; subst eo23))
         repeat (go_quiet (first | (go_at_call 53; (with_reducible refine (impl_rule_moves.calls k2 a1 a2 (rd l0 x31_2) t298 _ A20.out).mono ?_); rintro e w22 ⟨v299, rfl, ho0, hb⟩; have n0_ := Aside0.mk (Kd.S_elder' (Lam.sq HO_9.out) (Kd.R_base ho0) hb); have n1_ := Aside0.mk (Kd.R_elder' (Lam.rq HO_10.out) (Kd.R_base ho0) hb); have n2_ := Aside0.mk (Kd.R_lower (Kd.R_new' ho0 (Kd.R_lt (Lam.rq HO_10.out))) (below_size (Lam.al))); have n3_ := Aside0.mk (blk_below (g := gb293) (o := .cells #[.int .i64 a1, .bool a2] 69 (0, 0)) (Lam.bq BK293.out) hb); have n4_ := Aside0.mk (below_step (Lam.al) hb); clear HO_9; clear HO_10; clear BK293; clear HB; have HO_9 := n0_; have HO_10 := n1_; have HO300 := n2_; have BK293 := n3_; have HB := n4_; clear n0_ n1_ n2_ n3_ n4_; (try clear hb); (try clear hb2); (try clear hk); (try clear hi); (try clear ho0); obtain ⟨Ao23, co23, eo23⟩ := Kd.R_slice HO300.out; subst eo23)); try go_wp2_with (first | (go_at_call 53; (with_reducible refine (impl_rule_moves.calls k2 a1 a2 (rd l0 x31_2) t298 _ A20.out).mono ?_); rintro e w22 ⟨v299, rfl, ho0, hb⟩; have n0_ := Aside0.mk (Kd.S_elder' (Lam.sq HO_9.out) (Kd.R_base ho0) hb); have n1_ := Aside0.mk (Kd.R_elder' (Lam.rq HO_10.out) (Kd.R_base ho0) hb); have n2_ := Aside0.mk (Kd.R_lower (Kd.R_new' ho0 (Kd.R_lt (Lam.rq HO_10.out))) (below_size (Lam.al))); have n3_ := Aside0.mk (blk_below (g := gb293) (o := .cells #[.int .i64 a1, .bool a2] 69 (0, 0)) (Lam.bq BK293.out) hb); have n4_ := Aside0.mk (below_step (Lam.al) hb); clear HO_9; clear HO_10; clear BK293; clear HB; have HO_9 := n0_; have HO_10 := n1_; have HO300 := n2_; have BK293 := n3_; have HB := n4_; clear n0_ n1_ n2_ n3_ n4_; (try clear hb); (try clear hb2); (try clear hk); (try clear hi); (try clear ho0); obtain ⟨Ao23, co23, eo23⟩ := Kd.R_slice HO300.out; subst eo23)))
         go_loopg [9, 40] k2 (fun kq v9 v40 w' => ∃ (x9_3 : List (List Int)) (x40_3 : Int), v40 = .int .i64 x40_3 ∧ Aside0 (impl_GoodStrips.l1 kq l0 x9_3 t294 x31_2 (rd l0 x31_2) l0 (l0.length : Int) x31_2 t298 (t298.length : Int) x40_3 a1 a2 = some (r1, r2)) ∧ Aside0 (kq ≤ k2) ∧ Aside0 (Kd.S (Kd.slice 3 (Kd.int .i64)) 26 w' w.heap.size (fun k_ => some k_ ≠ (v295 : Value).ownBlock ∧ some k_ ≠ ((.slice Ao23 t298.length co23) : Value).ownBlock) v9 x9_3) ∧ Aside0 (Kd.R (Kd.int .i64) 3 w' w.heap.size (fun k_ => some k_ ≠ ((.slice Ao23 t298.length co23) : Value).ownBlock) v295 t294) ∧ Aside0 (Kd.R (Kd.int .i64) 3 w' w.heap.size (fun k_ => some k_ ≠ (v295 : Value).ownBlock) (.slice Ao23 t298.length co23) t298) ∧ Aside0 (w'.heap[gb293]? = some (.cells #[.int .i64 a1, .bool a2] 69 (0, 0))) ∧ Aside0 (Below w.heap.size w w'))
         case atStart => exact ⟨(x9_2), (0), (by first | rfl | (simp; done) | (simp [*]; done)), H', ⟨Nat.le_refl _⟩, ⟨Lam.sq HO_9.out⟩, ⟨by (with_reducible repeat (first | apply Kd.R_alloc | apply Kd.R_drewN | apply Kd.R_drew)); exact Kd.R_mono HO_10.out (fun _ hk => hk.2)⟩, ⟨by (with_reducible repeat (first | apply Kd.R_alloc | apply Kd.R_drewN | apply Kd.R_drew)); exact Kd.R_mono HO300.out (fun _ hk => hk.2)⟩, ⟨Lam.bq BK293.out⟩, ⟨Lam.al⟩⟩
         case round =>
          clear H'
          try clear c1
          try clear c2
          try clear p2
          try clear q2
          try clear hx2
          try clear c6
          try clear c10
          try clear c17
          try clear c17b0
          try clear c18
          try clear c18b0
          try clear c19
          try clear c19b0
          try clear c21
          try clear hcz15_0
          try clear hcz15_1
          try clear hcz21_0
          try clear hcz21_1
          try clear hfz15_0
          try clear hfz15_1
          try clear hfz21_0
          try clear hfz21_1
          try clear hx297_0
          try clear p2
          try clear p297
          try clear q297
          obtain ⟨x9_3, x40_3, rfl, HA, HK3, HO_9, HO_10, HO_38, BK293, HB⟩ := hrel
          cases gk with
          | zero => exact absurd HA.out (by simp [impl_GoodStrips.l1])
          | succ k3 =>
           have H := HA.out
           clear HA
           simp only [impl_GoodStrips.l1] at H
           by_cases c24 : x40_3 < (t298.length : Int)
           ·rw [if_pos c24] at H
            have c24b0 : decide (x40_3 < (t298.length : Int)) = true := decide_eq_true c24
            clear c24
            by_cases c25 : 0 ≤ x40_3
            ·rw [if_pos c25] at H
             have c25b0 : decide (0 ≤ x40_3) = true := decide_eq_true c25
             clear c25
             by_cases c26 : x40_3 < (t298.length : Int)
             ·rw [if_pos c26] at H
              have c26b0 : decide (x40_3 < (t298.length : Int)) = true := decide_eq_true c26
              clear c26
              replace H := Option.bind_eq_some_iff.mp H
              obtain ⟨t302, A270, H⟩ := H
              (try dsimp only at H)
              have A27 := Aside0.mk A270
              clear A270
              by_cases c28 : 0 ≤ (rd l0 x31_2)
              ·rw [if_pos c28] at H
               have c28b0 : decide (0 ≤ (rd l0 x31_2)) = true := decide_eq_true c28
               clear c28
               by_cases c29 : (rd l0 x31_2) < (t294.length : Int)
               ·rw [if_pos c29] at H
                have c29b0 : decide ((rd l0 x31_2) < (t294.length : Int)) = true := decide_eq_true c29
                clear c29
                by_cases c30 : 0 ≤ (rd t298 x40_3)
                ·rw [if_pos c30] at H
                 have c30b0 : decide (0 ≤ (rd t298 x40_3)) = true := decide_eq_true c30
                 clear c30
                 by_cases c31 : (rd t298 x40_3) < (t294.length : Int)
                 ·rw [if_pos c31] at H
                  have c31b0 : decide ((rd t298 x40_3) < (t294.length : Int)) = true := decide_eq_true c31
                  clear c31
                  obtain ⟨ji32, hji32⟩ : ∃ j_ : Int, (wrap64 ((rd l0 x31_2) - (rd t298 x40_3))) = j_ := ⟨_, rfl⟩
                  replace H : (if 0 ≤ (ji32) then (if (ji32) < (t294.length : Int) then (if (Go.bits .xor .i64 (Go.bits .xor .i64 (Go.bits .xor .i64 t302 (rd t294 (rd l0 x31_2))) (rd t294 (rd t298 x40_3))) (rd t294 (ji32))) = 0 then (if x9_3.length < 5864062014805 then (impl_GoodStrips.l1 k3 l0 (x9_3 ++ [(([x31_2, rd t298 x40_3] : List Int))]) t294 x31_2 (rd l0 x31_2) l0 (l0.length : Int) x31_2 t298 (t298.length : Int) (wrap64 (x40_3 + 1)) a1 a2) else (none)) else (impl_GoodStrips.l1 k3 l0 x9_3 t294 x31_2 (rd l0 x31_2) l0 (l0.length : Int) x31_2 t298 (t298.length : Int) (wrap64 (x40_3 + 1)) a1 a2)) else (none)) else (none)) = some (r1, r2) := by first | (rw [hji32] at H; exact H) | (simp only [hji32] at H ⊢; exact H)
                  (try rw [hji32] at A27)
                  have hji32w : (IntKind.i64.wrap ((rd l0 x31_2) - (rd t298 x40_3))) = ji32 := (i64_w _).trans hji32
                  by_cases c33 : 0 ≤ (ji32)
                  ·rw [if_pos c33] at H
                   have c33b0 : decide (0 ≤ (ji32)) = true := decide_eq_true c33
                   clear c33
                   by_cases c34 : (ji32) < (t294.length : Int)
                   ·rw [if_pos c34] at H
                    have c34b0 : decide ((ji32) < (t294.length : Int)) = true := decide_eq_true c34
                    clear c34
                    by_cases c35 : (Go.bits .xor .i64 (Go.bits .xor .i64 (Go.bits .xor .i64 t302 (rd t294 (rd l0 x31_2))) (rd t294 (rd t298 x40_3))) (rd t294 (ji32))) = 0
                    ·rw [if_pos c35] at H
                     have c35b0 : ((Go.bits .xor .i64 (Go.bits .xor .i64 (Go.bits .xor .i64 t302 (rd t294 (rd l0 x31_2))) (rd t294 (rd t298 x40_3))) (rd t294 (ji32))) == 0) = true := beq_iff_eq.mpr c35
                     have c35b1 : ((Go.bits .xor .i64 (Go.bits .xor .i64 (Go.bits .xor .i64 t302 (rd t294 (rd l0 x31_2))) (rd t294 (rd t298 x40_3))) (rd t294 (ji32))) != 0) = false := bne_eq_false_iff_eq.mpr c35
                     clear c35
                     obtain ⟨y306, hy306⟩ : ∃ y_ : List Int, y_ = (([x31_2, rd t298 x40_3] : List Int)) := ⟨_, rfl⟩
                     replace H : (if x9_3.length < 5864062014805 then (impl_GoodStrips.l1 k3 l0 (x9_3 ++ [y306]) t294 x31_2 (rd l0 x31_2) l0 (l0.length : Int) x31_2 t298 (t298.length : Int) (wrap64 (x40_3 + 1)) a1 a2) else (none)) = some (r1, r2) := by first | (rw [hy306]; with_reducible exact H) | (have H2_ := (Option.bind_some _ _).symm.trans H; rw [hy306]; with_reducible exact H2_) | (have H2_ := (Option.bind_some _ _).symm.trans H; with_reducible exact H2_) | with_reducible exact H | (rw [hy306]; exact H) | exact H
                     have Ny306 := Aside0.mk hy306
                     clear hy306
                     by_cases c36 : x9_3.length < 5864062014805
                     ·rw [if_pos c36] at H
                      have LMc36 := Aside0.mk c36
                      clear c36
                      obtain ⟨y309, hy309⟩ : ∃ y_ : List (List Int), y_ = (x9_3 ++ [y306]) := ⟨_, rfl⟩
                      replace H : (impl_GoodStrips.l1 k3 l0 y309 t294 x31_2 (rd l0 x31_2) l0 (l0.length : Int) x31_2 t298 (t298.length : Int) (wrap64 (x40_3 + 1)) a1 a2) = some (r1, r2) := by first | (rw [hy309]; with_reducible exact H) | (have H2_ := (Option.bind_some _ _).symm.trans H; rw [hy309]; with_reducible exact H2_) | (have H2_ := (Option.bind_some _ _).symm.trans H; with_reducible exact H2_) | with_reducible exact H | (rw [hy309]; exact H) | exact H
                      have Ny309 := Aside0.mk hy309
                      clear hy309
                      have H' := Aside0.mk H
                      clear H
                      have p301 : 0 ≤ (x40_3 : Int) := of_decide_eq_true (by first | (with_reducible assumption) | assumption)
                      have q301 : x40_3 < (t298.length : Int) := of_decide_eq_true (by first | (with_reducible assumption) | assumption)
                      obtain ⟨ad301, e301, hx301_0⟩ := Kd.at_int (Kd.R_reads' HO_38.out).2.2 x40_3 p301 q301
                      cases e301
                      replace p301 := eq_true p301
                      replace q301 := eq_true q301
                      obtain ⟨Ao37, co37, eo37⟩ := Kd.R_slice HO_10.out
                      subst eo37
                      go_wp2_with (first | (go_at_call 64; (with_reducible refine (impl_together.calls k3 _ _ l0 _ _ t294 t302 _ ?side1 ?side2 ?side3 ?side4 A27.out).mono ?_); (case side1 => repeat (first | exact (Kd.C_below HR0.out HB.out) | (with_reducible refine Kd.C_alloc ?_ _) | (with_reducible refine Kd.C_drewN ?_ _) | (with_reducible refine Kd.C_drew ?_))); (case side2 => exact HC0.out); (case side3 => repeat (first | exact (Kd.R_reads' HO_10.out).2.2 | (with_reducible refine Kd.C_alloc ?_ _) | (with_reducible refine Kd.C_drewN ?_ _) | (with_reducible refine Kd.C_drew ?_))); (case side4 => exact (Kd.R_reads' HO_10.out).2.1); rintro e w' ⟨rfl, ⟨nd, rfl⟩⟩; (try first | exact ⟨rfl, _, World.drewN_drewN _ _ _⟩ | exact ⟨rfl, _, Eq.trans (World.drewN_drewN _ _ _) (congrArg (World.drewN _) (Nat.add_assoc _ _ _))⟩); have p303 : 0 ≤ ((rd l0 x31_2) : Int) := of_decide_eq_true (by first | (with_reducible assumption) | assumption); have q303 : (rd l0 x31_2) < (t294.length : Int) := of_decide_eq_true (by first | (with_reducible assumption) | assumption); obtain ⟨ad303, e303, hx303_0⟩ := Kd.at_int (Kd.R_reads' HO_10.out).2.2 (rd l0 x31_2) p303 q303; cases e303; replace p303 := eq_true p303; replace q303 := eq_true q303; have p304 : 0 ≤ ((rd t298 x40_3) : Int) := of_decide_eq_true (by first | (with_reducible assumption) | assumption); have q304 : (rd t298 x40_3) < (t294.length : Int) := of_decide_eq_true (by first | (with_reducible assumption) | assumption); obtain ⟨ad304, e304, hx304_0⟩ := Kd.at_int (Kd.R_reads' HO_10.out).2.2 (rd t298 x40_3) p304 q304; obtain rfl : ad303 = ad304 := (by injection e304); replace p304 := eq_true p304; replace q304 := eq_true q304; have p305 : 0 ≤ ((ji32) : Int) := of_decide_eq_true (by first | (with_reducible assumption) | assumption); have q305 : (ji32) < (t294.length : Int) := of_decide_eq_true (by first | (with_reducible assumption) | assumption); obtain ⟨ad305, e305, hx305_0⟩ := Kd.at_int (Kd.R_reads' HO_10.out).2.2 (ji32) p305 q305; obtain rfl : ad303 = ad305 := (by injection e305); replace p305 := eq_true p305; replace q305 := eq_true q305) | ((with_reducible refine gate_dst (N := 68) rfl ?_); refine Kd.R_lit (Kd.int .i64) _ 3 ?hg (N := 68) ?hd (xs := ([x31_2, rd t298 x40_3] : List Int)) (inner := [.int .i64 x31_2, .int .i64 (rd t298 x40_3)]) (ok := fun _ => True) (okp := fun _ => True) ?hr ?hp (fun _ hk => hk) trivial (Below.refl _ _) (Nat.le_refl _) (by simp) ?_; (case hd => rfl); (case hg => rfl); (case hr => first | (go_simp; done) | (go_simp; rfl)); (case hp => exact (Reps.one (show Kd.M (Kd.int .i64) _ _ _ x31_2 [.int .i64 x31_2] from rfl) (Reps.one (show Kd.M (Kd.int .i64) _ _ _ (rd t298 x40_3) [.int .i64 (rd t298 x40_3)] from rfl) (Reps.none _ _)))); intro v307 w38 ho39 hb hg_ hnew_; clear hg_ hnew_; (first | rw [← Ny306.out] at ho39 | (simp only [Int.reduceToNat] at ho39; rw [← Ny306.out] at ho39)); have n0_ := Aside0.mk (Kd.S_elder' (Lam.sq HO_9.out) (Kd.R_base ho39) hb); have n1_ := Aside0.mk (Kd.R_elder' (Lam.rq HO_10.out) (Kd.R_base ho39) hb); have n2_ := Aside0.mk (Kd.R_elder' (Lam.rq HO_38.out) (Kd.R_base ho39) hb); have n3_ := Aside0.mk (Kd.R_lower (Kd.R_new' (Kd.R_new' ho39 (Kd.R_lt (Lam.rq HO_10.out))) (Kd.R_lt (Lam.rq HO_38.out))) (below_size (Lam.al))); have n4_ := Aside0.mk (blk_below (g := gb293) (o := .cells #[.int .i64 a1, .bool a2] 69 (0, 0)) (Lam.bq BK293.out) hb); have n5_ := Aside0.mk (below_step (Lam.al) hb); clear HO_9; clear HO_10; clear HO_38; clear BK293; clear HB; have HO_9 := n0_; have HO_10 := n1_; have HO_38 := n2_; have HO308 := n3_; have BK293 := n4_; have HB := n5_; clear n0_ n1_ n2_ n3_ n4_ n5_; clear hb ho39; obtain ⟨Ao41, co41, eo41⟩ := Kd.R_slice HO308.out; subst eo41) | ((with_reducible refine gate_builtin (b := .append) (xs := #[.tmp 65, .tmp 69]) rfl ?_); at_builtin; refine Kd.S_append (Kd.slice 3 (Kd.int .i64)) (w0 := w) w.heap.size rfl (.tmp 65) (.tmp 69) 36 26 (.slice none 0 0) 24 rfl Try.underlying36 info26 rfl (by decide) (by omega) u9 x9_3 y306 [.slice Ao41 y306.length co41] (fun k_ => some k_ ≠ (.slice (some ad303) t294.length co37 : Value).ownBlock ∧ some k_ ≠ (.slice (some ad301) t298.length co23 : Value).ownBlock) (fun k_ => some k_ = (.slice Ao41 y306.length co41 : Value).ownBlock) rfl rfl ?aP (fun k_ hk_ => ((Kd.R_mono (ok' := fun k_ => ((fun k_ => some k_ ≠ (.slice (some ad303) t294.length co37 : Value).ownBlock ∧ some k_ ≠ (.slice (some ad301) t298.length co23 : Value).ownBlock)) k_ ∧ some k_ ≠ (u9 : Value).ownBlock) (Kd.R_apart' (HO308.out) (Kd.S_typed HO_9.out) (by decide)) (fun k_ hk => ⟨⟨hk.1.1.2, hk.1.2⟩, hk.2⟩))).1 k_ hk_.symm) ?aF ?aO ?aB ?aS ?aL ?_; (case aP => exact Kd.M_row (Kd.R_mono (Kd.R_tight rfl (Kd.R_mono (ok' := fun k_ => ((fun k_ => some k_ ≠ (.slice (some ad303) t294.length co37 : Value).ownBlock ∧ some k_ ≠ (.slice (some ad301) t298.length co23 : Value).ownBlock)) k_ ∧ some k_ ≠ (u9 : Value).ownBlock) (Kd.R_apart' (HO308.out) (Kd.S_typed HO_9.out) (by decide)) (fun k_ hk => ⟨⟨hk.1.1.2, hk.1.2⟩, hk.2⟩))) (fun _ h_ => h_))); (case aB => exact (Lam.al)); (case aF => exact (fun k_ hk => ⟨Kd.fresh' (Kd.R_lt (Lam.rq HO_10.out)) k_ hk, Kd.fresh' (Kd.R_lt (Lam.rq HO_38.out)) k_ hk⟩)); (case aO => exact (by (with_reducible repeat (first | apply Kd.S_alloc | apply Kd.S_drewN | apply Kd.S_drew)); exact Kd.S_mono HO_9.out (fun k_ hk => ⟨⟨hk.1.1, hk.1.2⟩, fun e_ => hk.2 e_⟩))); (case aS => exact (below_size (Lam.al))); (case aL => have := LMc36.out; omega); intro v310 w40 ho hb hg hat; rw [← Ny309.out] at ho; have n0_ := Aside0.mk (Kd.R_over' (Lam.rq HO_10.out) (Kd.S_typed (Lam.sq HO_9.out)) (by decide) hg); have n1_ := Aside0.mk (Kd.R_over' (Lam.rq HO_38.out) (Kd.S_typed (Lam.sq HO_9.out)) (by decide) hg); have n2_ := Aside0.mk (blk_grown (g := gb293) (o := .cells #[.int .i64 a1, .bool a2] 69 (0, 0)) (Lam.bq BK293.out) hg (Kd.S_ne HO_9.out BK293.out (by decide))); have n3_ := Aside0.mk (hb); have n4_ := Aside0.mk (ho); clear HO_10; clear HO_38; clear BK293; clear HB; clear HO_9; clear HO308; have HO_10 := n0_; have HO_38 := n1_; have BK293 := n2_; have HB := n3_; have HO311 := n4_; clear n0_ n1_ n2_ n3_ n4_; clear ho hb hg hat))
                      repeat (go_quiet (first | (go_at_call 64; (with_reducible refine (impl_together.calls k3 _ _ l0 _ _ t294 t302 _ ?side1 ?side2 ?side3 ?side4 A27.out).mono ?_); (case side1 => repeat (first | exact (Kd.C_below HR0.out HB.out) | (with_reducible refine Kd.C_alloc ?_ _) | (with_reducible refine Kd.C_drewN ?_ _) | (with_reducible refine Kd.C_drew ?_))); (case side2 => exact HC0.out); (case side3 => repeat (first | exact (Kd.R_reads' HO_10.out).2.2 | (with_reducible refine Kd.C_alloc ?_ _) | (with_reducible refine Kd.C_drewN ?_ _) | (with_reducible refine Kd.C_drew ?_))); (case side4 => exact (Kd.R_reads' HO_10.out).2.1); rintro e w' ⟨rfl, ⟨nd, rfl⟩⟩; (try first | exact ⟨rfl, _, World.drewN_drewN _ _ _⟩ | exact ⟨rfl, _, Eq.trans (World.drewN_drewN _ _ _) (congrArg (World.drewN _) (Nat.add_assoc _ _ _))⟩); have p303 : 0 ≤ ((rd l0 x31_2) : Int) := of_decide_eq_true (by first | (with_reducible assumption) | assumption); have q303 : (rd l0 x31_2) < (t294.length : Int) := of_decide_eq_true (by first | (with_reducible assumption) | assumption); obtain ⟨ad303, e303, hx303_0⟩ := Kd.at_int (Kd.R_reads' HO_10.out).2.2 (rd l0 x31_2) p303 q303; cases e303; replace p303 := eq_true p303; replace q303 := eq_true q303; have p304 : 0 ≤ ((rd t298 x40_3) : Int) := of_decide_eq_true (by first | (with_reducible assumption) | assumption); have q304 : (rd t298 x40_3) < (t294.length : Int) := of_decide_eq_true (by first | (with_reducible assumption) | assumption); obtain ⟨ad304, e304, hx304_0⟩ := Kd.at_int (Kd.R_reads' HO_10.out).2.2 (rd t298 x40_3) p304 q304; obtain rfl : ad303 = ad304 := (by injection e304); replace p304 := eq_true p304; replace q304 := eq_true q304; have p305 : 0 ≤ ((ji32) : Int) := of_decide_eq_true (by first | (with_reducible assumption) | assumption); have q305 : (ji32) < (t294.length : Int) := of_decide_eq_true (by first | (with_reducible assumption) | assumption); obtain ⟨ad305, e305, hx305_0⟩ := Kd.at_int (Kd.R_reads' HO_10.out).2.2 (ji32) p305 q305; obtain rfl : ad303 = ad305 := (by injection e305); replace p305 := eq_true p305; replace q305 := eq_true q305) | ((with_reducible refine gate_dst (N := 68) rfl ?_); refine Kd.R_lit (Kd.int .i64) _ 3 ?hg (N := 68) ?hd (xs := ([x31_2, rd t298 x40_3] : List Int)) (inner := [.int .i64 x31_2, .int .i64 (rd t298 x40_3)]) (ok := fun _ => True) (okp := fun _ => True) ?hr ?hp (fun _ hk => hk) trivial (Below.refl _ _) (Nat.le_refl _) (by simp) ?_; (case hd => rfl); (case hg => rfl); (case hr => first | (go_simp; done) | (go_simp; rfl)); (case hp => exact (Reps.one (show Kd.M (Kd.int .i64) _ _ _ x31_2 [.int .i64 x31_2] from rfl) (Reps.one (show Kd.M (Kd.int .i64) _ _ _ (rd t298 x40_3) [.int .i64 (rd t298 x40_3)] from rfl) (Reps.none _ _)))); intro v307 w38 ho39 hb hg_ hnew_; clear hg_ hnew_; (first | rw [← Ny306.out] at ho39 | (simp only [Int.reduceToNat] at ho39; rw [← Ny306.out] at ho39)); have n0_ := Aside0.mk (Kd.S_elder' (Lam.sq HO_9.out) (Kd.R_base ho39) hb); have n1_ := Aside0.mk (Kd.R_elder' (Lam.rq HO_10.out) (Kd.R_base ho39) hb); have n2_ := Aside0.mk (Kd.R_elder' (Lam.rq HO_38.out) (Kd.R_base ho39) hb); have n3_ := Aside0.mk (Kd.R_lower (Kd.R_new' (Kd.R_new' ho39 (Kd.R_lt (Lam.rq HO_10.out))) (Kd.R_lt (Lam.rq HO_38.out))) (below_size (Lam.al))); have n4_ := Aside0.mk (blk_below (g := gb293) (o := .cells #[.int .i64 a1, .bool a2] 69 (0, 0)) (Lam.bq BK293.out) hb); have n5_ := Aside0.mk (below_step (Lam.al) hb); clear HO_9; clear HO_10; clear HO_38; clear BK293; clear HB; have HO_9 := n0_; have HO_10 := n1_; have HO_38 := n2_; have HO308 := n3_; have BK293 := n4_; have HB := n5_; clear n0_ n1_ n2_ n3_ n4_ n5_; clear hb ho39; obtain ⟨Ao41, co41, eo41⟩ := Kd.R_slice HO308.out; subst eo41) | ((with_reducible refine gate_builtin (b := .append) (xs := #[.tmp 65, .tmp 69]) rfl ?_); at_builtin; refine Kd.S_append (Kd.slice 3 (Kd.int .i64)) (w0 := w) w.heap.size rfl (.tmp 65) (.tmp 69) 36 26 (.slice none 0 0) 24 rfl Try.underlying36 info26 rfl (by decide) (by omega) u9 x9_3 y306 [.slice Ao41 y306.length co41] (fun k_ => some k_ ≠ (.slice (some ad303) t294.length co37 : Value).ownBlock ∧ some k_ ≠ (.slice (some ad301) t298.length co23 : Value).ownBlock) (fun k_ => some k_ = (.slice Ao41 y306.length co41 : Value).ownBlock) rfl rfl ?aP (fun k_ hk_ => ((Kd.R_mono (ok' := fun k_ => ((fun k_ => some k_ ≠ (.slice (some ad303) t294.length co37 : Value).ownBlock ∧ some k_ ≠ (.slice (some ad301) t298.length co23 : Value).ownBlock)) k_ ∧ some k_ ≠ (u9 : Value).ownBlock) (Kd.R_apart' (HO308.out) (Kd.S_typed HO_9.out) (by decide)) (fun k_ hk => ⟨⟨hk.1.1.2, hk.1.2⟩, hk.2⟩))).1 k_ hk_.symm) ?aF ?aO ?aB ?aS ?aL ?_; (case aP => exact Kd.M_row (Kd.R_mono (Kd.R_tight rfl (Kd.R_mono (ok' := fun k_ => ((fun k_ => some k_ ≠ (.slice (some ad303) t294.length co37 : Value).ownBlock ∧ some k_ ≠ (.slice (some ad301) t298.length co23 : Value).ownBlock)) k_ ∧ some k_ ≠ (u9 : Value).ownBlock) (Kd.R_apart' (HO308.out) (Kd.S_typed HO_9.out) (by decide)) (fun k_ hk => ⟨⟨hk.1.1.2, hk.1.2⟩, hk.2⟩))) (fun _ h_ => h_))); (case aB => exact (Lam.al)); (case aF => exact (fun k_ hk => ⟨Kd.fresh' (Kd.R_lt (Lam.rq HO_10.out)) k_ hk, Kd.fresh' (Kd.R_lt (Lam.rq HO_38.out)) k_ hk⟩)); (case aO => exact (by (with_reducible repeat (first | apply Kd.S_alloc | apply Kd.S_drewN | apply Kd.S_drew)); exact Kd.S_mono HO_9.out (fun k_ hk => ⟨⟨hk.1.1, hk.1.2⟩, fun e_ => hk.2 e_⟩))); (case aS => exact (below_size (Lam.al))); (case aL => have := LMc36.out; omega); intro v310 w40 ho hb hg hat; rw [← Ny309.out] at ho; have n0_ := Aside0.mk (Kd.R_over' (Lam.rq HO_10.out) (Kd.S_typed (Lam.sq HO_9.out)) (by decide) hg); have n1_ := Aside0.mk (Kd.R_over' (Lam.rq HO_38.out) (Kd.S_typed (Lam.sq HO_9.out)) (by decide) hg); have n2_ := Aside0.mk (blk_grown (g := gb293) (o := .cells #[.int .i64 a1, .bool a2] 69 (0, 0)) (Lam.bq BK293.out) hg (Kd.S_ne HO_9.out BK293.out (by decide))); have n3_ := Aside0.mk (hb); have n4_ := Aside0.mk (ho); clear HO_10; clear HO_38; clear BK293; clear HB; clear HO_9; clear HO308; have HO_10 := n0_; have HO_38 := n1_; have BK293 := n2_; have HB := n3_; have HO311 := n4_; clear n0_ n1_ n2_ n3_ n4_; clear ho hb hg hat)); try go_wp2_with (first | (go_at_call 64; (with_reducible refine (impl_together.calls k3 _ _ l0 _ _ t294 t302 _ ?side1 ?side2 ?side3 ?side4 A27.out).mono ?_); (case side1 => repeat (first | exact (Kd.C_below HR0.out HB.out) | (with_reducible refine Kd.C_alloc ?_ _) | (with_reducible refine Kd.C_drewN ?_ _) | (with_reducible refine Kd.C_drew ?_))); (case side2 => exact HC0.out); (case side3 => repeat (first | exact (Kd.R_reads' HO_10.out).2.2 | (with_reducible refine Kd.C_alloc ?_ _) | (with_reducible refine Kd.C_drewN ?_ _) | (with_reducible refine Kd.C_drew ?_))); (case side4 => exact (Kd.R_reads' HO_10.out).2.1); rintro e w' ⟨rfl, ⟨nd, rfl⟩⟩; (try first | exact ⟨rfl, _, World.drewN_drewN _ _ _⟩ | exact ⟨rfl, _, Eq.trans (World.drewN_drewN _ _ _) (congrArg (World.drewN _) (Nat.add_assoc _ _ _))⟩); have p303 : 0 ≤ ((rd l0 x31_2) : Int) := of_decide_eq_true (by first | (with_reducible assumption) | assumption); have q303 : (rd l0 x31_2) < (t294.length : Int) := of_decide_eq_true (by first | (with_reducible assumption) | assumption); obtain ⟨ad303, e303, hx303_0⟩ := Kd.at_int (Kd.R_reads' HO_10.out).2.2 (rd l0 x31_2) p303 q303; cases e303; replace p303 := eq_true p303; replace q303 := eq_true q303; have p304 : 0 ≤ ((rd t298 x40_3) : Int) := of_decide_eq_true (by first | (with_reducible assumption) | assumption); have q304 : (rd t298 x40_3) < (t294.length : Int) := of_decide_eq_true (by first | (with_reducible assumption) | assumption); obtain ⟨ad304, e304, hx304_0⟩ := Kd.at_int (Kd.R_reads' HO_10.out).2.2 (rd t298 x40_3) p304 q304; obtain rfl : ad303 = ad304 := (by injection e304); replace p304 := eq_true p304; replace q304 := eq_true q304; have p305 : 0 ≤ ((ji32) : Int) := of_decide_eq_true (by first | (with_reducible assumption) | assumption); have q305 : (ji32) < (t294.length : Int) := of_decide_eq_true (by first | (with_reducible assumption) | assumption); obtain ⟨ad305, e305, hx305_0⟩ := Kd.at_int (Kd.R_reads' HO_10.out).2.2 (ji32) p305 q305; obtain rfl : ad303 = ad305 := (by injection e305); replace p305 := eq_true p305; replace q305 := eq_true q305) | ((with_reducible refine gate_dst (N := 68) rfl ?_); refine Kd.R_lit (Kd.int .i64) _ 3 ?hg (N := 68) ?hd (xs := ([x31_2, rd t298 x40_3] : List Int)) (inner := [.int .i64 x31_2, .int .i64 (rd t298 x40_3)]) (ok := fun _ => True) (okp := fun _ => True) ?hr ?hp (fun _ hk => hk) trivial (Below.refl _ _) (Nat.le_refl _) (by simp) ?_; (case hd => rfl); (case hg => rfl); (case hr => first | (go_simp; done) | (go_simp; rfl)); (case hp => exact (Reps.one (show Kd.M (Kd.int .i64) _ _ _ x31_2 [.int .i64 x31_2] from rfl) (Reps.one (show Kd.M (Kd.int .i64) _ _ _ (rd t298 x40_3) [.int .i64 (rd t298 x40_3)] from rfl) (Reps.none _ _)))); intro v307 w38 ho39 hb hg_ hnew_; clear hg_ hnew_; (first | rw [← Ny306.out] at ho39 | (simp only [Int.reduceToNat] at ho39; rw [← Ny306.out] at ho39)); have n0_ := Aside0.mk (Kd.S_elder' (Lam.sq HO_9.out) (Kd.R_base ho39) hb); have n1_ := Aside0.mk (Kd.R_elder' (Lam.rq HO_10.out) (Kd.R_base ho39) hb); have n2_ := Aside0.mk (Kd.R_elder' (Lam.rq HO_38.out) (Kd.R_base ho39) hb); have n3_ := Aside0.mk (Kd.R_lower (Kd.R_new' (Kd.R_new' ho39 (Kd.R_lt (Lam.rq HO_10.out))) (Kd.R_lt (Lam.rq HO_38.out))) (below_size (Lam.al))); have n4_ := Aside0.mk (blk_below (g := gb293) (o := .cells #[.int .i64 a1, .bool a2] 69 (0, 0)) (Lam.bq BK293.out) hb); have n5_ := Aside0.mk (below_step (Lam.al) hb); clear HO_9; clear HO_10; clear HO_38; clear BK293; clear HB; have HO_9 := n0_; have HO_10 := n1_; have HO_38 := n2_; have HO308 := n3_; have BK293 := n4_; have HB := n5_; clear n0_ n1_ n2_ n3_ n4_ n5_; clear hb ho39; obtain ⟨Ao41, co41, eo41⟩ := Kd.R_slice HO308.out; subst eo41) | ((with_reducible refine gate_builtin (b := .append) (xs := #[.tmp 65, .tmp 69]) rfl ?_); at_builtin; refine Kd.S_append (Kd.slice 3 (Kd.int .i64)) (w0 := w) w.heap.size rfl (.tmp 65) (.tmp 69) 36 26 (.slice none 0 0) 24 rfl Try.underlying36 info26 rfl (by decide) (by omega) u9 x9_3 y306 [.slice Ao41 y306.length co41] (fun k_ => some k_ ≠ (.slice (some ad303) t294.length co37 : Value).ownBlock ∧ some k_ ≠ (.slice (some ad301) t298.length co23 : Value).ownBlock) (fun k_ => some k_ = (.slice Ao41 y306.length co41 : Value).ownBlock) rfl rfl ?aP (fun k_ hk_ => ((Kd.R_mono (ok' := fun k_ => ((fun k_ => some k_ ≠ (.slice (some ad303) t294.length co37 : Value).ownBlock ∧ some k_ ≠ (.slice (some ad301) t298.length co23 : Value).ownBlock)) k_ ∧ some k_ ≠ (u9 : Value).ownBlock) (Kd.R_apart' (HO308.out) (Kd.S_typed HO_9.out) (by decide)) (fun k_ hk => ⟨⟨hk.1.1.2, hk.1.2⟩, hk.2⟩))).1 k_ hk_.symm) ?aF ?aO ?aB ?aS ?aL ?_; (case aP => exact Kd.M_row (Kd.R_mono (Kd.R_tight rfl (Kd.R_mono (ok' := fun k_ => ((fun k_ => some k_ ≠ (.slice (some ad303) t294.length co37 : Value).ownBlock ∧ some k_ ≠ (.slice (some ad301) t298.length co23 : Value).ownBlock)) k_ ∧ some k_ ≠ (u9 : Value).ownBlock) (Kd.R_apart' (HO308.out) (Kd.S_typed HO_9.out) (by decide)) (fun k_ hk => ⟨⟨hk.1.1.2, hk.1.2⟩, hk.2⟩))) (fun _ h_ => h_))); (case aB => exact (Lam.al)); (case aF => exact (fun k_ hk => ⟨Kd.fresh' (Kd.R_lt (Lam.rq HO_10.out)) k_ hk, Kd.fresh' (Kd.R_lt (Lam.rq HO_38.out)) k_ hk⟩)); (case aO => exact (by (with_reducible repeat (first | apply Kd.S_alloc | apply Kd.S_drewN | apply Kd.S_drew)); exact Kd.S_mono HO_9.out (fun k_ hk => ⟨⟨hk.1.1, hk.1.2⟩, fun e_ => hk.2 e_⟩))); (case aS => exact (below_size (Lam.al))); (case aL => have := LMc36.out; omega); intro v310 w40 ho hb hg hat; rw [← Ny309.out] at ho; have n0_ := Aside0.mk (Kd.R_over' (Lam.rq HO_10.out) (Kd.S_typed (Lam.sq HO_9.out)) (by decide) hg); have n1_ := Aside0.mk (Kd.R_over' (Lam.rq HO_38.out) (Kd.S_typed (Lam.sq HO_9.out)) (by decide) hg); have n2_ := Aside0.mk (blk_grown (g := gb293) (o := .cells #[.int .i64 a1, .bool a2] 69 (0, 0)) (Lam.bq BK293.out) hg (Kd.S_ne HO_9.out BK293.out (by decide))); have n3_ := Aside0.mk (hb); have n4_ := Aside0.mk (ho); clear HO_10; clear HO_38; clear BK293; clear HB; clear HO_9; clear HO308; have HO_10 := n0_; have HO_38 := n1_; have BK293 := n2_; have HB := n3_; have HO311 := n4_; clear n0_ n1_ n2_ n3_ n4_; clear ho hb hg hat)))
                      go_roundg k3
                      case measure => have := HJ3.out; have := HK2.out; have := HK3.out; omega
                      case rel => exact ⟨(y309), (wrap64 (x40_3 + 1)), (by first | rfl | (simp; done) | (simp [*]; done)), H', ⟨by have := HJ3.out; have := HK2.out; have := HK3.out; omega⟩, ⟨Lam.sq HO311.out⟩, ⟨by (with_reducible repeat (first | apply Kd.R_alloc | apply Kd.R_drewN | apply Kd.R_drew)); exact Kd.R_mono HO_10.out (fun _ hk => hk.1)⟩, ⟨by (with_reducible repeat (first | apply Kd.R_alloc | apply Kd.R_drewN | apply Kd.R_drew)); exact Kd.R_mono HO_38.out (fun _ hk => hk.1)⟩, ⟨Lam.bq BK293.out⟩, ⟨Lam.al⟩⟩
                     ·rw [if_neg c36] at H
                      exact absurd H (by simp)
                    ·rw [if_neg c35] at H
                     have c35b0 : ((Go.bits .xor .i64 (Go.bits .xor .i64 (Go.bits .xor .i64 t302 (rd t294 (rd l0 x31_2))) (rd t294 (rd t298 x40_3))) (rd t294 (ji32))) == 0) = false := beq_eq_false_iff_ne.mpr c35
                     have c35b1 : ((Go.bits .xor .i64 (Go.bits .xor .i64 (Go.bits .xor .i64 t302 (rd t294 (rd l0 x31_2))) (rd t294 (rd t298 x40_3))) (rd t294 (ji32))) != 0) = true := bne_iff_ne.mpr c35
                     have H' := Aside0.mk H
                     clear H
                     have p301 : 0 ≤ (x40_3 : Int) := of_decide_eq_true (by first | (with_reducible assumption) | assumption)
                     have q301 : x40_3 < (t298.length : Int) := of_decide_eq_true (by first | (with_reducible assumption) | assumption)
                     obtain ⟨ad301, e301, hx301_0⟩ := Kd.at_int (Kd.R_reads' HO_38.out).2.2 x40_3 p301 q301
                     cases e301
                     replace p301 := eq_true p301
                     replace q301 := eq_true q301
                     obtain ⟨Ao42, co42, eo42⟩ := Kd.R_slice HO_10.out
                     subst eo42
                     go_wp2_with (first | (go_at_call 64; (with_reducible refine (impl_together.calls k3 _ _ l0 _ _ t294 t302 _ ?side1 ?side2 ?side3 ?side4 A27.out).mono ?_); (case side1 => repeat (first | exact (Kd.C_below HR0.out HB.out) | (with_reducible refine Kd.C_alloc ?_ _) | (with_reducible refine Kd.C_drewN ?_ _) | (with_reducible refine Kd.C_drew ?_))); (case side2 => exact HC0.out); (case side3 => repeat (first | exact (Kd.R_reads' HO_10.out).2.2 | (with_reducible refine Kd.C_alloc ?_ _) | (with_reducible refine Kd.C_drewN ?_ _) | (with_reducible refine Kd.C_drew ?_))); (case side4 => exact (Kd.R_reads' HO_10.out).2.1); rintro e w' ⟨rfl, ⟨nd, rfl⟩⟩; (try first | exact ⟨rfl, _, World.drewN_drewN _ _ _⟩ | exact ⟨rfl, _, Eq.trans (World.drewN_drewN _ _ _) (congrArg (World.drewN _) (Nat.add_assoc _ _ _))⟩); have p303 : 0 ≤ ((rd l0 x31_2) : Int) := of_decide_eq_true (by first | (with_reducible assumption) | assumption); have q303 : (rd l0 x31_2) < (t294.length : Int) := of_decide_eq_true (by first | (with_reducible assumption) | assumption); obtain ⟨ad303, e303, hx303_0⟩ := Kd.at_int (Kd.R_reads' HO_10.out).2.2 (rd l0 x31_2) p303 q303; cases e303; replace p303 := eq_true p303; replace q303 := eq_true q303; have p304 : 0 ≤ ((rd t298 x40_3) : Int) := of_decide_eq_true (by first | (with_reducible assumption) | assumption); have q304 : (rd t298 x40_3) < (t294.length : Int) := of_decide_eq_true (by first | (with_reducible assumption) | assumption); obtain ⟨ad304, e304, hx304_0⟩ := Kd.at_int (Kd.R_reads' HO_10.out).2.2 (rd t298 x40_3) p304 q304; obtain rfl : ad303 = ad304 := (by injection e304); replace p304 := eq_true p304; replace q304 := eq_true q304; have p305 : 0 ≤ ((ji32) : Int) := of_decide_eq_true (by first | (with_reducible assumption) | assumption); have q305 : (ji32) < (t294.length : Int) := of_decide_eq_true (by first | (with_reducible assumption) | assumption); obtain ⟨ad305, e305, hx305_0⟩ := Kd.at_int (Kd.R_reads' HO_10.out).2.2 (ji32) p305 q305; obtain rfl : ad303 = ad305 := (by injection e305); replace p305 := eq_true p305; replace q305 := eq_true q305))
                     repeat (go_quiet (first | (go_at_call 64; (with_reducible refine (impl_together.calls k3 _ _ l0 _ _ t294 t302 _ ?side1 ?side2 ?side3 ?side4 A27.out).mono ?_); (case side1 => repeat (first | exact (Kd.C_below HR0.out HB.out) | (with_reducible refine Kd.C_alloc ?_ _) | (with_reducible refine Kd.C_drewN ?_ _) | (with_reducible refine Kd.C_drew ?_))); (case side2 => exact HC0.out); (case side3 => repeat (first | exact (Kd.R_reads' HO_10.out).2.2 | (with_reducible refine Kd.C_alloc ?_ _) | (with_reducible refine Kd.C_drewN ?_ _) | (with_reducible refine Kd.C_drew ?_))); (case side4 => exact (Kd.R_reads' HO_10.out).2.1); rintro e w' ⟨rfl, ⟨nd, rfl⟩⟩; (try first | exact ⟨rfl, _, World.drewN_drewN _ _ _⟩ | exact ⟨rfl, _, Eq.trans (World.drewN_drewN _ _ _) (congrArg (World.drewN _) (Nat.add_assoc _ _ _))⟩); have p303 : 0 ≤ ((rd l0 x31_2) : Int) := of_decide_eq_true (by first | (with_reducible assumption) | assumption); have q303 : (rd l0 x31_2) < (t294.length : Int) := of_decide_eq_true (by first | (with_reducible assumption) | assumption); obtain ⟨ad303, e303, hx303_0⟩ := Kd.at_int (Kd.R_reads' HO_10.out).2.2 (rd l0 x31_2) p303 q303; cases e303; replace p303 := eq_true p303; replace q303 := eq_true q303; have p304 : 0 ≤ ((rd t298 x40_3) : Int) := of_decide_eq_true (by first | (with_reducible assumption) | assumption); have q304 : (rd t298 x40_3) < (t294.length : Int) := of_decide_eq_true (by first | (with_reducible assumption) | assumption); obtain ⟨ad304, e304, hx304_0⟩ := Kd.at_int (Kd.R_reads' HO_10.out).2.2 (rd t298 x40_3) p304 q304; obtain rfl : ad303 = ad304 := (by injection e304); replace p304 := eq_true p304; replace q304 := eq_true q304; have p305 : 0 ≤ ((ji32) : Int) := of_decide_eq_true (by first | (with_reducible assumption) | assumption); have q305 : (ji32) < (t294.length : Int) := of_decide_eq_true (by first | (with_reducible assumption) | assumption); obtain ⟨ad305, e305, hx305_0⟩ := Kd.at_int (Kd.R_reads' HO_10.out).2.2 (ji32) p305 q305; obtain rfl : ad303 = ad305 := (by injection e305); replace p305 := eq_true p305; replace q305 := eq_true q305)); try go_wp2_with (first | (go_at_call 64; (with_reducible refine (impl_together.calls k3 _ _ l0 _ _ t294 t302 _ ?side1 ?side2 ?side3 ?side4 A27.out).mono ?_); (case side1 => repeat (first | exact (Kd.C_below HR0.out HB.out) | (with_reducible refine Kd.C_alloc ?_ _) | (with_reducible refine Kd.C_drewN ?_ _) | (with_reducible refine Kd.C_drew ?_))); (case side2 => exact HC0.out); (case side3 => repeat (first | exact (Kd.R_reads' HO_10.out).2.2 | (with_reducible refine Kd.C_alloc ?_ _) | (with_reducible refine Kd.C_drewN ?_ _) | (with_reducible refine Kd.C_drew ?_))); (case side4 => exact (Kd.R_reads' HO_10.out).2.1); rintro e w' ⟨rfl, ⟨nd, rfl⟩⟩; (try first | exact ⟨rfl, _, World.drewN_drewN _ _ _⟩ | exact ⟨rfl, _, Eq.trans (World.drewN_drewN _ _ _) (congrArg (World.drewN _) (Nat.add_assoc _ _ _))⟩); have p303 : 0 ≤ ((rd l0 x31_2) : Int) := of_decide_eq_true (by first | (with_reducible assumption) | assumption); have q303 : (rd l0 x31_2) < (t294.length : Int) := of_decide_eq_true (by first | (with_reducible assumption) | assumption); obtain ⟨ad303, e303, hx303_0⟩ := Kd.at_int (Kd.R_reads' HO_10.out).2.2 (rd l0 x31_2) p303 q303; cases e303; replace p303 := eq_true p303; replace q303 := eq_true q303; have p304 : 0 ≤ ((rd t298 x40_3) : Int) := of_decide_eq_true (by first | (with_reducible assumption) | assumption); have q304 : (rd t298 x40_3) < (t294.length : Int) := of_decide_eq_true (by first | (with_reducible assumption) | assumption); obtain ⟨ad304, e304, hx304_0⟩ := Kd.at_int (Kd.R_reads' HO_10.out).2.2 (rd t298 x40_3) p304 q304; obtain rfl : ad303 = ad304 := (by injection e304); replace p304 := eq_true p304; replace q304 := eq_true q304; have p305 : 0 ≤ ((ji32) : Int) := of_decide_eq_true (by first | (with_reducible assumption) | assumption); have q305 : (ji32) < (t294.length : Int) := of_decide_eq_true (by first | (with_reducible assumption) | assumption); obtain ⟨ad305, e305, hx305_0⟩ := Kd.at_int (Kd.R_reads' HO_10.out).2.2 (ji32) p305 q305; obtain rfl : ad303 = ad305 := (by injection e305); replace p305 := eq_true p305; replace q305 := eq_true q305)))
                     go_roundg k3
                     case measure => have := HJ3.out; have := HK2.out; have := HK3.out; omega
                     case rel => exact ⟨(x9_3), (wrap64 (x40_3 + 1)), (by first | rfl | (simp; done) | (simp [*]; done)), H', ⟨by have := HJ3.out; have := HK2.out; have := HK3.out; omega⟩, ⟨Lam.sq HO_9.out⟩, ⟨Lam.rq HO_10.out⟩, ⟨Lam.rq HO_38.out⟩, ⟨Lam.bq BK293.out⟩, ⟨Lam.al⟩⟩
                   ·rw [if_neg c34] at H
                    exact absurd H (by simp)
                  ·rw [if_neg c33] at H
                   exact absurd H (by simp)
                 ·rw [if_neg c31] at H
                  exact absurd H (by simp)
                ·rw [if_neg c30] at H
                 exact absurd H (by simp)
               ·rw [if_neg c29] at H
                exact absurd H (by simp)
              ·rw [if_neg c28] at H
               exact absurd H (by simp)
             ·rw [if_neg c26] at H
              exact absurd H (by simp)
            ·rw [if_neg c25] at H
             exact absurd H (by simp)
           ·rw [if_neg c24] at H
            have c24b0 : decide (x40_3 < (t298.length : Int)) = false := decide_eq_false c24
            clear c24
            have H' := Aside0.mk H
            clear H
            go_wp2
            repeat (go_quiet (fail); try go_wp2)
            go_roundg k3
            case measure => have := HJ3.out; have := HK2.out; have := HK3.out; omega
            case rel => exact ⟨(x9_3), (wrap64 (x31_2 + 1)), (by first | rfl | (simp; done) | (simp [*]; done)), H', ⟨by have := HJ3.out; have := HK2.out; have := HK3.out; omega⟩, ⟨by (with_reducible repeat (first | apply Kd.S_alloc | apply Kd.S_drewN | apply Kd.S_drew)); exact Kd.S_mono HO_9.out (fun _ hk => hk.1)⟩, ⟨by (with_reducible repeat (first | apply Kd.R_alloc | apply Kd.R_drewN | apply Kd.R_drew)); exact Kd.R_mono HO_10.out (fun _ hk => trivial)⟩, ⟨Lam.bq BK293.out⟩, ⟨Lam.al⟩⟩
        ·rw [if_neg c19] at H
         exact absurd H (by simp)
       ·rw [if_neg c18] at H
        exact absurd H (by simp)
      ·rw [if_neg c17] at H
       have c17b0 : decide (x31_2 < (l0.length : Int)) = false := decide_eq_false c17
       clear c17
       simp only [Option.some.injEq, Prod.mk.injEq] at H
       obtain ⟨rfl, rfl⟩ := H
       go_wp2
       repeat (go_quiet (fail); try go_wp2)
       go_ret2
       exact ⟨_, by first | rfl | (simp [errW_none, errW_some] <;> rfl) | (simp [*, errW_none, errW_some] <;> rfl), by (with_reducible repeat (first | apply Kd.S_alloc | apply Kd.S_drewN | apply Kd.S_drew)); exact Kd.S_mono HO_9.out (fun _ hk => trivial), Lam.al⟩

/-! ### spec_l1All: function 86 -/
def spec_l1All.l0 : Nat → Int → Int → List Int → Int → Int → Option (Bool)
 | 0, _, _, _, _, _ => none
 | k + 1, x1, x2, x9, x10, x11 => if x11 < x10 then (if 0 ≤ x11 then (if x11 < (x9.length : Int) then ((spec_l1In.f (rd x9 x11) x1 x2).bind fun t313 => (if t313 = true then (spec_l1All.l0 k x1 x2 x9 x10 (wrap64 (x11 + 1))) else (some false))) else (none)) else (none)) else (some true)
def spec_l1All.f (k : Nat) (l0 : List Int) (a1 : Int) (a2 : Int) : Option (Bool) := spec_l1All.l0 k a1 a2 l0 (l0.length : Int) 0
theorem spec_l1All.mono_l : ∀ k, (∀ y0 y1 y2 y3 y4, LeO (spec_l1All.l0 k y0 y1 y2 y3 y4) (spec_l1All.l0 (k + 1) y0 y1 y2 y3 y4))
 | 0 => fun _ _ _ _ _ r h => by simp [spec_l1All.l0] at h
 | k + 1 => by
  have ih0 := spec_l1All.mono_l k
  ·intro y0 y1 y2 y3 y4
   unfold spec_l1All.l0
   repeat' first
   | (with_reducible exact ih0 _ _ _ _ _)
   | (with_reducible exact LeO.refl _)
   | (with_reducible exact LeO.none _)
   | (with_reducible refine LeO.ite ?_ ?_)
   | (with_reducible refine LeO.bind ?_ (fun _ => ?_))
   | exact ih0 _ _ _ _ _
   | exact LeO.none _
   | refine LeO.ite ?_ ?_
   | refine LeO.bind ?_ (fun _ => ?_)
theorem spec_l1All.mono : ∀ a0 a1 a2 k, LeO (spec_l1All.f k a0 a1 a2) (spec_l1All.f (k + 1) a0 a1 a2) := by
 intro a0 a1 a2 k
 have ih0 := spec_l1All.mono_l k
 unfold spec_l1All.f
 repeat' first
   | (with_reducible exact ih0 _ _ _ _ _)
   | (with_reducible exact LeO.refl _)
   | (with_reducible exact LeO.none _)
   | (with_reducible refine LeO.ite ?_ ?_)
   | (with_reducible refine LeO.bind ?_ (fun _ => ?_))
   | exact ih0 _ _ _ _ _
   | exact LeO.none _
   | refine LeO.ite ?_ ?_
   | refine LeO.bind ?_ (fun _ => ?_)
set_option maxHeartbeats 8000000 in
set_option maxRecDepth 100000 in
theorem spec_l1All.calls (k : Nat) (A0 : Option Addr) (c0 : Nat) (l0 : List Int) (a1 : Int) (a2 : Int) (r : Bool) (w : World) (hr0 : Kd.C (Kd.int .i64) w A0 l0.length l0) (hc0 : l0.length ≤ c0) (h : spec_l1All.f k l0 a1 a2 = some r) :
  Calls Try.prog 86 #[.slice A0 l0.length c0, .int .i64 a1, .int .i64 a2] w fun e w' => e = .returned (.bool r) ∧ Drawn0 w w' := by
 have HR0 := Aside0.mk hr0
 have HC0 := Aside0.mk hc0
 clear hr0 hc0
 have H : (spec_l1All.l0 k a1 a2 l0 (l0.length : Int) 0) = some r := h
 clear h
 have H' := Aside0.mk H
 clear H
 go_enter Try.func86, Try.ntmps86
 go_wp2
 go_loopg [11] k (fun kq v11 w' => ∃ (x11_1 : Int), v11 = .int .i64 x11_1 ∧ Aside0 (spec_l1All.l0 kq a1 a2 l0 (l0.length : Int) x11_1 = some r) ∧ Aside0 (kq ≤ k) ∧ Drawn0 w w')
 case atStart => exact ⟨(0), (by first | rfl | (simp; done) | (simp [*]; done)), H', ⟨Nat.le_refl _⟩, by repeat (first | exact Drawn0.refl _ | apply Drawn0.step)⟩
 case round =>
  clear H'
  try clear p2
  obtain ⟨x11_1, rfl, HA, HK1, ⟨m1, rfl⟩⟩ := hrel
  cases gk with
  | zero => exact absurd HA.out (by simp [spec_l1All.l0])
  | succ k1 =>
   have H := HA.out
   clear HA
   simp only [spec_l1All.l0] at H
   by_cases c4 : x11_1 < (l0.length : Int)
   ·rw [if_pos c4] at H
    have c4b0 : decide (x11_1 < (l0.length : Int)) = true := decide_eq_true c4
    clear c4
    by_cases c5 : 0 ≤ x11_1
    ·rw [if_pos c5] at H
     have c5b0 : decide (0 ≤ x11_1) = true := decide_eq_true c5
     clear c5
     by_cases c6 : x11_1 < (l0.length : Int)
     ·rw [if_pos c6] at H
      have c6b0 : decide (x11_1 < (l0.length : Int)) = true := decide_eq_true c6
      clear c6
      replace H := Option.bind_eq_some_iff.mp H
      obtain ⟨t313, A70, H⟩ := H
      (try dsimp only at H)
      have A7 := Aside0.mk A70
      clear A70
      by_cases c8 : t313 = true
      ·subst c8
       have H1 : (spec_l1All.l0 k1 a1 a2 l0 (l0.length : Int) (wrap64 (x11_1 + 1))) = some r := by rw [if_pos rfl] at H; exact H
       clear H
       have H := H1
       clear H1
       have H' := Aside0.mk H
       clear H
       have p312 : 0 ≤ (x11_1 : Int) := of_decide_eq_true (by first | (with_reducible assumption) | assumption)
       have q312 : x11_1 < (l0.length : Int) := of_decide_eq_true (by first | (with_reducible assumption) | assumption)
       obtain ⟨ad312, e312, hx312_0⟩ := Kd.at_int HR0.out x11_1 p312 q312
       cases e312
       replace p312 := eq_true p312
       replace q312 := eq_true q312
       go_wp2_with (first | ((with_reducible refine gate_callee (f := 74) rfl ?_); refine goesL_ (some 18) rfl rfl Try.func74 (by kernel_rfl) rfl #[.int .i64 (rd l0 x11_1), .int .i64 a1, .int .i64 a2] rfl (by (try simp only [List.map_toArray, List.map_cons, List.map_nil]); first | done | rfl | (simp only [List.length_drop, List.length_take]; rfl)) ?_; (with_reducible refine (spec_l1In.calls (rd l0 x11_1) a1 a2 true _ A7.out).mono ?_); rintro e w' ⟨rfl, ⟨nd, rfl⟩⟩; refine ⟨_, rfl, ?_⟩))
       go_roundg k1
       case measure => have := HK1.out; omega
       case rel => exact ⟨(wrap64 (x11_1 + 1)), (by first | rfl | (simp; done) | (simp [*]; done)), H', ⟨by have := HK1.out; omega⟩, by repeat (first | exact Drawn0.refl _ | apply Drawn0.step)⟩
      ·replace c8 := Bool.eq_false_iff.mpr c8
       subst c8
       have H1 : (some false) = some r := by rw [if_neg (show ¬ (false = true) by decide)] at H; exact H
       clear H
       have H := H1
       clear H1
       obtain rfl := Option.some.inj H
       have p312 : 0 ≤ (x11_1 : Int) := of_decide_eq_true (by first | (with_reducible assumption) | assumption)
       have q312 : x11_1 < (l0.length : Int) := of_decide_eq_true (by first | (with_reducible assumption) | assumption)
       obtain ⟨ad312, e312, hx312_0⟩ := Kd.at_int HR0.out x11_1 p312 q312
       cases e312
       replace p312 := eq_true p312
       replace q312 := eq_true q312
       go_wp2_with (first | ((with_reducible refine gate_callee (f := 74) rfl ?_); refine goesL_ (some 18) rfl rfl Try.func74 (by kernel_rfl) rfl #[.int .i64 (rd l0 x11_1), .int .i64 a1, .int .i64 a2] rfl (by (try simp only [List.map_toArray, List.map_cons, List.map_nil]); first | done | rfl | (simp only [List.length_drop, List.length_take]; rfl)) ?_; (with_reducible refine (spec_l1In.calls (rd l0 x11_1) a1 a2 false _ A7.out).mono ?_); rintro e w' ⟨rfl, ⟨nd, rfl⟩⟩; refine ⟨_, rfl, ?_⟩))
       go_ret
       exact ⟨by first | rfl | (simp; done) | (simp [*]; done), by repeat (first | exact Drawn0.refl _ | apply Drawn0.step)⟩
     ·rw [if_neg c6] at H
      exact absurd H (by simp)
    ·rw [if_neg c5] at H
     exact absurd H (by simp)
   ·rw [if_neg c4] at H
    have c4b0 : decide (x11_1 < (l0.length : Int)) = false := decide_eq_false c4
    clear c4
    obtain rfl := Option.some.inj H
    go_wp2
    go_ret
    exact ⟨by first | rfl | (simp; done) | (simp [*]; done), by repeat (first | exact Drawn0.refl _ | apply Drawn0.step)⟩

/-! ### spec_laStrips: function 65 -/
def spec_laStrips.f (k : Nat) (l0 : List Int) (a1 : Int) : Option (Bool) := (spec_l1In.f (l0.length : Int) 1 8).bind fun t314 => (if t314 = true then ((spec_l1All.f k l0 1 60).bind fun t315 => (if t315 = true then ((spec_l1In.f a1 1 60).bind fun t316 => (some t316)) else (some false))) else (some false))
theorem spec_laStrips.mono : ∀ a0 a1 k, LeO (spec_laStrips.f k a0 a1) (spec_laStrips.f (k + 1) a0 a1) := by
 intro a0 a1 k
 unfold spec_laStrips.f
 repeat' first
   | (with_reducible exact spec_l1All.mono _ _ _ _)
   | (with_reducible exact LeO.refl _)
   | (with_reducible exact LeO.none _)
   | (with_reducible refine LeO.ite ?_ ?_)
   | (with_reducible refine LeO.bind ?_ (fun _ => ?_))
   | exact spec_l1All.mono _ _ _ _
   | exact LeO.none _
   | refine LeO.ite ?_ ?_
   | refine LeO.bind ?_ (fun _ => ?_)
set_option maxHeartbeats 8000000 in
set_option maxRecDepth 100000 in
theorem spec_laStrips.calls (k : Nat) (A0 : Option Addr) (c0 : Nat) (l0 : List Int) (a1 : Int) (r : Bool) (w : World) (hr0 : Kd.C (Kd.int .i64) w A0 l0.length l0) (hc0 : l0.length ≤ c0) (h : spec_laStrips.f k l0 a1 = some r) :
  Calls Try.prog 65 #[.slice A0 l0.length c0, .int .i64 a1] w fun e w' => e = .returned (.bool r) ∧ Drawn0 w w' := by
 have HR0 := Aside0.mk hr0
 have HC0 := Aside0.mk hc0
 clear hr0 hc0
 have H : ((spec_l1In.f (l0.length : Int) 1 8).bind fun t314 => (if t314 = true then ((spec_l1All.f k l0 1 60).bind fun t315 => (if t315 = true then ((spec_l1In.f a1 1 60).bind fun t316 => (some t316)) else (some false))) else (some false))) = some r := h
 clear h
 replace H := Option.bind_eq_some_iff.mp H
 obtain ⟨t314, A30, H⟩ := H
 (try dsimp only at H)
 have A3 := Aside0.mk A30
 clear A30
 by_cases c4 : t314 = true
 ·subst c4
  rw [if_pos rfl] at H
  replace H := Option.bind_eq_some_iff.mp H
  obtain ⟨t315, A50, H⟩ := H
  (try dsimp only at H)
  have A5 := Aside0.mk A50
  clear A50
  by_cases c6 : t315 = true
  ·subst c6
   have H1 : ((spec_l1In.f a1 1 60).bind fun t316 => (some t316)) = some r := by rw [if_pos rfl] at H; exact H
   clear H
   have H := H1
   clear H1
   replace H := Option.bind_eq_some_iff.mp H
   obtain ⟨t316, A70, H⟩ := H
   replace H : (some t316) = some r := H
   have A7 := Aside0.mk A70
   clear A70
   obtain rfl := Option.some.inj H
   go_enter Try.func65, Try.ntmps65
   go_wp2_with (first | ((with_reducible refine gate_callee (f := 74) rfl ?_); refine goesL_ (some 7) rfl rfl Try.func74 (by kernel_rfl) rfl #[.int .i64 (l0.length : Int), .int .i64 1, .int .i64 8] rfl (by (try simp only [List.map_toArray, List.map_cons, List.map_nil]); first | done | rfl | (simp only [List.length_drop, List.length_take]; rfl)) ?_; (with_reducible refine (spec_l1In.calls (l0.length : Int) 1 8 true _ A3.out).mono ?_); rintro e w' ⟨rfl, ⟨nd, rfl⟩⟩; refine ⟨_, rfl, ?_⟩) | (go_at_call 86; (with_reducible refine (spec_l1All.calls k _ _ l0 1 60 true _ ?side1 ?side2 A5.out).mono ?_); (case side1 => repeat (first | exact HR0.out | (with_reducible refine Kd.C_alloc ?_ _) | (with_reducible refine Kd.C_drewN ?_ _) | (with_reducible refine Kd.C_drew ?_))); (case side2 => exact HC0.out); rintro e w' ⟨rfl, ⟨nd, rfl⟩⟩) | (go_at_call 74; (with_reducible refine (spec_l1In.calls a1 1 60 t316 _ A7.out).mono ?_); rintro e w' ⟨rfl, ⟨nd, rfl⟩⟩))
   go_ret
   exact ⟨by first | rfl | (simp; done) | (simp [*]; done), by repeat (first | exact Drawn0.refl _ | apply Drawn0.step)⟩
  ·replace c6 := Bool.eq_false_iff.mpr c6
   subst c6
   have H1 : (some false) = some r := by rw [if_neg (show ¬ (false = true) by decide)] at H; exact H
   clear H
   have H := H1
   clear H1
   obtain rfl := Option.some.inj H
   go_enter Try.func65, Try.ntmps65
   go_wp2_with (first | ((with_reducible refine gate_callee (f := 74) rfl ?_); refine goesL_ (some 7) rfl rfl Try.func74 (by kernel_rfl) rfl #[.int .i64 (l0.length : Int), .int .i64 1, .int .i64 8] rfl (by (try simp only [List.map_toArray, List.map_cons, List.map_nil]); first | done | rfl | (simp only [List.length_drop, List.length_take]; rfl)) ?_; (with_reducible refine (spec_l1In.calls (l0.length : Int) 1 8 true _ A3.out).mono ?_); rintro e w' ⟨rfl, ⟨nd, rfl⟩⟩; refine ⟨_, rfl, ?_⟩) | (go_at_call 86; (with_reducible refine (spec_l1All.calls k _ _ l0 1 60 false _ ?side1 ?side2 A5.out).mono ?_); (case side1 => repeat (first | exact HR0.out | (with_reducible refine Kd.C_alloc ?_ _) | (with_reducible refine Kd.C_drewN ?_ _) | (with_reducible refine Kd.C_drew ?_))); (case side2 => exact HC0.out); rintro e w' ⟨rfl, ⟨nd, rfl⟩⟩))
   go_ret
   exact ⟨by first | rfl | (simp; done) | (simp [*]; done), by repeat (first | exact Drawn0.refl _ | apply Drawn0.step)⟩
 ·replace c4 := Bool.eq_false_iff.mpr c4
  subst c4
  have H1 : (some false) = some r := by rw [if_neg (show ¬ (false = true) by decide)] at H; exact H
  clear H
  have H := H1
  clear H1
  obtain rfl := Option.some.inj H
  go_enter Try.func65, Try.ntmps65
  go_wp2_with (first | ((with_reducible refine gate_callee (f := 74) rfl ?_); refine goesL_ (some 7) rfl rfl Try.func74 (by kernel_rfl) rfl #[.int .i64 (l0.length : Int), .int .i64 1, .int .i64 8] rfl (by (try simp only [List.map_toArray, List.map_cons, List.map_nil]); first | done | rfl | (simp only [List.length_drop, List.length_take]; rfl)) ?_; (with_reducible refine (spec_l1In.calls (l0.length : Int) 1 8 false _ A3.out).mono ?_); rintro e w' ⟨rfl, ⟨nd, rfl⟩⟩; refine ⟨_, rfl, ?_⟩))
  go_ret
  exact ⟨by first | rfl | (simp; done) | (simp [*]; done), by repeat (first | exact Drawn0.refl _ | apply Drawn0.step)⟩

/-! ### spec_laAll: function 66 -/
def spec_laAll.l0 : Nat → List Int → Int → List Int → Int → Int → Option (Int)
 | 0, _, _, _, _, _ => none
 | k + 1, x1, x5, x8, x9, x10 => if x10 < x9 then (if 0 ≤ x10 then (if x10 < (x8.length : Int) then (if 0 ≤ (rd x8 x10) then (if (rd x8 x10) < (x1.length : Int) then (spec_laAll.l0 k x1 (Go.bits .xor .i64 x5 (rd x1 (rd x8 x10))) x8 x9 (wrap64 (x10 + 1))) else (none)) else (none)) else (none)) else (none)) else (some x5)
def spec_laAll.f (k : Nat) (l0 : List Int) (l1 : List Int) : Option (Int) := spec_laAll.l0 k l1 0 l0 (l0.length : Int) 0
theorem spec_laAll.mono_l : ∀ k, (∀ y0 y1 y2 y3 y4, LeO (spec_laAll.l0 k y0 y1 y2 y3 y4) (spec_laAll.l0 (k + 1) y0 y1 y2 y3 y4))
 | 0 => fun _ _ _ _ _ r h => by simp [spec_laAll.l0] at h
 | k + 1 => by
  have ih0 := spec_laAll.mono_l k
  ·intro y0 y1 y2 y3 y4
   unfold spec_laAll.l0
   repeat' first
   | (with_reducible exact ih0 _ _ _ _ _)
   | (with_reducible exact LeO.refl _)
   | (with_reducible exact LeO.none _)
   | (with_reducible refine LeO.ite ?_ ?_)
   | (with_reducible refine LeO.bind ?_ (fun _ => ?_))
   | exact ih0 _ _ _ _ _
   | exact LeO.none _
   | refine LeO.ite ?_ ?_
   | refine LeO.bind ?_ (fun _ => ?_)
theorem spec_laAll.mono : ∀ a0 a1 k, LeO (spec_laAll.f k a0 a1) (spec_laAll.f (k + 1) a0 a1) := by
 intro a0 a1 k
 have ih0 := spec_laAll.mono_l k
 unfold spec_laAll.f
 repeat' first
   | (with_reducible exact ih0 _ _ _ _ _)
   | (with_reducible exact LeO.refl _)
   | (with_reducible exact LeO.none _)
   | (with_reducible refine LeO.ite ?_ ?_)
   | (with_reducible refine LeO.bind ?_ (fun _ => ?_))
   | exact ih0 _ _ _ _ _
   | exact LeO.none _
   | refine LeO.ite ?_ ?_
   | refine LeO.bind ?_ (fun _ => ?_)
set_option maxHeartbeats 8000000 in
set_option maxRecDepth 100000 in
theorem spec_laAll.calls (k : Nat) (A0 : Option Addr) (c0 : Nat) (l0 : List Int) (A1 : Option Addr) (c1 : Nat) (l1 : List Int) (r : Int) (w : World) (hr0 : Kd.C (Kd.int .i64) w A0 l0.length l0) (hc0 : l0.length ≤ c0) (hr1 : Kd.C (Kd.int .i64) w A1 l1.length l1) (hc1 : l1.length ≤ c1) (h : spec_laAll.f k l0 l1 = some r) :
  Calls Try.prog 66 #[.slice A0 l0.length c0, .slice A1 l1.length c1] w fun e w' => e = .returned (.int .i64 r) ∧ Drawn0 w w' := by
 have HR0 := Aside0.mk hr0
 have HC0 := Aside0.mk hc0
 clear hr0 hc0
 have HR1 := Aside0.mk hr1
 have HC1 := Aside0.mk hc1
 clear hr1 hc1
 have H : (spec_laAll.l0 k l1 0 l0 (l0.length : Int) 0) = some r := h
 clear h
 have H' := Aside0.mk H
 clear H
 go_enter Try.func66, Try.ntmps66
 go_wp2
 go_loopg [5, 10] k (fun kq v5 v10 w' => ∃ (x5_1 : Int) (x10_1 : Int), v5 = .int .i64 x5_1 ∧ v10 = .int .i64 x10_1 ∧ Aside0 (spec_laAll.l0 kq l1 x5_1 l0 (l0.length : Int) x10_1 = some r) ∧ Aside0 (kq ≤ k) ∧ Drawn0 w w')
 case atStart => exact ⟨(0), (0), (by first | rfl | (simp; done) | (simp [*]; done)), (by first | rfl | (simp; done) | (simp [*]; done)), H', ⟨Nat.le_refl _⟩, by repeat (first | exact Drawn0.refl _ | apply Drawn0.step)⟩
 case round =>
  clear H'
  try clear c1
  try clear p2
  obtain ⟨x5_1, x10_1, rfl, rfl, HA, HK1, ⟨m1, rfl⟩⟩ := hrel
  cases gk with
  | zero => exact absurd HA.out (by simp [spec_laAll.l0])
  | succ k1 =>
   have H := HA.out
   clear HA
   simp only [spec_laAll.l0] at H
   by_cases c3 : x10_1 < (l0.length : Int)
   ·rw [if_pos c3] at H
    have c3b0 : decide (x10_1 < (l0.length : Int)) = true := decide_eq_true c3
    clear c3
    by_cases c4 : 0 ≤ x10_1
    ·rw [if_pos c4] at H
     have c4b0 : decide (0 ≤ x10_1) = true := decide_eq_true c4
     clear c4
     by_cases c5 : x10_1 < (l0.length : Int)
     ·rw [if_pos c5] at H
      have c5b0 : decide (x10_1 < (l0.length : Int)) = true := decide_eq_true c5
      clear c5
      by_cases c6 : 0 ≤ (rd l0 x10_1)
      ·rw [if_pos c6] at H
       have c6b0 : decide (0 ≤ (rd l0 x10_1)) = true := decide_eq_true c6
       clear c6
       by_cases c7 : (rd l0 x10_1) < (l1.length : Int)
       ·rw [if_pos c7] at H
        have c7b0 : decide ((rd l0 x10_1) < (l1.length : Int)) = true := decide_eq_true c7
        clear c7
        have H' := Aside0.mk H
        clear H
        have p317 : 0 ≤ (x10_1 : Int) := of_decide_eq_true (by first | (with_reducible assumption) | assumption)
        have q317 : x10_1 < (l0.length : Int) := of_decide_eq_true (by first | (with_reducible assumption) | assumption)
        obtain ⟨ad317, e317, hx317_0⟩ := Kd.at_int HR0.out x10_1 p317 q317
        cases e317
        replace p317 := eq_true p317
        replace q317 := eq_true q317
        have p318 : 0 ≤ ((rd l0 x10_1) : Int) := of_decide_eq_true (by first | (with_reducible assumption) | assumption)
        have q318 : (rd l0 x10_1) < (l1.length : Int) := of_decide_eq_true (by first | (with_reducible assumption) | assumption)
        obtain ⟨ad318, e318, hx318_0⟩ := Kd.at_int HR1.out (rd l0 x10_1) p318 q318
        cases e318
        replace p318 := eq_true p318
        replace q318 := eq_true q318
        go_wp2
        go_roundg k1
        case measure => have := HK1.out; omega
        case rel => exact ⟨(Go.bits .xor .i64 x5_1 (rd l1 (rd l0 x10_1))), (wrap64 (x10_1 + 1)), (by first | rfl | (simp; done) | (simp [*]; done)), (by first | rfl | (simp; done) | (simp [*]; done)), H', ⟨by have := HK1.out; omega⟩, by repeat (first | exact Drawn0.refl _ | apply Drawn0.step)⟩
       ·rw [if_neg c7] at H
        exact absurd H (by simp)
      ·rw [if_neg c6] at H
       exact absurd H (by simp)
     ·rw [if_neg c5] at H
      exact absurd H (by simp)
    ·rw [if_neg c4] at H
     exact absurd H (by simp)
   ·rw [if_neg c3] at H
    have c3b0 : decide (x10_1 < (l0.length : Int)) = false := decide_eq_false c3
    clear c3
    obtain rfl := Option.some.inj H
    go_wp2
    go_ret
    exact ⟨by first | rfl | (simp; done) | (simp [*]; done), by repeat (first | exact Drawn0.refl _ | apply Drawn0.step)⟩

end Go.Proofs.Ytejnbnppiipdlaa.PFnBreaksStrips
