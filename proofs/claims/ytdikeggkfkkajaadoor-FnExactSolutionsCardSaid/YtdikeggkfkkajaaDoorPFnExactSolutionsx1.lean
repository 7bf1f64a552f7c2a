-- Made by a program of this session (wip/xprint.py) out of the translation.
import Derived.Test.YtdikeggkfkkajaaDoorPFnExactSolutionsx0
namespace Go.Proofs.YtdikeggkfkkajaaDoor.PFnExactSolutions
open Go.RowKit Go.Proofs.YtdikeggkfkkajaaDoorW.PrintWords Go.Proofs.YtdikeggkfkkajaaDoorW.PrintLast Go.Proofs.YtdikeggkfkkajaaDoorW.PrintMore
attribute [local go_sem] max2_int min2_int max_two min_two max_three min_three max_four min_four   -- for this text's walks alone
set_option linter.unusedVariables false
set_option linter.unusedSimpArgs false

/-! ### laws_szClueS: function 34 -/
def laws_szClueS.f (l0 : List (S92)) (a1 : Int) : Option (Int) := if (wrap64 (a1 - (l0.length : Int))) < 0 then (some (-1)) else (some (wrap64 (a1 - (l0.length : Int))))
set_option maxHeartbeats 8000000 in
set_option maxRecDepth 100000 in
theorem laws_szClueS.calls (A0 : Option Addr) (c0 : Nat) (l0 : List (S92)) (a1 : Int) (r : Int) (w : World) (hr0 : Kd.C k92 w A0 l0.length l0) (hc0 : l0.length ≤ c0) (h : laws_szClueS.f l0 a1 = some r) :
  Calls Tryd.prog 34 #[.slice A0 l0.length c0, .int .i64 a1] w fun e w' => e = .returned (.int .i64 r) ∧ Drawn0 w w' := by
 have HR0 := Aside0.mk hr0
 have HC0 := Aside0.mk hc0
 clear hr0 hc0
 have H : (if (wrap64 (a1 - (l0.length : Int))) < 0 then (some (-1)) else (some (wrap64 (a1 - (l0.length : Int))))) = some r := h
 clear h
 by_cases c3 : (wrap64 (a1 - (l0.length : Int))) < 0
 ·rw [if_pos c3] at H
  have c3b0 : decide ((wrap64 (a1 - (l0.length : Int))) < 0) = true := decide_eq_true c3
  clear c3
  obtain rfl := Option.some.inj H
  go_enter Tryd.func34, Tryd.ntmps34
  go_wp2
  go_ret
  exact ⟨by first | rfl | (simp; done) | (simp [*]; done), by repeat (first | exact Drawn0.refl _ | apply Drawn0.step)⟩
 ·rw [if_neg c3] at H
  have c3b0 : decide ((wrap64 (a1 - (l0.length : Int))) < 0) = false := decide_eq_false c3
  clear c3
  obtain rfl := Option.some.inj H
  go_enter Tryd.func34, Tryd.ntmps34
  go_wp2
  go_ret
  exact ⟨by first | rfl | (simp; done) | (simp [*]; done), by repeat (first | exact Drawn0.refl _ | apply Drawn0.step)⟩

/-! ### laws_szPuzzle: function 8 -/
def laws_szPuzzle.f (l0_0 : List (S92)) (a1 : Int) : Option (Int) := (laws_szClueS.f l0_0 a1).bind fun t102 => (if t102 < 0 then (some (-1)) else (some t102))
set_option maxHeartbeats 8000000 in
set_option maxRecDepth 100000 in
theorem laws_szPuzzle.calls (A0_0 : Option Addr) (c0_0 : Nat) (l0_0 : List (S92)) (a1 : Int) (r : Int) (w : World) (hr0_0 : Kd.C k92 w A0_0 l0_0.length l0_0) (hc0_0 : l0_0.length ≤ c0_0) (h : laws_szPuzzle.f l0_0 a1 = some r) :
  Calls Tryd.prog 8 #[.agg #[.slice A0_0 l0_0.length c0_0], .int .i64 a1] w fun e w' => e = .returned (.int .i64 r) ∧ Below w.heap.size w w' := by
 have hu24 := Tryd.underlying24
 have HR0_0 := Aside0.mk hr0_0
 have HC0_0 := Aside0.mk hc0_0
 clear hr0_0 hc0_0
 have HB := Aside0.mk (Below.refl w.heap.size w)
 have H : ((laws_szClueS.f l0_0 a1).bind fun t102 => (if t102 < 0 then (some (-1)) else (some t102))) = some r := h
 clear h
 replace H := Option.bind_eq_some_iff.mp H
 obtain ⟨t102, A30, H⟩ := H
 replace H : (if t102 < 0 then (some (-1)) else (some t102)) = some r := H
 have A3 := Aside0.mk A30
 clear A30
 by_cases c4 : t102 < 0
 ·rw [if_pos c4] at H
  have c4b0 : decide (t102 < 0) = true := decide_eq_true c4
  clear c4
  obtain rfl := Option.some.inj H
  go_enter Tryd.func8, Tryd.ntmps8
  go_wp2_with (first | ((with_reducible refine gate_dst (N := 2) rfl ?_); refine box_event ?hg (N := 2) ?hd (cs := #[.slice A0_0 l0_0.length c0_0]) (t := 24) ?hr ?_; (case hd => rfl); (case hg => rfl); (case hr => first | (go_simp; done) | (go_simp; rfl)); intro gb101 hg w5 hbox hb; have n0_ := Aside0.mk (below_step (Lam.al) hb); have n1_ := Aside0.mk (hbox); have n2_ := Aside0.mk ((by rw [hg]; exact (below_size (Lam.al)) : w.heap.size ≤ gb101)); have n3_ := Aside0.mk ((by rw [hg]; exact (below_size (Lam.al)) : w.heap.size ≤ gb101)); clear HB; have HB := n0_; have BK101 := n1_; have GW101 := n2_; have GE101 := n3_; clear n0_ n1_ n2_ n3_; clear hb hbox hg; have hcz6_0 : w5.cell? ⟨gb101, 0, none⟩ = some (.slice A0_0 l0_0.length c0_0) := (blk_cell BK101.out 0).trans rfl; have hfz6_0 := blk_frozen BK101.out 0) | ((with_reducible refine gate_callee (f := 34) rfl ?_); refine goesL_ (some 8) rfl rfl Tryd.func34 (by kernel_rfl) rfl #[.slice A0_0 l0_0.length c0_0, .int .i64 a1] rfl (by (try simp only [List.map_toArray, List.map_cons, List.map_nil]); first | done | rfl | (simp only [List.length_drop, List.length_take]; rfl)) ?_; (with_reducible refine (laws_szClueS.calls _ _ l0_0 a1 t102 _ ?side1 ?side2 A3.out).mono ?_); (case side1 => repeat (first | exact (Kd.C_below HR0_0.out HB.out) | (with_reducible refine Kd.C_alloc ?_ _) | (with_reducible refine Kd.C_drewN ?_ _) | (with_reducible refine Kd.C_drew ?_))); (case side2 => exact HC0_0.out); rintro e w' ⟨rfl, ⟨nd, rfl⟩⟩; refine ⟨_, rfl, ?_⟩))
  go_ret
  exact ⟨by first | rfl | (simp [errW_none, errW_some] <;> rfl) | (simp [*, errW_none, errW_some] <;> rfl), Lam.al⟩
 ·rw [if_neg c4] at H
  have c4b0 : decide (t102 < 0) = false := decide_eq_false c4
  clear c4
  obtain rfl := Option.some.inj H
  go_enter Tryd.func8, Tryd.ntmps8
  go_wp2_with (first | ((with_reducible refine gate_dst (N := 2) rfl ?_); refine box_event ?hg (N := 2) ?hd (cs := #[.slice A0_0 l0_0.length c0_0]) (t := 24) ?hr ?_; (case hd => rfl); (case hg => rfl); (case hr => first | (go_simp; done) | (go_simp; rfl)); intro gb101 hg w7 hbox hb; have n0_ := Aside0.mk (below_step (Lam.al) hb); have n1_ := Aside0.mk (hbox); have n2_ := Aside0.mk ((by rw [hg]; exact (below_size (Lam.al)) : w.heap.size ≤ gb101)); have n3_ := Aside0.mk ((by rw [hg]; exact (below_size (Lam.al)) : w.heap.size ≤ gb101)); clear HB; have HB := n0_; have BK101 := n1_; have GW101 := n2_; have GE101 := n3_; clear n0_ n1_ n2_ n3_; clear hb hbox hg; have hcz8_0 : w7.cell? ⟨gb101, 0, none⟩ = some (.slice A0_0 l0_0.length c0_0) := (blk_cell BK101.out 0).trans rfl; have hfz8_0 := blk_frozen BK101.out 0) | ((with_reducible refine gate_callee (f := 34) rfl ?_); refine goesL_ (some 8) rfl rfl Tryd.func34 (by kernel_rfl) rfl #[.slice A0_0 l0_0.length c0_0, .int .i64 a1] rfl (by (try simp only [List.map_toArray, List.map_cons, List.map_nil]); first | done | rfl | (simp only [List.length_drop, List.length_take]; rfl)) ?_; (with_reducible refine (laws_szClueS.calls _ _ l0_0 a1 t102 _ ?side1 ?side2 A3.out).mono ?_); (case side1 => repeat (first | exact (Kd.C_below HR0_0.out HB.out) | (with_reducible refine Kd.C_alloc ?_ _) | (with_reducible refine Kd.C_drewN ?_ _) | (with_reducible refine Kd.C_drew ?_))); (case side2 => exact HC0_0.out); rintro e w' ⟨rfl, ⟨nd, rfl⟩⟩; refine ⟨_, rfl, ?_⟩))
  go_ret
  exact ⟨by first | rfl | (simp [errW_none, errW_some] <;> rfl) | (simp [*, errW_none, errW_some] <;> rfl), Lam.al⟩

/-! ### spec_l1In: function 44 -/
def spec_l1In.f (a0 : Int) (a1 : Int) (a2 : Int) : Option (Bool) := if a0 ≥ a1 then (some (decide (a0 ≤ a2))) else (some false)
set_option maxHeartbeats 8000000 in
set_option maxRecDepth 100000 in
theorem spec_l1In.calls (a0 : Int) (a1 : Int) (a2 : Int) (r : Bool) (w : World) (h : spec_l1In.f a0 a1 a2 = some r) :
  Calls Tryd.prog 44 #[.int .i64 a0, .int .i64 a1, .int .i64 a2] w fun e w' => e = .returned (.bool r) ∧ Drawn0 w w' := by
 have H : (if a0 ≥ a1 then (some (decide (a0 ≤ a2))) else (some false)) = some r := h
 clear h
 by_cases c4 : a0 ≥ a1
 ·rw [if_pos c4] at H
  have c4b0 : decide (a1 ≤ a0) = true := decide_eq_true c4
  clear c4
  obtain rfl := Option.some.inj H
  go_enter Tryd.func44, Tryd.ntmps44
  go_wp2
  go_ret
  exact ⟨by first | rfl | (simp; done) | (simp [*]; done), by repeat (first | exact Drawn0.refl _ | apply Drawn0.step)⟩
 ·rw [if_neg c4] at H
  have c4b0 : decide (a1 ≤ a0) = false := decide_eq_false c4
  clear c4
  obtain rfl := Option.some.inj H
  go_enter Tryd.func44, Tryd.ntmps44
  go_wp2
  go_ret
  exact ⟨by first | rfl | (simp; done) | (simp [*]; done), by repeat (first | exact Drawn0.refl _ | apply Drawn0.step)⟩

/-! ### spec_pzClue: function 64 -/
def spec_pzClue.j0 : Nat → Int → Bool → Int → Int → Int → Option (Bool)
 | 0, _, _, _, _, _ => none
 | k + 1, x8, x9, x104000, x104001, x104002 => if x9 = true then (some (x104001 == 0)) else (if x8 = 1 then ((spec_l1In.f x104001 0 3).bind fun t105 => (some t105)) else (if x8 = 2 then (if x104001 = 0 then (some (decide (x104002 < 2))) else (some false)) else (if x8 = 4 then ((spec_l1In.f x104001 0 4).bind fun t106 => (some t106)) else (some false))))
def spec_pzClue.f (k : Nat) (a0_0 : Int) (a0_1 : Int) (a0_2 : Int) : Option (Bool) := (spec_l1In.f a0_2 0 20).bind fun t104 => (if t104 = true then (if a0_0 = 0 then (spec_pzClue.j0 k a0_0 (a0_0 == 0) a0_0 a0_1 a0_2) else (if a0_0 = 3 then (spec_pzClue.j0 k a0_0 (a0_0 == 3) a0_0 a0_1 a0_2) else (spec_pzClue.j0 k a0_0 (a0_0 == 5) a0_0 a0_1 a0_2))) else (some false))
theorem spec_pzClue.mono_l : ∀ k, (∀ y0 y1 y2 y3 y4, LeO (spec_pzClue.j0 k y0 y1 y2 y3 y4) (spec_pzClue.j0 (k + 1) y0 y1 y2 y3 y4))
 | 0 => fun _ _ _ _ _ r h => by simp [spec_pzClue.j0] at h
 | k + 1 => by
  have ih0 := spec_pzClue.mono_l k
  ·intro y0 y1 y2 y3 y4
   unfold spec_pzClue.j0
   repeat' first
   | (with_reducible exact ih0 _ _ _ _ _)
   | (with_reducible exact LeO.refl _)
   | (with_reducible exact LeO.none _)
   | (with_reducible refine LeO.ite ?_ ?_)
   | (with_reducible refine LeO.bind ?_ (fun _ => ?_))
   | exact ih0 _ _ _ _ _
   | exact LeO.none _
   | refine LeO.ite ?_ ?_
   | refine LeO.bind ?_ (fun _ => ?_)
theorem spec_pzClue.mono : ∀ a0 a1 a2 k, LeO (spec_pzClue.f k a0 a1 a2) (spec_pzClue.f (k + 1) a0 a1 a2) := by
 intro a0 a1 a2 k
 have ih0 := spec_pzClue.mono_l k
 unfold spec_pzClue.f
 repeat' first
   | (with_reducible exact ih0 _ _ _ _ _)
   | (with_reducible exact LeO.refl _)
   | (with_reducible exact LeO.none _)
   | (with_reducible refine LeO.ite ?_ ?_)
   | (with_reducible refine LeO.bind ?_ (fun _ => ?_))
   | exact ih0 _ _ _ _ _
   | exact LeO.none _
   | refine LeO.ite ?_ ?_
   | refine LeO.bind ?_ (fun _ => ?_)
set_option maxHeartbeats 8000000 in
set_option maxRecDepth 100000 in
theorem spec_pzClue.calls (k : Nat) (a0_0 : Int) (a0_1 : Int) (a0_2 : Int) (r : Bool) (w : World) (h : spec_pzClue.f k a0_0 a0_1 a0_2 = some r) :
  Calls Tryd.prog 64 #[.agg #[.int .i64 a0_0, .int .i64 a0_1, .int .i64 a0_2]] w fun e w' => e = .returned (.bool r) ∧ Below w.heap.size w w' := by
 have hu69 := Tryd.underlying69
 have HB := Aside0.mk (Below.refl w.heap.size w)
 have H : ((spec_l1In.f a0_2 0 20).bind fun t104 => (if t104 = true then (if a0_0 = 0 then (spec_pzClue.j0 k a0_0 (a0_0 == 0) a0_0 a0_1 a0_2) else (if a0_0 = 3 then (spec_pzClue.j0 k a0_0 (a0_0 == 3) a0_0 a0_1 a0_2) else (spec_pzClue.j0 k a0_0 (a0_0 == 5) a0_0 a0_1 a0_2))) else (some false))) = some r := h
 clear h
 replace H := Option.bind_eq_some_iff.mp H
 obtain ⟨t104, A20, H⟩ := H
 replace H : (if t104 = true then (if a0_0 = 0 then (spec_pzClue.j0 k a0_0 (a0_0 == 0) a0_0 a0_1 a0_2) else (if a0_0 = 3 then (spec_pzClue.j0 k a0_0 (a0_0 == 3) a0_0 a0_1 a0_2) else (spec_pzClue.j0 k a0_0 (a0_0 == 5) a0_0 a0_1 a0_2))) else (some false)) = some r := H
 have A2 := Aside0.mk A20
 clear A20
 by_cases c3 : t104 = true
 ·subst c3
  have H1 : (if a0_0 = 0 then (spec_pzClue.j0 k a0_0 (a0_0 == 0) a0_0 a0_1 a0_2) else (if a0_0 = 3 then (spec_pzClue.j0 k a0_0 (a0_0 == 3) a0_0 a0_1 a0_2) else (spec_pzClue.j0 k a0_0 (a0_0 == 5) a0_0 a0_1 a0_2))) = some r := by rw [if_pos rfl] at H; exact H
  clear H
  have H := H1
  clear H1
  have HC4 := Aside0.mk H
  clear H
  go_enter Tryd.func64, Tryd.ntmps64
  go_upto_if 9 with (first | ((with_reducible refine gate_dst (N := 1) rfl ?_); refine box_event ?hg (N := 1) ?hd (cs := #[.int .i64 a0_0, .int .i64 a0_1, .int .i64 a0_2]) (t := 69) ?hr ?_; (case hd => rfl); (case hg => rfl); (case hr => first | (go_simp; done) | (go_simp; rfl)); intro gb103 hg w5 hbox hb; have n0_ := Aside0.mk (below_step (Lam.al) hb); have n1_ := Aside0.mk (hbox); have n2_ := Aside0.mk ((by rw [hg]; exact (below_size (Lam.al)) : w.heap.size ≤ gb103)); have n3_ := Aside0.mk ((by rw [hg]; exact (below_size (Lam.al)) : w.heap.size ≤ gb103)); clear HB; have HB := n0_; have BK103 := n1_; have GW103 := n2_; have GE103 := n3_; clear n0_ n1_ n2_ n3_; clear hb hbox hg; have hcz6_0 : w5.cell? ⟨gb103, 0, none⟩ = some (.int .i64 a0_0) := (blk_cell BK103.out 0).trans rfl; have hcz6_1 : w5.cell? ⟨gb103, 1, none⟩ = some (.int .i64 a0_1) := (blk_cell BK103.out 1).trans rfl; have hcz6_2 : w5.cell? ⟨gb103, 2, none⟩ = some (.int .i64 a0_2) := (blk_cell BK103.out 2).trans rfl; have hfz6_0 := blk_frozen BK103.out 0; have hfz6_1 := blk_frozen BK103.out 1; have hfz6_2 := blk_frozen BK103.out 2) | ((with_reducible refine gate_callee (f := 44) rfl ?_); refine goesL_ (some 5) rfl rfl Tryd.func44 (by kernel_rfl) rfl #[.int .i64 a0_2, .int .i64 0, .int .i64 20] rfl (by (try simp only [List.map_toArray, List.map_cons, List.map_nil]); first | done | rfl | (simp only [List.length_drop, List.length_take]; rfl)) ?_; (with_reducible refine (spec_l1In.calls a0_2 0 20 true _ A2.out).mono ?_); rintro e w' ⟨rfl, ⟨nd, rfl⟩⟩; refine ⟨_, rfl, ?_⟩))
  (try simp only [Act.put, Lam.pa, Lam.pb, Lam.pc])
  go_cut [9] (fun v9 wc => ∃ (kq : Nat) (x9_3 : Bool), v9 = .bool x9_3 ∧ Aside0 (spec_pzClue.j0 kq a0_0 x9_3 a0_0 a0_1 a0_2 = some r) ∧ Aside0 (kq ≤ k) ∧ Aside0 (wc.heap[gb103]? = some (.cells #[.int .i64 a0_0, .int .i64 a0_1, .int .i64 a0_2] 69 (0, 0))) ∧ Aside0 (Below w.heap.size w wc))
  case first =>
   have H := HC4.out
   clear HC4
   by_cases c7 : a0_0 = 0
   ·rw [if_pos c7] at H
    have c7b0 : (a0_0 == 0) = true := beq_iff_eq.mpr c7
    have c7b1 : (a0_0 != 0) = false := bne_eq_false_iff_eq.mpr c7
    clear c7
    (first | rw [c7b0] | (simp only [i64_w, i32_w]; rw [c7b0]) | skip)
    have H' := Aside0.mk H
    clear H
    go_wp2
    go_meet
    case rel => exact ⟨_, ((a0_0 == 0)), (by first | rfl | (simp; done) | (simp [*]; done)), H', ⟨by first | omega | exact Nat.le_refl _⟩, ⟨Lam.bq BK103.out⟩, ⟨Lam.al⟩⟩
   ·rw [if_neg c7] at H
    have c7b0 : (a0_0 == 0) = false := beq_eq_false_iff_ne.mpr c7
    have c7b1 : (a0_0 != 0) = true := bne_iff_ne.mpr c7
    (first | rw [c7b0] | (simp only [i64_w, i32_w]; rw [c7b0]) | skip)
    by_cases c8 : a0_0 = 3
    ·rw [if_pos c8] at H
     have c8b0 : (a0_0 == 3) = true := beq_iff_eq.mpr c8
     have c8b1 : (a0_0 != 3) = false := bne_eq_false_iff_eq.mpr c8
     clear c8
     have H' := Aside0.mk H
     clear H
     go_wp2
     go_meet
     case rel => exact ⟨_, ((a0_0 == 3)), (by first | rfl | (simp; done) | (simp [*]; done)), H', ⟨by first | omega | exact Nat.le_refl _⟩, ⟨Lam.bq BK103.out⟩, ⟨Lam.al⟩⟩
    ·rw [if_neg c8] at H
     have c8b0 : (a0_0 == 3) = false := beq_eq_false_iff_ne.mpr c8
     have c8b1 : (a0_0 != 3) = true := bne_iff_ne.mpr c8
     have H' := Aside0.mk H
     clear H
     go_wp2
     go_meet
     case rel => exact ⟨_, ((a0_0 == 5)), (by first | rfl | (simp; done) | (simp [*]; done)), H', ⟨by first | omega | exact Nat.le_refl _⟩, ⟨Lam.bq BK103.out⟩, ⟨Lam.al⟩⟩
  case rest =>
   clear HC4
   try clear p2
   try clear c3
   try clear c4
   try clear c6
   try clear c7
   try clear c7b0
   try clear c7b1
   try clear c8
   try clear c8b0
   try clear c8b1
   try clear hcz6_0
   try clear hcz6_1
   try clear hcz6_2
   try clear hfz6_0
   try clear hfz6_1
   try clear hfz6_2
   obtain ⟨kq, x9_3, rfl, HA, HJ3, BK103, HB⟩ := hcut
   cases kq with
   | zero => exact absurd HA.out (by simp [spec_pzClue.j0])
   | succ kj3 =>
    have H := HA.out
    clear HA
    simp only [spec_pzClue.j0] at H
    by_cases c9 : x9_3 = true
    ·subst c9
     have H1 : (some (a0_1 == 0)) = some r := by rw [if_pos rfl] at H; exact H
     clear H
     have H := H1
     clear H1
     obtain rfl := Option.some.inj H
     have hcz10_0 : wc.cell? ⟨gb103, 0, none⟩ = some (.int .i64 a0_0) := (blk_cell BK103.out 0).trans rfl
     have hcz10_1 : wc.cell? ⟨gb103, 1, none⟩ = some (.int .i64 a0_1) := (blk_cell BK103.out 1).trans rfl
     have hcz10_2 : wc.cell? ⟨gb103, 2, none⟩ = some (.int .i64 a0_2) := (blk_cell BK103.out 2).trans rfl
     have hfz10_0 := blk_frozen BK103.out 0
     have hfz10_1 := blk_frozen BK103.out 1
     have hfz10_2 := blk_frozen BK103.out 2
     go_wp2
     go_ret
     exact ⟨by first | rfl | (simp [errW_none, errW_some] <;> rfl) | (simp [*, errW_none, errW_some] <;> rfl), Lam.al⟩
    ·replace c9 := Bool.eq_false_iff.mpr c9
     subst c9
     have H1 : (if a0_0 = 1 then ((spec_l1In.f a0_1 0 3).bind fun t105 => (some t105)) else (if a0_0 = 2 then (if a0_1 = 0 then (some (decide (a0_2 < 2))) else (some false)) else (if a0_0 = 4 then ((spec_l1In.f a0_1 0 4).bind fun t106 => (some t106)) else (some false)))) = some r := by rw [if_neg (show ¬ (false = true) by decide)] at H; exact H
     clear H
     have H := H1
     clear H1
     by_cases c11 : a0_0 = 1
     ·rw [if_pos c11] at H
      have c11b0 : (a0_0 == 1) = true := beq_iff_eq.mpr c11
      have c11b1 : (a0_0 != 1) = false := bne_eq_false_iff_eq.mpr c11
      clear c11
      replace H := Option.bind_eq_some_iff.mp H
      obtain ⟨t105, A120, H⟩ := H
      replace H : (some t105) = some r := H
      have A12 := Aside0.mk A120
      clear A120
      obtain rfl := Option.some.inj H
      have hcz13_0 : wc.cell? ⟨gb103, 0, none⟩ = some (.int .i64 a0_0) := (blk_cell BK103.out 0).trans rfl
      have hcz13_1 : wc.cell? ⟨gb103, 1, none⟩ = some (.int .i64 a0_1) := (blk_cell BK103.out 1).trans rfl
      have hcz13_2 : wc.cell? ⟨gb103, 2, none⟩ = some (.int .i64 a0_2) := (blk_cell BK103.out 2).trans rfl
      have hfz13_0 := blk_frozen BK103.out 0
      have hfz13_1 := blk_frozen BK103.out 1
      have hfz13_2 := blk_frozen BK103.out 2
      go_wp2_with (first | ((with_reducible refine gate_callee (f := 44) rfl ?_); refine goesL_ (some 20) rfl rfl Tryd.func44 (by kernel_rfl) rfl #[.int .i64 a0_1, .int .i64 0, .int .i64 3] rfl (by (try simp only [List.map_toArray, List.map_cons, List.map_nil]); first | done | rfl | (simp only [List.length_drop, List.length_take]; rfl)) ?_; (with_reducible refine (spec_l1In.calls a0_1 0 3 t105 _ A12.out).mono ?_); rintro e w' ⟨rfl, ⟨nd, rfl⟩⟩; refine ⟨_, rfl, ?_⟩))
      go_ret
      exact ⟨by first | rfl | (simp [errW_none, errW_some] <;> rfl) | (simp [*, errW_none, errW_some] <;> rfl), Lam.al⟩
     ·rw [if_neg c11] at H
      have c11b0 : (a0_0 == 1) = false := beq_eq_false_iff_ne.mpr c11
      have c11b1 : (a0_0 != 1) = true := bne_iff_ne.mpr c11
      by_cases c14 : a0_0 = 2
      ·rw [if_pos c14] at H
       have c14b0 : (a0_0 == 2) = true := beq_iff_eq.mpr c14
       have c14b1 : (a0_0 != 2) = false := bne_eq_false_iff_eq.mpr c14
       clear c14
       by_cases c15 : a0_1 = 0
       ·rw [if_pos c15] at H
        have c15b0 : (a0_1 == 0) = true := beq_iff_eq.mpr c15
        have c15b1 : (a0_1 != 0) = false := bne_eq_false_iff_eq.mpr c15
        clear c15
        obtain rfl := Option.some.inj H
        have hcz16_0 : wc.cell? ⟨gb103, 0, none⟩ = some (.int .i64 a0_0) := (blk_cell BK103.out 0).trans rfl
        have hcz16_1 : wc.cell? ⟨gb103, 1, none⟩ = some (.int .i64 a0_1) := (blk_cell BK103.out 1).trans rfl
        have hcz16_2 : wc.cell? ⟨gb103, 2, none⟩ = some (.int .i64 a0_2) := (blk_cell BK103.out 2).trans rfl
        have hfz16_0 := blk_frozen BK103.out 0
        have hfz16_1 := blk_frozen BK103.out 1
        have hfz16_2 := blk_frozen BK103.out 2
        go_wp2
        go_ret
        exact ⟨by first | rfl | (simp [errW_none, errW_some] <;> rfl) | (simp [*, errW_none, errW_some] <;> rfl), Lam.al⟩
       ·rw [if_neg c15] at H
        have c15b0 : (a0_1 == 0) = false := beq_eq_false_iff_ne.mpr c15
        have c15b1 : (a0_1 != 0) = true := bne_iff_ne.mpr c15
        obtain rfl := Option.some.inj H
        have hcz17_0 : wc.cell? ⟨gb103, 0, none⟩ = some (.int .i64 a0_0) := (blk_cell BK103.out 0).trans rfl
        have hcz17_1 : wc.cell? ⟨gb103, 1, none⟩ = some (.int .i64 a0_1) := (blk_cell BK103.out 1).trans rfl
        have hcz17_2 : wc.cell? ⟨gb103, 2, none⟩ = some (.int .i64 a0_2) := (blk_cell BK103.out 2).trans rfl
        have hfz17_0 := blk_frozen BK103.out 0
        have hfz17_1 := blk_frozen BK103.out 1
        have hfz17_2 := blk_frozen BK103.out 2
        go_wp2
        go_ret
        exact ⟨by first | rfl | (simp [errW_none, errW_some] <;> rfl) | (simp [*, errW_none, errW_some] <;> rfl), Lam.al⟩
      ·rw [if_neg c14] at H
       have c14b0 : (a0_0 == 2) = false := beq_eq_false_iff_ne.mpr c14
       have c14b1 : (a0_0 != 2) = true := bne_iff_ne.mpr c14
       by_cases c18 : a0_0 = 4
       ·rw [if_pos c18] at H
        have c18b0 : (a0_0 == 4) = true := beq_iff_eq.mpr c18
        have c18b1 : (a0_0 != 4) = false := bne_eq_false_iff_eq.mpr c18
        clear c18
        replace H := Option.bind_eq_some_iff.mp H
        obtain ⟨t106, A190, H⟩ := H
        replace H : (some t106) = some r := H
        have A19 := Aside0.mk A190
        clear A190
        obtain rfl := Option.some.inj H
        have hcz20_0 : wc.cell? ⟨gb103, 0, none⟩ = some (.int .i64 a0_0) := (blk_cell BK103.out 0).trans rfl
        have hcz20_1 : wc.cell? ⟨gb103, 1, none⟩ = some (.int .i64 a0_1) := (blk_cell BK103.out 1).trans rfl
        have hcz20_2 : wc.cell? ⟨gb103, 2, none⟩ = some (.int .i64 a0_2) := (blk_cell BK103.out 2).trans rfl
        have hfz20_0 := blk_frozen BK103.out 0
        have hfz20_1 := blk_frozen BK103.out 1
        have hfz20_2 := blk_frozen BK103.out 2
        go_wp2_with (first | ((with_reducible refine gate_callee (f := 44) rfl ?_); refine goesL_ (some 35) rfl rfl Tryd.func44 (by kernel_rfl) rfl #[.int .i64 a0_1, .int .i64 0, .int .i64 4] rfl (by (try simp only [List.map_toArray, List.map_cons, List.map_nil]); first | done | rfl | (simp only [List.length_drop, List.length_take]; rfl)) ?_; (with_reducible refine (spec_l1In.calls a0_1 0 4 t106 _ A19.out).mono ?_); rintro e w' ⟨rfl, ⟨nd, rfl⟩⟩; refine ⟨_, rfl, ?_⟩))
        go_ret
        exact ⟨by first | rfl | (simp [errW_none, errW_some] <;> rfl) | (simp [*, errW_none, errW_some] <;> rfl), Lam.al⟩
       ·rw [if_neg c18] at H
        have c18b0 : (a0_0 == 4) = false := beq_eq_false_iff_ne.mpr c18
        have c18b1 : (a0_0 != 4) = true := bne_iff_ne.mpr c18
        obtain rfl := Option.some.inj H
        go_wp2
        go_ret
        exact ⟨by first | rfl | (simp [errW_none, errW_some] <;> rfl) | (simp [*, errW_none, errW_some] <;> rfl), Lam.al⟩
 ·replace c3 := Bool.eq_false_iff.mpr c3
  subst c3
  have H1 : (some false) = some r := by rw [if_neg (show ¬ (false = true) by decide)] at H; exact H
  clear H
  have H := H1
  clear H1
  obtain rfl := Option.some.inj H
  go_enter Tryd.func64, Tryd.ntmps64
  go_wp2_with (first | ((with_reducible refine gate_dst (N := 1) rfl ?_); refine box_event ?hg (N := 1) ?hd (cs := #[.int .i64 a0_0, .int .i64 a0_1, .int .i64 a0_2]) (t := 69) ?hr ?_; (case hd => rfl); (case hg => rfl); (case hr => first | (go_simp; done) | (go_simp; rfl)); intro gb103 hg w21 hbox hb; have n0_ := Aside0.mk (below_step (Lam.al) hb); have n1_ := Aside0.mk (hbox); have n2_ := Aside0.mk ((by rw [hg]; exact (below_size (Lam.al)) : w.heap.size ≤ gb103)); have n3_ := Aside0.mk ((by rw [hg]; exact (below_size (Lam.al)) : w.heap.size ≤ gb103)); clear HB; have HB := n0_; have BK103 := n1_; have GW103 := n2_; have GE103 := n3_; clear n0_ n1_ n2_ n3_; clear hb hbox hg; have hcz22_0 : w21.cell? ⟨gb103, 0, none⟩ = some (.int .i64 a0_0) := (blk_cell BK103.out 0).trans rfl; have hcz22_1 : w21.cell? ⟨gb103, 1, none⟩ = some (.int .i64 a0_1) := (blk_cell BK103.out 1).trans rfl; have hcz22_2 : w21.cell? ⟨gb103, 2, none⟩ = some (.int .i64 a0_2) := (blk_cell BK103.out 2).trans rfl; have hfz22_0 := blk_frozen BK103.out 0; have hfz22_1 := blk_frozen BK103.out 1; have hfz22_2 := blk_frozen BK103.out 2) | ((with_reducible refine gate_callee (f := 44) rfl ?_); refine goesL_ (some 5) rfl rfl Tryd.func44 (by kernel_rfl) rfl #[.int .i64 a0_2, .int .i64 0, .int .i64 20] rfl (by (try simp only [List.map_toArray, List.map_cons, List.map_nil]); first | done | rfl | (simp only [List.length_drop, List.length_take]; rfl)) ?_; (with_reducible refine (spec_l1In.calls a0_2 0 20 false _ A2.out).mono ?_); rintro e w' ⟨rfl, ⟨nd, rfl⟩⟩; refine ⟨_, rfl, ?_⟩))
  go_ret
  exact ⟨by first | rfl | (simp [errW_none, errW_some] <;> rfl) | (simp [*, errW_none, errW_some] <;> rfl), Lam.al⟩

/-! ### spec_pzGood: function 35 -/
def spec_pzGood.l0 : Nat → List (S69) → Int → Int → Option (Bool)
 | 0, _, _, _ => none
 | k + 1, x10, x11, x12 => if x12 < x11 then (if 0 ≤ x12 then (if x12 < (x10.length : Int) then ((spec_pzClue.f k ((rd_T69 x10 x12).f0) ((rd_T69 x10 x12).f1) ((rd_T69 x10 x12).f2)).bind fun t110 => (if t110 = true then (spec_pzGood.l0 k x10 x11 (wrap64 (x12 + 1))) else (some false))) else (none)) else (none)) else (some true)
def spec_pzGood.f (k : Nat) (l0_0 : List (S69)) : Option (Bool) := if (l0_0.length : Int) > 6 then (some false) else (spec_pzGood.l0 k l0_0 (l0_0.length : Int) 0)
theorem spec_pzGood.mono_l : ∀ k, (∀ y0 y1 y2, LeO (spec_pzGood.l0 k y0 y1 y2) (spec_pzGood.l0 (k + 1) y0 y1 y2))
 | 0 => fun _ _ _ r h => by simp [spec_pzGood.l0] at h
 | k + 1 => by
  have ih0 := spec_pzGood.mono_l k
  ·intro y0 y1 y2
   unfold spec_pzGood.l0
   repeat' first
   | (with_reducible exact ih0 _ _ _)
   | (with_reducible exact spec_pzClue.mono _ _ _ _)
   | (with_reducible exact LeO.refl _)
   | (with_reducible exact LeO.none _)
   | (with_reducible refine LeO.ite ?_ ?_)
   | (with_reducible refine LeO.bind ?_ (fun _ => ?_))
   | exact ih0 _ _ _
   | exact spec_pzClue.mono _ _ _ _
   | exact LeO.none _
   | refine LeO.ite ?_ ?_
   | refine LeO.bind ?_ (fun _ => ?_)
theorem spec_pzGood.mono : ∀ a0 k, LeO (spec_pzGood.f k a0) (spec_pzGood.f (k + 1) a0) := by
 intro a0 k
 have ih0 := spec_pzGood.mono_l k
 unfold spec_pzGood.f
 repeat' first
   | (with_reducible exact ih0 _ _ _)
   | (with_reducible exact spec_pzClue.mono _ _ _ _)
   | (with_reducible exact LeO.refl _)
   | (with_reducible exact LeO.none _)
   | (with_reducible refine LeO.ite ?_ ?_)
   | (with_reducible refine LeO.bind ?_ (fun _ => ?_))
   | exact ih0 _ _ _
   | exact spec_pzClue.mono _ _ _ _
   | exact LeO.none _
   | refine LeO.ite ?_ ?_
   | refine LeO.bind ?_ (fun _ => ?_)
set_option maxHeartbeats 8000000 in
set_option maxRecDepth 100000 in
theorem spec_pzGood.calls (k : Nat) (A0_0 : Option Addr) (c0_0 : Nat) (l0_0 : List (S69)) (r : Bool) (w : World) (hr0_0 : Kd.C k69 w A0_0 l0_0.length l0_0) (hc0_0 : l0_0.length ≤ c0_0) (h : spec_pzGood.f k l0_0 = some r) :
  Calls Tryd.prog 35 #[.agg #[.slice A0_0 l0_0.length c0_0]] w fun e w' => e = .returned (.bool r) ∧ Below w.heap.size w w' := by
 have hu31 := Tryd.underlying31
 have hu69 := Tryd.underlying69
 have HR0_0 := Aside0.mk hr0_0
 have HC0_0 := Aside0.mk hc0_0
 clear hr0_0 hc0_0
 have HB := Aside0.mk (Below.refl w.heap.size w)
 have H : (if (l0_0.length : Int) > 6 then (some false) else (spec_pzGood.l0 k l0_0 (l0_0.length : Int) 0)) = some r := h
 clear h
 by_cases c2 : (l0_0.length : Int) > 6
 ·rw [if_pos c2] at H
  have c2b0 : decide (6 < (l0_0.length : Int)) = true := decide_eq_true c2
  have c2b1 : decide (6 < l0_0.length) = true := decide_eq_true (by omega)
  clear c2
  obtain rfl := Option.some.inj H
  go_enter Tryd.func35, Tryd.ntmps35
  go_wp2_with (first | ((with_reducible refine gate_dst (N := 1) rfl ?_); refine box_event ?hg (N := 1) ?hd (cs := #[.slice A0_0 l0_0.length c0_0]) (t := 31) ?hr ?_; (case hd => rfl); (case hg => rfl); (case hr => first | (go_simp; done) | (go_simp; rfl)); intro gb107 hg w3 hbox hb; have n0_ := Aside0.mk (below_step (Lam.al) hb); have n1_ := Aside0.mk (hbox); have n2_ := Aside0.mk ((by rw [hg]; exact (below_size (Lam.al)) : w.heap.size ≤ gb107)); have n3_ := Aside0.mk ((by rw [hg]; exact (below_size (Lam.al)) : w.heap.size ≤ gb107)); clear HB; have HB := n0_; have BK107 := n1_; have GW107 := n2_; have GE107 := n3_; clear n0_ n1_ n2_ n3_; clear hb hbox hg; have hcz4_0 : w3.cell? ⟨gb107, 0, none⟩ = some (.slice A0_0 l0_0.length c0_0) := (blk_cell BK107.out 0).trans rfl; have hfz4_0 := blk_frozen BK107.out 0))
  go_ret
  exact ⟨by first | rfl | (simp [errW_none, errW_some] <;> rfl) | (simp [*, errW_none, errW_some] <;> rfl), Lam.al⟩
 ·rw [if_neg c2] at H
  have c2b0 : decide (6 < (l0_0.length : Int)) = false := decide_eq_false c2
  have c2b1 : decide (6 < l0_0.length) = false := decide_eq_false (by omega)
  clear c2
  have H' := Aside0.mk H
  clear H
  go_enter Tryd.func35, Tryd.ntmps35
  go_wp2_with (first | ((with_reducible refine gate_dst (N := 1) rfl ?_); refine box_event ?hg (N := 1) ?hd (cs := #[.slice A0_0 l0_0.length c0_0]) (t := 31) ?hr ?_; (case hd => rfl); (case hg => rfl); (case hr => first | (go_simp; done) | (go_simp; rfl)); intro gb107 hg w5 hbox hb; have n0_ := Aside0.mk (below_step (Lam.al) hb); have n1_ := Aside0.mk (hbox); have n2_ := Aside0.mk ((by rw [hg]; exact (below_size (Lam.al)) : w.heap.size ≤ gb107)); have n3_ := Aside0.mk ((by rw [hg]; exact (below_size (Lam.al)) : w.heap.size ≤ gb107)); clear HB; have HB := n0_; have BK107 := n1_; have GW107 := n2_; have GE107 := n3_; clear n0_ n1_ n2_ n3_; clear hb hbox hg; have hcz6_0 : w5.cell? ⟨gb107, 0, none⟩ = some (.slice A0_0 l0_0.length c0_0) := (blk_cell BK107.out 0).trans rfl; have hfz6_0 := blk_frozen BK107.out 0))
  go_loopg [12] k (fun kq v12 w' => ∃ (x12_1 : Int), v12 = .int .i64 x12_1 ∧ Aside0 (spec_pzGood.l0 kq l0_0 (l0_0.length : Int) x12_1 = some r) ∧ Aside0 (kq ≤ k) ∧ Aside0 (w'.heap[gb107]? = some (.cells #[(.slice A0_0 l0_0.length c0_0)] 31 (0, 0))) ∧ Aside0 (Below w.heap.size w w'))
  case atStart => exact ⟨(0), (by first | rfl | (simp; done) | (simp [*]; done)), H', ⟨Nat.le_refl _⟩, ⟨Lam.bq BK107.out⟩, ⟨Lam.al⟩⟩
  case round =>
   clear H'
   try clear c2
   try clear c2b0
   try clear c2b1
   try clear p2
   try clear c3
   try clear hcz4_0
   try clear hcz6_0
   try clear hfz4_0
   try clear hfz6_0
   obtain ⟨x12_1, rfl, HA, HK1, BK107, HB⟩ := hrel
   cases gk with
   | zero => exact absurd HA.out (by simp [spec_pzGood.l0])
   | succ k1 =>
    have H := HA.out
    clear HA
    simp only [spec_pzGood.l0] at H
    by_cases c7 : x12_1 < (l0_0.length : Int)
    ·rw [if_pos c7] at H
     have c7b0 : decide (x12_1 < (l0_0.length : Int)) = true := decide_eq_true c7
     clear c7
     by_cases c8 : 0 ≤ x12_1
     ·rw [if_pos c8] at H
      have c8b0 : decide (0 ≤ x12_1) = true := decide_eq_true c8
      clear c8
      by_cases c9 : x12_1 < (l0_0.length : Int)
      ·rw [if_pos c9] at H
       have c9b0 : decide (x12_1 < (l0_0.length : Int)) = true := decide_eq_true c9
       clear c9
       replace H := Option.bind_eq_some_iff.mp H
       obtain ⟨t110, A100, H⟩ := H
       replace H : (if t110 = true then (spec_pzGood.l0 k1 l0_0 (l0_0.length : Int) (wrap64 (x12_1 + 1))) else (some false)) = some r := H
       have A10 := Aside0.mk A100
       clear A100
       by_cases c11 : t110 = true
       ·subst c11
        have H1 : (spec_pzGood.l0 k1 l0_0 (l0_0.length : Int) (wrap64 (x12_1 + 1))) = some r := by rw [if_pos rfl] at H; exact H
        clear H
        have H := H1
        clear H1
        have H' := Aside0.mk H
        clear H
        have p108 : 0 ≤ (x12_1 : Int) := of_decide_eq_true (by first | (with_reducible assumption) | assumption)
        have q108 : x12_1 < (l0_0.length : Int) := of_decide_eq_true (by first | (with_reducible assumption) | assumption)
        obtain ⟨ad108, e108, hx108_0, hx108_1, hx108_2⟩ := at_T69 HR0_0.out x12_1 p108 q108
        cases e108
        replace hx108_0 := (HB.out.cell (World.block_lt_of_cell? w _ hx108_0)).trans hx108_0
        replace hx108_1 := (HB.out.cell (World.block_lt_of_cell? w _ hx108_1)).trans hx108_1
        replace hx108_2 := (HB.out.cell (World.block_lt_of_cell? w _ hx108_2)).trans hx108_2
        replace p108 := eq_true p108
        replace q108 := eq_true q108
        go_wp2_with (first | ((with_reducible refine gate_dst (N := 4) rfl ?_); refine box_event ?hg (N := 4) ?hd (cs := #[.int .i64 0, .int .i64 0, .int .i64 0]) (t := 69) ?hr ?_; (case hd => rfl); (case hg => rfl); (case hr => first | (go_simp; done) | (go_simp; rfl)); intro gb109 hg w12 hbox hb; have n0_ := Aside0.mk (blk_below (g := gb107) (o := .cells #[.slice (some ad108) l0_0.length c0_0] 31 (0, 0)) (Lam.bq BK107.out) hb); have n1_ := Aside0.mk (below_step (Lam.al) hb); have n2_ := Aside0.mk (hbox); have n3_ := Aside0.mk ((by rw [hg]; exact (below_size (Lam.al)) : w.heap.size ≤ gb109)); have n4_ := Aside0.mk ((by rw [hg]; exact (below_size (Lam.al)) : w.heap.size ≤ gb109)); have n5_ := Aside0.mk ((by rw [hg]; exact Nat.ne_of_lt (blk_lt (g := gb107) (o := .cells #[.slice (some ad108) l0_0.length c0_0] 31 (0, 0)) (Lam.bq BK107.out)) : gb107 ≠ gb109)); have n6_ := Aside0.mk ((by rw [hg]; exact Nat.ne_of_gt (blk_lt (g := gb107) (o := .cells #[.slice (some ad108) l0_0.length c0_0] 31 (0, 0)) (Lam.bq BK107.out)) : gb109 ≠ gb107)); clear BK107; clear HB; have BK107 := n0_; have HB := n1_; have BK109 := n2_; have GW109 := n3_; have GE109 := n4_; have NB107_109 := n5_; have NB109_107 := n6_; clear n0_ n1_ n2_ n3_ n4_ n5_ n6_; clear hb hbox hg; have hnb13 := NB109_107.out; have hnc13 := NB107_109.out; have hcz14_0 : w12.cell? ⟨gb109, 0, none⟩ = some (.int .i64 0) := (blk_cell BK109.out 0).trans rfl; have hcz14_1 : w12.cell? ⟨gb109, 1, none⟩ = some (.int .i64 0) := (blk_cell BK109.out 1).trans rfl; have hcz14_2 : w12.cell? ⟨gb109, 2, none⟩ = some (.int .i64 0) := (blk_cell BK109.out 2).trans rfl; have hfz14_0 := blk_frozen BK109.out 0; have hfz14_1 := blk_frozen BK109.out 1; have hfz14_2 := blk_frozen BK109.out 2) | ((with_reducible refine gate_callee (f := 64) rfl ?_); refine goesL_ (some 17) rfl rfl Tryd.func64 (by kernel_rfl) rfl #[.agg #[.int .i64 ((rd_T69 l0_0 x12_1).f0), .int .i64 ((rd_T69 l0_0 x12_1).f1), .int .i64 ((rd_T69 l0_0 x12_1).f2)]] rfl (by (try simp only [List.map_toArray, List.map_cons, List.map_nil]); first | done | rfl | (simp only [List.length_drop, List.length_take]; rfl)) ?_; (with_reducible refine (spec_pzClue.calls k1 ((rd_T69 l0_0 x12_1).f0) ((rd_T69 l0_0 x12_1).f1) ((rd_T69 l0_0 x12_1).f2) true _ A10.out).mono ?_); rintro e w15 ⟨rfl, hb⟩; refine ⟨_, rfl, ?_⟩; have n0_ := Aside0.mk (blk_below (g := gb107) (o := .cells #[.slice (some ad108) l0_0.length c0_0] 31 (0, 0)) (by (with_reducible repeat (first | refine blk_drewN ?_ _ | refine blk_drew ?_ | refine blk_alloc ?_ _)); refine blk_far ?_ NB107_109.out _; (with_reducible repeat (first | refine blk_drewN ?_ _ | refine blk_drew ?_ | refine blk_alloc ?_ _)); refine blk_far ?_ NB107_109.out _; (with_reducible repeat (first | refine blk_drewN ?_ _ | refine blk_drew ?_ | refine blk_alloc ?_ _)); refine blk_far ?_ NB107_109.out _; (with_reducible repeat (first | refine blk_drewN ?_ _ | refine blk_drew ?_ | refine blk_alloc ?_ _)); exact BK107.out) hb); have n1_ := Aside0.mk (blk_below (g := gb109) (o := .cells #[.int .i64 ((rd_T69 l0_0 x12_1).f0), .int .i64 ((rd_T69 l0_0 x12_1).f1), .int .i64 ((rd_T69 l0_0 x12_1).f2)] 69 (0, 0)) (by (with_reducible repeat (first | refine blk_drewN ?_ _ | refine blk_drew ?_ | refine blk_alloc ?_ _)); refine blk_put (cs := #[.int .i64 ((rd_T69 l0_0 x12_1).f0), .int .i64 ((rd_T69 l0_0 x12_1).f1), .int .i64 0]) ?_ 2 _ rfl; (with_reducible repeat (first | refine blk_drewN ?_ _ | refine blk_drew ?_ | refine blk_alloc ?_ _)); refine blk_put (cs := #[.int .i64 ((rd_T69 l0_0 x12_1).f0), .int .i64 0, .int .i64 0]) ?_ 1 _ rfl; (with_reducible repeat (first | refine blk_drewN ?_ _ | refine blk_drew ?_ | refine blk_alloc ?_ _)); refine blk_put (cs := #[.int .i64 0, .int .i64 0, .int .i64 0]) ?_ 0 _ rfl; (with_reducible repeat (first | refine blk_drewN ?_ _ | refine blk_drew ?_ | refine blk_alloc ?_ _)); exact BK109.out) hb); have n2_ := Aside0.mk (below_step (Lam.al) hb); clear BK107; clear BK109; clear HB; have BK107 := n0_; have BK109 := n1_; have HB := n2_; clear n0_ n1_ n2_; (try clear hb); (try clear hb2); (try clear hk); (try clear hi)))
        go_roundg k1
        case measure => have := HK1.out; omega
        case rel => exact ⟨(wrap64 (x12_1 + 1)), (by first | rfl | (simp; done) | (simp [*]; done)), H', ⟨by have := HK1.out; omega⟩, ⟨Lam.bq BK107.out⟩, ⟨Lam.al⟩⟩
       ·replace c11 := Bool.eq_false_iff.mpr c11
        subst c11
        have H1 : (some false) = some r := by rw [if_neg (show ¬ (false = true) by decide)] at H; exact H
        clear H
        have H := H1
        clear H1
        obtain rfl := Option.some.inj H
        have p108 : 0 ≤ (x12_1 : Int) := of_decide_eq_true (by first | (with_reducible assumption) | assumption)
        have q108 : x12_1 < (l0_0.length : Int) := of_decide_eq_true (by first | (with_reducible assumption) | assumption)
        obtain ⟨ad108, e108, hx108_0, hx108_1, hx108_2⟩ := at_T69 HR0_0.out x12_1 p108 q108
        cases e108
        replace hx108_0 := (HB.out.cell (World.block_lt_of_cell? w _ hx108_0)).trans hx108_0
        replace hx108_1 := (HB.out.cell (World.block_lt_of_cell? w _ hx108_1)).trans hx108_1
        replace hx108_2 := (HB.out.cell (World.block_lt_of_cell? w _ hx108_2)).trans hx108_2
        replace p108 := eq_true p108
        replace q108 := eq_true q108
        go_wp2_with (first | ((with_reducible refine gate_dst (N := 4) rfl ?_); refine box_event ?hg (N := 4) ?hd (cs := #[.int .i64 0, .int .i64 0, .int .i64 0]) (t := 69) ?hr ?_; (case hd => rfl); (case hg => rfl); (case hr => first | (go_simp; done) | (go_simp; rfl)); intro gb109 hg w16 hbox hb; have n0_ := Aside0.mk (blk_below (g := gb107) (o := .cells #[.slice (some ad108) l0_0.length c0_0] 31 (0, 0)) (Lam.bq BK107.out) hb); have n1_ := Aside0.mk (below_step (Lam.al) hb); have n2_ := Aside0.mk (hbox); have n3_ := Aside0.mk ((by rw [hg]; exact (below_size (Lam.al)) : w.heap.size ≤ gb109)); have n4_ := Aside0.mk ((by rw [hg]; exact (below_size (Lam.al)) : w.heap.size ≤ gb109)); have n5_ := Aside0.mk ((by rw [hg]; exact Nat.ne_of_lt (blk_lt (g := gb107) (o := .cells #[.slice (some ad108) l0_0.length c0_0] 31 (0, 0)) (Lam.bq BK107.out)) : gb107 ≠ gb109)); have n6_ := Aside0.mk ((by rw [hg]; exact Nat.ne_of_gt (blk_lt (g := gb107) (o := .cells #[.slice (some ad108) l0_0.length c0_0] 31 (0, 0)) (Lam.bq BK107.out)) : gb109 ≠ gb107)); clear BK107; clear HB; have BK107 := n0_; have HB := n1_; have BK109 := n2_; have GW109 := n3_; have GE109 := n4_; have NB107_109 := n5_; have NB109_107 := n6_; clear n0_ n1_ n2_ n3_ n4_ n5_ n6_; clear hb hbox hg; have hnb17 := NB109_107.out; have hnc17 := NB107_109.out; have hcz18_0 : w16.cell? ⟨gb109, 0, none⟩ = some (.int .i64 0) := (blk_cell BK109.out 0).trans rfl; have hcz18_1 : w16.cell? ⟨gb109, 1, none⟩ = some (.int .i64 0) := (blk_cell BK109.out 1).trans rfl; have hcz18_2 : w16.cell? ⟨gb109, 2, none⟩ = some (.int .i64 0) := (blk_cell BK109.out 2).trans rfl; have hfz18_0 := blk_frozen BK109.out 0; have hfz18_1 := blk_frozen BK109.out 1; have hfz18_2 := blk_frozen BK109.out 2) | ((with_reducible refine gate_callee (f := 64) rfl ?_); refine goesL_ (some 17) rfl rfl Tryd.func64 (by kernel_rfl) rfl #[.agg #[.int .i64 ((rd_T69 l0_0 x12_1).f0), .int .i64 ((rd_T69 l0_0 x12_1).f1), .int .i64 ((rd_T69 l0_0 x12_1).f2)]] rfl (by (try simp only [List.map_toArray, List.map_cons, List.map_nil]); first | done | rfl | (simp only [List.length_drop, List.length_take]; rfl)) ?_; (with_reducible refine (spec_pzClue.calls k1 ((rd_T69 l0_0 x12_1).f0) ((rd_T69 l0_0 x12_1).f1) ((rd_T69 l0_0 x12_1).f2) false _ A10.out).mono ?_); rintro e w19 ⟨rfl, hb⟩; refine ⟨_, rfl, ?_⟩; have n0_ := Aside0.mk (blk_below (g := gb107) (o := .cells #[.slice (some ad108) l0_0.length c0_0] 31 (0, 0)) (by (with_reducible repeat (first | refine blk_drewN ?_ _ | refine blk_drew ?_ | refine blk_alloc ?_ _)); refine blk_far ?_ NB107_109.out _; (with_reducible repeat (first | refine blk_drewN ?_ _ | refine blk_drew ?_ | refine blk_alloc ?_ _)); refine blk_far ?_ NB107_109.out _; (with_reducible repeat (first | refine blk_drewN ?_ _ | refine blk_drew ?_ | refine blk_alloc ?_ _)); refine blk_far ?_ NB107_109.out _; (with_reducible repeat (first | refine blk_drewN ?_ _ | refine blk_drew ?_ | refine blk_alloc ?_ _)); exact BK107.out) hb); have n1_ := Aside0.mk (blk_below (g := gb109) (o := .cells #[.int .i64 ((rd_T69 l0_0 x12_1).f0), .int .i64 ((rd_T69 l0_0 x12_1).f1), .int .i64 ((rd_T69 l0_0 x12_1).f2)] 69 (0, 0)) (by (with_reducible repeat (first | refine blk_drewN ?_ _ | refine blk_drew ?_ | refine blk_alloc ?_ _)); refine blk_put (cs := #[.int .i64 ((rd_T69 l0_0 x12_1).f0), .int .i64 ((rd_T69 l0_0 x12_1).f1), .int .i64 0]) ?_ 2 _ rfl; (with_reducible repeat (first | refine blk_drewN ?_ _ | refine blk_drew ?_ | refine blk_alloc ?_ _)); refine blk_put (cs := #[.int .i64 ((rd_T69 l0_0 x12_1).f0), .int .i64 0, .int .i64 0]) ?_ 1 _ rfl; (with_reducible repeat (first | refine blk_drewN ?_ _ | refine blk_drew ?_ | refine blk_alloc ?_ _)); refine blk_put (cs := #[.int .i64 0, .int .i64 0, .int .i64 0]) ?_ 0 _ rfl; (with_reducible repeat (first | refine blk_drewN ?_ _ | refine blk_drew ?_ | refine blk_alloc ?_ _)); exact BK109.out) hb); have n2_ := Aside0.mk (below_step (Lam.al) hb); clear BK107; clear BK109; clear HB; have BK107 := n0_; have BK109 := n1_; have HB := n2_; clear n0_ n1_ n2_; (try clear hb); (try clear hb2); (try clear hk); (try clear hi)))
        go_ret
        exact ⟨by first | rfl | (simp [errW_none, errW_some] <;> rfl) | (simp [*, errW_none, errW_some] <;> rfl), Lam.al⟩
      ·rw [if_neg c9] at H
       exact absurd H (by simp)
     ·rw [if_neg c8] at H
      exact absurd H (by simp)
    ·rw [if_neg c7] at H
     have c7b0 : decide (x12_1 < (l0_0.length : Int)) = false := decide_eq_false c7
     clear c7
     obtain rfl := Option.some.inj H
     go_wp2
     go_ret
     exact ⟨by first | rfl | (simp [errW_none, errW_some] <;> rfl) | (simp [*, errW_none, errW_some] <;> rfl), Lam.al⟩

/-! ### spec_l1Own: function 127 -/
def spec_l1Own.f (l0 : List Int) : Option (List Int) := (some (([] : List Int) : List Int)).bind fun y111 => (if y111.length + l0.length < 17592186044416 then (some (y111 ++ l0)) else (none))
set_option maxHeartbeats 8000000 in
set_option maxRecDepth 100000 in
theorem spec_l1Own.calls (A0 : Option Addr) (c0 : Nat) (l0 : List Int) (r : List Int) (w : World) (hr0 : Kd.C (Kd.int .i64) w A0 l0.length l0) (hc0 : l0.length ≤ c0) (h : spec_l1Own.f l0 = some r) :
  Calls Tryd.prog 127 #[.slice A0 l0.length c0] w fun e w' => ∃ v0_ : Value, e = .returned (v0_) ∧ Kd.R (Kd.int .i64) 3 w' w.heap.size (fun _ => True) v0_ r ∧ Below w.heap.size w w' := by
 have HR0 := Aside0.mk hr0
 have HC0 := Aside0.mk hc0
 clear hr0 hc0
 have HB := Aside0.mk (Below.refl w.heap.size w)
 have H : ((some (([] : List Int) : List Int)).bind fun y111 => (if y111.length + l0.length < 17592186044416 then (some (y111 ++ l0)) else (none))) = some r := h
 clear h
 obtain ⟨y111, hy111⟩ : ∃ y_ : List Int, y_ = (([] : List Int)) := ⟨_, rfl⟩
 replace H : (if y111.length + l0.length < 17592186044416 then (some (y111 ++ l0)) else (none)) = some r := by first | (rw [hy111]; with_reducible exact H) | (have H2_ := (Option.bind_some _ _).symm.trans H; rw [hy111]; with_reducible exact H2_) | (have H2_ := (Option.bind_some _ _).symm.trans H; with_reducible exact H2_) | with_reducible exact H | (rw [hy111]; exact H) | exact H
 have Ny111 := Aside0.mk hy111
 clear hy111
 by_cases c2 : y111.length + l0.length < 17592186044416
 ·rw [if_pos c2] at H
  have LMc2 := Aside0.mk c2
  clear c2
  obtain ⟨y114, hy114⟩ : ∃ y_ : List Int, y_ = (y111 ++ l0) := ⟨_, rfl⟩
  replace H : (some y114) = some r := by first | (rw [hy114]; with_reducible exact H) | (have H2_ := (Option.bind_some _ _).symm.trans H; rw [hy114]; with_reducible exact H2_) | (have H2_ := (Option.bind_some _ _).symm.trans H; with_reducible exact H2_) | with_reducible exact H | (rw [hy114]; exact H) | exact H
  have Ny114 := Aside0.mk hy114
  clear hy114
  obtain rfl := Option.some.inj H
  go_enter Tryd.func127, Tryd.ntmps127
  go_wp2_with (first | ((with_reducible refine gate_dst (N := 3) rfl ?_); refine Kd.R_lit (Kd.int .i64) _ 3 ?hg (N := 3) ?hd (xs := ([] : List Int)) (inner := []) (ok := fun _ => True) (okp := fun _ => True) ?hr ?hp (fun _ hk => hk) trivial (Below.refl _ _) (Nat.le_refl _) (by simp) ?_; (case hd => rfl); (case hg => rfl); (case hr => first | (go_simp; done) | (go_simp; rfl)); (case hp => exact (Reps.none _ _)); intro v112 w3 ho4 hb hg_ hnew_; clear hg_ hnew_; (first | rw [← Ny111.out] at ho4 | (simp only [Int.reduceToNat] at ho4; rw [← Ny111.out] at ho4)); have n0_ := Aside0.mk (Kd.R_lower ho4 (below_size (Lam.al))); have n1_ := Aside0.mk (below_step (Lam.al) hb); clear HB; have HO113 := n0_; have HB := n1_; clear n0_ n1_; clear hb ho4) | ((with_reducible refine gate_builtin (b := .append) (xs := #[.tmp 3, .tmp 4]) rfl ?_); at_builtin; refine Kd.R_append_rows (Kd.int .i64) (w0 := w) w.heap.size rfl (.tmp 3) (.tmp 4) 38 3 (.int .i64 0) 8 rfl Tryd.underlying38 info3 rfl (by decide) (by omega) v112 y111 l0 _ _ _ (fun _ => True) (fun _ => False) rfl rfl ?aO ?aR (fun _ _ h => h) (fun _ h => h.elim) ?aF ?aB ?aS ?aL ?_; (case aR => repeat (first | exact (Kd.C_below HR0.out HB.out) | (with_reducible refine Kd.C_alloc ?_ _) | (with_reducible refine Kd.C_drewN ?_ _) | (with_reducible refine Kd.C_drew ?_))); (case aB => exact (Lam.al)); (case aF => exact (fun _ _ => trivial)); (case aO => exact (Lam.rq HO113.out)); (case aS => exact (below_size (Lam.al))); (case aL => have := LMc2.out; omega); intro v115 w5 ho hb hg hat; rw [← Ny114.out] at ho; have n0_ := Aside0.mk (hb); have n1_ := Aside0.mk (ho); clear HB; clear HO113; have HB := n0_; have HO116 := n1_; clear n0_ n1_; clear ho hb hg hat))
  go_ret
  exact ⟨_, by first | rfl | (simp [errW_none, errW_some] <;> rfl) | (simp [*, errW_none, errW_some] <;> rfl), by (with_reducible repeat (first | apply Kd.R_alloc | apply Kd.R_drewN | apply Kd.R_drew)); exact HO116.out, Lam.al⟩
 ·rw [if_neg c2] at H
  exact absurd H (by simp)

/-! ### spec_cmAll: function 65 -/
abbrev spec_cmAll.SS (gl : Nat) (vt : Value) : Nat → Prop := fun q => q = gl ∨ some q = vt.ownBlock
theorem spec_cmAll.notS {W : World} {gl base : Nat} {vt : Value} {acc : List (List Int)} {ok : Nat → Prop} {cx cs : Array Value} {q t : Nat} (hx : W.heap[gl]? = some (.cells cx 26 (0, 0))) (ht : Kd.S (Kd.slice 3 (Kd.int .i64)) 38 W base ok vt acc) (hq : W.heap[q]? = some (.cells cs t (0, 0))) (h1 : t ≠ 26) (h2 : t ≠ 38) : ¬ spec_cmAll.SS gl vt q := by
 rintro (rfl | h)
 ·rw [hx] at hq; cases hq; exact h1 rfl
 ·obtain ⟨inner, ho⟩ := Kd.S_own ht
  obtain ⟨cells, hc⟩ := own_typed ho q h.symm
  rw [hc] at hq; cases hq; exact h2 rfl
theorem spec_cmAll.keepR {w W : World} {gl base : Nat} {vt vb : Value} {acc : List (List Int)} {bg : List Int} {ok : Nat → Prop} {cx : Array Value} (hx : w.heap[gl]? = some (.cells cx 26 (0, 0))) (ht : Kd.S (Kd.slice 3 (Kd.int .i64)) 38 w base ok vt acc) (hb : Kd.R (Kd.int .i64) 3 w base (fun _ => True) vb bg) (hk : Kq.KQ w W (spec_cmAll.SS gl vt)) : Kd.R (Kd.int .i64) 3 W base (fun _ => True) vb bg :=
 Kd.R_mono (Kq.R_kq (Kd.R_bound hb) hk (fun k hk => by
  obtain ⟨_, _, _, q, hq, cells, hc⟩ := hk
  have hq : q = 3 := by simpa [Kd.int, Kd.scalar] using hq
  subst hq
  exact spec_cmAll.notS hx ht hc (by decide) (by decide))) (fun _ _ => trivial)
theorem spec_cmAll.thenS {w W W2 : World} {gl : Nat} {vt vt1 : Value} (h : Kq.KQ w W (spec_cmAll.SS gl vt)) (k : Kq.KQ W W2 (spec_cmAll.SS gl vt1)) (hat : vt1.ownBlock = vt.ownBlock ∨ ∃ b, vt1.ownBlock = some b ∧ w.heap.size ≤ b) : Kq.KQ w W2 (spec_cmAll.SS gl vt) :=
 h.then_ k (fun q hq => by
  rcases hq with hq | hq
  ·exact .inl (.inl hq)
  ·rcases hat with hat | ⟨b, hb, hle⟩
   ·exact .inl (.inr (by rw [hq, hat]))
   ·rw [hb] at hq; cases hq; exact .inr hle)
theorem spec_cmAll.atS {w W : World} {v0 v1 v2 : Value} (h : v1.ownBlock = v0.ownBlock ∨ ∃ b, v1.ownBlock = some b ∧ w.heap.size ≤ b) (hs : w.heap.size ≤ W.heap.size) (k : v2.ownBlock = v1.ownBlock ∨ ∃ b, v2.ownBlock = some b ∧ W.heap.size ≤ b) : v2.ownBlock = v0.ownBlock ∨ ∃ b, v2.ownBlock = some b ∧ w.heap.size ≤ b := by
 rcases k with k | ⟨b, hb, hle⟩
 ·rw [k]; exact h
 ·exact .inr ⟨b, hb, Nat.le_trans hs hle⟩
/-- Rows that are elder than a row made since lie apart from it. -/
theorem spec_cmAll.apartS {w W : World} {base : Nat} {vt vb : Value} {acc : List (List Int)} {ok : Nat → Prop} (h : Kd.S (Kd.slice 3 (Kd.int .i64)) 38 w base ok vt acc) (hb : Below w.heap.size w W) (hv : ∀ k, vb.ownBlock = some k → w.heap.size ≤ k) : Kd.S (Kd.slice 3 (Kd.int .i64)) 38 W base (fun q => some q ≠ vb.ownBlock) vt acc :=
 Kd.S_mono (Kd.S_below (Kd.S_bound h) hb) (fun k hk e => by have h1 := hv k e.symm; have h2 := hk.2.2.1; omega)
set_option maxHeartbeats 8000000 in
set_option maxRecDepth 100000 in
theorem spec_cmAll.rec : ∀ (k wide : Nat) (bg : List Int) (acc r : List (List Int)) (vb vt : Value) (gl base : Nat) (w : World),
  bg.length + k ≤ 1000 → wide ≤ 1000 → base ≤ w.heap.size →
  Kd.R (Kd.int .i64) 3 w base (fun _ => True) vb bg → w.heap[gl]? = some (.cells #[vt] 26 (0, 0)) → Kd.S (Kd.slice 3 (Kd.int .i64)) 38 w base (fun q => some q ≠ vb.ownBlock) vt acc →
  Comb.look k wide bg acc = some r →
  Calls Tryd.prog 103 #[.int .i64 wide, .int .i64 k, vb, .pointer (some ⟨gl, 0, none⟩)] w fun e w' => e = .returned (.tuple #[]) ∧ ∃ vt' : Value, w'.heap[gl]? = some (.cells #[vt'] 26 (0, 0)) ∧ Kd.S (Kd.slice 3 (Kd.int .i64)) 38 w' base (fun _ => True) vt' r ∧ (vt'.ownBlock = vt.ownBlock ∨ ∃ b, vt'.ownBlock = some b ∧ w.heap.size ≤ b) ∧ Kq.KQ w w' (spec_cmAll.SS gl vt) := by
 intro k
 induction k with
 | zero =>
  intro wide bg acc r vb vt gl base w hk hwd hbase hb hx ht h
  have hu38 := Tryd.underlying38
  have hw64 : (wide : Int) ≤ 9223372036854775806 := by omega
  obtain ⟨Ab, cb, rfl⟩ := Kd.R_slice hb
  obtain ⟨At, ct, rfl⟩ := Kd.S_slice ht
  have hacc : acc.length < 1000000000 := by
   rcases Nat.lt_or_ge acc.length 1000000000 with h2 | h2
   ·exact h2
   ·simp only [Comb.look] at h; rw [if_neg (by omega)] at h; cases h
  simp only [Comb.look] at h
  rw [if_pos hacc] at h
  have hcell : w.cell? ⟨gl, 0, none⟩ = some (.slice At acc.length ct) := (blk_cell hx 0).trans rfl
  have hfroz := blk_frozen hx 0
  have HG := Aside0.mk h
  have HCl := Aside0.mk hacc
  have HX := Aside0.mk hx
  have HRb := Aside0.mk hb
  have HRt := Aside0.mk ht
  have HS := Aside0.mk hbase
  have HL := Aside0.mk hk
  have HW := Aside0.mk hwd
  have hown : spec_l1Own.f bg = some bg := by unfold spec_l1Own.f; rw [Option.bind_some, List.length_nil, if_pos (by omega), List.nil_append]
  have HCALL := Aside0.mk (fun W (hW : Kq.KQ w W (spec_cmAll.SS gl (.slice At acc.length ct))) => spec_l1Own.calls Ab cb bg bg W (Kd.R_reads' (spec_cmAll.keepR hx ht hb hW)).2.2 (Kd.R_reads' hb).2.1 hown)
  clear hx hb ht h hacc hbase hk hown hwd
  rcases Nat.eq_zero_or_pos bg.length with c0 | c0
  ·obtain rfl : bg = [] := List.eq_nil_of_length_eq_zero c0
   have X1 := HX
   have K1 := Aside0.mk (Kq.KQ.refl w (spec_cmAll.SS gl (.slice At acc.length ct)))
   have R1 := Aside0.mk (Kd.S_mono HRt.out (fun _ _ => trivial) : Kd.S (Kd.slice 3 (Kd.int .i64)) 38 w base (fun _ => True) (.slice At acc.length ct) acc)
   have HG1 := Aside0.mk (show some (acc) = some r from HG.out)
   clear HG c0 hcell hfroz
   simp only [List.length_nil]
   go_enter Tryd.func103, Tryd.ntmps103
   go_wp2
   have T1 := Aside0.mk (Or.inl rfl : (Value.slice At acc.length ct).ownBlock = (Value.slice At acc.length ct).ownBlock ∨ ∃ b, (Value.slice At acc.length ct).ownBlock = some b ∧ w.heap.size ≤ b)
   (try simp only [Exit.inBlock, Exit.then])
   refine bodyPost_ret (results_none rfl _ _ _) rfl ?_
   obtain rfl := Option.some.inj HG1.out
   exact ⟨rfl, _, X1.out, R1.out, T1.out, K1.out⟩
  ·have cz : ¬ bg.length = 0 := by omega
   have cp : (0 : Int) < (bg.length : Int) := by omega
   have HG1 := Aside0.mk (show some (acc ++ [bg]) = some r from by have h := HG.out; simp only [Comb.put, if_neg cz] at h; exact h)
   clear HG c0 cz
   go_enter Tryd.func103, Tryd.ntmps103
   go_wp2_with (first
     | ((with_reducible refine gate_builtin (b := .append) (xs := #[.tmp 15, .tmp 17]) rfl ?_); at_builtin; go_loud (refine Kd.S_append (Kd.slice 3 (Kd.int .i64)) (w0 := w) base rfl (.tmp 15) (.tmp 17) 26 38 (.slice none 0 0) 24 rfl Tryd.underlying26 info38 rfl (by decide) (by omega) (.slice At acc.length ct) acc bg [.slice Ab bg.length cb] (fun _ => True) (fun k => some k = (Value.slice Ab bg.length cb).ownBlock) rfl rfl ?aP ?aK (fun _ _ => trivial) ?aO (Below.refl _ _) HS.out ?aL ?_); (case aP => exact Kd.M_row (Kd.R_mono (Kd.R_tight rfl HRb.out) (fun _ h => h))); (case aK => exact fun k hk => (Kd.R_apart' HRb.out (Kd.S_typed HRt.out) (by decide)).1 k hk.symm); (case aO => exact Kd.S_mono HRt.out (fun k hk => ⟨trivial, hk⟩)); (case aL => have := HCl.out; omega); intro v1 w1 ho1 hb1 hg1 hat1; obtain ⟨A1, c1, e1⟩ := Kd.S_slice ho1; rw [List.length_append, List.length_singleton] at e1; subst e1; have x1 := blk_grown HX.out hg1 (Kd.S_ne HRt.out HX.out (by decide)); have hcl1 : w1.cell? ⟨gl, 0, none⟩ = some (.slice At acc.length ct) := (blk_cell x1 0).trans rfl; have hfl1 := blk_frozen x1 0; have X1 := Aside0.mk (blk_put (cs := #[.slice At acc.length ct]) x1 0 (.slice A1 (acc.length + 1) c1) rfl); have R1 := Aside0.mk (Kd.S_set ho1 x1 (by simp [Kd.slice, Kd.int, Kd.scalar]) 0 (.slice A1 (acc.length + 1) c1)); have T1 := Aside0.mk hat1; have K1 : Aside0 (Kq.KQ w (w1.setCell ⟨gl, 0, none⟩ (.slice A1 (acc.length + 1) c1)) (spec_cmAll.SS gl (.slice At acc.length ct))) := ⟨Kq.KQ.setCell ⟨⟨hg1.size, fun k hk hs => hg1.block k hk (fun e => hs (.inr e))⟩, hg1.os, hg1.tape, hg1.output⟩ (.inl (.inl rfl)) _⟩; clear hcell hfroz ho1 hb1 hg1 hat1 x1))
   clear hcl1 hfl1
   generalize (w1.setCell ⟨gl, 0, none⟩ (.slice A1 (acc.length + 1) c1)) = w2 at X1 R1 T1 K1 ⊢
   (try simp only [Exit.inBlock, Exit.then])
   refine bodyPost_ret (results_none rfl _ _ _) rfl ?_
   obtain rfl := Option.some.inj HG1.out
   exact ⟨rfl, _, X1.out, R1.out, T1.out, K1.out⟩
 | succ k ih =>
  have IH := Aside0.mk ih
  intro wide bg acc r vb vt gl base w hk hwd hbase hb hx ht h
  have hu38 := Tryd.underlying38
  have hw64 : (wide : Int) ≤ 9223372036854775806 := by omega
  obtain ⟨kz, hkz⟩ : ∃ kz : Int, kz = ((k + 1 : Nat) : Int) := ⟨_, rfl⟩
  rw [← hkz]
  have hk0 : ¬ kz = 0 := by omega
  have hk1 : (1 : Int) ≤ kz := by omega
  have hk2 : kz ≤ 1001 := by omega
  have HKZ := Aside0.mk hkz
  clear hkz
  obtain ⟨Ab, cb, rfl⟩ := Kd.R_slice hb
  obtain ⟨At, ct, rfl⟩ := Kd.S_slice ht
  have hacc : acc.length < 1000000000 := by
   rcases Nat.lt_or_ge acc.length 1000000000 with h2 | h2
   ·exact h2
   ·simp only [Comb.look] at h; rw [if_neg (by omega)] at h; cases h
  simp only [Comb.look] at h
  rw [if_pos hacc] at h
  have hcell : w.cell? ⟨gl, 0, none⟩ = some (.slice At acc.length ct) := (blk_cell hx 0).trans rfl
  have hfroz := blk_frozen hx 0
  have HG := Aside0.mk h
  have HCl := Aside0.mk hacc
  have HX := Aside0.mk hx
  have HRb := Aside0.mk hb
  have HRt := Aside0.mk ht
  have HS := Aside0.mk hbase
  have HL := Aside0.mk hk
  have HW := Aside0.mk hwd
  have hown : spec_l1Own.f bg = some bg := by unfold spec_l1Own.f; rw [Option.bind_some, List.length_nil, if_pos (by omega), List.nil_append]
  have HCALL := Aside0.mk (fun W (hW : Kq.KQ w W (spec_cmAll.SS gl (.slice At acc.length ct))) => spec_l1Own.calls Ab cb bg bg W (Kd.R_reads' (spec_cmAll.keepR hx ht hb hW)).2.2 (Kd.R_reads' hb).2.1 hown)
  clear ih hx hb ht h hacc hbase hk hown hwd
  rcases Nat.eq_zero_or_pos bg.length with c0 | c0
  ·obtain rfl : bg = [] := List.eq_nil_of_length_eq_zero c0
   have X1 := HX
   have K1 := Aside0.mk (Kq.KQ.refl w (spec_cmAll.SS gl (.slice At acc.length ct)))
   have R1 := Aside0.mk (Kd.S_mono HRt.out (fun _ _ => trivial) : Kd.S (Kd.slice 3 (Kd.int .i64)) 38 w base (fun _ => True) (.slice At acc.length ct) acc)
   have HG1 := Aside0.mk (show Comb.go (Comb.look k) [] wide 1 acc = some r from HG.out)
   clear HG c0 hcell hfroz
   simp only [List.length_nil]
   go_enter Tryd.func103, Tryd.ntmps103
   go_wp2
   have T1 := Aside0.mk (Or.inl rfl : (Value.slice At acc.length ct).ownBlock = (Value.slice At acc.length ct).ownBlock ∨ ∃ b, (Value.slice At acc.length ct).ownBlock = some b ∧ w.heap.size ≤ b)
   go_loopg [8] wide (fun gg v w' => ∃ (kk : Nat) (acc1 : List (List Int)) (vt1 : Value), 1 ≤ kk ∧ kk ≤ wide + 1 ∧ wide + 1 - kk ≤ gg ∧ v = .int .i64 kk ∧ Aside0 (Comb.go (Comb.look k) [] (wide + 1 - kk) kk acc1 = some r) ∧ Aside0 (w'.heap[gl]? = some (.cells #[vt1] 26 (0, 0))) ∧ Aside0 (Kd.S (Kd.slice 3 (Kd.int .i64)) 38 w' base (fun _ => True) vt1 acc1) ∧ Aside0 (vt1.ownBlock = (Value.slice At acc.length ct).ownBlock ∨ ∃ b, vt1.ownBlock = some b ∧ w.heap.size ≤ b) ∧ Aside0 (Kq.KQ w w' (spec_cmAll.SS gl (.slice At acc.length ct))))
   case atStart => exact ⟨1, _, _, Nat.le_refl _, by omega, by omega, rfl, ⟨HG1.out⟩, X1, R1, T1, K1⟩
   case round =>
    clear X1 R1 T1 K1 HG1
    obtain ⟨kk, acc1, vt1, hk1, hkk, hgg, rfl, HG, HX1, HR1, HT1, HK1⟩ := hrel
    by_cases hlt : kk ≤ wide
    ·have hltz : (kk : Int) ≤ (wide : Int) := by omega
     obtain ⟨m, hm⟩ : ∃ m, wide + 1 - kk = m + 1 := ⟨wide - kk, by omega⟩
     have H := HG.out
     rw [hm] at H
     simp only [Comb.go] at H
     obtain ⟨t, ht_, H⟩ := Option.bind_eq_some_iff.mp H
     have HT := Aside0.mk ht_
     have HG2 := Aside0.mk H
     clear HG ht_ H
     go_wp2_with (first
      | (go_at_call 127; go_loud (refine (HCALL.out _ HK1.out).mono ?_; rintro e wc ⟨vo, rfl, ho, hbc⟩); have HO := Aside0.mk ho; have HBc := Aside0.mk hbc; clear ho hbc)
      | ((with_reducible refine gate_builtin (b := .append) (xs := #[.tmp 31, .tmp 33]) rfl ?_); at_builtin; go_loud (refine Kd.R_append (Kd.int .i64) (w0 := wr) wr.heap.size rfl (.tmp 31) (.tmp 33) 38 3 (.int .i64 0) 8 rfl hu38 info3 rfl (by decide) (by omega) vo [] (kk : Int) [.int .i64 (kk : Int)] (fun _ => True) (fun _ => False) rfl rfl ?aP (fun _ hk => hk.elim) (fun _ _ => trivial) HO.out HBc.out HBc.out.size ?aL ?_); (case aP => exact rfl); (case aL => have := HL.out; omega); intro v3 w3 ho3 hb3 hg3 hat3; obtain ⟨A3, c3, e3⟩ := Kd.R_slice ho3; rw [List.length_append, List.length_singleton] at e3; subst e3; have K3 := Aside0.mk (Kq.KQ.below HK1.out hb3); have HO3 := Aside0.mk ho3; have HB3 := Aside0.mk hb3; clear HO HBc ho3 hb3 hg3 hat3)
      | (go_at_call 103; rw [show kz - 1 = (k : Int) from by have := HKZ.out; omega]; go_loud (refine (IH.out kk ([] ++ [(kk : Int)]) acc1 t (.slice A3 (0 + 1) c3) vt1 gl base w3 (by have := HL.out; simp only [List.length_append, List.length_singleton]; omega) (by have := HW.out; omega) (Nat.le_trans HS.out K3.out.size) (Kd.R_lower HO3.out (Nat.le_trans HS.out HK1.out.size)) (blk_below HX1.out HB3.out) (spec_cmAll.apartS HR1.out HB3.out (Kd.R_base HO3.out)) HT.out).mono ?_; rintro e w5 ⟨rfl, vt2, hx5, hr5, ht5, hk5⟩); have HX2 := Aside0.mk hx5; have HR2 := Aside0.mk hr5; have HT2 := Aside0.mk (spec_cmAll.atS HT1.out K3.out.size ht5); have HK2 := Aside0.mk (spec_cmAll.thenS K3.out hk5 HT1.out); clear hx5 hr5 ht5 hk5 HX1 HR1 HK1 K3 HO3 HB3))
     go_roundg (wide + 1 - (kk + 1))
     case measure => omega
     case rel => exact ⟨kk + 1, t, vt2, by omega, by omega, by omega, by go_num, ⟨by rw [show wide + 1 - (kk + 1) = m by omega]; exact HG2.out⟩, HX2, HR2, HT2, HK2⟩
    ·obtain rfl : kk = wide + 1 := by omega
     have H := HG.out
     rw [Nat.sub_self] at H
     simp only [Comb.go] at H
     obtain rfl := Option.some.inj H
     clear HG H
     have hltz : ¬ ((wide + 1 : Nat) : Int) ≤ (wide : Int) := by omega
     go_wp2
     go_end0
     exact ⟨rfl, vt1, HX1.out, HR1.out, HT1.out, HK1.out⟩
  ·have cz : ¬ bg.length = 0 := by omega
   have cp : (0 : Int) < (bg.length : Int) := by omega
   have HG1 := Aside0.mk (show Comb.go (Comb.look k) bg wide 1 (acc ++ [bg]) = some r from by have h := HG.out; simp only [Comb.put, if_neg cz] at h; exact h)
   clear HG c0 cz
   go_enter Tryd.func103, Tryd.ntmps103
   go_wp2_with (first
     | ((with_reducible refine gate_builtin (b := .append) (xs := #[.tmp 15, .tmp 17]) rfl ?_); at_builtin; go_loud (refine Kd.S_append (Kd.slice 3 (Kd.int .i64)) (w0 := w) base rfl (.tmp 15) (.tmp 17) 26 38 (.slice none 0 0) 24 rfl Tryd.underlying26 info38 rfl (by decide) (by omega) (.slice At acc.length ct) acc bg [.slice Ab bg.length cb] (fun _ => True) (fun k => some k = (Value.slice Ab bg.length cb).ownBlock) rfl rfl ?aP ?aK (fun _ _ => trivial) ?aO (Below.refl _ _) HS.out ?aL ?_); (case aP => exact Kd.M_row (Kd.R_mono (Kd.R_tight rfl HRb.out) (fun _ h => h))); (case aK => exact fun k hk => (Kd.R_apart' HRb.out (Kd.S_typed HRt.out) (by decide)).1 k hk.symm); (case aO => exact Kd.S_mono HRt.out (fun k hk => ⟨trivial, hk⟩)); (case aL => have := HCl.out; omega); intro v1 w1 ho1 hb1 hg1 hat1; obtain ⟨A1, c1, e1⟩ := Kd.S_slice ho1; rw [List.length_append, List.length_singleton] at e1; subst e1; have x1 := blk_grown HX.out hg1 (Kd.S_ne HRt.out HX.out (by decide)); have hcl1 : w1.cell? ⟨gl, 0, none⟩ = some (.slice At acc.length ct) := (blk_cell x1 0).trans rfl; have hfl1 := blk_frozen x1 0; have X1 := Aside0.mk (blk_put (cs := #[.slice At acc.length ct]) x1 0 (.slice A1 (acc.length + 1) c1) rfl); have R1 := Aside0.mk (Kd.S_set ho1 x1 (by simp [Kd.slice, Kd.int, Kd.scalar]) 0 (.slice A1 (acc.length + 1) c1)); have T1 := Aside0.mk hat1; have K1 : Aside0 (Kq.KQ w (w1.setCell ⟨gl, 0, none⟩ (.slice A1 (acc.length + 1) c1)) (spec_cmAll.SS gl (.slice At acc.length ct))) := ⟨Kq.KQ.setCell ⟨⟨hg1.size, fun k hk hs => hg1.block k hk (fun e => hs (.inr e))⟩, hg1.os, hg1.tape, hg1.output⟩ (.inl (.inl rfl)) _⟩; clear hcell hfroz ho1 hb1 hg1 hat1 x1))
   clear hcl1 hfl1
   generalize (w1.setCell ⟨gl, 0, none⟩ (.slice A1 (acc.length + 1) c1)) = w2 at X1 R1 T1 K1 ⊢
   go_loopg [8] wide (fun gg v w' => ∃ (kk : Nat) (acc1 : List (List Int)) (vt1 : Value), 1 ≤ kk ∧ kk ≤ wide + 1 ∧ wide + 1 - kk ≤ gg ∧ v = .int .i64 kk ∧ Aside0 (Comb.go (Comb.look k) bg (wide + 1 - kk) kk acc1 = some r) ∧ Aside0 (w'.heap[gl]? = some (.cells #[vt1] 26 (0, 0))) ∧ Aside0 (Kd.S (Kd.slice 3 (Kd.int .i64)) 38 w' base (fun _ => True) vt1 acc1) ∧ Aside0 (vt1.ownBlock = (Value.slice At acc.length ct).ownBlock ∨ ∃ b, vt1.ownBlock = some b ∧ w.heap.size ≤ b) ∧ Aside0 (Kq.KQ w w' (spec_cmAll.SS gl (.slice At acc.length ct))))
   case atStart => exact ⟨1, _, _, Nat.le_refl _, by omega, by omega, rfl, ⟨HG1.out⟩, X1, R1, T1, K1⟩
   case round =>
    clear X1 R1 T1 K1 HG1
    obtain ⟨kk, acc1, vt1, hk1, hkk, hgg, rfl, HG, HX1, HR1, HT1, HK1⟩ := hrel
    by_cases hlt : kk ≤ wide
    ·have hltz : (kk : Int) ≤ (wide : Int) := by omega
     obtain ⟨m, hm⟩ : ∃ m, wide + 1 - kk = m + 1 := ⟨wide - kk, by omega⟩
     have H := HG.out
     rw [hm] at H
     simp only [Comb.go] at H
     obtain ⟨t, ht_, H⟩ := Option.bind_eq_some_iff.mp H
     have HT := Aside0.mk ht_
     have HG2 := Aside0.mk H
     clear HG ht_ H
     go_wp2_with (first
      | (go_at_call 127; go_loud (refine (HCALL.out _ HK1.out).mono ?_; rintro e wc ⟨vo, rfl, ho, hbc⟩); have HO := Aside0.mk ho; have HBc := Aside0.mk hbc; clear ho hbc)
      | ((with_reducible refine gate_builtin (b := .append) (xs := #[.tmp 31, .tmp 33]) rfl ?_); at_builtin; go_loud (refine Kd.R_append (Kd.int .i64) (w0 := wr) wr.heap.size rfl (.tmp 31) (.tmp 33) 38 3 (.int .i64 0) 8 rfl hu38 info3 rfl (by decide) (by omega) vo bg (kk : Int) [.int .i64 (kk : Int)] (fun _ => True) (fun _ => False) rfl rfl ?aP (fun _ hk => hk.elim) (fun _ _ => trivial) HO.out HBc.out HBc.out.size ?aL ?_); (case aP => exact rfl); (case aL => have := HL.out; omega); intro v3 w3 ho3 hb3 hg3 hat3; obtain ⟨A3, c3, e3⟩ := Kd.R_slice ho3; rw [List.length_append, List.length_singleton] at e3; subst e3; have K3 := Aside0.mk (Kq.KQ.below HK1.out hb3); have HO3 := Aside0.mk ho3; have HB3 := Aside0.mk hb3; clear HO HBc ho3 hb3 hg3 hat3)
      | (go_at_call 103; rw [show kz - 1 = (k : Int) from by have := HKZ.out; omega]; go_loud (refine (IH.out kk (bg ++ [(kk : Int)]) acc1 t (.slice A3 (bg.length + 1) c3) vt1 gl base w3 (by have := HL.out; simp only [List.length_append, List.length_singleton]; omega) (by have := HW.out; omega) (Nat.le_trans HS.out K3.out.size) (Kd.R_lower HO3.out (Nat.le_trans HS.out HK1.out.size)) (blk_below HX1.out HB3.out) (spec_cmAll.apartS HR1.out HB3.out (Kd.R_base HO3.out)) HT.out).mono ?_; rintro e w5 ⟨rfl, vt2, hx5, hr5, ht5, hk5⟩); have HX2 := Aside0.mk hx5; have HR2 := Aside0.mk hr5; have HT2 := Aside0.mk (spec_cmAll.atS HT1.out K3.out.size ht5); have HK2 := Aside0.mk (spec_cmAll.thenS K3.out hk5 HT1.out); clear hx5 hr5 ht5 hk5 HX1 HR1 HK1 K3 HO3 HB3))
     go_roundg (wide + 1 - (kk + 1))
     case measure => omega
     case rel => exact ⟨kk + 1, t, vt2, by omega, by omega, by omega, by go_num, ⟨by rw [show wide + 1 - (kk + 1) = m by omega]; exact HG2.out⟩, HX2, HR2, HT2, HK2⟩
    ·obtain rfl : kk = wide + 1 := by omega
     have H := HG.out
     rw [Nat.sub_self] at H
     simp only [Comb.go] at H
     obtain rfl := Option.some.inj H
     clear HG H
     have hltz : ¬ ((wide + 1 : Nat) : Int) ≤ (wide : Int) := by omega
     go_wp2
     go_end0
     exact ⟨rfl, vt1, HX1.out, HR1.out, HT1.out, HK1.out⟩
def spec_cmAll.f (a0 : Int) (a1 : Int) : Option ((List (List Int))) := if 0 ≤ a0 ∧ a0 ≤ 1000 ∧ 0 ≤ a1 ∧ a1 ≤ 1000 then Comb.look a1.toNat a0.toNat [] [] else none
set_option maxHeartbeats 8000000 in
set_option maxRecDepth 100000 in
theorem spec_cmAll.calls (a0 : Int) (a1 : Int) (r : List (List Int)) (w : World) (h : spec_cmAll.f a0 a1 = some r) :
  Calls Tryd.prog 65 #[.int .i64 a0, .int .i64 a1] w fun e w' => ∃ v0_ : Value, e = .returned (v0_) ∧ Kd.S (Kd.slice 3 (Kd.int .i64)) 38 w' w.heap.size (fun _ => True) v0_ r ∧ Below w.heap.size w w' := by
 have hc : 0 ≤ a0 ∧ a0 ≤ 1000 ∧ 0 ≤ a1 ∧ a1 ≤ 1000 := by
  by_cases hc : 0 ≤ a0 ∧ a0 ≤ 1000 ∧ 0 ≤ a1 ∧ a1 ≤ 1000
  ·exact hc
  ·simp only [spec_cmAll.f, if_neg hc] at h; cases h
 simp only [spec_cmAll.f, if_pos hc] at h
 obtain ⟨wide, rfl⟩ := Int.eq_ofNat_of_zero_le hc.1
 obtain ⟨high, rfl⟩ := Int.eq_ofNat_of_zero_le hc.2.2.1
 rw [Int.toNat_natCast, Int.toNat_natCast] at h
 have HT := Aside0.mk h
 have HC := Aside0.mk hc
 have HB := Aside0.mk (Below.refl w.heap.size w)
 clear h hc
 go_enter Tryd.func65, Tryd.ntmps65
 go_wp2_with (first
  | ((with_reducible refine gate_dst (N := 5) rfl ?_); refine box_event ?hg (N := 5) ?hd (cs := #[.slice none 0 0]) (t := 26) ?hr ?_; (case hd => rfl); (case hg => rfl); (case hr => first | (go_simp; done) | (go_simp; rfl)); intro g3 hg w3 hbox hb; have G3 := Aside0.mk ((by rw [hg]; exact HB.out.size) : w.heap.size ≤ g3); have n0_ := Aside0.mk (below_step HB.out hb); clear HB; have HB := n0_; clear n0_; have B3 := Aside0.mk hbox; clear hb hbox hg)
  | (go_at_call 103; go_loud (refine (spec_cmAll.rec high wide [] [] r (.slice none 0 0) (.slice none 0 0) g3 w.heap.size w3 (by have := HC.out; simp; omega) (by have := HC.out; omega) HB.out.size (Kd.R_nil _ _ _ _ _) B3.out (Kd.S_nil _ _ _ _ _) HT.out).mono ?_; rintro e w7 ⟨rfl, vt, hx, hr, _, hk⟩); have n0_ := Aside0.mk (Kq.KQ.to_below HB.out hk (fun q hq => by rcases hq with rfl | hq; exact G3.out; simp [Value.ownBlock] at hq)); have hcv : w7.cell? ⟨g3, 0, none⟩ = some vt := (blk_cell hx 0).trans rfl; have HR := Aside0.mk hr; clear HB hr hk hx; have HB := n0_; clear n0_))
 go_ret
 exact ⟨_, rfl, HR.out, HB.out⟩

/-! ### spec_cmKey: function 105 -/
def spec_cmKey.l0 : Nat → List Int → Int → Int → Option (Int)
 | 0, _, _, _ => none
 | k + 1, x0, x3, x4 => if x4 < 6 then (if x4 < (x0.length : Int) then (if 0 ≤ x4 then (spec_cmKey.l0 k x0 (wrap64 ((wrap64 (x3 * 7)) + (rd x0 x4))) (wrap64 (x4 + 1))) else (none)) else (spec_cmKey.l0 k x0 (wrap64 (x3 * 7)) (wrap64 (x4 + 1)))) else (some x3)
def spec_cmKey.f (k : Nat) (l0 : List Int) : Option (Int) := spec_cmKey.l0 k l0 0 0
theorem spec_cmKey.mono_l : ∀ k, (∀ y0 y1 y2, LeO (spec_cmKey.l0 k y0 y1 y2) (spec_cmKey.l0 (k + 1) y0 y1 y2))
 | 0 => fun _ _ _ r h => by simp [spec_cmKey.l0] at h
 | k + 1 => by
  have ih0 := spec_cmKey.mono_l k
  ·intro y0 y1 y2
   unfold spec_cmKey.l0
   repeat' first
   | (with_reducible exact ih0 _ _ _)
   | (with_reducible exact LeO.refl _)
   | (with_reducible exact LeO.none _)
   | (with_reducible refine LeO.ite ?_ ?_)
   | (with_reducible refine LeO.bind ?_ (fun _ => ?_))
   | exact ih0 _ _ _
   | exact LeO.none _
   | refine LeO.ite ?_ ?_
   | refine LeO.bind ?_ (fun _ => ?_)
theorem spec_cmKey.mono : ∀ a0 k, LeO (spec_cmKey.f k a0) (spec_cmKey.f (k + 1) a0) := by
 intro a0 k
 have ih0 := spec_cmKey.mono_l k
 unfold spec_cmKey.f
 repeat' first
   | (with_reducible exact ih0 _ _ _)
   | (with_reducible exact LeO.refl _)
   | (with_reducible exact LeO.none _)
   | (with_reducible refine LeO.ite ?_ ?_)
   | (with_reducible refine LeO.bind ?_ (fun _ => ?_))
   | exact ih0 _ _ _
   | exact LeO.none _
   | refine LeO.ite ?_ ?_
   | refine LeO.bind ?_ (fun _ => ?_)
set_option maxHeartbeats 8000000 in
set_option maxRecDepth 100000 in
theorem spec_cmKey.calls (k : Nat) (A0 : Option Addr) (c0 : Nat) (l0 : List Int) (r : Int) (w : World) (hr0 : Kd.C (Kd.int .i64) w A0 l0.length l0) (hc0 : l0.length ≤ c0) (h : spec_cmKey.f k l0 = some r) :
  Calls Tryd.prog 105 #[.slice A0 l0.length c0] w fun e w' => e = .returned (.int .i64 r) ∧ Drawn0 w w' := by
 have HR0 := Aside0.mk hr0
 have HC0 := Aside0.mk hc0
 clear hr0 hc0
 have H : (spec_cmKey.l0 k l0 0 0) = some r := h
 clear h
 have H' := Aside0.mk H
 clear H
 go_enter Tryd.func105, Tryd.ntmps105
 go_wp2
 go_loopg [3, 4] k (fun kq v3 v4 w' => ∃ (x3_1 : Int) (x4_1 : Int), v3 = .int .i64 x3_1 ∧ v4 = .int .i64 x4_1 ∧ Aside0 (spec_cmKey.l0 kq l0 x3_1 x4_1 = some r) ∧ Aside0 (kq ≤ k) ∧ Drawn0 w w')
 case atStart => exact ⟨(0), (0), (by first | rfl | (simp; done) | (simp [*]; done)), (by first | rfl | (simp; done) | (simp [*]; done)), H', ⟨Nat.le_refl _⟩, by repeat (first | exact Drawn0.refl _ | apply Drawn0.step)⟩
 case round =>
  clear H'
  try clear c1
  obtain ⟨x3_1, x4_1, rfl, rfl, HA, HK1, ⟨m1, rfl⟩⟩ := hrel
  cases gk with
  | zero => exact absurd HA.out (by simp [spec_cmKey.l0])
  | succ k1 =>
   have H := HA.out
   clear HA
   simp only [spec_cmKey.l0] at H
   by_cases c2 : x4_1 < 6
   ·rw [if_pos c2] at H
    have c2b0 : decide (x4_1 < 6) = true := decide_eq_true c2
    clear c2
    by_cases c3 : x4_1 < (l0.length : Int)
    ·rw [if_pos c3] at H
     have c3b0 : decide (x4_1 < (l0.length : Int)) = true := decide_eq_true c3
     clear c3
     by_cases c4 : 0 ≤ x4_1
     ·rw [if_pos c4] at H
      have c4b0 : decide (0 ≤ x4_1) = true := decide_eq_true c4
      clear c4
      have H' := Aside0.mk H
      clear H
      have p117 : 0 ≤ (x4_1 : Int) := of_decide_eq_true (by first | (with_reducible assumption) | assumption)
      have q117 : x4_1 < (l0.length : Int) := of_decide_eq_true (by first | (with_reducible assumption) | assumption)
      obtain ⟨ad117, e117, hx117_0⟩ := Kd.at_int HR0.out x4_1 p117 q117
      cases e117
      replace p117 := eq_true p117
      replace q117 := eq_true q117
      go_wp2
      go_roundg k1
      case measure => have := HK1.out; omega
      case rel => exact ⟨(wrap64 ((wrap64 (x3_1 * 7)) + (rd l0 x4_1))), (wrap64 (x4_1 + 1)), (by first | rfl | (simp; done) | (simp [*]; done)), (by first | rfl | (simp; done) | (simp [*]; done)), H', ⟨by have := HK1.out; omega⟩, by repeat (first | exact Drawn0.refl _ | apply Drawn0.step)⟩
     ·rw [if_neg c4] at H
      exact absurd H (by simp)
    ·rw [if_neg c3] at H
     have c3b0 : decide (x4_1 < (l0.length : Int)) = false := decide_eq_false c3
     clear c3
     have H' := Aside0.mk H
     clear H
     go_wp2
     go_roundg k1
     case measure => have := HK1.out; omega
     case rel => exact ⟨(wrap64 (x3_1 * 7)), (wrap64 (x4_1 + 1)), (by first | rfl | (simp; done) | (simp [*]; done)), (by first | rfl | (simp; done) | (simp [*]; done)), H', ⟨by have := HK1.out; omega⟩, by repeat (first | exact Drawn0.refl _ | apply Drawn0.step)⟩
   ·rw [if_neg c2] at H
    have c2b0 : decide (x4_1 < 6) = false := decide_eq_false c2
    clear c2
    obtain rfl := Option.some.inj H
    go_wp2
    go_ret
    exact ⟨by first | rfl | (simp; done) | (simp [*]; done), by repeat (first | exact Drawn0.refl _ | apply Drawn0.step)⟩

end Go.Proofs.YtdikeggkfkkajaaDoor.PFnExactSolutions
