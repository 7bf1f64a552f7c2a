-- Made by a program of this session (wip/xprint.py) out of the translation.
import Derived.Test.YtdikeggkfkkajaaPFnBreaksKeptx0
import Derived.Test.YtdikeggkfkkajaaPFnBreaksKeptx2
import Derived.Test.YtdikeggkfkkajaaPFnBreaksKeptx3
import Derived.Test.YtdikeggkfkkajaaPFnBreaksKeptx7
namespace Go.Proofs.Ytdikeggkfkkajaa.PFnBreaksKept
open Go.RowKit Go.Proofs.YtdikeggkfkkajaaW.PrintWords Go.Proofs.YtdikeggkfkkajaaW.PrintLast Go.Proofs.YtdikeggkfkkajaaW.PrintMore
attribute [local go_sem] max2_int min2_int max_two min_two max_three min_three max_four min_four   -- for this text's walks alone
set_option linter.unusedVariables false
set_option linter.unusedSimpArgs false

/-! ### impl_FirstGoodSeveral: function 31 -/
mutual
def impl_FirstGoodSeveral.l0 : Nat → List (S32) → List (S32) → Int → Int → Option (Int × Int × Int × Bool)
 | 0, _, _, _, _ => none
 | k + 1, x0, x13, x14, x15 => if x15 < x14 then (if 0 ≤ x15 then (if x15 < (x13.length : Int) then ((impl_keptMoves.f k ((rd_T32 x13 x15).f0) ((rd_T32 x13 x15).f1)).bind fun t270 => (impl_FirstGoodSeveral.l1 k x0 x15 x13 x14 x15 t270 (t270.length : Int) 0 ((rd_T32 x13 x15).f0) ((rd_T32 x13 x15).f1))) else (none)) else (none)) else (some (0, 0, 0, false))
def impl_FirstGoodSeveral.l1 : Nat → List (S32) → Int → List (S32) → Int → Int → List (S32) → Int → Int → Int → Int → Option (Int × Int × Int × Bool)
 | 0, _, _, _, _, _, _, _, _, _, _ => none
 | k + 1, x0, x5, x13, x14, x15, x21, x22, x23, x270000, x270001 => if x23 < x22 then (if 0 ≤ x23 then (if x23 < (x21.length : Int) then ((impl_keptHeaps.f k x0).bind fun t275 => ((impl_keptHeap.f x270000 x270001).bind fun t276 => ((impl_keptHeap.f ((rd_T32 x21 x23).f0) ((rd_T32 x21 x23).f1)).bind fun t277 => (if (Go.bits .xor .i64 (Go.bits .xor .i64 t275 t276) t277) = 0 then (some (x5, (rd_T32 x21 x23).f0, (rd_T32 x21 x23).f1, true)) else (impl_FirstGoodSeveral.l1 k x0 x5 x13 x14 x15 x21 x22 (wrap64 (x23 + 1)) x270000 x270001))))) else (none)) else (none)) else (impl_FirstGoodSeveral.l0 k x0 x13 x14 (wrap64 (x15 + 1)))
end
def impl_FirstGoodSeveral.f (k : Nat) (l0 : List (S32)) : Option (Int × Int × Int × Bool) := (impl_areSeveral.f l0).bind fun t267 => (if t267 = true then (impl_FirstGoodSeveral.l0 k l0 l0 (l0.length : Int) 0) else (some (0, 0, 0, false)))
theorem impl_FirstGoodSeveral.mono_l : ∀ k, (∀ y0 y1 y2 y3, LeO (impl_FirstGoodSeveral.l0 k y0 y1 y2 y3) (impl_FirstGoodSeveral.l0 (k + 1) y0 y1 y2 y3)) ∧ (∀ y0 y1 y2 y3 y4 y5 y6 y7 y8 y9, LeO (impl_FirstGoodSeveral.l1 k y0 y1 y2 y3 y4 y5 y6 y7 y8 y9) (impl_FirstGoodSeveral.l1 (k + 1) y0 y1 y2 y3 y4 y5 y6 y7 y8 y9))
 | 0 => ⟨fun _ _ _ _ r h => by simp [impl_FirstGoodSeveral.l0] at h, fun _ _ _ _ _ _ _ _ _ _ r h => by simp [impl_FirstGoodSeveral.l1] at h⟩
 | k + 1 => by
  obtain ⟨ih0, ih1⟩ := impl_FirstGoodSeveral.mono_l k
  refine ⟨?_, ?_⟩
  ·intro y0 y1 y2 y3
   unfold impl_FirstGoodSeveral.l0
   repeat' first
   | (with_reducible exact ih0 _ _ _ _)
   | (with_reducible exact ih1 _ _ _ _ _ _ _ _ _ _)
   | (with_reducible exact impl_keptHeaps.mono _ _)
   | (with_reducible exact impl_keptMoves.mono _ _ _)
   | (with_reducible exact LeO.refl _)
   | (with_reducible exact LeO.none _)
   | (with_reducible refine LeO.ite ?_ ?_)
   | (with_reducible refine LeO.bind ?_ (fun _ => ?_))
   | exact ih0 _ _ _ _
   | exact ih1 _ _ _ _ _ _ _ _ _ _
   | exact impl_keptHeaps.mono _ _
   | exact impl_keptMoves.mono _ _ _
   | exact LeO.none _
   | refine LeO.ite ?_ ?_
   | refine LeO.bind ?_ (fun _ => ?_)
  ·intro y0 y1 y2 y3 y4 y5 y6 y7 y8 y9
   unfold impl_FirstGoodSeveral.l1
   repeat' first
   | (with_reducible exact ih0 _ _ _ _)
   | (with_reducible exact ih1 _ _ _ _ _ _ _ _ _ _)
   | (with_reducible exact impl_keptHeaps.mono _ _)
   | (with_reducible exact impl_keptMoves.mono _ _ _)
   | (with_reducible exact LeO.refl _)
   | (with_reducible exact LeO.none _)
   | (with_reducible refine LeO.ite ?_ ?_)
   | (with_reducible refine LeO.bind ?_ (fun _ => ?_))
   | exact ih0 _ _ _ _
   | exact ih1 _ _ _ _ _ _ _ _ _ _
   | exact impl_keptHeaps.mono _ _
   | exact impl_keptMoves.mono _ _ _
   | exact LeO.none _
   | refine LeO.ite ?_ ?_
   | refine LeO.bind ?_ (fun _ => ?_)
theorem impl_FirstGoodSeveral.mono : ∀ a0 k, LeO (impl_FirstGoodSeveral.f k a0) (impl_FirstGoodSeveral.f (k + 1) a0) := by
 intro a0 k
 obtain ⟨ih0, ih1⟩ := impl_FirstGoodSeveral.mono_l k
 unfold impl_FirstGoodSeveral.f
 repeat' first
   | (with_reducible exact ih0 _ _ _ _)
   | (with_reducible exact ih1 _ _ _ _ _ _ _ _ _ _)
   | (with_reducible exact impl_keptHeaps.mono _ _)
   | (with_reducible exact impl_keptMoves.mono _ _ _)
   | (with_reducible exact LeO.refl _)
   | (with_reducible exact LeO.none _)
   | (with_reducible refine LeO.ite ?_ ?_)
   | (with_reducible refine LeO.bind ?_ (fun _ => ?_))
   | exact ih0 _ _ _ _
   | exact ih1 _ _ _ _ _ _ _ _ _ _
   | exact impl_keptHeaps.mono _ _
   | exact impl_keptMoves.mono _ _ _
   | exact LeO.none _
   | refine LeO.ite ?_ ?_
   | refine LeO.bind ?_ (fun _ => ?_)
def impl_FirstGoodSeveral.T9 : Bool × List (List Nat × List Nat) := (true, [([], []), ([0], [0]), ([], []), ([2, 1], [2]), ([1, 3], [1, 3]), ([], []), ([5, 3], [5]), ([4, 6], [4, 6]), ([7], [7])])
def impl_FirstGoodSeveral.B9 : List Nat := [0, 1, 0, 7, 15, 0, 47, 127, 255]
theorem impl_FirstGoodSeveral.tab9 : rtab .any (opsOf Try.f31 9) = impl_FirstGoodSeveral.T9 := by kernel_rfl
theorem impl_FirstGoodSeveral.bits9 : waitsOk impl_FirstGoodSeveral.T9.2 impl_FirstGoodSeveral.B9 = true := by kernel_rfl
set_option maxHeartbeats 8000000 in
set_option maxRecDepth 100000 in
theorem impl_FirstGoodSeveral.calls (k : Nat) (A0 : Option Addr) (c0 : Nat) (l0 : List (S32)) (r1 : Int) (r2 : Int) (r3 : Int) (r4 : Bool) (w : World) (hr0 : Kd.C k32 w A0 l0.length l0) (hc0 : l0.length ≤ c0) (h : impl_FirstGoodSeveral.f k l0 = some (r1, r2, r3, r4)) :
  Calls Try.prog 31 #[.slice A0 l0.length c0] w fun e w' => e = .returned (.tuple #[.int .i64 r1, .agg #[.int .i64 r2, .int .i64 r3], .bool r4]) ∧ Below w.heap.size w w' := by
 have hu32 := Try.underlying32
 have HR0 := Aside0.mk hr0
 have HC0 := Aside0.mk hc0
 clear hr0 hc0
 have HB := Aside0.mk (Below.refl w.heap.size w)
 have H : ((impl_areSeveral.f l0).bind fun t267 => (if t267 = true then (impl_FirstGoodSeveral.l0 k l0 l0 (l0.length : Int) 0) else (some (0, 0, 0, false)))) = some (r1, r2, r3, r4) := h
 clear h
 replace H := Option.bind_eq_some_iff.mp H
 obtain ⟨t267, A20, H⟩ := H
 (try dsimp only at H)
 have A2 := Aside0.mk A20
 clear A20
 by_cases c3 : t267 = true
 ·subst c3
  have H1 : (impl_FirstGoodSeveral.l0 k l0 l0 (l0.length : Int) 0) = some (r1, r2, r3, r4) := by rw [if_pos rfl] at H; exact H
  clear H
  have H := H1
  clear H1
  have H' := Aside0.mk H
  clear H
  go_enter Try.func31, Try.ntmps31
  go_wp2_with (first | ((with_reducible refine gate_dst (N := 3) rfl ?_); refine box_event ?hg (N := 3) ?hd (cs := #[.int .i64 0, .int .i64 0]) (t := 32) ?hr ?_; (case hd => rfl); (case hg => rfl); (case hr => first | (go_simp; done) | (go_simp; rfl)); intro gb266 hg w4 hbox hb; have n0_ := Aside0.mk (below_step (Lam.al) hb); have n1_ := Aside0.mk (hbox); have n2_ := Aside0.mk ((by rw [hg]; exact (below_size (Lam.al)) : w.heap.size ≤ gb266)); have n3_ := Aside0.mk ((by rw [hg]; exact (below_size (Lam.al)) : w.heap.size ≤ gb266)); clear HB; have HB := n0_; have BK266 := n1_; have GW266 := n2_; have GE266 := n3_; clear n0_ n1_ n2_ n3_; clear hb hbox hg) | ((with_reducible refine gate_callee (f := 119) rfl ?_); refine goesL_ (some 10) rfl rfl Try.func119 (by kernel_rfl) rfl #[.slice A0 l0.length c0] rfl (by (try simp only [List.map_toArray, List.map_cons, List.map_nil]); first | done | rfl | (simp only [List.length_drop, List.length_take]; rfl)) ?_; (with_reducible refine (impl_areSeveral.calls _ _ l0 true _ ?side1 ?side2 A2.out).mono ?_); (case side1 => repeat (first | exact (Kd.C_below HR0.out HB.out) | (with_reducible refine Kd.C_alloc ?_ _) | (with_reducible refine Kd.C_drewN ?_ _) | (with_reducible refine Kd.C_drew ?_))); (case side2 => exact HC0.out); rintro e w5 ⟨rfl, hb⟩; refine ⟨_, rfl, ?_⟩; have n0_ := Aside0.mk (blk_below (g := gb266) (o := .cells #[.int .i64 0, .int .i64 0] 32 (0, 0)) (Lam.bq BK266.out) hb); have n1_ := Aside0.mk (below_step (Lam.al) hb); clear BK266; clear HB; have BK266 := n0_; have HB := n1_; clear n0_ n1_; (try clear hb); (try clear hb2); (try clear hk); (try clear hi)))
  go_loopg [15] k (fun kq v15 w' => ∃ (x15_1 : Int) (x267000_1 : Int) (x267001_1 : Int), v15 = .int .i64 x15_1 ∧ Aside0 (impl_FirstGoodSeveral.l0 kq l0 l0 (l0.length : Int) x15_1 = some (r1, r2, r3, r4)) ∧ Aside0 (kq ≤ k) ∧ Aside0 (w'.heap[gb266]? = some (.cells #[.int .i64 x267000_1, .int .i64 x267001_1] 32 (0, 0))) ∧ Aside0 (Below w.heap.size w w'))
  case atStart => exact ⟨(0), (0), (0), (by first | rfl | (simp; done) | (simp [*]; done)), H', ⟨Nat.le_refl _⟩, ⟨Lam.bq BK266.out⟩, ⟨Lam.al⟩⟩
  case round =>
   clear H'
   try clear c1
   try clear p2
   try clear c3
   obtain ⟨x15_1, x267000_1, x267001_1, rfl, HA, HK1, BK266, HB⟩ := hrel
   cases gk with
   | zero => exact absurd HA.out (by simp [impl_FirstGoodSeveral.l0])
   | succ k1 =>
    have H := HA.out
    clear HA
    simp only [impl_FirstGoodSeveral.l0] at H
    by_cases c6 : x15_1 < (l0.length : Int)
    ·rw [if_pos c6] at H
     have c6b0 : decide (x15_1 < (l0.length : Int)) = true := decide_eq_true c6
     clear c6
     by_cases c7 : 0 ≤ x15_1
     ·rw [if_pos c7] at H
      have c7b0 : decide (0 ≤ x15_1) = true := decide_eq_true c7
      clear c7
      by_cases c8 : x15_1 < (l0.length : Int)
      ·rw [if_pos c8] at H
       have c8b0 : decide (x15_1 < (l0.length : Int)) = true := decide_eq_true c8
       clear c8
       replace H := Option.bind_eq_some_iff.mp H
       obtain ⟨t270, A90, H⟩ := H
       (try dsimp only at H)
       have A9 := Aside0.mk A90
       clear A90
       have H' := Aside0.mk H
       clear H
       have p268 : 0 ≤ (x15_1 : Int) := of_decide_eq_true (by first | (with_reducible assumption) | assumption)
       have q268 : x15_1 < (l0.length : Int) := of_decide_eq_true (by first | (with_reducible assumption) | assumption)
       obtain ⟨ad268, e268, hx268_0, hx268_1⟩ := at_T32 HR0.out x15_1 p268 q268
       cases e268
       replace hx268_0 := (HB.out.cell (World.block_lt_of_cell? w _ hx268_0)).trans hx268_0
       replace hx268_1 := (HB.out.cell (World.block_lt_of_cell? w _ hx268_1)).trans hx268_1
       replace p268 := eq_true p268
       replace q268 := eq_true q268
       go_wp2_with (first | ((with_reducible refine gate_dst (N := 6) rfl ?_); refine box_event ?hg (N := 6) ?hd (cs := #[.int .i64 0, .int .i64 0]) (t := 32) ?hr ?_; (case hd => rfl); (case hg => rfl); (case hr => first | (go_simp; done) | (go_simp; rfl)); intro gb269 hg w10 hbox hb; have n0_ := Aside0.mk (blk_below (g := gb266) (o := .cells #[.int .i64 x267000_1, .int .i64 x267001_1] 32 (0, 0)) (Lam.bq BK266.out) hb); have n1_ := Aside0.mk (below_step (Lam.al) hb); have n2_ := Aside0.mk (hbox); have n3_ := Aside0.mk ((by rw [hg]; exact (below_size (Lam.al)) : w.heap.size ≤ gb269)); have n4_ := Aside0.mk ((by rw [hg]; exact (below_size (Lam.al)) : w.heap.size ≤ gb269)); have n5_ := Aside0.mk ((by rw [hg]; exact Nat.ne_of_lt (blk_lt (g := gb266) (o := .cells #[.int .i64 x267000_1, .int .i64 x267001_1] 32 (0, 0)) (Lam.bq BK266.out)) : gb266 ≠ gb269)); have n6_ := Aside0.mk ((by rw [hg]; exact Nat.ne_of_gt (blk_lt (g := gb266) (o := .cells #[.int .i64 x267000_1, .int .i64 x267001_1] 32 (0, 0)) (Lam.bq BK266.out)) : gb269 ≠ gb266)); clear BK266; clear HB; have BK266 := n0_; have HB := n1_; have BK269 := n2_; have GW269 := n3_; have GE269 := n4_; have NB266_269 := n5_; have NB269_266 := n6_; clear n0_ n1_ n2_ n3_ n4_ n5_ n6_; clear hb hbox hg; have hnb11 := NB269_266.out; have hnc11 := NB266_269.out; have hcz12_0 : w10.cell? ⟨gb269, 0, none⟩ = some (.int .i64 0) := (blk_cell BK269.out 0).trans rfl; have hcz12_1 : w10.cell? ⟨gb269, 1, none⟩ = some (.int .i64 0) := (blk_cell BK269.out 1).trans rfl; have hfz12_0 := blk_frozen BK269.out 0; have hfz12_1 := blk_frozen BK269.out 1) | ((with_reducible refine gate_callee (f := 110) rfl ?_); refine goesL_ (some 21) rfl rfl Try.func110 (by kernel_rfl) rfl #[.agg #[.int .i64 ((rd_T32 l0 x15_1).f0), .int .i64 ((rd_T32 l0 x15_1).f1)]] rfl (by (try simp only [List.map_toArray, List.map_cons, List.map_nil]); first | done | rfl | (simp only [List.length_drop, List.length_take]; rfl)) ?_; (with_reducible refine (impl_keptMoves.calls k1 ((rd_T32 l0 x15_1).f0) ((rd_T32 l0 x15_1).f1) t270 _ A9.out).mono ?_); rintro e w13 ⟨v271, rfl, ho0, hb⟩; refine ⟨_, rfl, ?_⟩; have n0_ := Aside0.mk (Kd.R_lower (Kd.R_newB (Kd.R_newB ho0 (g := gb266) (o := .cells #[.int .i64 x267000_1, .int .i64 x267001_1] 32 (0, 0)) (by (with_reducible repeat (first | refine blk_drewN ?_ _ | refine blk_drew ?_ | refine blk_alloc ?_ _)); refine blk_far ?_ NB266_269.out _; (with_reducible repeat (first | refine blk_drewN ?_ _ | refine blk_drew ?_ | refine blk_alloc ?_ _)); refine blk_far ?_ NB266_269.out _; (with_reducible repeat (first | refine blk_drewN ?_ _ | refine blk_drew ?_ | refine blk_alloc ?_ _)); exact BK266.out)) (g := gb269) (o := .cells #[.int .i64 ((rd_T32 l0 x15_1).f0), .int .i64 ((rd_T32 l0 x15_1).f1)] 32 (0, 0)) (by (with_reducible repeat (first | refine blk_drewN ?_ _ | refine blk_drew ?_ | refine blk_alloc ?_ _)); refine blk_put (cs := #[.int .i64 ((rd_T32 l0 x15_1).f0), .int .i64 0]) ?_ 1 _ rfl; (with_reducible repeat (first | refine blk_drewN ?_ _ | refine blk_drew ?_ | refine blk_alloc ?_ _)); refine blk_put (cs := #[.int .i64 0, .int .i64 0]) ?_ 0 _ rfl; (with_reducible repeat (first | refine blk_drewN ?_ _ | refine blk_drew ?_ | refine blk_alloc ?_ _)); exact BK269.out)) (below_size (Lam.al))); have n1_ := Aside0.mk (blk_below (g := gb266) (o := .cells #[.int .i64 x267000_1, .int .i64 x267001_1] 32 (0, 0)) (by (with_reducible repeat (first | refine blk_drewN ?_ _ | refine blk_drew ?_ | refine blk_alloc ?_ _)); refine blk_far ?_ NB266_269.out _; (with_reducible repeat (first | refine blk_drewN ?_ _ | refine blk_drew ?_ | refine blk_alloc ?_ _)); refine blk_far ?_ NB266_269.out _; (with_reducible repeat (first | refine blk_drewN ?_ _ | refine blk_drew ?_ | refine blk_alloc ?_ _)); exact BK266.out) hb); have n2_ := Aside0.mk (blk_below (g := gb269) (o := .cells #[.int .i64 ((rd_T32 l0 x15_1).f0), .int .i64 ((rd_T32 l0 x15_1).f1)] 32 (0, 0)) (by (with_reducible repeat (first | refine blk_drewN ?_ _ | refine blk_drew ?_ | refine blk_alloc ?_ _)); refine blk_put (cs := #[.int .i64 ((rd_T32 l0 x15_1).f0), .int .i64 0]) ?_ 1 _ rfl; (with_reducible repeat (first | refine blk_drewN ?_ _ | refine blk_drew ?_ | refine blk_alloc ?_ _)); refine blk_put (cs := #[.int .i64 0, .int .i64 0]) ?_ 0 _ rfl; (with_reducible repeat (first | refine blk_drewN ?_ _ | refine blk_drew ?_ | refine blk_alloc ?_ _)); exact BK269.out) hb); have n3_ := Aside0.mk (below_step (Lam.al) hb); clear BK266; clear BK269; clear HB; have HO272 := n0_; have BK266 := n1_; have BK269 := n2_; have HB := n3_; clear n0_ n1_ n2_ n3_; (try clear hb); (try clear hb2); (try clear hk); (try clear hi); (try clear ho0); obtain ⟨Ao14, co14, eo14⟩ := Kd.R_slice HO272.out; subst eo14))
       go_loopg [23] k1 (fun kq v23 w' => ∃ (x23_2 : Int) (x267000_2 : Int) (x267001_2 : Int), v23 = .int .i64 x23_2 ∧ Aside0 (impl_FirstGoodSeveral.l1 kq l0 x15_1 l0 (l0.length : Int) x15_1 t270 (t270.length : Int) x23_2 ((rd_T32 l0 x15_1).f0) ((rd_T32 l0 x15_1).f1) = some (r1, r2, r3, r4)) ∧ Aside0 (kq ≤ k1) ∧ Aside0 (Kd.R k32 32 w' w.heap.size (fun k_ => k_ ≠ gb266 ∧ k_ ≠ gb269) (.slice Ao14 t270.length co14) t270) ∧ Aside0 (w'.heap[gb266]? = some (.cells #[.int .i64 x267000_2, .int .i64 x267001_2] 32 (0, 0))) ∧ Aside0 (w'.heap[gb269]? = some (.cells #[.int .i64 ((rd_T32 l0 x15_1).f0), .int .i64 ((rd_T32 l0 x15_1).f1)] 32 (0, 0))) ∧ Aside0 (Below w.heap.size w w'))
       case atStart => exact ⟨(0), (x267000_1), (x267001_1), (by first | rfl | (simp; done) | (simp [*]; done)), H', ⟨Nat.le_refl _⟩, ⟨by (with_reducible repeat (first | apply Kd.R_alloc | apply Kd.R_drewN | apply Kd.R_drew)); exact Kd.R_mono HO272.out (fun _ hk => ⟨hk.1.2, hk.2⟩)⟩, ⟨Lam.bq BK266.out⟩, ⟨Lam.bq BK269.out⟩, ⟨Lam.al⟩⟩
       case round =>
        clear H'
        try clear c1
        try clear p2
        try clear q2
        try clear hx2
        try clear c3
        try clear c6
        try clear c6b0
        try clear c7
        try clear c7b0
        try clear c8
        try clear c8b0
        try clear c11
        try clear hcz12_0
        try clear hcz12_1
        try clear hfz12_0
        try clear hfz12_1
        try clear hx268_0
        try clear hx268_1
        try clear p2
        try clear p268
        try clear q268
        obtain ⟨x23_2, x267000_2, x267001_2, rfl, HA, HK2, HO_21, BK266, BK269, HB⟩ := hrel
        cases gk with
        | zero => exact absurd HA.out (by simp [impl_FirstGoodSeveral.l1])
        | succ k2 =>
         have H := HA.out
         clear HA
         simp only [impl_FirstGoodSeveral.l1] at H
         by_cases c15 : x23_2 < (t270.length : Int)
         ·rw [if_pos c15] at H
          have c15b0 : decide (x23_2 < (t270.length : Int)) = true := decide_eq_true c15
          clear c15
          by_cases c16 : 0 ≤ x23_2
          ·rw [if_pos c16] at H
           have c16b0 : decide (0 ≤ x23_2) = true := decide_eq_true c16
           clear c16
           by_cases c17 : x23_2 < (t270.length : Int)
           ·rw [if_pos c17] at H
            have c17b0 : decide (x23_2 < (t270.length : Int)) = true := decide_eq_true c17
            clear c17
            replace H := Option.bind_eq_some_iff.mp H
            obtain ⟨t275, A180, H⟩ := H
            (try dsimp only at H)
            have A18 := Aside0.mk A180
            clear A180
            replace H := Option.bind_eq_some_iff.mp H
            obtain ⟨t276, A190, H⟩ := H
            (try dsimp only at H)
            have A19 := Aside0.mk A190
            clear A190
            replace H := Option.bind_eq_some_iff.mp H
            obtain ⟨t277, A200, H⟩ := H
            (try dsimp only at H)
            have A20 := Aside0.mk A200
            clear A200
            by_cases c21 : (Go.bits .xor .i64 (Go.bits .xor .i64 t275 t276) t277) = 0
            ·rw [if_pos c21] at H
             have c21b0 : ((Go.bits .xor .i64 (Go.bits .xor .i64 t275 t276) t277) == 0) = true := beq_iff_eq.mpr c21
             have c21b1 : ((Go.bits .xor .i64 (Go.bits .xor .i64 t275 t276) t277) != 0) = false := bne_eq_false_iff_eq.mpr c21
             clear c21
             simp only [Option.some.injEq, Prod.mk.injEq] at H
             obtain ⟨rfl, rfl, rfl, rfl⟩ := H
             have p273 : 0 ≤ (x23_2 : Int) := of_decide_eq_true (by first | (with_reducible assumption) | assumption)
             have q273 : x23_2 < (t270.length : Int) := of_decide_eq_true (by first | (with_reducible assumption) | assumption)
             obtain ⟨ad273, e273, hx273_0, hx273_1⟩ := at_T32 (Kd.R_reads' HO_21.out).2.2 x23_2 p273 q273
             cases e273
             replace p273 := eq_true p273
             replace q273 := eq_true q273
             try go_wp2_with (first | ((with_reducible refine gate_dst (N := 8) rfl ?_); refine box_event ?hg (N := 8) ?hd (cs := #[.int .i64 0, .int .i64 0]) (t := 32) ?hr ?_; (case hd => rfl); (case hg => rfl); (case hr => first | (go_simp; done) | (go_simp; rfl)); intro gb274 hg w22 hbox hb; have n0_ := Aside0.mk (Kd.R_below (Kd.R_elderB (Lam.rq HO_21.out) gb274 (Nat.le_of_eq hg.symm)) hb); have n1_ := Aside0.mk (blk_below (g := gb266) (o := .cells #[.int .i64 x267000_2, .int .i64 x267001_2] 32 (0, 0)) (Lam.bq BK266.out) hb); have n2_ := Aside0.mk (blk_below (g := gb269) (o := .cells #[.int .i64 ((rd_T32 l0 x15_1).f0), .int .i64 ((rd_T32 l0 x15_1).f1)] 32 (0, 0)) (Lam.bq BK269.out) hb); have n3_ := Aside0.mk (below_step (Lam.al) hb); have n4_ := Aside0.mk (hbox); have n5_ := Aside0.mk ((by rw [hg]; exact (below_size (Lam.al)) : w.heap.size ≤ gb274)); have n6_ := Aside0.mk ((by rw [hg]; exact (below_size (Lam.al)) : w.heap.size ≤ gb274)); have n7_ := Aside0.mk ((by rw [hg]; exact Nat.ne_of_lt (blk_lt (g := gb266) (o := .cells #[.int .i64 x267000_2, .int .i64 x267001_2] 32 (0, 0)) (Lam.bq BK266.out)) : gb266 ≠ gb274)); have n8_ := Aside0.mk ((by rw [hg]; exact Nat.ne_of_gt (blk_lt (g := gb266) (o := .cells #[.int .i64 x267000_2, .int .i64 x267001_2] 32 (0, 0)) (Lam.bq BK266.out)) : gb274 ≠ gb266)); have n9_ := Aside0.mk ((by rw [hg]; exact Nat.ne_of_lt (blk_lt (g := gb269) (o := .cells #[.int .i64 ((rd_T32 l0 x15_1).f0), .int .i64 ((rd_T32 l0 x15_1).f1)] 32 (0, 0)) (Lam.bq BK269.out)) : gb269 ≠ gb274)); have n10_ := Aside0.mk ((by rw [hg]; exact Nat.ne_of_gt (blk_lt (g := gb269) (o := .cells #[.int .i64 ((rd_T32 l0 x15_1).f0), .int .i64 ((rd_T32 l0 x15_1).f1)] 32 (0, 0)) (Lam.bq BK269.out)) : gb274 ≠ gb269)); clear HO_21; clear BK266; clear BK269; clear HB; have HO_21 := n0_; have BK266 := n1_; have BK269 := n2_; have HB := n3_; have BK274 := n4_; have GW274 := n5_; have GE274 := n6_; have NB266_274 := n7_; have NB274_266 := n8_; have NB269_274 := n9_; have NB274_269 := n10_; clear n0_ n1_ n2_ n3_ n4_ n5_ n6_ n7_ n8_ n9_ n10_; clear hb hbox hg; have hnb23 := NB274_266.out; have hnc23 := NB266_274.out; have hnb24 := NB274_269.out; have hnc24 := NB269_274.out; have hcz25_0 : w22.cell? ⟨gb274, 0, none⟩ = some (.int .i64 0) := (blk_cell BK274.out 0).trans rfl; have hcz25_1 : w22.cell? ⟨gb274, 1, none⟩ = some (.int .i64 0) := (blk_cell BK274.out 1).trans rfl; have hfz25_0 := blk_frozen BK274.out 0; have hfz25_1 := blk_frozen BK274.out 1))
             have n0_ : Aside0 (Kd.R k32 32 ((w22.setCell ⟨gb274, 0, none⟩ (.int .i64 ((rd_T32 t270 x23_2).f0))).setCell ⟨gb274, 1, none⟩ (.int .i64 ((rd_T32 t270 x23_2).f1))) w.heap.size (fun k_ => k_ ≠ gb266 ∧ k_ ≠ gb269 ∧ k_ ≠ gb274) (.slice (some ad273) t270.length co14) t270) := ⟨by (with_reducible repeat (first | apply Kd.R_alloc | apply Kd.R_drewN | apply Kd.R_drew)); exact Kd.R_mono (Kd.R_far (p := ⟨gb274, 1, none⟩) (Kd.R_far (p := ⟨gb274, 0, none⟩) (Kd.R_mono HO_21.out (fun k_ hk => (⟨hk, hk.2⟩ : _ ∧ k_ ≠ gb274))) (fun _ hk => hk.2) (.int .i64 ((rd_T32 t270 x23_2).f0))) (fun _ hk => hk.2) (.int .i64 ((rd_T32 t270 x23_2).f1))) (fun _ hk => ⟨hk.1.1.1, ⟨hk.1.1.2, hk.1.2⟩⟩)⟩
             have n1_ : Aside0 (((w22.setCell ⟨gb274, 0, none⟩ (.int .i64 ((rd_T32 t270 x23_2).f0))).setCell ⟨gb274, 1, none⟩ (.int .i64 ((rd_T32 t270 x23_2).f1))).heap[gb266]? = some (.cells #[.int .i64 x267000_2, .int .i64 x267001_2] 32 (0, 0))) := ⟨by (with_reducible repeat (first | refine blk_drewN ?_ _ | refine blk_drew ?_ | refine blk_alloc ?_ _)); refine blk_far ?_ NB266_274.out _; (with_reducible repeat (first | refine blk_drewN ?_ _ | refine blk_drew ?_ | refine blk_alloc ?_ _)); refine blk_far ?_ NB266_274.out _; (with_reducible repeat (first | refine blk_drewN ?_ _ | refine blk_drew ?_ | refine blk_alloc ?_ _)); exact BK266.out⟩
             have n2_ : Aside0 (((w22.setCell ⟨gb274, 0, none⟩ (.int .i64 ((rd_T32 t270 x23_2).f0))).setCell ⟨gb274, 1, none⟩ (.int .i64 ((rd_T32 t270 x23_2).f1))).heap[gb269]? = some (.cells #[.int .i64 ((rd_T32 l0 x15_1).f0), .int .i64 ((rd_T32 l0 x15_1).f1)] 32 (0, 0))) := ⟨by (with_reducible repeat (first | refine blk_drewN ?_ _ | refine blk_drew ?_ | refine blk_alloc ?_ _)); refine blk_far ?_ NB269_274.out _; (with_reducible repeat (first | refine blk_drewN ?_ _ | refine blk_drew ?_ | refine blk_alloc ?_ _)); refine blk_far ?_ NB269_274.out _; (with_reducible repeat (first | refine blk_drewN ?_ _ | refine blk_drew ?_ | refine blk_alloc ?_ _)); exact BK269.out⟩
             have n3_ : Aside0 (((w22.setCell ⟨gb274, 0, none⟩ (.int .i64 ((rd_T32 t270 x23_2).f0))).setCell ⟨gb274, 1, none⟩ (.int .i64 ((rd_T32 t270 x23_2).f1))).heap[gb274]? = some (.cells #[.int .i64 ((rd_T32 t270 x23_2).f0), .int .i64 ((rd_T32 t270 x23_2).f1)] 32 (0, 0))) := ⟨by (with_reducible repeat (first | refine blk_drewN ?_ _ | refine blk_drew ?_ | refine blk_alloc ?_ _)); refine blk_put (cs := #[.int .i64 ((rd_T32 t270 x23_2).f0), .int .i64 0]) ?_ 1 _ rfl; (with_reducible repeat (first | refine blk_drewN ?_ _ | refine blk_drew ?_ | refine blk_alloc ?_ _)); refine blk_put (cs := #[.int .i64 0, .int .i64 0]) ?_ 0 _ rfl; (with_reducible repeat (first | refine blk_drewN ?_ _ | refine blk_drew ?_ | refine blk_alloc ?_ _)); exact BK274.out⟩
             have n4_ : Aside0 (Below w.heap.size w ((w22.setCell ⟨gb274, 0, none⟩ (.int .i64 ((rd_T32 t270 x23_2).f0))).setCell ⟨gb274, 1, none⟩ (.int .i64 ((rd_T32 t270 x23_2).f1)))) := ⟨Lam.al⟩
             (try clear HO_21)
             (try clear BK266)
             (try clear BK269)
             (try clear BK274)
             (try clear HB)
             generalize ((w22.setCell ⟨gb274, 0, none⟩ (.int .i64 ((rd_T32 t270 x23_2).f0))).setCell ⟨gb274, 1, none⟩ (.int .i64 ((rd_T32 t270 x23_2).f1))) = w26 at n0_ n1_ n2_ n3_ n4_ ⊢
             have HO_21 := n0_
             have BK266 := n1_
             have BK269 := n2_
             have BK274 := n3_
             have HB := n4_
             clear n0_ n1_ n2_ n3_ n4_
             have n0_ := Aside0.mk (Kd.R_drew HO_21.out)
             have n1_ := Aside0.mk (blk_drew BK266.out)
             have n2_ := Aside0.mk (blk_drew BK269.out)
             have n3_ := Aside0.mk (blk_drew BK274.out)
             have n4_ := Aside0.mk (below_drew1 HB.out)
             clear HO_21
             clear BK266
             clear BK269
             clear BK274
             clear HB
             have HO_21 := n0_
             have BK266 := n1_
             have BK269 := n2_
             have BK274 := n3_
             have HB := n4_
             clear n0_ n1_ n2_ n3_ n4_
             refine start_ (n := 9) (S := fun w' => w'.cell? ⟨gb269, 0, none⟩ = some (.int .i64 ((rd_T32 l0 x15_1).f0)) ∧ w'.cell? ⟨gb269, 1, none⟩ = some (.int .i64 ((rd_T32 l0 x15_1).f1)) ∧ w'.cell? ⟨gb274, 0, none⟩ = some (.int .i64 ((rd_T32 t270 x23_2).f0)) ∧ w'.cell? ⟨gb274, 1, none⟩ = some (.int .i64 ((rd_T32 t270 x23_2).f1))) (ds := []) #[false, false, false, false, false, false, false, false, false] (by kernel_rfl) rfl rfl ⟨(blk_cell BK269.out 0).trans rfl, (blk_cell BK269.out 1).trans rfl, (blk_cell BK274.out 0).trans rfl, (blk_cell BK274.out 1).trans rfl⟩ (fun hHeld => ?_); refine with_tabW impl_FirstGoodSeveral.tab9 impl_FirstGoodSeveral.bits9 (fun HT_ HW_ => ?_)
             generalize w26.drew = w27 at HO_21 BK266 BK269 BK274 HB hHeld ⊢
             refine pure_ (i := 0) (N := some 27) (v := ?_) (a' := ?_) #[true, false, false, false, false, false, false, false, false] rfl rfl (any_of HT_.out (by kernel_rfl)) (fun _ _ _ h => h) (Or.inl ⟨by rfl, ?_⟩) ?_ ?_
             rotate_left
             ·intro w'
              go_simp
              with_reducible rfl
             rotate_left
             ·simp only [Act.put, Lam.pa, Lam.pb, Lam.pc, i64_w, i32_w]
              rfl
             refine take_ (i := 2) (N := some 29) (v := ?_) (a' := ?_) #[true, false, true, false, false, false, false, false, false] rfl rfl (take_ofW HT_.out HW_.out (by kernel_rfl)) (fun _ _ _ h => h) (Or.inl ⟨by rfl, ?_⟩) hHeld ?_ ?_
             rotate_left
             ·rintro w' ⟨s0, s1, s2, s3⟩
              go_simp
              with_reducible rfl
             rotate_left
             ·simp only [Act.put, Lam.pa, Lam.pb, Lam.pc, i64_w, i32_w]
              rfl
             refine take_ (i := 5) (N := some 32) (v := ?_) (a' := ?_) #[true, false, true, false, false, true, false, false, false] rfl rfl (take_ofW HT_.out HW_.out (by kernel_rfl)) (fun _ _ _ h => h) (Or.inl ⟨by rfl, ?_⟩) hHeld ?_ ?_
             rotate_left
             ·rintro w' ⟨s0, s1, s2, s3⟩
              go_simp
              with_reducible rfl
             rotate_left
             ·simp only [Act.put, Lam.pa, Lam.pb, Lam.pc, i64_w, i32_w]
              rfl
             refine one_ (i := 1) (N := some 28) #[true, true, true, false, false, true, false, false, false] rfl rfl (one_of HT_.out (by kernel_rfl)) (by decide) (fun K hK => ?_)
             refine goes_ Try.func120 (by kernel_rfl) rfl #[.slice (some ad268) l0.length c0] (by rfl) rfl rfl (by (try simp only [List.map_toArray, List.map_cons, List.map_nil]); first | done | rfl | (simp only [List.length_drop, List.length_take]; rfl)) ?_
             with_reducible refine (impl_keptHeaps.calls k2 _ _ l0 t275 _ ?side1 ?side2 A18.out).mono ?_
             (case side1 => repeat (first | exact (Kd.C_below HR0.out HB.out) | (with_reducible refine Kd.C_alloc ?_ _) | (with_reducible refine Kd.C_drewN ?_ _) | (with_reducible refine Kd.C_drew ?_)))
             (case side2 => exact HC0.out)
             rintro e w28 ⟨rfl, hb⟩
             refine ⟨_, rfl, ?_⟩
             have n0_ := Aside0.mk (Kd.R_below (Lam.rq HO_21.out) hb)
             have n1_ := Aside0.mk (blk_below (g := gb266) (o := .cells #[.int .i64 x267000_2, .int .i64 x267001_2] 32 (0, 0)) (Lam.bq BK266.out) hb)
             have n2_ := Aside0.mk (blk_below (g := gb269) (o := .cells #[.int .i64 ((rd_T32 l0 x15_1).f0), .int .i64 ((rd_T32 l0 x15_1).f1)] 32 (0, 0)) (Lam.bq BK269.out) hb)
             have n3_ := Aside0.mk (blk_below (g := gb274) (o := .cells #[.int .i64 ((rd_T32 t270 x23_2).f0), .int .i64 ((rd_T32 t270 x23_2).f1)] 32 (0, 0)) (Lam.bq BK274.out) hb)
             have n4_ := Aside0.mk (below_step (Lam.al) hb)
             clear HO_21
             clear BK266
             clear BK269
             clear BK274
             clear HB
             have HO_21 := n0_
             have BK266 := n1_
             have BK269 := n2_
             have BK274 := n3_
             have HB := n4_
             clear n0_ n1_ n2_ n3_ n4_
             (try clear hb)
             (try clear hb2)
             (try clear hk)
             (try clear hi)
             refine hK.out _ _ ⟨(blk_cell BK269.out 0).trans rfl, (blk_cell BK269.out 1).trans rfl, (blk_cell BK274.out 0).trans rfl, (blk_cell BK274.out 1).trans rfl⟩ (fun hHeld => ?_)
             clear hK K
             refine norm_ (a' := ?_) ?_ ?_
             rotate_left
             ·show Act.put _ (some 28) _ = _
              simp only [Act.put, Lam.pa, Lam.pb, Lam.pc, i64_w, i32_w]
              rfl
             refine one_ (i := 3) (N := some 30) #[true, true, true, true, false, true, false, false, false] rfl rfl (one_of HT_.out (by kernel_rfl)) (by decide) (fun K hK => ?_)
             refine goes_ Try.func114 (by kernel_rfl) rfl #[.agg #[.int .i64 ((rd_T32 l0 x15_1).f0), .int .i64 ((rd_T32 l0 x15_1).f1)]] (by rfl) rfl rfl (by (try simp only [List.map_toArray, List.map_cons, List.map_nil]); first | done | rfl | (simp only [List.length_drop, List.length_take]; rfl)) ?_
             with_reducible refine (impl_keptHeap.calls ((rd_T32 l0 x15_1).f0) ((rd_T32 l0 x15_1).f1) t276 _ A19.out).mono ?_
             rintro e w29 ⟨rfl, hb⟩
             refine ⟨_, rfl, ?_⟩
             have n0_ := Aside0.mk (Kd.R_below (Lam.rq HO_21.out) hb)
             have n1_ := Aside0.mk (blk_below (g := gb266) (o := .cells #[.int .i64 x267000_2, .int .i64 x267001_2] 32 (0, 0)) (Lam.bq BK266.out) hb)
             have n2_ := Aside0.mk (blk_below (g := gb269) (o := .cells #[.int .i64 ((rd_T32 l0 x15_1).f0), .int .i64 ((rd_T32 l0 x15_1).f1)] 32 (0, 0)) (Lam.bq BK269.out) hb)
             have n3_ := Aside0.mk (blk_below (g := gb274) (o := .cells #[.int .i64 ((rd_T32 t270 x23_2).f0), .int .i64 ((rd_T32 t270 x23_2).f1)] 32 (0, 0)) (Lam.bq BK274.out) hb)
             have n4_ := Aside0.mk (below_step (Lam.al) hb)
             clear HO_21
             clear BK266
             clear BK269
             clear BK274
             clear HB
             have HO_21 := n0_
             have BK266 := n1_
             have BK269 := n2_
             have BK274 := n3_
             have HB := n4_
             clear n0_ n1_ n2_ n3_ n4_
             (try clear hb)
             (try clear hb2)
             (try clear hk)
             (try clear hi)
             refine hK.out _ _ ⟨(blk_cell BK269.out 0).trans rfl, (blk_cell BK269.out 1).trans rfl, (blk_cell BK274.out 0).trans rfl, (blk_cell BK274.out 1).trans rfl⟩ (fun hHeld => ?_)
             clear hK K
             refine norm_ (a' := ?_) ?_ ?_
             rotate_left
             ·show Act.put _ (some 30) _ = _
              simp only [Act.put, Lam.pa, Lam.pb, Lam.pc, i64_w, i32_w]
              rfl
             refine pure_ (i := 4) (N := some 31) (v := ?_) (a' := ?_) #[true, true, true, true, true, true, false, false, false] rfl rfl (any_of HT_.out (by kernel_rfl)) (fun _ _ _ h => h) (Or.inl ⟨by rfl, ?_⟩) ?_ ?_
             rotate_left
             ·intro w'
              go_simp
              with_reducible rfl
             rotate_left
             ·simp only [Act.put, Lam.pa, Lam.pb, Lam.pc, i64_w, i32_w]
              rfl
             refine one_ (i := 6) (N := some 33) #[true, true, true, true, true, true, true, false, false] rfl rfl (one_of HT_.out (by kernel_rfl)) (by decide) (fun K hK => ?_)
             refine goes_ Try.func114 (by kernel_rfl) rfl #[.agg #[.int .i64 ((rd_T32 t270 x23_2).f0), .int .i64 ((rd_T32 t270 x23_2).f1)]] (by rfl) rfl rfl (by (try simp only [List.map_toArray, List.map_cons, List.map_nil]); first | done | rfl | (simp only [List.length_drop, List.length_take]; rfl)) ?_
             with_reducible refine (impl_keptHeap.calls ((rd_T32 t270 x23_2).f0) ((rd_T32 t270 x23_2).f1) t277 _ A20.out).mono ?_
             rintro e w30 ⟨rfl, hb⟩
             refine ⟨_, rfl, ?_⟩
             have n0_ := Aside0.mk (Kd.R_below (Lam.rq HO_21.out) hb)
             have n1_ := Aside0.mk (blk_below (g := gb266) (o := .cells #[.int .i64 x267000_2, .int .i64 x267001_2] 32 (0, 0)) (Lam.bq BK266.out) hb)
             have n2_ := Aside0.mk (blk_below (g := gb269) (o := .cells #[.int .i64 ((rd_T32 l0 x15_1).f0), .int .i64 ((rd_T32 l0 x15_1).f1)] 32 (0, 0)) (Lam.bq BK269.out) hb)
             have n3_ := Aside0.mk (blk_below (g := gb274) (o := .cells #[.int .i64 ((rd_T32 t270 x23_2).f0), .int .i64 ((rd_T32 t270 x23_2).f1)] 32 (0, 0)) (Lam.bq BK274.out) hb)
             have n4_ := Aside0.mk (below_step (Lam.al) hb)
             clear HO_21
             clear BK266
             clear BK269
             clear BK274
             clear HB
             have HO_21 := n0_
             have BK266 := n1_
             have BK269 := n2_
             have BK274 := n3_
             have HB := n4_
             clear n0_ n1_ n2_ n3_ n4_
             (try clear hb)
             (try clear hb2)
             (try clear hk)
             (try clear hi)
             refine hK.out _ _ ⟨(blk_cell BK269.out 0).trans rfl, (blk_cell BK269.out 1).trans rfl, (blk_cell BK274.out 0).trans rfl, (blk_cell BK274.out 1).trans rfl⟩ (fun hHeld => ?_)
             clear hK K
             refine norm_ (a' := ?_) ?_ ?_
             rotate_left
             ·show Act.put _ (some 33) _ = _
              simp only [Act.put, Lam.pa, Lam.pb, Lam.pc, i64_w, i32_w]
              rfl
             refine pure_ (i := 7) (N := some 34) (v := ?_) (a' := ?_) #[true, true, true, true, true, true, true, true, false] rfl rfl (any_of HT_.out (by kernel_rfl)) (fun _ _ _ h => h) (Or.inl ⟨by rfl, ?_⟩) ?_ ?_
             rotate_left
             ·intro w'
              go_simp
              with_reducible rfl
             rotate_left
             ·simp only [Act.put, Lam.pa, Lam.pb, Lam.pc, i64_w, i32_w]
              rfl
             refine pure_ (i := 8) (N := some 35) (v := ?_) (a' := ?_) #[true, true, true, true, true, true, true, true, true] rfl rfl (any_of HT_.out (by kernel_rfl)) (fun _ _ _ h => h) (Or.inl ⟨by rfl, ?_⟩) ?_ ?_
             rotate_left
             ·intro w'
              go_simp
              with_reducible rfl
             rotate_left
             ·simp only [Act.put, Lam.pa, Lam.pb, Lam.pc, i64_w, i32_w]
              rfl
             refine done_ (done_of HT_.out (by kernel_rfl)) ?_
             try go_wp2
             have n0_ := Aside0.mk (Kd.R_drew HO_21.out)
             have n1_ := Aside0.mk (blk_drew BK266.out)
             have n2_ := Aside0.mk (blk_drew BK269.out)
             have n3_ := Aside0.mk (blk_drew BK274.out)
             have n4_ := Aside0.mk (below_drew1 HB.out)
             clear HO_21
             clear BK266
             clear BK269
             clear BK274
             clear HB
             have HO_21 := n0_
             have BK266 := n1_
             have BK269 := n2_
             have BK274 := n3_
             have HB := n4_
             clear n0_ n1_ n2_ n3_ n4_
             refine start_ (n := 5) (S := fun w' => w'.cell? ⟨gb274, 0, none⟩ = some (.int .i64 ((rd_T32 t270 x23_2).f0)) ∧ w'.cell? ⟨gb274, 1, none⟩ = some (.int .i64 ((rd_T32 t270 x23_2).f1))) (ds := []) #[false, false, false, false, false] (by kernel_rfl) rfl rfl ⟨(blk_cell BK274.out 0).trans rfl, (blk_cell BK274.out 1).trans rfl⟩ (fun hHeld => ?_)
             generalize w30.drew = w31 at HO_21 BK266 BK269 BK274 HB hHeld ⊢
             refine pure_ (i := 0) (N := some 36) (v := ?_) (a' := ?_) #[true, false, false, false, false] rfl rfl (by kernel_rfl) (fun _ _ _ h => h) (Or.inl ⟨by rfl, ?_⟩) ?_ ?_
             rotate_left
             ·intro w'
              go_simp
              with_reducible rfl
             rotate_left
             ·simp only [Act.put, Lam.pa, Lam.pb, Lam.pc, i64_w, i32_w]
              rfl
             refine pure_ (i := 2) (N := some 2) (v := ?_) (a' := ?_) #[true, false, true, false, false] rfl rfl (by kernel_rfl) (fun _ _ _ h => h) (Or.inl ⟨by rfl, ?_⟩) ?_ ?_
             rotate_left
             ·intro w'
              go_simp
              with_reducible rfl
             rotate_left
             ·simp only [Act.put, Lam.pa, Lam.pb, Lam.pc, i64_w, i32_w]
              rfl
             refine take_ (i := 1) (N := some 37) (v := ?_) (a' := ?_) #[true, true, true, false, false] rfl rfl (by kernel_rfl) (fun _ _ _ h => h) (Or.inl ⟨by rfl, ?_⟩) hHeld ?_ ?_
             rotate_left
             ·rintro w' ⟨s0, s1⟩
              go_simp
              with_reducible rfl
             rotate_left
             ·simp only [Act.put, Lam.pa, Lam.pb, Lam.pc, i64_w, i32_w]
              rfl
             refine one_ (i := 3) (N := none) #[true, true, true, true, false] rfl rfl (by kernel_rfl) (by decide) (fun K hK => ?_)
             have hs32 : w31.cell? ⟨gb266, 0, none⟩ = some (.int .i64 x267000_2) := (blk_cell BK266.out 0).trans rfl
             have hfs32 := blk_frozen BK266.out 0
             have hns32_1 := NB269_266.out
             have hns32_2 := NB274_266.out
             have hms32_1 := NB266_269.out
             have hms32_2 := NB266_274.out
             have hs33 : w31.cell? ⟨gb266, 1, none⟩ = some (.int .i64 x267001_2) := (blk_cell BK266.out 1).trans rfl
             have hfs33 := blk_frozen BK266.out 1
             have hns33_1 := NB269_266.out
             have hns33_2 := NB274_266.out
             have hms33_1 := NB266_269.out
             have hms33_2 := NB266_274.out
             refine skip_ (w1 := ?_) (by rfl) rfl ?_ ?_
             rotate_left
             ·go_simp
              rfl
             refine hK.out _ _ ⟨((cell_far (p := ⟨gb266, _, none⟩) NB274_266.out _).trans (((cell_far (p := ⟨gb266, _, none⟩) NB274_266.out _).trans (hHeld.1)))), ((cell_far (p := ⟨gb266, _, none⟩) NB274_266.out _).trans (((cell_far (p := ⟨gb266, _, none⟩) NB274_266.out _).trans (hHeld.2))))⟩ (fun hHeld => ?_)
             clear hK K
             refine pure_ (i := 4) (N := some 4) (v := ?_) (a' := ?_) #[true, true, true, true, true] rfl rfl (by kernel_rfl) (fun _ _ _ h => h) (Or.inl ⟨by rfl, ?_⟩) ?_ ?_
             rotate_left
             ·intro w'
              go_simp
              with_reducible rfl
             rotate_left
             ·simp only [Act.put, Lam.pa, Lam.pb, Lam.pc, i64_w, i32_w]
              rfl
             refine done_ (by kernel_rfl) ?_
             try go_wp2
             refine bodyPost_ret (results_list (rs := [.tmp 2, .cell 3 32, .tmp 4]) rfl (by simp) (.tmp (.cell gb266 32 #[.int .i64 ((rd_T32 t270 x23_2).f0), .int .i64 ((rd_T32 t270 x23_2).f1)] (0, 0) _ rfl (by (with_reducible repeat (first | refine blk_drewN ?_ _ | refine blk_drew ?_ | refine blk_alloc ?_ _)); refine blk_put (cs := #[.int .i64 ((rd_T32 t270 x23_2).f0), .int .i64 x267001_2]) ?_ 1 _ rfl; (with_reducible repeat (first | refine blk_drewN ?_ _ | refine blk_drew ?_ | refine blk_alloc ?_ _)); refine blk_put (cs := #[.int .i64 x267000_2, .int .i64 x267001_2]) ?_ 0 _ rfl; (with_reducible repeat (first | refine blk_drewN ?_ _ | refine blk_drew ?_ | refine blk_alloc ?_ _)); exact BK266.out) Try.underlying32 rfl (by kernel_rfl) (.tmp .nil)))) rfl ?_
             exact ⟨by first | rfl | (simp [errW_none, errW_some] <;> rfl) | (simp [*, errW_none, errW_some] <;> rfl), Lam.al⟩
            ·rw [if_neg c21] at H
             have c21b0 : ((Go.bits .xor .i64 (Go.bits .xor .i64 t275 t276) t277) == 0) = false := beq_eq_false_iff_ne.mpr c21
             have c21b1 : ((Go.bits .xor .i64 (Go.bits .xor .i64 t275 t276) t277) != 0) = true := bne_iff_ne.mpr c21
             have H' := Aside0.mk H
             clear H
             have p273 : 0 ≤ (x23_2 : Int) := of_decide_eq_true (by first | (with_reducible assumption) | assumption)
             have q273 : x23_2 < (t270.length : Int) := of_decide_eq_true (by first | (with_reducible assumption) | assumption)
             obtain ⟨ad273, e273, hx273_0, hx273_1⟩ := at_T32 (Kd.R_reads' HO_21.out).2.2 x23_2 p273 q273
             cases e273
             replace p273 := eq_true p273
             replace q273 := eq_true q273
             try go_wp2_with (first | ((with_reducible refine gate_dst (N := 8) rfl ?_); refine box_event ?hg (N := 8) ?hd (cs := #[.int .i64 0, .int .i64 0]) (t := 32) ?hr ?_; (case hd => rfl); (case hg => rfl); (case hr => first | (go_simp; done) | (go_simp; rfl)); intro gb274 hg w34 hbox hb; have n0_ := Aside0.mk (Kd.R_below (Kd.R_elderB (Lam.rq HO_21.out) gb274 (Nat.le_of_eq hg.symm)) hb); have n1_ := Aside0.mk (blk_below (g := gb266) (o := .cells #[.int .i64 x267000_2, .int .i64 x267001_2] 32 (0, 0)) (Lam.bq BK266.out) hb); have n2_ := Aside0.mk (blk_below (g := gb269) (o := .cells #[.int .i64 ((rd_T32 l0 x15_1).f0), .int .i64 ((rd_T32 l0 x15_1).f1)] 32 (0, 0)) (Lam.bq BK269.out) hb); have n3_ := Aside0.mk (below_step (Lam.al) hb); have n4_ := Aside0.mk (hbox); have n5_ := Aside0.mk ((by rw [hg]; exact (below_size (Lam.al)) : w.heap.size ≤ gb274)); have n6_ := Aside0.mk ((by rw [hg]; exact (below_size (Lam.al)) : w.heap.size ≤ gb274)); have n7_ := Aside0.mk ((by rw [hg]; exact Nat.ne_of_lt (blk_lt (g := gb266) (o := .cells #[.int .i64 x267000_2, .int .i64 x267001_2] 32 (0, 0)) (Lam.bq BK266.out)) : gb266 ≠ gb274)); have n8_ := Aside0.mk ((by rw [hg]; exact Nat.ne_of_gt (blk_lt (g := gb266) (o := .cells #[.int .i64 x267000_2, .int .i64 x267001_2] 32 (0, 0)) (Lam.bq BK266.out)) : gb274 ≠ gb266)); have n9_ := Aside0.mk ((by rw [hg]; exact Nat.ne_of_lt (blk_lt (g := gb269) (o := .cells #[.int .i64 ((rd_T32 l0 x15_1).f0), .int .i64 ((rd_T32 l0 x15_1).f1)] 32 (0, 0)) (Lam.bq BK269.out)) : gb269 ≠ gb274)); have n10_ := Aside0.mk ((by rw [hg]; exact Nat.ne_of_gt (blk_lt (g := gb269) (o := .cells #[.int .i64 ((rd_T32 l0 x15_1).f0), .int .i64 ((rd_T32 l0 x15_1).f1)] 32 (0, 0)) (Lam.bq BK269.out)) : gb274 ≠ gb269)); clear HO_21; clear BK266; clear BK269; clear HB; have HO_21 := n0_; have BK266 := n1_; have BK269 := n2_; have HB := n3_; have BK274 := n4_; have GW274 := n5_; have GE274 := n6_; have NB266_274 := n7_; have NB274_266 := n8_; have NB269_274 := n9_; have NB274_269 := n10_; clear n0_ n1_ n2_ n3_ n4_ n5_ n6_ n7_ n8_ n9_ n10_; clear hb hbox hg; have hnb35 := NB274_266.out; have hnc35 := NB266_274.out; have hnb36 := NB274_269.out; have hnc36 := NB269_274.out; have hcz37_0 : w34.cell? ⟨gb274, 0, none⟩ = some (.int .i64 0) := (blk_cell BK274.out 0).trans rfl; have hcz37_1 : w34.cell? ⟨gb274, 1, none⟩ = some (.int .i64 0) := (blk_cell BK274.out 1).trans rfl; have hfz37_0 := blk_frozen BK274.out 0; have hfz37_1 := blk_frozen BK274.out 1))
             have n0_ : Aside0 (Kd.R k32 32 ((w34.setCell ⟨gb274, 0, none⟩ (.int .i64 ((rd_T32 t270 x23_2).f0))).setCell ⟨gb274, 1, none⟩ (.int .i64 ((rd_T32 t270 x23_2).f1))) w.heap.size (fun k_ => k_ ≠ gb266 ∧ k_ ≠ gb269 ∧ k_ ≠ gb274) (.slice (some ad273) t270.length co14) t270) := ⟨by (with_reducible repeat (first | apply Kd.R_alloc | apply Kd.R_drewN | apply Kd.R_drew)); exact Kd.R_mono (Kd.R_far (p := ⟨gb274, 1, none⟩) (Kd.R_far (p := ⟨gb274, 0, none⟩) (Kd.R_mono HO_21.out (fun k_ hk => (⟨hk, hk.2⟩ : _ ∧ k_ ≠ gb274))) (fun _ hk => hk.2) (.int .i64 ((rd_T32 t270 x23_2).f0))) (fun _ hk => hk.2) (.int .i64 ((rd_T32 t270 x23_2).f1))) (fun _ hk => ⟨hk.1.1.1, ⟨hk.1.1.2, hk.1.2⟩⟩)⟩
             have n1_ : Aside0 (((w34.setCell ⟨gb274, 0, none⟩ (.int .i64 ((rd_T32 t270 x23_2).f0))).setCell ⟨gb274, 1, none⟩ (.int .i64 ((rd_T32 t270 x23_2).f1))).heap[gb266]? = some (.cells #[.int .i64 x267000_2, .int .i64 x267001_2] 32 (0, 0))) := ⟨by (with_reducible repeat (first | refine blk_drewN ?_ _ | refine blk_drew ?_ | refine blk_alloc ?_ _)); refine blk_far ?_ NB266_274.out _; (with_reducible repeat (first | refine blk_drewN ?_ _ | refine blk_drew ?_ | refine blk_alloc ?_ _)); refine blk_far ?_ NB266_274.out _; (with_reducible repeat (first | refine blk_drewN ?_ _ | refine blk_drew ?_ | refine blk_alloc ?_ _)); exact BK266.out⟩
             have n2_ : Aside0 (((w34.setCell ⟨gb274, 0, none⟩ (.int .i64 ((rd_T32 t270 x23_2).f0))).setCell ⟨gb274, 1, none⟩ (.int .i64 ((rd_T32 t270 x23_2).f1))).heap[gb269]? = some (.cells #[.int .i64 ((rd_T32 l0 x15_1).f0), .int .i64 ((rd_T32 l0 x15_1).f1)] 32 (0, 0))) := ⟨by (with_reducible repeat (first | refine blk_drewN ?_ _ | refine blk_drew ?_ | refine blk_alloc ?_ _)); refine blk_far ?_ NB269_274.out _; (with_reducible repeat (first | refine blk_drewN ?_ _ | refine blk_drew ?_ | refine blk_alloc ?_ _)); refine blk_far ?_ NB269_274.out _; (with_reducible repeat (first | refine blk_drewN ?_ _ | refine blk_drew ?_ | refine blk_alloc ?_ _)); exact BK269.out⟩
             have n3_ : Aside0 (((w34.setCell ⟨gb274, 0, none⟩ (.int .i64 ((rd_T32 t270 x23_2).f0))).setCell ⟨gb274, 1, none⟩ (.int .i64 ((rd_T32 t270 x23_2).f1))).heap[gb274]? = some (.cells #[.int .i64 ((rd_T32 t270 x23_2).f0), .int .i64 ((rd_T32 t270 x23_2).f1)] 32 (0, 0))) := ⟨by (with_reducible repeat (first | refine blk_drewN ?_ _ | refine blk_drew ?_ | refine blk_alloc ?_ _)); refine blk_put (cs := #[.int .i64 ((rd_T32 t270 x23_2).f0), .int .i64 0]) ?_ 1 _ rfl; (with_reducible repeat (first | refine blk_drewN ?_ _ | refine blk_drew ?_ | refine blk_alloc ?_ _)); refine blk_put (cs := #[.int .i64 0, .int .i64 0]) ?_ 0 _ rfl; (with_reducible repeat (first | refine blk_drewN ?_ _ | refine blk_drew ?_ | refine blk_alloc ?_ _)); exact BK274.out⟩
             have n4_ : Aside0 (Below w.heap.size w ((w34.setCell ⟨gb274, 0, none⟩ (.int .i64 ((rd_T32 t270 x23_2).f0))).setCell ⟨gb274, 1, none⟩ (.int .i64 ((rd_T32 t270 x23_2).f1)))) := ⟨Lam.al⟩
             (try clear HO_21)
             (try clear BK266)
             (try clear BK269)
             (try clear BK274)
             (try clear HB)
             generalize ((w34.setCell ⟨gb274, 0, none⟩ (.int .i64 ((rd_T32 t270 x23_2).f0))).setCell ⟨gb274, 1, none⟩ (.int .i64 ((rd_T32 t270 x23_2).f1))) = w38 at n0_ n1_ n2_ n3_ n4_ ⊢
             have HO_21 := n0_
             have BK266 := n1_
             have BK269 := n2_
             have BK274 := n3_
             have HB := n4_
             clear n0_ n1_ n2_ n3_ n4_
             have n0_ := Aside0.mk (Kd.R_drew HO_21.out)
             have n1_ := Aside0.mk (blk_drew BK266.out)
             have n2_ := Aside0.mk (blk_drew BK269.out)
             have n3_ := Aside0.mk (blk_drew BK274.out)
             have n4_ := Aside0.mk (below_drew1 HB.out)
             clear HO_21
             clear BK266
             clear BK269
             clear BK274
             clear HB
             have HO_21 := n0_
             have BK266 := n1_
             have BK269 := n2_
             have BK274 := n3_
             have HB := n4_
             clear n0_ n1_ n2_ n3_ n4_
             refine start_ (n := 9) (S := fun w' => w'.cell? ⟨gb269, 0, none⟩ = some (.int .i64 ((rd_T32 l0 x15_1).f0)) ∧ w'.cell? ⟨gb269, 1, none⟩ = some (.int .i64 ((rd_T32 l0 x15_1).f1)) ∧ w'.cell? ⟨gb274, 0, none⟩ = some (.int .i64 ((rd_T32 t270 x23_2).f0)) ∧ w'.cell? ⟨gb274, 1, none⟩ = some (.int .i64 ((rd_T32 t270 x23_2).f1))) (ds := []) #[false, false, false, false, false, false, false, false, false] (by kernel_rfl) rfl rfl ⟨(blk_cell BK269.out 0).trans rfl, (blk_cell BK269.out 1).trans rfl, (blk_cell BK274.out 0).trans rfl, (blk_cell BK274.out 1).trans rfl⟩ (fun hHeld => ?_); refine with_tabW impl_FirstGoodSeveral.tab9 impl_FirstGoodSeveral.bits9 (fun HT_ HW_ => ?_)
             generalize w38.drew = w39 at HO_21 BK266 BK269 BK274 HB hHeld ⊢
             refine pure_ (i := 0) (N := some 27) (v := ?_) (a' := ?_) #[true, false, false, false, false, false, false, false, false] rfl rfl (any_of HT_.out (by kernel_rfl)) (fun _ _ _ h => h) (Or.inl ⟨by rfl, ?_⟩) ?_ ?_
             rotate_left
             ·intro w'
              go_simp
              with_reducible rfl
             rotate_left
             ·simp only [Act.put, Lam.pa, Lam.pb, Lam.pc, i64_w, i32_w]
              rfl
             refine take_ (i := 2) (N := some 29) (v := ?_) (a' := ?_) #[true, false, true, false, false, false, false, false, false] rfl rfl (take_ofW HT_.out HW_.out (by kernel_rfl)) (fun _ _ _ h => h) (Or.inl ⟨by rfl, ?_⟩) hHeld ?_ ?_
             rotate_left
             ·rintro w' ⟨s0, s1, s2, s3⟩
              go_simp
              with_reducible rfl
             rotate_left
             ·simp only [Act.put, Lam.pa, Lam.pb, Lam.pc, i64_w, i32_w]
              rfl
             refine take_ (i := 5) (N := some 32) (v := ?_) (a' := ?_) #[true, false, true, false, false, true, false, false, false] rfl rfl (take_ofW HT_.out HW_.out (by kernel_rfl)) (fun _ _ _ h => h) (Or.inl ⟨by rfl, ?_⟩) hHeld ?_ ?_
             rotate_left
             ·rintro w' ⟨s0, s1, s2, s3⟩
              go_simp
              with_reducible rfl
             rotate_left
             ·simp only [Act.put, Lam.pa, Lam.pb, Lam.pc, i64_w, i32_w]
              rfl
             refine one_ (i := 1) (N := some 28) #[true, true, true, false, false, true, false, false, false] rfl rfl (one_of HT_.out (by kernel_rfl)) (by decide) (fun K hK => ?_)
             refine goes_ Try.func120 (by kernel_rfl) rfl #[.slice (some ad268) l0.length c0] (by rfl) rfl rfl (by (try simp only [List.map_toArray, List.map_cons, List.map_nil]); first | done | rfl | (simp only [List.length_drop, List.length_take]; rfl)) ?_
             with_reducible refine (impl_keptHeaps.calls k2 _ _ l0 t275 _ ?side1 ?side2 A18.out).mono ?_
             (case side1 => repeat (first | exact (Kd.C_below HR0.out HB.out) | (with_reducible refine Kd.C_alloc ?_ _) | (with_reducible refine Kd.C_drewN ?_ _) | (with_reducible refine Kd.C_drew ?_)))
             (case side2 => exact HC0.out)
             rintro e w40 ⟨rfl, hb⟩
             refine ⟨_, rfl, ?_⟩
             have n0_ := Aside0.mk (Kd.R_below (Lam.rq HO_21.out) hb)
             have n1_ := Aside0.mk (blk_below (g := gb266) (o := .cells #[.int .i64 x267000_2, .int .i64 x267001_2] 32 (0, 0)) (Lam.bq BK266.out) hb)
             have n2_ := Aside0.mk (blk_below (g := gb269) (o := .cells #[.int .i64 ((rd_T32 l0 x15_1).f0), .int .i64 ((rd_T32 l0 x15_1).f1)] 32 (0, 0)) (Lam.bq BK269.out) hb)
             have n3_ := Aside0.mk (blk_below (g := gb274) (o := .cells #[.int .i64 ((rd_T32 t270 x23_2).f0), .int .i64 ((rd_T32 t270 x23_2).f1)] 32 (0, 0)) (Lam.bq BK274.out) hb)
             have n4_ := Aside0.mk (below_step (Lam.al) hb)
             clear HO_21
             clear BK266
             clear BK269
             clear BK274
             clear HB
             have HO_21 := n0_
             have BK266 := n1_
             have BK269 := n2_
             have BK274 := n3_
             have HB := n4_
             clear n0_ n1_ n2_ n3_ n4_
             (try clear hb)
             (try clear hb2)
             (try clear hk)
             (try clear hi)
             refine hK.out _ _ ⟨(blk_cell BK269.out 0).trans rfl, (blk_cell BK269.out 1).trans rfl, (blk_cell BK274.out 0).trans rfl, (blk_cell BK274.out 1).trans rfl⟩ (fun hHeld => ?_)
             clear hK K
             refine norm_ (a' := ?_) ?_ ?_
             rotate_left
             ·show Act.put _ (some 28) _ = _
              simp only [Act.put, Lam.pa, Lam.pb, Lam.pc, i64_w, i32_w]
              rfl
             refine one_ (i := 3) (N := some 30) #[true, true, true, true, false, true, false, false, false] rfl rfl (one_of HT_.out (by kernel_rfl)) (by decide) (fun K hK => ?_)
             refine goes_ Try.func114 (by kernel_rfl) rfl #[.agg #[.int .i64 ((rd_T32 l0 x15_1).f0), .int .i64 ((rd_T32 l0 x15_1).f1)]] (by rfl) rfl rfl (by (try simp only [List.map_toArray, List.map_cons, List.map_nil]); first | done | rfl | (simp only [List.length_drop, List.length_take]; rfl)) ?_
             with_reducible refine (impl_keptHeap.calls ((rd_T32 l0 x15_1).f0) ((rd_T32 l0 x15_1).f1) t276 _ A19.out).mono ?_
             rintro e w41 ⟨rfl, hb⟩
             refine ⟨_, rfl, ?_⟩
             have n0_ := Aside0.mk (Kd.R_below (Lam.rq HO_21.out) hb)
             have n1_ := Aside0.mk (blk_below (g := gb266) (o := .cells #[.int .i64 x267000_2, .int .i64 x267001_2] 32 (0, 0)) (Lam.bq BK266.out) hb)
             have n2_ := Aside0.mk (blk_below (g := gb269) (o := .cells #[.int .i64 ((rd_T32 l0 x15_1).f0), .int .i64 ((rd_T32 l0 x15_1).f1)] 32 (0, 0)) (Lam.bq BK269.out) hb)
             have n3_ := Aside0.mk (blk_below (g := gb274) (o := .cells #[.int .i64 ((rd_T32 t270 x23_2).f0), .int .i64 ((rd_T32 t270 x23_2).f1)] 32 (0, 0)) (Lam.bq BK274.out) hb)
             have n4_ := Aside0.mk (below_step (Lam.al) hb)
             clear HO_21
             clear BK266
             clear BK269
             clear BK274
             clear HB
             have HO_21 := n0_
             have BK266 := n1_
             have BK269 := n2_
             have BK274 := n3_
             have HB := n4_
             clear n0_ n1_ n2_ n3_ n4_
             (try clear hb)
             (try clear hb2)
             (try clear hk)
             (try clear hi)
             refine hK.out _ _ ⟨(blk_cell BK269.out 0).trans rfl, (blk_cell BK269.out 1).trans rfl, (blk_cell BK274.out 0).trans rfl, (blk_cell BK274.out 1).trans rfl⟩ (fun hHeld => ?_)
             clear hK K
             refine norm_ (a' := ?_) ?_ ?_
             rotate_left
             ·show Act.put _ (some 30) _ = _
              simp only [Act.put, Lam.pa, Lam.pb, Lam.pc, i64_w, i32_w]
              rfl
             refine pure_ (i := 4) (N := some 31) (v := ?_) (a' := ?_) #[true, true, true, true, true, true, false, false, false] rfl rfl (any_of HT_.out (by kernel_rfl)) (fun _ _ _ h => h) (Or.inl ⟨by rfl, ?_⟩) ?_ ?_
             rotate_left
             ·intro w'
              go_simp
              with_reducible rfl
             rotate_left
             ·simp only [Act.put, Lam.pa, Lam.pb, Lam.pc, i64_w, i32_w]
              rfl
             refine one_ (i := 6) (N := some 33) #[true, true, true, true, true, true, true, false, false] rfl rfl (one_of HT_.out (by kernel_rfl)) (by decide) (fun K hK => ?_)
             refine goes_ Try.func114 (by kernel_rfl) rfl #[.agg #[.int .i64 ((rd_T32 t270 x23_2).f0), .int .i64 ((rd_T32 t270 x23_2).f1)]] (by rfl) rfl rfl (by (try simp only [List.map_toArray, List.map_cons, List.map_nil]); first | done | rfl | (simp only [List.length_drop, List.length_take]; rfl)) ?_
             with_reducible refine (impl_keptHeap.calls ((rd_T32 t270 x23_2).f0) ((rd_T32 t270 x23_2).f1) t277 _ A20.out).mono ?_
             rintro e w42 ⟨rfl, hb⟩
             refine ⟨_, rfl, ?_⟩
             have n0_ := Aside0.mk (Kd.R_below (Lam.rq HO_21.out) hb)
             have n1_ := Aside0.mk (blk_below (g := gb266) (o := .cells #[.int .i64 x267000_2, .int .i64 x267001_2] 32 (0, 0)) (Lam.bq BK266.out) hb)
             have n2_ := Aside0.mk (blk_below (g := gb269) (o := .cells #[.int .i64 ((rd_T32 l0 x15_1).f0), .int .i64 ((rd_T32 l0 x15_1).f1)] 32 (0, 0)) (Lam.bq BK269.out) hb)
             have n3_ := Aside0.mk (blk_below (g := gb274) (o := .cells #[.int .i64 ((rd_T32 t270 x23_2).f0), .int .i64 ((rd_T32 t270 x23_2).f1)] 32 (0, 0)) (Lam.bq BK274.out) hb)
             have n4_ := Aside0.mk (below_step (Lam.al) hb)
             clear HO_21
             clear BK266
             clear BK269
             clear BK274
             clear HB
             have HO_21 := n0_
             have BK266 := n1_
             have BK269 := n2_
             have BK274 := n3_
             have HB := n4_
             clear n0_ n1_ n2_ n3_ n4_
             (try clear hb)
             (try clear hb2)
             (try clear hk)
             (try clear hi)
             refine hK.out _ _ ⟨(blk_cell BK269.out 0).trans rfl, (blk_cell BK269.out 1).trans rfl, (blk_cell BK274.out 0).trans rfl, (blk_cell BK274.out 1).trans rfl⟩ (fun hHeld => ?_)
             clear hK K
             refine norm_ (a' := ?_) ?_ ?_
             rotate_left
             ·show Act.put _ (some 33) _ = _
              simp only [Act.put, Lam.pa, Lam.pb, Lam.pc, i64_w, i32_w]
              rfl
             refine pure_ (i := 7) (N := some 34) (v := ?_) (a' := ?_) #[true, true, true, true, true, true, true, true, false] rfl rfl (any_of HT_.out (by kernel_rfl)) (fun _ _ _ h => h) (Or.inl ⟨by rfl, ?_⟩) ?_ ?_
             rotate_left
             ·intro w'
              go_simp
              with_reducible rfl
             rotate_left
             ·simp only [Act.put, Lam.pa, Lam.pb, Lam.pc, i64_w, i32_w]
              rfl
             refine pure_ (i := 8) (N := some 35) (v := ?_) (a' := ?_) #[true, true, true, true, true, true, true, true, true] rfl rfl (any_of HT_.out (by kernel_rfl)) (fun _ _ _ h => h) (Or.inl ⟨by rfl, ?_⟩) ?_ ?_
             rotate_left
             ·intro w'
              go_simp
              with_reducible rfl
             rotate_left
             ·simp only [Act.put, Lam.pa, Lam.pb, Lam.pc, i64_w, i32_w]
              rfl
             refine done_ (done_of HT_.out (by kernel_rfl)) ?_
             try go_wp2
             go_roundg k2
             case measure => have := HK1.out; have := HK2.out; omega
             case rel => exact ⟨(wrap64 (x23_2 + 1)), (x267000_2), (x267001_2), (by first | rfl | (simp; done) | (simp [*]; done)), H', ⟨by have := HK1.out; have := HK2.out; omega⟩, ⟨by (with_reducible repeat (first | apply Kd.R_alloc | apply Kd.R_drewN | apply Kd.R_drew)); exact Kd.R_mono HO_21.out (fun _ hk => ⟨hk.1, hk.2.1⟩)⟩, ⟨Lam.bq BK266.out⟩, ⟨Lam.bq BK269.out⟩, ⟨Lam.al⟩⟩
           ·rw [if_neg c17] at H
            exact absurd H (by simp)
          ·rw [if_neg c16] at H
           exact absurd H (by simp)
         ·rw [if_neg c15] at H
          have c15b0 : decide (x23_2 < (t270.length : Int)) = false := decide_eq_false c15
          clear c15
          have H' := Aside0.mk H
          clear H
          go_wp2
          go_roundg k2
          case measure => have := HK1.out; have := HK2.out; omega
          case rel => exact ⟨(wrap64 (x15_1 + 1)), (x267000_2), (x267001_2), (by first | rfl | (simp; done) | (simp [*]; done)), H', ⟨by have := HK1.out; have := HK2.out; omega⟩, ⟨Lam.bq BK266.out⟩, ⟨Lam.al⟩⟩
      ·rw [if_neg c8] at H
       exact absurd H (by simp)
     ·rw [if_neg c7] at H
      exact absurd H (by simp)
    ·rw [if_neg c6] at H
     have c6b0 : decide (x15_1 < (l0.length : Int)) = false := decide_eq_false c6
     clear c6
     simp only [Option.some.injEq, Prod.mk.injEq] at H
     obtain ⟨rfl, rfl, rfl, rfl⟩ := H
     have hcz43_0 : wr.cell? ⟨gb266, 0, none⟩ = some (.int .i64 x267000_1) := (blk_cell BK266.out 0).trans rfl
     have hcz43_1 : wr.cell? ⟨gb266, 1, none⟩ = some (.int .i64 x267001_1) := (blk_cell BK266.out 1).trans rfl
     have hfz43_0 := blk_frozen BK266.out 0
     have hfz43_1 := blk_frozen BK266.out 1
     go_wp2
     refine bodyPost_ret (results_list (rs := [.tmp 2, .cell 3 32, .tmp 4]) rfl (by simp) (.tmp (.cell gb266 32 #[.int .i64 0, .int .i64 0] (0, 0) _ rfl (by (with_reducible repeat (first | refine blk_drewN ?_ _ | refine blk_drew ?_ | refine blk_alloc ?_ _)); refine blk_put (cs := #[.int .i64 0, .int .i64 x267001_1]) ?_ 1 _ rfl; (with_reducible repeat (first | refine blk_drewN ?_ _ | refine blk_drew ?_ | refine blk_alloc ?_ _)); refine blk_put (cs := #[.int .i64 x267000_1, .int .i64 x267001_1]) ?_ 0 _ rfl; (with_reducible repeat (first | refine blk_drewN ?_ _ | refine blk_drew ?_ | refine blk_alloc ?_ _)); exact BK266.out) Try.underlying32 rfl (by kernel_rfl) (.tmp .nil)))) rfl ?_
     exact ⟨by first | rfl | (simp [errW_none, errW_some] <;> rfl) | (simp [*, errW_none, errW_some] <;> rfl), Lam.al⟩
 ·replace c3 := Bool.eq_false_iff.mpr c3
  subst c3
  have H1 : (some (0, 0, 0, false)) = some (r1, r2, r3, r4) := by rw [if_neg (show ¬ (false = true) by decide)] at H; exact H
  clear H
  have H := H1
  clear H1
  simp only [Option.some.injEq, Prod.mk.injEq] at H
  obtain ⟨rfl, rfl, rfl, rfl⟩ := H
  go_enter Try.func31, Try.ntmps31
  go_wp2_with (first | ((with_reducible refine gate_dst (N := 3) rfl ?_); refine box_event ?hg (N := 3) ?hd (cs := #[.int .i64 0, .int .i64 0]) (t := 32) ?hr ?_; (case hd => rfl); (case hg => rfl); (case hr => first | (go_simp; done) | (go_simp; rfl)); intro gb266 hg w44 hbox hb; have n0_ := Aside0.mk (below_step (Lam.al) hb); have n1_ := Aside0.mk (hbox); have n2_ := Aside0.mk ((by rw [hg]; exact (below_size (Lam.al)) : w.heap.size ≤ gb266)); have n3_ := Aside0.mk ((by rw [hg]; exact (below_size (Lam.al)) : w.heap.size ≤ gb266)); clear HB; have HB := n0_; have BK266 := n1_; have GW266 := n2_; have GE266 := n3_; clear n0_ n1_ n2_ n3_; clear hb hbox hg) | ((with_reducible refine gate_callee (f := 119) rfl ?_); refine goesL_ (some 10) rfl rfl Try.func119 (by kernel_rfl) rfl #[.slice A0 l0.length c0] rfl (by (try simp only [List.map_toArray, List.map_cons, List.map_nil]); first | done | rfl | (simp only [List.length_drop, List.length_take]; rfl)) ?_; (with_reducible refine (impl_areSeveral.calls _ _ l0 false _ ?side1 ?side2 A2.out).mono ?_); (case side1 => repeat (first | exact (Kd.C_below HR0.out HB.out) | (with_reducible refine Kd.C_alloc ?_ _) | (with_reducible refine Kd.C_drewN ?_ _) | (with_reducible refine Kd.C_drew ?_))); (case side2 => exact HC0.out); rintro e w45 ⟨rfl, hb⟩; refine ⟨_, rfl, ?_⟩; have n0_ := Aside0.mk (blk_below (g := gb266) (o := .cells #[.int .i64 0, .int .i64 0] 32 (0, 0)) (Lam.bq BK266.out) hb); have n1_ := Aside0.mk (below_step (Lam.al) hb); clear BK266; clear HB; have BK266 := n0_; have HB := n1_; clear n0_ n1_; (try clear hb); (try clear hb2); (try clear hk); (try clear hi); have hcz46_0 : w45.cell? ⟨gb266, 0, none⟩ = some (.int .i64 0) := (blk_cell BK266.out 0).trans rfl; have hcz46_1 : w45.cell? ⟨gb266, 1, none⟩ = some (.int .i64 0) := (blk_cell BK266.out 1).trans rfl; have hfz46_0 := blk_frozen BK266.out 0; have hfz46_1 := blk_frozen BK266.out 1))
  refine bodyPost_ret (results_list (rs := [.tmp 2, .cell 3 32, .tmp 4]) rfl (by simp) (.tmp (.cell gb266 32 #[.int .i64 0, .int .i64 0] (0, 0) _ rfl (by (with_reducible repeat (first | refine blk_drewN ?_ _ | refine blk_drew ?_ | refine blk_alloc ?_ _)); refine blk_put (cs := #[.int .i64 0, .int .i64 0]) ?_ 1 _ rfl; (with_reducible repeat (first | refine blk_drewN ?_ _ | refine blk_drew ?_ | refine blk_alloc ?_ _)); refine blk_put (cs := #[.int .i64 0, .int .i64 0]) ?_ 0 _ rfl; (with_reducible repeat (first | refine blk_drewN ?_ _ | refine blk_drew ?_ | refine blk_alloc ?_ _)); exact BK266.out) Try.underlying32 rfl (by kernel_rfl) (.tmp .nil)))) rfl ?_
  exact ⟨by first | rfl | (simp [errW_none, errW_some] <;> rfl) | (simp [*, errW_none, errW_some] <;> rfl), Lam.al⟩

/-! ### spec_laBars: function 121 -/
def spec_laBars.l0 : Nat → List (S32) → Int → Int → Option (Bool)
 | 0, _, _, _ => none
 | k + 1, x9, x10, x11 => if x11 < x10 then (if 0 ≤ x11 then (if x11 < (x9.length : Int) then ((spec_brGood.f ((rd_T32 x9 x11).f0) ((rd_T32 x9 x11).f1)).bind fun t281 => (if t281 = true then (spec_laBars.l0 k x9 x10 (wrap64 (x11 + 1))) else (some false))) else (none)) else (none)) else (some true)
def spec_laBars.f (k : Nat) (l0 : List (S32)) : Option (Bool) := (spec_l1In.f (l0.length : Int) 1 8).bind fun t278 => (if t278 = true then (spec_laBars.l0 k l0 (l0.length : Int) 0) else (some false))
theorem spec_laBars.mono_l : ∀ k, (∀ y0 y1 y2, LeO (spec_laBars.l0 k y0 y1 y2) (spec_laBars.l0 (k + 1) y0 y1 y2))
 | 0 => fun _ _ _ r h => by simp [spec_laBars.l0] at h
 | k + 1 => by
  have ih0 := spec_laBars.mono_l k
  ·intro y0 y1 y2
   unfold spec_laBars.l0
   repeat' first
   | (with_reducible exact ih0 _ _ _)
   | (with_reducible exact LeO.refl _)
   | (with_reducible exact LeO.none _)
   | (with_reducible refine LeO.ite ?_ ?_)
   | (with_reducible refine LeO.bind ?_ (fun _ => ?_))
   | exact ih0 _ _ _
   | exact LeO.none _
   | refine LeO.ite ?_ ?_
   | refine LeO.bind ?_ (fun _ => ?_)
theorem spec_laBars.mono : ∀ a0 k, LeO (spec_laBars.f k a0) (spec_laBars.f (k + 1) a0) := by
 intro a0 k
 have ih0 := spec_laBars.mono_l k
 unfold spec_laBars.f
 repeat' first
   | (with_reducible exact ih0 _ _ _)
   | (with_reducible exact LeO.refl _)
   | (with_reducible exact LeO.none _)
   | (with_reducible refine LeO.ite ?_ ?_)
   | (with_reducible refine LeO.bind ?_ (fun _ => ?_))
   | exact ih0 _ _ _
   | exact LeO.none _
   | refine LeO.ite ?_ ?_
   | refine LeO.bind ?_ (fun _ => ?_)
set_option maxHeartbeats 8000000 in
set_option maxRecDepth 100000 in
theorem spec_laBars.calls (k : Nat) (A0 : Option Addr) (c0 : Nat) (l0 : List (S32)) (r : Bool) (w : World) (hr0 : Kd.C k32 w A0 l0.length l0) (hc0 : l0.length ≤ c0) (h : spec_laBars.f k l0 = some r) :
  Calls Try.prog 121 #[.slice A0 l0.length c0] w fun e w' => e = .returned (.bool r) ∧ Below w.heap.size w w' := by
 have hu32 := Try.underlying32
 have HR0 := Aside0.mk hr0
 have HC0 := Aside0.mk hc0
 clear hr0 hc0
 have HB := Aside0.mk (Below.refl w.heap.size w)
 have H : ((spec_l1In.f (l0.length : Int) 1 8).bind fun t278 => (if t278 = true then (spec_laBars.l0 k l0 (l0.length : Int) 0) else (some false))) = some r := h
 clear h
 replace H := Option.bind_eq_some_iff.mp H
 obtain ⟨t278, A20, H⟩ := H
 replace H : (if t278 = true then (spec_laBars.l0 k l0 (l0.length : Int) 0) else (some false)) = some r := H
 have A2 := Aside0.mk A20
 clear A20
 by_cases c3 : t278 = true
 ·subst c3
  have H1 : (spec_laBars.l0 k l0 (l0.length : Int) 0) = some r := by rw [if_pos rfl] at H; exact H
  clear H
  have H := H1
  clear H1
  have H' := Aside0.mk H
  clear H
  go_enter Try.func121, Try.ntmps121
  go_wp2_with (first | ((with_reducible refine gate_callee (f := 132) rfl ?_); refine goesL_ (some 7) rfl rfl Try.func132 (by kernel_rfl) rfl #[.int .i64 (l0.length : Int), .int .i64 1, .int .i64 8] rfl (by (try simp only [List.map_toArray, List.map_cons, List.map_nil]); first | done | rfl | (simp only [List.length_drop, List.length_take]; rfl)) ?_; (with_reducible refine (spec_l1In.calls (l0.length : Int) 1 8 true _ A2.out).mono ?_); rintro e w' ⟨rfl, ⟨nd, rfl⟩⟩; refine ⟨_, rfl, ?_⟩))
  go_loopg [11] k (fun kq v11 w' => ∃ (x11_1 : Int), v11 = .int .i64 x11_1 ∧ Aside0 (spec_laBars.l0 kq l0 (l0.length : Int) x11_1 = some r) ∧ Aside0 (kq ≤ k) ∧ Aside0 (Below w.heap.size w w'))
  case atStart => exact ⟨(0), (by first | rfl | (simp; done) | (simp [*]; done)), H', ⟨Nat.le_refl _⟩, ⟨Lam.al⟩⟩
  case round =>
   clear H'
   try clear c1
   try clear p2
   try clear c3
   obtain ⟨x11_1, rfl, HA, HK1, HB⟩ := hrel
   cases gk with
   | zero => exact absurd HA.out (by simp [spec_laBars.l0])
   | succ k1 =>
    have H := HA.out
    clear HA
    simp only [spec_laBars.l0] at H
    by_cases c4 : x11_1 < (l0.length : Int)
    ·rw [if_pos c4] at H
     have c4b0 : decide (x11_1 < (l0.length : Int)) = true := decide_eq_true c4
     clear c4
     by_cases c5 : 0 ≤ x11_1
     ·rw [if_pos c5] at H
      have c5b0 : decide (0 ≤ x11_1) = true := decide_eq_true c5
      clear c5
      by_cases c6 : x11_1 < (l0.length : Int)
      ·rw [if_pos c6] at H
       have c6b0 : decide (x11_1 < (l0.length : Int)) = true := decide_eq_true c6
       clear c6
       replace H := Option.bind_eq_some_iff.mp H
       obtain ⟨t281, A70, H⟩ := H
       (try dsimp only at H)
       have A7 := Aside0.mk A70
       clear A70
       by_cases c8 : t281 = true
       ·subst c8
        have H1 : (spec_laBars.l0 k1 l0 (l0.length : Int) (wrap64 (x11_1 + 1))) = some r := by rw [if_pos rfl] at H; exact H
        clear H
        have H := H1
        clear H1
        have H' := Aside0.mk H
        clear H
        have p279 : 0 ≤ (x11_1 : Int) := of_decide_eq_true (by first | (with_reducible assumption) | assumption)
        have q279 : x11_1 < (l0.length : Int) := of_decide_eq_true (by first | (with_reducible assumption) | assumption)
        obtain ⟨ad279, e279, hx279_0, hx279_1⟩ := at_T32 HR0.out x11_1 p279 q279
        cases e279
        replace hx279_0 := (HB.out.cell (World.block_lt_of_cell? w _ hx279_0)).trans hx279_0
        replace hx279_1 := (HB.out.cell (World.block_lt_of_cell? w _ hx279_1)).trans hx279_1
        replace p279 := eq_true p279
        replace q279 := eq_true q279
        go_wp2_with (first | ((with_reducible refine gate_dst (N := 4) rfl ?_); refine box_event ?hg (N := 4) ?hd (cs := #[.int .i64 0, .int .i64 0]) (t := 32) ?hr ?_; (case hd => rfl); (case hg => rfl); (case hr => first | (go_simp; done) | (go_simp; rfl)); intro gb280 hg w9 hbox hb; have n0_ := Aside0.mk (below_step (Lam.al) hb); have n1_ := Aside0.mk (hbox); have n2_ := Aside0.mk ((by rw [hg]; exact (below_size (Lam.al)) : w.heap.size ≤ gb280)); have n3_ := Aside0.mk ((by rw [hg]; exact (below_size (Lam.al)) : w.heap.size ≤ gb280)); clear HB; have HB := n0_; have BK280 := n1_; have GW280 := n2_; have GE280 := n3_; clear n0_ n1_ n2_ n3_; clear hb hbox hg; have hcz10_0 : w9.cell? ⟨gb280, 0, none⟩ = some (.int .i64 0) := (blk_cell BK280.out 0).trans rfl; have hcz10_1 : w9.cell? ⟨gb280, 1, none⟩ = some (.int .i64 0) := (blk_cell BK280.out 1).trans rfl; have hfz10_0 := blk_frozen BK280.out 0; have hfz10_1 := blk_frozen BK280.out 1) | ((with_reducible refine gate_callee (f := 107) rfl ?_); refine goesL_ (some 16) rfl rfl Try.func107 (by kernel_rfl) rfl #[.agg #[.int .i64 ((rd_T32 l0 x11_1).f0), .int .i64 ((rd_T32 l0 x11_1).f1)]] rfl (by (try simp only [List.map_toArray, List.map_cons, List.map_nil]); first | done | rfl | (simp only [List.length_drop, List.length_take]; rfl)) ?_; (with_reducible refine (spec_brGood.calls ((rd_T32 l0 x11_1).f0) ((rd_T32 l0 x11_1).f1) true _ A7.out).mono ?_); rintro e w11 ⟨rfl, hb⟩; refine ⟨_, rfl, ?_⟩; have n0_ := Aside0.mk (blk_below (g := gb280) (o := .cells #[.int .i64 ((rd_T32 l0 x11_1).f0), .int .i64 ((rd_T32 l0 x11_1).f1)] 32 (0, 0)) (by (with_reducible repeat (first | refine blk_drewN ?_ _ | refine blk_drew ?_ | refine blk_alloc ?_ _)); refine blk_put (cs := #[.int .i64 ((rd_T32 l0 x11_1).f0), .int .i64 0]) ?_ 1 _ rfl; (with_reducible repeat (first | refine blk_drewN ?_ _ | refine blk_drew ?_ | refine blk_alloc ?_ _)); refine blk_put (cs := #[.int .i64 0, .int .i64 0]) ?_ 0 _ rfl; (with_reducible repeat (first | refine blk_drewN ?_ _ | refine blk_drew ?_ | refine blk_alloc ?_ _)); exact BK280.out) hb); have n1_ := Aside0.mk (below_step (Lam.al) hb); clear BK280; clear HB; have BK280 := n0_; have HB := n1_; clear n0_ n1_; (try clear hb); (try clear hb2); (try clear hk); (try clear hi)))
        go_roundg k1
        case measure => have := HK1.out; omega
        case rel => exact ⟨(wrap64 (x11_1 + 1)), (by first | rfl | (simp; done) | (simp [*]; done)), H', ⟨by have := HK1.out; omega⟩, ⟨Lam.al⟩⟩
       ·replace c8 := Bool.eq_false_iff.mpr c8
        subst c8
        have H1 : (some false) = some r := by rw [if_neg (show ¬ (false = true) by decide)] at H; exact H
        clear H
        have H := H1
        clear H1
        obtain rfl := Option.some.inj H
        have p279 : 0 ≤ (x11_1 : Int) := of_decide_eq_true (by first | (with_reducible assumption) | assumption)
        have q279 : x11_1 < (l0.length : Int) := of_decide_eq_true (by first | (with_reducible assumption) | assumption)
        obtain ⟨ad279, e279, hx279_0, hx279_1⟩ := at_T32 HR0.out x11_1 p279 q279
        cases e279
        replace hx279_0 := (HB.out.cell (World.block_lt_of_cell? w _ hx279_0)).trans hx279_0
        replace hx279_1 := (HB.out.cell (World.block_lt_of_cell? w _ hx279_1)).trans hx279_1
        replace p279 := eq_true p279
        replace q279 := eq_true q279
        go_wp2_with (first | ((with_reducible refine gate_dst (N := 4) rfl ?_); refine box_event ?hg (N := 4) ?hd (cs := #[.int .i64 0, .int .i64 0]) (t := 32) ?hr ?_; (case hd => rfl); (case hg => rfl); (case hr => first | (go_simp; done) | (go_simp; rfl)); intro gb280 hg w12 hbox hb; have n0_ := Aside0.mk (below_step (Lam.al) hb); have n1_ := Aside0.mk (hbox); have n2_ := Aside0.mk ((by rw [hg]; exact (below_size (Lam.al)) : w.heap.size ≤ gb280)); have n3_ := Aside0.mk ((by rw [hg]; exact (below_size (Lam.al)) : w.heap.size ≤ gb280)); clear HB; have HB := n0_; have BK280 := n1_; have GW280 := n2_; have GE280 := n3_; clear n0_ n1_ n2_ n3_; clear hb hbox hg; have hcz13_0 : w12.cell? ⟨gb280, 0, none⟩ = some (.int .i64 0) := (blk_cell BK280.out 0).trans rfl; have hcz13_1 : w12.cell? ⟨gb280, 1, none⟩ = some (.int .i64 0) := (blk_cell BK280.out 1).trans rfl; have hfz13_0 := blk_frozen BK280.out 0; have hfz13_1 := blk_frozen BK280.out 1) | ((with_reducible refine gate_callee (f := 107) rfl ?_); refine goesL_ (some 16) rfl rfl Try.func107 (by kernel_rfl) rfl #[.agg #[.int .i64 ((rd_T32 l0 x11_1).f0), .int .i64 ((rd_T32 l0 x11_1).f1)]] rfl (by (try simp only [List.map_toArray, List.map_cons, List.map_nil]); first | done | rfl | (simp only [List.length_drop, List.length_take]; rfl)) ?_; (with_reducible refine (spec_brGood.calls ((rd_T32 l0 x11_1).f0) ((rd_T32 l0 x11_1).f1) false _ A7.out).mono ?_); rintro e w14 ⟨rfl, hb⟩; refine ⟨_, rfl, ?_⟩; have n0_ := Aside0.mk (blk_below (g := gb280) (o := .cells #[.int .i64 ((rd_T32 l0 x11_1).f0), .int .i64 ((rd_T32 l0 x11_1).f1)] 32 (0, 0)) (by (with_reducible repeat (first | refine blk_drewN ?_ _ | refine blk_drew ?_ | refine blk_alloc ?_ _)); refine blk_put (cs := #[.int .i64 ((rd_T32 l0 x11_1).f0), .int .i64 0]) ?_ 1 _ rfl; (with_reducible repeat (first | refine blk_drewN ?_ _ | refine blk_drew ?_ | refine blk_alloc ?_ _)); refine blk_put (cs := #[.int .i64 0, .int .i64 0]) ?_ 0 _ rfl; (with_reducible repeat (first | refine blk_drewN ?_ _ | refine blk_drew ?_ | refine blk_alloc ?_ _)); exact BK280.out) hb); have n1_ := Aside0.mk (below_step (Lam.al) hb); clear BK280; clear HB; have BK280 := n0_; have HB := n1_; clear n0_ n1_; (try clear hb); (try clear hb2); (try clear hk); (try clear hi)))
        go_ret
        exact ⟨by first | rfl | (simp [errW_none, errW_some] <;> rfl) | (simp [*, errW_none, errW_some] <;> rfl), Lam.al⟩
      ·rw [if_neg c6] at H
       exact absurd H (by simp)
     ·rw [if_neg c5] at H
      exact absurd H (by simp)
    ·rw [if_neg c4] at H
     have c4b0 : decide (x11_1 < (l0.length : Int)) = false := decide_eq_false c4
     clear c4
     obtain rfl := Option.some.inj H
     go_wp2
     go_ret
     exact ⟨by first | rfl | (simp [errW_none, errW_some] <;> rfl) | (simp [*, errW_none, errW_some] <;> rfl), Lam.al⟩
 ·replace c3 := Bool.eq_false_iff.mpr c3
  subst c3
  have H1 : (some false) = some r := by rw [if_neg (show ¬ (false = true) by decide)] at H; exact H
  clear H
  have H := H1
  clear H1
  obtain rfl := Option.some.inj H
  go_enter Try.func121, Try.ntmps121
  go_wp2_with (first | ((with_reducible refine gate_callee (f := 132) rfl ?_); refine goesL_ (some 7) rfl rfl Try.func132 (by kernel_rfl) rfl #[.int .i64 (l0.length : Int), .int .i64 1, .int .i64 8] rfl (by (try simp only [List.map_toArray, List.map_cons, List.map_nil]); first | done | rfl | (simp only [List.length_drop, List.length_take]; rfl)) ?_; (with_reducible refine (spec_l1In.calls (l0.length : Int) 1 8 false _ A2.out).mono ?_); rintro e w' ⟨rfl, ⟨nd, rfl⟩⟩; refine ⟨_, rfl, ?_⟩))
  go_ret
  exact ⟨by first | rfl | (simp [errW_none, errW_some] <;> rfl) | (simp [*, errW_none, errW_some] <;> rfl), Lam.al⟩

end Go.Proofs.Ytdikeggkfkkajaa.PFnBreaksKept
