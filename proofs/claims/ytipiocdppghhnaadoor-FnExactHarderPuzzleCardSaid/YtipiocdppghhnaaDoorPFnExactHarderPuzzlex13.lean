-- Made by a program of this session (wip/xprint.py) out of the translation.
import Derived.Test.YtipiocdppghhnaaDoorPFnExactHarderPuzzlex0
import Derived.Test.YtipiocdppghhnaaDoorPFnExactHarderPuzzlex1
import Derived.Test.YtipiocdppghhnaaDoorPFnExactHarderPuzzlex2
import Derived.Test.YtipiocdppghhnaaDoorPFnExactHarderPuzzlex6
import Derived.Test.YtipiocdppghhnaaDoorPFnExactHarderPuzzlex12
namespace Go.Proofs.YtipiocdppghhnaaDoor.PFnExactHarderPuzzle
open Go.RowKit Go.Proofs.YtipiocdppghhnaaDoorW.PrintWords Go.Proofs.YtipiocdppghhnaaDoorW.PrintLast Go.Proofs.YtipiocdppghhnaaDoorW.PrintMore
attribute [local go_sem] max2_int min2_int max_two min_two max_three min_three max_four min_four   -- for this text's walks alone
set_option linter.unusedVariables false
set_option linter.unusedSimpArgs false

/-! ### laws_FnExactHarderPuzzle: function 14 -/
mutual
def laws_FnExactHarderPuzzle.j0 : Nat → Bool → Bool → Bool → List (S39) → List (S42) → List (S42) → List (S42) → Option (Bool)
 | 0, _, _, _, _, _, _, _ => none
 | k + 1, x5, x8, x40, x272000, x281000, x285000, x290000 => if x40 = true then (none) else ((laws_toPuzzle.f k x272000).bind fun t291 => ((laws_eqPuzzle.f k x285000 t291).bind fun t294 => (if t294 = true then ((laws_markPuzzle.f k x285000 1).bind fun bt295 => (if bt295.1 < 0 then (laws_FnExactHarderPuzzle.j1 k x5 true x272000 x281000 x290000) else ((laws_eqPuzzle.f k x290000 x281000).bind fun t297 => (if t297 = true then (laws_FnExactHarderPuzzle.j1 k x5 (x8 != x5) x272000 x281000 x290000) else (laws_FnExactHarderPuzzle.j1 k x5 true x272000 x281000 x290000))))) else (none))))
def laws_FnExactHarderPuzzle.j1 : Nat → Bool → Bool → List (S39) → List (S42) → List (S42) → Option (Bool)
 | 0, _, _, _, _, _ => none
 | k + 1, x5, x61, x272000, x281000, x290000 => if x61 = true then (none) else ((laws_markPuzzle.f k x290000 1).bind fun bt298 => ((laws_heldPuzzle.f k bt298.2 1).bind fun t300 => (if t300 < 0 then (none) else (if t300 = bt298.1 then ((laws_toPuzzle.f k x272000).bind fun t301 => ((impl_HarderPuzzle.f k t301).bind fun bt304 => ((laws_eqPuzzle.f k bt304.1 x281000).bind fun t309 => (if t309 = true then (laws_FnExactHarderPuzzle.j2 k bt298.1 (bt304.2 != x5) bt298.2) else (laws_FnExactHarderPuzzle.j2 k bt298.1 true bt298.2))))) else (none)))))
def laws_FnExactHarderPuzzle.j2 : Nat → Int → Bool → List (S42) → Option (Bool)
 | 0, _, _, _ => none
 | k + 1, x10, x87, x290000 => if x87 = true then (none) else ((laws_heldPuzzle.f k x290000 1).bind fun t310 => (if t310 < 0 then (none) else (if t310 = x10 then (some true) else (none))))
end
def laws_FnExactHarderPuzzle.f (k : Nat) (l0_0 : List (S39)) : Option (Bool) := (laws_szPuzzle.f l0_0 1048576).bind fun t272 => (if t272 < 0 then (some true) else ((laws_toPuzzle.f k l0_0).bind fun t273 => ((spec_HarderPuzzle.f k t273).bind fun bt276 => ((laws_toPuzzle.f k l0_0).bind fun t281 => ((impl_HarderPuzzle.f k t281).bind fun bt285 => ((laws_eqPuzzle.f k bt285.1 bt276.1).bind fun t290 => (if t290 = true then (laws_FnExactHarderPuzzle.j0 k bt276.2 bt285.2 (bt285.2 != bt276.2) l0_0 bt276.1 t281 bt285.1) else (laws_FnExactHarderPuzzle.j0 k bt276.2 bt285.2 true l0_0 bt276.1 t281 bt285.1))))))))
theorem laws_FnExactHarderPuzzle.mono_l : ∀ k, (∀ y0 y1 y2 y3 y4 y5 y6, LeO (laws_FnExactHarderPuzzle.j0 k y0 y1 y2 y3 y4 y5 y6) (laws_FnExactHarderPuzzle.j0 (k + 1) y0 y1 y2 y3 y4 y5 y6)) ∧ (∀ y0 y1 y2 y3 y4, LeO (laws_FnExactHarderPuzzle.j1 k y0 y1 y2 y3 y4) (laws_FnExactHarderPuzzle.j1 (k + 1) y0 y1 y2 y3 y4)) ∧ (∀ y0 y1 y2, LeO (laws_FnExactHarderPuzzle.j2 k y0 y1 y2) (laws_FnExactHarderPuzzle.j2 (k + 1) y0 y1 y2))
 | 0 => ⟨fun _ _ _ _ _ _ _ r h => by simp [laws_FnExactHarderPuzzle.j0] at h, fun _ _ _ _ _ r h => by simp [laws_FnExactHarderPuzzle.j1] at h, fun _ _ _ r h => by simp [laws_FnExactHarderPuzzle.j2] at h⟩
 | k + 1 => by
  obtain ⟨ih0, ih1, ih2⟩ := laws_FnExactHarderPuzzle.mono_l k
  refine ⟨?_, ?_, ?_⟩
  ·intro y0 y1 y2 y3 y4 y5 y6
   unfold laws_FnExactHarderPuzzle.j0
   repeat' first
   | (with_reducible exact ih0 _ _ _ _ _ _ _)
   | (with_reducible exact ih1 _ _ _ _ _)
   | (with_reducible exact ih2 _ _ _)
   | (with_reducible exact impl_HarderPuzzle.mono _ _)
   | (with_reducible exact laws_eqPuzzle.mono _ _ _)
   | (with_reducible exact laws_heldPuzzle.mono _ _ _)
   | (with_reducible exact laws_markPuzzle.mono _ _ _)
   | (with_reducible exact laws_toPuzzle.mono _ _)
   | (with_reducible exact spec_HarderPuzzle.mono _ _)
   | (with_reducible exact LeO.refl _)
   | (with_reducible exact LeO.none _)
   | (with_reducible refine LeO.ite ?_ ?_)
   | (with_reducible refine LeO.bind ?_ (fun _ => ?_))
   | exact ih0 _ _ _ _ _ _ _
   | exact ih1 _ _ _ _ _
   | exact ih2 _ _ _
   | exact impl_HarderPuzzle.mono _ _
   | exact laws_eqPuzzle.mono _ _ _
   | exact laws_heldPuzzle.mono _ _ _
   | exact laws_markPuzzle.mono _ _ _
   | exact laws_toPuzzle.mono _ _
   | exact spec_HarderPuzzle.mono _ _
   | exact LeO.none _
   | refine LeO.ite ?_ ?_
   | refine LeO.bind ?_ (fun _ => ?_)
  ·intro y0 y1 y2 y3 y4
   unfold laws_FnExactHarderPuzzle.j1
   repeat' first
   | (with_reducible exact ih0 _ _ _ _ _ _ _)
   | (with_reducible exact ih1 _ _ _ _ _)
   | (with_reducible exact ih2 _ _ _)
   | (with_reducible exact impl_HarderPuzzle.mono _ _)
   | (with_reducible exact laws_eqPuzzle.mono _ _ _)
   | (with_reducible exact laws_heldPuzzle.mono _ _ _)
   | (with_reducible exact laws_markPuzzle.mono _ _ _)
   | (with_reducible exact laws_toPuzzle.mono _ _)
   | (with_reducible exact spec_HarderPuzzle.mono _ _)
   | (with_reducible exact LeO.refl _)
   | (with_reducible exact LeO.none _)
   | (with_reducible refine LeO.ite ?_ ?_)
   | (with_reducible refine LeO.bind ?_ (fun _ => ?_))
   | exact ih0 _ _ _ _ _ _ _
   | exact ih1 _ _ _ _ _
   | exact ih2 _ _ _
   | exact impl_HarderPuzzle.mono _ _
   | exact laws_eqPuzzle.mono _ _ _
   | exact laws_heldPuzzle.mono _ _ _
   | exact laws_markPuzzle.mono _ _ _
   | exact laws_toPuzzle.mono _ _
   | exact spec_HarderPuzzle.mono _ _
   | exact LeO.none _
   | refine LeO.ite ?_ ?_
   | refine LeO.bind ?_ (fun _ => ?_)
  ·intro y0 y1 y2
   unfold laws_FnExactHarderPuzzle.j2
   repeat' first
   | (with_reducible exact ih0 _ _ _ _ _ _ _)
   | (with_reducible exact ih1 _ _ _ _ _)
   | (with_reducible exact ih2 _ _ _)
   | (with_reducible exact impl_HarderPuzzle.mono _ _)
   | (with_reducible exact laws_eqPuzzle.mono _ _ _)
   | (with_reducible exact laws_heldPuzzle.mono _ _ _)
   | (with_reducible exact laws_markPuzzle.mono _ _ _)
   | (with_reducible exact laws_toPuzzle.mono _ _)
   | (with_reducible exact spec_HarderPuzzle.mono _ _)
   | (with_reducible exact LeO.refl _)
   | (with_reducible exact LeO.none _)
   | (with_reducible refine LeO.ite ?_ ?_)
   | (with_reducible refine LeO.bind ?_ (fun _ => ?_))
   | exact ih0 _ _ _ _ _ _ _
   | exact ih1 _ _ _ _ _
   | exact ih2 _ _ _
   | exact impl_HarderPuzzle.mono _ _
   | exact laws_eqPuzzle.mono _ _ _
   | exact laws_heldPuzzle.mono _ _ _
   | exact laws_markPuzzle.mono _ _ _
   | exact laws_toPuzzle.mono _ _
   | exact spec_HarderPuzzle.mono _ _
   | exact LeO.none _
   | refine LeO.ite ?_ ?_
   | refine LeO.bind ?_ (fun _ => ?_)
theorem laws_FnExactHarderPuzzle.mono : ∀ a0 k, LeO (laws_FnExactHarderPuzzle.f k a0) (laws_FnExactHarderPuzzle.f (k + 1) a0) := by
 intro a0 k
 obtain ⟨ih0, ih1, ih2⟩ := laws_FnExactHarderPuzzle.mono_l k
 unfold laws_FnExactHarderPuzzle.f
 repeat' first
   | (with_reducible exact ih0 _ _ _ _ _ _ _)
   | (with_reducible exact ih1 _ _ _ _ _)
   | (with_reducible exact ih2 _ _ _)
   | (with_reducible exact impl_HarderPuzzle.mono _ _)
   | (with_reducible exact laws_eqPuzzle.mono _ _ _)
   | (with_reducible exact laws_heldPuzzle.mono _ _ _)
   | (with_reducible exact laws_markPuzzle.mono _ _ _)
   | (with_reducible exact laws_toPuzzle.mono _ _)
   | (with_reducible exact spec_HarderPuzzle.mono _ _)
   | (with_reducible exact LeO.refl _)
   | (with_reducible exact LeO.none _)
   | (with_reducible refine LeO.ite ?_ ?_)
   | (with_reducible refine LeO.bind ?_ (fun _ => ?_))
   | exact ih0 _ _ _ _ _ _ _
   | exact ih1 _ _ _ _ _
   | exact ih2 _ _ _
   | exact impl_HarderPuzzle.mono _ _
   | exact laws_eqPuzzle.mono _ _ _
   | exact laws_heldPuzzle.mono _ _ _
   | exact laws_markPuzzle.mono _ _ _
   | exact laws_toPuzzle.mono _ _
   | exact spec_HarderPuzzle.mono _ _
   | exact LeO.none _
   | refine LeO.ite ?_ ?_
   | refine LeO.bind ?_ (fun _ => ?_)
set_option maxHeartbeats 8000000 in
set_option maxRecDepth 100000 in
theorem laws_FnExactHarderPuzzle.calls (k : Nat) (A0_0 : Option Addr) (c0_0 : Nat) (l0_0 : List (S39)) (r : Bool) (w : World) (hr0_0 : Kd.C k39 w A0_0 l0_0.length l0_0) (hc0_0 : l0_0.length ≤ c0_0) (h : laws_FnExactHarderPuzzle.f k l0_0 = some r) :
  Calls Tryd.prog 14 #[.agg #[.slice A0_0 l0_0.length c0_0]] w fun e w' => e = .returned (.bool r) ∧ Below w.heap.size w w' := by
 have hu49 := Tryd.underlying49
 have hu55 := Tryd.underlying55
 have HR0_0 := Aside0.mk hr0_0
 have HC0_0 := Aside0.mk hc0_0
 clear hr0_0 hc0_0
 have HB := Aside0.mk (Below.refl w.heap.size w)
 have H : ((laws_szPuzzle.f l0_0 1048576).bind fun t272 => (if t272 < 0 then (some true) else ((laws_toPuzzle.f k l0_0).bind fun t273 => ((spec_HarderPuzzle.f k t273).bind fun bt276 => ((laws_toPuzzle.f k l0_0).bind fun t281 => ((impl_HarderPuzzle.f k t281).bind fun bt285 => ((laws_eqPuzzle.f k bt285.1 bt276.1).bind fun t290 => (if t290 = true then (laws_FnExactHarderPuzzle.j0 k bt276.2 bt285.2 (bt285.2 != bt276.2) l0_0 bt276.1 t281 bt285.1) else (laws_FnExactHarderPuzzle.j0 k bt276.2 bt285.2 true l0_0 bt276.1 t281 bt285.1))))))))) = some r := h
 clear h
 replace H := Option.bind_eq_some_iff.mp H
 obtain ⟨t272, A20, H⟩ := H
 replace H : (if t272 < 0 then (some true) else ((laws_toPuzzle.f k l0_0).bind fun t273 => ((spec_HarderPuzzle.f k t273).bind fun bt276 => ((laws_toPuzzle.f k l0_0).bind fun t281 => ((impl_HarderPuzzle.f k t281).bind fun bt285 => ((laws_eqPuzzle.f k bt285.1 bt276.1).bind fun t290 => (if t290 = true then (laws_FnExactHarderPuzzle.j0 k bt276.2 bt285.2 (bt285.2 != bt276.2) l0_0 bt276.1 t281 bt285.1) else (laws_FnExactHarderPuzzle.j0 k bt276.2 bt285.2 true l0_0 bt276.1 t281 bt285.1)))))))) = some r := H
 have A2 := Aside0.mk A20
 clear A20
 by_cases c3 : t272 < 0
 ·rw [if_pos c3] at H
  have c3b0 : decide (t272 < 0) = true := decide_eq_true c3
  clear c3
  obtain rfl := Option.some.inj H
  go_enter Tryd.func14, Tryd.ntmps14
  go_wp2_with (first | ((with_reducible refine gate_dst (N := 1) rfl ?_); refine box_event ?hg (N := 1) ?hd (cs := #[.slice A0_0 l0_0.length c0_0]) (t := 49) ?hr ?_; (case hd => rfl); (case hg => rfl); (case hr => first | (go_simp; done) | (go_simp; rfl)); intro gb271 hg w4 hbox hb; have n0_ := Aside0.mk (below_step (Lam.al) hb); have n1_ := Aside0.mk (hbox); have n2_ := Aside0.mk ((by rw [hg]; exact (below_size (Lam.al)) : w.heap.size ≤ gb271)); have n3_ := Aside0.mk ((by rw [hg]; exact (below_size (Lam.al)) : w.heap.size ≤ gb271)); clear HB; have HB := n0_; have BK271 := n1_; have GW271 := n2_; have GE271 := n3_; clear n0_ n1_ n2_ n3_; clear hb hbox hg; have hcz5_0 : w4.cell? ⟨gb271, 0, none⟩ = some (.slice A0_0 l0_0.length c0_0) := (blk_cell BK271.out 0).trans rfl; have hfz5_0 := blk_frozen BK271.out 0) | ((with_reducible refine gate_callee (f := 25) rfl ?_); refine goesL_ (some 16) rfl rfl Tryd.func25 (by kernel_rfl) rfl #[.agg #[.slice A0_0 l0_0.length c0_0], .int .i64 1048576] rfl (by (try simp only [List.map_toArray, List.map_cons, List.map_nil]); first | done | rfl | (simp only [List.length_drop, List.length_take]; rfl)) ?_; (with_reducible refine (laws_szPuzzle.calls _ _ l0_0 1048576 t272 _ ?side1 ?side2 A2.out).mono ?_); (case side1 => repeat (first | exact (Kd.C_below HR0_0.out HB.out) | (with_reducible refine Kd.C_alloc ?_ _) | (with_reducible refine Kd.C_drewN ?_ _) | (with_reducible refine Kd.C_drew ?_))); (case side2 => exact HC0_0.out); rintro e w6 ⟨rfl, hb⟩; refine ⟨_, rfl, ?_⟩; have n0_ := Aside0.mk (blk_below (g := gb271) (o := .cells #[.slice A0_0 l0_0.length c0_0] 49 (0, 0)) (Lam.bq BK271.out) hb); have n1_ := Aside0.mk (below_step (Lam.al) hb); clear BK271; clear HB; have BK271 := n0_; have HB := n1_; clear n0_ n1_; (try clear hb); (try clear hb2); (try clear hk); (try clear hi)))
  go_ret
  exact ⟨by first | rfl | (simp [errW_none, errW_some] <;> rfl) | (simp [*, errW_none, errW_some] <;> rfl), Lam.al⟩
 ·rw [if_neg c3] at H
  have c3b0 : decide (t272 < 0) = false := decide_eq_false c3
  clear c3
  replace H := Option.bind_eq_some_iff.mp H
  obtain ⟨t273, A70, H⟩ := H
  replace H : ((spec_HarderPuzzle.f k t273).bind fun bt276 => ((laws_toPuzzle.f k l0_0).bind fun t281 => ((impl_HarderPuzzle.f k t281).bind fun bt285 => ((laws_eqPuzzle.f k bt285.1 bt276.1).bind fun t290 => (if t290 = true then (laws_FnExactHarderPuzzle.j0 k bt276.2 bt285.2 (bt285.2 != bt276.2) l0_0 bt276.1 t281 bt285.1) else (laws_FnExactHarderPuzzle.j0 k bt276.2 bt285.2 true l0_0 bt276.1 t281 bt285.1)))))) = some r := H
  have A7 := Aside0.mk A70
  clear A70
  replace H := Option.bind_eq_some_iff.mp H
  obtain ⟨⟨t276, t279⟩, A80, H⟩ := H
  replace H : ((laws_toPuzzle.f k l0_0).bind fun t281 => ((impl_HarderPuzzle.f k t281).bind fun bt285 => ((laws_eqPuzzle.f k bt285.1 t276).bind fun t290 => (if t290 = true then (laws_FnExactHarderPuzzle.j0 k t279 bt285.2 (bt285.2 != t279) l0_0 t276 t281 bt285.1) else (laws_FnExactHarderPuzzle.j0 k t279 bt285.2 true l0_0 t276 t281 bt285.1))))) = some r := H
  have A8 := Aside0.mk A80
  clear A80
  replace H := Option.bind_eq_some_iff.mp H
  obtain ⟨t281, A90, H⟩ := H
  replace H : ((impl_HarderPuzzle.f k t281).bind fun bt285 => ((laws_eqPuzzle.f k bt285.1 t276).bind fun t290 => (if t290 = true then (laws_FnExactHarderPuzzle.j0 k t279 bt285.2 (bt285.2 != t279) l0_0 t276 t281 bt285.1) else (laws_FnExactHarderPuzzle.j0 k t279 bt285.2 true l0_0 t276 t281 bt285.1)))) = some r := H
  have A9 := Aside0.mk A90
  clear A90
  replace H := Option.bind_eq_some_iff.mp H
  obtain ⟨⟨t285, t288⟩, A100, H⟩ := H
  replace H : ((laws_eqPuzzle.f k t285 t276).bind fun t290 => (if t290 = true then (laws_FnExactHarderPuzzle.j0 k t279 t288 (t288 != t279) l0_0 t276 t281 t285) else (laws_FnExactHarderPuzzle.j0 k t279 t288 true l0_0 t276 t281 t285))) = some r := H
  have A10 := Aside0.mk A100
  clear A100
  have HC11 := Aside0.mk H
  clear H
  go_enter Tryd.func14, Tryd.ntmps14
  go_upto_region 8 with (first | ((with_reducible refine gate_dst (N := 1) rfl ?_); refine box_event ?hg (N := 1) ?hd (cs := #[.slice A0_0 l0_0.length c0_0]) (t := 49) ?hr ?_; (case hd => rfl); (case hg => rfl); (case hr => first | (go_simp; done) | (go_simp; rfl)); intro gb271 hg w12 hbox hb; have n0_ := Aside0.mk (below_step (Lam.al) hb); have n1_ := Aside0.mk (hbox); have n2_ := Aside0.mk ((by rw [hg]; exact (below_size (Lam.al)) : w.heap.size ≤ gb271)); have n3_ := Aside0.mk ((by rw [hg]; exact (below_size (Lam.al)) : w.heap.size ≤ gb271)); clear HB; have HB := n0_; have BK271 := n1_; have GW271 := n2_; have GE271 := n3_; clear n0_ n1_ n2_ n3_; clear hb hbox hg; have hcz13_0 : w12.cell? ⟨gb271, 0, none⟩ = some (.slice A0_0 l0_0.length c0_0) := (blk_cell BK271.out 0).trans rfl; have hfz13_0 := blk_frozen BK271.out 0) | ((with_reducible refine gate_callee (f := 25) rfl ?_); refine goesL_ (some 16) rfl rfl Tryd.func25 (by kernel_rfl) rfl #[.agg #[.slice A0_0 l0_0.length c0_0], .int .i64 1048576] rfl (by (try simp only [List.map_toArray, List.map_cons, List.map_nil]); first | done | rfl | (simp only [List.length_drop, List.length_take]; rfl)) ?_; (with_reducible refine (laws_szPuzzle.calls _ _ l0_0 1048576 t272 _ ?side1 ?side2 A2.out).mono ?_); (case side1 => repeat (first | exact (Kd.C_below HR0_0.out HB.out) | (with_reducible refine Kd.C_alloc ?_ _) | (with_reducible refine Kd.C_drewN ?_ _) | (with_reducible refine Kd.C_drew ?_))); (case side2 => exact HC0_0.out); rintro e w14 ⟨rfl, hb⟩; refine ⟨_, rfl, ?_⟩; have n0_ := Aside0.mk (blk_below (g := gb271) (o := .cells #[.slice A0_0 l0_0.length c0_0] 49 (0, 0)) (Lam.bq BK271.out) hb); have n1_ := Aside0.mk (below_step (Lam.al) hb); clear BK271; clear HB; have BK271 := n0_; have HB := n1_; clear n0_ n1_; (try clear hb); (try clear hb2); (try clear hk); (try clear hi); have hcz15_0 : w14.cell? ⟨gb271, 0, none⟩ = some (.slice A0_0 l0_0.length c0_0) := (blk_cell BK271.out 0).trans rfl; have hfz15_0 := blk_frozen BK271.out 0) | ((with_reducible refine gate_callee (f := 27) rfl ?_); refine goesL_ (some 21) rfl rfl Tryd.func27 (by kernel_rfl) rfl #[.agg #[.slice A0_0 l0_0.length c0_0]] rfl (by (try simp only [List.map_toArray, List.map_cons, List.map_nil]); first | done | rfl | (simp only [List.length_drop, List.length_take]; rfl)) ?_; (with_reducible refine (laws_toPuzzle.calls k _ _ l0_0 t273 _ ?side1 ?side2 A7.out).mono ?_); (case side1 => repeat (first | exact (Kd.C_below HR0_0.out HB.out) | (with_reducible refine Kd.C_alloc ?_ _) | (with_reducible refine Kd.C_drewN ?_ _) | (with_reducible refine Kd.C_drew ?_))); (case side2 => exact HC0_0.out); rintro e w16 ⟨v274, rfl, ho0, hb⟩; refine ⟨_, rfl, ?_⟩; have n0_ := Aside0.mk (Kd.R_lower ho0 (below_size (Lam.al))); have n1_ := Aside0.mk (blk_below (g := gb271) (o := .cells #[.slice A0_0 l0_0.length c0_0] 49 (0, 0)) (Lam.bq BK271.out) hb); have n2_ := Aside0.mk (below_step (Lam.al) hb); clear BK271; clear HB; have HO275 := n0_; have BK271 := n1_; have HB := n2_; clear n0_ n1_ n2_; (try clear hb); (try clear hb2); (try clear hk); (try clear hi); (try clear ho0); obtain ⟨Ao17, co17, eo17⟩ := Kd.R_slice HO275.out; subst eo17) | ((with_reducible refine gate_callee (f := 53) rfl ?_); refine goesL_ (some 22) rfl rfl Tryd.func53 (by kernel_rfl) rfl #[.agg #[.slice Ao17 t273.length co17]] rfl (by (try simp only [List.map_toArray, List.map_cons, List.map_nil]); first | done | rfl | (simp only [List.length_drop, List.length_take]; rfl)) ?_; (with_reducible refine (spec_HarderPuzzle.calls k _ _ t273 t276 t279 _ ?side1 ?side2 A8.out).mono ?_); (case side1 => repeat (first | exact (Kd.R_reads' HO275.out).2.2 | (with_reducible refine Kd.C_alloc ?_ _) | (with_reducible refine Kd.C_drewN ?_ _) | (with_reducible refine Kd.C_drew ?_))); (case side2 => exact (Kd.R_reads' HO275.out).2.1); rintro e w18 ⟨v277, rfl, ho0, hb⟩; refine ⟨_, rfl, ?_⟩; have n0_ := Aside0.mk (Kd.R_elder' (Lam.rq HO275.out) (Kd.R_base ho0) hb); have n1_ := Aside0.mk (Kd.R_lower (Kd.R_new' ho0 (Kd.R_lt (Lam.rq HO275.out))) (below_size (Lam.al))); have n2_ := Aside0.mk (blk_below (g := gb271) (o := .cells #[.slice A0_0 l0_0.length c0_0] 49 (0, 0)) (Lam.bq BK271.out) hb); have n3_ := Aside0.mk (below_step (Lam.al) hb); clear HO275; clear BK271; clear HB; have HO275 := n0_; have HO278 := n1_; have BK271 := n2_; have HB := n3_; clear n0_ n1_ n2_ n3_; (try clear hb); (try clear hb2); (try clear hk); (try clear hi); (try clear ho0)) | ((with_reducible refine gate_dst (N := 4) rfl ?_); refine box_event ?hg (N := 4) ?hd (cs := #[.slice none 0 0]) (t := 55) ?hr ?_; (case hd => rfl); (case hg => rfl); (case hr => first | (go_simp; done) | (go_simp; rfl)); intro gb280 hg w19 hbox hb; have n0_ := Aside0.mk (Kd.R_below (Lam.rq HO275.out) hb); have n1_ := Aside0.mk (Kd.R_below (Lam.rq HO278.out) hb); have n2_ := Aside0.mk (blk_below (g := gb271) (o := .cells #[.slice A0_0 l0_0.length c0_0] 49 (0, 0)) (Lam.bq BK271.out) hb); have n3_ := Aside0.mk (below_step (Lam.al) hb); have n4_ := Aside0.mk (hbox); have n5_ := Aside0.mk ((by rw [hg]; exact (below_size (Lam.al)) : w.heap.size ≤ gb280)); have n6_ := Aside0.mk ((by rw [hg]; exact (below_size (Lam.al)) : w.heap.size ≤ gb280)); have n7_ := Aside0.mk ((by rw [hg]; exact Nat.ne_of_lt (blk_lt (g := gb271) (o := .cells #[.slice A0_0 l0_0.length c0_0] 49 (0, 0)) (Lam.bq BK271.out)) : gb271 ≠ gb280)); have n8_ := Aside0.mk ((by rw [hg]; exact Nat.ne_of_gt (blk_lt (g := gb271) (o := .cells #[.slice A0_0 l0_0.length c0_0] 49 (0, 0)) (Lam.bq BK271.out)) : gb280 ≠ gb271)); clear HO275; clear HO278; clear BK271; clear HB; have HO275 := n0_; have HO278 := n1_; have BK271 := n2_; have HB := n3_; have BK280 := n4_; have GW280 := n5_; have GE280 := n6_; have NB271_280 := n7_; have NB280_271 := n8_; clear n0_ n1_ n2_ n3_ n4_ n5_ n6_ n7_ n8_; clear hb hbox hg; obtain ⟨Ao20, co20, eo20⟩ := Kd.R_slice HO278.out; subst eo20; have hnb21 := NB280_271.out; have hnc21 := NB271_280.out; have hcz22_0 : w19.cell? ⟨gb280, 0, none⟩ = some (.slice none 0 0) := (blk_cell BK280.out 0).trans rfl; have hfz22_0 := blk_frozen BK280.out 0; have hcz23_0 : w19.cell? ⟨gb271, 0, none⟩ = some (.slice A0_0 l0_0.length c0_0) := (blk_cell BK271.out 0).trans rfl; have hfz23_0 := blk_frozen BK271.out 0) | ((with_reducible refine gate_callee (f := 27) rfl ?_); refine goesL_ (some 26) rfl rfl Tryd.func27 (by kernel_rfl) rfl #[.agg #[.slice A0_0 l0_0.length c0_0]] rfl (by (try simp only [List.map_toArray, List.map_cons, List.map_nil]); first | done | rfl | (simp only [List.length_drop, List.length_take]; rfl)) ?_; (with_reducible refine (laws_toPuzzle.calls k _ _ l0_0 t281 _ ?side1 ?side2 A9.out).mono ?_); (case side1 => exact Kd.C_below HR0_0.out (Lam.al)); (case side2 => exact HC0_0.out); rintro e w24 ⟨v282, rfl, ho0, hb⟩; refine ⟨_, rfl, ?_⟩; have n0_ := Aside0.mk (Kd.R_elder' (by (with_reducible repeat (first | apply Kd.R_alloc | apply Kd.R_drewN | apply Kd.R_drew)); exact (Kd.R_mono (Kd.R_far (p := ⟨gb280, 0, none⟩) (Kd.R_types HO275.out BK280.out (by decide)) (fun _ hk => hk.2) (.slice Ao20 t276.length co20)) (fun _ h_ => h_.1))) (Kd.R_base ho0) hb); have n1_ := Aside0.mk (Kd.R_elder' (by (with_reducible repeat (first | apply Kd.R_alloc | apply Kd.R_drewN | apply Kd.R_drew)); exact (Kd.R_mono (Kd.R_far (p := ⟨gb280, 0, none⟩) (Kd.R_types HO278.out BK280.out (by decide)) (fun _ hk => hk.2) (.slice Ao20 t276.length co20)) (fun _ h_ => h_.1))) (Kd.R_base ho0) hb); have n2_ := Aside0.mk (Kd.R_lower (Kd.R_new' (Kd.R_new' ho0 (Kd.R_lt (by (with_reducible repeat (first | apply Kd.R_alloc | apply Kd.R_drewN | apply Kd.R_drew)); exact (Kd.R_mono (Kd.R_far (p := ⟨gb280, 0, none⟩) (Kd.R_types HO275.out BK280.out (by decide)) (fun _ hk => hk.2) (.slice Ao20 t276.length co20)) (fun _ h_ => h_.1))))) (Kd.R_lt (by (with_reducible repeat (first | apply Kd.R_alloc | apply Kd.R_drewN | apply Kd.R_drew)); exact (Kd.R_mono (Kd.R_far (p := ⟨gb280, 0, none⟩) (Kd.R_types HO278.out BK280.out (by decide)) (fun _ hk => hk.2) (.slice Ao20 t276.length co20)) (fun _ h_ => h_.1))))) (below_size (Lam.al))); have n3_ := Aside0.mk (blk_below (g := gb271) (o := .cells #[.slice A0_0 l0_0.length c0_0] 49 (0, 0)) (by (with_reducible repeat (first | refine blk_drewN ?_ _ | refine blk_drew ?_ | refine blk_alloc ?_ _)); refine blk_far ?_ NB271_280.out _; (with_reducible repeat (first | refine blk_drewN ?_ _ | refine blk_drew ?_ | refine blk_alloc ?_ _)); exact BK271.out) hb); have n4_ := Aside0.mk (blk_below (g := gb280) (o := .cells #[.slice Ao20 t276.length co20] 55 (0, 0)) (by (with_reducible repeat (first | refine blk_drewN ?_ _ | refine blk_drew ?_ | refine blk_alloc ?_ _)); refine blk_put (cs := #[.slice none 0 0]) ?_ 0 _ rfl; (with_reducible repeat (first | refine blk_drewN ?_ _ | refine blk_drew ?_ | refine blk_alloc ?_ _)); exact BK280.out) hb); have n5_ := Aside0.mk (below_step (Lam.al) hb); clear HO275; clear HO278; clear BK271; clear BK280; clear HB; have HO275 := n0_; have HO278 := n1_; have HO283 := n2_; have BK271 := n3_; have BK280 := n4_; have HB := n5_; clear n0_ n1_ n2_ n3_ n4_ n5_; (try clear hb); (try clear hb2); (try clear hk); (try clear hi); (try clear ho0)) | ((with_reducible refine gate_dst (N := 6) rfl ?_); refine box_event ?hg (N := 6) ?hd (cs := #[.slice none 0 0]) (t := 55) ?hr ?_; (case hd => rfl); (case hg => rfl); (case hr => first | (go_simp; done) | (go_simp; rfl)); intro gb284 hg w25 hbox hb; have n0_ := Aside0.mk (Kd.R_below (Lam.rq HO275.out) hb); have n1_ := Aside0.mk (Kd.R_below (Lam.rq HO278.out) hb); have n2_ := Aside0.mk (Kd.R_below (Lam.rq HO283.out) hb); have n3_ := Aside0.mk (blk_below (g := gb271) (o := .cells #[.slice A0_0 l0_0.length c0_0] 49 (0, 0)) (Lam.bq BK271.out) hb); have n4_ := Aside0.mk (blk_below (g := gb280) (o := .cells #[.slice Ao20 t276.length co20] 55 (0, 0)) (Lam.bq BK280.out) hb); have n5_ := Aside0.mk (below_step (Lam.al) hb); have n6_ := Aside0.mk (hbox); have n7_ := Aside0.mk ((by rw [hg]; exact (below_size (Lam.al)) : w.heap.size ≤ gb284)); have n8_ := Aside0.mk ((by rw [hg]; exact (below_size (Lam.al)) : w.heap.size ≤ gb284)); have n9_ := Aside0.mk ((by rw [hg]; exact Nat.ne_of_lt (blk_lt (g := gb271) (o := .cells #[.slice A0_0 l0_0.length c0_0] 49 (0, 0)) (Lam.bq BK271.out)) : gb271 ≠ gb284)); have n10_ := Aside0.mk ((by rw [hg]; exact Nat.ne_of_gt (blk_lt (g := gb271) (o := .cells #[.slice A0_0 l0_0.length c0_0] 49 (0, 0)) (Lam.bq BK271.out)) : gb284 ≠ gb271)); have n11_ := Aside0.mk ((by rw [hg]; exact Nat.ne_of_lt (blk_lt (g := gb280) (o := .cells #[.slice Ao20 t276.length co20] 55 (0, 0)) (Lam.bq BK280.out)) : gb280 ≠ gb284)); have n12_ := Aside0.mk ((by rw [hg]; exact Nat.ne_of_gt (blk_lt (g := gb280) (o := .cells #[.slice Ao20 t276.length co20] 55 (0, 0)) (Lam.bq BK280.out)) : gb284 ≠ gb280)); clear HO275; clear HO278; clear HO283; clear BK271; clear BK280; clear HB; have HO275 := n0_; have HO278 := n1_; have HO283 := n2_; have BK271 := n3_; have BK280 := n4_; have HB := n5_; have BK284 := n6_; have GW284 := n7_; have GE284 := n8_; have NB271_284 := n9_; have NB284_271 := n10_; have NB280_284 := n11_; have NB284_280 := n12_; clear n0_ n1_ n2_ n3_ n4_ n5_ n6_ n7_ n8_ n9_ n10_ n11_ n12_; clear hb hbox hg; obtain ⟨Ao26, co26, eo26⟩ := Kd.R_slice HO283.out; subst eo26; have hnb27 := NB284_271.out; have hnc27 := NB271_284.out; have hnb28 := NB284_280.out; have hnc28 := NB280_284.out; have hcz29_0 : w25.cell? ⟨gb284, 0, none⟩ = some (.slice none 0 0) := (blk_cell BK284.out 0).trans rfl; have hfz29_0 := blk_frozen BK284.out 0) | ((with_reducible refine gate_callee (f := 54) rfl ?_); refine goesL_ (some 29) rfl rfl Tryd.func54 (by kernel_rfl) rfl #[.agg #[.slice Ao26 t281.length co26]] rfl (by (try simp only [List.map_toArray, List.map_cons, List.map_nil]); first | done | rfl | (simp only [List.length_drop, List.length_take]; rfl)) ?_; (with_reducible refine (impl_HarderPuzzle.calls k _ _ t281 t285 t288 _ ?side1 ?side2 A10.out).mono ?_); (case side1 => refine (Kd.R_reads' (e := 42) (base := w.heap.size) (ok := fun k_ => ((True ∧ some k_ ≠ (.slice Ao17 t273.length co17 : Value).ownBlock) ∧ some k_ ≠ (.slice Ao20 t276.length co20 : Value).ownBlock)) (n := t281.length) (c := co26) ?_).2.2; exact (by (with_reducible repeat (first | apply Kd.R_alloc | apply Kd.R_drewN | apply Kd.R_drew)); exact (Kd.R_mono (Kd.R_far (p := ⟨gb284, 0, none⟩) (Kd.R_types HO283.out BK284.out (by decide)) (fun _ hk => hk.2) (.slice Ao26 t281.length co26)) (fun _ h_ => h_.1)))); (case side2 => exact (Kd.R_reads' HO283.out).2.1); rintro e w30 ⟨v286, rfl, ho0, hb⟩; refine ⟨_, rfl, ?_⟩; have n0_ := Aside0.mk (Kd.R_elder' (by (with_reducible repeat (first | apply Kd.R_alloc | apply Kd.R_drewN | apply Kd.R_drew)); exact (Kd.R_mono (Kd.R_far (p := ⟨gb284, 0, none⟩) (Kd.R_types HO275.out BK284.out (by decide)) (fun _ hk => hk.2) (.slice Ao26 t281.length co26)) (fun _ h_ => h_.1))) (Kd.R_base ho0) hb); have n1_ := Aside0.mk (Kd.R_elder' (by (with_reducible repeat (first | apply Kd.R_alloc | apply Kd.R_drewN | apply Kd.R_drew)); exact (Kd.R_mono (Kd.R_far (p := ⟨gb284, 0, none⟩) (Kd.R_types HO278.out BK284.out (by decide)) (fun _ hk => hk.2) (.slice Ao26 t281.length co26)) (fun _ h_ => h_.1))) (Kd.R_base ho0) hb); have n2_ := Aside0.mk (Kd.R_elder' (by (with_reducible repeat (first | apply Kd.R_alloc | apply Kd.R_drewN | apply Kd.R_drew)); exact (Kd.R_mono (Kd.R_far (p := ⟨gb284, 0, none⟩) (Kd.R_types HO283.out BK284.out (by decide)) (fun _ hk => hk.2) (.slice Ao26 t281.length co26)) (fun _ h_ => h_.1))) (Kd.R_base ho0) hb); have n3_ := Aside0.mk (Kd.R_lower (Kd.R_new' (Kd.R_new' (Kd.R_new' ho0 (Kd.R_lt (by (with_reducible repeat (first | apply Kd.R_alloc | apply Kd.R_drewN | apply Kd.R_drew)); exact (Kd.R_mono (Kd.R_far (p := ⟨gb284, 0, none⟩) (Kd.R_types HO275.out BK284.out (by decide)) (fun _ hk => hk.2) (.slice Ao26 t281.length co26)) (fun _ h_ => h_.1))))) (Kd.R_lt (by (with_reducible repeat (first | apply Kd.R_alloc | apply Kd.R_drewN | apply Kd.R_drew)); exact (Kd.R_mono (Kd.R_far (p := ⟨gb284, 0, none⟩) (Kd.R_types HO278.out BK284.out (by decide)) (fun _ hk => hk.2) (.slice Ao26 t281.length co26)) (fun _ h_ => h_.1))))) (Kd.R_lt (by (with_reducible repeat (first | apply Kd.R_alloc | apply Kd.R_drewN | apply Kd.R_drew)); exact (Kd.R_mono (Kd.R_far (p := ⟨gb284, 0, none⟩) (Kd.R_types HO283.out BK284.out (by decide)) (fun _ hk => hk.2) (.slice Ao26 t281.length co26)) (fun _ h_ => h_.1))))) (below_size (Lam.al))); have n4_ := Aside0.mk (blk_below (g := gb271) (o := .cells #[.slice A0_0 l0_0.length c0_0] 49 (0, 0)) (by (with_reducible repeat (first | refine blk_drewN ?_ _ | refine blk_drew ?_ | refine blk_alloc ?_ _)); refine blk_far ?_ NB271_284.out _; (with_reducible repeat (first | refine blk_drewN ?_ _ | refine blk_drew ?_ | refine blk_alloc ?_ _)); exact BK271.out) hb); have n5_ := Aside0.mk (blk_below (g := gb280) (o := .cells #[.slice Ao20 t276.length co20] 55 (0, 0)) (by (with_reducible repeat (first | refine blk_drewN ?_ _ | refine blk_drew ?_ | refine blk_alloc ?_ _)); refine blk_far ?_ NB280_284.out _; (with_reducible repeat (first | refine blk_drewN ?_ _ | refine blk_drew ?_ | refine blk_alloc ?_ _)); exact BK280.out) hb); have n6_ := Aside0.mk (blk_below (g := gb284) (o := .cells #[.slice Ao26 t281.length co26] 55 (0, 0)) (by (with_reducible repeat (first | refine blk_drewN ?_ _ | refine blk_drew ?_ | refine blk_alloc ?_ _)); refine blk_put (cs := #[.slice none 0 0]) ?_ 0 _ rfl; (with_reducible repeat (first | refine blk_drewN ?_ _ | refine blk_drew ?_ | refine blk_alloc ?_ _)); exact BK284.out) hb); have n7_ := Aside0.mk (below_step (Lam.al) hb); clear HO275; clear HO278; clear HO283; clear BK271; clear BK280; clear BK284; clear HB; have HO275 := n0_; have HO278 := n1_; have HO283 := n2_; have HO287 := n3_; have BK271 := n4_; have BK280 := n5_; have BK284 := n6_; have HB := n7_; clear n0_ n1_ n2_ n3_ n4_ n5_ n6_ n7_; (try clear hb); (try clear hb2); (try clear hk); (try clear hi); (try clear ho0)) | ((with_reducible refine gate_dst (N := 7) rfl ?_); refine box_event ?hg (N := 7) ?hd (cs := #[.slice none 0 0]) (t := 55) ?hr ?_; (case hd => rfl); (case hg => rfl); (case hr => first | (go_simp; done) | (go_simp; rfl)); intro gb289 hg w31 hbox hb; have n0_ := Aside0.mk (Kd.R_below (Lam.rq HO275.out) hb); have n1_ := Aside0.mk (Kd.R_below (Lam.rq HO278.out) hb); have n2_ := Aside0.mk (Kd.R_below (Lam.rq HO283.out) hb); have n3_ := Aside0.mk (Kd.R_below (Lam.rq HO287.out) hb); have n4_ := Aside0.mk (blk_below (g := gb271) (o := .cells #[.slice A0_0 l0_0.length c0_0] 49 (0, 0)) (Lam.bq BK271.out) hb); have n5_ := Aside0.mk (blk_below (g := gb280) (o := .cells #[.slice Ao20 t276.length co20] 55 (0, 0)) (Lam.bq BK280.out) hb); have n6_ := Aside0.mk (blk_below (g := gb284) (o := .cells #[.slice Ao26 t281.length co26] 55 (0, 0)) (Lam.bq BK284.out) hb); have n7_ := Aside0.mk (below_step (Lam.al) hb); have n8_ := Aside0.mk (hbox); have n9_ := Aside0.mk ((by rw [hg]; exact (below_size (Lam.al)) : w.heap.size ≤ gb289)); have n10_ := Aside0.mk ((by rw [hg]; exact (below_size (Lam.al)) : w.heap.size ≤ gb289)); have n11_ := Aside0.mk ((by rw [hg]; exact Nat.ne_of_lt (blk_lt (g := gb271) (o := .cells #[.slice A0_0 l0_0.length c0_0] 49 (0, 0)) (Lam.bq BK271.out)) : gb271 ≠ gb289)); have n12_ := Aside0.mk ((by rw [hg]; exact Nat.ne_of_gt (blk_lt (g := gb271) (o := .cells #[.slice A0_0 l0_0.length c0_0] 49 (0, 0)) (Lam.bq BK271.out)) : gb289 ≠ gb271)); have n13_ := Aside0.mk ((by rw [hg]; exact Nat.ne_of_lt (blk_lt (g := gb280) (o := .cells #[.slice Ao20 t276.length co20] 55 (0, 0)) (Lam.bq BK280.out)) : gb280 ≠ gb289)); have n14_ := Aside0.mk ((by rw [hg]; exact Nat.ne_of_gt (blk_lt (g := gb280) (o := .cells #[.slice Ao20 t276.length co20] 55 (0, 0)) (Lam.bq BK280.out)) : gb289 ≠ gb280)); have n15_ := Aside0.mk ((by rw [hg]; exact Nat.ne_of_lt (blk_lt (g := gb284) (o := .cells #[.slice Ao26 t281.length co26] 55 (0, 0)) (Lam.bq BK284.out)) : gb284 ≠ gb289)); have n16_ := Aside0.mk ((by rw [hg]; exact Nat.ne_of_gt (blk_lt (g := gb284) (o := .cells #[.slice Ao26 t281.length co26] 55 (0, 0)) (Lam.bq BK284.out)) : gb289 ≠ gb284)); clear HO275; clear HO278; clear HO283; clear HO287; clear BK271; clear BK280; clear BK284; clear HB; have HO275 := n0_; have HO278 := n1_; have HO283 := n2_; have HO287 := n3_; have BK271 := n4_; have BK280 := n5_; have BK284 := n6_; have HB := n7_; have BK289 := n8_; have GW289 := n9_; have GE289 := n10_; have NB271_289 := n11_; have NB289_271 := n12_; have NB280_289 := n13_; have NB289_280 := n14_; have NB284_289 := n15_; have NB289_284 := n16_; clear n0_ n1_ n2_ n3_ n4_ n5_ n6_ n7_ n8_ n9_ n10_ n11_ n12_ n13_ n14_ n15_ n16_; clear hb hbox hg; obtain ⟨Ao32, co32, eo32⟩ := Kd.R_slice HO287.out; subst eo32; have hnb33 := NB289_271.out; have hnc33 := NB271_289.out; have hnb34 := NB289_280.out; have hnc34 := NB280_289.out; have hnb35 := NB289_284.out; have hnc35 := NB284_289.out; have hcz36_0 : w31.cell? ⟨gb289, 0, none⟩ = some (.slice none 0 0) := (blk_cell BK289.out 0).trans rfl; have hfz36_0 := blk_frozen BK289.out 0))
  (try simp only [Act.put, Lam.pa, Lam.pb, Lam.pc])
  go_cut [40] (fun v40 wc => ∃ (kq : Nat) (x40_10 : Bool), v40 = .bool x40_10 ∧ Aside0 (laws_FnExactHarderPuzzle.j0 kq t279 t288 x40_10 l0_0 t276 t281 t285 = some r) ∧ Aside0 (kq ≤ k) ∧ Aside0 (Kd.R k42 42 wc w.heap.size (fun k_ => some k_ ≠ ((.slice Ao26 t281.length co26) : Value).ownBlock ∧ some k_ ≠ ((.slice Ao32 t285.length co32) : Value).ownBlock) (.slice Ao20 t276.length co20) t276) ∧ Aside0 (Kd.R k42 42 wc w.heap.size (fun k_ => some k_ ≠ ((.slice Ao20 t276.length co20) : Value).ownBlock ∧ some k_ ≠ ((.slice Ao32 t285.length co32) : Value).ownBlock) (.slice Ao26 t281.length co26) t281) ∧ Aside0 (Kd.R k42 42 wc w.heap.size (fun k_ => some k_ ≠ ((.slice Ao20 t276.length co20) : Value).ownBlock ∧ some k_ ≠ ((.slice Ao26 t281.length co26) : Value).ownBlock) (.slice Ao32 t285.length co32) t285) ∧ Aside0 (wc.heap[gb271]? = some (.cells #[(.slice A0_0 l0_0.length c0_0)] 49 (0, 0))) ∧ Aside0 (wc.heap[gb280]? = some (.cells #[(.slice Ao20 t276.length co20)] 55 (0, 0))) ∧ Aside0 (wc.heap[gb284]? = some (.cells #[(.slice Ao26 t281.length co26)] 55 (0, 0))) ∧ Aside0 (wc.heap[gb289]? = some (.cells #[(.slice Ao32 t285.length co32)] 55 (0, 0))) ∧ Aside0 (Below w.heap.size w wc))
  case first =>
   have H := HC11.out
   clear HC11
   replace H := Option.bind_eq_some_iff.mp H
   obtain ⟨t290, A370, H⟩ := H
   replace H : (if t290 = true then (laws_FnExactHarderPuzzle.j0 k t279 t288 (t288 != t279) l0_0 t276 t281 t285) else (laws_FnExactHarderPuzzle.j0 k t279 t288 true l0_0 t276 t281 t285)) = some r := H
   have A37 := Aside0.mk A370
   clear A370
   by_cases c38 : t290 = true
   ·subst c38
    have H1 : (laws_FnExactHarderPuzzle.j0 k t279 t288 (t288 != t279) l0_0 t276 t281 t285) = some r := by rw [if_pos rfl] at H; exact H
    clear H
    have H := H1
    clear H1
    have H' := Aside0.mk H
    clear H
    have hnb39 := NB289_271.out
    have hnc39 := NB271_289.out
    have hnb40 := NB289_280.out
    have hnc40 := NB280_289.out
    have hnb41 := NB289_284.out
    have hnc41 := NB284_289.out
    have hcz42_0 : w31.cell? ⟨gb289, 0, none⟩ = some (.slice none 0 0) := (blk_cell BK289.out 0).trans rfl
    have hfz42_0 := blk_frozen BK289.out 0
    have hnb43 := NB280_271.out
    have hnc43 := NB271_280.out
    have hnb44 := NB280_284.out
    have hnc44 := NB284_280.out
    have hcz45_0 : w31.cell? ⟨gb280, 0, none⟩ = some (.slice Ao20 t276.length co20) := (blk_cell BK280.out 0).trans rfl
    have hfz45_0 := blk_frozen BK280.out 0
    go_wp2_with (first | ((with_reducible refine gate_callee (f := 29) rfl ?_); refine goesL_ (some 34) rfl rfl Tryd.func29 (by kernel_rfl) rfl #[.agg #[.slice Ao32 t285.length co32], .agg #[.slice Ao20 t276.length co20]] rfl (by (try simp only [List.map_toArray, List.map_cons, List.map_nil]); first | done | rfl | (simp only [List.length_drop, List.length_take]; rfl)) ?_; (with_reducible refine (laws_eqPuzzle.calls k _ _ t285 _ _ t276 true _ ?side1 ?side2 ?side3 ?side4 A37.out).mono ?_); (case side1 => refine (Kd.R_reads' (e := 42) (base := w.heap.size) (ok := fun k_ => (((True ∧ some k_ ≠ (.slice Ao17 t273.length co17 : Value).ownBlock) ∧ some k_ ≠ (.slice Ao20 t276.length co20 : Value).ownBlock) ∧ some k_ ≠ (.slice Ao26 t281.length co26 : Value).ownBlock)) (n := t285.length) (c := co32) ?_).2.2; exact (by (with_reducible repeat (first | apply Kd.R_alloc | apply Kd.R_drewN | apply Kd.R_drew)); exact (Kd.R_mono (Kd.R_far (p := ⟨gb289, 0, none⟩) (Kd.R_types HO287.out BK289.out (by decide)) (fun _ hk => hk.2) (.slice Ao32 t285.length co32)) (fun _ h_ => h_.1)))); (case side2 => exact (Kd.R_reads' HO287.out).2.1); (case side3 => refine (Kd.R_reads' (e := 42) (base := w.heap.size) (ok := fun k_ => (((True ∧ some k_ ≠ (.slice Ao17 t273.length co17 : Value).ownBlock) ∧ some k_ ≠ (.slice Ao26 t281.length co26 : Value).ownBlock) ∧ some k_ ≠ (.slice Ao32 t285.length co32 : Value).ownBlock)) (n := t276.length) (c := co20) ?_).2.2; exact (by (with_reducible repeat (first | apply Kd.R_alloc | apply Kd.R_drewN | apply Kd.R_drew)); exact (Kd.R_mono (Kd.R_far (p := ⟨gb289, 0, none⟩) (Kd.R_types HO278.out BK289.out (by decide)) (fun _ hk => hk.2) (.slice Ao32 t285.length co32)) (fun _ h_ => h_.1)))); (case side4 => exact (Kd.R_reads' HO278.out).2.1); rintro e w46 ⟨rfl, hb⟩; refine ⟨_, rfl, ?_⟩; have n0_ := Aside0.mk (Kd.R_below (by (with_reducible repeat (first | apply Kd.R_alloc | apply Kd.R_drewN | apply Kd.R_drew)); exact (Kd.R_mono (Kd.R_far (p := ⟨gb289, 0, none⟩) (Kd.R_types HO275.out BK289.out (by decide)) (fun _ hk => hk.2) (.slice Ao32 t285.length co32)) (fun _ h_ => h_.1))) hb); have n1_ := Aside0.mk (Kd.R_below (by (with_reducible repeat (first | apply Kd.R_alloc | apply Kd.R_drewN | apply Kd.R_drew)); exact (Kd.R_mono (Kd.R_far (p := ⟨gb289, 0, none⟩) (Kd.R_types HO278.out BK289.out (by decide)) (fun _ hk => hk.2) (.slice Ao32 t285.length co32)) (fun _ h_ => h_.1))) hb); have n2_ := Aside0.mk (Kd.R_below (by (with_reducible repeat (first | apply Kd.R_alloc | apply Kd.R_drewN | apply Kd.R_drew)); exact (Kd.R_mono (Kd.R_far (p := ⟨gb289, 0, none⟩) (Kd.R_types HO283.out BK289.out (by decide)) (fun _ hk => hk.2) (.slice Ao32 t285.length co32)) (fun _ h_ => h_.1))) hb); have n3_ := Aside0.mk (Kd.R_below (by (with_reducible repeat (first | apply Kd.R_alloc | apply Kd.R_drewN | apply Kd.R_drew)); exact (Kd.R_mono (Kd.R_far (p := ⟨gb289, 0, none⟩) (Kd.R_types HO287.out BK289.out (by decide)) (fun _ hk => hk.2) (.slice Ao32 t285.length co32)) (fun _ h_ => h_.1))) hb); have n4_ := Aside0.mk (blk_below (g := gb271) (o := .cells #[.slice A0_0 l0_0.length c0_0] 49 (0, 0)) (by (with_reducible repeat (first | refine blk_drewN ?_ _ | refine blk_drew ?_ | refine blk_alloc ?_ _)); refine blk_far ?_ NB271_289.out _; (with_reducible repeat (first | refine blk_drewN ?_ _ | refine blk_drew ?_ | refine blk_alloc ?_ _)); exact BK271.out) hb); have n5_ := Aside0.mk (blk_below (g := gb280) (o := .cells #[.slice Ao20 t276.length co20] 55 (0, 0)) (by (with_reducible repeat (first | refine blk_drewN ?_ _ | refine blk_drew ?_ | refine blk_alloc ?_ _)); refine blk_far ?_ NB280_289.out _; (with_reducible repeat (first | refine blk_drewN ?_ _ | refine blk_drew ?_ | refine blk_alloc ?_ _)); exact BK280.out) hb); have n6_ := Aside0.mk (blk_below (g := gb284) (o := .cells #[.slice Ao26 t281.length co26] 55 (0, 0)) (by (with_reducible repeat (first | refine blk_drewN ?_ _ | refine blk_drew ?_ | refine blk_alloc ?_ _)); refine blk_far ?_ NB284_289.out _; (with_reducible repeat (first | refine blk_drewN ?_ _ | refine blk_drew ?_ | refine blk_alloc ?_ _)); exact BK284.out) hb); have n7_ := Aside0.mk (blk_below (g := gb289) (o := .cells #[.slice Ao32 t285.length co32] 55 (0, 0)) (by (with_reducible repeat (first | refine blk_drewN ?_ _ | refine blk_drew ?_ | refine blk_alloc ?_ _)); refine blk_put (cs := #[.slice none 0 0]) ?_ 0 _ rfl; (with_reducible repeat (first | refine blk_drewN ?_ _ | refine blk_drew ?_ | refine blk_alloc ?_ _)); exact BK289.out) hb); have n8_ := Aside0.mk (below_step (Lam.al) hb); clear HO275; clear HO278; clear HO283; clear HO287; clear BK271; clear BK280; clear BK284; clear BK289; clear HB; have HO275 := n0_; have HO278 := n1_; have HO283 := n2_; have HO287 := n3_; have BK271 := n4_; have BK280 := n5_; have BK284 := n6_; have BK289 := n7_; have HB := n8_; clear n0_ n1_ n2_ n3_ n4_ n5_ n6_ n7_ n8_; (try clear hb); (try clear hb2); (try clear hk); (try clear hi)))
    go_meet
    case rel => exact ⟨_, ((t288 != t279)), (by first | rfl | (simp; done) | (simp [*]; done)), H', ⟨by first | omega | exact Nat.le_refl _⟩, ⟨by (with_reducible repeat (first | apply Kd.R_alloc | apply Kd.R_drewN | apply Kd.R_drew)); exact Kd.R_mono HO278.out (fun _ hk => ⟨hk.1.2, hk.2⟩)⟩, ⟨by (with_reducible repeat (first | apply Kd.R_alloc | apply Kd.R_drewN | apply Kd.R_drew)); exact Kd.R_mono HO283.out (fun _ hk => ⟨hk.1.2, hk.2⟩)⟩, ⟨by (with_reducible repeat (first | apply Kd.R_alloc | apply Kd.R_drewN | apply Kd.R_drew)); exact Kd.R_mono HO287.out (fun _ hk => ⟨hk.1.2, hk.2⟩)⟩, ⟨Lam.bq BK271.out⟩, ⟨Lam.bq BK280.out⟩, ⟨Lam.bq BK284.out⟩, ⟨Lam.bq BK289.out⟩, ⟨Lam.al⟩⟩
   ·replace c38 := Bool.eq_false_iff.mpr c38
    subst c38
    have H1 : (laws_FnExactHarderPuzzle.j0 k t279 t288 true l0_0 t276 t281 t285) = some r := by rw [if_neg (show ¬ (false = true) by decide)] at H; exact H
    clear H
    have H := H1
    clear H1
    have H' := Aside0.mk H
    clear H
    have hnb47 := NB289_271.out
    have hnc47 := NB271_289.out
    have hnb48 := NB289_280.out
    have hnc48 := NB280_289.out
    have hnb49 := NB289_284.out
    have hnc49 := NB284_289.out
    have hcz50_0 : w31.cell? ⟨gb289, 0, none⟩ = some (.slice none 0 0) := (blk_cell BK289.out 0).trans rfl
    have hfz50_0 := blk_frozen BK289.out 0
    have hnb51 := NB280_271.out
    have hnc51 := NB271_280.out
    have hnb52 := NB280_284.out
    have hnc52 := NB284_280.out
    have hcz53_0 : w31.cell? ⟨gb280, 0, none⟩ = some (.slice Ao20 t276.length co20) := (blk_cell BK280.out 0).trans rfl
    have hfz53_0 := blk_frozen BK280.out 0
    go_wp2_with (first | ((with_reducible refine gate_callee (f := 29) rfl ?_); refine goesL_ (some 34) rfl rfl Tryd.func29 (by kernel_rfl) rfl #[.agg #[.slice Ao32 t285.length co32], .agg #[.slice Ao20 t276.length co20]] rfl (by (try simp only [List.map_toArray, List.map_cons, List.map_nil]); first | done | rfl | (simp only [List.length_drop, List.length_take]; rfl)) ?_; (with_reducible refine (laws_eqPuzzle.calls k _ _ t285 _ _ t276 false _ ?side1 ?side2 ?side3 ?side4 A37.out).mono ?_); (case side1 => refine (Kd.R_reads' (e := 42) (base := w.heap.size) (ok := fun k_ => (((True ∧ some k_ ≠ (.slice Ao17 t273.length co17 : Value).ownBlock) ∧ some k_ ≠ (.slice Ao20 t276.length co20 : Value).ownBlock) ∧ some k_ ≠ (.slice Ao26 t281.length co26 : Value).ownBlock)) (n := t285.length) (c := co32) ?_).2.2; exact (by (with_reducible repeat (first | apply Kd.R_alloc | apply Kd.R_drewN | apply Kd.R_drew)); exact (Kd.R_mono (Kd.R_far (p := ⟨gb289, 0, none⟩) (Kd.R_types HO287.out BK289.out (by decide)) (fun _ hk => hk.2) (.slice Ao32 t285.length co32)) (fun _ h_ => h_.1)))); (case side2 => exact (Kd.R_reads' HO287.out).2.1); (case side3 => refine (Kd.R_reads' (e := 42) (base := w.heap.size) (ok := fun k_ => (((True ∧ some k_ ≠ (.slice Ao17 t273.length co17 : Value).ownBlock) ∧ some k_ ≠ (.slice Ao26 t281.length co26 : Value).ownBlock) ∧ some k_ ≠ (.slice Ao32 t285.length co32 : Value).ownBlock)) (n := t276.length) (c := co20) ?_).2.2; exact (by (with_reducible repeat (first | apply Kd.R_alloc | apply Kd.R_drewN | apply Kd.R_drew)); exact (Kd.R_mono (Kd.R_far (p := ⟨gb289, 0, none⟩) (Kd.R_types HO278.out BK289.out (by decide)) (fun _ hk => hk.2) (.slice Ao32 t285.length co32)) (fun _ h_ => h_.1)))); (case side4 => exact (Kd.R_reads' HO278.out).2.1); rintro e w54 ⟨rfl, hb⟩; refine ⟨_, rfl, ?_⟩; have n0_ := Aside0.mk (Kd.R_below (by (with_reducible repeat (first | apply Kd.R_alloc | apply Kd.R_drewN | apply Kd.R_drew)); exact (Kd.R_mono (Kd.R_far (p := ⟨gb289, 0, none⟩) (Kd.R_types HO275.out BK289.out (by decide)) (fun _ hk => hk.2) (.slice Ao32 t285.length co32)) (fun _ h_ => h_.1))) hb); have n1_ := Aside0.mk (Kd.R_below (by (with_reducible repeat (first | apply Kd.R_alloc | apply Kd.R_drewN | apply Kd.R_drew)); exact (Kd.R_mono (Kd.R_far (p := ⟨gb289, 0, none⟩) (Kd.R_types HO278.out BK289.out (by decide)) (fun _ hk => hk.2) (.slice Ao32 t285.length co32)) (fun _ h_ => h_.1))) hb); have n2_ := Aside0.mk (Kd.R_below (by (with_reducible repeat (first | apply Kd.R_alloc | apply Kd.R_drewN | apply Kd.R_drew)); exact (Kd.R_mono (Kd.R_far (p := ⟨gb289, 0, none⟩) (Kd.R_types HO283.out BK289.out (by decide)) (fun _ hk => hk.2) (.slice Ao32 t285.length co32)) (fun _ h_ => h_.1))) hb); have n3_ := Aside0.mk (Kd.R_below (by (with_reducible repeat (first | apply Kd.R_alloc | apply Kd.R_drewN | apply Kd.R_drew)); exact (Kd.R_mono (Kd.R_far (p := ⟨gb289, 0, none⟩) (Kd.R_types HO287.out BK289.out (by decide)) (fun _ hk => hk.2) (.slice Ao32 t285.length co32)) (fun _ h_ => h_.1))) hb); have n4_ := Aside0.mk (blk_below (g := gb271) (o := .cells #[.slice A0_0 l0_0.length c0_0] 49 (0, 0)) (by (with_reducible repeat (first | refine blk_drewN ?_ _ | refine blk_drew ?_ | refine blk_alloc ?_ _)); refine blk_far ?_ NB271_289.out _; (with_reducible repeat (first | refine blk_drewN ?_ _ | refine blk_drew ?_ | refine blk_alloc ?_ _)); exact BK271.out) hb); have n5_ := Aside0.mk (blk_below (g := gb280) (o := .cells #[.slice Ao20 t276.length co20] 55 (0, 0)) (by (with_reducible repeat (first | refine blk_drewN ?_ _ | refine blk_drew ?_ | refine blk_alloc ?_ _)); refine blk_far ?_ NB280_289.out _; (with_reducible repeat (first | refine blk_drewN ?_ _ | refine blk_drew ?_ | refine blk_alloc ?_ _)); exact BK280.out) hb); have n6_ := Aside0.mk (blk_below (g := gb284) (o := .cells #[.slice Ao26 t281.length co26] 55 (0, 0)) (by (with_reducible repeat (first | refine blk_drewN ?_ _ | refine blk_drew ?_ | refine blk_alloc ?_ _)); refine blk_far ?_ NB284_289.out _; (with_reducible repeat (first | refine blk_drewN ?_ _ | refine blk_drew ?_ | refine blk_alloc ?_ _)); exact BK284.out) hb); have n7_ := Aside0.mk (blk_below (g := gb289) (o := .cells #[.slice Ao32 t285.length co32] 55 (0, 0)) (by (with_reducible repeat (first | refine blk_drewN ?_ _ | refine blk_drew ?_ | refine blk_alloc ?_ _)); refine blk_put (cs := #[.slice none 0 0]) ?_ 0 _ rfl; (with_reducible repeat (first | refine blk_drewN ?_ _ | refine blk_drew ?_ | refine blk_alloc ?_ _)); exact BK289.out) hb); have n8_ := Aside0.mk (below_step (Lam.al) hb); clear HO275; clear HO278; clear HO283; clear HO287; clear BK271; clear BK280; clear BK284; clear BK289; clear HB; have HO275 := n0_; have HO278 := n1_; have HO283 := n2_; have HO287 := n3_; have BK271 := n4_; have BK280 := n5_; have BK284 := n6_; have BK289 := n7_; have HB := n8_; clear n0_ n1_ n2_ n3_ n4_ n5_ n6_ n7_ n8_; (try clear hb); (try clear hb2); (try clear hk); (try clear hi)))
    go_meet
    case rel => exact ⟨_, (true), (by first | rfl | (simp; done) | (simp [*]; done)), H', ⟨by first | omega | exact Nat.le_refl _⟩, ⟨by (with_reducible repeat (first | apply Kd.R_alloc | apply Kd.R_drewN | apply Kd.R_drew)); exact Kd.R_mono HO278.out (fun _ hk => ⟨hk.1.2, hk.2⟩)⟩, ⟨by (with_reducible repeat (first | apply Kd.R_alloc | apply Kd.R_drewN | apply Kd.R_drew)); exact Kd.R_mono HO283.out (fun _ hk => ⟨hk.1.2, hk.2⟩)⟩, ⟨by (with_reducible repeat (first | apply Kd.R_alloc | apply Kd.R_drewN | apply Kd.R_drew)); exact Kd.R_mono HO287.out (fun _ hk => ⟨hk.1.2, hk.2⟩)⟩, ⟨Lam.bq BK271.out⟩, ⟨Lam.bq BK280.out⟩, ⟨Lam.bq BK284.out⟩, ⟨Lam.bq BK289.out⟩, ⟨Lam.al⟩⟩
  case rest =>
   clear HC11
   try clear c1
   try clear c2
   try clear p2
   try clear c3
   try clear c3b0
   try clear c4
   try clear c5
   try clear c14
   try clear c21
   try clear c25
   try clear c27
   try clear c28
   try clear c29
   try clear c33
   try clear c34
   try clear c35
   try clear c38
   try clear c39
   try clear c40
   try clear c41
   try clear c43
   try clear c44
   try clear c47
   try clear c48
   try clear c49
   try clear c51
   try clear c52
   try clear c53
   try clear c54
   try clear hcz13_0
   try clear hcz15_0
   try clear hcz22_0
   try clear hcz23_0
   try clear hcz29_0
   try clear hcz36_0
   try clear hcz42_0
   try clear hcz45_0
   try clear hcz50_0
   try clear hcz53_0
   try clear hcz5_0
   try clear hfz13_0
   try clear hfz15_0
   try clear hfz22_0
   try clear hfz23_0
   try clear hfz29_0
   try clear hfz36_0
   try clear hfz42_0
   try clear hfz45_0
   try clear hfz50_0
   try clear hfz53_0
   try clear hfz5_0
   obtain ⟨kq, x40_10, rfl, HA, HJ10, HO_281000, HO_285000, HO_290000, BK271, BK280, BK284, BK289, HB⟩ := hcut
   cases kq with
   | zero => exact absurd HA.out (by simp [laws_FnExactHarderPuzzle.j0])
   | succ kj10 =>
    have H := HA.out
    clear HA
    simp only [laws_FnExactHarderPuzzle.j0] at H
    by_cases c55 : x40_10 = true
    ·subst c55
     have H1 : (none) = some r := by rw [if_pos rfl] at H; exact H
     clear H
     have H := H1
     clear H1
     exact absurd H (by simp)
    ·replace c55 := Bool.eq_false_iff.mpr c55
     subst c55
     have H1 : ((laws_toPuzzle.f kj10 l0_0).bind fun t291 => ((laws_eqPuzzle.f kj10 t281 t291).bind fun t294 => (if t294 = true then ((laws_markPuzzle.f kj10 t281 1).bind fun bt295 => (if bt295.1 < 0 then (laws_FnExactHarderPuzzle.j1 kj10 t279 true l0_0 t276 t285) else ((laws_eqPuzzle.f kj10 t285 t276).bind fun t297 => (if t297 = true then (laws_FnExactHarderPuzzle.j1 kj10 t279 (t288 != t279) l0_0 t276 t285) else (laws_FnExactHarderPuzzle.j1 kj10 t279 true l0_0 t276 t285))))) else (none)))) = some r := by rw [if_neg (show ¬ (false = true) by decide)] at H; exact H
     clear H
     have H := H1
     clear H1
     replace H := Option.bind_eq_some_iff.mp H
     obtain ⟨t291, A560, H⟩ := H
     replace H : ((laws_eqPuzzle.f kj10 t281 t291).bind fun t294 => (if t294 = true then ((laws_markPuzzle.f kj10 t281 1).bind fun bt295 => (if bt295.1 < 0 then (laws_FnExactHarderPuzzle.j1 kj10 t279 true l0_0 t276 t285) else ((laws_eqPuzzle.f kj10 t285 t276).bind fun t297 => (if t297 = true then (laws_FnExactHarderPuzzle.j1 kj10 t279 (t288 != t279) l0_0 t276 t285) else (laws_FnExactHarderPuzzle.j1 kj10 t279 true l0_0 t276 t285))))) else (none))) = some r := H
     have A56 := Aside0.mk A560
     clear A560
     replace H := Option.bind_eq_some_iff.mp H
     obtain ⟨t294, A570, H⟩ := H
     replace H : (if t294 = true then ((laws_markPuzzle.f kj10 t281 1).bind fun bt295 => (if bt295.1 < 0 then (laws_FnExactHarderPuzzle.j1 kj10 t279 true l0_0 t276 t285) else ((laws_eqPuzzle.f kj10 t285 t276).bind fun t297 => (if t297 = true then (laws_FnExactHarderPuzzle.j1 kj10 t279 (t288 != t279) l0_0 t276 t285) else (laws_FnExactHarderPuzzle.j1 kj10 t279 true l0_0 t276 t285))))) else (none)) = some r := H
     have A57 := Aside0.mk A570
     clear A570
     by_cases c58 : t294 = true
     ·subst c58
      have H1 : ((laws_markPuzzle.f kj10 t281 1).bind fun bt295 => (if bt295.1 < 0 then (laws_FnExactHarderPuzzle.j1 kj10 t279 true l0_0 t276 t285) else ((laws_eqPuzzle.f kj10 t285 t276).bind fun t297 => (if t297 = true then (laws_FnExactHarderPuzzle.j1 kj10 t279 (t288 != t279) l0_0 t276 t285) else (laws_FnExactHarderPuzzle.j1 kj10 t279 true l0_0 t276 t285))))) = some r := by rw [if_pos rfl] at H; exact H
      clear H
      have H := H1
      clear H1
      replace H := Option.bind_eq_some_iff.mp H
      obtain ⟨⟨t295, t296⟩, A590, H⟩ := H
      replace H : (if t295 < 0 then (laws_FnExactHarderPuzzle.j1 kj10 t279 true l0_0 t276 t285) else ((laws_eqPuzzle.f kj10 t285 t276).bind fun t297 => (if t297 = true then (laws_FnExactHarderPuzzle.j1 kj10 t279 (t288 != t279) l0_0 t276 t285) else (laws_FnExactHarderPuzzle.j1 kj10 t279 true l0_0 t276 t285)))) = some r := H
      have A59 := Aside0.mk A590
      clear A590
      have HC60 := Aside0.mk H
      clear H
      try go_wp2
      have n0_ := Aside0.mk (Kd.R_drew HO_281000.out)
      have n1_ := Aside0.mk (Kd.R_drew HO_285000.out)
      have n2_ := Aside0.mk (Kd.R_drew HO_290000.out)
      have n3_ := Aside0.mk (blk_drew BK271.out)
      have n4_ := Aside0.mk (blk_drew BK280.out)
      have n5_ := Aside0.mk (blk_drew BK284.out)
      have n6_ := Aside0.mk (blk_drew BK289.out)
      have n7_ := Aside0.mk (below_drew1 HB.out)
      clear HO_281000
      clear HO_285000
      clear HO_290000
      clear BK271
      clear BK280
      clear BK284
      clear BK289
      clear HB
      have HO_281000 := n0_
      have HO_285000 := n1_
      have HO_290000 := n2_
      have BK271 := n3_
      have BK280 := n4_
      have BK284 := n5_
      have BK289 := n6_
      have HB := n7_
      clear n0_ n1_ n2_ n3_ n4_ n5_ n6_ n7_
      refine start_ (n := 5) (S := fun w' => w'.cell? ⟨gb284, 0, none⟩ = some (.slice Ao26 t281.length co26) ∧ w'.cell? ⟨gb271, 0, none⟩ = some (.slice A0_0 l0_0.length c0_0)) (ds := []) #[false, false, false, false, false] (by kernel_rfl) rfl rfl ⟨(blk_cell BK284.out 0).trans rfl, (blk_cell BK271.out 0).trans rfl⟩ (fun hHeld => ?_)
      generalize wc.drew = w61 at HO_281000 HO_285000 HO_290000 BK271 BK280 BK284 BK289 HB hHeld ⊢
      refine take_ (i := 0) (N := some 41) (v := ?_) (a' := ?_) #[true, false, false, false, false] rfl rfl (by kernel_rfl) (fun _ _ _ h => h) (Or.inl ⟨by rfl, ?_⟩) hHeld ?_ ?_
      rotate_left
      ·rintro w' ⟨s0, s1⟩
       go_simp
       with_reducible rfl
      rotate_left
      ·simp only [Act.put, Lam.pa, Lam.pb, Lam.pc, i64_w, i32_w]
       rfl
      refine take_ (i := 1) (N := some 42) (v := ?_) (a' := ?_) #[true, true, false, false, false] rfl rfl (by kernel_rfl) (fun _ _ _ h => h) (Or.inl ⟨by rfl, ?_⟩) hHeld ?_ ?_
      rotate_left
      ·rintro w' ⟨s0, s1⟩
       go_simp
       with_reducible rfl
      rotate_left
      ·simp only [Act.put, Lam.pa, Lam.pb, Lam.pc, i64_w, i32_w]
       rfl
      refine one_ (i := 2) (N := some 43) #[true, true, true, false, false] rfl rfl (by kernel_rfl) (by decide) (fun K hK => ?_)
      refine goes_ Tryd.func27 (by kernel_rfl) rfl #[.agg #[.slice A0_0 l0_0.length c0_0]] (by rfl) rfl rfl (by (try simp only [List.map_toArray, List.map_cons, List.map_nil]); first | done | rfl | (simp only [List.length_drop, List.length_take]; rfl)) ?_
      with_reducible refine (laws_toPuzzle.calls kj10 _ _ l0_0 t291 _ ?side1 ?side2 A56.out).mono ?_
      (case side1 => repeat (first | exact (Kd.C_below HR0_0.out HB.out) | (with_reducible refine Kd.C_alloc ?_ _) | (with_reducible refine Kd.C_drewN ?_ _) | (with_reducible refine Kd.C_drew ?_)))
      (case side2 => exact HC0_0.out)
      rintro e w62 ⟨v292, rfl, ho0, hb⟩
      refine ⟨_, rfl, ?_⟩
      have n0_ := Aside0.mk (Kd.R_elder' (Lam.rq HO_281000.out) (Kd.R_base ho0) hb)
      have n1_ := Aside0.mk (Kd.R_elder' (Lam.rq HO_285000.out) (Kd.R_base ho0) hb)
      have n2_ := Aside0.mk (Kd.R_elder' (Lam.rq HO_290000.out) (Kd.R_base ho0) hb)
      have n3_ := Aside0.mk (Kd.R_lower (Kd.R_new' (Kd.R_new' (Kd.R_new' ho0 (Kd.R_lt (Lam.rq HO_281000.out))) (Kd.R_lt (Lam.rq HO_285000.out))) (Kd.R_lt (Lam.rq HO_290000.out))) (below_size (Lam.al)))
      have n4_ := Aside0.mk (blk_below (g := gb271) (o := .cells #[.slice A0_0 l0_0.length c0_0] 49 (0, 0)) (Lam.bq BK271.out) hb)
      have n5_ := Aside0.mk (blk_below (g := gb280) (o := .cells #[.slice Ao20 t276.length co20] 55 (0, 0)) (Lam.bq BK280.out) hb)
      have n6_ := Aside0.mk (blk_below (g := gb284) (o := .cells #[.slice Ao26 t281.length co26] 55 (0, 0)) (Lam.bq BK284.out) hb)
      have n7_ := Aside0.mk (blk_below (g := gb289) (o := .cells #[.slice Ao32 t285.length co32] 55 (0, 0)) (Lam.bq BK289.out) hb)
      have n8_ := Aside0.mk (below_step (Lam.al) hb)
      clear HO_281000
      clear HO_285000
      clear HO_290000
      clear BK271
      clear BK280
      clear BK284
      clear BK289
      clear HB
      have HO_281000 := n0_
      have HO_285000 := n1_
      have HO_290000 := n2_
      have HO293 := n3_
      have BK271 := n4_
      have BK280 := n5_
      have BK284 := n6_
      have BK289 := n7_
      have HB := n8_
      clear n0_ n1_ n2_ n3_ n4_ n5_ n6_ n7_ n8_
      (try clear hb)
      (try clear hb2)
      (try clear hk)
      (try clear hi)
      (try clear ho0)
      obtain ⟨Ao63, co63, eo63⟩ := Kd.R_slice HO293.out
      (first | subst eo63 | (injection eo63 with f1_ f2_ f3_; have f4_ := f1_.symm; have f5_ := f3_.symm; clear f1_ f2_ f3_; subst f4_; subst f5_))
      refine hK.out _ _ ⟨(blk_cell BK284.out 0).trans rfl, (blk_cell BK271.out 0).trans rfl⟩ (fun hHeld => ?_)
      clear hK K
      refine norm_ (a' := ?_) ?_ ?_
      rotate_left
      ·show Act.put _ (some 43) _ = _
       simp only [Act.put, Lam.pa, Lam.pb, Lam.pc, i64_w, i32_w]
       rfl
      refine one_ (i := 3) (N := some 44) #[true, true, true, true, false] rfl rfl (by kernel_rfl) (by decide) (fun K hK => ?_)
      refine goes_ Tryd.func29 (by kernel_rfl) rfl #[.agg #[.slice Ao26 t281.length co26], .agg #[.slice Ao63 t291.length co63]] (by rfl) rfl rfl (by (try simp only [List.map_toArray, List.map_cons, List.map_nil]); first | done | rfl | (simp only [List.length_drop, List.length_take]; rfl)) ?_
      with_reducible refine (laws_eqPuzzle.calls kj10 _ _ t281 _ _ t291 true _ ?side1 ?side2 ?side3 ?side4 A57.out).mono ?_
      (case side1 => repeat (first | exact (Kd.R_reads' HO_285000.out).2.2 | (with_reducible refine Kd.C_alloc ?_ _) | (with_reducible refine Kd.C_drewN ?_ _) | (with_reducible refine Kd.C_drew ?_)))
      (case side2 => exact (Kd.R_reads' HO_285000.out).2.1)
      (case side3 => repeat (first | exact (Kd.R_reads' HO293.out).2.2 | (with_reducible refine Kd.C_alloc ?_ _) | (with_reducible refine Kd.C_drewN ?_ _) | (with_reducible refine Kd.C_drew ?_)))
      (case side4 => exact (Kd.R_reads' HO293.out).2.1)
      rintro e w64 ⟨rfl, hb⟩
      refine ⟨_, rfl, ?_⟩
      have n0_ := Aside0.mk (Kd.R_below (Lam.rq HO_281000.out) hb)
      have n1_ := Aside0.mk (Kd.R_below (Lam.rq HO_285000.out) hb)
      have n2_ := Aside0.mk (Kd.R_below (Lam.rq HO_290000.out) hb)
      have n3_ := Aside0.mk (Kd.R_below (Lam.rq HO293.out) hb)
      have n4_ := Aside0.mk (blk_below (g := gb271) (o := .cells #[.slice A0_0 l0_0.length c0_0] 49 (0, 0)) (Lam.bq BK271.out) hb)
      have n5_ := Aside0.mk (blk_below (g := gb280) (o := .cells #[.slice Ao20 t276.length co20] 55 (0, 0)) (Lam.bq BK280.out) hb)
      have n6_ := Aside0.mk (blk_below (g := gb284) (o := .cells #[.slice Ao26 t281.length co26] 55 (0, 0)) (Lam.bq BK284.out) hb)
      have n7_ := Aside0.mk (blk_below (g := gb289) (o := .cells #[.slice Ao32 t285.length co32] 55 (0, 0)) (Lam.bq BK289.out) hb)
      have n8_ := Aside0.mk (below_step (Lam.al) hb)
      clear HO_281000
      clear HO_285000
      clear HO_290000
      clear HO293
      clear BK271
      clear BK280
      clear BK284
      clear BK289
      clear HB
      have HO_281000 := n0_
      have HO_285000 := n1_
      have HO_290000 := n2_
      have HO293 := n3_
      have BK271 := n4_
      have BK280 := n5_
      have BK284 := n6_
      have BK289 := n7_
      have HB := n8_
      clear n0_ n1_ n2_ n3_ n4_ n5_ n6_ n7_ n8_
      (try clear hb)
      (try clear hb2)
      (try clear hk)
      (try clear hi)
      refine hK.out _ _ ⟨(blk_cell BK284.out 0).trans rfl, (blk_cell BK271.out 0).trans rfl⟩ (fun hHeld => ?_)
      clear hK K
      refine norm_ (a' := ?_) ?_ ?_
      rotate_left
      ·show Act.put _ (some 44) _ = _
       simp only [Act.put, Lam.pa, Lam.pb, Lam.pc, i64_w, i32_w]
       rfl
      refine pure_ (i := 4) (N := some 45) (v := ?_) (a' := ?_) #[true, true, true, true, true] rfl rfl (by kernel_rfl) (fun _ _ _ h => h) (Or.inl ⟨by rfl, ?_⟩) ?_ ?_
      rotate_left
      ·intro w'
       go_simp
       with_reducible rfl
      rotate_left
      ·simp only [Act.put, Lam.pa, Lam.pb, Lam.pc, i64_w, i32_w]
       rfl
      refine done_ (by kernel_rfl) ?_
      have hnb65 := NB284_271.out
      have hnc65 := NB271_284.out
      have hnb66 := NB284_280.out
      have hnc66 := NB280_284.out
      have hnb67 := NB284_289.out
      have hnc67 := NB289_284.out
      have hcz68_0 : w64.cell? ⟨gb284, 0, none⟩ = some (.slice Ao26 t281.length co26) := (blk_cell BK284.out 0).trans rfl
      have hfz68_0 := blk_frozen BK284.out 0
      go_upto_region 14 with (first | ((with_reducible refine gate_callee (f := 37) rfl ?_); refine goesL_ (some 48) rfl rfl Tryd.func37 (by kernel_rfl) rfl #[.agg #[.slice Ao26 t281.length co26], .int .i64 1] rfl (by (try simp only [List.map_toArray, List.map_cons, List.map_nil]); first | done | rfl | (simp only [List.length_drop, List.length_take]; rfl)) ?_; (with_reducible refine (laws_markPuzzle.calls kj10 (fun k_ => some k_ = (.slice Ao26 t281.length co26 : Value).ownBlock) (.slice Ao26 t281.length co26) t281 1 t295 t296 w _ ?side1 ?side2 A59.out).mono ?_); (case side1 => repeat (first | (with_reducible first | exact HB.out | apply below_alloc | apply pw_below_drewN | apply below_drew1 | refine below_set ?_ GE271.out | refine below_set ?_ GE280.out | refine below_set ?_ GE284.out | refine below_set ?_ GE289.out) | exact HB.out)); (case side2 => exact Kd.R_tight rfl HO_285000.out); rintro e w69 ⟨rfl, hy0, hb, hkp⟩; refine ⟨_, rfl, ?_⟩; have n0_ := Aside0.mk (Kd.R_mono (ok' := fun k_ => some k_ ≠ (.slice Ao26 t281.length co26 : Value).ownBlock ∧ some k_ ≠ (.slice Ao32 t285.length co32 : Value).ownBlock ∧ some k_ ≠ (.slice Ao63 t291.length co63 : Value).ownBlock) (Kd.R_keptB (HO_281000.out) hkp (fun k_ hk_ hs_ => (hk_.1.1) hs_)) (fun k_ hk_ => ⟨hk_.1.1.1, hk_.1.1.2, hk_.1.2⟩)); have n1_ := Aside0.mk (Kd.R_reok rfl hy0 (fun k_ e_ => HO_285000.out.1 k_ e_)); have n2_ := Aside0.mk (Kd.R_mono (ok' := fun k_ => some k_ ≠ (.slice Ao20 t276.length co20 : Value).ownBlock ∧ some k_ ≠ (.slice Ao26 t281.length co26 : Value).ownBlock ∧ some k_ ≠ (.slice Ao63 t291.length co63 : Value).ownBlock) (Kd.R_keptB (HO_290000.out) hkp (fun k_ hk_ hs_ => (hk_.1.2) hs_)) (fun k_ hk_ => ⟨hk_.1.1.1, hk_.1.1.2, hk_.1.2⟩)); have n3_ := Aside0.mk (blk_kept (Lam.bq BK271.out) hkp (fun hs_ => (fun e_ => (Kd.R_ne HO_285000.out BK271.out (by decide)) e_) hs_)); have n4_ := Aside0.mk (blk_kept (Lam.bq BK280.out) hkp (fun hs_ => (fun e_ => (Kd.R_ne HO_285000.out BK280.out (by decide)) e_) hs_)); have n5_ := Aside0.mk (blk_kept (Lam.bq BK284.out) hkp (fun hs_ => (fun e_ => (Kd.R_ne HO_285000.out BK284.out (by decide)) e_) hs_)); have n6_ := Aside0.mk (blk_kept (Lam.bq BK289.out) hkp (fun hs_ => (fun e_ => (Kd.R_ne HO_285000.out BK289.out (by decide)) e_) hs_)); have n7_ := Aside0.mk (Kd.R_mono (ok' := fun k_ => some k_ ≠ (.slice Ao20 t276.length co20 : Value).ownBlock ∧ some k_ ≠ (.slice Ao26 t281.length co26 : Value).ownBlock ∧ some k_ ≠ (.slice Ao32 t285.length co32 : Value).ownBlock) (Kd.R_keptB (HO293.out) hkp (fun k_ hk_ hs_ => (hk_.1.2) hs_)) (fun k_ hk_ => ⟨hk_.1.1.1.2, hk_.1.1.2, hk_.1.2⟩)); have n8_ := Aside0.mk (hb); clear HO_281000; clear HO_285000; clear HO_290000; clear BK271; clear BK280; clear BK284; clear BK289; clear HO293; clear HB; have HO_281000 := n0_; have HO_285000 := n1_; have HO_290000 := n2_; have BK271 := n3_; have BK280 := n4_; have BK284 := n5_; have BK289 := n6_; have HO293 := n7_; have HB := n8_; clear n0_ n1_ n2_ n3_ n4_ n5_ n6_ n7_ n8_; (try clear hb); (try clear hkp); (try clear hy0)))
      (try simp only [Act.put, Lam.pa, Lam.pb, Lam.pc])
      go_cut [61] (fun v61 wc => ∃ (kq : Nat) (x61_59 : Bool), v61 = .bool x61_59 ∧ Aside0 (laws_FnExactHarderPuzzle.j1 kq t279 x61_59 l0_0 t276 t285 = some r) ∧ Aside0 (kq ≤ kj10) ∧ Aside0 (Kd.R k42 42 wc w.heap.size (fun k_ => some k_ ≠ ((.slice Ao26 t281.length co26) : Value).ownBlock ∧ some k_ ≠ ((.slice Ao32 t285.length co32) : Value).ownBlock) (.slice Ao20 t276.length co20) t276) ∧ Aside0 (Kd.R k42 42 wc w.heap.size (fun k_ => some k_ ≠ ((.slice Ao20 t276.length co20) : Value).ownBlock ∧ some k_ ≠ ((.slice Ao32 t285.length co32) : Value).ownBlock) (.slice Ao26 t281.length co26) t296) ∧ Aside0 (Kd.R k42 42 wc w.heap.size (fun k_ => some k_ ≠ ((.slice Ao20 t276.length co20) : Value).ownBlock ∧ some k_ ≠ ((.slice Ao26 t281.length co26) : Value).ownBlock) (.slice Ao32 t285.length co32) t285) ∧ Aside0 (wc.heap[gb271]? = some (.cells #[(.slice A0_0 l0_0.length c0_0)] 49 (0, 0))) ∧ Aside0 (wc.heap[gb280]? = some (.cells #[(.slice Ao20 t276.length co20)] 55 (0, 0))) ∧ Aside0 (wc.heap[gb284]? = some (.cells #[(.slice Ao26 t281.length co26)] 55 (0, 0))) ∧ Aside0 (wc.heap[gb289]? = some (.cells #[(.slice Ao32 t285.length co32)] 55 (0, 0))) ∧ Aside0 (Below w.heap.size w wc))
      case first =>
       have H := HC60.out
       clear HC60
       by_cases c70 : t295 < 0
       ·rw [if_pos c70] at H
        have c70b0 : decide (t295 < 0) = true := decide_eq_true c70
        clear c70
        (first | rw [c70b0] | (simp only [i64_w, i32_w]; rw [c70b0]) | skip)
        have H' := Aside0.mk H
        clear H
        go_wp2
        go_meet
        case rel => exact ⟨_, (true), (by first | rfl | (simp; done) | (simp [*]; done)), H', ⟨by have := HJ10.out; first | omega | exact Nat.le_refl _⟩, ⟨by (with_reducible repeat (first | apply Kd.R_alloc | apply Kd.R_drewN | apply Kd.R_drew)); exact Kd.R_mono HO_281000.out (fun _ hk => ⟨hk.1, hk.2.1⟩)⟩, ⟨by (with_reducible repeat (first | apply Kd.R_alloc | apply Kd.R_drewN | apply Kd.R_drew)); exact Kd.R_mono HO_285000.out (fun _ hk => ⟨hk.1.1, hk.1.2⟩)⟩, ⟨by (with_reducible repeat (first | apply Kd.R_alloc | apply Kd.R_drewN | apply Kd.R_drew)); exact Kd.R_mono HO_290000.out (fun _ hk => ⟨hk.1, hk.2.1⟩)⟩, ⟨Lam.bq BK271.out⟩, ⟨Lam.bq BK280.out⟩, ⟨Lam.bq BK284.out⟩, ⟨Lam.bq BK289.out⟩, ⟨Lam.al⟩⟩
       ·rw [if_neg c70] at H
        have c70b0 : decide (t295 < 0) = false := decide_eq_false c70
        clear c70
        (first | rw [c70b0] | (simp only [i64_w, i32_w]; rw [c70b0]) | skip)
        replace H := Option.bind_eq_some_iff.mp H
        obtain ⟨t297, A710, H⟩ := H
        replace H : (if t297 = true then (laws_FnExactHarderPuzzle.j1 kj10 t279 (t288 != t279) l0_0 t276 t285) else (laws_FnExactHarderPuzzle.j1 kj10 t279 true l0_0 t276 t285)) = some r := H
        have A71 := Aside0.mk A710
        clear A710
        by_cases c72 : t297 = true
        ·subst c72
         have H1 : (laws_FnExactHarderPuzzle.j1 kj10 t279 (t288 != t279) l0_0 t276 t285) = some r := by rw [if_pos rfl] at H; exact H
         clear H
         have H := H1
         clear H1
         have H' := Aside0.mk H
         clear H
         have hnb73 := NB289_271.out
         have hnc73 := NB271_289.out
         have hnb74 := NB289_280.out
         have hnc74 := NB280_289.out
         have hnb75 := NB289_284.out
         have hnc75 := NB284_289.out
         have hcz76_0 : w69.cell? ⟨gb289, 0, none⟩ = some (.slice Ao32 t285.length co32) := (blk_cell BK289.out 0).trans rfl
         have hfz76_0 := blk_frozen BK289.out 0
         have hnb77 := NB280_271.out
         have hnc77 := NB271_280.out
         have hnb78 := NB280_284.out
         have hnc78 := NB284_280.out
         have hcz79_0 : w69.cell? ⟨gb280, 0, none⟩ = some (.slice Ao20 t276.length co20) := (blk_cell BK280.out 0).trans rfl
         have hfz79_0 := blk_frozen BK280.out 0
         go_wp2_with (first | (go_at_call 29; (with_reducible refine (laws_eqPuzzle.calls kj10 _ _ t285 _ _ t276 true _ ?side1 ?side2 ?side3 ?side4 A71.out).mono ?_); (case side1 => repeat (first | exact (Kd.R_reads' HO_290000.out).2.2 | (with_reducible refine Kd.C_alloc ?_ _) | (with_reducible refine Kd.C_drewN ?_ _) | (with_reducible refine Kd.C_drew ?_))); (case side2 => exact (Kd.R_reads' HO_290000.out).2.1); (case side3 => repeat (first | exact (Kd.R_reads' HO_281000.out).2.2 | (with_reducible refine Kd.C_alloc ?_ _) | (with_reducible refine Kd.C_drewN ?_ _) | (with_reducible refine Kd.C_drew ?_))); (case side4 => exact (Kd.R_reads' HO_281000.out).2.1); rintro e w80 ⟨rfl, hb⟩; have n0_ := Aside0.mk (Kd.R_below (Lam.rq HO_281000.out) hb); have n1_ := Aside0.mk (Kd.R_below (Lam.rq HO_285000.out) hb); have n2_ := Aside0.mk (Kd.R_below (Lam.rq HO_290000.out) hb); have n3_ := Aside0.mk (Kd.R_below (Lam.rq HO293.out) hb); have n4_ := Aside0.mk (blk_below (g := gb271) (o := .cells #[.slice A0_0 l0_0.length c0_0] 49 (0, 0)) (Lam.bq BK271.out) hb); have n5_ := Aside0.mk (blk_below (g := gb280) (o := .cells #[.slice Ao20 t276.length co20] 55 (0, 0)) (Lam.bq BK280.out) hb); have n6_ := Aside0.mk (blk_below (g := gb284) (o := .cells #[.slice Ao26 t281.length co26] 55 (0, 0)) (Lam.bq BK284.out) hb); have n7_ := Aside0.mk (blk_below (g := gb289) (o := .cells #[.slice Ao32 t285.length co32] 55 (0, 0)) (Lam.bq BK289.out) hb); have n8_ := Aside0.mk (below_step (Lam.al) hb); clear HO_281000; clear HO_285000; clear HO_290000; clear HO293; clear BK271; clear BK280; clear BK284; clear BK289; clear HB; have HO_281000 := n0_; have HO_285000 := n1_; have HO_290000 := n2_; have HO293 := n3_; have BK271 := n4_; have BK280 := n5_; have BK284 := n6_; have BK289 := n7_; have HB := n8_; clear n0_ n1_ n2_ n3_ n4_ n5_ n6_ n7_ n8_; (try clear hb); (try clear hb2); (try clear hk); (try clear hi)))
         go_meet
         case rel => exact ⟨_, ((t288 != t279)), (by first | rfl | (simp; done) | (simp [*]; done)), H', ⟨by have := HJ10.out; first | omega | exact Nat.le_refl _⟩, ⟨by (with_reducible repeat (first | apply Kd.R_alloc | apply Kd.R_drewN | apply Kd.R_drew)); exact Kd.R_mono HO_281000.out (fun _ hk => ⟨hk.1, hk.2.1⟩)⟩, ⟨by (with_reducible repeat (first | apply Kd.R_alloc | apply Kd.R_drewN | apply Kd.R_drew)); exact Kd.R_mono HO_285000.out (fun _ hk => ⟨hk.1.1, hk.1.2⟩)⟩, ⟨by (with_reducible repeat (first | apply Kd.R_alloc | apply Kd.R_drewN | apply Kd.R_drew)); exact Kd.R_mono HO_290000.out (fun _ hk => ⟨hk.1, hk.2.1⟩)⟩, ⟨Lam.bq BK271.out⟩, ⟨Lam.bq BK280.out⟩, ⟨Lam.bq BK284.out⟩, ⟨Lam.bq BK289.out⟩, ⟨Lam.al⟩⟩
        ·replace c72 := Bool.eq_false_iff.mpr c72
         subst c72
         have H1 : (laws_FnExactHarderPuzzle.j1 kj10 t279 true l0_0 t276 t285) = some r := by rw [if_neg (show ¬ (false = true) by decide)] at H; exact H
         clear H
         have H := H1
         clear H1
         have H' := Aside0.mk H
         clear H
         have hnb81 := NB289_271.out
         have hnc81 := NB271_289.out
         have hnb82 := NB289_280.out
         have hnc82 := NB280_289.out
         have hnb83 := NB289_284.out
         have hnc83 := NB284_289.out
         have hcz84_0 : w69.cell? ⟨gb289, 0, none⟩ = some (.slice Ao32 t285.length co32) := (blk_cell BK289.out 0).trans rfl
         have hfz84_0 := blk_frozen BK289.out 0
         have hnb85 := NB280_271.out
         have hnc85 := NB271_280.out
         have hnb86 := NB280_284.out
         have hnc86 := NB284_280.out
         have hcz87_0 : w69.cell? ⟨gb280, 0, none⟩ = some (.slice Ao20 t276.length co20) := (blk_cell BK280.out 0).trans rfl
         have hfz87_0 := blk_frozen BK280.out 0
         go_wp2_with (first | (go_at_call 29; (with_reducible refine (laws_eqPuzzle.calls kj10 _ _ t285 _ _ t276 false _ ?side1 ?side2 ?side3 ?side4 A71.out).mono ?_); (case side1 => repeat (first | exact (Kd.R_reads' HO_290000.out).2.2 | (with_reducible refine Kd.C_alloc ?_ _) | (with_reducible refine Kd.C_drewN ?_ _) | (with_reducible refine Kd.C_drew ?_))); (case side2 => exact (Kd.R_reads' HO_290000.out).2.1); (case side3 => repeat (first | exact (Kd.R_reads' HO_281000.out).2.2 | (with_reducible refine Kd.C_alloc ?_ _) | (with_reducible refine Kd.C_drewN ?_ _) | (with_reducible refine Kd.C_drew ?_))); (case side4 => exact (Kd.R_reads' HO_281000.out).2.1); rintro e w88 ⟨rfl, hb⟩; have n0_ := Aside0.mk (Kd.R_below (Lam.rq HO_281000.out) hb); have n1_ := Aside0.mk (Kd.R_below (Lam.rq HO_285000.out) hb); have n2_ := Aside0.mk (Kd.R_below (Lam.rq HO_290000.out) hb); have n3_ := Aside0.mk (Kd.R_below (Lam.rq HO293.out) hb); have n4_ := Aside0.mk (blk_below (g := gb271) (o := .cells #[.slice A0_0 l0_0.length c0_0] 49 (0, 0)) (Lam.bq BK271.out) hb); have n5_ := Aside0.mk (blk_below (g := gb280) (o := .cells #[.slice Ao20 t276.length co20] 55 (0, 0)) (Lam.bq BK280.out) hb); have n6_ := Aside0.mk (blk_below (g := gb284) (o := .cells #[.slice Ao26 t281.length co26] 55 (0, 0)) (Lam.bq BK284.out) hb); have n7_ := Aside0.mk (blk_below (g := gb289) (o := .cells #[.slice Ao32 t285.length co32] 55 (0, 0)) (Lam.bq BK289.out) hb); have n8_ := Aside0.mk (below_step (Lam.al) hb); clear HO_281000; clear HO_285000; clear HO_290000; clear HO293; clear BK271; clear BK280; clear BK284; clear BK289; clear HB; have HO_281000 := n0_; have HO_285000 := n1_; have HO_290000 := n2_; have HO293 := n3_; have BK271 := n4_; have BK280 := n5_; have BK284 := n6_; have BK289 := n7_; have HB := n8_; clear n0_ n1_ n2_ n3_ n4_ n5_ n6_ n7_ n8_; (try clear hb); (try clear hb2); (try clear hk); (try clear hi)))
         go_meet
         case rel => exact ⟨_, (true), (by first | rfl | (simp; done) | (simp [*]; done)), H', ⟨by have := HJ10.out; first | omega | exact Nat.le_refl _⟩, ⟨by (with_reducible repeat (first | apply Kd.R_alloc | apply Kd.R_drewN | apply Kd.R_drew)); exact Kd.R_mono HO_281000.out (fun _ hk => ⟨hk.1, hk.2.1⟩)⟩, ⟨by (with_reducible repeat (first | apply Kd.R_alloc | apply Kd.R_drewN | apply Kd.R_drew)); exact Kd.R_mono HO_285000.out (fun _ hk => ⟨hk.1.1, hk.1.2⟩)⟩, ⟨by (with_reducible repeat (first | apply Kd.R_alloc | apply Kd.R_drewN | apply Kd.R_drew)); exact Kd.R_mono HO_290000.out (fun _ hk => ⟨hk.1, hk.2.1⟩)⟩, ⟨Lam.bq BK271.out⟩, ⟨Lam.bq BK280.out⟩, ⟨Lam.bq BK284.out⟩, ⟨Lam.bq BK289.out⟩, ⟨Lam.al⟩⟩
      case rest =>
       clear HC60
       try clear c1
       try clear c2
       try clear p2
       try clear c3
       try clear c3b0
       try clear c4
       try clear c5
       try clear c6
       try clear c7
       try clear c8
       try clear c14
       try clear c21
       try clear c25
       try clear c27
       try clear c28
       try clear c29
       try clear c33
       try clear c34
       try clear c35
       try clear c37
       try clear c38
       try clear c39
       try clear c40
       try clear c41
       try clear c43
       try clear c44
       try clear c47
       try clear c48
       try clear c49
       try clear c51
       try clear c52
       try clear c53
       try clear c54
       try clear c55
       try clear c58
       try clear c65
       try clear c66
       try clear c67
       try clear c70
       try clear c70b0
       try clear c72
       try clear c73
       try clear c74
       try clear c75
       try clear c77
       try clear c78
       try clear c81
       try clear c82
       try clear c83
       try clear c85
       try clear c86
       try clear hcz13_0
       try clear hcz15_0
       try clear hcz22_0
       try clear hcz23_0
       try clear hcz29_0
       try clear hcz36_0
       try clear hcz42_0
       try clear hcz45_0
       try clear hcz50_0
       try clear hcz53_0
       try clear hcz5_0
       try clear hcz68_0
       try clear hcz76_0
       try clear hcz79_0
       try clear hcz84_0
       try clear hcz87_0
       try clear hfz13_0
       try clear hfz15_0
       try clear hfz22_0
       try clear hfz23_0
       try clear hfz29_0
       try clear hfz36_0
       try clear hfz42_0
       try clear hfz45_0
       try clear hfz50_0
       try clear hfz53_0
       try clear hfz5_0
       try clear hfz68_0
       try clear hfz76_0
       try clear hfz79_0
       try clear hfz84_0
       try clear hfz87_0
       try clear p2
       obtain ⟨kq, x61_59, rfl, HA, HJ59, HO_281000, HO_285000, HO_290000, BK271, BK280, BK284, BK289, HB⟩ := hcut
       have hl285000_59 := (Kd.R_reads' HO_285000.out).1
       rw [hl285000_59] at HO_285000
       (try simp only [hl285000_59])
       (try simp only [hl285000_59] at BK271)
       (try simp only [hl285000_59] at BK280)
       (try simp only [hl285000_59] at BK284)
       (try simp only [hl285000_59] at BK289)
       (try simp only [hl285000_59] at HO_281000)
       (try simp only [hl285000_59] at HO_290000)
       cases kq with
       | zero => exact absurd HA.out (by simp [laws_FnExactHarderPuzzle.j1])
       | succ kj59 =>
        have H := HA.out
        clear HA
        simp only [laws_FnExactHarderPuzzle.j1] at H
        by_cases c89 : x61_59 = true
        ·subst c89
         have H1 : (none) = some r := by rw [if_pos rfl] at H; exact H
         clear H
         have H := H1
         clear H1
         exact absurd H (by simp)
        ·replace c89 := Bool.eq_false_iff.mpr c89
         subst c89
         have H1 : ((laws_markPuzzle.f kj59 t285 1).bind fun bt298 => ((laws_heldPuzzle.f kj59 bt298.2 1).bind fun t300 => (if t300 < 0 then (none) else (if t300 = bt298.1 then ((laws_toPuzzle.f kj59 l0_0).bind fun t301 => ((impl_HarderPuzzle.f kj59 t301).bind fun bt304 => ((laws_eqPuzzle.f kj59 bt304.1 t276).bind fun t309 => (if t309 = true then (laws_FnExactHarderPuzzle.j2 kj59 bt298.1 (bt304.2 != t279) bt298.2) else (laws_FnExactHarderPuzzle.j2 kj59 bt298.1 true bt298.2))))) else (none))))) = some r := by rw [if_neg (show ¬ (false = true) by decide)] at H; exact H
         clear H
         have H := H1
         clear H1
         replace H := Option.bind_eq_some_iff.mp H
         obtain ⟨⟨t298, t299⟩, A900, H⟩ := H
         replace H : ((laws_heldPuzzle.f kj59 t299 1).bind fun t300 => (if t300 < 0 then (none) else (if t300 = t298 then ((laws_toPuzzle.f kj59 l0_0).bind fun t301 => ((impl_HarderPuzzle.f kj59 t301).bind fun bt304 => ((laws_eqPuzzle.f kj59 bt304.1 t276).bind fun t309 => (if t309 = true then (laws_FnExactHarderPuzzle.j2 kj59 t298 (bt304.2 != t279) t299) else (laws_FnExactHarderPuzzle.j2 kj59 t298 true t299))))) else (none)))) = some r := H
         have A90 := Aside0.mk A900
         clear A900
         replace H := Option.bind_eq_some_iff.mp H
         obtain ⟨t300, A910, H⟩ := H
         replace H : (if t300 < 0 then (none) else (if t300 = t298 then ((laws_toPuzzle.f kj59 l0_0).bind fun t301 => ((impl_HarderPuzzle.f kj59 t301).bind fun bt304 => ((laws_eqPuzzle.f kj59 bt304.1 t276).bind fun t309 => (if t309 = true then (laws_FnExactHarderPuzzle.j2 kj59 t298 (bt304.2 != t279) t299) else (laws_FnExactHarderPuzzle.j2 kj59 t298 true t299))))) else (none))) = some r := H
         have A91 := Aside0.mk A910
         clear A910
         by_cases c92 : t300 < 0
         ·rw [if_pos c92] at H
          exact absurd H (by simp)
         ·rw [if_neg c92] at H
          have c92b0 : decide (t300 < 0) = false := decide_eq_false c92
          clear c92
          by_cases c93 : t300 = t298
          ·rw [if_pos c93] at H
           have c93b0 : (t300 == t298) = true := beq_iff_eq.mpr c93
           have c93b1 : (t300 != t298) = false := bne_eq_false_iff_eq.mpr c93
           clear c93
           replace H := Option.bind_eq_some_iff.mp H
           obtain ⟨t301, A940, H⟩ := H
           replace H : ((impl_HarderPuzzle.f kj59 t301).bind fun bt304 => ((laws_eqPuzzle.f kj59 bt304.1 t276).bind fun t309 => (if t309 = true then (laws_FnExactHarderPuzzle.j2 kj59 t298 (bt304.2 != t279) t299) else (laws_FnExactHarderPuzzle.j2 kj59 t298 true t299)))) = some r := H
           have A94 := Aside0.mk A940
           clear A940
           replace H := Option.bind_eq_some_iff.mp H
           obtain ⟨⟨t304, t307⟩, A950, H⟩ := H
           replace H : ((laws_eqPuzzle.f kj59 t304 t276).bind fun t309 => (if t309 = true then (laws_FnExactHarderPuzzle.j2 kj59 t298 (t307 != t279) t299) else (laws_FnExactHarderPuzzle.j2 kj59 t298 true t299))) = some r := H
           have A95 := Aside0.mk A950
           clear A950
           have HC96 := Aside0.mk H
           clear H
           have hnb97 := NB289_271.out
           have hnc97 := NB271_289.out
           have hnb98 := NB289_280.out
           have hnc98 := NB280_289.out
           have hnb99 := NB289_284.out
           have hnc99 := NB284_289.out
           have hcz100_0 : wc.cell? ⟨gb289, 0, none⟩ = some (.slice Ao32 t285.length co32) := (blk_cell BK289.out 0).trans rfl
           have hfz100_0 := blk_frozen BK289.out 0
           go_upto_region 25 with (first | ((with_reducible refine gate_callee (f := 37) rfl ?_); refine goesL_ (some 64) rfl rfl Tryd.func37 (by kernel_rfl) rfl #[.agg #[.slice Ao32 t285.length co32], .int .i64 1] rfl (by (try simp only [List.map_toArray, List.map_cons, List.map_nil]); first | done | rfl | (simp only [List.length_drop, List.length_take]; rfl)) ?_; (with_reducible refine (laws_markPuzzle.calls kj59 (fun k_ => some k_ = (.slice Ao32 t285.length co32 : Value).ownBlock) (.slice Ao32 t285.length co32) t285 1 t298 t299 w _ ?side1 ?side2 A90.out).mono ?_); (case side1 => repeat (first | (with_reducible first | exact HB.out | apply below_alloc | apply pw_below_drewN | apply below_drew1 | refine below_set ?_ GE271.out | refine below_set ?_ GE280.out | refine below_set ?_ GE284.out | refine below_set ?_ GE289.out) | exact HB.out)); (case side2 => exact Kd.R_tight rfl HO_290000.out); rintro e w101 ⟨rfl, hy0, hb, hkp⟩; refine ⟨_, rfl, ?_⟩; have n0_ := Aside0.mk (Kd.R_mono (ok' := fun k_ => some k_ ≠ (.slice Ao26 t296.length co26 : Value).ownBlock ∧ some k_ ≠ (.slice Ao32 t285.length co32 : Value).ownBlock) (Kd.R_keptB (HO_281000.out) hkp (fun k_ hk_ hs_ => (hk_.2) hs_)) (fun k_ hk_ => ⟨hk_.1.1, hk_.1.2⟩)); have n1_ := Aside0.mk (Kd.R_mono (ok' := fun k_ => some k_ ≠ (.slice Ao20 t276.length co20 : Value).ownBlock ∧ some k_ ≠ (.slice Ao32 t285.length co32 : Value).ownBlock) (Kd.R_keptB (HO_285000.out) hkp (fun k_ hk_ hs_ => (hk_.2) hs_)) (fun k_ hk_ => ⟨hk_.1.1, hk_.1.2⟩)); have n2_ := Aside0.mk (Kd.R_reok rfl hy0 (fun k_ e_ => HO_290000.out.1 k_ e_)); have n3_ := Aside0.mk (blk_kept (Lam.bq BK271.out) hkp (fun hs_ => (fun e_ => (Kd.R_ne HO_290000.out BK271.out (by decide)) e_) hs_)); have n4_ := Aside0.mk (blk_kept (Lam.bq BK280.out) hkp (fun hs_ => (fun e_ => (Kd.R_ne HO_290000.out BK280.out (by decide)) e_) hs_)); have n5_ := Aside0.mk (blk_kept (Lam.bq BK284.out) hkp (fun hs_ => (fun e_ => (Kd.R_ne HO_290000.out BK284.out (by decide)) e_) hs_)); have n6_ := Aside0.mk (blk_kept (Lam.bq BK289.out) hkp (fun hs_ => (fun e_ => (Kd.R_ne HO_290000.out BK289.out (by decide)) e_) hs_)); have n7_ := Aside0.mk (hb); clear HO_281000; clear HO_285000; clear HO_290000; clear BK271; clear BK280; clear BK284; clear BK289; clear HB; have HO_281000 := n0_; have HO_285000 := n1_; have HO_290000 := n2_; have BK271 := n3_; have BK280 := n4_; have BK284 := n5_; have BK289 := n6_; have HB := n7_; clear n0_ n1_ n2_ n3_ n4_ n5_ n6_ n7_; (try clear hb); (try clear hkp); (try clear hy0); have hcz102_0 : w101.cell? ⟨gb289, 0, none⟩ = some (.slice Ao32 t285.length co32) := (blk_cell BK289.out 0).trans rfl; have hfz102_0 := blk_frozen BK289.out 0) | ((with_reducible refine gate_callee (f := 38) rfl ?_); refine goesL_ (some 67) rfl rfl Tryd.func38 (by kernel_rfl) rfl #[.agg #[.slice Ao32 t299.length co32], .int .i64 1] rfl (by (try simp only [List.map_toArray, List.map_cons, List.map_nil]); first | done | (rw [show t299.length = t285.length from (Kd.R_reads' HO_290000.out).1.symm] <;> rfl) | rfl | (simp only [List.length_drop, List.length_take]; rfl)) ?_; (with_reducible refine (laws_heldPuzzle.calls kj59 _ _ t299 1 t300 _ ?side1 ?side2 A91.out).mono ?_); (case side1 => repeat (first | exact (Kd.R_reads' HO_290000.out).2.2 | (with_reducible refine Kd.C_alloc ?_ _) | (with_reducible refine Kd.C_drewN ?_ _) | (with_reducible refine Kd.C_drew ?_))); (case side2 => rw [show t299.length = t285.length from (Kd.R_reads' HO_290000.out).1.symm]; exact (Kd.R_reads' HO_290000.out).2.1); rintro e w103 ⟨rfl, hb⟩; refine ⟨_, rfl, ?_⟩; have n0_ := Aside0.mk (Kd.R_below (Lam.rq HO_281000.out) hb); have n1_ := Aside0.mk (Kd.R_below (Lam.rq HO_285000.out) hb); have n2_ := Aside0.mk (Kd.R_below (Lam.rq HO_290000.out) hb); have n3_ := Aside0.mk (blk_below (g := gb271) (o := .cells #[.slice A0_0 l0_0.length c0_0] 49 (0, 0)) (Lam.bq BK271.out) hb); have n4_ := Aside0.mk (blk_below (g := gb280) (o := .cells #[.slice Ao20 t276.length co20] 55 (0, 0)) (Lam.bq BK280.out) hb); have n5_ := Aside0.mk (blk_below (g := gb284) (o := .cells #[.slice Ao26 t296.length co26] 55 (0, 0)) (Lam.bq BK284.out) hb); have n6_ := Aside0.mk (blk_below (g := gb289) (o := .cells #[.slice Ao32 t285.length co32] 55 (0, 0)) (Lam.bq BK289.out) hb); have n7_ := Aside0.mk (below_step (Lam.al) hb); clear HO_281000; clear HO_285000; clear HO_290000; clear BK271; clear BK280; clear BK284; clear BK289; clear HB; have HO_281000 := n0_; have HO_285000 := n1_; have HO_290000 := n2_; have BK271 := n3_; have BK280 := n4_; have BK284 := n5_; have BK289 := n6_; have HB := n7_; clear n0_ n1_ n2_ n3_ n4_ n5_ n6_ n7_; (try clear hb); (try clear hb2); (try clear hk); (try clear hi); have hnb104 := NB271_280.out; have hnc104 := NB280_271.out; have hnb105 := NB271_284.out; have hnc105 := NB284_271.out; have hcz106_0 : w103.cell? ⟨gb271, 0, none⟩ = some (.slice A0_0 l0_0.length c0_0) := (blk_cell BK271.out 0).trans rfl; have hfz106_0 := blk_frozen BK271.out 0) | ((with_reducible refine gate_callee (f := 27) rfl ?_); refine goesL_ (some 75) rfl rfl Tryd.func27 (by kernel_rfl) rfl #[.agg #[.slice A0_0 l0_0.length c0_0]] rfl (by (try simp only [List.map_toArray, List.map_cons, List.map_nil]); first | done | rfl | (simp only [List.length_drop, List.length_take]; rfl)) ?_; (with_reducible refine (laws_toPuzzle.calls kj59 _ _ l0_0 t301 _ ?side1 ?side2 A94.out).mono ?_); (case side1 => repeat (first | exact (Kd.C_below HR0_0.out HB.out) | (with_reducible refine Kd.C_alloc ?_ _) | (with_reducible refine Kd.C_drewN ?_ _) | (with_reducible refine Kd.C_drew ?_))); (case side2 => exact HC0_0.out); rintro e w107 ⟨v302, rfl, ho0, hb⟩; refine ⟨_, rfl, ?_⟩; have n0_ := Aside0.mk (Kd.R_elder' (Lam.rq HO_281000.out) (Kd.R_base ho0) hb); have n1_ := Aside0.mk (Kd.R_elder' (Lam.rq HO_285000.out) (Kd.R_base ho0) hb); have n2_ := Aside0.mk (Kd.R_elder' (Lam.rq HO_290000.out) (Kd.R_base ho0) hb); have n3_ := Aside0.mk (Kd.R_lower (Kd.R_new' (Kd.R_new' (Kd.R_new' ho0 (Kd.R_lt (Lam.rq HO_281000.out))) (Kd.R_lt (Lam.rq HO_285000.out))) (Kd.R_lt (Lam.rq HO_290000.out))) (below_size (Lam.al))); have n4_ := Aside0.mk (blk_below (g := gb271) (o := .cells #[.slice A0_0 l0_0.length c0_0] 49 (0, 0)) (Lam.bq BK271.out) hb); have n5_ := Aside0.mk (blk_below (g := gb280) (o := .cells #[.slice Ao20 t276.length co20] 55 (0, 0)) (Lam.bq BK280.out) hb); have n6_ := Aside0.mk (blk_below (g := gb284) (o := .cells #[.slice Ao26 t296.length co26] 55 (0, 0)) (Lam.bq BK284.out) hb); have n7_ := Aside0.mk (blk_below (g := gb289) (o := .cells #[.slice Ao32 t285.length co32] 55 (0, 0)) (Lam.bq BK289.out) hb); have n8_ := Aside0.mk (below_step (Lam.al) hb); clear HO_281000; clear HO_285000; clear HO_290000; clear BK271; clear BK280; clear BK284; clear BK289; clear HB; have HO_281000 := n0_; have HO_285000 := n1_; have HO_290000 := n2_; have HO303 := n3_; have BK271 := n4_; have BK280 := n5_; have BK284 := n6_; have BK289 := n7_; have HB := n8_; clear n0_ n1_ n2_ n3_ n4_ n5_ n6_ n7_ n8_; (try clear hb); (try clear hb2); (try clear hk); (try clear hi); (try clear ho0); obtain ⟨Ao108, co108, eo108⟩ := Kd.R_slice HO303.out; subst eo108) | ((with_reducible refine gate_callee (f := 54) rfl ?_); refine goesL_ (some 76) rfl rfl Tryd.func54 (by kernel_rfl) rfl #[.agg #[.slice Ao108 t301.length co108]] rfl (by (try simp only [List.map_toArray, List.map_cons, List.map_nil]); first | done | rfl | (simp only [List.length_drop, List.length_take]; rfl)) ?_; (with_reducible refine (impl_HarderPuzzle.calls kj59 _ _ t301 t304 t307 _ ?side1 ?side2 A95.out).mono ?_); (case side1 => repeat (first | exact (Kd.R_reads' HO303.out).2.2 | (with_reducible refine Kd.C_alloc ?_ _) | (with_reducible refine Kd.C_drewN ?_ _) | (with_reducible refine Kd.C_drew ?_))); (case side2 => exact (Kd.R_reads' HO303.out).2.1); rintro e w109 ⟨v305, rfl, ho0, hb⟩; refine ⟨_, rfl, ?_⟩; have n0_ := Aside0.mk (Kd.R_elder' (Lam.rq HO_281000.out) (Kd.R_base ho0) hb); have n1_ := Aside0.mk (Kd.R_elder' (Lam.rq HO_285000.out) (Kd.R_base ho0) hb); have n2_ := Aside0.mk (Kd.R_elder' (Lam.rq HO_290000.out) (Kd.R_base ho0) hb); have n3_ := Aside0.mk (Kd.R_elder' (Lam.rq HO303.out) (Kd.R_base ho0) hb); have n4_ := Aside0.mk (Kd.R_lower (Kd.R_new' (Kd.R_new' (Kd.R_new' (Kd.R_new' ho0 (Kd.R_lt (Lam.rq HO_281000.out))) (Kd.R_lt (Lam.rq HO_285000.out))) (Kd.R_lt (Lam.rq HO_290000.out))) (Kd.R_lt (Lam.rq HO303.out))) (below_size (Lam.al))); have n5_ := Aside0.mk (blk_below (g := gb271) (o := .cells #[.slice A0_0 l0_0.length c0_0] 49 (0, 0)) (Lam.bq BK271.out) hb); have n6_ := Aside0.mk (blk_below (g := gb280) (o := .cells #[.slice Ao20 t276.length co20] 55 (0, 0)) (Lam.bq BK280.out) hb); have n7_ := Aside0.mk (blk_below (g := gb284) (o := .cells #[.slice Ao26 t296.length co26] 55 (0, 0)) (Lam.bq BK284.out) hb); have n8_ := Aside0.mk (blk_below (g := gb289) (o := .cells #[.slice Ao32 t285.length co32] 55 (0, 0)) (Lam.bq BK289.out) hb); have n9_ := Aside0.mk (below_step (Lam.al) hb); clear HO_281000; clear HO_285000; clear HO_290000; clear HO303; clear BK271; clear BK280; clear BK284; clear BK289; clear HB; have HO_281000 := n0_; have HO_285000 := n1_; have HO_290000 := n2_; have HO303 := n3_; have HO306 := n4_; have BK271 := n5_; have BK280 := n6_; have BK284 := n7_; have BK289 := n8_; have HB := n9_; clear n0_ n1_ n2_ n3_ n4_ n5_ n6_ n7_ n8_ n9_; (try clear hb); (try clear hb2); (try clear hk); (try clear hi); (try clear ho0)) | ((with_reducible refine gate_dst (N := 12) rfl ?_); refine box_event ?hg (N := 12) ?hd (cs := #[.slice none 0 0]) (t := 55) ?hr ?_; (case hd => rfl); (case hg => rfl); (case hr => first | (go_simp; done) | (go_simp; rfl)); intro gb308 hg w110 hbox hb; have n0_ := Aside0.mk (Kd.R_below (Lam.rq HO_281000.out) hb); have n1_ := Aside0.mk (Kd.R_below (Lam.rq HO_285000.out) hb); have n2_ := Aside0.mk (Kd.R_below (Lam.rq HO_290000.out) hb); have n3_ := Aside0.mk (Kd.R_below (Lam.rq HO303.out) hb); have n4_ := Aside0.mk (Kd.R_below (Lam.rq HO306.out) hb); have n5_ := Aside0.mk (blk_below (g := gb271) (o := .cells #[.slice A0_0 l0_0.length c0_0] 49 (0, 0)) (Lam.bq BK271.out) hb); have n6_ := Aside0.mk (blk_below (g := gb280) (o := .cells #[.slice Ao20 t276.length co20] 55 (0, 0)) (Lam.bq BK280.out) hb); have n7_ := Aside0.mk (blk_below (g := gb284) (o := .cells #[.slice Ao26 t296.length co26] 55 (0, 0)) (Lam.bq BK284.out) hb); have n8_ := Aside0.mk (blk_below (g := gb289) (o := .cells #[.slice Ao32 t285.length co32] 55 (0, 0)) (Lam.bq BK289.out) hb); have n9_ := Aside0.mk (below_step (Lam.al) hb); have n10_ := Aside0.mk (hbox); have n11_ := Aside0.mk ((by rw [hg]; exact (below_size (Lam.al)) : w.heap.size ≤ gb308)); have n12_ := Aside0.mk ((by rw [hg]; exact (below_size (Lam.al)) : w.heap.size ≤ gb308)); have n13_ := Aside0.mk ((by rw [hg]; exact Nat.ne_of_lt (blk_lt (g := gb271) (o := .cells #[.slice A0_0 l0_0.length c0_0] 49 (0, 0)) (Lam.bq BK271.out)) : gb271 ≠ gb308)); have n14_ := Aside0.mk ((by rw [hg]; exact Nat.ne_of_gt (blk_lt (g := gb271) (o := .cells #[.slice A0_0 l0_0.length c0_0] 49 (0, 0)) (Lam.bq BK271.out)) : gb308 ≠ gb271)); have n15_ := Aside0.mk ((by rw [hg]; exact Nat.ne_of_lt (blk_lt (g := gb280) (o := .cells #[.slice Ao20 t276.length co20] 55 (0, 0)) (Lam.bq BK280.out)) : gb280 ≠ gb308)); have n16_ := Aside0.mk ((by rw [hg]; exact Nat.ne_of_gt (blk_lt (g := gb280) (o := .cells #[.slice Ao20 t276.length co20] 55 (0, 0)) (Lam.bq BK280.out)) : gb308 ≠ gb280)); have n17_ := Aside0.mk ((by rw [hg]; exact Nat.ne_of_lt (blk_lt (g := gb284) (o := .cells #[.slice Ao26 t296.length co26] 55 (0, 0)) (Lam.bq BK284.out)) : gb284 ≠ gb308)); have n18_ := Aside0.mk ((by rw [hg]; exact Nat.ne_of_gt (blk_lt (g := gb284) (o := .cells #[.slice Ao26 t296.length co26] 55 (0, 0)) (Lam.bq BK284.out)) : gb308 ≠ gb284)); have n19_ := Aside0.mk ((by rw [hg]; exact Nat.ne_of_lt (blk_lt (g := gb289) (o := .cells #[.slice Ao32 t285.length co32] 55 (0, 0)) (Lam.bq BK289.out)) : gb289 ≠ gb308)); have n20_ := Aside0.mk ((by rw [hg]; exact Nat.ne_of_gt (blk_lt (g := gb289) (o := .cells #[.slice Ao32 t285.length co32] 55 (0, 0)) (Lam.bq BK289.out)) : gb308 ≠ gb289)); clear HO_281000; clear HO_285000; clear HO_290000; clear HO303; clear HO306; clear BK271; clear BK280; clear BK284; clear BK289; clear HB; have HO_281000 := n0_; have HO_285000 := n1_; have HO_290000 := n2_; have HO303 := n3_; have HO306 := n4_; have BK271 := n5_; have BK280 := n6_; have BK284 := n7_; have BK289 := n8_; have HB := n9_; have BK308 := n10_; have GW308 := n11_; have GE308 := n12_; have NB271_308 := n13_; have NB308_271 := n14_; have NB280_308 := n15_; have NB308_280 := n16_; have NB284_308 := n17_; have NB308_284 := n18_; have NB289_308 := n19_; have NB308_289 := n20_; clear n0_ n1_ n2_ n3_ n4_ n5_ n6_ n7_ n8_ n9_ n10_ n11_ n12_ n13_ n14_ n15_ n16_ n17_ n18_ n19_ n20_; clear hb hbox hg; obtain ⟨Ao111, co111, eo111⟩ := Kd.R_slice HO306.out; subst eo111; have hnb112 := NB308_271.out; have hnc112 := NB271_308.out; have hnb113 := NB308_280.out; have hnc113 := NB280_308.out; have hnb114 := NB308_284.out; have hnc114 := NB284_308.out; have hnb115 := NB308_289.out; have hnc115 := NB289_308.out; have hcz116_0 : w110.cell? ⟨gb308, 0, none⟩ = some (.slice none 0 0) := (blk_cell BK308.out 0).trans rfl; have hfz116_0 := blk_frozen BK308.out 0))
           (try simp only [Act.put, Lam.pa, Lam.pb, Lam.pc])
           go_cut [87] (fun v87 wc => ∃ (kq : Nat) (x87_95 : Bool), v87 = .bool x87_95 ∧ Aside0 (laws_FnExactHarderPuzzle.j2 kq t298 x87_95 t299 = some r) ∧ Aside0 (kq ≤ kj59) ∧ Aside0 (Kd.R k42 42 wc w.heap.size (fun k_ => some k_ ≠ ((.slice Ao26 t296.length co26) : Value).ownBlock ∧ some k_ ≠ ((.slice Ao32 t285.length co32) : Value).ownBlock ∧ some k_ ≠ ((.slice Ao111 t304.length co111) : Value).ownBlock) (.slice Ao20 t276.length co20) t276) ∧ Aside0 (Kd.R k42 42 wc w.heap.size (fun k_ => some k_ ≠ ((.slice Ao20 t276.length co20) : Value).ownBlock ∧ some k_ ≠ ((.slice Ao32 t285.length co32) : Value).ownBlock ∧ some k_ ≠ ((.slice Ao111 t304.length co111) : Value).ownBlock) (.slice Ao26 t296.length co26) t296) ∧ Aside0 (Kd.R k42 42 wc w.heap.size (fun k_ => some k_ ≠ ((.slice Ao20 t276.length co20) : Value).ownBlock ∧ some k_ ≠ ((.slice Ao26 t296.length co26) : Value).ownBlock ∧ some k_ ≠ ((.slice Ao111 t304.length co111) : Value).ownBlock) (.slice Ao32 t285.length co32) t299) ∧ Aside0 (Kd.R k42 42 wc w.heap.size (fun k_ => some k_ ≠ ((.slice Ao20 t276.length co20) : Value).ownBlock ∧ some k_ ≠ ((.slice Ao26 t296.length co26) : Value).ownBlock ∧ some k_ ≠ ((.slice Ao32 t285.length co32) : Value).ownBlock) (.slice Ao111 t304.length co111) t304) ∧ Aside0 (wc.heap[gb271]? = some (.cells #[(.slice A0_0 l0_0.length c0_0)] 49 (0, 0))) ∧ Aside0 (wc.heap[gb280]? = some (.cells #[(.slice Ao20 t276.length co20)] 55 (0, 0))) ∧ Aside0 (wc.heap[gb284]? = some (.cells #[(.slice Ao26 t296.length co26)] 55 (0, 0))) ∧ Aside0 (wc.heap[gb289]? = some (.cells #[(.slice Ao32 t285.length co32)] 55 (0, 0))) ∧ Aside0 (wc.heap[gb308]? = some (.cells #[(.slice Ao111 t304.length co111)] 55 (0, 0))) ∧ Aside0 (Below w.heap.size w wc))
           case first =>
            have H := HC96.out
            clear HC96
            replace H := Option.bind_eq_some_iff.mp H
            obtain ⟨t309, A1170, H⟩ := H
            replace H : (if t309 = true then (laws_FnExactHarderPuzzle.j2 kj59 t298 (t307 != t279) t299) else (laws_FnExactHarderPuzzle.j2 kj59 t298 true t299)) = some r := H
            have A117 := Aside0.mk A1170
            clear A1170
            by_cases c118 : t309 = true
            ·subst c118
             have H1 : (laws_FnExactHarderPuzzle.j2 kj59 t298 (t307 != t279) t299) = some r := by rw [if_pos rfl] at H; exact H
             clear H
             have H := H1
             clear H1
             have H' := Aside0.mk H
             clear H
             have hnb119 := NB308_271.out
             have hnc119 := NB271_308.out
             have hnb120 := NB308_280.out
             have hnc120 := NB280_308.out
             have hnb121 := NB308_284.out
             have hnc121 := NB284_308.out
             have hnb122 := NB308_289.out
             have hnc122 := NB289_308.out
             have hcz123_0 : w110.cell? ⟨gb308, 0, none⟩ = some (.slice none 0 0) := (blk_cell BK308.out 0).trans rfl
             have hfz123_0 := blk_frozen BK308.out 0
             have hnb124 := NB280_271.out
             have hnc124 := NB271_280.out
             have hnb125 := NB280_284.out
             have hnc125 := NB284_280.out
             have hnb126 := NB280_289.out
             have hnc126 := NB289_280.out
             have hcz127_0 : w110.cell? ⟨gb280, 0, none⟩ = some (.slice Ao20 t276.length co20) := (blk_cell BK280.out 0).trans rfl
             have hfz127_0 := blk_frozen BK280.out 0
             go_wp2_with (first | ((with_reducible refine gate_callee (f := 29) rfl ?_); refine goesL_ (some 81) rfl rfl Tryd.func29 (by kernel_rfl) rfl #[.agg #[.slice Ao111 t304.length co111], .agg #[.slice Ao20 t276.length co20]] rfl (by (try simp only [List.map_toArray, List.map_cons, List.map_nil]); first | done | rfl | (simp only [List.length_drop, List.length_take]; rfl)) ?_; (with_reducible refine (laws_eqPuzzle.calls kj59 _ _ t304 _ _ t276 true _ ?side1 ?side2 ?side3 ?side4 A117.out).mono ?_); (case side1 => refine (Kd.R_reads' (e := 42) (base := w.heap.size) (ok := fun k_ => ((((True ∧ some k_ ≠ (.slice Ao20 t276.length co20 : Value).ownBlock) ∧ some k_ ≠ (.slice Ao26 t296.length co26 : Value).ownBlock) ∧ some k_ ≠ (.slice Ao32 t285.length co32 : Value).ownBlock) ∧ some k_ ≠ (.slice Ao108 t301.length co108 : Value).ownBlock)) (n := t304.length) (c := co111) ?_).2.2; exact (by (with_reducible repeat (first | apply Kd.R_alloc | apply Kd.R_drewN | apply Kd.R_drew)); exact (Kd.R_mono (Kd.R_far (p := ⟨gb308, 0, none⟩) (Kd.R_types HO306.out BK308.out (by decide)) (fun _ hk => hk.2) (.slice Ao111 t304.length co111)) (fun _ h_ => h_.1)))); (case side2 => exact (Kd.R_reads' HO306.out).2.1); (case side3 => refine (Kd.R_reads' (e := 42) (base := w.heap.size) (ok := fun k_ => (((some k_ ≠ (.slice Ao26 t296.length co26 : Value).ownBlock ∧ some k_ ≠ (.slice Ao32 t285.length co32 : Value).ownBlock) ∧ some k_ ≠ (.slice Ao108 t301.length co108 : Value).ownBlock) ∧ some k_ ≠ (.slice Ao111 t304.length co111 : Value).ownBlock)) (n := t276.length) (c := co20) ?_).2.2; exact (by (with_reducible repeat (first | apply Kd.R_alloc | apply Kd.R_drewN | apply Kd.R_drew)); exact (Kd.R_mono (Kd.R_far (p := ⟨gb308, 0, none⟩) (Kd.R_types HO_281000.out BK308.out (by decide)) (fun _ hk => hk.2) (.slice Ao111 t304.length co111)) (fun _ h_ => h_.1)))); (case side4 => exact (Kd.R_reads' HO_281000.out).2.1); rintro e w128 ⟨rfl, hb⟩; refine ⟨_, rfl, ?_⟩; have n0_ := Aside0.mk (Kd.R_below (by (with_reducible repeat (first | apply Kd.R_alloc | apply Kd.R_drewN | apply Kd.R_drew)); exact (Kd.R_mono (Kd.R_far (p := ⟨gb308, 0, none⟩) (Kd.R_types HO_281000.out BK308.out (by decide)) (fun _ hk => hk.2) (.slice Ao111 t304.length co111)) (fun _ h_ => h_.1))) hb); have n1_ := Aside0.mk (Kd.R_below (by (with_reducible repeat (first | apply Kd.R_alloc | apply Kd.R_drewN | apply Kd.R_drew)); exact (Kd.R_mono (Kd.R_far (p := ⟨gb308, 0, none⟩) (Kd.R_types HO_285000.out BK308.out (by decide)) (fun _ hk => hk.2) (.slice Ao111 t304.length co111)) (fun _ h_ => h_.1))) hb); have n2_ := Aside0.mk (Kd.R_below (by (with_reducible repeat (first | apply Kd.R_alloc | apply Kd.R_drewN | apply Kd.R_drew)); exact (Kd.R_mono (Kd.R_far (p := ⟨gb308, 0, none⟩) (Kd.R_types HO_290000.out BK308.out (by decide)) (fun _ hk => hk.2) (.slice Ao111 t304.length co111)) (fun _ h_ => h_.1))) hb); have n3_ := Aside0.mk (Kd.R_below (by (with_reducible repeat (first | apply Kd.R_alloc | apply Kd.R_drewN | apply Kd.R_drew)); exact (Kd.R_mono (Kd.R_far (p := ⟨gb308, 0, none⟩) (Kd.R_types HO303.out BK308.out (by decide)) (fun _ hk => hk.2) (.slice Ao111 t304.length co111)) (fun _ h_ => h_.1))) hb); have n4_ := Aside0.mk (Kd.R_below (by (with_reducible repeat (first | apply Kd.R_alloc | apply Kd.R_drewN | apply Kd.R_drew)); exact (Kd.R_mono (Kd.R_far (p := ⟨gb308, 0, none⟩) (Kd.R_types HO306.out BK308.out (by decide)) (fun _ hk => hk.2) (.slice Ao111 t304.length co111)) (fun _ h_ => h_.1))) hb); have n5_ := Aside0.mk (blk_below (g := gb271) (o := .cells #[.slice A0_0 l0_0.length c0_0] 49 (0, 0)) (by (with_reducible repeat (first | refine blk_drewN ?_ _ | refine blk_drew ?_ | refine blk_alloc ?_ _)); refine blk_far ?_ NB271_308.out _; (with_reducible repeat (first | refine blk_drewN ?_ _ | refine blk_drew ?_ | refine blk_alloc ?_ _)); exact BK271.out) hb); have n6_ := Aside0.mk (blk_below (g := gb280) (o := .cells #[.slice Ao20 t276.length co20] 55 (0, 0)) (by (with_reducible repeat (first | refine blk_drewN ?_ _ | refine blk_drew ?_ | refine blk_alloc ?_ _)); refine blk_far ?_ NB280_308.out _; (with_reducible repeat (first | refine blk_drewN ?_ _ | refine blk_drew ?_ | refine blk_alloc ?_ _)); exact BK280.out) hb); have n7_ := Aside0.mk (blk_below (g := gb284) (o := .cells #[.slice Ao26 t296.length co26] 55 (0, 0)) (by (with_reducible repeat (first | refine blk_drewN ?_ _ | refine blk_drew ?_ | refine blk_alloc ?_ _)); refine blk_far ?_ NB284_308.out _; (with_reducible repeat (first | refine blk_drewN ?_ _ | refine blk_drew ?_ | refine blk_alloc ?_ _)); exact BK284.out) hb); have n8_ := Aside0.mk (blk_below (g := gb289) (o := .cells #[.slice Ao32 t285.length co32] 55 (0, 0)) (by (with_reducible repeat (first | refine blk_drewN ?_ _ | refine blk_drew ?_ | refine blk_alloc ?_ _)); refine blk_far ?_ NB289_308.out _; (with_reducible repeat (first | refine blk_drewN ?_ _ | refine blk_drew ?_ | refine blk_alloc ?_ _)); exact BK289.out) hb); have n9_ := Aside0.mk (blk_below (g := gb308) (o := .cells #[.slice Ao111 t304.length co111] 55 (0, 0)) (by (with_reducible repeat (first | refine blk_drewN ?_ _ | refine blk_drew ?_ | refine blk_alloc ?_ _)); refine blk_put (cs := #[.slice none 0 0]) ?_ 0 _ rfl; (with_reducible repeat (first | refine blk_drewN ?_ _ | refine blk_drew ?_ | refine blk_alloc ?_ _)); exact BK308.out) hb); have n10_ := Aside0.mk (below_step (Lam.al) hb); clear HO_281000; clear HO_285000; clear HO_290000; clear HO303; clear HO306; clear BK271; clear BK280; clear BK284; clear BK289; clear BK308; clear HB; have HO_281000 := n0_; have HO_285000 := n1_; have HO_290000 := n2_; have HO303 := n3_; have HO306 := n4_; have BK271 := n5_; have BK280 := n6_; have BK284 := n7_; have BK289 := n8_; have BK308 := n9_; have HB := n10_; clear n0_ n1_ n2_ n3_ n4_ n5_ n6_ n7_ n8_ n9_ n10_; (try clear hb); (try clear hb2); (try clear hk); (try clear hi)))
             go_meet
             case rel => exact ⟨_, ((t307 != t279)), (by first | rfl | (simp; done) | (simp [*]; done)), H', ⟨by have := HJ10.out; have := HJ59.out; first | omega | exact Nat.le_refl _⟩, ⟨by (try simp only [hl285000_59]); (with_reducible repeat (first | apply Kd.R_alloc | apply Kd.R_drewN | apply Kd.R_drew)); exact Kd.R_mono HO_281000.out (fun _ hk => ⟨hk.1.1.1, ⟨hk.1.1.2, hk.2⟩⟩)⟩, ⟨by (try simp only [hl285000_59]); (with_reducible repeat (first | apply Kd.R_alloc | apply Kd.R_drewN | apply Kd.R_drew)); exact Kd.R_mono HO_285000.out (fun _ hk => ⟨hk.1.1.1, ⟨hk.1.1.2, hk.2⟩⟩)⟩, ⟨by (try simp only [hl285000_59]); (with_reducible repeat (first | apply Kd.R_alloc | apply Kd.R_drewN | apply Kd.R_drew)); exact Kd.R_mono HO_290000.out (fun _ hk => ⟨hk.1.1.1, ⟨hk.1.1.2, hk.2⟩⟩)⟩, ⟨by (try simp only [hl285000_59]); (with_reducible repeat (first | apply Kd.R_alloc | apply Kd.R_drewN | apply Kd.R_drew)); exact Kd.R_mono HO306.out (fun _ hk => ⟨hk.1.1.1.2, ⟨hk.1.1.2, hk.1.2⟩⟩)⟩, ⟨by (try simp only [hl285000_59]); (with_reducible repeat (first | refine blk_drewN ?_ _ | refine blk_drew ?_ | refine blk_alloc ?_ _)); exact BK271.out⟩, ⟨by (try simp only [hl285000_59]); (with_reducible repeat (first | refine blk_drewN ?_ _ | refine blk_drew ?_ | refine blk_alloc ?_ _)); exact BK280.out⟩, ⟨by (try simp only [hl285000_59]); (with_reducible repeat (first | refine blk_drewN ?_ _ | refine blk_drew ?_ | refine blk_alloc ?_ _)); exact BK284.out⟩, ⟨by (try simp only [hl285000_59]); (with_reducible repeat (first | refine blk_drewN ?_ _ | refine blk_drew ?_ | refine blk_alloc ?_ _)); exact BK289.out⟩, ⟨by (try simp only [hl285000_59]); (with_reducible repeat (first | refine blk_drewN ?_ _ | refine blk_drew ?_ | refine blk_alloc ?_ _)); exact BK308.out⟩, ⟨Lam.al⟩⟩
            ·replace c118 := Bool.eq_false_iff.mpr c118
             subst c118
             have H1 : (laws_FnExactHarderPuzzle.j2 kj59 t298 true t299) = some r := by rw [if_neg (show ¬ (false = true) by decide)] at H; exact H
             clear H
             have H := H1
             clear H1
             have H' := Aside0.mk H
             clear H
             have hnb129 := NB308_271.out
             have hnc129 := NB271_308.out
             have hnb130 := NB308_280.out
             have hnc130 := NB280_308.out
             have hnb131 := NB308_284.out
             have hnc131 := NB284_308.out
             have hnb132 := NB308_289.out
             have hnc132 := NB289_308.out
             have hcz133_0 : w110.cell? ⟨gb308, 0, none⟩ = some (.slice none 0 0) := (blk_cell BK308.out 0).trans rfl
             have hfz133_0 := blk_frozen BK308.out 0
             have hnb134 := NB280_271.out
             have hnc134 := NB271_280.out
             have hnb135 := NB280_284.out
             have hnc135 := NB284_280.out
             have hnb136 := NB280_289.out
             have hnc136 := NB289_280.out
             have hcz137_0 : w110.cell? ⟨gb280, 0, none⟩ = some (.slice Ao20 t276.length co20) := (blk_cell BK280.out 0).trans rfl
             have hfz137_0 := blk_frozen BK280.out 0
             go_wp2_with (first | ((with_reducible refine gate_callee (f := 29) rfl ?_); refine goesL_ (some 81) rfl rfl Tryd.func29 (by kernel_rfl) rfl #[.agg #[.slice Ao111 t304.length co111], .agg #[.slice Ao20 t276.length co20]] rfl (by (try simp only [List.map_toArray, List.map_cons, List.map_nil]); first | done | rfl | (simp only [List.length_drop, List.length_take]; rfl)) ?_; (with_reducible refine (laws_eqPuzzle.calls kj59 _ _ t304 _ _ t276 false _ ?side1 ?side2 ?side3 ?side4 A117.out).mono ?_); (case side1 => refine (Kd.R_reads' (e := 42) (base := w.heap.size) (ok := fun k_ => ((((True ∧ some k_ ≠ (.slice Ao20 t276.length co20 : Value).ownBlock) ∧ some k_ ≠ (.slice Ao26 t296.length co26 : Value).ownBlock) ∧ some k_ ≠ (.slice Ao32 t285.length co32 : Value).ownBlock) ∧ some k_ ≠ (.slice Ao108 t301.length co108 : Value).ownBlock)) (n := t304.length) (c := co111) ?_).2.2; exact (by (with_reducible repeat (first | apply Kd.R_alloc | apply Kd.R_drewN | apply Kd.R_drew)); exact (Kd.R_mono (Kd.R_far (p := ⟨gb308, 0, none⟩) (Kd.R_types HO306.out BK308.out (by decide)) (fun _ hk => hk.2) (.slice Ao111 t304.length co111)) (fun _ h_ => h_.1)))); (case side2 => exact (Kd.R_reads' HO306.out).2.1); (case side3 => refine (Kd.R_reads' (e := 42) (base := w.heap.size) (ok := fun k_ => (((some k_ ≠ (.slice Ao26 t296.length co26 : Value).ownBlock ∧ some k_ ≠ (.slice Ao32 t285.length co32 : Value).ownBlock) ∧ some k_ ≠ (.slice Ao108 t301.length co108 : Value).ownBlock) ∧ some k_ ≠ (.slice Ao111 t304.length co111 : Value).ownBlock)) (n := t276.length) (c := co20) ?_).2.2; exact (by (with_reducible repeat (first | apply Kd.R_alloc | apply Kd.R_drewN | apply Kd.R_drew)); exact (Kd.R_mono (Kd.R_far (p := ⟨gb308, 0, none⟩) (Kd.R_types HO_281000.out BK308.out (by decide)) (fun _ hk => hk.2) (.slice Ao111 t304.length co111)) (fun _ h_ => h_.1)))); (case side4 => exact (Kd.R_reads' HO_281000.out).2.1); rintro e w138 ⟨rfl, hb⟩; refine ⟨_, rfl, ?_⟩; have n0_ := Aside0.mk (Kd.R_below (by (with_reducible repeat (first | apply Kd.R_alloc | apply Kd.R_drewN | apply Kd.R_drew)); exact (Kd.R_mono (Kd.R_far (p := ⟨gb308, 0, none⟩) (Kd.R_types HO_281000.out BK308.out (by decide)) (fun _ hk => hk.2) (.slice Ao111 t304.length co111)) (fun _ h_ => h_.1))) hb); have n1_ := Aside0.mk (Kd.R_below (by (with_reducible repeat (first | apply Kd.R_alloc | apply Kd.R_drewN | apply Kd.R_drew)); exact (Kd.R_mono (Kd.R_far (p := ⟨gb308, 0, none⟩) (Kd.R_types HO_285000.out BK308.out (by decide)) (fun _ hk => hk.2) (.slice Ao111 t304.length co111)) (fun _ h_ => h_.1))) hb); have n2_ := Aside0.mk (Kd.R_below (by (with_reducible repeat (first | apply Kd.R_alloc | apply Kd.R_drewN | apply Kd.R_drew)); exact (Kd.R_mono (Kd.R_far (p := ⟨gb308, 0, none⟩) (Kd.R_types HO_290000.out BK308.out (by decide)) (fun _ hk => hk.2) (.slice Ao111 t304.length co111)) (fun _ h_ => h_.1))) hb); have n3_ := Aside0.mk (Kd.R_below (by (with_reducible repeat (first | apply Kd.R_alloc | apply Kd.R_drewN | apply Kd.R_drew)); exact (Kd.R_mono (Kd.R_far (p := ⟨gb308, 0, none⟩) (Kd.R_types HO303.out BK308.out (by decide)) (fun _ hk => hk.2) (.slice Ao111 t304.length co111)) (fun _ h_ => h_.1))) hb); have n4_ := Aside0.mk (Kd.R_below (by (with_reducible repeat (first | apply Kd.R_alloc | apply Kd.R_drewN | apply Kd.R_drew)); exact (Kd.R_mono (Kd.R_far (p := ⟨gb308, 0, none⟩) (Kd.R_types HO306.out BK308.out (by decide)) (fun _ hk => hk.2) (.slice Ao111 t304.length co111)) (fun _ h_ => h_.1))) hb); have n5_ := Aside0.mk (blk_below (g := gb271) (o := .cells #[.slice A0_0 l0_0.length c0_0] 49 (0, 0)) (by (with_reducible repeat (first | refine blk_drewN ?_ _ | refine blk_drew ?_ | refine blk_alloc ?_ _)); refine blk_far ?_ NB271_308.out _; (with_reducible repeat (first | refine blk_drewN ?_ _ | refine blk_drew ?_ | refine blk_alloc ?_ _)); exact BK271.out) hb); have n6_ := Aside0.mk (blk_below (g := gb280) (o := .cells #[.slice Ao20 t276.length co20] 55 (0, 0)) (by (with_reducible repeat (first | refine blk_drewN ?_ _ | refine blk_drew ?_ | refine blk_alloc ?_ _)); refine blk_far ?_ NB280_308.out _; (with_reducible repeat (first | refine blk_drewN ?_ _ | refine blk_drew ?_ | refine blk_alloc ?_ _)); exact BK280.out) hb); have n7_ := Aside0.mk (blk_below (g := gb284) (o := .cells #[.slice Ao26 t296.length co26] 55 (0, 0)) (by (with_reducible repeat (first | refine blk_drewN ?_ _ | refine blk_drew ?_ | refine blk_alloc ?_ _)); refine blk_far ?_ NB284_308.out _; (with_reducible repeat (first | refine blk_drewN ?_ _ | refine blk_drew ?_ | refine blk_alloc ?_ _)); exact BK284.out) hb); have n8_ := Aside0.mk (blk_below (g := gb289) (o := .cells #[.slice Ao32 t285.length co32] 55 (0, 0)) (by (with_reducible repeat (first | refine blk_drewN ?_ _ | refine blk_drew ?_ | refine blk_alloc ?_ _)); refine blk_far ?_ NB289_308.out _; (with_reducible repeat (first | refine blk_drewN ?_ _ | refine blk_drew ?_ | refine blk_alloc ?_ _)); exact BK289.out) hb); have n9_ := Aside0.mk (blk_below (g := gb308) (o := .cells #[.slice Ao111 t304.length co111] 55 (0, 0)) (by (with_reducible repeat (first | refine blk_drewN ?_ _ | refine blk_drew ?_ | refine blk_alloc ?_ _)); refine blk_put (cs := #[.slice none 0 0]) ?_ 0 _ rfl; (with_reducible repeat (first | refine blk_drewN ?_ _ | refine blk_drew ?_ | refine blk_alloc ?_ _)); exact BK308.out) hb); have n10_ := Aside0.mk (below_step (Lam.al) hb); clear HO_281000; clear HO_285000; clear HO_290000; clear HO303; clear HO306; clear BK271; clear BK280; clear BK284; clear BK289; clear BK308; clear HB; have HO_281000 := n0_; have HO_285000 := n1_; have HO_290000 := n2_; have HO303 := n3_; have HO306 := n4_; have BK271 := n5_; have BK280 := n6_; have BK284 := n7_; have BK289 := n8_; have BK308 := n9_; have HB := n10_; clear n0_ n1_ n2_ n3_ n4_ n5_ n6_ n7_ n8_ n9_ n10_; (try clear hb); (try clear hb2); (try clear hk); (try clear hi)))
             go_meet
             case rel => exact ⟨_, (true), (by first | rfl | (simp; done) | (simp [*]; done)), H', ⟨by have := HJ10.out; have := HJ59.out; first | omega | exact Nat.le_refl _⟩, ⟨by (try simp only [hl285000_59]); (with_reducible repeat (first | apply Kd.R_alloc | apply Kd.R_drewN | apply Kd.R_drew)); exact Kd.R_mono HO_281000.out (fun _ hk => ⟨hk.1.1.1, ⟨hk.1.1.2, hk.2⟩⟩)⟩, ⟨by (try simp only [hl285000_59]); (with_reducible repeat (first | apply Kd.R_alloc | apply Kd.R_drewN | apply Kd.R_drew)); exact Kd.R_mono HO_285000.out (fun _ hk => ⟨hk.1.1.1, ⟨hk.1.1.2, hk.2⟩⟩)⟩, ⟨by (try simp only [hl285000_59]); (with_reducible repeat (first | apply Kd.R_alloc | apply Kd.R_drewN | apply Kd.R_drew)); exact Kd.R_mono HO_290000.out (fun _ hk => ⟨hk.1.1.1, ⟨hk.1.1.2, hk.2⟩⟩)⟩, ⟨by (try simp only [hl285000_59]); (with_reducible repeat (first | apply Kd.R_alloc | apply Kd.R_drewN | apply Kd.R_drew)); exact Kd.R_mono HO306.out (fun _ hk => ⟨hk.1.1.1.2, ⟨hk.1.1.2, hk.1.2⟩⟩)⟩, ⟨by (try simp only [hl285000_59]); (with_reducible repeat (first | refine blk_drewN ?_ _ | refine blk_drew ?_ | refine blk_alloc ?_ _)); exact BK271.out⟩, ⟨by (try simp only [hl285000_59]); (with_reducible repeat (first | refine blk_drewN ?_ _ | refine blk_drew ?_ | refine blk_alloc ?_ _)); exact BK280.out⟩, ⟨by (try simp only [hl285000_59]); (with_reducible repeat (first | refine blk_drewN ?_ _ | refine blk_drew ?_ | refine blk_alloc ?_ _)); exact BK284.out⟩, ⟨by (try simp only [hl285000_59]); (with_reducible repeat (first | refine blk_drewN ?_ _ | refine blk_drew ?_ | refine blk_alloc ?_ _)); exact BK289.out⟩, ⟨by (try simp only [hl285000_59]); (with_reducible repeat (first | refine blk_drewN ?_ _ | refine blk_drew ?_ | refine blk_alloc ?_ _)); exact BK308.out⟩, ⟨Lam.al⟩⟩
           case rest =>
            clear HC96
            try clear c1
            try clear c2
            try clear p2
            try clear c3
            try clear c3b0
            try clear c4
            try clear c5
            try clear c6
            try clear c7
            try clear c8
            try clear c9
            try clear c10
            try clear c11
            try clear c12
            try clear c13
            try clear c14
            try clear c21
            try clear c25
            try clear c27
            try clear c28
            try clear c29
            try clear c33
            try clear c34
            try clear c35
            try clear c37
            try clear c38
            try clear c39
            try clear c40
            try clear c41
            try clear c43
            try clear c44
            try clear c47
            try clear c48
            try clear c49
            try clear c51
            try clear c52
            try clear c53
            try clear c54
            try clear c55
            try clear c58
            try clear c65
            try clear c66
            try clear c67
            try clear c70
            try clear c70b0
            try clear c72
            try clear c73
            try clear c74
            try clear c75
            try clear c77
            try clear c78
            try clear c81
            try clear c82
            try clear c83
            try clear c85
            try clear c86
            try clear c89
            try clear c92
            try clear c92b0
            try clear c93
            try clear c93b0
            try clear c93b1
            try clear c97
            try clear c98
            try clear c99
            try clear c104
            try clear c105
            try clear c112
            try clear c113
            try clear c114
            try clear c115
            try clear c118
            try clear c119
            try clear c120
            try clear c121
            try clear c122
            try clear c124
            try clear c125
            try clear c126
            try clear c129
            try clear c130
            try clear c131
            try clear c132
            try clear c134
            try clear c135
            try clear c136
            try clear hcz100_0
            try clear hcz102_0
            try clear hcz106_0
            try clear hcz116_0
            try clear hcz123_0
            try clear hcz127_0
            try clear hcz133_0
            try clear hcz137_0
            try clear hcz13_0
            try clear hcz15_0
            try clear hcz22_0
            try clear hcz23_0
            try clear hcz29_0
            try clear hcz36_0
            try clear hcz42_0
            try clear hcz45_0
            try clear hcz50_0
            try clear hcz53_0
            try clear hcz5_0
            try clear hcz68_0
            try clear hcz76_0
            try clear hcz79_0
            try clear hcz84_0
            try clear hcz87_0
            try clear hfz100_0
            try clear hfz102_0
            try clear hfz106_0
            try clear hfz116_0
            try clear hfz123_0
            try clear hfz127_0
            try clear hfz133_0
            try clear hfz137_0
            try clear hfz13_0
            try clear hfz15_0
            try clear hfz22_0
            try clear hfz23_0
            try clear hfz29_0
            try clear hfz36_0
            try clear hfz42_0
            try clear hfz45_0
            try clear hfz50_0
            try clear hfz53_0
            try clear hfz5_0
            try clear hfz68_0
            try clear hfz76_0
            try clear hfz79_0
            try clear hfz84_0
            try clear hfz87_0
            try clear p2
            obtain ⟨kq, x87_95, rfl, HA, HJ95, HO_281000, HO_285000, HO_290000, HO_309000, BK271, BK280, BK284, BK289, BK308, HB⟩ := hcut
            have hl290000_95 := (Kd.R_reads' HO_290000.out).1
            rw [hl290000_95] at HO_290000
            (try simp only [hl290000_95])
            (try simp only [hl290000_95] at BK271)
            (try simp only [hl290000_95] at BK280)
            (try simp only [hl290000_95] at BK284)
            (try simp only [hl290000_95] at BK289)
            (try simp only [hl290000_95] at BK308)
            (try simp only [hl290000_95] at HO_281000)
            (try simp only [hl290000_95] at HO_285000)
            (try simp only [hl290000_95] at HO_309000)
            cases kq with
            | zero => exact absurd HA.out (by simp [laws_FnExactHarderPuzzle.j2])
            | succ kj95 =>
             have H := HA.out
             clear HA
             simp only [laws_FnExactHarderPuzzle.j2] at H
             by_cases c139 : x87_95 = true
             ·subst c139
              have H1 : (none) = some r := by rw [if_pos rfl] at H; exact H
              clear H
              have H := H1
              clear H1
              exact absurd H (by simp)
             ·replace c139 := Bool.eq_false_iff.mpr c139
              subst c139
              have H1 : ((laws_heldPuzzle.f kj95 t299 1).bind fun t310 => (if t310 < 0 then (none) else (if t310 = t298 then (some true) else (none)))) = some r := by rw [if_neg (show ¬ (false = true) by decide)] at H; exact H
              clear H
              have H := H1
              clear H1
              replace H := Option.bind_eq_some_iff.mp H
              obtain ⟨t310, A1400, H⟩ := H
              replace H : (if t310 < 0 then (none) else (if t310 = t298 then (some true) else (none))) = some r := H
              have A140 := Aside0.mk A1400
              clear A1400
              by_cases c141 : t310 < 0
              ·rw [if_pos c141] at H
               exact absurd H (by simp)
              ·rw [if_neg c141] at H
               have c141b0 : decide (t310 < 0) = false := decide_eq_false c141
               clear c141
               by_cases c142 : t310 = t298
               ·rw [if_pos c142] at H
                have c142b0 : (t310 == t298) = true := beq_iff_eq.mpr c142
                have c142b1 : (t310 != t298) = false := bne_eq_false_iff_eq.mpr c142
                clear c142
                obtain rfl := Option.some.inj H
                have hnb143 := NB289_271.out
                have hnc143 := NB271_289.out
                have hnb144 := NB289_280.out
                have hnc144 := NB280_289.out
                have hnb145 := NB289_284.out
                have hnc145 := NB284_289.out
                have hnb146 := NB289_308.out
                have hnc146 := NB308_289.out
                have hcz147_0 : wc.cell? ⟨gb289, 0, none⟩ = some (.slice Ao32 t299.length co32) := (blk_cell BK289.out 0).trans rfl
                have hfz147_0 := blk_frozen BK289.out 0
                go_wp2_with (first | ((with_reducible refine gate_callee (f := 38) rfl ?_); refine goesL_ (some 90) rfl rfl Tryd.func38 (by kernel_rfl) rfl #[.agg #[.slice Ao32 t299.length co32], .int .i64 1] rfl (by (try simp only [List.map_toArray, List.map_cons, List.map_nil]); first | done | rfl | (simp only [List.length_drop, List.length_take]; rfl)) ?_; (with_reducible refine (laws_heldPuzzle.calls kj95 _ _ t299 1 t310 _ ?side1 ?side2 A140.out).mono ?_); (case side1 => repeat (first | exact (Kd.R_reads' HO_290000.out).2.2 | (with_reducible refine Kd.C_alloc ?_ _) | (with_reducible refine Kd.C_drewN ?_ _) | (with_reducible refine Kd.C_drew ?_))); (case side2 => exact (Kd.R_reads' HO_290000.out).2.1); rintro e w148 ⟨rfl, hb⟩; refine ⟨_, rfl, ?_⟩; have n0_ := Aside0.mk (Kd.R_below (Lam.rq HO_281000.out) hb); have n1_ := Aside0.mk (Kd.R_below (Lam.rq HO_285000.out) hb); have n2_ := Aside0.mk (Kd.R_below (Lam.rq HO_290000.out) hb); have n3_ := Aside0.mk (Kd.R_below (Lam.rq HO_309000.out) hb); have n4_ := Aside0.mk (blk_below (g := gb271) (o := .cells #[.slice A0_0 l0_0.length c0_0] 49 (0, 0)) (Lam.bq BK271.out) hb); have n5_ := Aside0.mk (blk_below (g := gb280) (o := .cells #[.slice Ao20 t276.length co20] 55 (0, 0)) (Lam.bq BK280.out) hb); have n6_ := Aside0.mk (blk_below (g := gb284) (o := .cells #[.slice Ao26 t296.length co26] 55 (0, 0)) (Lam.bq BK284.out) hb); have n7_ := Aside0.mk (blk_below (g := gb289) (o := .cells #[.slice Ao32 t299.length co32] 55 (0, 0)) (Lam.bq BK289.out) hb); have n8_ := Aside0.mk (blk_below (g := gb308) (o := .cells #[.slice Ao111 t304.length co111] 55 (0, 0)) (Lam.bq BK308.out) hb); have n9_ := Aside0.mk (below_step (Lam.al) hb); clear HO_281000; clear HO_285000; clear HO_290000; clear HO_309000; clear BK271; clear BK280; clear BK284; clear BK289; clear BK308; clear HB; have HO_281000 := n0_; have HO_285000 := n1_; have HO_290000 := n2_; have HO_309000 := n3_; have BK271 := n4_; have BK280 := n5_; have BK284 := n6_; have BK289 := n7_; have BK308 := n8_; have HB := n9_; clear n0_ n1_ n2_ n3_ n4_ n5_ n6_ n7_ n8_ n9_; (try clear hb); (try clear hb2); (try clear hk); (try clear hi)))
                go_ret
                exact ⟨by first | rfl | (simp [errW_none, errW_some] <;> rfl) | (simp [*, errW_none, errW_some] <;> rfl), Lam.al⟩
               ·rw [if_neg c142] at H
                exact absurd H (by simp)
          ·rw [if_neg c93] at H
           exact absurd H (by simp)
     ·replace c58 := Bool.eq_false_iff.mpr c58
      subst c58
      have H1 : (none) = some r := by rw [if_neg (show ¬ (false = true) by decide)] at H; exact H
      clear H
      have H := H1
      clear H1
      exact absurd H (by simp)

end Go.Proofs.YtipiocdppghhnaaDoor.PFnExactHarderPuzzle
