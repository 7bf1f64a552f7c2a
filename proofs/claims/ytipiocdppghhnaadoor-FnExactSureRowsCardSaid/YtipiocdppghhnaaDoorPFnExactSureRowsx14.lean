-- Made by a program of this session (wip/xprint.py) out of the translation.
import Derived.Test.YtipiocdppghhnaaDoorPFnExactSureRowsx0
import Derived.Test.YtipiocdppghhnaaDoorPFnExactSureRowsx1
import Derived.Test.YtipiocdppghhnaaDoorPFnExactSureRowsx2
import Derived.Test.YtipiocdppghhnaaDoorPFnExactSureRowsx8
import Derived.Test.YtipiocdppghhnaaDoorPFnExactSureRowsx13
namespace Go.Proofs.YtipiocdppghhnaaDoor.PFnExactSureRows
open Go.RowKit Go.Proofs.YtipiocdppghhnaaDoorW.PrintWords Go.Proofs.YtipiocdppghhnaaDoorW.PrintLast Go.Proofs.YtipiocdppghhnaaDoorW.PrintMore
attribute [local go_sem] max2_int min2_int max_two min_two max_three min_three max_four min_four   -- for this text's walks alone
set_option linter.unusedVariables false
set_option linter.unusedSimpArgs false

/-! ### laws_FnExactSureRows: function 12 -/
mutual
def laws_FnExactSureRows.j0 : Nat → List Int → Bool → List Int → Bool → Bool → List (S39) → List (S42) → Option (Bool)
 | 0, _, _, _, _, _, _, _ => none
 | k + 1, x4, x5, x7, x8, x40, x249000, x261000 => if x40 = true then (none) else ((laws_toPuzzle.f k x249000).bind fun t266 => ((laws_eqPuzzle.f k x261000 t266).bind fun t269 => (if t269 = true then ((laws_markPuzzle.f k x261000 1).bind fun bt270 => (if bt270.1 < 0 then (laws_FnExactSureRows.j1 k x4 x5 x7 true x249000) else ((laws_eqIntS.f k x7 x4).bind fun t272 => (if t272 = true then (laws_FnExactSureRows.j1 k x4 x5 x7 (x8 != x5) x249000) else (laws_FnExactSureRows.j1 k x4 x5 x7 true x249000))))) else (none))))
def laws_FnExactSureRows.j1 : Nat → List Int → Bool → List Int → Bool → List (S39) → Option (Bool)
 | 0, _, _, _, _, _ => none
 | k + 1, x4, x5, x7, x61, x249000 => if x61 = true then (none) else ((laws_markIntS.f k x7 1).bind fun bt273 => ((laws_heldIntS.f k bt273.2 1).bind fun t275 => (if t275 < 0 then (none) else (if t275 = bt273.1 then ((laws_toPuzzle.f k x249000).bind fun t276 => ((impl_SureRows.f t276).bind fun bt279 => ((laws_eqIntS.f k bt279.1 x4).bind fun t283 => (if t283 = true then (laws_FnExactSureRows.j2 k bt273.2 bt273.1 (bt279.2 != x5)) else (laws_FnExactSureRows.j2 k bt273.2 bt273.1 true))))) else (none)))))
def laws_FnExactSureRows.j2 : Nat → List Int → Int → Bool → Option (Bool)
 | 0, _, _, _ => none
 | k + 1, x7, x10, x87 => if x87 = true then (none) else ((laws_heldIntS.f k x7 1).bind fun t284 => (if t284 < 0 then (none) else (if t284 = x10 then (some true) else (none))))
end
def laws_FnExactSureRows.f (k : Nat) (l0_0 : List (S39)) : Option (Bool) := (laws_szPuzzle.f l0_0 1048576).bind fun t249 => (if t249 < 0 then (some true) else ((laws_toPuzzle.f k l0_0).bind fun t250 => ((spec_SureRows.f k t250).bind fun bt253 => ((laws_toPuzzle.f k l0_0).bind fun t257 => ((impl_SureRows.f t257).bind fun bt261 => ((laws_eqIntS.f k bt261.1 bt253.1).bind fun t265 => (if t265 = true then (laws_FnExactSureRows.j0 k bt253.1 bt253.2 bt261.1 bt261.2 (bt261.2 != bt253.2) l0_0 t257) else (laws_FnExactSureRows.j0 k bt253.1 bt253.2 bt261.1 bt261.2 true l0_0 t257))))))))
theorem laws_FnExactSureRows.mono_l : ∀ k, (∀ y0 y1 y2 y3 y4 y5 y6, LeO (laws_FnExactSureRows.j0 k y0 y1 y2 y3 y4 y5 y6) (laws_FnExactSureRows.j0 (k + 1) y0 y1 y2 y3 y4 y5 y6)) ∧ (∀ y0 y1 y2 y3 y4, LeO (laws_FnExactSureRows.j1 k y0 y1 y2 y3 y4) (laws_FnExactSureRows.j1 (k + 1) y0 y1 y2 y3 y4)) ∧ (∀ y0 y1 y2, LeO (laws_FnExactSureRows.j2 k y0 y1 y2) (laws_FnExactSureRows.j2 (k + 1) y0 y1 y2))
 | 0 => ⟨fun _ _ _ _ _ _ _ r h => by simp [laws_FnExactSureRows.j0] at h, fun _ _ _ _ _ r h => by simp [laws_FnExactSureRows.j1] at h, fun _ _ _ r h => by simp [laws_FnExactSureRows.j2] at h⟩
 | k + 1 => by
  obtain ⟨ih0, ih1, ih2⟩ := laws_FnExactSureRows.mono_l k
  refine ⟨?_, ?_, ?_⟩
  ·intro y0 y1 y2 y3 y4 y5 y6
   unfold laws_FnExactSureRows.j0
   repeat' first
   | (with_reducible exact ih0 _ _ _ _ _ _ _)
   | (with_reducible exact ih1 _ _ _ _ _)
   | (with_reducible exact ih2 _ _ _)
   | (with_reducible exact laws_eqIntS.mono _ _ _)
   | (with_reducible exact laws_eqPuzzle.mono _ _ _)
   | (with_reducible exact laws_heldIntS.mono _ _ _)
   | (with_reducible exact laws_markIntS.mono _ _ _)
   | (with_reducible exact laws_markPuzzle.mono _ _ _)
   | (with_reducible exact laws_toPuzzle.mono _ _)
   | (with_reducible exact spec_SureRows.mono _ _)
   | (with_reducible exact LeO.refl _)
   | (with_reducible exact LeO.none _)
   | (with_reducible refine LeO.ite ?_ ?_)
   | (with_reducible refine LeO.bind ?_ (fun _ => ?_))
   | exact ih0 _ _ _ _ _ _ _
   | exact ih1 _ _ _ _ _
   | exact ih2 _ _ _
   | exact laws_eqIntS.mono _ _ _
   | exact laws_eqPuzzle.mono _ _ _
   | exact laws_heldIntS.mono _ _ _
   | exact laws_markIntS.mono _ _ _
   | exact laws_markPuzzle.mono _ _ _
   | exact laws_toPuzzle.mono _ _
   | exact spec_SureRows.mono _ _
   | exact LeO.none _
   | refine LeO.ite ?_ ?_
   | refine LeO.bind ?_ (fun _ => ?_)
  ·intro y0 y1 y2 y3 y4
   unfold laws_FnExactSureRows.j1
   repeat' first
   | (with_reducible exact ih0 _ _ _ _ _ _ _)
   | (with_reducible exact ih1 _ _ _ _ _)
   | (with_reducible exact ih2 _ _ _)
   | (with_reducible exact laws_eqIntS.mono _ _ _)
   | (with_reducible exact laws_eqPuzzle.mono _ _ _)
   | (with_reducible exact laws_heldIntS.mono _ _ _)
   | (with_reducible exact laws_markIntS.mono _ _ _)
   | (with_reducible exact laws_markPuzzle.mono _ _ _)
   | (with_reducible exact laws_toPuzzle.mono _ _)
   | (with_reducible exact spec_SureRows.mono _ _)
   | (with_reducible exact LeO.refl _)
   | (with_reducible exact LeO.none _)
   | (with_reducible refine LeO.ite ?_ ?_)
   | (with_reducible refine LeO.bind ?_ (fun _ => ?_))
   | exact ih0 _ _ _ _ _ _ _
   | exact ih1 _ _ _ _ _
   | exact ih2 _ _ _
   | exact laws_eqIntS.mono _ _ _
   | exact laws_eqPuzzle.mono _ _ _
   | exact laws_heldIntS.mono _ _ _
   | exact laws_markIntS.mono _ _ _
   | exact laws_markPuzzle.mono _ _ _
   | exact laws_toPuzzle.mono _ _
   | exact spec_SureRows.mono _ _
   | exact LeO.none _
   | refine LeO.ite ?_ ?_
   | refine LeO.bind ?_ (fun _ => ?_)
  ·intro y0 y1 y2
   unfold laws_FnExactSureRows.j2
   repeat' first
   | (with_reducible exact ih0 _ _ _ _ _ _ _)
   | (with_reducible exact ih1 _ _ _ _ _)
   | (with_reducible exact ih2 _ _ _)
   | (with_reducible exact laws_eqIntS.mono _ _ _)
   | (with_reducible exact laws_eqPuzzle.mono _ _ _)
   | (with_reducible exact laws_heldIntS.mono _ _ _)
   | (with_reducible exact laws_markIntS.mono _ _ _)
   | (with_reducible exact laws_markPuzzle.mono _ _ _)
   | (with_reducible exact laws_toPuzzle.mono _ _)
   | (with_reducible exact spec_SureRows.mono _ _)
   | (with_reducible exact LeO.refl _)
   | (with_reducible exact LeO.none _)
   | (with_reducible refine LeO.ite ?_ ?_)
   | (with_reducible refine LeO.bind ?_ (fun _ => ?_))
   | exact ih0 _ _ _ _ _ _ _
   | exact ih1 _ _ _ _ _
   | exact ih2 _ _ _
   | exact laws_eqIntS.mono _ _ _
   | exact laws_eqPuzzle.mono _ _ _
   | exact laws_heldIntS.mono _ _ _
   | exact laws_markIntS.mono _ _ _
   | exact laws_markPuzzle.mono _ _ _
   | exact laws_toPuzzle.mono _ _
   | exact spec_SureRows.mono _ _
   | exact LeO.none _
   | refine LeO.ite ?_ ?_
   | refine LeO.bind ?_ (fun _ => ?_)
theorem laws_FnExactSureRows.mono : ∀ a0 k, LeO (laws_FnExactSureRows.f k a0) (laws_FnExactSureRows.f (k + 1) a0) := by
 intro a0 k
 obtain ⟨ih0, ih1, ih2⟩ := laws_FnExactSureRows.mono_l k
 unfold laws_FnExactSureRows.f
 repeat' first
   | (with_reducible exact ih0 _ _ _ _ _ _ _)
   | (with_reducible exact ih1 _ _ _ _ _)
   | (with_reducible exact ih2 _ _ _)
   | (with_reducible exact laws_eqIntS.mono _ _ _)
   | (with_reducible exact laws_eqPuzzle.mono _ _ _)
   | (with_reducible exact laws_heldIntS.mono _ _ _)
   | (with_reducible exact laws_markIntS.mono _ _ _)
   | (with_reducible exact laws_markPuzzle.mono _ _ _)
   | (with_reducible exact laws_toPuzzle.mono _ _)
   | (with_reducible exact spec_SureRows.mono _ _)
   | (with_reducible exact LeO.refl _)
   | (with_reducible exact LeO.none _)
   | (with_reducible refine LeO.ite ?_ ?_)
   | (with_reducible refine LeO.bind ?_ (fun _ => ?_))
   | exact ih0 _ _ _ _ _ _ _
   | exact ih1 _ _ _ _ _
   | exact ih2 _ _ _
   | exact laws_eqIntS.mono _ _ _
   | exact laws_eqPuzzle.mono _ _ _
   | exact laws_heldIntS.mono _ _ _
   | exact laws_markIntS.mono _ _ _
   | exact laws_markPuzzle.mono _ _ _
   | exact laws_toPuzzle.mono _ _
   | exact spec_SureRows.mono _ _
   | exact LeO.none _
   | refine LeO.ite ?_ ?_
   | refine LeO.bind ?_ (fun _ => ?_)
set_option maxHeartbeats 8000000 in
set_option maxRecDepth 100000 in
theorem laws_FnExactSureRows.calls (k : Nat) (A0_0 : Option Addr) (c0_0 : Nat) (l0_0 : List (S39)) (r : Bool) (w : World) (hr0_0 : Kd.C k39 w A0_0 l0_0.length l0_0) (hc0_0 : l0_0.length ≤ c0_0) (h : laws_FnExactSureRows.f k l0_0 = some r) :
  Calls Tryd.prog 12 #[.agg #[.slice A0_0 l0_0.length c0_0]] w fun e w' => e = .returned (.bool r) ∧ Below w.heap.size w w' := by
 have hu49 := Tryd.underlying49
 have hu55 := Tryd.underlying55
 have HR0_0 := Aside0.mk hr0_0
 have HC0_0 := Aside0.mk hc0_0
 clear hr0_0 hc0_0
 have HB := Aside0.mk (Below.refl w.heap.size w)
 have H : ((laws_szPuzzle.f l0_0 1048576).bind fun t249 => (if t249 < 0 then (some true) else ((laws_toPuzzle.f k l0_0).bind fun t250 => ((spec_SureRows.f k t250).bind fun bt253 => ((laws_toPuzzle.f k l0_0).bind fun t257 => ((impl_SureRows.f t257).bind fun bt261 => ((laws_eqIntS.f k bt261.1 bt253.1).bind fun t265 => (if t265 = true then (laws_FnExactSureRows.j0 k bt253.1 bt253.2 bt261.1 bt261.2 (bt261.2 != bt253.2) l0_0 t257) else (laws_FnExactSureRows.j0 k bt253.1 bt253.2 bt261.1 bt261.2 true l0_0 t257))))))))) = some r := h
 clear h
 replace H := Option.bind_eq_some_iff.mp H
 obtain ⟨t249, A20, H⟩ := H
 replace H : (if t249 < 0 then (some true) else ((laws_toPuzzle.f k l0_0).bind fun t250 => ((spec_SureRows.f k t250).bind fun bt253 => ((laws_toPuzzle.f k l0_0).bind fun t257 => ((impl_SureRows.f t257).bind fun bt261 => ((laws_eqIntS.f k bt261.1 bt253.1).bind fun t265 => (if t265 = true then (laws_FnExactSureRows.j0 k bt253.1 bt253.2 bt261.1 bt261.2 (bt261.2 != bt253.2) l0_0 t257) else (laws_FnExactSureRows.j0 k bt253.1 bt253.2 bt261.1 bt261.2 true l0_0 t257)))))))) = some r := H
 have A2 := Aside0.mk A20
 clear A20
 by_cases c3 : t249 < 0
 ·rw [if_pos c3] at H
  have c3b0 : decide (t249 < 0) = true := decide_eq_true c3
  clear c3
  obtain rfl := Option.some.inj H
  go_enter Tryd.func12, Tryd.ntmps12
  go_wp2_with (first | ((with_reducible refine gate_dst (N := 1) rfl ?_); refine box_event ?hg (N := 1) ?hd (cs := #[.slice A0_0 l0_0.length c0_0]) (t := 49) ?hr ?_; (case hd => rfl); (case hg => rfl); (case hr => first | (go_simp; done) | (go_simp; rfl)); intro gb248 hg w4 hbox hb; have n0_ := Aside0.mk (below_step (Lam.al) hb); have n1_ := Aside0.mk (hbox); have n2_ := Aside0.mk ((by rw [hg]; exact (below_size (Lam.al)) : w.heap.size ≤ gb248)); have n3_ := Aside0.mk ((by rw [hg]; exact (below_size (Lam.al)) : w.heap.size ≤ gb248)); clear HB; have HB := n0_; have BK248 := n1_; have GW248 := n2_; have GE248 := n3_; clear n0_ n1_ n2_ n3_; clear hb hbox hg; have hcz5_0 : w4.cell? ⟨gb248, 0, none⟩ = some (.slice A0_0 l0_0.length c0_0) := (blk_cell BK248.out 0).trans rfl; have hfz5_0 := blk_frozen BK248.out 0) | ((with_reducible refine gate_callee (f := 25) rfl ?_); refine goesL_ (some 16) rfl rfl Tryd.func25 (by kernel_rfl) rfl #[.agg #[.slice A0_0 l0_0.length c0_0], .int .i64 1048576] rfl (by (try simp only [List.map_toArray, List.map_cons, List.map_nil]); first | done | rfl | (simp only [List.length_drop, List.length_take]; rfl)) ?_; (with_reducible refine (laws_szPuzzle.calls _ _ l0_0 1048576 t249 _ ?side1 ?side2 A2.out).mono ?_); (case side1 => repeat (first | exact (Kd.C_below HR0_0.out HB.out) | (with_reducible refine Kd.C_alloc ?_ _) | (with_reducible refine Kd.C_drewN ?_ _) | (with_reducible refine Kd.C_drew ?_))); (case side2 => exact HC0_0.out); rintro e w6 ⟨rfl, hb⟩; refine ⟨_, rfl, ?_⟩; have n0_ := Aside0.mk (blk_below (g := gb248) (o := .cells #[.slice A0_0 l0_0.length c0_0] 49 (0, 0)) (Lam.bq BK248.out) hb); have n1_ := Aside0.mk (below_step (Lam.al) hb); clear BK248; clear HB; have BK248 := n0_; have HB := n1_; clear n0_ n1_; (try clear hb); (try clear hb2); (try clear hk); (try clear hi)))
  go_ret
  exact ⟨by first | rfl | (simp [errW_none, errW_some] <;> rfl) | (simp [*, errW_none, errW_some] <;> rfl), Lam.al⟩
 ·rw [if_neg c3] at H
  have c3b0 : decide (t249 < 0) = false := decide_eq_false c3
  clear c3
  replace H := Option.bind_eq_some_iff.mp H
  obtain ⟨t250, A70, H⟩ := H
  replace H : ((spec_SureRows.f k t250).bind fun bt253 => ((laws_toPuzzle.f k l0_0).bind fun t257 => ((impl_SureRows.f t257).bind fun bt261 => ((laws_eqIntS.f k bt261.1 bt253.1).bind fun t265 => (if t265 = true then (laws_FnExactSureRows.j0 k bt253.1 bt253.2 bt261.1 bt261.2 (bt261.2 != bt253.2) l0_0 t257) else (laws_FnExactSureRows.j0 k bt253.1 bt253.2 bt261.1 bt261.2 true l0_0 t257)))))) = some r := H
  have A7 := Aside0.mk A70
  clear A70
  replace H := Option.bind_eq_some_iff.mp H
  obtain ⟨⟨t253, t256⟩, A80, H⟩ := H
  replace H : ((laws_toPuzzle.f k l0_0).bind fun t257 => ((impl_SureRows.f t257).bind fun bt261 => ((laws_eqIntS.f k bt261.1 t253).bind fun t265 => (if t265 = true then (laws_FnExactSureRows.j0 k t253 t256 bt261.1 bt261.2 (bt261.2 != t256) l0_0 t257) else (laws_FnExactSureRows.j0 k t253 t256 bt261.1 bt261.2 true l0_0 t257))))) = some r := H
  have A8 := Aside0.mk A80
  clear A80
  replace H := Option.bind_eq_some_iff.mp H
  obtain ⟨t257, A90, H⟩ := H
  replace H : ((impl_SureRows.f t257).bind fun bt261 => ((laws_eqIntS.f k bt261.1 t253).bind fun t265 => (if t265 = true then (laws_FnExactSureRows.j0 k t253 t256 bt261.1 bt261.2 (bt261.2 != t256) l0_0 t257) else (laws_FnExactSureRows.j0 k t253 t256 bt261.1 bt261.2 true l0_0 t257)))) = some r := H
  have A9 := Aside0.mk A90
  clear A90
  replace H := Option.bind_eq_some_iff.mp H
  obtain ⟨⟨t261, t264⟩, A100, H⟩ := H
  replace H : ((laws_eqIntS.f k t261 t253).bind fun t265 => (if t265 = true then (laws_FnExactSureRows.j0 k t253 t256 t261 t264 (t264 != t256) l0_0 t257) else (laws_FnExactSureRows.j0 k t253 t256 t261 t264 true l0_0 t257))) = some r := H
  have A10 := Aside0.mk A100
  clear A100
  have HC11 := Aside0.mk H
  clear H
  go_enter Tryd.func12, Tryd.ntmps12
  go_upto_region 8 with (first | ((with_reducible refine gate_dst (N := 1) rfl ?_); refine box_event ?hg (N := 1) ?hd (cs := #[.slice A0_0 l0_0.length c0_0]) (t := 49) ?hr ?_; (case hd => rfl); (case hg => rfl); (case hr => first | (go_simp; done) | (go_simp; rfl)); intro gb248 hg w12 hbox hb; have n0_ := Aside0.mk (below_step (Lam.al) hb); have n1_ := Aside0.mk (hbox); have n2_ := Aside0.mk ((by rw [hg]; exact (below_size (Lam.al)) : w.heap.size ≤ gb248)); have n3_ := Aside0.mk ((by rw [hg]; exact (below_size (Lam.al)) : w.heap.size ≤ gb248)); clear HB; have HB := n0_; have BK248 := n1_; have GW248 := n2_; have GE248 := n3_; clear n0_ n1_ n2_ n3_; clear hb hbox hg; have hcz13_0 : w12.cell? ⟨gb248, 0, none⟩ = some (.slice A0_0 l0_0.length c0_0) := (blk_cell BK248.out 0).trans rfl; have hfz13_0 := blk_frozen BK248.out 0) | ((with_reducible refine gate_callee (f := 25) rfl ?_); refine goesL_ (some 16) rfl rfl Tryd.func25 (by kernel_rfl) rfl #[.agg #[.slice A0_0 l0_0.length c0_0], .int .i64 1048576] rfl (by (try simp only [List.map_toArray, List.map_cons, List.map_nil]); first | done | rfl | (simp only [List.length_drop, List.length_take]; rfl)) ?_; (with_reducible refine (laws_szPuzzle.calls _ _ l0_0 1048576 t249 _ ?side1 ?side2 A2.out).mono ?_); (case side1 => repeat (first | exact (Kd.C_below HR0_0.out HB.out) | (with_reducible refine Kd.C_alloc ?_ _) | (with_reducible refine Kd.C_drewN ?_ _) | (with_reducible refine Kd.C_drew ?_))); (case side2 => exact HC0_0.out); rintro e w14 ⟨rfl, hb⟩; refine ⟨_, rfl, ?_⟩; have n0_ := Aside0.mk (blk_below (g := gb248) (o := .cells #[.slice A0_0 l0_0.length c0_0] 49 (0, 0)) (Lam.bq BK248.out) hb); have n1_ := Aside0.mk (below_step (Lam.al) hb); clear BK248; clear HB; have BK248 := n0_; have HB := n1_; clear n0_ n1_; (try clear hb); (try clear hb2); (try clear hk); (try clear hi); have hcz15_0 : w14.cell? ⟨gb248, 0, none⟩ = some (.slice A0_0 l0_0.length c0_0) := (blk_cell BK248.out 0).trans rfl; have hfz15_0 := blk_frozen BK248.out 0) | ((with_reducible refine gate_callee (f := 27) rfl ?_); refine goesL_ (some 21) rfl rfl Tryd.func27 (by kernel_rfl) rfl #[.agg #[.slice A0_0 l0_0.length c0_0]] rfl (by (try simp only [List.map_toArray, List.map_cons, List.map_nil]); first | done | rfl | (simp only [List.length_drop, List.length_take]; rfl)) ?_; (with_reducible refine (laws_toPuzzle.calls k _ _ l0_0 t250 _ ?side1 ?side2 A7.out).mono ?_); (case side1 => repeat (first | exact (Kd.C_below HR0_0.out HB.out) | (with_reducible refine Kd.C_alloc ?_ _) | (with_reducible refine Kd.C_drewN ?_ _) | (with_reducible refine Kd.C_drew ?_))); (case side2 => exact HC0_0.out); rintro e w16 ⟨v251, rfl, ho0, hb⟩; refine ⟨_, rfl, ?_⟩; have n0_ := Aside0.mk (Kd.R_lower ho0 (below_size (Lam.al))); have n1_ := Aside0.mk (blk_below (g := gb248) (o := .cells #[.slice A0_0 l0_0.length c0_0] 49 (0, 0)) (Lam.bq BK248.out) hb); have n2_ := Aside0.mk (below_step (Lam.al) hb); clear BK248; clear HB; have HO252 := n0_; have BK248 := n1_; have HB := n2_; clear n0_ n1_ n2_; (try clear hb); (try clear hb2); (try clear hk); (try clear hi); (try clear ho0); obtain ⟨Ao17, co17, eo17⟩ := Kd.R_slice HO252.out; subst eo17) | ((with_reducible refine gate_callee (f := 49) rfl ?_); refine goesL_ (some 22) rfl rfl Tryd.func49 (by kernel_rfl) rfl #[.agg #[.slice Ao17 t250.length co17]] rfl (by (try simp only [List.map_toArray, List.map_cons, List.map_nil]); first | done | rfl | (simp only [List.length_drop, List.length_take]; rfl)) ?_; (with_reducible refine (spec_SureRows.calls k _ _ t250 t253 t256 _ ?side1 ?side2 A8.out).mono ?_); (case side1 => repeat (first | exact (Kd.R_reads' HO252.out).2.2 | (with_reducible refine Kd.C_alloc ?_ _) | (with_reducible refine Kd.C_drewN ?_ _) | (with_reducible refine Kd.C_drew ?_))); (case side2 => exact (Kd.R_reads' HO252.out).2.1); rintro e w18 ⟨v254, rfl, ho0, hb⟩; refine ⟨_, rfl, ?_⟩; have n0_ := Aside0.mk (Kd.R_below (Lam.rq HO252.out) hb); have n1_ := Aside0.mk (Kd.R_lower ho0 (below_size (Lam.al))); have n2_ := Aside0.mk (blk_below (g := gb248) (o := .cells #[.slice A0_0 l0_0.length c0_0] 49 (0, 0)) (Lam.bq BK248.out) hb); have n3_ := Aside0.mk (below_step (Lam.al) hb); clear HO252; clear BK248; clear HB; have HO252 := n0_; have HO255 := n1_; have BK248 := n2_; have HB := n3_; clear n0_ n1_ n2_ n3_; (try clear hb); (try clear hb2); (try clear hk); (try clear hi); (try clear ho0); have hcz19_0 : w18.cell? ⟨gb248, 0, none⟩ = some (.slice A0_0 l0_0.length c0_0) := (blk_cell BK248.out 0).trans rfl; have hfz19_0 := blk_frozen BK248.out 0) | ((with_reducible refine gate_callee (f := 27) rfl ?_); refine goesL_ (some 26) rfl rfl Tryd.func27 (by kernel_rfl) rfl #[.agg #[.slice A0_0 l0_0.length c0_0]] rfl (by (try simp only [List.map_toArray, List.map_cons, List.map_nil]); first | done | rfl | (simp only [List.length_drop, List.length_take]; rfl)) ?_; (with_reducible refine (laws_toPuzzle.calls k _ _ l0_0 t257 _ ?side1 ?side2 A9.out).mono ?_); (case side1 => repeat (first | exact (Kd.C_below HR0_0.out HB.out) | (with_reducible refine Kd.C_alloc ?_ _) | (with_reducible refine Kd.C_drewN ?_ _) | (with_reducible refine Kd.C_drew ?_))); (case side2 => exact HC0_0.out); rintro e w20 ⟨v258, rfl, ho0, hb⟩; refine ⟨_, rfl, ?_⟩; have n0_ := Aside0.mk (Kd.R_elder' (Lam.rq HO252.out) (Kd.R_base ho0) hb); have n1_ := Aside0.mk (Kd.R_below (Lam.rq HO255.out) hb); have n2_ := Aside0.mk (Kd.R_lower (Kd.R_new' ho0 (Kd.R_lt (Lam.rq HO252.out))) (below_size (Lam.al))); have n3_ := Aside0.mk (blk_below (g := gb248) (o := .cells #[.slice A0_0 l0_0.length c0_0] 49 (0, 0)) (Lam.bq BK248.out) hb); have n4_ := Aside0.mk (below_step (Lam.al) hb); clear HO252; clear HO255; clear BK248; clear HB; have HO252 := n0_; have HO255 := n1_; have HO259 := n2_; have BK248 := n3_; have HB := n4_; clear n0_ n1_ n2_ n3_ n4_; (try clear hb); (try clear hb2); (try clear hk); (try clear hi); (try clear ho0)) | ((with_reducible refine gate_dst (N := 6) rfl ?_); refine box_event ?hg (N := 6) ?hd (cs := #[.slice none 0 0]) (t := 55) ?hr ?_; (case hd => rfl); (case hg => rfl); (case hr => first | (go_simp; done) | (go_simp; rfl)); intro gb260 hg w21 hbox hb; have n0_ := Aside0.mk (Kd.R_below (Lam.rq HO252.out) hb); have n1_ := Aside0.mk (Kd.R_below (Lam.rq HO255.out) hb); have n2_ := Aside0.mk (Kd.R_below (Lam.rq HO259.out) hb); have n3_ := Aside0.mk (blk_below (g := gb248) (o := .cells #[.slice A0_0 l0_0.length c0_0] 49 (0, 0)) (Lam.bq BK248.out) hb); have n4_ := Aside0.mk (below_step (Lam.al) hb); have n5_ := Aside0.mk (hbox); have n6_ := Aside0.mk ((by rw [hg]; exact (below_size (Lam.al)) : w.heap.size ≤ gb260)); have n7_ := Aside0.mk ((by rw [hg]; exact (below_size (Lam.al)) : w.heap.size ≤ gb260)); have n8_ := Aside0.mk ((by rw [hg]; exact Nat.ne_of_lt (blk_lt (g := gb248) (o := .cells #[.slice A0_0 l0_0.length c0_0] 49 (0, 0)) (Lam.bq BK248.out)) : gb248 ≠ gb260)); have n9_ := Aside0.mk ((by rw [hg]; exact Nat.ne_of_gt (blk_lt (g := gb248) (o := .cells #[.slice A0_0 l0_0.length c0_0] 49 (0, 0)) (Lam.bq BK248.out)) : gb260 ≠ gb248)); clear HO252; clear HO255; clear HO259; clear BK248; clear HB; have HO252 := n0_; have HO255 := n1_; have HO259 := n2_; have BK248 := n3_; have HB := n4_; have BK260 := n5_; have GW260 := n6_; have GE260 := n7_; have NB248_260 := n8_; have NB260_248 := n9_; clear n0_ n1_ n2_ n3_ n4_ n5_ n6_ n7_ n8_ n9_; clear hb hbox hg; obtain ⟨Ao22, co22, eo22⟩ := Kd.R_slice HO259.out; subst eo22; have hnb23 := NB260_248.out; have hnc23 := NB248_260.out; have hcz24_0 : w21.cell? ⟨gb260, 0, none⟩ = some (.slice none 0 0) := (blk_cell BK260.out 0).trans rfl; have hfz24_0 := blk_frozen BK260.out 0) | ((with_reducible refine gate_callee (f := 50) rfl ?_); refine goesL_ (some 29) rfl rfl Tryd.func50 (by kernel_rfl) rfl #[.agg #[.slice Ao22 t257.length co22]] rfl (by (try simp only [List.map_toArray, List.map_cons, List.map_nil]); first | done | rfl | (simp only [List.length_drop, List.length_take]; rfl)) ?_; (with_reducible refine (impl_SureRows.calls _ _ t257 t261 t264 _ ?side1 ?side2 A10.out).mono ?_); (case side1 => refine (Kd.R_reads' (e := 42) (base := w.heap.size) (ok := fun k_ => (True ∧ some k_ ≠ (.slice Ao17 t250.length co17 : Value).ownBlock)) (n := t257.length) (c := co22) ?_).2.2; exact (by (with_reducible repeat (first | apply Kd.R_alloc | apply Kd.R_drewN | apply Kd.R_drew)); exact (Kd.R_mono (Kd.R_far (p := ⟨gb260, 0, none⟩) (Kd.R_types HO259.out BK260.out (by decide)) (fun _ hk => hk.2) (.slice Ao22 t257.length co22)) (fun _ h_ => h_.1)))); (case side2 => exact (Kd.R_reads' HO259.out).2.1); rintro e w25 ⟨v262, rfl, ho0, hb⟩; refine ⟨_, rfl, ?_⟩; have n0_ := Aside0.mk (Kd.R_below (by (with_reducible repeat (first | apply Kd.R_alloc | apply Kd.R_drewN | apply Kd.R_drew)); exact (Kd.R_mono (Kd.R_far (p := ⟨gb260, 0, none⟩) (Kd.R_types HO252.out BK260.out (by decide)) (fun _ hk => hk.2) (.slice Ao22 t257.length co22)) (fun _ h_ => h_.1))) hb); have n1_ := Aside0.mk (Kd.R_elder' (by (with_reducible repeat (first | apply Kd.R_alloc | apply Kd.R_drewN | apply Kd.R_drew)); exact (Kd.R_mono (Kd.R_far (p := ⟨gb260, 0, none⟩) (Kd.R_types HO255.out BK260.out (by decide)) (fun _ hk => hk.2) (.slice Ao22 t257.length co22)) (fun _ h_ => h_.1))) (Kd.R_base ho0) hb); have n2_ := Aside0.mk (Kd.R_below (by (with_reducible repeat (first | apply Kd.R_alloc | apply Kd.R_drewN | apply Kd.R_drew)); exact (Kd.R_mono (Kd.R_far (p := ⟨gb260, 0, none⟩) (Kd.R_types HO259.out BK260.out (by decide)) (fun _ hk => hk.2) (.slice Ao22 t257.length co22)) (fun _ h_ => h_.1))) hb); have n3_ := Aside0.mk (Kd.R_lower (Kd.R_new' ho0 (Kd.R_lt (by (with_reducible repeat (first | apply Kd.R_alloc | apply Kd.R_drewN | apply Kd.R_drew)); exact (Kd.R_mono (Kd.R_far (p := ⟨gb260, 0, none⟩) (Kd.R_types HO255.out BK260.out (by decide)) (fun _ hk => hk.2) (.slice Ao22 t257.length co22)) (fun _ h_ => h_.1))))) (below_size (Lam.al))); have n4_ := Aside0.mk (blk_below (g := gb248) (o := .cells #[.slice A0_0 l0_0.length c0_0] 49 (0, 0)) (by (with_reducible repeat (first | refine blk_drewN ?_ _ | refine blk_drew ?_ | refine blk_alloc ?_ _)); refine blk_far ?_ NB248_260.out _; (with_reducible repeat (first | refine blk_drewN ?_ _ | refine blk_drew ?_ | refine blk_alloc ?_ _)); exact BK248.out) hb); have n5_ := Aside0.mk (blk_below (g := gb260) (o := .cells #[.slice Ao22 t257.length co22] 55 (0, 0)) (by (with_reducible repeat (first | refine blk_drewN ?_ _ | refine blk_drew ?_ | refine blk_alloc ?_ _)); refine blk_put (cs := #[.slice none 0 0]) ?_ 0 _ rfl; (with_reducible repeat (first | refine blk_drewN ?_ _ | refine blk_drew ?_ | refine blk_alloc ?_ _)); exact BK260.out) hb); have n6_ := Aside0.mk (below_step (Lam.al) hb); clear HO252; clear HO255; clear HO259; clear BK248; clear BK260; clear HB; have HO252 := n0_; have HO255 := n1_; have HO259 := n2_; have HO263 := n3_; have BK248 := n4_; have BK260 := n5_; have HB := n6_; clear n0_ n1_ n2_ n3_ n4_ n5_ n6_; (try clear hb); (try clear hb2); (try clear hk); (try clear hi); (try clear ho0)))
  (try simp only [Act.put, Lam.pa, Lam.pb, Lam.pc])
  go_cut [40] (fun v40 wc => ∃ (kq : Nat) (x40_10 : Bool), v40 = .bool x40_10 ∧ Aside0 (laws_FnExactSureRows.j0 kq t253 t256 t261 t264 x40_10 l0_0 t257 = some r) ∧ Aside0 (kq ≤ k) ∧ Aside0 (Kd.R (Kd.int .i64) 3 wc w.heap.size (fun k_ => some k_ ≠ (v262 : Value).ownBlock) v254 t253) ∧ Aside0 (Kd.R (Kd.int .i64) 3 wc w.heap.size (fun k_ => some k_ ≠ (v254 : Value).ownBlock) v262 t261) ∧ Aside0 (Kd.R k42 42 wc w.heap.size (fun _ => True) (.slice Ao22 t257.length co22) t257) ∧ Aside0 (wc.heap[gb248]? = some (.cells #[(.slice A0_0 l0_0.length c0_0)] 49 (0, 0))) ∧ Aside0 (wc.heap[gb260]? = some (.cells #[(.slice Ao22 t257.length co22)] 55 (0, 0))) ∧ Aside0 (Below w.heap.size w wc))
  case first =>
   have H := HC11.out
   clear HC11
   replace H := Option.bind_eq_some_iff.mp H
   obtain ⟨t265, A260, H⟩ := H
   replace H : (if t265 = true then (laws_FnExactSureRows.j0 k t253 t256 t261 t264 (t264 != t256) l0_0 t257) else (laws_FnExactSureRows.j0 k t253 t256 t261 t264 true l0_0 t257)) = some r := H
   have A26 := Aside0.mk A260
   clear A260
   by_cases c27 : t265 = true
   ·subst c27
    have H1 : (laws_FnExactSureRows.j0 k t253 t256 t261 t264 (t264 != t256) l0_0 t257) = some r := by rw [if_pos rfl] at H; exact H
    clear H
    have H := H1
    clear H1
    have H' := Aside0.mk H
    clear H
    obtain ⟨Ao28, co28, eo28⟩ := Kd.R_slice HO263.out
    subst eo28
    obtain ⟨Ao29, co29, eo29⟩ := Kd.R_slice HO255.out
    subst eo29
    go_wp2_with (first | ((with_reducible refine gate_callee (f := 24) rfl ?_); refine goesL_ (some 34) rfl rfl Tryd.func24 (by kernel_rfl) rfl #[.slice Ao28 t261.length co28, .slice Ao29 t253.length co29] rfl (by (try simp only [List.map_toArray, List.map_cons, List.map_nil]); first | done | rfl | (simp only [List.length_drop, List.length_take]; rfl)) ?_; (with_reducible refine (laws_eqIntS.calls k _ _ t261 _ _ t253 true _ ?side1 ?side2 ?side3 ?side4 A26.out).mono ?_); (case side1 => repeat (first | exact (Kd.R_reads' HO263.out).2.2 | (with_reducible refine Kd.C_alloc ?_ _) | (with_reducible refine Kd.C_drewN ?_ _) | (with_reducible refine Kd.C_drew ?_))); (case side2 => exact (Kd.R_reads' HO263.out).2.1); (case side3 => repeat (first | exact (Kd.R_reads' HO255.out).2.2 | (with_reducible refine Kd.C_alloc ?_ _) | (with_reducible refine Kd.C_drewN ?_ _) | (with_reducible refine Kd.C_drew ?_))); (case side4 => exact (Kd.R_reads' HO255.out).2.1); rintro e w' ⟨rfl, ⟨nd, rfl⟩⟩; refine ⟨_, rfl, ?_⟩))
    go_meet
    case rel => exact ⟨_, ((t264 != t256)), (by first | rfl | (simp; done) | (simp [*]; done)), H', ⟨by first | omega | exact Nat.le_refl _⟩, ⟨by (with_reducible repeat (first | apply Kd.R_alloc | apply Kd.R_drewN | apply Kd.R_drew)); exact Kd.R_mono HO255.out (fun _ hk => hk.2)⟩, ⟨by (with_reducible repeat (first | apply Kd.R_alloc | apply Kd.R_drewN | apply Kd.R_drew)); exact Kd.R_mono HO263.out (fun _ hk => hk.2)⟩, ⟨by (with_reducible repeat (first | apply Kd.R_alloc | apply Kd.R_drewN | apply Kd.R_drew)); exact Kd.R_mono HO259.out (fun _ hk => trivial)⟩, ⟨Lam.bq BK248.out⟩, ⟨Lam.bq BK260.out⟩, ⟨Lam.al⟩⟩
   ·replace c27 := Bool.eq_false_iff.mpr c27
    subst c27
    have H1 : (laws_FnExactSureRows.j0 k t253 t256 t261 t264 true l0_0 t257) = some r := by rw [if_neg (show ¬ (false = true) by decide)] at H; exact H
    clear H
    have H := H1
    clear H1
    have H' := Aside0.mk H
    clear H
    obtain ⟨Ao30, co30, eo30⟩ := Kd.R_slice HO263.out
    subst eo30
    obtain ⟨Ao31, co31, eo31⟩ := Kd.R_slice HO255.out
    subst eo31
    go_wp2_with (first | ((with_reducible refine gate_callee (f := 24) rfl ?_); refine goesL_ (some 34) rfl rfl Tryd.func24 (by kernel_rfl) rfl #[.slice Ao30 t261.length co30, .slice Ao31 t253.length co31] rfl (by (try simp only [List.map_toArray, List.map_cons, List.map_nil]); first | done | rfl | (simp only [List.length_drop, List.length_take]; rfl)) ?_; (with_reducible refine (laws_eqIntS.calls k _ _ t261 _ _ t253 false _ ?side1 ?side2 ?side3 ?side4 A26.out).mono ?_); (case side1 => repeat (first | exact (Kd.R_reads' HO263.out).2.2 | (with_reducible refine Kd.C_alloc ?_ _) | (with_reducible refine Kd.C_drewN ?_ _) | (with_reducible refine Kd.C_drew ?_))); (case side2 => exact (Kd.R_reads' HO263.out).2.1); (case side3 => repeat (first | exact (Kd.R_reads' HO255.out).2.2 | (with_reducible refine Kd.C_alloc ?_ _) | (with_reducible refine Kd.C_drewN ?_ _) | (with_reducible refine Kd.C_drew ?_))); (case side4 => exact (Kd.R_reads' HO255.out).2.1); rintro e w' ⟨rfl, ⟨nd, rfl⟩⟩; refine ⟨_, rfl, ?_⟩))
    go_meet
    case rel => exact ⟨_, (true), (by first | rfl | (simp; done) | (simp [*]; done)), H', ⟨by first | omega | exact Nat.le_refl _⟩, ⟨by (with_reducible repeat (first | apply Kd.R_alloc | apply Kd.R_drewN | apply Kd.R_drew)); exact Kd.R_mono HO255.out (fun _ hk => hk.2)⟩, ⟨by (with_reducible repeat (first | apply Kd.R_alloc | apply Kd.R_drewN | apply Kd.R_drew)); exact Kd.R_mono HO263.out (fun _ hk => hk.2)⟩, ⟨by (with_reducible repeat (first | apply Kd.R_alloc | apply Kd.R_drewN | apply Kd.R_drew)); exact Kd.R_mono HO259.out (fun _ hk => trivial)⟩, ⟨Lam.bq BK248.out⟩, ⟨Lam.bq BK260.out⟩, ⟨Lam.al⟩⟩
  case rest =>
   clear HC11
   try clear c1
   try clear c2
   try clear p2
   try clear c3
   try clear c3b0
   try clear c4
   try clear c5
   try clear c12
   try clear c23
   try clear c24
   try clear c25
   try clear c27
   try clear hcz13_0
   try clear hcz15_0
   try clear hcz19_0
   try clear hcz24_0
   try clear hcz5_0
   try clear hfz13_0
   try clear hfz15_0
   try clear hfz19_0
   try clear hfz24_0
   try clear hfz5_0
   obtain ⟨kq, x40_10, rfl, HA, HJ10, HO_4, HO_7, HO_261000, BK248, BK260, HB⟩ := hcut
   cases kq with
   | zero => exact absurd HA.out (by simp [laws_FnExactSureRows.j0])
   | succ kj10 =>
    have H := HA.out
    clear HA
    simp only [laws_FnExactSureRows.j0] at H
    by_cases c32 : x40_10 = true
    ·subst c32
     have H1 : (none) = some r := by rw [if_pos rfl] at H; exact H
     clear H
     have H := H1
     clear H1
     exact absurd H (by simp)
    ·replace c32 := Bool.eq_false_iff.mpr c32
     subst c32
     have H1 : ((laws_toPuzzle.f kj10 l0_0).bind fun t266 => ((laws_eqPuzzle.f kj10 t257 t266).bind fun t269 => (if t269 = true then ((laws_markPuzzle.f kj10 t257 1).bind fun bt270 => (if bt270.1 < 0 then (laws_FnExactSureRows.j1 kj10 t253 t256 t261 true l0_0) else ((laws_eqIntS.f kj10 t261 t253).bind fun t272 => (if t272 = true then (laws_FnExactSureRows.j1 kj10 t253 t256 t261 (t264 != t256) l0_0) else (laws_FnExactSureRows.j1 kj10 t253 t256 t261 true l0_0))))) else (none)))) = some r := by rw [if_neg (show ¬ (false = true) by decide)] at H; exact H
     clear H
     have H := H1
     clear H1
     replace H := Option.bind_eq_some_iff.mp H
     obtain ⟨t266, A330, H⟩ := H
     replace H : ((laws_eqPuzzle.f kj10 t257 t266).bind fun t269 => (if t269 = true then ((laws_markPuzzle.f kj10 t257 1).bind fun bt270 => (if bt270.1 < 0 then (laws_FnExactSureRows.j1 kj10 t253 t256 t261 true l0_0) else ((laws_eqIntS.f kj10 t261 t253).bind fun t272 => (if t272 = true then (laws_FnExactSureRows.j1 kj10 t253 t256 t261 (t264 != t256) l0_0) else (laws_FnExactSureRows.j1 kj10 t253 t256 t261 true l0_0))))) else (none))) = some r := H
     have A33 := Aside0.mk A330
     clear A330
     replace H := Option.bind_eq_some_iff.mp H
     obtain ⟨t269, A340, H⟩ := H
     replace H : (if t269 = true then ((laws_markPuzzle.f kj10 t257 1).bind fun bt270 => (if bt270.1 < 0 then (laws_FnExactSureRows.j1 kj10 t253 t256 t261 true l0_0) else ((laws_eqIntS.f kj10 t261 t253).bind fun t272 => (if t272 = true then (laws_FnExactSureRows.j1 kj10 t253 t256 t261 (t264 != t256) l0_0) else (laws_FnExactSureRows.j1 kj10 t253 t256 t261 true l0_0))))) else (none)) = some r := H
     have A34 := Aside0.mk A340
     clear A340
     by_cases c35 : t269 = true
     ·subst c35
      have H1 : ((laws_markPuzzle.f kj10 t257 1).bind fun bt270 => (if bt270.1 < 0 then (laws_FnExactSureRows.j1 kj10 t253 t256 t261 true l0_0) else ((laws_eqIntS.f kj10 t261 t253).bind fun t272 => (if t272 = true then (laws_FnExactSureRows.j1 kj10 t253 t256 t261 (t264 != t256) l0_0) else (laws_FnExactSureRows.j1 kj10 t253 t256 t261 true l0_0))))) = some r := by rw [if_pos rfl] at H; exact H
      clear H
      have H := H1
      clear H1
      replace H := Option.bind_eq_some_iff.mp H
      obtain ⟨⟨t270, t271⟩, A360, H⟩ := H
      replace H : (if t270 < 0 then (laws_FnExactSureRows.j1 kj10 t253 t256 t261 true l0_0) else ((laws_eqIntS.f kj10 t261 t253).bind fun t272 => (if t272 = true then (laws_FnExactSureRows.j1 kj10 t253 t256 t261 (t264 != t256) l0_0) else (laws_FnExactSureRows.j1 kj10 t253 t256 t261 true l0_0)))) = some r := H
      have A36 := Aside0.mk A360
      clear A360
      have HC37 := Aside0.mk H
      clear H
      try go_wp2
      have n0_ := Aside0.mk (Kd.R_drew HO_4.out)
      have n1_ := Aside0.mk (Kd.R_drew HO_7.out)
      have n2_ := Aside0.mk (Kd.R_drew HO_261000.out)
      have n3_ := Aside0.mk (blk_drew BK248.out)
      have n4_ := Aside0.mk (blk_drew BK260.out)
      have n5_ := Aside0.mk (below_drew1 HB.out)
      clear HO_4
      clear HO_7
      clear HO_261000
      clear BK248
      clear BK260
      clear HB
      have HO_4 := n0_
      have HO_7 := n1_
      have HO_261000 := n2_
      have BK248 := n3_
      have BK260 := n4_
      have HB := n5_
      clear n0_ n1_ n2_ n3_ n4_ n5_
      refine start_ (n := 5) (S := fun w' => w'.cell? ⟨gb260, 0, none⟩ = some (.slice Ao22 t257.length co22) ∧ w'.cell? ⟨gb248, 0, none⟩ = some (.slice A0_0 l0_0.length c0_0)) (ds := []) #[false, false, false, false, false] (by kernel_rfl) rfl rfl ⟨(blk_cell BK260.out 0).trans rfl, (blk_cell BK248.out 0).trans rfl⟩ (fun hHeld => ?_)
      generalize wc.drew = w38 at HO_4 HO_7 HO_261000 BK248 BK260 HB hHeld ⊢
      refine take_ (i := 0) (N := some 41) (v := ?_) (a' := ?_) #[true, false, false, false, false] rfl rfl (by kernel_rfl) (fun _ _ _ h => h) (Or.inl ⟨by rfl, ?_⟩) hHeld ?_ ?_
      rotate_left
      ·rintro w' ⟨s0, s1⟩
       go_simp
       with_reducible rfl
      rotate_left
      ·simp only [Act.put, Lam.pa, Lam.pb, Lam.pc, i64_w, i32_w]
       rfl
      refine take_ (i := 1) (N := some 42) (v := ?_) (a' := ?_) #[true, true, false, false, false] rfl rfl (by kernel_rfl) (fun _ _ _ h => h) (Or.inl ⟨by rfl, ?_⟩) hHeld ?_ ?_
      rotate_left
      ·rintro w' ⟨s0, s1⟩
       go_simp
       with_reducible rfl
      rotate_left
      ·simp only [Act.put, Lam.pa, Lam.pb, Lam.pc, i64_w, i32_w]
       rfl
      refine one_ (i := 2) (N := some 43) #[true, true, true, false, false] rfl rfl (by kernel_rfl) (by decide) (fun K hK => ?_)
      refine goes_ Tryd.func27 (by kernel_rfl) rfl #[.agg #[.slice A0_0 l0_0.length c0_0]] (by rfl) rfl rfl (by (try simp only [List.map_toArray, List.map_cons, List.map_nil]); first | done | rfl | (simp only [List.length_drop, List.length_take]; rfl)) ?_
      with_reducible refine (laws_toPuzzle.calls kj10 _ _ l0_0 t266 _ ?side1 ?side2 A33.out).mono ?_
      (case side1 => repeat (first | exact (Kd.C_below HR0_0.out HB.out) | (with_reducible refine Kd.C_alloc ?_ _) | (with_reducible refine Kd.C_drewN ?_ _) | (with_reducible refine Kd.C_drew ?_)))
      (case side2 => exact HC0_0.out)
      rintro e w39 ⟨v267, rfl, ho0, hb⟩
      refine ⟨_, rfl, ?_⟩
      have n0_ := Aside0.mk (Kd.R_below (Lam.rq HO_4.out) hb)
      have n1_ := Aside0.mk (Kd.R_below (Lam.rq HO_7.out) hb)
      have n2_ := Aside0.mk (Kd.R_elder' (Lam.rq HO_261000.out) (Kd.R_base ho0) hb)
      have n3_ := Aside0.mk (Kd.R_lower (Kd.R_new' ho0 (Kd.R_lt (Lam.rq HO_261000.out))) (below_size (Lam.al)))
      have n4_ := Aside0.mk (blk_below (g := gb248) (o := .cells #[.slice A0_0 l0_0.length c0_0] 49 (0, 0)) (Lam.bq BK248.out) hb)
      have n5_ := Aside0.mk (blk_below (g := gb260) (o := .cells #[.slice Ao22 t257.length co22] 55 (0, 0)) (Lam.bq BK260.out) hb)
      have n6_ := Aside0.mk (below_step (Lam.al) hb)
      clear HO_4
      clear HO_7
      clear HO_261000
      clear BK248
      clear BK260
      clear HB
      have HO_4 := n0_
      have HO_7 := n1_
      have HO_261000 := n2_
      have HO268 := n3_
      have BK248 := n4_
      have BK260 := n5_
      have HB := n6_
      clear n0_ n1_ n2_ n3_ n4_ n5_ n6_
      (try clear hb)
      (try clear hb2)
      (try clear hk)
      (try clear hi)
      (try clear ho0)
      obtain ⟨Ao40, co40, eo40⟩ := Kd.R_slice HO268.out
      (first | subst eo40 | (injection eo40 with f1_ f2_ f3_; have f4_ := f1_.symm; have f5_ := f3_.symm; clear f1_ f2_ f3_; subst f4_; subst f5_))
      refine hK.out _ _ ⟨(blk_cell BK260.out 0).trans rfl, (blk_cell BK248.out 0).trans rfl⟩ (fun hHeld => ?_)
      clear hK K
      refine norm_ (a' := ?_) ?_ ?_
      rotate_left
      ·show Act.put _ (some 43) _ = _
       simp only [Act.put, Lam.pa, Lam.pb, Lam.pc, i64_w, i32_w]
       rfl
      refine one_ (i := 3) (N := some 44) #[true, true, true, true, false] rfl rfl (by kernel_rfl) (by decide) (fun K hK => ?_)
      refine goes_ Tryd.func29 (by kernel_rfl) rfl #[.agg #[.slice Ao22 t257.length co22], .agg #[.slice Ao40 t266.length co40]] (by rfl) rfl rfl (by (try simp only [List.map_toArray, List.map_cons, List.map_nil]); first | done | rfl | (simp only [List.length_drop, List.length_take]; rfl)) ?_
      with_reducible refine (laws_eqPuzzle.calls kj10 _ _ t257 _ _ t266 true _ ?side1 ?side2 ?side3 ?side4 A34.out).mono ?_
      (case side1 => repeat (first | exact (Kd.R_reads' HO_261000.out).2.2 | (with_reducible refine Kd.C_alloc ?_ _) | (with_reducible refine Kd.C_drewN ?_ _) | (with_reducible refine Kd.C_drew ?_)))
      (case side2 => exact (Kd.R_reads' HO_261000.out).2.1)
      (case side3 => repeat (first | exact (Kd.R_reads' HO268.out).2.2 | (with_reducible refine Kd.C_alloc ?_ _) | (with_reducible refine Kd.C_drewN ?_ _) | (with_reducible refine Kd.C_drew ?_)))
      (case side4 => exact (Kd.R_reads' HO268.out).2.1)
      rintro e w41 ⟨rfl, hb⟩
      refine ⟨_, rfl, ?_⟩
      have n0_ := Aside0.mk (Kd.R_below (Lam.rq HO_4.out) hb)
      have n1_ := Aside0.mk (Kd.R_below (Lam.rq HO_7.out) hb)
      have n2_ := Aside0.mk (Kd.R_below (Lam.rq HO_261000.out) hb)
      have n3_ := Aside0.mk (Kd.R_below (Lam.rq HO268.out) hb)
      have n4_ := Aside0.mk (blk_below (g := gb248) (o := .cells #[.slice A0_0 l0_0.length c0_0] 49 (0, 0)) (Lam.bq BK248.out) hb)
      have n5_ := Aside0.mk (blk_below (g := gb260) (o := .cells #[.slice Ao22 t257.length co22] 55 (0, 0)) (Lam.bq BK260.out) hb)
      have n6_ := Aside0.mk (below_step (Lam.al) hb)
      clear HO_4
      clear HO_7
      clear HO_261000
      clear HO268
      clear BK248
      clear BK260
      clear HB
      have HO_4 := n0_
      have HO_7 := n1_
      have HO_261000 := n2_
      have HO268 := n3_
      have BK248 := n4_
      have BK260 := n5_
      have HB := n6_
      clear n0_ n1_ n2_ n3_ n4_ n5_ n6_
      (try clear hb)
      (try clear hb2)
      (try clear hk)
      (try clear hi)
      refine hK.out _ _ ⟨(blk_cell BK260.out 0).trans rfl, (blk_cell BK248.out 0).trans rfl⟩ (fun hHeld => ?_)
      clear hK K
      refine norm_ (a' := ?_) ?_ ?_
      rotate_left
      ·show Act.put _ (some 44) _ = _
       simp only [Act.put, Lam.pa, Lam.pb, Lam.pc, i64_w, i32_w]
       rfl
      refine pure_ (i := 4) (N := some 45) (v := ?_) (a' := ?_) #[true, true, true, true, true] rfl rfl (by kernel_rfl) (fun _ _ _ h => h) (Or.inl ⟨by rfl, ?_⟩) ?_ ?_
      rotate_left
      ·intro w'
       go_simp
       with_reducible rfl
      rotate_left
      ·simp only [Act.put, Lam.pa, Lam.pb, Lam.pc, i64_w, i32_w]
       rfl
      refine done_ (by kernel_rfl) ?_
      have hnb42 := NB260_248.out
      have hnc42 := NB248_260.out
      have hcz43_0 : w41.cell? ⟨gb260, 0, none⟩ = some (.slice Ao22 t257.length co22) := (blk_cell BK260.out 0).trans rfl
      have hfz43_0 := blk_frozen BK260.out 0
      go_upto_region 14 with (first | ((with_reducible refine gate_callee (f := 37) rfl ?_); refine goesL_ (some 48) rfl rfl Tryd.func37 (by kernel_rfl) rfl #[.agg #[.slice Ao22 t257.length co22], .int .i64 1] rfl (by (try simp only [List.map_toArray, List.map_cons, List.map_nil]); first | done | rfl | (simp only [List.length_drop, List.length_take]; rfl)) ?_; (with_reducible refine (laws_markPuzzle.calls kj10 (fun k_ => some k_ = (.slice Ao22 t257.length co22 : Value).ownBlock) (.slice Ao22 t257.length co22) t257 1 t270 t271 w _ ?side1 ?side2 A36.out).mono ?_); (case side1 => repeat (first | (with_reducible first | exact HB.out | apply below_alloc | apply pw_below_drewN | apply below_drew1 | refine below_set ?_ GE248.out | refine below_set ?_ GE260.out) | exact HB.out)); (case side2 => exact Kd.R_tight rfl HO_261000.out); rintro e w44 ⟨rfl, hy0, hb, hkp⟩; refine ⟨_, rfl, ?_⟩; have n0_ := Aside0.mk (Kd.R_mono (ok' := fun k_ => some k_ ≠ (v262 : Value).ownBlock) (Kd.R_keptB ((Kd.R_apart' HO_4.out (Kd.R_typed HO_261000.out) (by decide))) hkp (fun k_ hk_ hs_ => (hk_.2) hs_)) (fun k_ hk_ => hk_.1.1)); have n1_ := Aside0.mk (Kd.R_mono (ok' := fun k_ => some k_ ≠ (v254 : Value).ownBlock) (Kd.R_keptB ((Kd.R_apart' HO_7.out (Kd.R_typed HO_261000.out) (by decide))) hkp (fun k_ hk_ hs_ => (hk_.2) hs_)) (fun k_ hk_ => hk_.1.1)); have n2_ := Aside0.mk (Kd.R_reok rfl hy0 (fun k_ e_ => HO_261000.out.1 k_ e_)); have n3_ := Aside0.mk (blk_kept (Lam.bq BK248.out) hkp (fun hs_ => (fun e_ => (Kd.R_ne HO_261000.out BK248.out (by decide)) e_) hs_)); have n4_ := Aside0.mk (blk_kept (Lam.bq BK260.out) hkp (fun hs_ => (fun e_ => (Kd.R_ne HO_261000.out BK260.out (by decide)) e_) hs_)); have n5_ := Aside0.mk (Kd.R_mono (ok' := fun k_ => some k_ ≠ (.slice Ao22 t257.length co22 : Value).ownBlock) (Kd.R_keptB (HO268.out) hkp (fun k_ hk_ hs_ => (hk_.2) hs_)) (fun k_ hk_ => hk_.1.2)); have n6_ := Aside0.mk (hb); clear HO_4; clear HO_7; clear HO_261000; clear BK248; clear BK260; clear HO268; clear HB; have HO_4 := n0_; have HO_7 := n1_; have HO_261000 := n2_; have BK248 := n3_; have BK260 := n4_; have HO268 := n5_; have HB := n6_; clear n0_ n1_ n2_ n3_ n4_ n5_ n6_; (try clear hb); (try clear hkp); (try clear hy0)))
      (try simp only [Act.put, Lam.pa, Lam.pb, Lam.pc])
      go_cut [61] (fun v61 wc => ∃ (kq : Nat) (x61_36 : Bool), v61 = .bool x61_36 ∧ Aside0 (laws_FnExactSureRows.j1 kq t253 t256 t261 x61_36 l0_0 = some r) ∧ Aside0 (kq ≤ kj10) ∧ Aside0 (Kd.R (Kd.int .i64) 3 wc w.heap.size (fun k_ => some k_ ≠ (v262 : Value).ownBlock) v254 t253) ∧ Aside0 (Kd.R (Kd.int .i64) 3 wc w.heap.size (fun k_ => some k_ ≠ (v254 : Value).ownBlock) v262 t261) ∧ Aside0 (Kd.R k42 42 wc w.heap.size (fun _ => True) (.slice Ao22 t257.length co22) t271) ∧ Aside0 (wc.heap[gb248]? = some (.cells #[(.slice A0_0 l0_0.length c0_0)] 49 (0, 0))) ∧ Aside0 (wc.heap[gb260]? = some (.cells #[(.slice Ao22 t257.length co22)] 55 (0, 0))) ∧ Aside0 (Below w.heap.size w wc))
      case first =>
       have H := HC37.out
       clear HC37
       by_cases c45 : t270 < 0
       ·rw [if_pos c45] at H
        have c45b0 : decide (t270 < 0) = true := decide_eq_true c45
        clear c45
        (first | rw [c45b0] | (simp only [i64_w, i32_w]; rw [c45b0]) | skip)
        have H' := Aside0.mk H
        clear H
        go_wp2
        go_meet
        case rel => exact ⟨_, (true), (by first | rfl | (simp; done) | (simp [*]; done)), H', ⟨by have := HJ10.out; first | omega | exact Nat.le_refl _⟩, ⟨Lam.rq HO_4.out⟩, ⟨Lam.rq HO_7.out⟩, ⟨by (with_reducible repeat (first | apply Kd.R_alloc | apply Kd.R_drewN | apply Kd.R_drew)); exact Kd.R_mono HO_261000.out (fun _ hk => trivial)⟩, ⟨Lam.bq BK248.out⟩, ⟨Lam.bq BK260.out⟩, ⟨Lam.al⟩⟩
       ·rw [if_neg c45] at H
        have c45b0 : decide (t270 < 0) = false := decide_eq_false c45
        clear c45
        (first | rw [c45b0] | (simp only [i64_w, i32_w]; rw [c45b0]) | skip)
        replace H := Option.bind_eq_some_iff.mp H
        obtain ⟨t272, A460, H⟩ := H
        replace H : (if t272 = true then (laws_FnExactSureRows.j1 kj10 t253 t256 t261 (t264 != t256) l0_0) else (laws_FnExactSureRows.j1 kj10 t253 t256 t261 true l0_0)) = some r := H
        have A46 := Aside0.mk A460
        clear A460
        by_cases c47 : t272 = true
        ·subst c47
         have H1 : (laws_FnExactSureRows.j1 kj10 t253 t256 t261 (t264 != t256) l0_0) = some r := by rw [if_pos rfl] at H; exact H
         clear H
         have H := H1
         clear H1
         have H' := Aside0.mk H
         clear H
         obtain ⟨Ao48, co48, eo48⟩ := Kd.R_slice HO_7.out
         subst eo48
         obtain ⟨Ao49, co49, eo49⟩ := Kd.R_slice HO_4.out
         subst eo49
         go_wp2_with (first | (go_at_call 24; (with_reducible refine (laws_eqIntS.calls kj10 _ _ t261 _ _ t253 true _ ?side1 ?side2 ?side3 ?side4 A46.out).mono ?_); (case side1 => repeat (first | exact (Kd.R_reads' HO_7.out).2.2 | (with_reducible refine Kd.C_alloc ?_ _) | (with_reducible refine Kd.C_drewN ?_ _) | (with_reducible refine Kd.C_drew ?_))); (case side2 => exact (Kd.R_reads' HO_7.out).2.1); (case side3 => repeat (first | exact (Kd.R_reads' HO_4.out).2.2 | (with_reducible refine Kd.C_alloc ?_ _) | (with_reducible refine Kd.C_drewN ?_ _) | (with_reducible refine Kd.C_drew ?_))); (case side4 => exact (Kd.R_reads' HO_4.out).2.1); rintro e w' ⟨rfl, ⟨nd, rfl⟩⟩))
         go_meet
         case rel => exact ⟨_, ((t264 != t256)), (by first | rfl | (simp; done) | (simp [*]; done)), H', ⟨by have := HJ10.out; first | omega | exact Nat.le_refl _⟩, ⟨Lam.rq HO_4.out⟩, ⟨Lam.rq HO_7.out⟩, ⟨by (with_reducible repeat (first | apply Kd.R_alloc | apply Kd.R_drewN | apply Kd.R_drew)); exact Kd.R_mono HO_261000.out (fun _ hk => trivial)⟩, ⟨Lam.bq BK248.out⟩, ⟨Lam.bq BK260.out⟩, ⟨Lam.al⟩⟩
        ·replace c47 := Bool.eq_false_iff.mpr c47
         subst c47
         have H1 : (laws_FnExactSureRows.j1 kj10 t253 t256 t261 true l0_0) = some r := by rw [if_neg (show ¬ (false = true) by decide)] at H; exact H
         clear H
         have H := H1
         clear H1
         have H' := Aside0.mk H
         clear H
         obtain ⟨Ao50, co50, eo50⟩ := Kd.R_slice HO_7.out
         subst eo50
         obtain ⟨Ao51, co51, eo51⟩ := Kd.R_slice HO_4.out
         subst eo51
         go_wp2_with (first | (go_at_call 24; (with_reducible refine (laws_eqIntS.calls kj10 _ _ t261 _ _ t253 false _ ?side1 ?side2 ?side3 ?side4 A46.out).mono ?_); (case side1 => repeat (first | exact (Kd.R_reads' HO_7.out).2.2 | (with_reducible refine Kd.C_alloc ?_ _) | (with_reducible refine Kd.C_drewN ?_ _) | (with_reducible refine Kd.C_drew ?_))); (case side2 => exact (Kd.R_reads' HO_7.out).2.1); (case side3 => repeat (first | exact (Kd.R_reads' HO_4.out).2.2 | (with_reducible refine Kd.C_alloc ?_ _) | (with_reducible refine Kd.C_drewN ?_ _) | (with_reducible refine Kd.C_drew ?_))); (case side4 => exact (Kd.R_reads' HO_4.out).2.1); rintro e w' ⟨rfl, ⟨nd, rfl⟩⟩))
         go_meet
         case rel => exact ⟨_, (true), (by first | rfl | (simp; done) | (simp [*]; done)), H', ⟨by have := HJ10.out; first | omega | exact Nat.le_refl _⟩, ⟨Lam.rq HO_4.out⟩, ⟨Lam.rq HO_7.out⟩, ⟨by (with_reducible repeat (first | apply Kd.R_alloc | apply Kd.R_drewN | apply Kd.R_drew)); exact Kd.R_mono HO_261000.out (fun _ hk => trivial)⟩, ⟨Lam.bq BK248.out⟩, ⟨Lam.bq BK260.out⟩, ⟨Lam.al⟩⟩
      case rest =>
       clear HC37
       try clear c1
       try clear c2
       try clear p2
       try clear c3
       try clear c3b0
       try clear c4
       try clear c5
       try clear c12
       try clear c23
       try clear c24
       try clear c25
       try clear c27
       try clear c29
       try clear c32
       try clear c35
       try clear c37
       try clear c42
       try clear c45
       try clear c45b0
       try clear c47
       try clear c49
       try clear c50
       try clear hcz13_0
       try clear hcz15_0
       try clear hcz19_0
       try clear hcz24_0
       try clear hcz43_0
       try clear hcz5_0
       try clear hfz13_0
       try clear hfz15_0
       try clear hfz19_0
       try clear hfz24_0
       try clear hfz43_0
       try clear hfz5_0
       try clear p2
       obtain ⟨kq, x61_36, rfl, HA, HJ36, HO_4, HO_7, HO_261000, BK248, BK260, HB⟩ := hcut
       have hl261000_36 := (Kd.R_reads' HO_261000.out).1
       rw [hl261000_36] at HO_261000
       (try simp only [hl261000_36])
       (try simp only [hl261000_36] at BK248)
       (try simp only [hl261000_36] at BK260)
       (try simp only [hl261000_36] at HO_4)
       (try simp only [hl261000_36] at HO_7)
       cases kq with
       | zero => exact absurd HA.out (by simp [laws_FnExactSureRows.j1])
       | succ kj36 =>
        have H := HA.out
        clear HA
        simp only [laws_FnExactSureRows.j1] at H
        by_cases c52 : x61_36 = true
        ·subst c52
         have H1 : (none) = some r := by rw [if_pos rfl] at H; exact H
         clear H
         have H := H1
         clear H1
         exact absurd H (by simp)
        ·replace c52 := Bool.eq_false_iff.mpr c52
         subst c52
         have H1 : ((laws_markIntS.f kj36 t261 1).bind fun bt273 => ((laws_heldIntS.f kj36 bt273.2 1).bind fun t275 => (if t275 < 0 then (none) else (if t275 = bt273.1 then ((laws_toPuzzle.f kj36 l0_0).bind fun t276 => ((impl_SureRows.f t276).bind fun bt279 => ((laws_eqIntS.f kj36 bt279.1 t253).bind fun t283 => (if t283 = true then (laws_FnExactSureRows.j2 kj36 bt273.2 bt273.1 (bt279.2 != t256)) else (laws_FnExactSureRows.j2 kj36 bt273.2 bt273.1 true))))) else (none))))) = some r := by rw [if_neg (show ¬ (false = true) by decide)] at H; exact H
         clear H
         have H := H1
         clear H1
         replace H := Option.bind_eq_some_iff.mp H
         obtain ⟨⟨t273, t274⟩, A530, H⟩ := H
         replace H : ((laws_heldIntS.f kj36 t274 1).bind fun t275 => (if t275 < 0 then (none) else (if t275 = t273 then ((laws_toPuzzle.f kj36 l0_0).bind fun t276 => ((impl_SureRows.f t276).bind fun bt279 => ((laws_eqIntS.f kj36 bt279.1 t253).bind fun t283 => (if t283 = true then (laws_FnExactSureRows.j2 kj36 t274 t273 (bt279.2 != t256)) else (laws_FnExactSureRows.j2 kj36 t274 t273 true))))) else (none)))) = some r := H
         have A53 := Aside0.mk A530
         clear A530
         replace H := Option.bind_eq_some_iff.mp H
         obtain ⟨t275, A540, H⟩ := H
         replace H : (if t275 < 0 then (none) else (if t275 = t273 then ((laws_toPuzzle.f kj36 l0_0).bind fun t276 => ((impl_SureRows.f t276).bind fun bt279 => ((laws_eqIntS.f kj36 bt279.1 t253).bind fun t283 => (if t283 = true then (laws_FnExactSureRows.j2 kj36 t274 t273 (bt279.2 != t256)) else (laws_FnExactSureRows.j2 kj36 t274 t273 true))))) else (none))) = some r := H
         have A54 := Aside0.mk A540
         clear A540
         by_cases c55 : t275 < 0
         ·rw [if_pos c55] at H
          exact absurd H (by simp)
         ·rw [if_neg c55] at H
          have c55b0 : decide (t275 < 0) = false := decide_eq_false c55
          clear c55
          by_cases c56 : t275 = t273
          ·rw [if_pos c56] at H
           have c56b0 : (t275 == t273) = true := beq_iff_eq.mpr c56
           have c56b1 : (t275 != t273) = false := bne_eq_false_iff_eq.mpr c56
           clear c56
           replace H := Option.bind_eq_some_iff.mp H
           obtain ⟨t276, A570, H⟩ := H
           replace H : ((impl_SureRows.f t276).bind fun bt279 => ((laws_eqIntS.f kj36 bt279.1 t253).bind fun t283 => (if t283 = true then (laws_FnExactSureRows.j2 kj36 t274 t273 (bt279.2 != t256)) else (laws_FnExactSureRows.j2 kj36 t274 t273 true)))) = some r := H
           have A57 := Aside0.mk A570
           clear A570
           replace H := Option.bind_eq_some_iff.mp H
           obtain ⟨⟨t279, t282⟩, A580, H⟩ := H
           replace H : ((laws_eqIntS.f kj36 t279 t253).bind fun t283 => (if t283 = true then (laws_FnExactSureRows.j2 kj36 t274 t273 (t282 != t256)) else (laws_FnExactSureRows.j2 kj36 t274 t273 true))) = some r := H
           have A58 := Aside0.mk A580
           clear A580
           have HC59 := Aside0.mk H
           clear H
           obtain ⟨Ao60, co60, eo60⟩ := Kd.R_slice HO_7.out
           subst eo60
           go_upto_region 25 with (first | ((with_reducible refine gate_callee (f := 36) rfl ?_); refine goesL_ (some 64) rfl rfl Tryd.func36 (by kernel_rfl) rfl #[.slice Ao60 t261.length co60, .int .i64 1] rfl (by (try simp only [List.map_toArray, List.map_cons, List.map_nil]); first | done | rfl | (simp only [List.length_drop, List.length_take]; rfl)) ?_; (with_reducible refine (laws_markIntS.calls kj36 (fun k_ => some k_ = (.slice Ao60 t261.length co60 : Value).ownBlock) (.slice Ao60 t261.length co60) t261 1 t273 t274 w _ ?side1 ?side2 A53.out).mono ?_); (case side1 => repeat (first | (with_reducible first | exact HB.out | apply below_alloc | apply pw_below_drewN | apply below_drew1 | refine below_set ?_ GE248.out | refine below_set ?_ GE260.out) | exact HB.out)); (case side2 => exact Kd.R_tight rfl HO_7.out); rintro e w61 ⟨rfl, hy0, hb, hkp⟩; refine ⟨_, rfl, ?_⟩; have n0_ := Aside0.mk (Kd.R_mono (ok' := fun k_ => some k_ ≠ (.slice Ao60 t261.length co60 : Value).ownBlock) (Kd.R_keptB (HO_4.out) hkp (fun k_ hk_ hs_ => (hk_) hs_)) (fun k_ hk_ => hk_.1)); have n1_ := Aside0.mk (Kd.R_reok rfl hy0 (fun k_ e_ => HO_7.out.1 k_ e_)); have n2_ := Aside0.mk (Kd.R_mono (ok' := fun k_ => True) (Kd.R_keptB ((Kd.R_apart' HO_261000.out (Kd.R_typed HO_7.out) (by decide))) hkp (fun k_ hk_ hs_ => (hk_.2) hs_)) (fun k_ hk_ => trivial)); have n3_ := Aside0.mk (blk_kept (Lam.bq BK248.out) hkp (fun hs_ => (fun e_ => (Kd.R_ne HO_7.out BK248.out (by decide)) e_) hs_)); have n4_ := Aside0.mk (blk_kept (Lam.bq BK260.out) hkp (fun hs_ => (fun e_ => (Kd.R_ne HO_7.out BK260.out (by decide)) e_) hs_)); have n5_ := Aside0.mk (hb); clear HO_4; clear HO_7; clear HO_261000; clear BK248; clear BK260; clear HB; have HO_4 := n0_; have HO_7 := n1_; have HO_261000 := n2_; have BK248 := n3_; have BK260 := n4_; have HB := n5_; clear n0_ n1_ n2_ n3_ n4_ n5_; (try clear hb); (try clear hkp); (try clear hy0)) | ((with_reducible refine gate_callee (f := 41) rfl ?_); refine goesL_ (some 67) rfl rfl Tryd.func41 (by kernel_rfl) rfl #[.slice Ao60 t274.length co60, .int .i64 1] rfl (by (try simp only [List.map_toArray, List.map_cons, List.map_nil]); first | done | (rw [show t274.length = t261.length from (Kd.R_reads' HO_7.out).1.symm] <;> rfl) | rfl | (simp only [List.length_drop, List.length_take]; rfl)) ?_; (with_reducible refine (laws_heldIntS.calls kj36 _ _ t274 1 t275 _ ?side1 ?side2 A54.out).mono ?_); (case side1 => repeat (first | exact (Kd.R_reads' HO_7.out).2.2 | (with_reducible refine Kd.C_alloc ?_ _) | (with_reducible refine Kd.C_drewN ?_ _) | (with_reducible refine Kd.C_drew ?_))); (case side2 => rw [show t274.length = t261.length from (Kd.R_reads' HO_7.out).1.symm]; exact (Kd.R_reads' HO_7.out).2.1); rintro e w' ⟨rfl, ⟨nd, rfl⟩⟩; refine ⟨_, rfl, ?_⟩; have hnb62 := NB248_260.out; have hnc62 := NB260_248.out; have hcz63_0 : w61.cell? ⟨gb248, 0, none⟩ = some (.slice A0_0 l0_0.length c0_0) := (blk_cell BK248.out 0).trans rfl; have hfz63_0 := blk_frozen BK248.out 0) | ((with_reducible refine gate_callee (f := 27) rfl ?_); refine goesL_ (some 75) rfl rfl Tryd.func27 (by kernel_rfl) rfl #[.agg #[.slice A0_0 l0_0.length c0_0]] rfl (by (try simp only [List.map_toArray, List.map_cons, List.map_nil]); first | done | rfl | (simp only [List.length_drop, List.length_take]; rfl)) ?_; (with_reducible refine (laws_toPuzzle.calls kj36 _ _ l0_0 t276 _ ?side1 ?side2 A57.out).mono ?_); (case side1 => repeat (first | exact (Kd.C_below HR0_0.out (Lam.al)) | (with_reducible refine Kd.C_alloc ?_ _) | (with_reducible refine Kd.C_drewN ?_ _) | (with_reducible refine Kd.C_drew ?_))); (case side2 => exact HC0_0.out); rintro e w64 ⟨v277, rfl, ho0, hb⟩; refine ⟨_, rfl, ?_⟩; have n0_ := Aside0.mk (Kd.R_below (Lam.rq HO_4.out) hb); have n1_ := Aside0.mk (Kd.R_below (Lam.rq HO_7.out) hb); have n2_ := Aside0.mk (Kd.R_elder' (Lam.rq HO_261000.out) (Kd.R_base ho0) hb); have n3_ := Aside0.mk (Kd.R_lower (Kd.R_new' ho0 (Kd.R_lt (Lam.rq HO_261000.out))) (below_size (Lam.al))); have n4_ := Aside0.mk (blk_below (g := gb248) (o := .cells #[.slice A0_0 l0_0.length c0_0] 49 (0, 0)) (Lam.bq BK248.out) hb); have n5_ := Aside0.mk (blk_below (g := gb260) (o := .cells #[.slice Ao22 t271.length co22] 55 (0, 0)) (Lam.bq BK260.out) hb); have n6_ := Aside0.mk (below_step (Lam.al) hb); clear HO_4; clear HO_7; clear HO_261000; clear BK248; clear BK260; clear HB; have HO_4 := n0_; have HO_7 := n1_; have HO_261000 := n2_; have HO278 := n3_; have BK248 := n4_; have BK260 := n5_; have HB := n6_; clear n0_ n1_ n2_ n3_ n4_ n5_ n6_; (try clear hb); (try clear hb2); (try clear hk); (try clear hi); (try clear ho0); obtain ⟨Ao65, co65, eo65⟩ := Kd.R_slice HO278.out; subst eo65) | ((with_reducible refine gate_callee (f := 50) rfl ?_); refine goesL_ (some 76) rfl rfl Tryd.func50 (by kernel_rfl) rfl #[.agg #[.slice Ao65 t276.length co65]] rfl (by (try simp only [List.map_toArray, List.map_cons, List.map_nil]); first | done | rfl | (simp only [List.length_drop, List.length_take]; rfl)) ?_; (with_reducible refine (impl_SureRows.calls _ _ t276 t279 t282 _ ?side1 ?side2 A58.out).mono ?_); (case side1 => repeat (first | exact (Kd.R_reads' HO278.out).2.2 | (with_reducible refine Kd.C_alloc ?_ _) | (with_reducible refine Kd.C_drewN ?_ _) | (with_reducible refine Kd.C_drew ?_))); (case side2 => exact (Kd.R_reads' HO278.out).2.1); rintro e w66 ⟨v280, rfl, ho0, hb⟩; refine ⟨_, rfl, ?_⟩; have n0_ := Aside0.mk (Kd.R_elder' (Lam.rq HO_4.out) (Kd.R_base ho0) hb); have n1_ := Aside0.mk (Kd.R_elder' (Lam.rq HO_7.out) (Kd.R_base ho0) hb); have n2_ := Aside0.mk (Kd.R_below (Lam.rq HO_261000.out) hb); have n3_ := Aside0.mk (Kd.R_below (Lam.rq HO278.out) hb); have n4_ := Aside0.mk (Kd.R_lower (Kd.R_new' (Kd.R_new' ho0 (Kd.R_lt (Lam.rq HO_4.out))) (Kd.R_lt (Lam.rq HO_7.out))) (below_size (Lam.al))); have n5_ := Aside0.mk (blk_below (g := gb248) (o := .cells #[.slice A0_0 l0_0.length c0_0] 49 (0, 0)) (Lam.bq BK248.out) hb); have n6_ := Aside0.mk (blk_below (g := gb260) (o := .cells #[.slice Ao22 t271.length co22] 55 (0, 0)) (Lam.bq BK260.out) hb); have n7_ := Aside0.mk (below_step (Lam.al) hb); clear HO_4; clear HO_7; clear HO_261000; clear HO278; clear BK248; clear BK260; clear HB; have HO_4 := n0_; have HO_7 := n1_; have HO_261000 := n2_; have HO278 := n3_; have HO281 := n4_; have BK248 := n5_; have BK260 := n6_; have HB := n7_; clear n0_ n1_ n2_ n3_ n4_ n5_ n6_ n7_; (try clear hb); (try clear hb2); (try clear hk); (try clear hi); (try clear ho0)))
           (try simp only [Act.put, Lam.pa, Lam.pb, Lam.pc])
           go_cut [87] (fun v87 wc => ∃ (kq : Nat) (x87_58 : Bool), v87 = .bool x87_58 ∧ Aside0 (laws_FnExactSureRows.j2 kq t274 t273 x87_58 = some r) ∧ Aside0 (kq ≤ kj36) ∧ Aside0 (Kd.R (Kd.int .i64) 3 wc w.heap.size (fun _ => True) (.slice Ao60 t261.length co60) t274) ∧ Aside0 (Kd.R k42 42 wc w.heap.size (fun _ => True) (.slice Ao22 t271.length co22) t271) ∧ Aside0 (wc.heap[gb248]? = some (.cells #[(.slice A0_0 l0_0.length c0_0)] 49 (0, 0))) ∧ Aside0 (wc.heap[gb260]? = some (.cells #[(.slice Ao22 t271.length co22)] 55 (0, 0))) ∧ Aside0 (Below w.heap.size w wc))
           case first =>
            have H := HC59.out
            clear HC59
            replace H := Option.bind_eq_some_iff.mp H
            obtain ⟨t283, A670, H⟩ := H
            replace H : (if t283 = true then (laws_FnExactSureRows.j2 kj36 t274 t273 (t282 != t256)) else (laws_FnExactSureRows.j2 kj36 t274 t273 true)) = some r := H
            have A67 := Aside0.mk A670
            clear A670
            by_cases c68 : t283 = true
            ·subst c68
             have H1 : (laws_FnExactSureRows.j2 kj36 t274 t273 (t282 != t256)) = some r := by rw [if_pos rfl] at H; exact H
             clear H
             have H := H1
             clear H1
             have H' := Aside0.mk H
             clear H
             obtain ⟨Ao69, co69, eo69⟩ := Kd.R_slice HO281.out
             subst eo69
             obtain ⟨Ao70, co70, eo70⟩ := Kd.R_slice HO_4.out
             subst eo70
             go_wp2_with (first | ((with_reducible refine gate_callee (f := 24) rfl ?_); refine goesL_ (some 81) rfl rfl Tryd.func24 (by kernel_rfl) rfl #[.slice Ao69 t279.length co69, .slice Ao70 t253.length co70] rfl (by (try simp only [List.map_toArray, List.map_cons, List.map_nil]); first | done | rfl | (simp only [List.length_drop, List.length_take]; rfl)) ?_; (with_reducible refine (laws_eqIntS.calls kj36 _ _ t279 _ _ t253 true _ ?side1 ?side2 ?side3 ?side4 A67.out).mono ?_); (case side1 => repeat (first | exact (Kd.R_reads' HO281.out).2.2 | (with_reducible refine Kd.C_alloc ?_ _) | (with_reducible refine Kd.C_drewN ?_ _) | (with_reducible refine Kd.C_drew ?_))); (case side2 => exact (Kd.R_reads' HO281.out).2.1); (case side3 => repeat (first | exact (Kd.R_reads' HO_4.out).2.2 | (with_reducible refine Kd.C_alloc ?_ _) | (with_reducible refine Kd.C_drewN ?_ _) | (with_reducible refine Kd.C_drew ?_))); (case side4 => exact (Kd.R_reads' HO_4.out).2.1); rintro e w' ⟨rfl, ⟨nd, rfl⟩⟩; refine ⟨_, rfl, ?_⟩))
             go_meet
             case rel => exact ⟨_, ((t282 != t256)), (by first | rfl | (simp; done) | (simp [*]; done)), H', ⟨by have := HJ10.out; have := HJ36.out; first | omega | exact Nat.le_refl _⟩, ⟨by (try simp only [hl261000_36]); (with_reducible repeat (first | apply Kd.R_alloc | apply Kd.R_drewN | apply Kd.R_drew)); exact Kd.R_mono HO_7.out (fun _ hk => trivial)⟩, ⟨by (try simp only [hl261000_36]); (with_reducible repeat (first | apply Kd.R_alloc | apply Kd.R_drewN | apply Kd.R_drew)); exact Kd.R_mono HO_261000.out (fun _ hk => trivial)⟩, ⟨by (try simp only [hl261000_36]); (with_reducible repeat (first | refine blk_drewN ?_ _ | refine blk_drew ?_ | refine blk_alloc ?_ _)); exact BK248.out⟩, ⟨by (try simp only [hl261000_36]); (with_reducible repeat (first | refine blk_drewN ?_ _ | refine blk_drew ?_ | refine blk_alloc ?_ _)); exact BK260.out⟩, ⟨Lam.al⟩⟩
            ·replace c68 := Bool.eq_false_iff.mpr c68
             subst c68
             have H1 : (laws_FnExactSureRows.j2 kj36 t274 t273 true) = some r := by rw [if_neg (show ¬ (false = true) by decide)] at H; exact H
             clear H
             have H := H1
             clear H1
             have H' := Aside0.mk H
             clear H
             obtain ⟨Ao71, co71, eo71⟩ := Kd.R_slice HO281.out
             subst eo71
             obtain ⟨Ao72, co72, eo72⟩ := Kd.R_slice HO_4.out
             subst eo72
             go_wp2_with (first | ((with_reducible refine gate_callee (f := 24) rfl ?_); refine goesL_ (some 81) rfl rfl Tryd.func24 (by kernel_rfl) rfl #[.slice Ao71 t279.length co71, .slice Ao72 t253.length co72] rfl (by (try simp only [List.map_toArray, List.map_cons, List.map_nil]); first | done | rfl | (simp only [List.length_drop, List.length_take]; rfl)) ?_; (with_reducible refine (laws_eqIntS.calls kj36 _ _ t279 _ _ t253 false _ ?side1 ?side2 ?side3 ?side4 A67.out).mono ?_); (case side1 => repeat (first | exact (Kd.R_reads' HO281.out).2.2 | (with_reducible refine Kd.C_alloc ?_ _) | (with_reducible refine Kd.C_drewN ?_ _) | (with_reducible refine Kd.C_drew ?_))); (case side2 => exact (Kd.R_reads' HO281.out).2.1); (case side3 => repeat (first | exact (Kd.R_reads' HO_4.out).2.2 | (with_reducible refine Kd.C_alloc ?_ _) | (with_reducible refine Kd.C_drewN ?_ _) | (with_reducible refine Kd.C_drew ?_))); (case side4 => exact (Kd.R_reads' HO_4.out).2.1); rintro e w' ⟨rfl, ⟨nd, rfl⟩⟩; refine ⟨_, rfl, ?_⟩))
             go_meet
             case rel => exact ⟨_, (true), (by first | rfl | (simp; done) | (simp [*]; done)), H', ⟨by have := HJ10.out; have := HJ36.out; first | omega | exact Nat.le_refl _⟩, ⟨by (try simp only [hl261000_36]); (with_reducible repeat (first | apply Kd.R_alloc | apply Kd.R_drewN | apply Kd.R_drew)); exact Kd.R_mono HO_7.out (fun _ hk => trivial)⟩, ⟨by (try simp only [hl261000_36]); (with_reducible repeat (first | apply Kd.R_alloc | apply Kd.R_drewN | apply Kd.R_drew)); exact Kd.R_mono HO_261000.out (fun _ hk => trivial)⟩, ⟨by (try simp only [hl261000_36]); (with_reducible repeat (first | refine blk_drewN ?_ _ | refine blk_drew ?_ | refine blk_alloc ?_ _)); exact BK248.out⟩, ⟨by (try simp only [hl261000_36]); (with_reducible repeat (first | refine blk_drewN ?_ _ | refine blk_drew ?_ | refine blk_alloc ?_ _)); exact BK260.out⟩, ⟨Lam.al⟩⟩
           case rest =>
            clear HC59
            try clear c1
            try clear c2
            try clear p2
            try clear c3
            try clear c3b0
            try clear c4
            try clear c5
            try clear c6
            try clear c12
            try clear c23
            try clear c24
            try clear c25
            try clear c27
            try clear c29
            try clear c32
            try clear c35
            try clear c36
            try clear c37
            try clear c41
            try clear c42
            try clear c45
            try clear c45b0
            try clear c47
            try clear c49
            try clear c50
            try clear c52
            try clear c55
            try clear c55b0
            try clear c56
            try clear c56b0
            try clear c56b1
            try clear c62
            try clear c68
            try clear hcz13_0
            try clear hcz15_0
            try clear hcz19_0
            try clear hcz24_0
            try clear hcz43_0
            try clear hcz5_0
            try clear hcz63_0
            try clear hfz13_0
            try clear hfz15_0
            try clear hfz19_0
            try clear hfz24_0
            try clear hfz43_0
            try clear hfz5_0
            try clear hfz63_0
            try clear p2
            obtain ⟨kq, x87_58, rfl, HA, HJ58, HO_7, HO_261000, BK248, BK260, HB⟩ := hcut
            have hl7_58 := (Kd.R_reads' HO_7.out).1
            rw [hl7_58] at HO_7
            (try simp only [hl7_58])
            (try simp only [hl7_58] at BK248)
            (try simp only [hl7_58] at BK260)
            (try simp only [hl7_58] at HO_261000)
            cases kq with
            | zero => exact absurd HA.out (by simp [laws_FnExactSureRows.j2])
            | succ kj58 =>
             have H := HA.out
             clear HA
             simp only [laws_FnExactSureRows.j2] at H
             by_cases c73 : x87_58 = true
             ·subst c73
              have H1 : (none) = some r := by rw [if_pos rfl] at H; exact H
              clear H
              have H := H1
              clear H1
              exact absurd H (by simp)
             ·replace c73 := Bool.eq_false_iff.mpr c73
              subst c73
              have H1 : ((laws_heldIntS.f kj58 t274 1).bind fun t284 => (if t284 < 0 then (none) else (if t284 = t273 then (some true) else (none)))) = some r := by rw [if_neg (show ¬ (false = true) by decide)] at H; exact H
              clear H
              have H := H1
              clear H1
              replace H := Option.bind_eq_some_iff.mp H
              obtain ⟨t284, A740, H⟩ := H
              replace H : (if t284 < 0 then (none) else (if t284 = t273 then (some true) else (none))) = some r := H
              have A74 := Aside0.mk A740
              clear A740
              by_cases c75 : t284 < 0
              ·rw [if_pos c75] at H
               exact absurd H (by simp)
              ·rw [if_neg c75] at H
               have c75b0 : decide (t284 < 0) = false := decide_eq_false c75
               clear c75
               by_cases c76 : t284 = t273
               ·rw [if_pos c76] at H
                have c76b0 : (t284 == t273) = true := beq_iff_eq.mpr c76
                have c76b1 : (t284 != t273) = false := bne_eq_false_iff_eq.mpr c76
                clear c76
                obtain rfl := Option.some.inj H
                go_wp2_with (first | ((with_reducible refine gate_callee (f := 41) rfl ?_); refine goesL_ (some 90) rfl rfl Tryd.func41 (by kernel_rfl) rfl #[.slice Ao60 t274.length co60, .int .i64 1] rfl (by (try simp only [List.map_toArray, List.map_cons, List.map_nil]); first | done | rfl | (simp only [List.length_drop, List.length_take]; rfl)) ?_; (with_reducible refine (laws_heldIntS.calls kj58 _ _ t274 1 t284 _ ?side1 ?side2 A74.out).mono ?_); (case side1 => repeat (first | exact (Kd.R_reads' HO_7.out).2.2 | (with_reducible refine Kd.C_alloc ?_ _) | (with_reducible refine Kd.C_drewN ?_ _) | (with_reducible refine Kd.C_drew ?_))); (case side2 => exact (Kd.R_reads' HO_7.out).2.1); rintro e w' ⟨rfl, ⟨nd, rfl⟩⟩; refine ⟨_, rfl, ?_⟩))
                go_ret
                exact ⟨by first | rfl | (simp [errW_none, errW_some] <;> rfl) | (simp [*, errW_none, errW_some] <;> rfl), Lam.al⟩
               ·rw [if_neg c76] at H
                exact absurd H (by simp)
          ·rw [if_neg c56] at H
           exact absurd H (by simp)
     ·replace c35 := Bool.eq_false_iff.mpr c35
      subst c35
      have H1 : (none) = some r := by rw [if_neg (show ¬ (false = true) by decide)] at H; exact H
      clear H
      have H := H1
      clear H1
      exact absurd H (by simp)

end Go.Proofs.YtipiocdppghhnaaDoor.PFnExactSureRows
