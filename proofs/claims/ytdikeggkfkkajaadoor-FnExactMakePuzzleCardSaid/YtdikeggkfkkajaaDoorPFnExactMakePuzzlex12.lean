-- Made by a program of this session (wip/xprint.py) out of the translation.
import Derived.Test.YtdikeggkfkkajaaDoorPFnExactMakePuzzlex0
import Derived.Test.YtdikeggkfkkajaaDoorPFnExactMakePuzzlex1
import Derived.Test.YtdikeggkfkkajaaDoorPFnExactMakePuzzlex5
import Derived.Test.YtdikeggkfkkajaaDoorPFnExactMakePuzzlex10
import Derived.Test.YtdikeggkfkkajaaDoorPFnExactMakePuzzlex11
namespace Go.Proofs.YtdikeggkfkkajaaDoor.PFnExactMakePuzzle
open Go.RowKit Go.Proofs.YtdikeggkfkkajaaDoorW.PrintWords Go.Proofs.YtdikeggkfkkajaaDoorW.PrintLast Go.Proofs.YtdikeggkfkkajaaDoorW.PrintMore
attribute [local go_sem] max2_int min2_int max_two min_two max_three min_three max_four min_four   -- for this text's walks alone
set_option linter.unusedVariables false
set_option linter.unusedSimpArgs false

/-! ### laws_FnExactMakePuzzle: function 4 -/
mutual
def laws_FnExactMakePuzzle.j0 : Nat → List Int → Int → Int → Bool → List Int → Bool → Bool → List (S69) → List (S69) → Option (Bool)
 | 0, _, _, _, _, _, _, _, _, _ => none
 | k + 1, x0, x1, x2, x8, x9, x11, x45, x243000, x251000 => if x45 = true then (none) else ((laws_toIntS.f k x0).bind fun t252 => ((laws_eqIntS.f k x9 t252).bind fun t255 => (if t255 = true then ((laws_markIntS.f k x9 1).bind fun bt256 => (if bt256.1 < 0 then (laws_FnExactMakePuzzle.j1 k x0 x1 x2 x8 true x243000 x251000) else ((laws_eqPuzzle.f k x251000 x243000).bind fun t258 => (if t258 = true then (laws_FnExactMakePuzzle.j1 k x0 x1 x2 x8 (x11 != x8) x243000 x251000) else (laws_FnExactMakePuzzle.j1 k x0 x1 x2 x8 true x243000 x251000))))) else (none))))
def laws_FnExactMakePuzzle.j1 : Nat → List Int → Int → Int → Bool → Bool → List (S69) → List (S69) → Option (Bool)
 | 0, _, _, _, _, _, _, _ => none
 | k + 1, x0, x1, x2, x8, x66, x243000, x251000 => if x66 = true then (none) else ((laws_markPuzzle.f k x251000 1).bind fun bt259 => ((laws_heldPuzzle.f k bt259.2 1).bind fun t261 => (if t261 < 0 then (none) else (if t261 = bt259.1 then ((laws_toIntS.f k x0).bind fun t262 => ((impl_MakePuzzle.f k t262 x1 x2).bind fun bt265 => ((laws_eqPuzzle.f k bt265.1 x243000).bind fun t270 => (if t270 = true then (laws_FnExactMakePuzzle.j2 k bt259.1 (bt265.2 != x8) bt259.2) else (laws_FnExactMakePuzzle.j2 k bt259.1 true bt259.2))))) else (none)))))
def laws_FnExactMakePuzzle.j2 : Nat → Int → Bool → List (S69) → Option (Bool)
 | 0, _, _, _ => none
 | k + 1, x13, x94, x251000 => if x94 = true then (none) else ((laws_heldPuzzle.f k x251000 1).bind fun t271 => (if t271 < 0 then (none) else (if t271 = x13 then (some true) else (none))))
end
def laws_FnExactMakePuzzle.f (k : Nat) (l0 : List Int) (a1 : Int) (a2 : Int) : Option (Bool) := if (l0.length : Int) > 1048576 then (some true) else ((laws_toIntS.f k l0).bind fun t235 => ((spec_MakePuzzle.f k t235 a1 a2).bind fun bt238 => ((laws_toIntS.f k l0).bind fun t243 => ((impl_MakePuzzle.f k t243 a1 a2).bind fun bt246 => ((laws_eqPuzzle.f k bt246.1 bt238.1).bind fun t251 => (if t251 = true then (laws_FnExactMakePuzzle.j0 k l0 a1 a2 bt238.2 t243 bt246.2 (bt246.2 != bt238.2) bt238.1 bt246.1) else (laws_FnExactMakePuzzle.j0 k l0 a1 a2 bt238.2 t243 bt246.2 true bt238.1 bt246.1)))))))
theorem laws_FnExactMakePuzzle.mono_l : ∀ k, (∀ y0 y1 y2 y3 y4 y5 y6 y7 y8, LeO (laws_FnExactMakePuzzle.j0 k y0 y1 y2 y3 y4 y5 y6 y7 y8) (laws_FnExactMakePuzzle.j0 (k + 1) y0 y1 y2 y3 y4 y5 y6 y7 y8)) ∧ (∀ y0 y1 y2 y3 y4 y5 y6, LeO (laws_FnExactMakePuzzle.j1 k y0 y1 y2 y3 y4 y5 y6) (laws_FnExactMakePuzzle.j1 (k + 1) y0 y1 y2 y3 y4 y5 y6)) ∧ (∀ y0 y1 y2, LeO (laws_FnExactMakePuzzle.j2 k y0 y1 y2) (laws_FnExactMakePuzzle.j2 (k + 1) y0 y1 y2))
 | 0 => ⟨fun _ _ _ _ _ _ _ _ _ r h => by simp [laws_FnExactMakePuzzle.j0] at h, fun _ _ _ _ _ _ _ r h => by simp [laws_FnExactMakePuzzle.j1] at h, fun _ _ _ r h => by simp [laws_FnExactMakePuzzle.j2] at h⟩
 | k + 1 => by
  obtain ⟨ih0, ih1, ih2⟩ := laws_FnExactMakePuzzle.mono_l k
  refine ⟨?_, ?_, ?_⟩
  ·intro y0 y1 y2 y3 y4 y5 y6 y7 y8
   unfold laws_FnExactMakePuzzle.j0
   repeat' first
   | (with_reducible exact ih0 _ _ _ _ _ _ _ _ _)
   | (with_reducible exact ih1 _ _ _ _ _ _ _)
   | (with_reducible exact ih2 _ _ _)
   | (with_reducible exact impl_MakePuzzle.mono _ _ _ _)
   | (with_reducible exact laws_eqIntS.mono _ _ _)
   | (with_reducible exact laws_eqPuzzle.mono _ _ _)
   | (with_reducible exact laws_heldPuzzle.mono _ _ _)
   | (with_reducible exact laws_markIntS.mono _ _ _)
   | (with_reducible exact laws_markPuzzle.mono _ _ _)
   | (with_reducible exact laws_toIntS.mono _ _)
   | (with_reducible exact spec_MakePuzzle.mono _ _ _ _)
   | (with_reducible exact LeO.refl _)
   | (with_reducible exact LeO.none _)
   | (with_reducible refine LeO.ite ?_ ?_)
   | (with_reducible refine LeO.bind ?_ (fun _ => ?_))
   | exact ih0 _ _ _ _ _ _ _ _ _
   | exact ih1 _ _ _ _ _ _ _
   | exact ih2 _ _ _
   | exact impl_MakePuzzle.mono _ _ _ _
   | exact laws_eqIntS.mono _ _ _
   | exact laws_eqPuzzle.mono _ _ _
   | exact laws_heldPuzzle.mono _ _ _
   | exact laws_markIntS.mono _ _ _
   | exact laws_markPuzzle.mono _ _ _
   | exact laws_toIntS.mono _ _
   | exact spec_MakePuzzle.mono _ _ _ _
   | exact LeO.none _
   | refine LeO.ite ?_ ?_
   | refine LeO.bind ?_ (fun _ => ?_)
  ·intro y0 y1 y2 y3 y4 y5 y6
   unfold laws_FnExactMakePuzzle.j1
   repeat' first
   | (with_reducible exact ih0 _ _ _ _ _ _ _ _ _)
   | (with_reducible exact ih1 _ _ _ _ _ _ _)
   | (with_reducible exact ih2 _ _ _)
   | (with_reducible exact impl_MakePuzzle.mono _ _ _ _)
   | (with_reducible exact laws_eqIntS.mono _ _ _)
   | (with_reducible exact laws_eqPuzzle.mono _ _ _)
   | (with_reducible exact laws_heldPuzzle.mono _ _ _)
   | (with_reducible exact laws_markIntS.mono _ _ _)
   | (with_reducible exact laws_markPuzzle.mono _ _ _)
   | (with_reducible exact laws_toIntS.mono _ _)
   | (with_reducible exact spec_MakePuzzle.mono _ _ _ _)
   | (with_reducible exact LeO.refl _)
   | (with_reducible exact LeO.none _)
   | (with_reducible refine LeO.ite ?_ ?_)
   | (with_reducible refine LeO.bind ?_ (fun _ => ?_))
   | exact ih0 _ _ _ _ _ _ _ _ _
   | exact ih1 _ _ _ _ _ _ _
   | exact ih2 _ _ _
   | exact impl_MakePuzzle.mono _ _ _ _
   | exact laws_eqIntS.mono _ _ _
   | exact laws_eqPuzzle.mono _ _ _
   | exact laws_heldPuzzle.mono _ _ _
   | exact laws_markIntS.mono _ _ _
   | exact laws_markPuzzle.mono _ _ _
   | exact laws_toIntS.mono _ _
   | exact spec_MakePuzzle.mono _ _ _ _
   | exact LeO.none _
   | refine LeO.ite ?_ ?_
   | refine LeO.bind ?_ (fun _ => ?_)
  ·intro y0 y1 y2
   unfold laws_FnExactMakePuzzle.j2
   repeat' first
   | (with_reducible exact ih0 _ _ _ _ _ _ _ _ _)
   | (with_reducible exact ih1 _ _ _ _ _ _ _)
   | (with_reducible exact ih2 _ _ _)
   | (with_reducible exact impl_MakePuzzle.mono _ _ _ _)
   | (with_reducible exact laws_eqIntS.mono _ _ _)
   | (with_reducible exact laws_eqPuzzle.mono _ _ _)
   | (with_reducible exact laws_heldPuzzle.mono _ _ _)
   | (with_reducible exact laws_markIntS.mono _ _ _)
   | (with_reducible exact laws_markPuzzle.mono _ _ _)
   | (with_reducible exact laws_toIntS.mono _ _)
   | (with_reducible exact spec_MakePuzzle.mono _ _ _ _)
   | (with_reducible exact LeO.refl _)
   | (with_reducible exact LeO.none _)
   | (with_reducible refine LeO.ite ?_ ?_)
   | (with_reducible refine LeO.bind ?_ (fun _ => ?_))
   | exact ih0 _ _ _ _ _ _ _ _ _
   | exact ih1 _ _ _ _ _ _ _
   | exact ih2 _ _ _
   | exact impl_MakePuzzle.mono _ _ _ _
   | exact laws_eqIntS.mono _ _ _
   | exact laws_eqPuzzle.mono _ _ _
   | exact laws_heldPuzzle.mono _ _ _
   | exact laws_markIntS.mono _ _ _
   | exact laws_markPuzzle.mono _ _ _
   | exact laws_toIntS.mono _ _
   | exact spec_MakePuzzle.mono _ _ _ _
   | exact LeO.none _
   | refine LeO.ite ?_ ?_
   | refine LeO.bind ?_ (fun _ => ?_)
theorem laws_FnExactMakePuzzle.mono : ∀ a0 a1 a2 k, LeO (laws_FnExactMakePuzzle.f k a0 a1 a2) (laws_FnExactMakePuzzle.f (k + 1) a0 a1 a2) := by
 intro a0 a1 a2 k
 obtain ⟨ih0, ih1, ih2⟩ := laws_FnExactMakePuzzle.mono_l k
 unfold laws_FnExactMakePuzzle.f
 repeat' first
   | (with_reducible exact ih0 _ _ _ _ _ _ _ _ _)
   | (with_reducible exact ih1 _ _ _ _ _ _ _)
   | (with_reducible exact ih2 _ _ _)
   | (with_reducible exact impl_MakePuzzle.mono _ _ _ _)
   | (with_reducible exact laws_eqIntS.mono _ _ _)
   | (with_reducible exact laws_eqPuzzle.mono _ _ _)
   | (with_reducible exact laws_heldPuzzle.mono _ _ _)
   | (with_reducible exact laws_markIntS.mono _ _ _)
   | (with_reducible exact laws_markPuzzle.mono _ _ _)
   | (with_reducible exact laws_toIntS.mono _ _)
   | (with_reducible exact spec_MakePuzzle.mono _ _ _ _)
   | (with_reducible exact LeO.refl _)
   | (with_reducible exact LeO.none _)
   | (with_reducible refine LeO.ite ?_ ?_)
   | (with_reducible refine LeO.bind ?_ (fun _ => ?_))
   | exact ih0 _ _ _ _ _ _ _ _ _
   | exact ih1 _ _ _ _ _ _ _
   | exact ih2 _ _ _
   | exact impl_MakePuzzle.mono _ _ _ _
   | exact laws_eqIntS.mono _ _ _
   | exact laws_eqPuzzle.mono _ _ _
   | exact laws_heldPuzzle.mono _ _ _
   | exact laws_markIntS.mono _ _ _
   | exact laws_markPuzzle.mono _ _ _
   | exact laws_toIntS.mono _ _
   | exact spec_MakePuzzle.mono _ _ _ _
   | exact LeO.none _
   | refine LeO.ite ?_ ?_
   | refine LeO.bind ?_ (fun _ => ?_)
set_option maxHeartbeats 8000000 in
set_option maxRecDepth 100000 in
theorem laws_FnExactMakePuzzle.calls (k : Nat) (A0 : Option Addr) (c0 : Nat) (l0 : List Int) (a1 : Int) (a2 : Int) (r : Bool) (w : World) (hr0 : Kd.C (Kd.int .i64) w A0 l0.length l0) (hc0 : l0.length ≤ c0) (h : laws_FnExactMakePuzzle.f k l0 a1 a2 = some r) :
  Calls Tryd.prog 4 #[.slice A0 l0.length c0, .int .i64 a1, .int .i64 a2] w fun e w' => e = .returned (.bool r) ∧ Below w.heap.size w w' := by
 have hu31 := Tryd.underlying31
 have HR0 := Aside0.mk hr0
 have HC0 := Aside0.mk hc0
 clear hr0 hc0
 have HB := Aside0.mk (Below.refl w.heap.size w)
 have H : (if (l0.length : Int) > 1048576 then (some true) else ((laws_toIntS.f k l0).bind fun t235 => ((spec_MakePuzzle.f k t235 a1 a2).bind fun bt238 => ((laws_toIntS.f k l0).bind fun t243 => ((impl_MakePuzzle.f k t243 a1 a2).bind fun bt246 => ((laws_eqPuzzle.f k bt246.1 bt238.1).bind fun t251 => (if t251 = true then (laws_FnExactMakePuzzle.j0 k l0 a1 a2 bt238.2 t243 bt246.2 (bt246.2 != bt238.2) bt238.1 bt246.1) else (laws_FnExactMakePuzzle.j0 k l0 a1 a2 bt238.2 t243 bt246.2 true bt238.1 bt246.1)))))))) = some r := h
 clear h
 by_cases c4 : (l0.length : Int) > 1048576
 ·rw [if_pos c4] at H
  have c4b0 : decide (1048576 < (l0.length : Int)) = true := decide_eq_true c4
  have c4b1 : decide (1048576 < l0.length) = true := decide_eq_true (by omega)
  clear c4
  obtain rfl := Option.some.inj H
  go_enter Tryd.func4, Tryd.ntmps4
  go_wp2
  go_ret
  exact ⟨by first | rfl | (simp [errW_none, errW_some] <;> rfl) | (simp [*, errW_none, errW_some] <;> rfl), Lam.al⟩
 ·rw [if_neg c4] at H
  have c4b0 : decide (1048576 < (l0.length : Int)) = false := decide_eq_false c4
  have c4b1 : decide (1048576 < l0.length) = false := decide_eq_false (by omega)
  clear c4
  replace H := Option.bind_eq_some_iff.mp H
  obtain ⟨t235, A50, H⟩ := H
  replace H : ((spec_MakePuzzle.f k t235 a1 a2).bind fun bt238 => ((laws_toIntS.f k l0).bind fun t243 => ((impl_MakePuzzle.f k t243 a1 a2).bind fun bt246 => ((laws_eqPuzzle.f k bt246.1 bt238.1).bind fun t251 => (if t251 = true then (laws_FnExactMakePuzzle.j0 k l0 a1 a2 bt238.2 t243 bt246.2 (bt246.2 != bt238.2) bt238.1 bt246.1) else (laws_FnExactMakePuzzle.j0 k l0 a1 a2 bt238.2 t243 bt246.2 true bt238.1 bt246.1)))))) = some r := H
  have A5 := Aside0.mk A50
  clear A50
  replace H := Option.bind_eq_some_iff.mp H
  obtain ⟨⟨t238, t241⟩, A60, H⟩ := H
  replace H : ((laws_toIntS.f k l0).bind fun t243 => ((impl_MakePuzzle.f k t243 a1 a2).bind fun bt246 => ((laws_eqPuzzle.f k bt246.1 t238).bind fun t251 => (if t251 = true then (laws_FnExactMakePuzzle.j0 k l0 a1 a2 t241 t243 bt246.2 (bt246.2 != t241) t238 bt246.1) else (laws_FnExactMakePuzzle.j0 k l0 a1 a2 t241 t243 bt246.2 true t238 bt246.1))))) = some r := H
  have A6 := Aside0.mk A60
  clear A60
  replace H := Option.bind_eq_some_iff.mp H
  obtain ⟨t243, A70, H⟩ := H
  replace H : ((impl_MakePuzzle.f k t243 a1 a2).bind fun bt246 => ((laws_eqPuzzle.f k bt246.1 t238).bind fun t251 => (if t251 = true then (laws_FnExactMakePuzzle.j0 k l0 a1 a2 t241 t243 bt246.2 (bt246.2 != t241) t238 bt246.1) else (laws_FnExactMakePuzzle.j0 k l0 a1 a2 t241 t243 bt246.2 true t238 bt246.1)))) = some r := H
  have A7 := Aside0.mk A70
  clear A70
  replace H := Option.bind_eq_some_iff.mp H
  obtain ⟨⟨t246, t247⟩, A80, H⟩ := H
  replace H : ((laws_eqPuzzle.f k t246 t238).bind fun t251 => (if t251 = true then (laws_FnExactMakePuzzle.j0 k l0 a1 a2 t241 t243 t247 (t247 != t241) t238 t246) else (laws_FnExactMakePuzzle.j0 k l0 a1 a2 t241 t243 t247 true t238 t246))) = some r := H
  have A8 := Aside0.mk A80
  clear A80
  have HC9 := Aside0.mk H
  clear H
  go_enter Tryd.func4, Tryd.ntmps4
  go_upto_region 6 with (first | ((with_reducible refine gate_callee (f := 18) rfl ?_); refine goesL_ (some 22) rfl rfl Tryd.func18 (by kernel_rfl) rfl #[.slice A0 l0.length c0] rfl (by (try simp only [List.map_toArray, List.map_cons, List.map_nil]); first | done | rfl | (simp only [List.length_drop, List.length_take]; rfl)) ?_; (with_reducible refine (laws_toIntS.calls k _ _ l0 t235 _ ?side1 ?side2 A5.out).mono ?_); (case side1 => repeat (first | exact HR0.out | (with_reducible refine Kd.C_alloc ?_ _) | (with_reducible refine Kd.C_drewN ?_ _) | (with_reducible refine Kd.C_drew ?_))); (case side2 => exact HC0.out); rintro e w10 ⟨v236, rfl, ho0, hb⟩; refine ⟨_, rfl, ?_⟩; have n0_ := Aside0.mk (Kd.R_lower ho0 (below_size (Lam.al))); have n1_ := Aside0.mk (below_step (Lam.al) hb); clear HB; have HO237 := n0_; have HB := n1_; clear n0_ n1_; (try clear hb); (try clear hb2); (try clear hk); (try clear hi); (try clear ho0); obtain ⟨Ao11, co11, eo11⟩ := Kd.R_slice HO237.out; subst eo11) | ((with_reducible refine gate_callee (f := 17) rfl ?_); refine goesL_ (some 25) rfl rfl Tryd.func17 (by kernel_rfl) rfl #[.slice Ao11 t235.length co11, .int .i64 a1, .int .i64 a2] rfl (by (try simp only [List.map_toArray, List.map_cons, List.map_nil]); first | done | rfl | (simp only [List.length_drop, List.length_take]; rfl)) ?_; (with_reducible refine (spec_MakePuzzle.calls k _ _ t235 a1 a2 t238 t241 _ ?side1 ?side2 A6.out).mono ?_); (case side1 => repeat (first | exact (Kd.R_reads' HO237.out).2.2 | (with_reducible refine Kd.C_alloc ?_ _) | (with_reducible refine Kd.C_drewN ?_ _) | (with_reducible refine Kd.C_drew ?_))); (case side2 => exact (Kd.R_reads' HO237.out).2.1); rintro e w12 ⟨v239, rfl, ho0, hb⟩; refine ⟨_, rfl, ?_⟩; have n0_ := Aside0.mk (Kd.R_below (Lam.rq HO237.out) hb); have n1_ := Aside0.mk (Kd.R_lower ho0 (below_size (Lam.al))); have n2_ := Aside0.mk (below_step (Lam.al) hb); clear HO237; clear HB; have HO237 := n0_; have HO240 := n1_; have HB := n2_; clear n0_ n1_ n2_; (try clear hb); (try clear hb2); (try clear hk); (try clear hi); (try clear ho0)) | ((with_reducible refine gate_dst (N := 7) rfl ?_); refine box_event ?hg (N := 7) ?hd (cs := #[.slice none 0 0]) (t := 31) ?hr ?_; (case hd => rfl); (case hg => rfl); (case hr => first | (go_simp; done) | (go_simp; rfl)); intro gb242 hg w13 hbox hb; have n0_ := Aside0.mk (Kd.R_below (Lam.rq HO237.out) hb); have n1_ := Aside0.mk (Kd.R_below (Lam.rq HO240.out) hb); have n2_ := Aside0.mk (below_step (Lam.al) hb); have n3_ := Aside0.mk (hbox); have n4_ := Aside0.mk ((by rw [hg]; exact (below_size (Lam.al)) : w.heap.size ≤ gb242)); have n5_ := Aside0.mk ((by rw [hg]; exact (below_size (Lam.al)) : w.heap.size ≤ gb242)); clear HO237; clear HO240; clear HB; have HO237 := n0_; have HO240 := n1_; have HB := n2_; have BK242 := n3_; have GW242 := n4_; have GE242 := n5_; clear n0_ n1_ n2_ n3_ n4_ n5_; clear hb hbox hg; obtain ⟨Ao14, co14, eo14⟩ := Kd.R_slice HO240.out; subst eo14; have hcz15_0 : w13.cell? ⟨gb242, 0, none⟩ = some (.slice none 0 0) := (blk_cell BK242.out 0).trans rfl; have hfz15_0 := blk_frozen BK242.out 0) | ((with_reducible refine gate_callee (f := 18) rfl ?_); refine goesL_ (some 29) rfl rfl Tryd.func18 (by kernel_rfl) rfl #[.slice A0 l0.length c0] rfl (by (try simp only [List.map_toArray, List.map_cons, List.map_nil]); first | done | rfl | (simp only [List.length_drop, List.length_take]; rfl)) ?_; (with_reducible refine (laws_toIntS.calls k _ _ l0 t243 _ ?side1 ?side2 A7.out).mono ?_); (case side1 => exact Kd.C_below HR0.out (Lam.al)); (case side2 => exact HC0.out); rintro e w16 ⟨v244, rfl, ho0, hb⟩; refine ⟨_, rfl, ?_⟩; have n0_ := Aside0.mk (Kd.R_elder' (by (with_reducible repeat (first | apply Kd.R_alloc | apply Kd.R_drewN | apply Kd.R_drew)); exact (Kd.R_mono (Kd.R_far (p := ⟨gb242, 0, none⟩) (Kd.R_types HO237.out BK242.out (by decide)) (fun _ hk => hk.2) (.slice Ao14 t238.length co14)) (fun _ h_ => h_.1))) (Kd.R_base ho0) hb); have n1_ := Aside0.mk (Kd.R_below (by (with_reducible repeat (first | apply Kd.R_alloc | apply Kd.R_drewN | apply Kd.R_drew)); exact (Kd.R_mono (Kd.R_far (p := ⟨gb242, 0, none⟩) (Kd.R_types HO240.out BK242.out (by decide)) (fun _ hk => hk.2) (.slice Ao14 t238.length co14)) (fun _ h_ => h_.1))) hb); have n2_ := Aside0.mk (Kd.R_lower (Kd.R_new' ho0 (Kd.R_lt (by (with_reducible repeat (first | apply Kd.R_alloc | apply Kd.R_drewN | apply Kd.R_drew)); exact (Kd.R_mono (Kd.R_far (p := ⟨gb242, 0, none⟩) (Kd.R_types HO237.out BK242.out (by decide)) (fun _ hk => hk.2) (.slice Ao14 t238.length co14)) (fun _ h_ => h_.1))))) (below_size (Lam.al))); have n3_ := Aside0.mk (blk_below (g := gb242) (o := .cells #[.slice Ao14 t238.length co14] 31 (0, 0)) (by (with_reducible repeat (first | refine blk_drewN ?_ _ | refine blk_drew ?_ | refine blk_alloc ?_ _)); refine blk_put (cs := #[.slice none 0 0]) ?_ 0 _ rfl; (with_reducible repeat (first | refine blk_drewN ?_ _ | refine blk_drew ?_ | refine blk_alloc ?_ _)); exact BK242.out) hb); have n4_ := Aside0.mk (below_step (Lam.al) hb); clear HO237; clear HO240; clear BK242; clear HB; have HO237 := n0_; have HO240 := n1_; have HO245 := n2_; have BK242 := n3_; have HB := n4_; clear n0_ n1_ n2_ n3_ n4_; (try clear hb); (try clear hb2); (try clear hk); (try clear hi); (try clear ho0); obtain ⟨Ao17, co17, eo17⟩ := Kd.R_slice HO245.out; subst eo17) | ((with_reducible refine gate_callee (f := 19) rfl ?_); refine goesL_ (some 34) rfl rfl Tryd.func19 (by kernel_rfl) rfl #[.slice Ao17 t243.length co17, .int .i64 a1, .int .i64 a2] rfl (by (try simp only [List.map_toArray, List.map_cons, List.map_nil]); first | done | rfl | (simp only [List.length_drop, List.length_take]; rfl)) ?_; (with_reducible refine (impl_MakePuzzle.calls k _ _ t243 a1 a2 t246 t247 _ ?side1 ?side2 A8.out).mono ?_); (case side1 => repeat (first | exact (Kd.R_reads' HO245.out).2.2 | (with_reducible refine Kd.C_alloc ?_ _) | (with_reducible refine Kd.C_drewN ?_ _) | (with_reducible refine Kd.C_drew ?_))); (case side2 => exact (Kd.R_reads' HO245.out).2.1); rintro e w18 ⟨v248, rfl, ho0, hb⟩; refine ⟨_, rfl, ?_⟩; have n0_ := Aside0.mk (Kd.R_below (Lam.rq HO237.out) hb); have n1_ := Aside0.mk (Kd.R_elder' (Lam.rq HO240.out) (Kd.R_base ho0) hb); have n2_ := Aside0.mk (Kd.R_below (Lam.rq HO245.out) hb); have n3_ := Aside0.mk (Kd.R_lower (Kd.R_new' ho0 (Kd.R_lt (Lam.rq HO240.out))) (below_size (Lam.al))); have n4_ := Aside0.mk (blk_below (g := gb242) (o := .cells #[.slice Ao14 t238.length co14] 31 (0, 0)) (Lam.bq BK242.out) hb); have n5_ := Aside0.mk (below_step (Lam.al) hb); clear HO237; clear HO240; clear HO245; clear BK242; clear HB; have HO237 := n0_; have HO240 := n1_; have HO245 := n2_; have HO249 := n3_; have BK242 := n4_; have HB := n5_; clear n0_ n1_ n2_ n3_ n4_ n5_; (try clear hb); (try clear hb2); (try clear hk); (try clear hi); (try clear ho0)) | ((with_reducible refine gate_dst (N := 10) rfl ?_); refine box_event ?hg (N := 10) ?hd (cs := #[.slice none 0 0]) (t := 31) ?hr ?_; (case hd => rfl); (case hg => rfl); (case hr => first | (go_simp; done) | (go_simp; rfl)); intro gb250 hg w19 hbox hb; have n0_ := Aside0.mk (Kd.R_below (Lam.rq HO237.out) hb); have n1_ := Aside0.mk (Kd.R_below (Lam.rq HO240.out) hb); have n2_ := Aside0.mk (Kd.R_below (Lam.rq HO245.out) hb); have n3_ := Aside0.mk (Kd.R_below (Lam.rq HO249.out) hb); have n4_ := Aside0.mk (blk_below (g := gb242) (o := .cells #[.slice Ao14 t238.length co14] 31 (0, 0)) (Lam.bq BK242.out) hb); have n5_ := Aside0.mk (below_step (Lam.al) hb); have n6_ := Aside0.mk (hbox); have n7_ := Aside0.mk ((by rw [hg]; exact (below_size (Lam.al)) : w.heap.size ≤ gb250)); have n8_ := Aside0.mk ((by rw [hg]; exact (below_size (Lam.al)) : w.heap.size ≤ gb250)); have n9_ := Aside0.mk ((by rw [hg]; exact Nat.ne_of_lt (blk_lt (g := gb242) (o := .cells #[.slice Ao14 t238.length co14] 31 (0, 0)) (Lam.bq BK242.out)) : gb242 ≠ gb250)); have n10_ := Aside0.mk ((by rw [hg]; exact Nat.ne_of_gt (blk_lt (g := gb242) (o := .cells #[.slice Ao14 t238.length co14] 31 (0, 0)) (Lam.bq BK242.out)) : gb250 ≠ gb242)); clear HO237; clear HO240; clear HO245; clear HO249; clear BK242; clear HB; have HO237 := n0_; have HO240 := n1_; have HO245 := n2_; have HO249 := n3_; have BK242 := n4_; have HB := n5_; have BK250 := n6_; have GW250 := n7_; have GE250 := n8_; have NB242_250 := n9_; have NB250_242 := n10_; clear n0_ n1_ n2_ n3_ n4_ n5_ n6_ n7_ n8_ n9_ n10_; clear hb hbox hg; obtain ⟨Ao20, co20, eo20⟩ := Kd.R_slice HO249.out; subst eo20; have hnb21 := NB250_242.out; have hnc21 := NB242_250.out; have hcz22_0 : w19.cell? ⟨gb250, 0, none⟩ = some (.slice none 0 0) := (blk_cell BK250.out 0).trans rfl; have hfz22_0 := blk_frozen BK250.out 0))
  (try simp only [Act.put, Lam.pa, Lam.pb, Lam.pc])
  go_cut [45] (fun v45 wc => ∃ (kq : Nat) (x45_8 : Bool), v45 = .bool x45_8 ∧ Aside0 (laws_FnExactMakePuzzle.j0 kq l0 a1 a2 t241 t243 t247 x45_8 t238 t246 = some r) ∧ Aside0 (kq ≤ k) ∧ Aside0 (Kd.R (Kd.int .i64) 3 wc w.heap.size (fun _ => True) (.slice Ao17 t243.length co17) t243) ∧ Aside0 (Kd.R k69 69 wc w.heap.size (fun k_ => some k_ ≠ ((.slice Ao20 t246.length co20) : Value).ownBlock) (.slice Ao14 t238.length co14) t238) ∧ Aside0 (Kd.R k69 69 wc w.heap.size (fun k_ => some k_ ≠ ((.slice Ao14 t238.length co14) : Value).ownBlock) (.slice Ao20 t246.length co20) t246) ∧ Aside0 (wc.heap[gb242]? = some (.cells #[(.slice Ao14 t238.length co14)] 31 (0, 0))) ∧ Aside0 (wc.heap[gb250]? = some (.cells #[(.slice Ao20 t246.length co20)] 31 (0, 0))) ∧ Aside0 (Below w.heap.size w wc))
  case first =>
   have H := HC9.out
   clear HC9
   replace H := Option.bind_eq_some_iff.mp H
   obtain ⟨t251, A230, H⟩ := H
   replace H : (if t251 = true then (laws_FnExactMakePuzzle.j0 k l0 a1 a2 t241 t243 t247 (t247 != t241) t238 t246) else (laws_FnExactMakePuzzle.j0 k l0 a1 a2 t241 t243 t247 true t238 t246)) = some r := H
   have A23 := Aside0.mk A230
   clear A230
   by_cases c24 : t251 = true
   ·subst c24
    have H1 : (laws_FnExactMakePuzzle.j0 k l0 a1 a2 t241 t243 t247 (t247 != t241) t238 t246) = some r := by rw [if_pos rfl] at H; exact H
    clear H
    have H := H1
    clear H1
    have H' := Aside0.mk H
    clear H
    have hnb25 := NB250_242.out
    have hnc25 := NB242_250.out
    have hcz26_0 : w19.cell? ⟨gb250, 0, none⟩ = some (.slice none 0 0) := (blk_cell BK250.out 0).trans rfl
    have hfz26_0 := blk_frozen BK250.out 0
    have hcz27_0 : w19.cell? ⟨gb242, 0, none⟩ = some (.slice Ao14 t238.length co14) := (blk_cell BK242.out 0).trans rfl
    have hfz27_0 := blk_frozen BK242.out 0
    go_wp2_with (first | ((with_reducible refine gate_callee (f := 13) rfl ?_); refine goesL_ (some 39) rfl rfl Tryd.func13 (by kernel_rfl) rfl #[.agg #[.slice Ao20 t246.length co20], .agg #[.slice Ao14 t238.length co14]] rfl (by (try simp only [List.map_toArray, List.map_cons, List.map_nil]); first | done | rfl | (simp only [List.length_drop, List.length_take]; rfl)) ?_; (with_reducible refine (laws_eqPuzzle.calls k _ _ t246 _ _ t238 true _ ?side1 ?side2 ?side3 ?side4 A23.out).mono ?_); (case side1 => refine (Kd.R_reads' (e := 69) (base := w.heap.size) (ok := fun k_ => (True ∧ some k_ ≠ (.slice Ao14 t238.length co14 : Value).ownBlock)) (n := t246.length) (c := co20) ?_).2.2; exact (by (with_reducible repeat (first | apply Kd.R_alloc | apply Kd.R_drewN | apply Kd.R_drew)); exact (Kd.R_mono (Kd.R_far (p := ⟨gb250, 0, none⟩) (Kd.R_types HO249.out BK250.out (by decide)) (fun _ hk => hk.2) (.slice Ao20 t246.length co20)) (fun _ h_ => h_.1)))); (case side2 => exact (Kd.R_reads' HO249.out).2.1); (case side3 => refine (Kd.R_reads' (e := 69) (base := w.heap.size) (ok := fun k_ => (True ∧ some k_ ≠ (.slice Ao20 t246.length co20 : Value).ownBlock)) (n := t238.length) (c := co14) ?_).2.2; exact (by (with_reducible repeat (first | apply Kd.R_alloc | apply Kd.R_drewN | apply Kd.R_drew)); exact (Kd.R_mono (Kd.R_far (p := ⟨gb250, 0, none⟩) (Kd.R_types HO240.out BK250.out (by decide)) (fun _ hk => hk.2) (.slice Ao20 t246.length co20)) (fun _ h_ => h_.1)))); (case side4 => exact (Kd.R_reads' HO240.out).2.1); rintro e w28 ⟨rfl, hb⟩; refine ⟨_, rfl, ?_⟩; have n0_ := Aside0.mk (Kd.R_below (by (with_reducible repeat (first | apply Kd.R_alloc | apply Kd.R_drewN | apply Kd.R_drew)); exact (Kd.R_mono (Kd.R_far (p := ⟨gb250, 0, none⟩) (Kd.R_types HO237.out BK250.out (by decide)) (fun _ hk => hk.2) (.slice Ao20 t246.length co20)) (fun _ h_ => h_.1))) hb); have n1_ := Aside0.mk (Kd.R_below (by (with_reducible repeat (first | apply Kd.R_alloc | apply Kd.R_drewN | apply Kd.R_drew)); exact (Kd.R_mono (Kd.R_far (p := ⟨gb250, 0, none⟩) (Kd.R_types HO240.out BK250.out (by decide)) (fun _ hk => hk.2) (.slice Ao20 t246.length co20)) (fun _ h_ => h_.1))) hb); have n2_ := Aside0.mk (Kd.R_below (by (with_reducible repeat (first | apply Kd.R_alloc | apply Kd.R_drewN | apply Kd.R_drew)); exact (Kd.R_mono (Kd.R_far (p := ⟨gb250, 0, none⟩) (Kd.R_types HO245.out BK250.out (by decide)) (fun _ hk => hk.2) (.slice Ao20 t246.length co20)) (fun _ h_ => h_.1))) hb); have n3_ := Aside0.mk (Kd.R_below (by (with_reducible repeat (first | apply Kd.R_alloc | apply Kd.R_drewN | apply Kd.R_drew)); exact (Kd.R_mono (Kd.R_far (p := ⟨gb250, 0, none⟩) (Kd.R_types HO249.out BK250.out (by decide)) (fun _ hk => hk.2) (.slice Ao20 t246.length co20)) (fun _ h_ => h_.1))) hb); have n4_ := Aside0.mk (blk_below (g := gb242) (o := .cells #[.slice Ao14 t238.length co14] 31 (0, 0)) (by (with_reducible repeat (first | refine blk_drewN ?_ _ | refine blk_drew ?_ | refine blk_alloc ?_ _)); refine blk_far ?_ NB242_250.out _; (with_reducible repeat (first | refine blk_drewN ?_ _ | refine blk_drew ?_ | refine blk_alloc ?_ _)); exact BK242.out) hb); have n5_ := Aside0.mk (blk_below (g := gb250) (o := .cells #[.slice Ao20 t246.length co20] 31 (0, 0)) (by (with_reducible repeat (first | refine blk_drewN ?_ _ | refine blk_drew ?_ | refine blk_alloc ?_ _)); refine blk_put (cs := #[.slice none 0 0]) ?_ 0 _ rfl; (with_reducible repeat (first | refine blk_drewN ?_ _ | refine blk_drew ?_ | refine blk_alloc ?_ _)); exact BK250.out) hb); have n6_ := Aside0.mk (below_step (Lam.al) hb); clear HO237; clear HO240; clear HO245; clear HO249; clear BK242; clear BK250; clear HB; have HO237 := n0_; have HO240 := n1_; have HO245 := n2_; have HO249 := n3_; have BK242 := n4_; have BK250 := n5_; have HB := n6_; clear n0_ n1_ n2_ n3_ n4_ n5_ n6_; (try clear hb); (try clear hb2); (try clear hk); (try clear hi)))
    go_meet
    case rel => exact ⟨_, ((t247 != t241)), (by first | rfl | (simp; done) | (simp [*]; done)), H', ⟨by first | omega | exact Nat.le_refl _⟩, ⟨by (with_reducible repeat (first | apply Kd.R_alloc | apply Kd.R_drewN | apply Kd.R_drew)); exact Kd.R_mono HO245.out (fun _ hk => trivial)⟩, ⟨by (with_reducible repeat (first | apply Kd.R_alloc | apply Kd.R_drewN | apply Kd.R_drew)); exact Kd.R_mono HO240.out (fun _ hk => hk.2)⟩, ⟨by (with_reducible repeat (first | apply Kd.R_alloc | apply Kd.R_drewN | apply Kd.R_drew)); exact Kd.R_mono HO249.out (fun _ hk => hk.2)⟩, ⟨Lam.bq BK242.out⟩, ⟨Lam.bq BK250.out⟩, ⟨Lam.al⟩⟩
   ·replace c24 := Bool.eq_false_iff.mpr c24
    subst c24
    have H1 : (laws_FnExactMakePuzzle.j0 k l0 a1 a2 t241 t243 t247 true t238 t246) = some r := by rw [if_neg (show ¬ (false = true) by decide)] at H; exact H
    clear H
    have H := H1
    clear H1
    have H' := Aside0.mk H
    clear H
    have hnb29 := NB250_242.out
    have hnc29 := NB242_250.out
    have hcz30_0 : w19.cell? ⟨gb250, 0, none⟩ = some (.slice none 0 0) := (blk_cell BK250.out 0).trans rfl
    have hfz30_0 := blk_frozen BK250.out 0
    have hcz31_0 : w19.cell? ⟨gb242, 0, none⟩ = some (.slice Ao14 t238.length co14) := (blk_cell BK242.out 0).trans rfl
    have hfz31_0 := blk_frozen BK242.out 0
    go_wp2_with (first | ((with_reducible refine gate_callee (f := 13) rfl ?_); refine goesL_ (some 39) rfl rfl Tryd.func13 (by kernel_rfl) rfl #[.agg #[.slice Ao20 t246.length co20], .agg #[.slice Ao14 t238.length co14]] rfl (by (try simp only [List.map_toArray, List.map_cons, List.map_nil]); first | done | rfl | (simp only [List.length_drop, List.length_take]; rfl)) ?_; (with_reducible refine (laws_eqPuzzle.calls k _ _ t246 _ _ t238 false _ ?side1 ?side2 ?side3 ?side4 A23.out).mono ?_); (case side1 => refine (Kd.R_reads' (e := 69) (base := w.heap.size) (ok := fun k_ => (True ∧ some k_ ≠ (.slice Ao14 t238.length co14 : Value).ownBlock)) (n := t246.length) (c := co20) ?_).2.2; exact (by (with_reducible repeat (first | apply Kd.R_alloc | apply Kd.R_drewN | apply Kd.R_drew)); exact (Kd.R_mono (Kd.R_far (p := ⟨gb250, 0, none⟩) (Kd.R_types HO249.out BK250.out (by decide)) (fun _ hk => hk.2) (.slice Ao20 t246.length co20)) (fun _ h_ => h_.1)))); (case side2 => exact (Kd.R_reads' HO249.out).2.1); (case side3 => refine (Kd.R_reads' (e := 69) (base := w.heap.size) (ok := fun k_ => (True ∧ some k_ ≠ (.slice Ao20 t246.length co20 : Value).ownBlock)) (n := t238.length) (c := co14) ?_).2.2; exact (by (with_reducible repeat (first | apply Kd.R_alloc | apply Kd.R_drewN | apply Kd.R_drew)); exact (Kd.R_mono (Kd.R_far (p := ⟨gb250, 0, none⟩) (Kd.R_types HO240.out BK250.out (by decide)) (fun _ hk => hk.2) (.slice Ao20 t246.length co20)) (fun _ h_ => h_.1)))); (case side4 => exact (Kd.R_reads' HO240.out).2.1); rintro e w32 ⟨rfl, hb⟩; refine ⟨_, rfl, ?_⟩; have n0_ := Aside0.mk (Kd.R_below (by (with_reducible repeat (first | apply Kd.R_alloc | apply Kd.R_drewN | apply Kd.R_drew)); exact (Kd.R_mono (Kd.R_far (p := ⟨gb250, 0, none⟩) (Kd.R_types HO237.out BK250.out (by decide)) (fun _ hk => hk.2) (.slice Ao20 t246.length co20)) (fun _ h_ => h_.1))) hb); have n1_ := Aside0.mk (Kd.R_below (by (with_reducible repeat (first | apply Kd.R_alloc | apply Kd.R_drewN | apply Kd.R_drew)); exact (Kd.R_mono (Kd.R_far (p := ⟨gb250, 0, none⟩) (Kd.R_types HO240.out BK250.out (by decide)) (fun _ hk => hk.2) (.slice Ao20 t246.length co20)) (fun _ h_ => h_.1))) hb); have n2_ := Aside0.mk (Kd.R_below (by (with_reducible repeat (first | apply Kd.R_alloc | apply Kd.R_drewN | apply Kd.R_drew)); exact (Kd.R_mono (Kd.R_far (p := ⟨gb250, 0, none⟩) (Kd.R_types HO245.out BK250.out (by decide)) (fun _ hk => hk.2) (.slice Ao20 t246.length co20)) (fun _ h_ => h_.1))) hb); have n3_ := Aside0.mk (Kd.R_below (by (with_reducible repeat (first | apply Kd.R_alloc | apply Kd.R_drewN | apply Kd.R_drew)); exact (Kd.R_mono (Kd.R_far (p := ⟨gb250, 0, none⟩) (Kd.R_types HO249.out BK250.out (by decide)) (fun _ hk => hk.2) (.slice Ao20 t246.length co20)) (fun _ h_ => h_.1))) hb); have n4_ := Aside0.mk (blk_below (g := gb242) (o := .cells #[.slice Ao14 t238.length co14] 31 (0, 0)) (by (with_reducible repeat (first | refine blk_drewN ?_ _ | refine blk_drew ?_ | refine blk_alloc ?_ _)); refine blk_far ?_ NB242_250.out _; (with_reducible repeat (first | refine blk_drewN ?_ _ | refine blk_drew ?_ | refine blk_alloc ?_ _)); exact BK242.out) hb); have n5_ := Aside0.mk (blk_below (g := gb250) (o := .cells #[.slice Ao20 t246.length co20] 31 (0, 0)) (by (with_reducible repeat (first | refine blk_drewN ?_ _ | refine blk_drew ?_ | refine blk_alloc ?_ _)); refine blk_put (cs := #[.slice none 0 0]) ?_ 0 _ rfl; (with_reducible repeat (first | refine blk_drewN ?_ _ | refine blk_drew ?_ | refine blk_alloc ?_ _)); exact BK250.out) hb); have n6_ := Aside0.mk (below_step (Lam.al) hb); clear HO237; clear HO240; clear HO245; clear HO249; clear BK242; clear BK250; clear HB; have HO237 := n0_; have HO240 := n1_; have HO245 := n2_; have HO249 := n3_; have BK242 := n4_; have BK250 := n5_; have HB := n6_; clear n0_ n1_ n2_ n3_ n4_ n5_ n6_; (try clear hb); (try clear hb2); (try clear hk); (try clear hi)))
    go_meet
    case rel => exact ⟨_, (true), (by first | rfl | (simp; done) | (simp [*]; done)), H', ⟨by first | omega | exact Nat.le_refl _⟩, ⟨by (with_reducible repeat (first | apply Kd.R_alloc | apply Kd.R_drewN | apply Kd.R_drew)); exact Kd.R_mono HO245.out (fun _ hk => trivial)⟩, ⟨by (with_reducible repeat (first | apply Kd.R_alloc | apply Kd.R_drewN | apply Kd.R_drew)); exact Kd.R_mono HO240.out (fun _ hk => hk.2)⟩, ⟨by (with_reducible repeat (first | apply Kd.R_alloc | apply Kd.R_drewN | apply Kd.R_drew)); exact Kd.R_mono HO249.out (fun _ hk => hk.2)⟩, ⟨Lam.bq BK242.out⟩, ⟨Lam.bq BK250.out⟩, ⟨Lam.al⟩⟩
  case rest =>
   clear HC9
   try clear c1
   try clear c2
   try clear p2
   try clear c4
   try clear c4b0
   try clear c4b1
   try clear c13
   try clear c17
   try clear c18
   try clear c19
   try clear c21
   try clear c24
   try clear c25
   try clear c29
   try clear hcz15_0
   try clear hcz22_0
   try clear hcz26_0
   try clear hcz27_0
   try clear hcz30_0
   try clear hcz31_0
   try clear hfz15_0
   try clear hfz22_0
   try clear hfz26_0
   try clear hfz27_0
   try clear hfz30_0
   try clear hfz31_0
   obtain ⟨kq, x45_8, rfl, HA, HJ8, HO_9, HO_243000, HO_251000, BK242, BK250, HB⟩ := hcut
   cases kq with
   | zero => exact absurd HA.out (by simp [laws_FnExactMakePuzzle.j0])
   | succ kj8 =>
    have H := HA.out
    clear HA
    simp only [laws_FnExactMakePuzzle.j0] at H
    by_cases c33 : x45_8 = true
    ·subst c33
     have H1 : (none) = some r := by rw [if_pos rfl] at H; exact H
     clear H
     have H := H1
     clear H1
     exact absurd H (by simp)
    ·replace c33 := Bool.eq_false_iff.mpr c33
     subst c33
     have H1 : ((laws_toIntS.f kj8 l0).bind fun t252 => ((laws_eqIntS.f kj8 t243 t252).bind fun t255 => (if t255 = true then ((laws_markIntS.f kj8 t243 1).bind fun bt256 => (if bt256.1 < 0 then (laws_FnExactMakePuzzle.j1 kj8 l0 a1 a2 t241 true t238 t246) else ((laws_eqPuzzle.f kj8 t246 t238).bind fun t258 => (if t258 = true then (laws_FnExactMakePuzzle.j1 kj8 l0 a1 a2 t241 (t247 != t241) t238 t246) else (laws_FnExactMakePuzzle.j1 kj8 l0 a1 a2 t241 true t238 t246))))) else (none)))) = some r := by rw [if_neg (show ¬ (false = true) by decide)] at H; exact H
     clear H
     have H := H1
     clear H1
     replace H := Option.bind_eq_some_iff.mp H
     obtain ⟨t252, A340, H⟩ := H
     replace H : ((laws_eqIntS.f kj8 t243 t252).bind fun t255 => (if t255 = true then ((laws_markIntS.f kj8 t243 1).bind fun bt256 => (if bt256.1 < 0 then (laws_FnExactMakePuzzle.j1 kj8 l0 a1 a2 t241 true t238 t246) else ((laws_eqPuzzle.f kj8 t246 t238).bind fun t258 => (if t258 = true then (laws_FnExactMakePuzzle.j1 kj8 l0 a1 a2 t241 (t247 != t241) t238 t246) else (laws_FnExactMakePuzzle.j1 kj8 l0 a1 a2 t241 true t238 t246))))) else (none))) = some r := H
     have A34 := Aside0.mk A340
     clear A340
     replace H := Option.bind_eq_some_iff.mp H
     obtain ⟨t255, A350, H⟩ := H
     replace H : (if t255 = true then ((laws_markIntS.f kj8 t243 1).bind fun bt256 => (if bt256.1 < 0 then (laws_FnExactMakePuzzle.j1 kj8 l0 a1 a2 t241 true t238 t246) else ((laws_eqPuzzle.f kj8 t246 t238).bind fun t258 => (if t258 = true then (laws_FnExactMakePuzzle.j1 kj8 l0 a1 a2 t241 (t247 != t241) t238 t246) else (laws_FnExactMakePuzzle.j1 kj8 l0 a1 a2 t241 true t238 t246))))) else (none)) = some r := H
     have A35 := Aside0.mk A350
     clear A350
     by_cases c36 : t255 = true
     ·subst c36
      have H1 : ((laws_markIntS.f kj8 t243 1).bind fun bt256 => (if bt256.1 < 0 then (laws_FnExactMakePuzzle.j1 kj8 l0 a1 a2 t241 true t238 t246) else ((laws_eqPuzzle.f kj8 t246 t238).bind fun t258 => (if t258 = true then (laws_FnExactMakePuzzle.j1 kj8 l0 a1 a2 t241 (t247 != t241) t238 t246) else (laws_FnExactMakePuzzle.j1 kj8 l0 a1 a2 t241 true t238 t246))))) = some r := by rw [if_pos rfl] at H; exact H
      clear H
      have H := H1
      clear H1
      replace H := Option.bind_eq_some_iff.mp H
      obtain ⟨⟨t256, t257⟩, A370, H⟩ := H
      replace H : (if t256 < 0 then (laws_FnExactMakePuzzle.j1 kj8 l0 a1 a2 t241 true t238 t246) else ((laws_eqPuzzle.f kj8 t246 t238).bind fun t258 => (if t258 = true then (laws_FnExactMakePuzzle.j1 kj8 l0 a1 a2 t241 (t247 != t241) t238 t246) else (laws_FnExactMakePuzzle.j1 kj8 l0 a1 a2 t241 true t238 t246)))) = some r := H
      have A37 := Aside0.mk A370
      clear A370
      have HC38 := Aside0.mk H
      clear H
      go_upto_region 12 with (first | ((with_reducible refine gate_callee (f := 18) rfl ?_); refine goesL_ (some 48) rfl rfl Tryd.func18 (by kernel_rfl) rfl #[.slice A0 l0.length c0] rfl (by (try simp only [List.map_toArray, List.map_cons, List.map_nil]); first | done | rfl | (simp only [List.length_drop, List.length_take]; rfl)) ?_; (with_reducible refine (laws_toIntS.calls kj8 _ _ l0 t252 _ ?side1 ?side2 A34.out).mono ?_); (case side1 => repeat (first | exact (Kd.C_below HR0.out HB.out) | (with_reducible refine Kd.C_alloc ?_ _) | (with_reducible refine Kd.C_drewN ?_ _) | (with_reducible refine Kd.C_drew ?_))); (case side2 => exact HC0.out); rintro e w39 ⟨v253, rfl, ho0, hb⟩; refine ⟨_, rfl, ?_⟩; have n0_ := Aside0.mk (Kd.R_elder' (Lam.rq HO_9.out) (Kd.R_base ho0) hb); have n1_ := Aside0.mk (Kd.R_below (Lam.rq HO_243000.out) hb); have n2_ := Aside0.mk (Kd.R_below (Lam.rq HO_251000.out) hb); have n3_ := Aside0.mk (Kd.R_lower (Kd.R_new' ho0 (Kd.R_lt (Lam.rq HO_9.out))) (below_size (Lam.al))); have n4_ := Aside0.mk (blk_below (g := gb242) (o := .cells #[.slice Ao14 t238.length co14] 31 (0, 0)) (Lam.bq BK242.out) hb); have n5_ := Aside0.mk (blk_below (g := gb250) (o := .cells #[.slice Ao20 t246.length co20] 31 (0, 0)) (Lam.bq BK250.out) hb); have n6_ := Aside0.mk (below_step (Lam.al) hb); clear HO_9; clear HO_243000; clear HO_251000; clear BK242; clear BK250; clear HB; have HO_9 := n0_; have HO_243000 := n1_; have HO_251000 := n2_; have HO254 := n3_; have BK242 := n4_; have BK250 := n5_; have HB := n6_; clear n0_ n1_ n2_ n3_ n4_ n5_ n6_; (try clear hb); (try clear hb2); (try clear hk); (try clear hi); (try clear ho0); obtain ⟨Ao40, co40, eo40⟩ := Kd.R_slice HO254.out; subst eo40) | ((with_reducible refine gate_callee (f := 20) rfl ?_); refine goesL_ (some 49) rfl rfl Tryd.func20 (by kernel_rfl) rfl #[.slice Ao17 t243.length co17, .slice Ao40 t252.length co40] rfl (by (try simp only [List.map_toArray, List.map_cons, List.map_nil]); first | done | rfl | (simp only [List.length_drop, List.length_take]; rfl)) ?_; (with_reducible refine (laws_eqIntS.calls kj8 _ _ t243 _ _ t252 true _ ?side1 ?side2 ?side3 ?side4 A35.out).mono ?_); (case side1 => repeat (first | exact (Kd.R_reads' HO_9.out).2.2 | (with_reducible refine Kd.C_alloc ?_ _) | (with_reducible refine Kd.C_drewN ?_ _) | (with_reducible refine Kd.C_drew ?_))); (case side2 => exact (Kd.R_reads' HO_9.out).2.1); (case side3 => repeat (first | exact (Kd.R_reads' HO254.out).2.2 | (with_reducible refine Kd.C_alloc ?_ _) | (with_reducible refine Kd.C_drewN ?_ _) | (with_reducible refine Kd.C_drew ?_))); (case side4 => exact (Kd.R_reads' HO254.out).2.1); rintro e w' ⟨rfl, ⟨nd, rfl⟩⟩; refine ⟨_, rfl, ?_⟩) | ((with_reducible refine gate_callee (f := 21) rfl ?_); refine goesL_ (some 53) rfl rfl Tryd.func21 (by kernel_rfl) rfl #[.slice Ao17 t243.length co17, .int .i64 1] rfl (by (try simp only [List.map_toArray, List.map_cons, List.map_nil]); first | done | rfl | (simp only [List.length_drop, List.length_take]; rfl)) ?_; (with_reducible refine (laws_markIntS.calls kj8 (fun k_ => some k_ = (.slice Ao17 t243.length co17 : Value).ownBlock) (.slice Ao17 t243.length co17) t243 1 t256 t257 w _ ?side1 ?side2 A37.out).mono ?_); (case side1 => repeat (first | (with_reducible first | exact HB.out | apply below_alloc | apply pw_below_drewN | apply below_drew1 | refine below_set ?_ GE242.out | refine below_set ?_ GE250.out) | exact HB.out)); (case side2 => exact Kd.R_tight rfl HO_9.out); rintro e w41 ⟨rfl, hy0, hb, hkp⟩; refine ⟨_, rfl, ?_⟩; have n0_ := Aside0.mk (Kd.R_reok rfl hy0 (fun k_ e_ => HO_9.out.1 k_ e_)); have n1_ := Aside0.mk (Kd.R_mono (ok' := fun k_ => some k_ ≠ (.slice Ao20 t246.length co20 : Value).ownBlock) (Kd.R_keptB ((Kd.R_apart' HO_243000.out (Kd.R_typed HO_9.out) (by decide))) hkp (fun k_ hk_ hs_ => (hk_.2) hs_)) (fun k_ hk_ => hk_.1.1)); have n2_ := Aside0.mk (Kd.R_mono (ok' := fun k_ => some k_ ≠ (.slice Ao14 t238.length co14 : Value).ownBlock) (Kd.R_keptB ((Kd.R_apart' HO_251000.out (Kd.R_typed HO_9.out) (by decide))) hkp (fun k_ hk_ hs_ => (hk_.2) hs_)) (fun k_ hk_ => hk_.1.1)); have n3_ := Aside0.mk (blk_kept (Lam.bq BK242.out) hkp (fun hs_ => (fun e_ => (Kd.R_ne HO_9.out BK242.out (by decide)) e_) hs_)); have n4_ := Aside0.mk (blk_kept (Lam.bq BK250.out) hkp (fun hs_ => (fun e_ => (Kd.R_ne HO_9.out BK250.out (by decide)) e_) hs_)); have n5_ := Aside0.mk (Kd.R_mono (ok' := fun k_ => some k_ ≠ (.slice Ao17 t243.length co17 : Value).ownBlock) (Kd.R_keptB (HO254.out) hkp (fun k_ hk_ hs_ => (hk_.2) hs_)) (fun k_ hk_ => hk_.1.2)); have n6_ := Aside0.mk (hb); clear HO_9; clear HO_243000; clear HO_251000; clear BK242; clear BK250; clear HO254; clear HB; have HO_9 := n0_; have HO_243000 := n1_; have HO_251000 := n2_; have BK242 := n3_; have BK250 := n4_; have HO254 := n5_; have HB := n6_; clear n0_ n1_ n2_ n3_ n4_ n5_ n6_; (try clear hb); (try clear hkp); (try clear hy0)))
      (try simp only [Act.put, Lam.pa, Lam.pb, Lam.pc])
      go_cut [66] (fun v66 wc => ∃ (kq : Nat) (x66_37 : Bool), v66 = .bool x66_37 ∧ Aside0 (laws_FnExactMakePuzzle.j1 kq l0 a1 a2 t241 x66_37 t238 t246 = some r) ∧ Aside0 (kq ≤ kj8) ∧ Aside0 (Kd.R k69 69 wc w.heap.size (fun k_ => some k_ ≠ ((.slice Ao20 t246.length co20) : Value).ownBlock) (.slice Ao14 t238.length co14) t238) ∧ Aside0 (Kd.R k69 69 wc w.heap.size (fun k_ => some k_ ≠ ((.slice Ao14 t238.length co14) : Value).ownBlock) (.slice Ao20 t246.length co20) t246) ∧ Aside0 (wc.heap[gb242]? = some (.cells #[(.slice Ao14 t238.length co14)] 31 (0, 0))) ∧ Aside0 (wc.heap[gb250]? = some (.cells #[(.slice Ao20 t246.length co20)] 31 (0, 0))) ∧ Aside0 (Below w.heap.size w wc))
      case first =>
       have H := HC38.out
       clear HC38
       by_cases c42 : t256 < 0
       ·rw [if_pos c42] at H
        have c42b0 : decide (t256 < 0) = true := decide_eq_true c42
        clear c42
        (first | rw [c42b0] | (simp only [i64_w, i32_w]; rw [c42b0]) | skip)
        have H' := Aside0.mk H
        clear H
        go_wp2
        go_meet
        case rel => exact ⟨_, (true), (by first | rfl | (simp; done) | (simp [*]; done)), H', ⟨by have := HJ8.out; first | omega | exact Nat.le_refl _⟩, ⟨Lam.rq HO_243000.out⟩, ⟨Lam.rq HO_251000.out⟩, ⟨Lam.bq BK242.out⟩, ⟨Lam.bq BK250.out⟩, ⟨Lam.al⟩⟩
       ·rw [if_neg c42] at H
        have c42b0 : decide (t256 < 0) = false := decide_eq_false c42
        clear c42
        (first | rw [c42b0] | (simp only [i64_w, i32_w]; rw [c42b0]) | skip)
        replace H := Option.bind_eq_some_iff.mp H
        obtain ⟨t258, A430, H⟩ := H
        replace H : (if t258 = true then (laws_FnExactMakePuzzle.j1 kj8 l0 a1 a2 t241 (t247 != t241) t238 t246) else (laws_FnExactMakePuzzle.j1 kj8 l0 a1 a2 t241 true t238 t246)) = some r := H
        have A43 := Aside0.mk A430
        clear A430
        by_cases c44 : t258 = true
        ·subst c44
         have H1 : (laws_FnExactMakePuzzle.j1 kj8 l0 a1 a2 t241 (t247 != t241) t238 t246) = some r := by rw [if_pos rfl] at H; exact H
         clear H
         have H := H1
         clear H1
         have H' := Aside0.mk H
         clear H
         have hnb45 := NB250_242.out
         have hnc45 := NB242_250.out
         have hcz46_0 : w41.cell? ⟨gb250, 0, none⟩ = some (.slice Ao20 t246.length co20) := (blk_cell BK250.out 0).trans rfl
         have hfz46_0 := blk_frozen BK250.out 0
         have hcz47_0 : w41.cell? ⟨gb242, 0, none⟩ = some (.slice Ao14 t238.length co14) := (blk_cell BK242.out 0).trans rfl
         have hfz47_0 := blk_frozen BK242.out 0
         go_wp2_with (first | (go_at_call 13; (with_reducible refine (laws_eqPuzzle.calls kj8 _ _ t246 _ _ t238 true _ ?side1 ?side2 ?side3 ?side4 A43.out).mono ?_); (case side1 => repeat (first | exact (Kd.R_reads' HO_251000.out).2.2 | (with_reducible refine Kd.C_alloc ?_ _) | (with_reducible refine Kd.C_drewN ?_ _) | (with_reducible refine Kd.C_drew ?_))); (case side2 => exact (Kd.R_reads' HO_251000.out).2.1); (case side3 => repeat (first | exact (Kd.R_reads' HO_243000.out).2.2 | (with_reducible refine Kd.C_alloc ?_ _) | (with_reducible refine Kd.C_drewN ?_ _) | (with_reducible refine Kd.C_drew ?_))); (case side4 => exact (Kd.R_reads' HO_243000.out).2.1); rintro e w48 ⟨rfl, hb⟩; have n0_ := Aside0.mk (Kd.R_below (Lam.rq HO_9.out) hb); have n1_ := Aside0.mk (Kd.R_below (Lam.rq HO_243000.out) hb); have n2_ := Aside0.mk (Kd.R_below (Lam.rq HO_251000.out) hb); have n3_ := Aside0.mk (Kd.R_below (Lam.rq HO254.out) hb); have n4_ := Aside0.mk (blk_below (g := gb242) (o := .cells #[.slice Ao14 t238.length co14] 31 (0, 0)) (Lam.bq BK242.out) hb); have n5_ := Aside0.mk (blk_below (g := gb250) (o := .cells #[.slice Ao20 t246.length co20] 31 (0, 0)) (Lam.bq BK250.out) hb); have n6_ := Aside0.mk (below_step (Lam.al) hb); clear HO_9; clear HO_243000; clear HO_251000; clear HO254; clear BK242; clear BK250; clear HB; have HO_9 := n0_; have HO_243000 := n1_; have HO_251000 := n2_; have HO254 := n3_; have BK242 := n4_; have BK250 := n5_; have HB := n6_; clear n0_ n1_ n2_ n3_ n4_ n5_ n6_; (try clear hb); (try clear hb2); (try clear hk); (try clear hi)))
         go_meet
         case rel => exact ⟨_, ((t247 != t241)), (by first | rfl | (simp; done) | (simp [*]; done)), H', ⟨by have := HJ8.out; first | omega | exact Nat.le_refl _⟩, ⟨Lam.rq HO_243000.out⟩, ⟨Lam.rq HO_251000.out⟩, ⟨Lam.bq BK242.out⟩, ⟨Lam.bq BK250.out⟩, ⟨Lam.al⟩⟩
        ·replace c44 := Bool.eq_false_iff.mpr c44
         subst c44
         have H1 : (laws_FnExactMakePuzzle.j1 kj8 l0 a1 a2 t241 true t238 t246) = some r := by rw [if_neg (show ¬ (false = true) by decide)] at H; exact H
         clear H
         have H := H1
         clear H1
         have H' := Aside0.mk H
         clear H
         have hnb49 := NB250_242.out
         have hnc49 := NB242_250.out
         have hcz50_0 : w41.cell? ⟨gb250, 0, none⟩ = some (.slice Ao20 t246.length co20) := (blk_cell BK250.out 0).trans rfl
         have hfz50_0 := blk_frozen BK250.out 0
         have hcz51_0 : w41.cell? ⟨gb242, 0, none⟩ = some (.slice Ao14 t238.length co14) := (blk_cell BK242.out 0).trans rfl
         have hfz51_0 := blk_frozen BK242.out 0
         go_wp2_with (first | (go_at_call 13; (with_reducible refine (laws_eqPuzzle.calls kj8 _ _ t246 _ _ t238 false _ ?side1 ?side2 ?side3 ?side4 A43.out).mono ?_); (case side1 => repeat (first | exact (Kd.R_reads' HO_251000.out).2.2 | (with_reducible refine Kd.C_alloc ?_ _) | (with_reducible refine Kd.C_drewN ?_ _) | (with_reducible refine Kd.C_drew ?_))); (case side2 => exact (Kd.R_reads' HO_251000.out).2.1); (case side3 => repeat (first | exact (Kd.R_reads' HO_243000.out).2.2 | (with_reducible refine Kd.C_alloc ?_ _) | (with_reducible refine Kd.C_drewN ?_ _) | (with_reducible refine Kd.C_drew ?_))); (case side4 => exact (Kd.R_reads' HO_243000.out).2.1); rintro e w52 ⟨rfl, hb⟩; have n0_ := Aside0.mk (Kd.R_below (Lam.rq HO_9.out) hb); have n1_ := Aside0.mk (Kd.R_below (Lam.rq HO_243000.out) hb); have n2_ := Aside0.mk (Kd.R_below (Lam.rq HO_251000.out) hb); have n3_ := Aside0.mk (Kd.R_below (Lam.rq HO254.out) hb); have n4_ := Aside0.mk (blk_below (g := gb242) (o := .cells #[.slice Ao14 t238.length co14] 31 (0, 0)) (Lam.bq BK242.out) hb); have n5_ := Aside0.mk (blk_below (g := gb250) (o := .cells #[.slice Ao20 t246.length co20] 31 (0, 0)) (Lam.bq BK250.out) hb); have n6_ := Aside0.mk (below_step (Lam.al) hb); clear HO_9; clear HO_243000; clear HO_251000; clear HO254; clear BK242; clear BK250; clear HB; have HO_9 := n0_; have HO_243000 := n1_; have HO_251000 := n2_; have HO254 := n3_; have BK242 := n4_; have BK250 := n5_; have HB := n6_; clear n0_ n1_ n2_ n3_ n4_ n5_ n6_; (try clear hb); (try clear hb2); (try clear hk); (try clear hi)))
         go_meet
         case rel => exact ⟨_, (true), (by first | rfl | (simp; done) | (simp [*]; done)), H', ⟨by have := HJ8.out; first | omega | exact Nat.le_refl _⟩, ⟨Lam.rq HO_243000.out⟩, ⟨Lam.rq HO_251000.out⟩, ⟨Lam.bq BK242.out⟩, ⟨Lam.bq BK250.out⟩, ⟨Lam.al⟩⟩
      case rest =>
       clear HC38
       try clear c1
       try clear c2
       try clear p2
       try clear c3
       try clear c4
       try clear c4b0
       try clear c4b1
       try clear c13
       try clear c17
       try clear c18
       try clear c19
       try clear c20
       try clear c21
       try clear c24
       try clear c25
       try clear c29
       try clear c33
       try clear c36
       try clear c42
       try clear c42b0
       try clear c44
       try clear c45
       try clear c49
       try clear hcz15_0
       try clear hcz22_0
       try clear hcz26_0
       try clear hcz27_0
       try clear hcz30_0
       try clear hcz31_0
       try clear hcz46_0
       try clear hcz47_0
       try clear hcz50_0
       try clear hcz51_0
       try clear hfz15_0
       try clear hfz22_0
       try clear hfz26_0
       try clear hfz27_0
       try clear hfz30_0
       try clear hfz31_0
       try clear hfz46_0
       try clear hfz47_0
       try clear hfz50_0
       try clear hfz51_0
       try clear p2
       obtain ⟨kq, x66_37, rfl, HA, HJ37, HO_243000, HO_251000, BK242, BK250, HB⟩ := hcut
       cases kq with
       | zero => exact absurd HA.out (by simp [laws_FnExactMakePuzzle.j1])
       | succ kj37 =>
        have H := HA.out
        clear HA
        simp only [laws_FnExactMakePuzzle.j1] at H
        by_cases c53 : x66_37 = true
        ·subst c53
         have H1 : (none) = some r := by rw [if_pos rfl] at H; exact H
         clear H
         have H := H1
         clear H1
         exact absurd H (by simp)
        ·replace c53 := Bool.eq_false_iff.mpr c53
         subst c53
         have H1 : ((laws_markPuzzle.f kj37 t246 1).bind fun bt259 => ((laws_heldPuzzle.f kj37 bt259.2 1).bind fun t261 => (if t261 < 0 then (none) else (if t261 = bt259.1 then ((laws_toIntS.f kj37 l0).bind fun t262 => ((impl_MakePuzzle.f kj37 t262 a1 a2).bind fun bt265 => ((laws_eqPuzzle.f kj37 bt265.1 t238).bind fun t270 => (if t270 = true then (laws_FnExactMakePuzzle.j2 kj37 bt259.1 (bt265.2 != t241) bt259.2) else (laws_FnExactMakePuzzle.j2 kj37 bt259.1 true bt259.2))))) else (none))))) = some r := by rw [if_neg (show ¬ (false = true) by decide)] at H; exact H
         clear H
         have H := H1
         clear H1
         replace H := Option.bind_eq_some_iff.mp H
         obtain ⟨⟨t259, t260⟩, A540, H⟩ := H
         replace H : ((laws_heldPuzzle.f kj37 t260 1).bind fun t261 => (if t261 < 0 then (none) else (if t261 = t259 then ((laws_toIntS.f kj37 l0).bind fun t262 => ((impl_MakePuzzle.f kj37 t262 a1 a2).bind fun bt265 => ((laws_eqPuzzle.f kj37 bt265.1 t238).bind fun t270 => (if t270 = true then (laws_FnExactMakePuzzle.j2 kj37 t259 (bt265.2 != t241) t260) else (laws_FnExactMakePuzzle.j2 kj37 t259 true t260))))) else (none)))) = some r := H
         have A54 := Aside0.mk A540
         clear A540
         replace H := Option.bind_eq_some_iff.mp H
         obtain ⟨t261, A550, H⟩ := H
         replace H : (if t261 < 0 then (none) else (if t261 = t259 then ((laws_toIntS.f kj37 l0).bind fun t262 => ((impl_MakePuzzle.f kj37 t262 a1 a2).bind fun bt265 => ((laws_eqPuzzle.f kj37 bt265.1 t238).bind fun t270 => (if t270 = true then (laws_FnExactMakePuzzle.j2 kj37 t259 (bt265.2 != t241) t260) else (laws_FnExactMakePuzzle.j2 kj37 t259 true t260))))) else (none))) = some r := H
         have A55 := Aside0.mk A550
         clear A550
         by_cases c56 : t261 < 0
         ·rw [if_pos c56] at H
          exact absurd H (by simp)
         ·rw [if_neg c56] at H
          have c56b0 : decide (t261 < 0) = false := decide_eq_false c56
          clear c56
          by_cases c57 : t261 = t259
          ·rw [if_pos c57] at H
           have c57b0 : (t261 == t259) = true := beq_iff_eq.mpr c57
           have c57b1 : (t261 != t259) = false := bne_eq_false_iff_eq.mpr c57
           clear c57
           replace H := Option.bind_eq_some_iff.mp H
           obtain ⟨t262, A580, H⟩ := H
           replace H : ((impl_MakePuzzle.f kj37 t262 a1 a2).bind fun bt265 => ((laws_eqPuzzle.f kj37 bt265.1 t238).bind fun t270 => (if t270 = true then (laws_FnExactMakePuzzle.j2 kj37 t259 (bt265.2 != t241) t260) else (laws_FnExactMakePuzzle.j2 kj37 t259 true t260)))) = some r := H
           have A58 := Aside0.mk A580
           clear A580
           replace H := Option.bind_eq_some_iff.mp H
           obtain ⟨⟨t265, t266⟩, A590, H⟩ := H
           replace H : ((laws_eqPuzzle.f kj37 t265 t238).bind fun t270 => (if t270 = true then (laws_FnExactMakePuzzle.j2 kj37 t259 (t266 != t241) t260) else (laws_FnExactMakePuzzle.j2 kj37 t259 true t260))) = some r := H
           have A59 := Aside0.mk A590
           clear A590
           have HC60 := Aside0.mk H
           clear H
           have hnb61 := NB250_242.out
           have hnc61 := NB242_250.out
           have hcz62_0 : wc.cell? ⟨gb250, 0, none⟩ = some (.slice Ao20 t246.length co20) := (blk_cell BK250.out 0).trans rfl
           have hfz62_0 := blk_frozen BK250.out 0
           go_upto_region 23 with (first | ((with_reducible refine gate_callee (f := 14) rfl ?_); refine goesL_ (some 69) rfl rfl Tryd.func14 (by kernel_rfl) rfl #[.agg #[.slice Ao20 t246.length co20], .int .i64 1] rfl (by (try simp only [List.map_toArray, List.map_cons, List.map_nil]); first | done | rfl | (simp only [List.length_drop, List.length_take]; rfl)) ?_; (with_reducible refine (laws_markPuzzle.calls kj37 (fun k_ => some k_ = (.slice Ao20 t246.length co20 : Value).ownBlock) (.slice Ao20 t246.length co20) t246 1 t259 t260 w _ ?side1 ?side2 A54.out).mono ?_); (case side1 => repeat (first | (with_reducible first | exact HB.out | apply below_alloc | apply pw_below_drewN | apply below_drew1 | refine below_set ?_ GE242.out | refine below_set ?_ GE250.out) | exact HB.out)); (case side2 => exact Kd.R_tight rfl HO_251000.out); rintro e w63 ⟨rfl, hy0, hb, hkp⟩; refine ⟨_, rfl, ?_⟩; have n0_ := Aside0.mk (Kd.R_mono (ok' := fun k_ => some k_ ≠ (.slice Ao20 t246.length co20 : Value).ownBlock) (Kd.R_keptB (HO_243000.out) hkp (fun k_ hk_ hs_ => (hk_) hs_)) (fun k_ hk_ => hk_.1)); have n1_ := Aside0.mk (Kd.R_reok rfl hy0 (fun k_ e_ => HO_251000.out.1 k_ e_)); have n2_ := Aside0.mk (blk_kept (Lam.bq BK242.out) hkp (fun hs_ => (fun e_ => (Kd.R_ne HO_251000.out BK242.out (by decide)) e_) hs_)); have n3_ := Aside0.mk (blk_kept (Lam.bq BK250.out) hkp (fun hs_ => (fun e_ => (Kd.R_ne HO_251000.out BK250.out (by decide)) e_) hs_)); have n4_ := Aside0.mk (hb); clear HO_243000; clear HO_251000; clear BK242; clear BK250; clear HB; have HO_243000 := n0_; have HO_251000 := n1_; have BK242 := n2_; have BK250 := n3_; have HB := n4_; clear n0_ n1_ n2_ n3_ n4_; (try clear hb); (try clear hkp); (try clear hy0); have hcz64_0 : w63.cell? ⟨gb250, 0, none⟩ = some (.slice Ao20 t246.length co20) := (blk_cell BK250.out 0).trans rfl; have hfz64_0 := blk_frozen BK250.out 0) | ((with_reducible refine gate_callee (f := 22) rfl ?_); refine goesL_ (some 72) rfl rfl Tryd.func22 (by kernel_rfl) rfl #[.agg #[.slice Ao20 t260.length co20], .int .i64 1] rfl (by (try simp only [List.map_toArray, List.map_cons, List.map_nil]); first | done | (rw [show t260.length = t246.length from (Kd.R_reads' HO_251000.out).1.symm] <;> rfl) | rfl | (simp only [List.length_drop, List.length_take]; rfl)) ?_; (with_reducible refine (laws_heldPuzzle.calls kj37 _ _ t260 1 t261 _ ?side1 ?side2 A55.out).mono ?_); (case side1 => repeat (first | exact (Kd.R_reads' HO_251000.out).2.2 | (with_reducible refine Kd.C_alloc ?_ _) | (with_reducible refine Kd.C_drewN ?_ _) | (with_reducible refine Kd.C_drew ?_))); (case side2 => rw [show t260.length = t246.length from (Kd.R_reads' HO_251000.out).1.symm]; exact (Kd.R_reads' HO_251000.out).2.1); rintro e w65 ⟨rfl, hb⟩; refine ⟨_, rfl, ?_⟩; have n0_ := Aside0.mk (Kd.R_below (Lam.rq HO_243000.out) hb); have n1_ := Aside0.mk (Kd.R_below (Lam.rq HO_251000.out) hb); have n2_ := Aside0.mk (blk_below (g := gb242) (o := .cells #[.slice Ao14 t238.length co14] 31 (0, 0)) (Lam.bq BK242.out) hb); have n3_ := Aside0.mk (blk_below (g := gb250) (o := .cells #[.slice Ao20 t246.length co20] 31 (0, 0)) (Lam.bq BK250.out) hb); have n4_ := Aside0.mk (below_step (Lam.al) hb); clear HO_243000; clear HO_251000; clear BK242; clear BK250; clear HB; have HO_243000 := n0_; have HO_251000 := n1_; have BK242 := n2_; have BK250 := n3_; have HB := n4_; clear n0_ n1_ n2_ n3_ n4_; (try clear hb); (try clear hb2); (try clear hk); (try clear hi)) | ((with_reducible refine gate_callee (f := 18) rfl ?_); refine goesL_ (some 80) rfl rfl Tryd.func18 (by kernel_rfl) rfl #[.slice A0 l0.length c0] rfl (by (try simp only [List.map_toArray, List.map_cons, List.map_nil]); first | done | rfl | (simp only [List.length_drop, List.length_take]; rfl)) ?_; (with_reducible refine (laws_toIntS.calls kj37 _ _ l0 t262 _ ?side1 ?side2 A58.out).mono ?_); (case side1 => repeat (first | exact (Kd.C_below HR0.out HB.out) | (with_reducible refine Kd.C_alloc ?_ _) | (with_reducible refine Kd.C_drewN ?_ _) | (with_reducible refine Kd.C_drew ?_))); (case side2 => exact HC0.out); rintro e w66 ⟨v263, rfl, ho0, hb⟩; refine ⟨_, rfl, ?_⟩; have n0_ := Aside0.mk (Kd.R_below (Lam.rq HO_243000.out) hb); have n1_ := Aside0.mk (Kd.R_below (Lam.rq HO_251000.out) hb); have n2_ := Aside0.mk (Kd.R_lower ho0 (below_size (Lam.al))); have n3_ := Aside0.mk (blk_below (g := gb242) (o := .cells #[.slice Ao14 t238.length co14] 31 (0, 0)) (Lam.bq BK242.out) hb); have n4_ := Aside0.mk (blk_below (g := gb250) (o := .cells #[.slice Ao20 t246.length co20] 31 (0, 0)) (Lam.bq BK250.out) hb); have n5_ := Aside0.mk (below_step (Lam.al) hb); clear HO_243000; clear HO_251000; clear BK242; clear BK250; clear HB; have HO_243000 := n0_; have HO_251000 := n1_; have HO264 := n2_; have BK242 := n3_; have BK250 := n4_; have HB := n5_; clear n0_ n1_ n2_ n3_ n4_ n5_; (try clear hb); (try clear hb2); (try clear hk); (try clear hi); (try clear ho0); obtain ⟨Ao67, co67, eo67⟩ := Kd.R_slice HO264.out; subst eo67) | ((with_reducible refine gate_callee (f := 19) rfl ?_); refine goesL_ (some 83) rfl rfl Tryd.func19 (by kernel_rfl) rfl #[.slice Ao67 t262.length co67, .int .i64 a1, .int .i64 a2] rfl (by (try simp only [List.map_toArray, List.map_cons, List.map_nil]); first | done | rfl | (simp only [List.length_drop, List.length_take]; rfl)) ?_; (with_reducible refine (impl_MakePuzzle.calls kj37 _ _ t262 a1 a2 t265 t266 _ ?side1 ?side2 A59.out).mono ?_); (case side1 => repeat (first | exact (Kd.R_reads' HO264.out).2.2 | (with_reducible refine Kd.C_alloc ?_ _) | (with_reducible refine Kd.C_drewN ?_ _) | (with_reducible refine Kd.C_drew ?_))); (case side2 => exact (Kd.R_reads' HO264.out).2.1); rintro e w68 ⟨v267, rfl, ho0, hb⟩; refine ⟨_, rfl, ?_⟩; have n0_ := Aside0.mk (Kd.R_elder' (Lam.rq HO_243000.out) (Kd.R_base ho0) hb); have n1_ := Aside0.mk (Kd.R_elder' (Lam.rq HO_251000.out) (Kd.R_base ho0) hb); have n2_ := Aside0.mk (Kd.R_below (Lam.rq HO264.out) hb); have n3_ := Aside0.mk (Kd.R_lower (Kd.R_new' (Kd.R_new' ho0 (Kd.R_lt (Lam.rq HO_243000.out))) (Kd.R_lt (Lam.rq HO_251000.out))) (below_size (Lam.al))); have n4_ := Aside0.mk (blk_below (g := gb242) (o := .cells #[.slice Ao14 t238.length co14] 31 (0, 0)) (Lam.bq BK242.out) hb); have n5_ := Aside0.mk (blk_below (g := gb250) (o := .cells #[.slice Ao20 t246.length co20] 31 (0, 0)) (Lam.bq BK250.out) hb); have n6_ := Aside0.mk (below_step (Lam.al) hb); clear HO_243000; clear HO_251000; clear HO264; clear BK242; clear BK250; clear HB; have HO_243000 := n0_; have HO_251000 := n1_; have HO264 := n2_; have HO268 := n3_; have BK242 := n4_; have BK250 := n5_; have HB := n6_; clear n0_ n1_ n2_ n3_ n4_ n5_ n6_; (try clear hb); (try clear hb2); (try clear hk); (try clear hi); (try clear ho0)) | ((with_reducible refine gate_dst (N := 15) rfl ?_); refine box_event ?hg (N := 15) ?hd (cs := #[.slice none 0 0]) (t := 31) ?hr ?_; (case hd => rfl); (case hg => rfl); (case hr => first | (go_simp; done) | (go_simp; rfl)); intro gb269 hg w69 hbox hb; have n0_ := Aside0.mk (Kd.R_below (Lam.rq HO_243000.out) hb); have n1_ := Aside0.mk (Kd.R_below (Lam.rq HO_251000.out) hb); have n2_ := Aside0.mk (Kd.R_below (Lam.rq HO264.out) hb); have n3_ := Aside0.mk (Kd.R_below (Lam.rq HO268.out) hb); have n4_ := Aside0.mk (blk_below (g := gb242) (o := .cells #[.slice Ao14 t238.length co14] 31 (0, 0)) (Lam.bq BK242.out) hb); have n5_ := Aside0.mk (blk_below (g := gb250) (o := .cells #[.slice Ao20 t246.length co20] 31 (0, 0)) (Lam.bq BK250.out) hb); have n6_ := Aside0.mk (below_step (Lam.al) hb); have n7_ := Aside0.mk (hbox); have n8_ := Aside0.mk ((by rw [hg]; exact (below_size (Lam.al)) : w.heap.size ≤ gb269)); have n9_ := Aside0.mk ((by rw [hg]; exact (below_size (Lam.al)) : w.heap.size ≤ gb269)); have n10_ := Aside0.mk ((by rw [hg]; exact Nat.ne_of_lt (blk_lt (g := gb242) (o := .cells #[.slice Ao14 t238.length co14] 31 (0, 0)) (Lam.bq BK242.out)) : gb242 ≠ gb269)); have n11_ := Aside0.mk ((by rw [hg]; exact Nat.ne_of_gt (blk_lt (g := gb242) (o := .cells #[.slice Ao14 t238.length co14] 31 (0, 0)) (Lam.bq BK242.out)) : gb269 ≠ gb242)); have n12_ := Aside0.mk ((by rw [hg]; exact Nat.ne_of_lt (blk_lt (g := gb250) (o := .cells #[.slice Ao20 t246.length co20] 31 (0, 0)) (Lam.bq BK250.out)) : gb250 ≠ gb269)); have n13_ := Aside0.mk ((by rw [hg]; exact Nat.ne_of_gt (blk_lt (g := gb250) (o := .cells #[.slice Ao20 t246.length co20] 31 (0, 0)) (Lam.bq BK250.out)) : gb269 ≠ gb250)); clear HO_243000; clear HO_251000; clear HO264; clear HO268; clear BK242; clear BK250; clear HB; have HO_243000 := n0_; have HO_251000 := n1_; have HO264 := n2_; have HO268 := n3_; have BK242 := n4_; have BK250 := n5_; have HB := n6_; have BK269 := n7_; have GW269 := n8_; have GE269 := n9_; have NB242_269 := n10_; have NB269_242 := n11_; have NB250_269 := n12_; have NB269_250 := n13_; clear n0_ n1_ n2_ n3_ n4_ n5_ n6_ n7_ n8_ n9_ n10_ n11_ n12_ n13_; clear hb hbox hg; obtain ⟨Ao70, co70, eo70⟩ := Kd.R_slice HO268.out; subst eo70; have hnb71 := NB269_242.out; have hnc71 := NB242_269.out; have hnb72 := NB269_250.out; have hnc72 := NB250_269.out; have hcz73_0 : w69.cell? ⟨gb269, 0, none⟩ = some (.slice none 0 0) := (blk_cell BK269.out 0).trans rfl; have hfz73_0 := blk_frozen BK269.out 0))
           (try simp only [Act.put, Lam.pa, Lam.pb, Lam.pc])
           go_cut [94] (fun v94 wc => ∃ (kq : Nat) (x94_59 : Bool), v94 = .bool x94_59 ∧ Aside0 (laws_FnExactMakePuzzle.j2 kq t259 x94_59 t260 = some r) ∧ Aside0 (kq ≤ kj37) ∧ Aside0 (Kd.R k69 69 wc w.heap.size (fun k_ => some k_ ≠ ((.slice Ao20 t246.length co20) : Value).ownBlock ∧ some k_ ≠ ((.slice Ao70 t265.length co70) : Value).ownBlock) (.slice Ao14 t238.length co14) t238) ∧ Aside0 (Kd.R k69 69 wc w.heap.size (fun k_ => some k_ ≠ ((.slice Ao14 t238.length co14) : Value).ownBlock ∧ some k_ ≠ ((.slice Ao70 t265.length co70) : Value).ownBlock) (.slice Ao20 t246.length co20) t260) ∧ Aside0 (Kd.R k69 69 wc w.heap.size (fun k_ => some k_ ≠ ((.slice Ao14 t238.length co14) : Value).ownBlock ∧ some k_ ≠ ((.slice Ao20 t246.length co20) : Value).ownBlock) (.slice Ao70 t265.length co70) t265) ∧ Aside0 (wc.heap[gb242]? = some (.cells #[(.slice Ao14 t238.length co14)] 31 (0, 0))) ∧ Aside0 (wc.heap[gb250]? = some (.cells #[(.slice Ao20 t246.length co20)] 31 (0, 0))) ∧ Aside0 (wc.heap[gb269]? = some (.cells #[(.slice Ao70 t265.length co70)] 31 (0, 0))) ∧ Aside0 (Below w.heap.size w wc))
           case first =>
            have H := HC60.out
            clear HC60
            replace H := Option.bind_eq_some_iff.mp H
            obtain ⟨t270, A740, H⟩ := H
            replace H : (if t270 = true then (laws_FnExactMakePuzzle.j2 kj37 t259 (t266 != t241) t260) else (laws_FnExactMakePuzzle.j2 kj37 t259 true t260)) = some r := H
            have A74 := Aside0.mk A740
            clear A740
            by_cases c75 : t270 = true
            ·subst c75
             have H1 : (laws_FnExactMakePuzzle.j2 kj37 t259 (t266 != t241) t260) = some r := by rw [if_pos rfl] at H; exact H
             clear H
             have H := H1
             clear H1
             have H' := Aside0.mk H
             clear H
             have hnb76 := NB269_242.out
             have hnc76 := NB242_269.out
             have hnb77 := NB269_250.out
             have hnc77 := NB250_269.out
             have hcz78_0 : w69.cell? ⟨gb269, 0, none⟩ = some (.slice none 0 0) := (blk_cell BK269.out 0).trans rfl
             have hfz78_0 := blk_frozen BK269.out 0
             have hnb79 := NB242_250.out
             have hnc79 := NB250_242.out
             have hcz80_0 : w69.cell? ⟨gb242, 0, none⟩ = some (.slice Ao14 t238.length co14) := (blk_cell BK242.out 0).trans rfl
             have hfz80_0 := blk_frozen BK242.out 0
             go_wp2_with (first | ((with_reducible refine gate_callee (f := 13) rfl ?_); refine goesL_ (some 88) rfl rfl Tryd.func13 (by kernel_rfl) rfl #[.agg #[.slice Ao70 t265.length co70], .agg #[.slice Ao14 t238.length co14]] rfl (by (try simp only [List.map_toArray, List.map_cons, List.map_nil]); first | done | rfl | (simp only [List.length_drop, List.length_take]; rfl)) ?_; (with_reducible refine (laws_eqPuzzle.calls kj37 _ _ t265 _ _ t238 true _ ?side1 ?side2 ?side3 ?side4 A74.out).mono ?_); (case side1 => refine (Kd.R_reads' (e := 69) (base := w.heap.size) (ok := fun k_ => ((True ∧ some k_ ≠ (.slice Ao14 t238.length co14 : Value).ownBlock) ∧ some k_ ≠ (.slice Ao20 t246.length co20 : Value).ownBlock)) (n := t265.length) (c := co70) ?_).2.2; exact (by (with_reducible repeat (first | apply Kd.R_alloc | apply Kd.R_drewN | apply Kd.R_drew)); exact (Kd.R_mono (Kd.R_far (p := ⟨gb269, 0, none⟩) (Kd.R_types HO268.out BK269.out (by decide)) (fun _ hk => hk.2) (.slice Ao70 t265.length co70)) (fun _ h_ => h_.1)))); (case side2 => exact (Kd.R_reads' HO268.out).2.1); (case side3 => refine (Kd.R_reads' (e := 69) (base := w.heap.size) (ok := fun k_ => (some k_ ≠ (.slice Ao20 t246.length co20 : Value).ownBlock ∧ some k_ ≠ (.slice Ao70 t265.length co70 : Value).ownBlock)) (n := t238.length) (c := co14) ?_).2.2; exact (by (with_reducible repeat (first | apply Kd.R_alloc | apply Kd.R_drewN | apply Kd.R_drew)); exact (Kd.R_mono (Kd.R_far (p := ⟨gb269, 0, none⟩) (Kd.R_types HO_243000.out BK269.out (by decide)) (fun _ hk => hk.2) (.slice Ao70 t265.length co70)) (fun _ h_ => h_.1)))); (case side4 => exact (Kd.R_reads' HO_243000.out).2.1); rintro e w81 ⟨rfl, hb⟩; refine ⟨_, rfl, ?_⟩; have n0_ := Aside0.mk (Kd.R_below (by (with_reducible repeat (first | apply Kd.R_alloc | apply Kd.R_drewN | apply Kd.R_drew)); exact (Kd.R_mono (Kd.R_far (p := ⟨gb269, 0, none⟩) (Kd.R_types HO_243000.out BK269.out (by decide)) (fun _ hk => hk.2) (.slice Ao70 t265.length co70)) (fun _ h_ => h_.1))) hb); have n1_ := Aside0.mk (Kd.R_below (by (with_reducible repeat (first | apply Kd.R_alloc | apply Kd.R_drewN | apply Kd.R_drew)); exact (Kd.R_mono (Kd.R_far (p := ⟨gb269, 0, none⟩) (Kd.R_types HO_251000.out BK269.out (by decide)) (fun _ hk => hk.2) (.slice Ao70 t265.length co70)) (fun _ h_ => h_.1))) hb); have n2_ := Aside0.mk (Kd.R_below (by (with_reducible repeat (first | apply Kd.R_alloc | apply Kd.R_drewN | apply Kd.R_drew)); exact (Kd.R_mono (Kd.R_far (p := ⟨gb269, 0, none⟩) (Kd.R_types HO264.out BK269.out (by decide)) (fun _ hk => hk.2) (.slice Ao70 t265.length co70)) (fun _ h_ => h_.1))) hb); have n3_ := Aside0.mk (Kd.R_below (by (with_reducible repeat (first | apply Kd.R_alloc | apply Kd.R_drewN | apply Kd.R_drew)); exact (Kd.R_mono (Kd.R_far (p := ⟨gb269, 0, none⟩) (Kd.R_types HO268.out BK269.out (by decide)) (fun _ hk => hk.2) (.slice Ao70 t265.length co70)) (fun _ h_ => h_.1))) hb); have n4_ := Aside0.mk (blk_below (g := gb242) (o := .cells #[.slice Ao14 t238.length co14] 31 (0, 0)) (by (with_reducible repeat (first | refine blk_drewN ?_ _ | refine blk_drew ?_ | refine blk_alloc ?_ _)); refine blk_far ?_ NB242_269.out _; (with_reducible repeat (first | refine blk_drewN ?_ _ | refine blk_drew ?_ | refine blk_alloc ?_ _)); exact BK242.out) hb); have n5_ := Aside0.mk (blk_below (g := gb250) (o := .cells #[.slice Ao20 t246.length co20] 31 (0, 0)) (by (with_reducible repeat (first | refine blk_drewN ?_ _ | refine blk_drew ?_ | refine blk_alloc ?_ _)); refine blk_far ?_ NB250_269.out _; (with_reducible repeat (first | refine blk_drewN ?_ _ | refine blk_drew ?_ | refine blk_alloc ?_ _)); exact BK250.out) hb); have n6_ := Aside0.mk (blk_below (g := gb269) (o := .cells #[.slice Ao70 t265.length co70] 31 (0, 0)) (by (with_reducible repeat (first | refine blk_drewN ?_ _ | refine blk_drew ?_ | refine blk_alloc ?_ _)); refine blk_put (cs := #[.slice none 0 0]) ?_ 0 _ rfl; (with_reducible repeat (first | refine blk_drewN ?_ _ | refine blk_drew ?_ | refine blk_alloc ?_ _)); exact BK269.out) hb); have n7_ := Aside0.mk (below_step (Lam.al) hb); clear HO_243000; clear HO_251000; clear HO264; clear HO268; clear BK242; clear BK250; clear BK269; clear HB; have HO_243000 := n0_; have HO_251000 := n1_; have HO264 := n2_; have HO268 := n3_; have BK242 := n4_; have BK250 := n5_; have BK269 := n6_; have HB := n7_; clear n0_ n1_ n2_ n3_ n4_ n5_ n6_ n7_; (try clear hb); (try clear hb2); (try clear hk); (try clear hi)))
             go_meet
             case rel => exact ⟨_, ((t266 != t241)), (by first | rfl | (simp; done) | (simp [*]; done)), H', ⟨by have := HJ8.out; have := HJ37.out; first | omega | exact Nat.le_refl _⟩, ⟨Lam.rq HO_243000.out⟩, ⟨Lam.rq HO_251000.out⟩, ⟨by (with_reducible repeat (first | apply Kd.R_alloc | apply Kd.R_drewN | apply Kd.R_drew)); exact Kd.R_mono HO268.out (fun _ hk => ⟨hk.1.2, hk.2⟩)⟩, ⟨Lam.bq BK242.out⟩, ⟨Lam.bq BK250.out⟩, ⟨Lam.bq BK269.out⟩, ⟨Lam.al⟩⟩
            ·replace c75 := Bool.eq_false_iff.mpr c75
             subst c75
             have H1 : (laws_FnExactMakePuzzle.j2 kj37 t259 true t260) = some r := by rw [if_neg (show ¬ (false = true) by decide)] at H; exact H
             clear H
             have H := H1
             clear H1
             have H' := Aside0.mk H
             clear H
             have hnb82 := NB269_242.out
             have hnc82 := NB242_269.out
             have hnb83 := NB269_250.out
             have hnc83 := NB250_269.out
             have hcz84_0 : w69.cell? ⟨gb269, 0, none⟩ = some (.slice none 0 0) := (blk_cell BK269.out 0).trans rfl
             have hfz84_0 := blk_frozen BK269.out 0
             have hnb85 := NB242_250.out
             have hnc85 := NB250_242.out
             have hcz86_0 : w69.cell? ⟨gb242, 0, none⟩ = some (.slice Ao14 t238.length co14) := (blk_cell BK242.out 0).trans rfl
             have hfz86_0 := blk_frozen BK242.out 0
             go_wp2_with (first | ((with_reducible refine gate_callee (f := 13) rfl ?_); refine goesL_ (some 88) rfl rfl Tryd.func13 (by kernel_rfl) rfl #[.agg #[.slice Ao70 t265.length co70], .agg #[.slice Ao14 t238.length co14]] rfl (by (try simp only [List.map_toArray, List.map_cons, List.map_nil]); first | done | rfl | (simp only [List.length_drop, List.length_take]; rfl)) ?_; (with_reducible refine (laws_eqPuzzle.calls kj37 _ _ t265 _ _ t238 false _ ?side1 ?side2 ?side3 ?side4 A74.out).mono ?_); (case side1 => refine (Kd.R_reads' (e := 69) (base := w.heap.size) (ok := fun k_ => ((True ∧ some k_ ≠ (.slice Ao14 t238.length co14 : Value).ownBlock) ∧ some k_ ≠ (.slice Ao20 t246.length co20 : Value).ownBlock)) (n := t265.length) (c := co70) ?_).2.2; exact (by (with_reducible repeat (first | apply Kd.R_alloc | apply Kd.R_drewN | apply Kd.R_drew)); exact (Kd.R_mono (Kd.R_far (p := ⟨gb269, 0, none⟩) (Kd.R_types HO268.out BK269.out (by decide)) (fun _ hk => hk.2) (.slice Ao70 t265.length co70)) (fun _ h_ => h_.1)))); (case side2 => exact (Kd.R_reads' HO268.out).2.1); (case side3 => refine (Kd.R_reads' (e := 69) (base := w.heap.size) (ok := fun k_ => (some k_ ≠ (.slice Ao20 t246.length co20 : Value).ownBlock ∧ some k_ ≠ (.slice Ao70 t265.length co70 : Value).ownBlock)) (n := t238.length) (c := co14) ?_).2.2; exact (by (with_reducible repeat (first | apply Kd.R_alloc | apply Kd.R_drewN | apply Kd.R_drew)); exact (Kd.R_mono (Kd.R_far (p := ⟨gb269, 0, none⟩) (Kd.R_types HO_243000.out BK269.out (by decide)) (fun _ hk => hk.2) (.slice Ao70 t265.length co70)) (fun _ h_ => h_.1)))); (case side4 => exact (Kd.R_reads' HO_243000.out).2.1); rintro e w87 ⟨rfl, hb⟩; refine ⟨_, rfl, ?_⟩; have n0_ := Aside0.mk (Kd.R_below (by (with_reducible repeat (first | apply Kd.R_alloc | apply Kd.R_drewN | apply Kd.R_drew)); exact (Kd.R_mono (Kd.R_far (p := ⟨gb269, 0, none⟩) (Kd.R_types HO_243000.out BK269.out (by decide)) (fun _ hk => hk.2) (.slice Ao70 t265.length co70)) (fun _ h_ => h_.1))) hb); have n1_ := Aside0.mk (Kd.R_below (by (with_reducible repeat (first | apply Kd.R_alloc | apply Kd.R_drewN | apply Kd.R_drew)); exact (Kd.R_mono (Kd.R_far (p := ⟨gb269, 0, none⟩) (Kd.R_types HO_251000.out BK269.out (by decide)) (fun _ hk => hk.2) (.slice Ao70 t265.length co70)) (fun _ h_ => h_.1))) hb); have n2_ := Aside0.mk (Kd.R_below (by (with_reducible repeat (first | apply Kd.R_alloc | apply Kd.R_drewN | apply Kd.R_drew)); exact (Kd.R_mono (Kd.R_far (p := ⟨gb269, 0, none⟩) (Kd.R_types HO264.out BK269.out (by decide)) (fun _ hk => hk.2) (.slice Ao70 t265.length co70)) (fun _ h_ => h_.1))) hb); have n3_ := Aside0.mk (Kd.R_below (by (with_reducible repeat (first | apply Kd.R_alloc | apply Kd.R_drewN | apply Kd.R_drew)); exact (Kd.R_mono (Kd.R_far (p := ⟨gb269, 0, none⟩) (Kd.R_types HO268.out BK269.out (by decide)) (fun _ hk => hk.2) (.slice Ao70 t265.length co70)) (fun _ h_ => h_.1))) hb); have n4_ := Aside0.mk (blk_below (g := gb242) (o := .cells #[.slice Ao14 t238.length co14] 31 (0, 0)) (by (with_reducible repeat (first | refine blk_drewN ?_ _ | refine blk_drew ?_ | refine blk_alloc ?_ _)); refine blk_far ?_ NB242_269.out _; (with_reducible repeat (first | refine blk_drewN ?_ _ | refine blk_drew ?_ | refine blk_alloc ?_ _)); exact BK242.out) hb); have n5_ := Aside0.mk (blk_below (g := gb250) (o := .cells #[.slice Ao20 t246.length co20] 31 (0, 0)) (by (with_reducible repeat (first | refine blk_drewN ?_ _ | refine blk_drew ?_ | refine blk_alloc ?_ _)); refine blk_far ?_ NB250_269.out _; (with_reducible repeat (first | refine blk_drewN ?_ _ | refine blk_drew ?_ | refine blk_alloc ?_ _)); exact BK250.out) hb); have n6_ := Aside0.mk (blk_below (g := gb269) (o := .cells #[.slice Ao70 t265.length co70] 31 (0, 0)) (by (with_reducible repeat (first | refine blk_drewN ?_ _ | refine blk_drew ?_ | refine blk_alloc ?_ _)); refine blk_put (cs := #[.slice none 0 0]) ?_ 0 _ rfl; (with_reducible repeat (first | refine blk_drewN ?_ _ | refine blk_drew ?_ | refine blk_alloc ?_ _)); exact BK269.out) hb); have n7_ := Aside0.mk (below_step (Lam.al) hb); clear HO_243000; clear HO_251000; clear HO264; clear HO268; clear BK242; clear BK250; clear BK269; clear HB; have HO_243000 := n0_; have HO_251000 := n1_; have HO264 := n2_; have HO268 := n3_; have BK242 := n4_; have BK250 := n5_; have BK269 := n6_; have HB := n7_; clear n0_ n1_ n2_ n3_ n4_ n5_ n6_ n7_; (try clear hb); (try clear hb2); (try clear hk); (try clear hi)))
             go_meet
             case rel => exact ⟨_, (true), (by first | rfl | (simp; done) | (simp [*]; done)), H', ⟨by have := HJ8.out; have := HJ37.out; first | omega | exact Nat.le_refl _⟩, ⟨Lam.rq HO_243000.out⟩, ⟨Lam.rq HO_251000.out⟩, ⟨by (with_reducible repeat (first | apply Kd.R_alloc | apply Kd.R_drewN | apply Kd.R_drew)); exact Kd.R_mono HO268.out (fun _ hk => ⟨hk.1.2, hk.2⟩)⟩, ⟨Lam.bq BK242.out⟩, ⟨Lam.bq BK250.out⟩, ⟨Lam.bq BK269.out⟩, ⟨Lam.al⟩⟩
           case rest =>
            clear HC60
            try clear c1
            try clear c2
            try clear p2
            try clear c3
            try clear c4
            try clear c4b0
            try clear c4b1
            try clear c5
            try clear c6
            try clear c7
            try clear c8
            try clear c13
            try clear c14
            try clear c17
            try clear c18
            try clear c19
            try clear c20
            try clear c21
            try clear c22
            try clear c24
            try clear c25
            try clear c29
            try clear c33
            try clear c36
            try clear c42
            try clear c42b0
            try clear c44
            try clear c45
            try clear c49
            try clear c53
            try clear c56
            try clear c56b0
            try clear c57
            try clear c57b0
            try clear c57b1
            try clear c61
            try clear c71
            try clear c72
            try clear c75
            try clear c76
            try clear c77
            try clear c79
            try clear c82
            try clear c83
            try clear c85
            try clear hcz15_0
            try clear hcz22_0
            try clear hcz26_0
            try clear hcz27_0
            try clear hcz30_0
            try clear hcz31_0
            try clear hcz46_0
            try clear hcz47_0
            try clear hcz50_0
            try clear hcz51_0
            try clear hcz62_0
            try clear hcz64_0
            try clear hcz73_0
            try clear hcz78_0
            try clear hcz80_0
            try clear hcz84_0
            try clear hcz86_0
            try clear hfz15_0
            try clear hfz22_0
            try clear hfz26_0
            try clear hfz27_0
            try clear hfz30_0
            try clear hfz31_0
            try clear hfz46_0
            try clear hfz47_0
            try clear hfz50_0
            try clear hfz51_0
            try clear hfz62_0
            try clear hfz64_0
            try clear hfz73_0
            try clear hfz78_0
            try clear hfz80_0
            try clear hfz84_0
            try clear hfz86_0
            try clear p2
            obtain ⟨kq, x94_59, rfl, HA, HJ59, HO_243000, HO_251000, HO_270000, BK242, BK250, BK269, HB⟩ := hcut
            have hl251000_59 := (Kd.R_reads' HO_251000.out).1
            rw [hl251000_59] at HO_251000
            (try simp only [hl251000_59])
            (try simp only [hl251000_59] at BK242)
            (try simp only [hl251000_59] at BK250)
            (try simp only [hl251000_59] at BK269)
            (try simp only [hl251000_59] at HO_243000)
            (try simp only [hl251000_59] at HO_270000)
            cases kq with
            | zero => exact absurd HA.out (by simp [laws_FnExactMakePuzzle.j2])
            | succ kj59 =>
             have H := HA.out
             clear HA
             simp only [laws_FnExactMakePuzzle.j2] at H
             by_cases c88 : x94_59 = true
             ·subst c88
              have H1 : (none) = some r := by rw [if_pos rfl] at H; exact H
              clear H
              have H := H1
              clear H1
              exact absurd H (by simp)
             ·replace c88 := Bool.eq_false_iff.mpr c88
              subst c88
              have H1 : ((laws_heldPuzzle.f kj59 t260 1).bind fun t271 => (if t271 < 0 then (none) else (if t271 = t259 then (some true) else (none)))) = some r := by rw [if_neg (show ¬ (false = true) by decide)] at H; exact H
              clear H
              have H := H1
              clear H1
              replace H := Option.bind_eq_some_iff.mp H
              obtain ⟨t271, A890, H⟩ := H
              replace H : (if t271 < 0 then (none) else (if t271 = t259 then (some true) else (none))) = some r := H
              have A89 := Aside0.mk A890
              clear A890
              by_cases c90 : t271 < 0
              ·rw [if_pos c90] at H
               exact absurd H (by simp)
              ·rw [if_neg c90] at H
               have c90b0 : decide (t271 < 0) = false := decide_eq_false c90
               clear c90
               by_cases c91 : t271 = t259
               ·rw [if_pos c91] at H
                have c91b0 : (t271 == t259) = true := beq_iff_eq.mpr c91
                have c91b1 : (t271 != t259) = false := bne_eq_false_iff_eq.mpr c91
                clear c91
                obtain rfl := Option.some.inj H
                have hnb92 := NB250_242.out
                have hnc92 := NB242_250.out
                have hnb93 := NB250_269.out
                have hnc93 := NB269_250.out
                have hcz94_0 : wc.cell? ⟨gb250, 0, none⟩ = some (.slice Ao20 t260.length co20) := (blk_cell BK250.out 0).trans rfl
                have hfz94_0 := blk_frozen BK250.out 0
                go_wp2_with (first | ((with_reducible refine gate_callee (f := 22) rfl ?_); refine goesL_ (some 97) rfl rfl Tryd.func22 (by kernel_rfl) rfl #[.agg #[.slice Ao20 t260.length co20], .int .i64 1] rfl (by (try simp only [List.map_toArray, List.map_cons, List.map_nil]); first | done | rfl | (simp only [List.length_drop, List.length_take]; rfl)) ?_; (with_reducible refine (laws_heldPuzzle.calls kj59 _ _ t260 1 t271 _ ?side1 ?side2 A89.out).mono ?_); (case side1 => repeat (first | exact (Kd.R_reads' HO_251000.out).2.2 | (with_reducible refine Kd.C_alloc ?_ _) | (with_reducible refine Kd.C_drewN ?_ _) | (with_reducible refine Kd.C_drew ?_))); (case side2 => exact (Kd.R_reads' HO_251000.out).2.1); rintro e w95 ⟨rfl, hb⟩; refine ⟨_, rfl, ?_⟩; have n0_ := Aside0.mk (Kd.R_below (Lam.rq HO_243000.out) hb); have n1_ := Aside0.mk (Kd.R_below (Lam.rq HO_251000.out) hb); have n2_ := Aside0.mk (Kd.R_below (Lam.rq HO_270000.out) hb); have n3_ := Aside0.mk (blk_below (g := gb242) (o := .cells #[.slice Ao14 t238.length co14] 31 (0, 0)) (Lam.bq BK242.out) hb); have n4_ := Aside0.mk (blk_below (g := gb250) (o := .cells #[.slice Ao20 t260.length co20] 31 (0, 0)) (Lam.bq BK250.out) hb); have n5_ := Aside0.mk (blk_below (g := gb269) (o := .cells #[.slice Ao70 t265.length co70] 31 (0, 0)) (Lam.bq BK269.out) hb); have n6_ := Aside0.mk (below_step (Lam.al) hb); clear HO_243000; clear HO_251000; clear HO_270000; clear BK242; clear BK250; clear BK269; clear HB; have HO_243000 := n0_; have HO_251000 := n1_; have HO_270000 := n2_; have BK242 := n3_; have BK250 := n4_; have BK269 := n5_; have HB := n6_; clear n0_ n1_ n2_ n3_ n4_ n5_ n6_; (try clear hb); (try clear hb2); (try clear hk); (try clear hi)))
                go_ret
                exact ⟨by first | rfl | (simp [errW_none, errW_some] <;> rfl) | (simp [*, errW_none, errW_some] <;> rfl), Lam.al⟩
               ·rw [if_neg c91] at H
                exact absurd H (by simp)
          ·rw [if_neg c57] at H
           exact absurd H (by simp)
     ·replace c36 := Bool.eq_false_iff.mpr c36
      subst c36
      have H1 : (none) = some r := by rw [if_neg (show ¬ (false = true) by decide)] at H; exact H
      clear H
      have H := H1
      clear H1
      exact absurd H (by simp)

/-- THE ONE PURE STATEMENT of laws_FnExactMakePuzzle: yours. -/
def laws_FnExactMakePuzzle.Pure : Prop := ∀ (l0 : List Int) (a1 : Int) (a2 : Int), l0.length ≤ maxLen → l0.length * 8 ≤ 140737488351232 → (∀ x ∈ l0, (Lit.int .i64 x).wf = true) → (Lit.int .i64 a1).wf = true → (Lit.int .i64 a2).wf = true → ∃ k, laws_FnExactMakePuzzle.f k l0 a1 a2 = some true
theorem laws_FnExactMakePuzzle.walk (P : laws_FnExactMakePuzzle.Pure) (a0 : Option Addr) (len0 cap0 : Nat) (z0 : List Int) (a1 : Int) (a2 : Int) (w : World) (w0 : (a0 = none ∧ len0 = 0 ∧ cap0 = 0 ∧ z0 = []) ∨ ∃ x, a0 = some x ∧ len0 ≤ cap0 ∧ cap0 ≤ maxLen ∧ z0.length = cap0 ∧ (∀ i, i < z0.length → w.cell? (x.add i) = some (.int .i64 (z0.getD i 0))) ∧ ∀ n ∈ z0, (Lit.int .i64 n).wf = true) (y0 : len0 * 8 ≤ 140737488351232) (w1 : (Lit.int .i64 a1).wf = true) (w2 : (Lit.int .i64 a2).wf = true) :
  Calls Tryd.prog 4 #[.slice a0 len0 cap0, .int .i64 a1, .int .i64 a2] w fun e w' => e = .returned (.bool true) ∧ Below w.heap.size w w' := by
 obtain ⟨l0, rfl, hr0, hm0, hw0, hc0⟩ := ReadsInt.ofRowC w0
 obtain ⟨k, h⟩ := P l0 a1 a2 hm0 y0 hw0 w1 w2
 refine (laws_FnExactMakePuzzle.calls k _ _ l0 a1 a2 true w (Kd.C_of_reads (d := (0 : Int)) (h1 := fun _ => rfl) hr0) hc0 h).mono ?_
 rintro e w' ⟨rfl, hd⟩
 exact ⟨rfl, hd⟩

end Go.Proofs.YtdikeggkfkkajaaDoor.PFnExactMakePuzzle
