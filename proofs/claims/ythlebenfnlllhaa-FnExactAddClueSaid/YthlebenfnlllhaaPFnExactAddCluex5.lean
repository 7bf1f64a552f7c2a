-- Made by a program of this session (wip/xprint.py) out of the translation.
import Derived.Test.YthlebenfnlllhaaPFnExactAddCluex0
import Derived.Test.YthlebenfnlllhaaPFnExactAddCluex1
import Derived.Test.YthlebenfnlllhaaPFnExactAddCluex3
import Derived.Test.YthlebenfnlllhaaPFnExactAddCluex4
namespace Go.Proofs.Ythlebenfnlllhaa.PFnExactAddClue
open Go.RowKit Go.Proofs.YthlebenfnlllhaaW.PrintWords Go.Proofs.YthlebenfnlllhaaW.PrintLast Go.Proofs.YthlebenfnlllhaaW.PrintMore
attribute [local go_sem] max2_int min2_int max_two min_two max_three min_three max_four min_four   -- for this text's walks alone
set_option linter.unusedVariables false
set_option linter.unusedSimpArgs false

/-! ### laws_FnExactAddClue: function 8 -/
mutual
def laws_FnExactAddClue.j0 : Nat → Bool → Bool → Bool → List (S30) → Int → Int → Int → List (S32) → List (S32) → List (S32) → Option (Bool)
 | 0, _, _, _, _, _, _, _, _, _, _ => none
 | k + 1, x7, x10, x46, x189000, x190000, x190001, x190002, x202000, x206000, x214000 => if x46 = true then (none) else ((laws_toPuzzle.f k x189000).bind fun t215 => ((laws_eqPuzzle.f k x206000 t215).bind fun t218 => (if t218 = true then ((laws_markPuzzle.f k x206000 1).bind fun bt219 => (if bt219.1 < 0 then (laws_FnExactAddClue.j1 k x7 true x189000 x190000 x190001 x190002 x202000 x214000) else ((laws_eqPuzzle.f k x214000 x202000).bind fun t221 => (if t221 = true then (laws_FnExactAddClue.j1 k x7 (x10 != x7) x189000 x190000 x190001 x190002 x202000 x214000) else (laws_FnExactAddClue.j1 k x7 true x189000 x190000 x190001 x190002 x202000 x214000))))) else (none))))
def laws_FnExactAddClue.j1 : Nat → Bool → Bool → List (S30) → Int → Int → Int → List (S32) → List (S32) → Option (Bool)
 | 0, _, _, _, _, _, _, _, _ => none
 | k + 1, x7, x67, x189000, x190000, x190001, x190002, x202000, x214000 => if x67 = true then (none) else ((laws_markPuzzle.f k x214000 1).bind fun bt222 => ((laws_heldPuzzle.f k bt222.2 1).bind fun t224 => (if t224 < 0 then (none) else (if t224 = bt222.1 then ((laws_toPuzzle.f k x189000).bind fun t225 => ((laws_toClue.f x190000 x190001 x190002).bind fun bt228 => ((impl_AddClue.f t225 bt228.1 bt228.2.1 bt228.2.2).bind fun bt231 => ((laws_eqPuzzle.f k bt231.1 x202000).bind fun t236 => (if t236 = true then (laws_FnExactAddClue.j2 k bt222.1 (bt231.2 != x7) bt222.2) else (laws_FnExactAddClue.j2 k bt222.1 true bt222.2)))))) else (none)))))
def laws_FnExactAddClue.j2 : Nat → Int → Bool → List (S32) → Option (Bool)
 | 0, _, _, _ => none
 | k + 1, x12, x95, x214000 => if x95 = true then (none) else ((laws_heldPuzzle.f k x214000 1).bind fun t237 => (if t237 < 0 then (none) else (if t237 = x12 then (some true) else (none))))
end
def laws_FnExactAddClue.f (k : Nat) (l0_0 : List (S30)) (a1_0 : Int) (a1_1 : Int) (a1_2 : Int) : Option (Bool) := (laws_szPuzzle.f l0_0 1048576).bind fun t190 => (if t190 < 0 then (some true) else ((laws_toPuzzle.f k l0_0).bind fun t191 => ((laws_toClue.f a1_0 a1_1 a1_2).bind fun bt194 => ((spec_AddClue.f k t191 bt194.1 bt194.2.1 bt194.2.2).bind fun bt197 => ((laws_toPuzzle.f k l0_0).bind fun t202 => ((laws_toClue.f a1_0 a1_1 a1_2).bind fun bt206 => ((impl_AddClue.f t202 bt206.1 bt206.2.1 bt206.2.2).bind fun bt209 => ((laws_eqPuzzle.f k bt209.1 bt197.1).bind fun t214 => (if t214 = true then (laws_FnExactAddClue.j0 k bt197.2 bt209.2 (bt209.2 != bt197.2) l0_0 a1_0 a1_1 a1_2 bt197.1 t202 bt209.1) else (laws_FnExactAddClue.j0 k bt197.2 bt209.2 true l0_0 a1_0 a1_1 a1_2 bt197.1 t202 bt209.1))))))))))
theorem laws_FnExactAddClue.mono_l : ∀ k, (∀ y0 y1 y2 y3 y4 y5 y6 y7 y8 y9, LeO (laws_FnExactAddClue.j0 k y0 y1 y2 y3 y4 y5 y6 y7 y8 y9) (laws_FnExactAddClue.j0 (k + 1) y0 y1 y2 y3 y4 y5 y6 y7 y8 y9)) ∧ (∀ y0 y1 y2 y3 y4 y5 y6 y7, LeO (laws_FnExactAddClue.j1 k y0 y1 y2 y3 y4 y5 y6 y7) (laws_FnExactAddClue.j1 (k + 1) y0 y1 y2 y3 y4 y5 y6 y7)) ∧ (∀ y0 y1 y2, LeO (laws_FnExactAddClue.j2 k y0 y1 y2) (laws_FnExactAddClue.j2 (k + 1) y0 y1 y2))
 | 0 => ⟨fun _ _ _ _ _ _ _ _ _ _ r h => by simp [laws_FnExactAddClue.j0] at h, fun _ _ _ _ _ _ _ _ r h => by simp [laws_FnExactAddClue.j1] at h, fun _ _ _ r h => by simp [laws_FnExactAddClue.j2] at h⟩
 | k + 1 => by
  obtain ⟨ih0, ih1, ih2⟩ := laws_FnExactAddClue.mono_l k
  refine ⟨?_, ?_, ?_⟩
  ·intro y0 y1 y2 y3 y4 y5 y6 y7 y8 y9
   unfold laws_FnExactAddClue.j0
   repeat' first
   | (with_reducible exact ih0 _ _ _ _ _ _ _ _ _ _)
   | (with_reducible exact ih1 _ _ _ _ _ _ _ _)
   | (with_reducible exact ih2 _ _ _)
   | (with_reducible exact laws_eqPuzzle.mono _ _ _)
   | (with_reducible exact laws_heldPuzzle.mono _ _ _)
   | (with_reducible exact laws_markPuzzle.mono _ _ _)
   | (with_reducible exact laws_toPuzzle.mono _ _)
   | (with_reducible exact spec_AddClue.mono _ _ _ _ _)
   | (with_reducible exact LeO.refl _)
   | (with_reducible exact LeO.none _)
   | (with_reducible refine LeO.ite ?_ ?_)
   | (with_reducible refine LeO.bind ?_ (fun _ => ?_))
   | exact ih0 _ _ _ _ _ _ _ _ _ _
   | exact ih1 _ _ _ _ _ _ _ _
   | exact ih2 _ _ _
   | exact laws_eqPuzzle.mono _ _ _
   | exact laws_heldPuzzle.mono _ _ _
   | exact laws_markPuzzle.mono _ _ _
   | exact laws_toPuzzle.mono _ _
   | exact spec_AddClue.mono _ _ _ _ _
   | exact LeO.none _
   | refine LeO.ite ?_ ?_
   | refine LeO.bind ?_ (fun _ => ?_)
  ·intro y0 y1 y2 y3 y4 y5 y6 y7
   unfold laws_FnExactAddClue.j1
   repeat' first
   | (with_reducible exact ih0 _ _ _ _ _ _ _ _ _ _)
   | (with_reducible exact ih1 _ _ _ _ _ _ _ _)
   | (with_reducible exact ih2 _ _ _)
   | (with_reducible exact laws_eqPuzzle.mono _ _ _)
   | (with_reducible exact laws_heldPuzzle.mono _ _ _)
   | (with_reducible exact laws_markPuzzle.mono _ _ _)
   | (with_reducible exact laws_toPuzzle.mono _ _)
   | (with_reducible exact spec_AddClue.mono _ _ _ _ _)
   | (with_reducible exact LeO.refl _)
   | (with_reducible exact LeO.none _)
   | (with_reducible refine LeO.ite ?_ ?_)
   | (with_reducible refine LeO.bind ?_ (fun _ => ?_))
   | exact ih0 _ _ _ _ _ _ _ _ _ _
   | exact ih1 _ _ _ _ _ _ _ _
   | exact ih2 _ _ _
   | exact laws_eqPuzzle.mono _ _ _
   | exact laws_heldPuzzle.mono _ _ _
   | exact laws_markPuzzle.mono _ _ _
   | exact laws_toPuzzle.mono _ _
   | exact spec_AddClue.mono _ _ _ _ _
   | exact LeO.none _
   | refine LeO.ite ?_ ?_
   | refine LeO.bind ?_ (fun _ => ?_)
  ·intro y0 y1 y2
   unfold laws_FnExactAddClue.j2
   repeat' first
   | (with_reducible exact ih0 _ _ _ _ _ _ _ _ _ _)
   | (with_reducible exact ih1 _ _ _ _ _ _ _ _)
   | (with_reducible exact ih2 _ _ _)
   | (with_reducible exact laws_eqPuzzle.mono _ _ _)
   | (with_reducible exact laws_heldPuzzle.mono _ _ _)
   | (with_reducible exact laws_markPuzzle.mono _ _ _)
   | (with_reducible exact laws_toPuzzle.mono _ _)
   | (with_reducible exact spec_AddClue.mono _ _ _ _ _)
   | (with_reducible exact LeO.refl _)
   | (with_reducible exact LeO.none _)
   | (with_reducible refine LeO.ite ?_ ?_)
   | (with_reducible refine LeO.bind ?_ (fun _ => ?_))
   | exact ih0 _ _ _ _ _ _ _ _ _ _
   | exact ih1 _ _ _ _ _ _ _ _
   | exact ih2 _ _ _
   | exact laws_eqPuzzle.mono _ _ _
   | exact laws_heldPuzzle.mono _ _ _
   | exact laws_markPuzzle.mono _ _ _
   | exact laws_toPuzzle.mono _ _
   | exact spec_AddClue.mono _ _ _ _ _
   | exact LeO.none _
   | refine LeO.ite ?_ ?_
   | refine LeO.bind ?_ (fun _ => ?_)
theorem laws_FnExactAddClue.mono : ∀ a0 a1 a2 a3 k, LeO (laws_FnExactAddClue.f k a0 a1 a2 a3) (laws_FnExactAddClue.f (k + 1) a0 a1 a2 a3) := by
 intro a0 a1 a2 a3 k
 obtain ⟨ih0, ih1, ih2⟩ := laws_FnExactAddClue.mono_l k
 unfold laws_FnExactAddClue.f
 repeat' first
   | (with_reducible exact ih0 _ _ _ _ _ _ _ _ _ _)
   | (with_reducible exact ih1 _ _ _ _ _ _ _ _)
   | (with_reducible exact ih2 _ _ _)
   | (with_reducible exact laws_eqPuzzle.mono _ _ _)
   | (with_reducible exact laws_heldPuzzle.mono _ _ _)
   | (with_reducible exact laws_markPuzzle.mono _ _ _)
   | (with_reducible exact laws_toPuzzle.mono _ _)
   | (with_reducible exact spec_AddClue.mono _ _ _ _ _)
   | (with_reducible exact LeO.refl _)
   | (with_reducible exact LeO.none _)
   | (with_reducible refine LeO.ite ?_ ?_)
   | (with_reducible refine LeO.bind ?_ (fun _ => ?_))
   | exact ih0 _ _ _ _ _ _ _ _ _ _
   | exact ih1 _ _ _ _ _ _ _ _
   | exact ih2 _ _ _
   | exact laws_eqPuzzle.mono _ _ _
   | exact laws_heldPuzzle.mono _ _ _
   | exact laws_markPuzzle.mono _ _ _
   | exact laws_toPuzzle.mono _ _
   | exact spec_AddClue.mono _ _ _ _ _
   | exact LeO.none _
   | refine LeO.ite ?_ ?_
   | refine LeO.bind ?_ (fun _ => ?_)
def laws_FnExactAddClue.T5 : Bool × List (List Nat × List Nat) := (true, [([], []), ([0], [0]), ([], []), ([2, 1], [2]), ([1, 3, 3], [1, 3]), ([4], [4]), ([5], [5]), ([5], [5]), ([], []), ([8, 6, 4, 0, 1, 2, 3, 4, 5, 6, 8], [6, 8]), ([7, 9, 0, 1, 2, 3, 4, 5, 6, 7, 8, 9], [7])])
def laws_FnExactAddClue.B5 : List Nat := [0, 1, 0, 7, 15, 31, 63, 63, 0, 383, 1023]
theorem laws_FnExactAddClue.tab5 : rtab .any (opsOf Try.f8 5) = laws_FnExactAddClue.T5 := by kernel_rfl
theorem laws_FnExactAddClue.bits5 : waitsOk laws_FnExactAddClue.T5.2 laws_FnExactAddClue.B5 = true := by kernel_rfl
def laws_FnExactAddClue.T7 : Bool × List (List Nat × List Nat) := (true, [([], []), ([], []), ([1], [1]), ([0, 2, 2], [0, 2]), ([3], [3]), ([4], [4]), ([4], [4]), ([], []), ([7, 5, 3, 0, 1, 2, 3, 4, 5, 7], [5, 7]), ([6, 8, 0, 1, 2, 3, 4, 5, 6, 7, 8], [6])])
def laws_FnExactAddClue.B7 : List Nat := [0, 0, 2, 7, 15, 31, 31, 0, 191, 511]
theorem laws_FnExactAddClue.tab7 : rtab .any (opsOf Try.f8 7) = laws_FnExactAddClue.T7 := by kernel_rfl
theorem laws_FnExactAddClue.bits7 : waitsOk laws_FnExactAddClue.T7.2 laws_FnExactAddClue.B7 = true := by kernel_rfl
def laws_FnExactAddClue.T24 : Bool × List (List Nat × List Nat) := (true, [([], []), ([0], [0]), ([], []), ([2, 1], [2]), ([1, 3, 3], [1, 3]), ([4], [4]), ([5], [5]), ([5], [5]), ([], []), ([8, 6, 4, 0, 1, 2, 3, 4, 5, 6, 8], [6, 8]), ([7, 9, 0, 1, 2, 3, 4, 5, 6, 7, 8, 9], [7])])
def laws_FnExactAddClue.B24 : List Nat := [0, 1, 0, 7, 15, 31, 63, 63, 0, 383, 1023]
theorem laws_FnExactAddClue.tab24 : rtab .any (opsOf Try.f8 24) = laws_FnExactAddClue.T24 := by kernel_rfl
theorem laws_FnExactAddClue.bits24 : waitsOk laws_FnExactAddClue.T24.2 laws_FnExactAddClue.B24 = true := by kernel_rfl
set_option maxHeartbeats 8000000 in
set_option maxRecDepth 100000 in
theorem laws_FnExactAddClue.calls (k : Nat) (A0_0 : Option Addr) (c0_0 : Nat) (l0_0 : List (S30)) (a1_0 : Int) (a1_1 : Int) (a1_2 : Int) (r : Bool) (w : World) (hr0_0 : Kd.C k30 w A0_0 l0_0.length l0_0) (hc0_0 : l0_0.length ≤ c0_0) (h : laws_FnExactAddClue.f k l0_0 a1_0 a1_1 a1_2 = some r) :
  Calls Try.prog 8 #[.agg #[.slice A0_0 l0_0.length c0_0], .agg #[.int .i64 a1_0, .int .i64 a1_1, .int .i64 a1_2]] w fun e w' => e = .returned (.bool r) ∧ Below w.heap.size w w' := by
 have hu37 := Try.underlying37
 have hu30 := Try.underlying30
 have hu42 := Try.underlying42
 have HR0_0 := Aside0.mk hr0_0
 have HC0_0 := Aside0.mk hc0_0
 clear hr0_0 hc0_0
 have HB := Aside0.mk (Below.refl w.heap.size w)
 have H : ((laws_szPuzzle.f l0_0 1048576).bind fun t190 => (if t190 < 0 then (some true) else ((laws_toPuzzle.f k l0_0).bind fun t191 => ((laws_toClue.f a1_0 a1_1 a1_2).bind fun bt194 => ((spec_AddClue.f k t191 bt194.1 bt194.2.1 bt194.2.2).bind fun bt197 => ((laws_toPuzzle.f k l0_0).bind fun t202 => ((laws_toClue.f a1_0 a1_1 a1_2).bind fun bt206 => ((impl_AddClue.f t202 bt206.1 bt206.2.1 bt206.2.2).bind fun bt209 => ((laws_eqPuzzle.f k bt209.1 bt197.1).bind fun t214 => (if t214 = true then (laws_FnExactAddClue.j0 k bt197.2 bt209.2 (bt209.2 != bt197.2) l0_0 a1_0 a1_1 a1_2 bt197.1 t202 bt209.1) else (laws_FnExactAddClue.j0 k bt197.2 bt209.2 true l0_0 a1_0 a1_1 a1_2 bt197.1 t202 bt209.1))))))))))) = some r := h
 clear h
 replace H := Option.bind_eq_some_iff.mp H
 obtain ⟨t190, A30, H⟩ := H
 replace H : (if t190 < 0 then (some true) else ((laws_toPuzzle.f k l0_0).bind fun t191 => ((laws_toClue.f a1_0 a1_1 a1_2).bind fun bt194 => ((spec_AddClue.f k t191 bt194.1 bt194.2.1 bt194.2.2).bind fun bt197 => ((laws_toPuzzle.f k l0_0).bind fun t202 => ((laws_toClue.f a1_0 a1_1 a1_2).bind fun bt206 => ((impl_AddClue.f t202 bt206.1 bt206.2.1 bt206.2.2).bind fun bt209 => ((laws_eqPuzzle.f k bt209.1 bt197.1).bind fun t214 => (if t214 = true then (laws_FnExactAddClue.j0 k bt197.2 bt209.2 (bt209.2 != bt197.2) l0_0 a1_0 a1_1 a1_2 bt197.1 t202 bt209.1) else (laws_FnExactAddClue.j0 k bt197.2 bt209.2 true l0_0 a1_0 a1_1 a1_2 bt197.1 t202 bt209.1)))))))))) = some r := H
 have A3 := Aside0.mk A30
 clear A30
 by_cases c4 : t190 < 0
 ·rw [if_pos c4] at H
  have c4b0 : decide (t190 < 0) = true := decide_eq_true c4
  clear c4
  obtain rfl := Option.some.inj H
  go_enter Try.func8, Try.ntmps8
  go_wp2_with (first | ((with_reducible refine gate_dst (N := 2) rfl ?_); refine box_event ?hg (N := 2) ?hd (cs := #[.slice A0_0 l0_0.length c0_0]) (t := 37) ?hr ?_; (case hd => rfl); (case hg => rfl); (case hr => first | (go_simp; done) | (go_simp; rfl)); intro gb188 hg w5 hbox hb; have n0_ := Aside0.mk (below_step Lam.al hb); have n1_ := Aside0.mk (hbox); have n2_ := Aside0.mk ((by rw [hg]; exact (below_size Lam.al) : w.heap.size ≤ gb188)); have n3_ := Aside0.mk ((by rw [hg]; exact (below_size Lam.al) : w.heap.size ≤ gb188)); clear HB; have HB := n0_; have BK188 := n1_; have GW188 := n2_; have GE188 := n3_; clear n0_ n1_ n2_ n3_; clear hb hbox hg) | ((with_reducible refine gate_dst (N := 3) rfl ?_); refine box_event ?hg (N := 3) ?hd (cs := #[.int .i64 a1_0, .int .i64 a1_1, .int .i64 a1_2]) (t := 30) ?hr ?_; (case hd => rfl); (case hg => rfl); (case hr => first | (go_simp; done) | (go_simp; rfl)); intro gb189 hg w6 hbox hb; have n0_ := Aside0.mk (blk_below (g := gb188) (o := .cells #[.slice A0_0 l0_0.length c0_0] 37 (0, 0)) (Lam.bq BK188.out) hb); have n1_ := Aside0.mk (below_step Lam.al hb); have n2_ := Aside0.mk (hbox); have n3_ := Aside0.mk ((by rw [hg]; exact (below_size Lam.al) : w.heap.size ≤ gb189)); have n4_ := Aside0.mk ((by rw [hg]; exact (below_size Lam.al) : w.heap.size ≤ gb189)); have n5_ := Aside0.mk ((by rw [hg]; exact Nat.ne_of_lt (blk_lt (g := gb188) (o := .cells #[.slice A0_0 l0_0.length c0_0] 37 (0, 0)) (Lam.bq BK188.out)) : gb188 ≠ gb189)); have n6_ := Aside0.mk ((by rw [hg]; exact Nat.ne_of_gt (blk_lt (g := gb188) (o := .cells #[.slice A0_0 l0_0.length c0_0] 37 (0, 0)) (Lam.bq BK188.out)) : gb189 ≠ gb188)); clear BK188; clear HB; have BK188 := n0_; have HB := n1_; have BK189 := n2_; have GW189 := n3_; have GE189 := n4_; have NB188_189 := n5_; have NB189_188 := n6_; clear n0_ n1_ n2_ n3_ n4_ n5_ n6_; clear hb hbox hg; have hnb7 := NB188_189.out; have hnc7 := NB189_188.out; have hcz8_0 : w6.cell? ⟨gb188, 0, none⟩ = some (.slice A0_0 l0_0.length c0_0) := (blk_cell BK188.out 0).trans rfl; have hfz8_0 := blk_frozen BK188.out 0) | ((with_reducible refine gate_callee (f := 19) rfl ?_); refine goesL_ (some 18) rfl rfl Try.func19 (by kernel_rfl) rfl #[.agg #[.slice A0_0 l0_0.length c0_0], .int .i64 1048576] rfl (by (try simp only [List.map_toArray, List.map_cons, List.map_nil]); first | done | rfl | (simp only [List.length_drop, List.length_take]; rfl)) ?_; (with_reducible refine (laws_szPuzzle.calls _ _ l0_0 1048576 t190 _ ?side1 ?side2 A3.out).mono ?_); (case side1 => repeat (first | exact (Kd.C_below HR0_0.out HB.out) | (with_reducible refine Kd.C_alloc ?_ _) | (with_reducible refine Kd.C_drewN ?_ _) | (with_reducible refine Kd.C_drew ?_))); (case side2 => exact HC0_0.out); rintro e w9 ⟨rfl, hb⟩; refine ⟨_, rfl, ?_⟩; have n0_ := Aside0.mk (blk_below (g := gb188) (o := .cells #[.slice A0_0 l0_0.length c0_0] 37 (0, 0)) (Lam.bq BK188.out) hb); have n1_ := Aside0.mk (blk_below (g := gb189) (o := .cells #[.int .i64 a1_0, .int .i64 a1_1, .int .i64 a1_2] 30 (0, 0)) (Lam.bq BK189.out) hb); have n2_ := Aside0.mk (below_step Lam.al hb); clear BK188; clear BK189; clear HB; have BK188 := n0_; have BK189 := n1_; have HB := n2_; clear n0_ n1_ n2_; (try clear hb); (try clear hb2); (try clear hk); (try clear hi)))
  go_ret
  exact ⟨by first | rfl | (simp [errW_none, errW_some] <;> rfl) | (simp [*, errW_none, errW_some] <;> rfl), by repeat (first | (with_reducible first | exact HB.out | apply below_alloc | apply pw_below_drewN | apply below_drew1 | refine below_set ?_ GE188.out | refine below_set ?_ GE189.out) | exact HB.out)⟩
 ·rw [if_neg c4] at H
  have c4b0 : decide (t190 < 0) = false := decide_eq_false c4
  clear c4
  replace H := Option.bind_eq_some_iff.mp H
  obtain ⟨t191, A100, H⟩ := H
  replace H : ((laws_toClue.f a1_0 a1_1 a1_2).bind fun bt194 => ((spec_AddClue.f k t191 bt194.1 bt194.2.1 bt194.2.2).bind fun bt197 => ((laws_toPuzzle.f k l0_0).bind fun t202 => ((laws_toClue.f a1_0 a1_1 a1_2).bind fun bt206 => ((impl_AddClue.f t202 bt206.1 bt206.2.1 bt206.2.2).bind fun bt209 => ((laws_eqPuzzle.f k bt209.1 bt197.1).bind fun t214 => (if t214 = true then (laws_FnExactAddClue.j0 k bt197.2 bt209.2 (bt209.2 != bt197.2) l0_0 a1_0 a1_1 a1_2 bt197.1 t202 bt209.1) else (laws_FnExactAddClue.j0 k bt197.2 bt209.2 true l0_0 a1_0 a1_1 a1_2 bt197.1 t202 bt209.1)))))))) = some r := H
  have A10 := Aside0.mk A100
  clear A100
  replace H := Option.bind_eq_some_iff.mp H
  obtain ⟨⟨t194, t195, t196⟩, A110, H⟩ := H
  replace H : ((spec_AddClue.f k t191 t194 t195 t196).bind fun bt197 => ((laws_toPuzzle.f k l0_0).bind fun t202 => ((laws_toClue.f a1_0 a1_1 a1_2).bind fun bt206 => ((impl_AddClue.f t202 bt206.1 bt206.2.1 bt206.2.2).bind fun bt209 => ((laws_eqPuzzle.f k bt209.1 bt197.1).bind fun t214 => (if t214 = true then (laws_FnExactAddClue.j0 k bt197.2 bt209.2 (bt209.2 != bt197.2) l0_0 a1_0 a1_1 a1_2 bt197.1 t202 bt209.1) else (laws_FnExactAddClue.j0 k bt197.2 bt209.2 true l0_0 a1_0 a1_1 a1_2 bt197.1 t202 bt209.1))))))) = some r := H
  have A11 := Aside0.mk A110
  clear A110
  replace H := Option.bind_eq_some_iff.mp H
  obtain ⟨⟨t197, t200⟩, A120, H⟩ := H
  replace H : ((laws_toPuzzle.f k l0_0).bind fun t202 => ((laws_toClue.f a1_0 a1_1 a1_2).bind fun bt206 => ((impl_AddClue.f t202 bt206.1 bt206.2.1 bt206.2.2).bind fun bt209 => ((laws_eqPuzzle.f k bt209.1 t197).bind fun t214 => (if t214 = true then (laws_FnExactAddClue.j0 k t200 bt209.2 (bt209.2 != t200) l0_0 a1_0 a1_1 a1_2 t197 t202 bt209.1) else (laws_FnExactAddClue.j0 k t200 bt209.2 true l0_0 a1_0 a1_1 a1_2 t197 t202 bt209.1)))))) = some r := H
  have A12 := Aside0.mk A120
  clear A120
  replace H := Option.bind_eq_some_iff.mp H
  obtain ⟨t202, A130, H⟩ := H
  replace H : ((laws_toClue.f a1_0 a1_1 a1_2).bind fun bt206 => ((impl_AddClue.f t202 bt206.1 bt206.2.1 bt206.2.2).bind fun bt209 => ((laws_eqPuzzle.f k bt209.1 t197).bind fun t214 => (if t214 = true then (laws_FnExactAddClue.j0 k t200 bt209.2 (bt209.2 != t200) l0_0 a1_0 a1_1 a1_2 t197 t202 bt209.1) else (laws_FnExactAddClue.j0 k t200 bt209.2 true l0_0 a1_0 a1_1 a1_2 t197 t202 bt209.1))))) = some r := H
  have A13 := Aside0.mk A130
  clear A130
  replace H := Option.bind_eq_some_iff.mp H
  obtain ⟨⟨t206, t207, t208⟩, A140, H⟩ := H
  replace H : ((impl_AddClue.f t202 t206 t207 t208).bind fun bt209 => ((laws_eqPuzzle.f k bt209.1 t197).bind fun t214 => (if t214 = true then (laws_FnExactAddClue.j0 k t200 bt209.2 (bt209.2 != t200) l0_0 a1_0 a1_1 a1_2 t197 t202 bt209.1) else (laws_FnExactAddClue.j0 k t200 bt209.2 true l0_0 a1_0 a1_1 a1_2 t197 t202 bt209.1)))) = some r := H
  have A14 := Aside0.mk A140
  clear A140
  replace H := Option.bind_eq_some_iff.mp H
  obtain ⟨⟨t209, t212⟩, A150, H⟩ := H
  replace H : ((laws_eqPuzzle.f k t209 t197).bind fun t214 => (if t214 = true then (laws_FnExactAddClue.j0 k t200 t212 (t212 != t200) l0_0 a1_0 a1_1 a1_2 t197 t202 t209) else (laws_FnExactAddClue.j0 k t200 t212 true l0_0 a1_0 a1_1 a1_2 t197 t202 t209))) = some r := H
  have A15 := Aside0.mk A150
  clear A150
  have HC16 := Aside0.mk H
  clear H
  go_enter Try.func8, Try.ntmps8
  try go_wp2_with (first | ((with_reducible refine gate_dst (N := 2) rfl ?_); refine box_event ?hg (N := 2) ?hd (cs := #[.slice A0_0 l0_0.length c0_0]) (t := 37) ?hr ?_; (case hd => rfl); (case hg => rfl); (case hr => first | (go_simp; done) | (go_simp; rfl)); intro gb188 hg w17 hbox hb; have n0_ := Aside0.mk (below_step Lam.al hb); have n1_ := Aside0.mk (hbox); have n2_ := Aside0.mk ((by rw [hg]; exact (below_size Lam.al) : w.heap.size ≤ gb188)); have n3_ := Aside0.mk ((by rw [hg]; exact (below_size Lam.al) : w.heap.size ≤ gb188)); clear HB; have HB := n0_; have BK188 := n1_; have GW188 := n2_; have GE188 := n3_; clear n0_ n1_ n2_ n3_; clear hb hbox hg) | ((with_reducible refine gate_dst (N := 3) rfl ?_); refine box_event ?hg (N := 3) ?hd (cs := #[.int .i64 a1_0, .int .i64 a1_1, .int .i64 a1_2]) (t := 30) ?hr ?_; (case hd => rfl); (case hg => rfl); (case hr => first | (go_simp; done) | (go_simp; rfl)); intro gb189 hg w18 hbox hb; have n0_ := Aside0.mk (blk_below (g := gb188) (o := .cells #[.slice A0_0 l0_0.length c0_0] 37 (0, 0)) (Lam.bq BK188.out) hb); have n1_ := Aside0.mk (below_step Lam.al hb); have n2_ := Aside0.mk (hbox); have n3_ := Aside0.mk ((by rw [hg]; exact (below_size Lam.al) : w.heap.size ≤ gb189)); have n4_ := Aside0.mk ((by rw [hg]; exact (below_size Lam.al) : w.heap.size ≤ gb189)); have n5_ := Aside0.mk ((by rw [hg]; exact Nat.ne_of_lt (blk_lt (g := gb188) (o := .cells #[.slice A0_0 l0_0.length c0_0] 37 (0, 0)) (Lam.bq BK188.out)) : gb188 ≠ gb189)); have n6_ := Aside0.mk ((by rw [hg]; exact Nat.ne_of_gt (blk_lt (g := gb188) (o := .cells #[.slice A0_0 l0_0.length c0_0] 37 (0, 0)) (Lam.bq BK188.out)) : gb189 ≠ gb188)); clear BK188; clear HB; have BK188 := n0_; have HB := n1_; have BK189 := n2_; have GW189 := n3_; have GE189 := n4_; have NB188_189 := n5_; have NB189_188 := n6_; clear n0_ n1_ n2_ n3_ n4_ n5_ n6_; clear hb hbox hg; have hnb19 := NB188_189.out; have hnc19 := NB189_188.out; have hcz20_0 : w18.cell? ⟨gb188, 0, none⟩ = some (.slice A0_0 l0_0.length c0_0) := (blk_cell BK188.out 0).trans rfl; have hfz20_0 := blk_frozen BK188.out 0) | ((with_reducible refine gate_callee (f := 19) rfl ?_); refine goesL_ (some 18) rfl rfl Try.func19 (by kernel_rfl) rfl #[.agg #[.slice A0_0 l0_0.length c0_0], .int .i64 1048576] rfl (by (try simp only [List.map_toArray, List.map_cons, List.map_nil]); first | done | rfl | (simp only [List.length_drop, List.length_take]; rfl)) ?_; (with_reducible refine (laws_szPuzzle.calls _ _ l0_0 1048576 t190 _ ?side1 ?side2 A3.out).mono ?_); (case side1 => repeat (first | exact (Kd.C_below HR0_0.out HB.out) | (with_reducible refine Kd.C_alloc ?_ _) | (with_reducible refine Kd.C_drewN ?_ _) | (with_reducible refine Kd.C_drew ?_))); (case side2 => exact HC0_0.out); rintro e w21 ⟨rfl, hb⟩; refine ⟨_, rfl, ?_⟩; have n0_ := Aside0.mk (blk_below (g := gb188) (o := .cells #[.slice A0_0 l0_0.length c0_0] 37 (0, 0)) (Lam.bq BK188.out) hb); have n1_ := Aside0.mk (blk_below (g := gb189) (o := .cells #[.int .i64 a1_0, .int .i64 a1_1, .int .i64 a1_2] 30 (0, 0)) (Lam.bq BK189.out) hb); have n2_ := Aside0.mk (below_step Lam.al hb); clear BK188; clear BK189; clear HB; have BK188 := n0_; have BK189 := n1_; have HB := n2_; clear n0_ n1_ n2_; (try clear hb); (try clear hb2); (try clear hk); (try clear hi)))
  have n0_ := Aside0.mk (blk_drew BK188.out)
  have n1_ := Aside0.mk (blk_drew BK189.out)
  have n2_ := Aside0.mk (below_drew1 HB.out)
  clear BK188
  clear BK189
  clear HB
  have BK188 := n0_
  have BK189 := n1_
  have HB := n2_
  clear n0_ n1_ n2_
  refine start_ (n := 11) (S := fun w' => w'.cell? ⟨gb188, 0, none⟩ = some (.slice A0_0 l0_0.length c0_0) ∧ w'.cell? ⟨gb189, 0, none⟩ = some (.int .i64 a1_0) ∧ w'.cell? ⟨gb189, 1, none⟩ = some (.int .i64 a1_1) ∧ w'.cell? ⟨gb189, 2, none⟩ = some (.int .i64 a1_2)) (ds := []) #[false, false, false, false, false, false, false, false, false, false, false] (by kernel_rfl) rfl rfl ⟨(blk_cell BK188.out 0).trans rfl, (blk_cell BK189.out 0).trans rfl, (blk_cell BK189.out 1).trans rfl, (blk_cell BK189.out 2).trans rfl⟩ (fun hHeld => ?_); refine with_tabW laws_FnExactAddClue.tab5 laws_FnExactAddClue.bits5 (fun HT_ HW_ => ?_)
  generalize w21.drew = w22 at BK188 BK189 HB hHeld ⊢
  refine take_ (i := 0) (N := some 22) (v := ?_) (a' := ?_) #[true, false, false, false, false, false, false, false, false, false, false] rfl rfl (take_ofW HT_.out HW_.out (by kernel_rfl)) (fun _ _ _ h => h) (Or.inl ⟨by rfl, ?_⟩) hHeld ?_ ?_
  rotate_left
  ·rintro w' ⟨s0, s1, s2, s3⟩
   go_simp
   with_reducible rfl
  rotate_left
  ·simp only [Act.put, List.setIfInBounds_toArray, List.set_cons_zero, List.set_cons_succ, i64_w, i32_w]
   rfl
  refine take_ (i := 2) (N := some 24) (v := ?_) (a' := ?_) #[true, false, true, false, false, false, false, false, false, false, false] rfl rfl (take_ofW HT_.out HW_.out (by kernel_rfl)) (fun _ _ _ h => h) (Or.inl ⟨by rfl, ?_⟩) hHeld ?_ ?_
  rotate_left
  ·rintro w' ⟨s0, s1, s2, s3⟩
   go_simp
   with_reducible rfl
  rotate_left
  ·simp only [Act.put, List.setIfInBounds_toArray, List.set_cons_zero, List.set_cons_succ, i64_w, i32_w]
   rfl
  refine join_ (σ := Value × Value × Nat) 2 #[true, true, true, true, true, true, true, true, true, false, false] (fun s_ => [(23, .agg #[s_.1]), (25, .agg #[.int .i64 t194, .int .i64 t195, .int .i64 t196]), (26, .tuple #[.agg #[s_.2.1], .bool t200]), (6, .pointer (some ⟨s_.2.2, 0, none⟩)), (21, .tuple #[.agg #[s_.2.1], .bool t200]), (27, .agg #[s_.2.1]), (28, .bool t200)]) (fun s_ w' => (w'.cell? ⟨gb188, 0, none⟩ = some (.slice A0_0 l0_0.length c0_0) ∧ w'.cell? ⟨gb189, 0, none⟩ = some (.int .i64 a1_0) ∧ w'.cell? ⟨gb189, 1, none⟩ = some (.int .i64 a1_1) ∧ w'.cell? ⟨gb189, 2, none⟩ = some (.int .i64 a1_2)) ∧ (Kd.R k32 32 w' w.heap.size (fun k_ => some k_ ≠ (s_.2.1 : Value).ownBlock) s_.1 t191) ∧ (Kd.R k32 32 w' w.heap.size (fun k_ => some k_ ≠ (s_.1 : Value).ownBlock) s_.2.1 t197) ∧ (w'.heap[gb188]? = some (.cells #[.slice A0_0 l0_0.length c0_0] 37 (0, 0))) ∧ (w'.heap[gb189]? = some (.cells #[.int .i64 a1_0, .int .i64 a1_1, .int .i64 a1_2] 30 (0, 0))) ∧ (w'.heap[s_.2.2]? = some (.cells #[.slice none 0 0] 42 (0, 0))) ∧ (w.heap.size ≤ s_.2.2) ∧ (w.heap.size ≤ s_.2.2) ∧ (gb188 ≠ s_.2.2) ∧ (s_.2.2 ≠ gb188) ∧ (gb189 ≠ s_.2.2) ∧ (s_.2.2 ≠ gb189) ∧ (Below w.heap.size w w')) ?_ ?_
  rotate_left
  ·intro hCont
   refine two_ (i := 1) (j := 8) (Ni := some 23) (Nj := some 6) #[true, true, true, false, false, false, false, false, false, false, false] #[true, false, true, false, false, false, false, false, true, false, false] rfl rfl rfl rfl (two_of HT_.out (by kernel_rfl)) (by decide) (by decide) (fun K hK => ?_) (fun K hK => ?_)
   ·skip
    refine goes_ Try.func21 (by kernel_rfl) rfl #[.agg #[.slice A0_0 l0_0.length c0_0]] (by rfl) rfl rfl (by (try simp only [List.map_toArray, List.map_cons, List.map_nil]); first | done | rfl | (simp only [List.length_drop, List.length_take]; rfl)) ?_
    with_reducible refine (laws_toPuzzle.calls k _ _ l0_0 t191 _ ?side1 ?side2 A10.out).mono ?_
    (case side1 => repeat (first | exact (Kd.C_below HR0_0.out HB.out) | (with_reducible refine Kd.C_alloc ?_ _) | (with_reducible refine Kd.C_drewN ?_ _) | (with_reducible refine Kd.C_drew ?_)))
    (case side2 => exact HC0_0.out)
    rintro e w23 ⟨v192, rfl, ho0, hb⟩
    refine ⟨_, rfl, ?_⟩
    have n0_ := Aside0.mk (Kd.R_lower ho0 (below_size Lam.al))
    have n1_ := Aside0.mk (blk_below (g := gb188) (o := .cells #[.slice A0_0 l0_0.length c0_0] 37 (0, 0)) (Lam.bq BK188.out) hb)
    have n2_ := Aside0.mk (blk_below (g := gb189) (o := .cells #[.int .i64 a1_0, .int .i64 a1_1, .int .i64 a1_2] 30 (0, 0)) (Lam.bq BK189.out) hb)
    have n3_ := Aside0.mk (below_step Lam.al hb)
    clear BK188
    clear BK189
    clear HB
    have HO193 := n0_
    have BK188 := n1_
    have BK189 := n2_
    have HB := n3_
    clear n0_ n1_ n2_ n3_
    (try clear hb)
    (try clear hb2)
    (try clear hk)
    (try clear hi)
    (try clear ho0)
    refine hK.out _ _ ⟨(blk_cell BK188.out 0).trans rfl, (blk_cell BK189.out 0).trans rfl, (blk_cell BK189.out 1).trans rfl, (blk_cell BK189.out 2).trans rfl⟩ (fun hHeld => ?_)
    clear hK K
    refine norm_ (a' := ?_) ?_ ?_
    rotate_left
    ·show Act.put _ (some 23) _ = _
     simp only [Act.put, List.setIfInBounds_toArray, List.set_cons_zero, List.set_cons_succ, i64_w, i32_w]
     rfl
    refine two_ (i := 3) (j := 8) (Ni := some 25) (Nj := some 6) #[true, true, true, true, false, false, false, false, false, false, false] #[true, true, true, false, false, false, false, false, true, false, false] rfl rfl rfl rfl (two_of HT_.out (by kernel_rfl)) (by decide) (by decide) (fun K hK => ?_) (fun K hK => ?_)
    ·skip
     refine goes_ Try.func17 (by kernel_rfl) rfl #[.agg #[.int .i64 a1_0, .int .i64 a1_1, .int .i64 a1_2]] (by rfl) rfl rfl (by (try simp only [List.map_toArray, List.map_cons, List.map_nil]); first | done | rfl | (simp only [List.length_drop, List.length_take]; rfl)) ?_
     with_reducible refine (laws_toClue.calls a1_0 a1_1 a1_2 t194 t195 t196 _ A11.out).mono ?_
     rintro e w24 ⟨rfl, hb⟩
     refine ⟨_, rfl, ?_⟩
     have n0_ := Aside0.mk (Kd.R_below (Lam.rq HO193.out) hb)
     have n1_ := Aside0.mk (blk_below (g := gb188) (o := .cells #[.slice A0_0 l0_0.length c0_0] 37 (0, 0)) (Lam.bq BK188.out) hb)
     have n2_ := Aside0.mk (blk_below (g := gb189) (o := .cells #[.int .i64 a1_0, .int .i64 a1_1, .int .i64 a1_2] 30 (0, 0)) (Lam.bq BK189.out) hb)
     have n3_ := Aside0.mk (below_step Lam.al hb)
     clear HO193
     clear BK188
     clear BK189
     clear HB
     have HO193 := n0_
     have BK188 := n1_
     have BK189 := n2_
     have HB := n3_
     clear n0_ n1_ n2_ n3_
     (try clear hb)
     (try clear hb2)
     (try clear hk)
     (try clear hi)
     obtain ⟨Ao25, co25, eo25⟩ := Kd.R_slice HO193.out
     (first | subst eo25 | (injection eo25 with f1_ f2_ f3_; have f4_ := f1_.symm; have f5_ := f3_.symm; clear f1_ f2_ f3_; subst f4_; subst f5_))
     refine hK.out _ _ ⟨(blk_cell BK188.out 0).trans rfl, (blk_cell BK189.out 0).trans rfl, (blk_cell BK189.out 1).trans rfl, (blk_cell BK189.out 2).trans rfl⟩ (fun hHeld => ?_)
     clear hK K
     refine norm_ (a' := ?_) ?_ ?_
     rotate_left
     ·show Act.put _ (some 25) _ = _
      simp only [Act.put, List.setIfInBounds_toArray, List.set_cons_zero, List.set_cons_succ, i64_w, i32_w]
      rfl
     refine two_ (i := 4) (j := 8) (Ni := some 26) (Nj := some 6) #[true, true, true, true, true, false, false, false, false, false, false] #[true, true, true, true, false, false, false, false, true, false, false] rfl rfl rfl rfl (two_of HT_.out (by kernel_rfl)) (by decide) (by decide) (fun K hK => ?_) (fun K hK => ?_)
     ·skip
      refine goes_ Try.func38 (by kernel_rfl) rfl #[.agg #[.slice Ao25 t191.length co25], .agg #[.int .i64 t194, .int .i64 t195, .int .i64 t196]] (by rfl) rfl rfl (by (try simp only [List.map_toArray, List.map_cons, List.map_nil]); first | done | rfl | (simp only [List.length_drop, List.length_take]; rfl)) ?_
      with_reducible refine (spec_AddClue.calls k _ _ t191 t194 t195 t196 t197 t200 _ ?side1 ?side2 A12.out).mono ?_
      (case side1 => repeat (first | exact (Kd.R_reads' HO193.out).2.2 | (with_reducible refine Kd.C_alloc ?_ _) | (with_reducible refine Kd.C_drewN ?_ _) | (with_reducible refine Kd.C_drew ?_)))
      (case side2 => exact (Kd.R_reads' HO193.out).2.1)
      rintro e w26 ⟨v198, rfl, ho0, hb⟩
      refine ⟨_, rfl, ?_⟩
      have n0_ := Aside0.mk (Kd.R_elder' (Lam.rq HO193.out) (Kd.R_base ho0) hb)
      have n1_ := Aside0.mk (Kd.R_lower (Kd.R_new' ho0 (Kd.R_lt (Lam.rq HO193.out))) (below_size Lam.al))
      have n2_ := Aside0.mk (blk_below (g := gb188) (o := .cells #[.slice A0_0 l0_0.length c0_0] 37 (0, 0)) (Lam.bq BK188.out) hb)
      have n3_ := Aside0.mk (blk_below (g := gb189) (o := .cells #[.int .i64 a1_0, .int .i64 a1_1, .int .i64 a1_2] 30 (0, 0)) (Lam.bq BK189.out) hb)
      have n4_ := Aside0.mk (below_step Lam.al hb)
      clear HO193
      clear BK188
      clear BK189
      clear HB
      have HO193 := n0_
      have HO199 := n1_
      have BK188 := n2_
      have BK189 := n3_
      have HB := n4_
      clear n0_ n1_ n2_ n3_ n4_
      (try clear hb)
      (try clear hb2)
      (try clear hk)
      (try clear hi)
      (try clear ho0)
      refine hK.out _ _ ⟨(blk_cell BK188.out 0).trans rfl, (blk_cell BK189.out 0).trans rfl, (blk_cell BK189.out 1).trans rfl, (blk_cell BK189.out 2).trans rfl⟩ (fun hHeld => ?_)
      clear hK K
      refine norm_ (a' := ?_) ?_ ?_
      rotate_left
      ·show Act.put _ (some 26) _ = _
       simp only [Act.put, List.setIfInBounds_toArray, List.set_cons_zero, List.set_cons_succ, i64_w, i32_w]
       rfl
      refine pure_ (i := 5) (N := some 21) (v := ?_) (a' := ?_) #[true, true, true, true, true, true, false, false, false, false, false] rfl rfl (any_of HT_.out (by kernel_rfl)) (fun _ _ _ h => h) (Or.inl ⟨by rfl, ?_⟩) ?_ ?_
      rotate_left
      ·intro w'
       go_simp
       with_reducible rfl
      rotate_left
      ·simp only [Act.put, List.setIfInBounds_toArray, List.set_cons_zero, List.set_cons_succ, i64_w, i32_w]
       rfl
      refine pure_ (i := 6) (N := some 27) (v := ?_) (a' := ?_) #[true, true, true, true, true, true, true, false, false, false, false] rfl rfl (any_of HT_.out (by kernel_rfl)) (fun _ _ _ h => h) (Or.inl ⟨by rfl, ?_⟩) ?_ ?_
      rotate_left
      ·intro w'
       go_simp
       with_reducible rfl
      rotate_left
      ·simp only [Act.put, List.setIfInBounds_toArray, List.set_cons_zero, List.set_cons_succ, i64_w, i32_w]
       rfl
      refine pure_ (i := 7) (N := some 28) (v := ?_) (a' := ?_) #[true, true, true, true, true, true, true, true, false, false, false] rfl rfl (any_of HT_.out (by kernel_rfl)) (fun _ _ _ h => h) (Or.inl ⟨by rfl, ?_⟩) ?_ ?_
      rotate_left
      ·intro w'
       go_simp
       with_reducible rfl
      rotate_left
      ·simp only [Act.put, List.setIfInBounds_toArray, List.set_cons_zero, List.set_cons_succ, i64_w, i32_w]
       rfl
      refine one_ (i := 8) (N := some 6) #[true, true, true, true, true, true, true, true, true, false, false] rfl rfl (one_of HT_.out (by kernel_rfl)) (by decide) (fun K hK => ?_)
      refine box_step ?hg (N := 6) ?hd (cs := #[.slice none 0 0]) (t := 42) ?hr ?_; (case hd => rfl); (case hg => rfl); (case hr => first | (go_simp; done) | (go_simp; rfl))
      intro gb201 hg w27 hbox hb
      have n0_ := Aside0.mk (Kd.R_below (Lam.rq HO193.out) hb)
      have n1_ := Aside0.mk (Kd.R_below (Lam.rq HO199.out) hb)
      have n2_ := Aside0.mk (blk_below (g := gb188) (o := .cells #[.slice A0_0 l0_0.length c0_0] 37 (0, 0)) (Lam.bq BK188.out) hb)
      have n3_ := Aside0.mk (blk_below (g := gb189) (o := .cells #[.int .i64 a1_0, .int .i64 a1_1, .int .i64 a1_2] 30 (0, 0)) (Lam.bq BK189.out) hb)
      have n4_ := Aside0.mk (below_step Lam.al hb)
      have n5_ := Aside0.mk (hbox)
      have n6_ := Aside0.mk ((by rw [hg]; exact (below_size Lam.al) : w.heap.size ≤ gb201))
      have n7_ := Aside0.mk ((by rw [hg]; exact (below_size Lam.al) : w.heap.size ≤ gb201))
      have n8_ := Aside0.mk ((by rw [hg]; exact Nat.ne_of_lt (blk_lt (g := gb188) (o := .cells #[.slice A0_0 l0_0.length c0_0] 37 (0, 0)) (Lam.bq BK188.out)) : gb188 ≠ gb201))
      have n9_ := Aside0.mk ((by rw [hg]; exact Nat.ne_of_gt (blk_lt (g := gb188) (o := .cells #[.slice A0_0 l0_0.length c0_0] 37 (0, 0)) (Lam.bq BK188.out)) : gb201 ≠ gb188))
      have n10_ := Aside0.mk ((by rw [hg]; exact Nat.ne_of_lt (blk_lt (g := gb189) (o := .cells #[.int .i64 a1_0, .int .i64 a1_1, .int .i64 a1_2] 30 (0, 0)) (Lam.bq BK189.out)) : gb189 ≠ gb201))
      have n11_ := Aside0.mk ((by rw [hg]; exact Nat.ne_of_gt (blk_lt (g := gb189) (o := .cells #[.int .i64 a1_0, .int .i64 a1_1, .int .i64 a1_2] 30 (0, 0)) (Lam.bq BK189.out)) : gb201 ≠ gb189))
      clear HO193
      clear HO199
      clear BK188
      clear BK189
      clear HB
      have HO193 := n0_
      have HO199 := n1_
      have BK188 := n2_
      have BK189 := n3_
      have HB := n4_
      have BK201 := n5_
      have GW201 := n6_
      have GE201 := n7_
      have NB188_201 := n8_
      have NB201_188 := n9_
      have NB189_201 := n10_
      have NB201_189 := n11_
      clear n0_ n1_ n2_ n3_ n4_ n5_ n6_ n7_ n8_ n9_ n10_ n11_
      clear hb hbox hg
      refine hK.out _ _ ⟨(blk_cell BK188.out 0).trans rfl, (blk_cell BK189.out 0).trans rfl, (blk_cell BK189.out 1).trans rfl, (blk_cell BK189.out 2).trans rfl⟩ (fun hHeld => ?_)
      clear hK K
      refine norm_ (a' := ?_) ?_ ?_
      rotate_left
      ·show Act.put _ (some 6) _ = _
       simp only [Act.put, List.setIfInBounds_toArray, List.set_cons_zero, List.set_cons_succ, i64_w, i32_w]
       rfl
      exact norm_ (by simp only [putAll, Act.put, List.setIfInBounds_toArray, List.set_cons_zero, List.set_cons_succ]) (hCont (.slice Ao25 t191.length co25, v198, gb201) _ ⟨hHeld, (by (with_reducible repeat (first | apply Kd.R_alloc | apply Kd.R_drewN | apply Kd.R_drew)); exact Kd.R_mono HO193.out (fun _ hk => hk.2)), (by (with_reducible repeat (first | apply Kd.R_alloc | apply Kd.R_drewN | apply Kd.R_drew)); exact Kd.R_mono HO199.out (fun _ hk => hk.2)), (Lam.bq BK188.out), (Lam.bq BK189.out), (Lam.bq BK201.out), GW201.out, GE201.out, NB188_201.out, NB201_188.out, NB189_201.out, NB201_189.out, Lam.al⟩)
     ·skip
      refine box_step ?hg (N := 6) ?hd (cs := #[.slice none 0 0]) (t := 42) ?hr ?_; (case hd => rfl); (case hg => rfl); (case hr => first | (go_simp; done) | (go_simp; rfl))
      intro gb201 hg w25 hbox hb
      have n0_ := Aside0.mk (Kd.R_below (Lam.rq HO193.out) hb)
      have n1_ := Aside0.mk (blk_below (g := gb188) (o := .cells #[.slice A0_0 l0_0.length c0_0] 37 (0, 0)) (Lam.bq BK188.out) hb)
      have n2_ := Aside0.mk (blk_below (g := gb189) (o := .cells #[.int .i64 a1_0, .int .i64 a1_1, .int .i64 a1_2] 30 (0, 0)) (Lam.bq BK189.out) hb)
      have n3_ := Aside0.mk (below_step Lam.al hb)
      have n4_ := Aside0.mk (hbox)
      have n5_ := Aside0.mk ((by rw [hg]; exact (below_size Lam.al) : w.heap.size ≤ gb201))
      have n6_ := Aside0.mk ((by rw [hg]; exact (below_size Lam.al) : w.heap.size ≤ gb201))
      have n7_ := Aside0.mk ((by rw [hg]; exact Nat.ne_of_lt (blk_lt (g := gb188) (o := .cells #[.slice A0_0 l0_0.length c0_0] 37 (0, 0)) (Lam.bq BK188.out)) : gb188 ≠ gb201))
      have n8_ := Aside0.mk ((by rw [hg]; exact Nat.ne_of_gt (blk_lt (g := gb188) (o := .cells #[.slice A0_0 l0_0.length c0_0] 37 (0, 0)) (Lam.bq BK188.out)) : gb201 ≠ gb188))
      have n9_ := Aside0.mk ((by rw [hg]; exact Nat.ne_of_lt (blk_lt (g := gb189) (o := .cells #[.int .i64 a1_0, .int .i64 a1_1, .int .i64 a1_2] 30 (0, 0)) (Lam.bq BK189.out)) : gb189 ≠ gb201))
      have n10_ := Aside0.mk ((by rw [hg]; exact Nat.ne_of_gt (blk_lt (g := gb189) (o := .cells #[.int .i64 a1_0, .int .i64 a1_1, .int .i64 a1_2] 30 (0, 0)) (Lam.bq BK189.out)) : gb201 ≠ gb189))
      clear HO193
      clear BK188
      clear BK189
      clear HB
      have HO193 := n0_
      have BK188 := n1_
      have BK189 := n2_
      have HB := n3_
      have BK201 := n4_
      have GW201 := n5_
      have GE201 := n6_
      have NB188_201 := n7_
      have NB201_188 := n8_
      have NB189_201 := n9_
      have NB201_189 := n10_
      clear n0_ n1_ n2_ n3_ n4_ n5_ n6_ n7_ n8_ n9_ n10_
      clear hb hbox hg
      obtain ⟨Ao26, co26, eo26⟩ := Kd.R_slice HO193.out
      (first | subst eo26 | (injection eo26 with f1_ f2_ f3_; have f4_ := f1_.symm; have f5_ := f3_.symm; clear f1_ f2_ f3_; subst f4_; subst f5_))
      refine hK.out _ _ ⟨(blk_cell BK188.out 0).trans rfl, (blk_cell BK189.out 0).trans rfl, (blk_cell BK189.out 1).trans rfl, (blk_cell BK189.out 2).trans rfl⟩ (fun hHeld => ?_)
      clear hK K
      refine norm_ (a' := ?_) ?_ ?_
      rotate_left
      ·show Act.put _ (some 6) _ = _
       simp only [Act.put, List.setIfInBounds_toArray, List.set_cons_zero, List.set_cons_succ, i64_w, i32_w]
       rfl
      refine one_ (i := 4) (N := some 26) #[true, true, true, true, true, false, false, false, true, false, false] rfl rfl (one_of HT_.out (by kernel_rfl)) (by decide) (fun K hK => ?_)
      refine goes_ Try.func38 (by kernel_rfl) rfl #[.agg #[.slice Ao26 t191.length co26], .agg #[.int .i64 t194, .int .i64 t195, .int .i64 t196]] (by rfl) rfl rfl (by (try simp only [List.map_toArray, List.map_cons, List.map_nil]); first | done | rfl | (simp only [List.length_drop, List.length_take]; rfl)) ?_
      with_reducible refine (spec_AddClue.calls k _ _ t191 t194 t195 t196 t197 t200 _ ?side1 ?side2 A12.out).mono ?_
      (case side1 => repeat (first | exact (Kd.R_reads' HO193.out).2.2 | (with_reducible refine Kd.C_alloc ?_ _) | (with_reducible refine Kd.C_drewN ?_ _) | (with_reducible refine Kd.C_drew ?_)))
      (case side2 => exact (Kd.R_reads' HO193.out).2.1)
      rintro e w27 ⟨v198, rfl, ho0, hb⟩
      refine ⟨_, rfl, ?_⟩
      have n0_ := Aside0.mk (Kd.R_elder' (Lam.rq HO193.out) (Kd.R_base ho0) hb)
      have n1_ := Aside0.mk (Kd.R_lower (Kd.R_new' ho0 (Kd.R_lt (Lam.rq HO193.out))) (below_size Lam.al))
      have n2_ := Aside0.mk (blk_below (g := gb188) (o := .cells #[.slice A0_0 l0_0.length c0_0] 37 (0, 0)) (Lam.bq BK188.out) hb)
      have n3_ := Aside0.mk (blk_below (g := gb189) (o := .cells #[.int .i64 a1_0, .int .i64 a1_1, .int .i64 a1_2] 30 (0, 0)) (Lam.bq BK189.out) hb)
      have n4_ := Aside0.mk (blk_below (g := gb201) (o := .cells #[.slice none 0 0] 42 (0, 0)) (Lam.bq BK201.out) hb)
      have n5_ := Aside0.mk (below_step Lam.al hb)
      clear HO193
      clear BK188
      clear BK189
      clear BK201
      clear HB
      have HO193 := n0_
      have HO199 := n1_
      have BK188 := n2_
      have BK189 := n3_
      have BK201 := n4_
      have HB := n5_
      clear n0_ n1_ n2_ n3_ n4_ n5_
      (try clear hb)
      (try clear hb2)
      (try clear hk)
      (try clear hi)
      (try clear ho0)
      refine hK.out _ _ ⟨(blk_cell BK188.out 0).trans rfl, (blk_cell BK189.out 0).trans rfl, (blk_cell BK189.out 1).trans rfl, (blk_cell BK189.out 2).trans rfl⟩ (fun hHeld => ?_)
      clear hK K
      refine norm_ (a' := ?_) ?_ ?_
      rotate_left
      ·show Act.put _ (some 26) _ = _
       simp only [Act.put, List.setIfInBounds_toArray, List.set_cons_zero, List.set_cons_succ, i64_w, i32_w]
       rfl
      refine pure_ (i := 5) (N := some 21) (v := ?_) (a' := ?_) #[true, true, true, true, true, true, false, false, true, false, false] rfl rfl (any_of HT_.out (by kernel_rfl)) (fun _ _ _ h => h) (Or.inl ⟨by rfl, ?_⟩) ?_ ?_
      rotate_left
      ·intro w'
       go_simp
       with_reducible rfl
      rotate_left
      ·simp only [Act.put, List.setIfInBounds_toArray, List.set_cons_zero, List.set_cons_succ, i64_w, i32_w]
       rfl
      refine pure_ (i := 6) (N := some 27) (v := ?_) (a' := ?_) #[true, true, true, true, true, true, true, false, true, false, false] rfl rfl (any_of HT_.out (by kernel_rfl)) (fun _ _ _ h => h) (Or.inl ⟨by rfl, ?_⟩) ?_ ?_
      rotate_left
      ·intro w'
       go_simp
       with_reducible rfl
      rotate_left
      ·simp only [Act.put, List.setIfInBounds_toArray, List.set_cons_zero, List.set_cons_succ, i64_w, i32_w]
       rfl
      refine pure_ (i := 7) (N := some 28) (v := ?_) (a' := ?_) #[true, true, true, true, true, true, true, true, true, false, false] rfl rfl (any_of HT_.out (by kernel_rfl)) (fun _ _ _ h => h) (Or.inl ⟨by rfl, ?_⟩) ?_ ?_
      rotate_left
      ·intro w'
       go_simp
       with_reducible rfl
      rotate_left
      ·simp only [Act.put, List.setIfInBounds_toArray, List.set_cons_zero, List.set_cons_succ, i64_w, i32_w]
       rfl
      exact norm_ (by simp only [putAll, Act.put, List.setIfInBounds_toArray, List.set_cons_zero, List.set_cons_succ]) (hCont (.slice Ao26 t191.length co26, v198, gb201) _ ⟨hHeld, (by (with_reducible repeat (first | apply Kd.R_alloc | apply Kd.R_drewN | apply Kd.R_drew)); exact Kd.R_mono HO193.out (fun _ hk => hk.2)), (by (with_reducible repeat (first | apply Kd.R_alloc | apply Kd.R_drewN | apply Kd.R_drew)); exact Kd.R_mono HO199.out (fun _ hk => hk.2)), (Lam.bq BK188.out), (Lam.bq BK189.out), (Lam.bq BK201.out), GW201.out, GE201.out, NB188_201.out, NB201_188.out, NB189_201.out, NB201_189.out, Lam.al⟩)
    ·skip
     refine box_step ?hg (N := 6) ?hd (cs := #[.slice none 0 0]) (t := 42) ?hr ?_; (case hd => rfl); (case hg => rfl); (case hr => first | (go_simp; done) | (go_simp; rfl))
     intro gb201 hg w24 hbox hb
     have n0_ := Aside0.mk (Kd.R_below (Lam.rq HO193.out) hb)
     have n1_ := Aside0.mk (blk_below (g := gb188) (o := .cells #[.slice A0_0 l0_0.length c0_0] 37 (0, 0)) (Lam.bq BK188.out) hb)
     have n2_ := Aside0.mk (blk_below (g := gb189) (o := .cells #[.int .i64 a1_0, .int .i64 a1_1, .int .i64 a1_2] 30 (0, 0)) (Lam.bq BK189.out) hb)
     have n3_ := Aside0.mk (below_step Lam.al hb)
     have n4_ := Aside0.mk (hbox)
     have n5_ := Aside0.mk ((by rw [hg]; exact (below_size Lam.al) : w.heap.size ≤ gb201))
     have n6_ := Aside0.mk ((by rw [hg]; exact (below_size Lam.al) : w.heap.size ≤ gb201))
     have n7_ := Aside0.mk ((by rw [hg]; exact Nat.ne_of_lt (blk_lt (g := gb188) (o := .cells #[.slice A0_0 l0_0.length c0_0] 37 (0, 0)) (Lam.bq BK188.out)) : gb188 ≠ gb201))
     have n8_ := Aside0.mk ((by rw [hg]; exact Nat.ne_of_gt (blk_lt (g := gb188) (o := .cells #[.slice A0_0 l0_0.length c0_0] 37 (0, 0)) (Lam.bq BK188.out)) : gb201 ≠ gb188))
     have n9_ := Aside0.mk ((by rw [hg]; exact Nat.ne_of_lt (blk_lt (g := gb189) (o := .cells #[.int .i64 a1_0, .int .i64 a1_1, .int .i64 a1_2] 30 (0, 0)) (Lam.bq BK189.out)) : gb189 ≠ gb201))
     have n10_ := Aside0.mk ((by rw [hg]; exact Nat.ne_of_gt (blk_lt (g := gb189) (o := .cells #[.int .i64 a1_0, .int .i64 a1_1, .int .i64 a1_2] 30 (0, 0)) (Lam.bq BK189.out)) : gb201 ≠ gb189))
     clear HO193
     clear BK188
     clear BK189
     clear HB
     have HO193 := n0_
     have BK188 := n1_
     have BK189 := n2_
     have HB := n3_
     have BK201 := n4_
     have GW201 := n5_
     have GE201 := n6_
     have NB188_201 := n7_
     have NB201_188 := n8_
     have NB189_201 := n9_
     have NB201_189 := n10_
     clear n0_ n1_ n2_ n3_ n4_ n5_ n6_ n7_ n8_ n9_ n10_
     clear hb hbox hg
     refine hK.out _ _ ⟨(blk_cell BK188.out 0).trans rfl, (blk_cell BK189.out 0).trans rfl, (blk_cell BK189.out 1).trans rfl, (blk_cell BK189.out 2).trans rfl⟩ (fun hHeld => ?_)
     clear hK K
     refine norm_ (a' := ?_) ?_ ?_
     rotate_left
     ·show Act.put _ (some 6) _ = _
      simp only [Act.put, List.setIfInBounds_toArray, List.set_cons_zero, List.set_cons_succ, i64_w, i32_w]
      rfl
     refine one_ (i := 3) (N := some 25) #[true, true, true, true, false, false, false, false, true, false, false] rfl rfl (one_of HT_.out (by kernel_rfl)) (by decide) (fun K hK => ?_)
     refine goes_ Try.func17 (by kernel_rfl) rfl #[.agg #[.int .i64 a1_0, .int .i64 a1_1, .int .i64 a1_2]] (by rfl) rfl rfl (by (try simp only [List.map_toArray, List.map_cons, List.map_nil]); first | done | rfl | (simp only [List.length_drop, List.length_take]; rfl)) ?_
     with_reducible refine (laws_toClue.calls a1_0 a1_1 a1_2 t194 t195 t196 _ A11.out).mono ?_
     rintro e w25 ⟨rfl, hb⟩
     refine ⟨_, rfl, ?_⟩
     have n0_ := Aside0.mk (Kd.R_below (Lam.rq HO193.out) hb)
     have n1_ := Aside0.mk (blk_below (g := gb188) (o := .cells #[.slice A0_0 l0_0.length c0_0] 37 (0, 0)) (Lam.bq BK188.out) hb)
     have n2_ := Aside0.mk (blk_below (g := gb189) (o := .cells #[.int .i64 a1_0, .int .i64 a1_1, .int .i64 a1_2] 30 (0, 0)) (Lam.bq BK189.out) hb)
     have n3_ := Aside0.mk (blk_below (g := gb201) (o := .cells #[.slice none 0 0] 42 (0, 0)) (Lam.bq BK201.out) hb)
     have n4_ := Aside0.mk (below_step Lam.al hb)
     clear HO193
     clear BK188
     clear BK189
     clear BK201
     clear HB
     have HO193 := n0_
     have BK188 := n1_
     have BK189 := n2_
     have BK201 := n3_
     have HB := n4_
     clear n0_ n1_ n2_ n3_ n4_
     (try clear hb)
     (try clear hb2)
     (try clear hk)
     (try clear hi)
     obtain ⟨Ao26, co26, eo26⟩ := Kd.R_slice HO193.out
     (first | subst eo26 | (injection eo26 with f1_ f2_ f3_; have f4_ := f1_.symm; have f5_ := f3_.symm; clear f1_ f2_ f3_; subst f4_; subst f5_))
     refine hK.out _ _ ⟨(blk_cell BK188.out 0).trans rfl, (blk_cell BK189.out 0).trans rfl, (blk_cell BK189.out 1).trans rfl, (blk_cell BK189.out 2).trans rfl⟩ (fun hHeld => ?_)
     clear hK K
     refine norm_ (a' := ?_) ?_ ?_
     rotate_left
     ·show Act.put _ (some 25) _ = _
      simp only [Act.put, List.setIfInBounds_toArray, List.set_cons_zero, List.set_cons_succ, i64_w, i32_w]
      rfl
     refine one_ (i := 4) (N := some 26) #[true, true, true, true, true, false, false, false, true, false, false] rfl rfl (one_of HT_.out (by kernel_rfl)) (by decide) (fun K hK => ?_)
     refine goes_ Try.func38 (by kernel_rfl) rfl #[.agg #[.slice Ao26 t191.length co26], .agg #[.int .i64 t194, .int .i64 t195, .int .i64 t196]] (by rfl) rfl rfl (by (try simp only [List.map_toArray, List.map_cons, List.map_nil]); first | done | rfl | (simp only [List.length_drop, List.length_take]; rfl)) ?_
     with_reducible refine (spec_AddClue.calls k _ _ t191 t194 t195 t196 t197 t200 _ ?side1 ?side2 A12.out).mono ?_
     (case side1 => repeat (first | exact (Kd.R_reads' HO193.out).2.2 | (with_reducible refine Kd.C_alloc ?_ _) | (with_reducible refine Kd.C_drewN ?_ _) | (with_reducible refine Kd.C_drew ?_)))
     (case side2 => exact (Kd.R_reads' HO193.out).2.1)
     rintro e w27 ⟨v198, rfl, ho0, hb⟩
     refine ⟨_, rfl, ?_⟩
     have n0_ := Aside0.mk (Kd.R_elder' (Lam.rq HO193.out) (Kd.R_base ho0) hb)
     have n1_ := Aside0.mk (Kd.R_lower (Kd.R_new' ho0 (Kd.R_lt (Lam.rq HO193.out))) (below_size Lam.al))
     have n2_ := Aside0.mk (blk_below (g := gb188) (o := .cells #[.slice A0_0 l0_0.length c0_0] 37 (0, 0)) (Lam.bq BK188.out) hb)
     have n3_ := Aside0.mk (blk_below (g := gb189) (o := .cells #[.int .i64 a1_0, .int .i64 a1_1, .int .i64 a1_2] 30 (0, 0)) (Lam.bq BK189.out) hb)
     have n4_ := Aside0.mk (blk_below (g := gb201) (o := .cells #[.slice none 0 0] 42 (0, 0)) (Lam.bq BK201.out) hb)
     have n5_ := Aside0.mk (below_step Lam.al hb)
     clear HO193
     clear BK188
     clear BK189
     clear BK201
     clear HB
     have HO193 := n0_
     have HO199 := n1_
     have BK188 := n2_
     have BK189 := n3_
     have BK201 := n4_
     have HB := n5_
     clear n0_ n1_ n2_ n3_ n4_ n5_
     (try clear hb)
     (try clear hb2)
     (try clear hk)
     (try clear hi)
     (try clear ho0)
     refine hK.out _ _ ⟨(blk_cell BK188.out 0).trans rfl, (blk_cell BK189.out 0).trans rfl, (blk_cell BK189.out 1).trans rfl, (blk_cell BK189.out 2).trans rfl⟩ (fun hHeld => ?_)
     clear hK K
     refine norm_ (a' := ?_) ?_ ?_
     rotate_left
     ·show Act.put _ (some 26) _ = _
      simp only [Act.put, List.setIfInBounds_toArray, List.set_cons_zero, List.set_cons_succ, i64_w, i32_w]
      rfl
     refine pure_ (i := 5) (N := some 21) (v := ?_) (a' := ?_) #[true, true, true, true, true, true, false, false, true, false, false] rfl rfl (any_of HT_.out (by kernel_rfl)) (fun _ _ _ h => h) (Or.inl ⟨by rfl, ?_⟩) ?_ ?_
     rotate_left
     ·intro w'
      go_simp
      with_reducible rfl
     rotate_left
     ·simp only [Act.put, List.setIfInBounds_toArray, List.set_cons_zero, List.set_cons_succ, i64_w, i32_w]
      rfl
     refine pure_ (i := 6) (N := some 27) (v := ?_) (a' := ?_) #[true, true, true, true, true, true, true, false, true, false, false] rfl rfl (any_of HT_.out (by kernel_rfl)) (fun _ _ _ h => h) (Or.inl ⟨by rfl, ?_⟩) ?_ ?_
     rotate_left
     ·intro w'
      go_simp
      with_reducible rfl
     rotate_left
     ·simp only [Act.put, List.setIfInBounds_toArray, List.set_cons_zero, List.set_cons_succ, i64_w, i32_w]
      rfl
     refine pure_ (i := 7) (N := some 28) (v := ?_) (a' := ?_) #[true, true, true, true, true, true, true, true, true, false, false] rfl rfl (any_of HT_.out (by kernel_rfl)) (fun _ _ _ h => h) (Or.inl ⟨by rfl, ?_⟩) ?_ ?_
     rotate_left
     ·intro w'
      go_simp
      with_reducible rfl
     rotate_left
     ·simp only [Act.put, List.setIfInBounds_toArray, List.set_cons_zero, List.set_cons_succ, i64_w, i32_w]
      rfl
     exact norm_ (by simp only [putAll, Act.put, List.setIfInBounds_toArray, List.set_cons_zero, List.set_cons_succ]) (hCont (.slice Ao26 t191.length co26, v198, gb201) _ ⟨hHeld, (by (with_reducible repeat (first | apply Kd.R_alloc | apply Kd.R_drewN | apply Kd.R_drew)); exact Kd.R_mono HO193.out (fun _ hk => hk.2)), (by (with_reducible repeat (first | apply Kd.R_alloc | apply Kd.R_drewN | apply Kd.R_drew)); exact Kd.R_mono HO199.out (fun _ hk => hk.2)), (Lam.bq BK188.out), (Lam.bq BK189.out), (Lam.bq BK201.out), GW201.out, GE201.out, NB188_201.out, NB201_188.out, NB189_201.out, NB201_189.out, Lam.al⟩)
   ·skip
    refine box_step ?hg (N := 6) ?hd (cs := #[.slice none 0 0]) (t := 42) ?hr ?_; (case hd => rfl); (case hg => rfl); (case hr => first | (go_simp; done) | (go_simp; rfl))
    intro gb201 hg w23 hbox hb
    have n0_ := Aside0.mk (blk_below (g := gb188) (o := .cells #[.slice A0_0 l0_0.length c0_0] 37 (0, 0)) (Lam.bq BK188.out) hb)
    have n1_ := Aside0.mk (blk_below (g := gb189) (o := .cells #[.int .i64 a1_0, .int .i64 a1_1, .int .i64 a1_2] 30 (0, 0)) (Lam.bq BK189.out) hb)
    have n2_ := Aside0.mk (below_step Lam.al hb)
    have n3_ := Aside0.mk (hbox)
    have n4_ := Aside0.mk ((by rw [hg]; exact (below_size Lam.al) : w.heap.size ≤ gb201))
    have n5_ := Aside0.mk ((by rw [hg]; exact (below_size Lam.al) : w.heap.size ≤ gb201))
    have n6_ := Aside0.mk ((by rw [hg]; exact Nat.ne_of_lt (blk_lt (g := gb188) (o := .cells #[.slice A0_0 l0_0.length c0_0] 37 (0, 0)) (Lam.bq BK188.out)) : gb188 ≠ gb201))
    have n7_ := Aside0.mk ((by rw [hg]; exact Nat.ne_of_gt (blk_lt (g := gb188) (o := .cells #[.slice A0_0 l0_0.length c0_0] 37 (0, 0)) (Lam.bq BK188.out)) : gb201 ≠ gb188))
    have n8_ := Aside0.mk ((by rw [hg]; exact Nat.ne_of_lt (blk_lt (g := gb189) (o := .cells #[.int .i64 a1_0, .int .i64 a1_1, .int .i64 a1_2] 30 (0, 0)) (Lam.bq BK189.out)) : gb189 ≠ gb201))
    have n9_ := Aside0.mk ((by rw [hg]; exact Nat.ne_of_gt (blk_lt (g := gb189) (o := .cells #[.int .i64 a1_0, .int .i64 a1_1, .int .i64 a1_2] 30 (0, 0)) (Lam.bq BK189.out)) : gb201 ≠ gb189))
    clear BK188
    clear BK189
    clear HB
    have BK188 := n0_
    have BK189 := n1_
    have HB := n2_
    have BK201 := n3_
    have GW201 := n4_
    have GE201 := n5_
    have NB188_201 := n6_
    have NB201_188 := n7_
    have NB189_201 := n8_
    have NB201_189 := n9_
    clear n0_ n1_ n2_ n3_ n4_ n5_ n6_ n7_ n8_ n9_
    clear hb hbox hg
    refine hK.out _ _ ⟨(blk_cell BK188.out 0).trans rfl, (blk_cell BK189.out 0).trans rfl, (blk_cell BK189.out 1).trans rfl, (blk_cell BK189.out 2).trans rfl⟩ (fun hHeld => ?_)
    clear hK K
    refine norm_ (a' := ?_) ?_ ?_
    rotate_left
    ·show Act.put _ (some 6) _ = _
     simp only [Act.put, List.setIfInBounds_toArray, List.set_cons_zero, List.set_cons_succ, i64_w, i32_w]
     rfl
    refine one_ (i := 1) (N := some 23) #[true, true, true, false, false, false, false, false, true, false, false] rfl rfl (one_of HT_.out (by kernel_rfl)) (by decide) (fun K hK => ?_)
    refine goes_ Try.func21 (by kernel_rfl) rfl #[.agg #[.slice A0_0 l0_0.length c0_0]] (by rfl) rfl rfl (by (try simp only [List.map_toArray, List.map_cons, List.map_nil]); first | done | rfl | (simp only [List.length_drop, List.length_take]; rfl)) ?_
    with_reducible refine (laws_toPuzzle.calls k _ _ l0_0 t191 _ ?side1 ?side2 A10.out).mono ?_
    (case side1 => repeat (first | exact (Kd.C_below HR0_0.out HB.out) | (with_reducible refine Kd.C_alloc ?_ _) | (with_reducible refine Kd.C_drewN ?_ _) | (with_reducible refine Kd.C_drew ?_)))
    (case side2 => exact HC0_0.out)
    rintro e w24 ⟨v192, rfl, ho0, hb⟩
    refine ⟨_, rfl, ?_⟩
    have n0_ := Aside0.mk (Kd.R_lower ho0 (below_size Lam.al))
    have n1_ := Aside0.mk (blk_below (g := gb188) (o := .cells #[.slice A0_0 l0_0.length c0_0] 37 (0, 0)) (Lam.bq BK188.out) hb)
    have n2_ := Aside0.mk (blk_below (g := gb189) (o := .cells #[.int .i64 a1_0, .int .i64 a1_1, .int .i64 a1_2] 30 (0, 0)) (Lam.bq BK189.out) hb)
    have n3_ := Aside0.mk (blk_below (g := gb201) (o := .cells #[.slice none 0 0] 42 (0, 0)) (Lam.bq BK201.out) hb)
    have n4_ := Aside0.mk (below_step Lam.al hb)
    clear BK188
    clear BK189
    clear BK201
    clear HB
    have HO193 := n0_
    have BK188 := n1_
    have BK189 := n2_
    have BK201 := n3_
    have HB := n4_
    clear n0_ n1_ n2_ n3_ n4_
    (try clear hb)
    (try clear hb2)
    (try clear hk)
    (try clear hi)
    (try clear ho0)
    refine hK.out _ _ ⟨(blk_cell BK188.out 0).trans rfl, (blk_cell BK189.out 0).trans rfl, (blk_cell BK189.out 1).trans rfl, (blk_cell BK189.out 2).trans rfl⟩ (fun hHeld => ?_)
    clear hK K
    refine norm_ (a' := ?_) ?_ ?_
    rotate_left
    ·show Act.put _ (some 23) _ = _
     simp only [Act.put, List.setIfInBounds_toArray, List.set_cons_zero, List.set_cons_succ, i64_w, i32_w]
     rfl
    refine one_ (i := 3) (N := some 25) #[true, true, true, true, false, false, false, false, true, false, false] rfl rfl (one_of HT_.out (by kernel_rfl)) (by decide) (fun K hK => ?_)
    refine goes_ Try.func17 (by kernel_rfl) rfl #[.agg #[.int .i64 a1_0, .int .i64 a1_1, .int .i64 a1_2]] (by rfl) rfl rfl (by (try simp only [List.map_toArray, List.map_cons, List.map_nil]); first | done | rfl | (simp only [List.length_drop, List.length_take]; rfl)) ?_
    with_reducible refine (laws_toClue.calls a1_0 a1_1 a1_2 t194 t195 t196 _ A11.out).mono ?_
    rintro e w25 ⟨rfl, hb⟩
    refine ⟨_, rfl, ?_⟩
    have n0_ := Aside0.mk (Kd.R_below (Lam.rq HO193.out) hb)
    have n1_ := Aside0.mk (blk_below (g := gb188) (o := .cells #[.slice A0_0 l0_0.length c0_0] 37 (0, 0)) (Lam.bq BK188.out) hb)
    have n2_ := Aside0.mk (blk_below (g := gb189) (o := .cells #[.int .i64 a1_0, .int .i64 a1_1, .int .i64 a1_2] 30 (0, 0)) (Lam.bq BK189.out) hb)
    have n3_ := Aside0.mk (blk_below (g := gb201) (o := .cells #[.slice none 0 0] 42 (0, 0)) (Lam.bq BK201.out) hb)
    have n4_ := Aside0.mk (below_step Lam.al hb)
    clear HO193
    clear BK188
    clear BK189
    clear BK201
    clear HB
    have HO193 := n0_
    have BK188 := n1_
    have BK189 := n2_
    have BK201 := n3_
    have HB := n4_
    clear n0_ n1_ n2_ n3_ n4_
    (try clear hb)
    (try clear hb2)
    (try clear hk)
    (try clear hi)
    obtain ⟨Ao26, co26, eo26⟩ := Kd.R_slice HO193.out
    (first | subst eo26 | (injection eo26 with f1_ f2_ f3_; have f4_ := f1_.symm; have f5_ := f3_.symm; clear f1_ f2_ f3_; subst f4_; subst f5_))
    refine hK.out _ _ ⟨(blk_cell BK188.out 0).trans rfl, (blk_cell BK189.out 0).trans rfl, (blk_cell BK189.out 1).trans rfl, (blk_cell BK189.out 2).trans rfl⟩ (fun hHeld => ?_)
    clear hK K
    refine norm_ (a' := ?_) ?_ ?_
    rotate_left
    ·show Act.put _ (some 25) _ = _
     simp only [Act.put, List.setIfInBounds_toArray, List.set_cons_zero, List.set_cons_succ, i64_w, i32_w]
     rfl
    refine one_ (i := 4) (N := some 26) #[true, true, true, true, true, false, false, false, true, false, false] rfl rfl (one_of HT_.out (by kernel_rfl)) (by decide) (fun K hK => ?_)
    refine goes_ Try.func38 (by kernel_rfl) rfl #[.agg #[.slice Ao26 t191.length co26], .agg #[.int .i64 t194, .int .i64 t195, .int .i64 t196]] (by rfl) rfl rfl (by (try simp only [List.map_toArray, List.map_cons, List.map_nil]); first | done | rfl | (simp only [List.length_drop, List.length_take]; rfl)) ?_
    with_reducible refine (spec_AddClue.calls k _ _ t191 t194 t195 t196 t197 t200 _ ?side1 ?side2 A12.out).mono ?_
    (case side1 => repeat (first | exact (Kd.R_reads' HO193.out).2.2 | (with_reducible refine Kd.C_alloc ?_ _) | (with_reducible refine Kd.C_drewN ?_ _) | (with_reducible refine Kd.C_drew ?_)))
    (case side2 => exact (Kd.R_reads' HO193.out).2.1)
    rintro e w27 ⟨v198, rfl, ho0, hb⟩
    refine ⟨_, rfl, ?_⟩
    have n0_ := Aside0.mk (Kd.R_elder' (Lam.rq HO193.out) (Kd.R_base ho0) hb)
    have n1_ := Aside0.mk (Kd.R_lower (Kd.R_new' ho0 (Kd.R_lt (Lam.rq HO193.out))) (below_size Lam.al))
    have n2_ := Aside0.mk (blk_below (g := gb188) (o := .cells #[.slice A0_0 l0_0.length c0_0] 37 (0, 0)) (Lam.bq BK188.out) hb)
    have n3_ := Aside0.mk (blk_below (g := gb189) (o := .cells #[.int .i64 a1_0, .int .i64 a1_1, .int .i64 a1_2] 30 (0, 0)) (Lam.bq BK189.out) hb)
    have n4_ := Aside0.mk (blk_below (g := gb201) (o := .cells #[.slice none 0 0] 42 (0, 0)) (Lam.bq BK201.out) hb)
    have n5_ := Aside0.mk (below_step Lam.al hb)
    clear HO193
    clear BK188
    clear BK189
    clear BK201
    clear HB
    have HO193 := n0_
    have HO199 := n1_
    have BK188 := n2_
    have BK189 := n3_
    have BK201 := n4_
    have HB := n5_
    clear n0_ n1_ n2_ n3_ n4_ n5_
    (try clear hb)
    (try clear hb2)
    (try clear hk)
    (try clear hi)
    (try clear ho0)
    refine hK.out _ _ ⟨(blk_cell BK188.out 0).trans rfl, (blk_cell BK189.out 0).trans rfl, (blk_cell BK189.out 1).trans rfl, (blk_cell BK189.out 2).trans rfl⟩ (fun hHeld => ?_)
    clear hK K
    refine norm_ (a' := ?_) ?_ ?_
    rotate_left
    ·show Act.put _ (some 26) _ = _
     simp only [Act.put, List.setIfInBounds_toArray, List.set_cons_zero, List.set_cons_succ, i64_w, i32_w]
     rfl
    refine pure_ (i := 5) (N := some 21) (v := ?_) (a' := ?_) #[true, true, true, true, true, true, false, false, true, false, false] rfl rfl (any_of HT_.out (by kernel_rfl)) (fun _ _ _ h => h) (Or.inl ⟨by rfl, ?_⟩) ?_ ?_
    rotate_left
    ·intro w'
     go_simp
     with_reducible rfl
    rotate_left
    ·simp only [Act.put, List.setIfInBounds_toArray, List.set_cons_zero, List.set_cons_succ, i64_w, i32_w]
     rfl
    refine pure_ (i := 6) (N := some 27) (v := ?_) (a' := ?_) #[true, true, true, true, true, true, true, false, true, false, false] rfl rfl (any_of HT_.out (by kernel_rfl)) (fun _ _ _ h => h) (Or.inl ⟨by rfl, ?_⟩) ?_ ?_
    rotate_left
    ·intro w'
     go_simp
     with_reducible rfl
    rotate_left
    ·simp only [Act.put, List.setIfInBounds_toArray, List.set_cons_zero, List.set_cons_succ, i64_w, i32_w]
     rfl
    refine pure_ (i := 7) (N := some 28) (v := ?_) (a' := ?_) #[true, true, true, true, true, true, true, true, true, false, false] rfl rfl (any_of HT_.out (by kernel_rfl)) (fun _ _ _ h => h) (Or.inl ⟨by rfl, ?_⟩) ?_ ?_
    rotate_left
    ·intro w'
     go_simp
     with_reducible rfl
    rotate_left
    ·simp only [Act.put, List.setIfInBounds_toArray, List.set_cons_zero, List.set_cons_succ, i64_w, i32_w]
     rfl
    exact norm_ (by simp only [putAll, Act.put, List.setIfInBounds_toArray, List.set_cons_zero, List.set_cons_succ]) (hCont (.slice Ao26 t191.length co26, v198, gb201) _ ⟨hHeld, (by (with_reducible repeat (first | apply Kd.R_alloc | apply Kd.R_drewN | apply Kd.R_drew)); exact Kd.R_mono HO193.out (fun _ hk => hk.2)), (by (with_reducible repeat (first | apply Kd.R_alloc | apply Kd.R_drewN | apply Kd.R_drew)); exact Kd.R_mono HO199.out (fun _ hk => hk.2)), (Lam.bq BK188.out), (Lam.bq BK189.out), (Lam.bq BK201.out), GW201.out, GE201.out, NB188_201.out, NB201_188.out, NB189_201.out, NB201_189.out, Lam.al⟩)
  rintro ⟨v192, v198, gb201⟩ w28 ⟨hS_, h0_, h1_, h2_, h3_, h4_, h5_, h6_, h7_, h8_, h9_, h10_, h11_⟩
  have n0_ : Aside0 (Kd.R k32 32 w28 w.heap.size (fun k_ => some k_ ≠ (v198 : Value).ownBlock) v192 t191) := ⟨h0_⟩
  have n1_ : Aside0 (Kd.R k32 32 w28 w.heap.size (fun k_ => some k_ ≠ (v192 : Value).ownBlock) v198 t197) := ⟨h1_⟩
  have n2_ : Aside0 (w28.heap[gb188]? = some (.cells #[.slice A0_0 l0_0.length c0_0] 37 (0, 0))) := ⟨h2_⟩
  have n3_ : Aside0 (w28.heap[gb189]? = some (.cells #[.int .i64 a1_0, .int .i64 a1_1, .int .i64 a1_2] 30 (0, 0))) := ⟨h3_⟩
  have n4_ : Aside0 (w28.heap[gb201]? = some (.cells #[.slice none 0 0] 42 (0, 0))) := ⟨h4_⟩
  have n5_ : Aside0 (w.heap.size ≤ gb201) := ⟨h5_⟩
  have n6_ : Aside0 (w.heap.size ≤ gb201) := ⟨h6_⟩
  have n7_ : Aside0 (gb188 ≠ gb201) := ⟨h7_⟩
  have n8_ : Aside0 (gb201 ≠ gb188) := ⟨h8_⟩
  have n9_ : Aside0 (gb189 ≠ gb201) := ⟨h9_⟩
  have n10_ : Aside0 (gb201 ≠ gb189) := ⟨h10_⟩
  have n11_ : Aside0 (Below w.heap.size w w28) := ⟨h11_⟩
  clear BK188
  clear BK189
  clear HB
  clear h0_ h1_ h2_ h3_ h4_ h5_ h6_ h7_ h8_ h9_ h10_ h11_
  have HO193 := n0_
  have HO199 := n1_
  have BK188 := n2_
  have BK189 := n3_
  have BK201 := n4_
  have GW201 := n5_
  have GE201 := n6_
  have NB188_201 := n7_
  have NB201_188 := n8_
  have NB189_201 := n9_
  have NB201_189 := n10_
  have HB := n11_
  clear n0_ n1_ n2_ n3_ n4_ n5_ n6_ n7_ n8_ n9_ n10_ n11_
  have hHeld : w28.cell? ⟨gb188, 0, none⟩ = some (.slice A0_0 l0_0.length c0_0) ∧ w28.cell? ⟨gb189, 0, none⟩ = some (.int .i64 a1_0) ∧ w28.cell? ⟨gb189, 1, none⟩ = some (.int .i64 a1_1) ∧ w28.cell? ⟨gb189, 2, none⟩ = some (.int .i64 a1_2) := hS_
  obtain ⟨Ao29, co29, eo29⟩ := Kd.R_slice HO199.out
  (first | subst eo29 | (injection eo29 with f1_ f2_ f3_; have f4_ := f1_.symm; have f5_ := f3_.symm; clear f1_ f2_ f3_; subst f4_; subst f5_))
  refine norm_ (a' := ?_) ?_ ?_
  rotate_left
  ·simp only [putAll, Act.put, List.setIfInBounds_toArray, List.set_cons_zero, List.set_cons_succ]
   rfl
  refine one_ (i := 9) (N := none) #[true, true, true, true, true, true, true, true, true, true, false] rfl rfl (one_of HT_.out (by kernel_rfl)) (by decide) (fun K hK => ?_)
  have hs30 : w28.cell? ⟨gb201, 0, none⟩ = some (.slice none 0 0) := (blk_cell BK201.out 0).trans rfl
  have hfs30 := blk_frozen BK201.out 0
  have hns30_0 := NB188_201.out
  have hns30_1 := NB189_201.out
  have hms30_0 := NB201_188.out
  have hms30_1 := NB201_189.out
  refine skip_ (w1 := ?_) (by rfl) rfl ?_ ?_
  rotate_left
  ·go_simp
   rfl
  refine hK.out _ _ ⟨((cell_far (p := ⟨gb201, _, none⟩) NB188_201.out _).trans (hHeld.1)), ((cell_far (p := ⟨gb201, _, none⟩) NB189_201.out _).trans (hHeld.2.1)), ((cell_far (p := ⟨gb201, _, none⟩) NB189_201.out _).trans (hHeld.2.2.1)), ((cell_far (p := ⟨gb201, _, none⟩) NB189_201.out _).trans (hHeld.2.2.2))⟩ (fun hHeld => ?_)
  clear hK K
  refine pure_ (i := 10) (N := some 7) (v := ?_) (a' := ?_) #[true, true, true, true, true, true, true, true, true, true, true] rfl rfl (any_of HT_.out (by kernel_rfl)) (fun _ _ _ h => h) (Or.inl ⟨by rfl, ?_⟩) ?_ ?_
  rotate_left
  ·intro w'
   go_simp
   with_reducible rfl
  rotate_left
  ·simp only [Act.put, List.setIfInBounds_toArray, List.set_cons_zero, List.set_cons_succ, i64_w, i32_w]
   rfl
  refine done_ (done_of HT_.out (by kernel_rfl)) ?_
  have hnb31 := NB188_201.out
  have hnc31 := NB201_188.out
  have hcz32_0 : w28.cell? ⟨gb188, 0, none⟩ = some (.slice A0_0 l0_0.length c0_0) := (blk_cell BK188.out 0).trans rfl
  have hfz32_0 := blk_frozen BK188.out 0
  try go_wp2_with (first | ((with_reducible refine gate_callee (f := 21) rfl ?_); refine goesL_ (some 30) rfl rfl Try.func21 (by kernel_rfl) rfl #[.agg #[.slice A0_0 l0_0.length c0_0]] rfl (by (try simp only [List.map_toArray, List.map_cons, List.map_nil]); first | done | rfl | (simp only [List.length_drop, List.length_take]; rfl)) ?_; (with_reducible refine (laws_toPuzzle.calls k _ _ l0_0 t202 _ ?side1 ?side2 A13.out).mono ?_); (case side1 => exact Kd.C_below HR0_0.out Lam.al); (case side2 => exact HC0_0.out); rintro e w33 ⟨v203, rfl, ho0, hb⟩; refine ⟨_, rfl, ?_⟩; have n0_ := Aside0.mk (Kd.R_elder' (by (with_reducible repeat (first | apply Kd.R_alloc | apply Kd.R_drewN | apply Kd.R_drew)); exact (Kd.R_mono (Kd.R_far (p := ⟨gb201, 0, none⟩) (Kd.R_types HO193.out BK201.out (by decide)) (fun _ hk => hk.2) (.slice Ao29 t197.length co29)) (fun _ h_ => h_.1))) (Kd.R_base ho0) hb); have n1_ := Aside0.mk (Kd.R_elder' (by (with_reducible repeat (first | apply Kd.R_alloc | apply Kd.R_drewN | apply Kd.R_drew)); exact (Kd.R_mono (Kd.R_far (p := ⟨gb201, 0, none⟩) (Kd.R_types HO199.out BK201.out (by decide)) (fun _ hk => hk.2) (.slice Ao29 t197.length co29)) (fun _ h_ => h_.1))) (Kd.R_base ho0) hb); have n2_ := Aside0.mk (Kd.R_lower (Kd.R_new' (Kd.R_new' ho0 (Kd.R_lt (by (with_reducible repeat (first | apply Kd.R_alloc | apply Kd.R_drewN | apply Kd.R_drew)); exact (Kd.R_mono (Kd.R_far (p := ⟨gb201, 0, none⟩) (Kd.R_types HO193.out BK201.out (by decide)) (fun _ hk => hk.2) (.slice Ao29 t197.length co29)) (fun _ h_ => h_.1))))) (Kd.R_lt (by (with_reducible repeat (first | apply Kd.R_alloc | apply Kd.R_drewN | apply Kd.R_drew)); exact (Kd.R_mono (Kd.R_far (p := ⟨gb201, 0, none⟩) (Kd.R_types HO199.out BK201.out (by decide)) (fun _ hk => hk.2) (.slice Ao29 t197.length co29)) (fun _ h_ => h_.1))))) (below_size Lam.al)); have n3_ := Aside0.mk (blk_below (g := gb188) (o := .cells #[.slice A0_0 l0_0.length c0_0] 37 (0, 0)) (by (with_reducible repeat (first | refine blk_drewN ?_ _ | refine blk_drew ?_ | refine blk_alloc ?_ _)); refine blk_far ?_ NB188_201.out _; (with_reducible repeat (first | refine blk_drewN ?_ _ | refine blk_drew ?_ | refine blk_alloc ?_ _)); exact BK188.out) hb); have n4_ := Aside0.mk (blk_below (g := gb189) (o := .cells #[.int .i64 a1_0, .int .i64 a1_1, .int .i64 a1_2] 30 (0, 0)) (by (with_reducible repeat (first | refine blk_drewN ?_ _ | refine blk_drew ?_ | refine blk_alloc ?_ _)); refine blk_far ?_ NB189_201.out _; (with_reducible repeat (first | refine blk_drewN ?_ _ | refine blk_drew ?_ | refine blk_alloc ?_ _)); exact BK189.out) hb); have n5_ := Aside0.mk (blk_below (g := gb201) (o := .cells #[.slice Ao29 t197.length co29] 42 (0, 0)) (by (with_reducible repeat (first | refine blk_drewN ?_ _ | refine blk_drew ?_ | refine blk_alloc ?_ _)); refine blk_put (cs := #[.slice none 0 0]) ?_ 0 _ rfl; (with_reducible repeat (first | refine blk_drewN ?_ _ | refine blk_drew ?_ | refine blk_alloc ?_ _)); exact BK201.out) hb); have n6_ := Aside0.mk (below_step Lam.al hb); clear HO193; clear HO199; clear BK188; clear BK189; clear BK201; clear HB; have HO193 := n0_; have HO199 := n1_; have HO204 := n2_; have BK188 := n3_; have BK189 := n4_; have BK201 := n5_; have HB := n6_; clear n0_ n1_ n2_ n3_ n4_ n5_ n6_; (try clear hb); (try clear hb2); (try clear hk); (try clear hi); (try clear ho0)) | ((with_reducible refine gate_dst (N := 8) rfl ?_); refine box_event ?hg (N := 8) ?hd (cs := #[.slice none 0 0]) (t := 42) ?hr ?_; (case hd => rfl); (case hg => rfl); (case hr => first | (go_simp; done) | (go_simp; rfl)); intro gb205 hg w34 hbox hb; have n0_ := Aside0.mk (Kd.R_below (Lam.rq HO193.out) hb); have n1_ := Aside0.mk (Kd.R_below (Lam.rq HO199.out) hb); have n2_ := Aside0.mk (Kd.R_below (Lam.rq HO204.out) hb); have n3_ := Aside0.mk (blk_below (g := gb188) (o := .cells #[.slice A0_0 l0_0.length c0_0] 37 (0, 0)) (Lam.bq BK188.out) hb); have n4_ := Aside0.mk (blk_below (g := gb189) (o := .cells #[.int .i64 a1_0, .int .i64 a1_1, .int .i64 a1_2] 30 (0, 0)) (Lam.bq BK189.out) hb); have n5_ := Aside0.mk (blk_below (g := gb201) (o := .cells #[.slice Ao29 t197.length co29] 42 (0, 0)) (Lam.bq BK201.out) hb); have n6_ := Aside0.mk (below_step Lam.al hb); have n7_ := Aside0.mk (hbox); have n8_ := Aside0.mk ((by rw [hg]; exact (below_size Lam.al) : w.heap.size ≤ gb205)); have n9_ := Aside0.mk ((by rw [hg]; exact (below_size Lam.al) : w.heap.size ≤ gb205)); have n10_ := Aside0.mk ((by rw [hg]; exact Nat.ne_of_lt (blk_lt (g := gb188) (o := .cells #[.slice A0_0 l0_0.length c0_0] 37 (0, 0)) (Lam.bq BK188.out)) : gb188 ≠ gb205)); have n11_ := Aside0.mk ((by rw [hg]; exact Nat.ne_of_gt (blk_lt (g := gb188) (o := .cells #[.slice A0_0 l0_0.length c0_0] 37 (0, 0)) (Lam.bq BK188.out)) : gb205 ≠ gb188)); have n12_ := Aside0.mk ((by rw [hg]; exact Nat.ne_of_lt (blk_lt (g := gb189) (o := .cells #[.int .i64 a1_0, .int .i64 a1_1, .int .i64 a1_2] 30 (0, 0)) (Lam.bq BK189.out)) : gb189 ≠ gb205)); have n13_ := Aside0.mk ((by rw [hg]; exact Nat.ne_of_gt (blk_lt (g := gb189) (o := .cells #[.int .i64 a1_0, .int .i64 a1_1, .int .i64 a1_2] 30 (0, 0)) (Lam.bq BK189.out)) : gb205 ≠ gb189)); have n14_ := Aside0.mk ((by rw [hg]; exact Nat.ne_of_lt (blk_lt (g := gb201) (o := .cells #[.slice Ao29 t197.length co29] 42 (0, 0)) (Lam.bq BK201.out)) : gb201 ≠ gb205)); have n15_ := Aside0.mk ((by rw [hg]; exact Nat.ne_of_gt (blk_lt (g := gb201) (o := .cells #[.slice Ao29 t197.length co29] 42 (0, 0)) (Lam.bq BK201.out)) : gb205 ≠ gb201)); clear HO193; clear HO199; clear HO204; clear BK188; clear BK189; clear BK201; clear HB; have HO193 := n0_; have HO199 := n1_; have HO204 := n2_; have BK188 := n3_; have BK189 := n4_; have BK201 := n5_; have HB := n6_; have BK205 := n7_; have GW205 := n8_; have GE205 := n9_; have NB188_205 := n10_; have NB205_188 := n11_; have NB189_205 := n12_; have NB205_189 := n13_; have NB201_205 := n14_; have NB205_201 := n15_; clear n0_ n1_ n2_ n3_ n4_ n5_ n6_ n7_ n8_ n9_ n10_ n11_ n12_ n13_ n14_ n15_; clear hb hbox hg; obtain ⟨Ao35, co35, eo35⟩ := Kd.R_slice HO204.out; subst eo35; have hnb36 := NB205_188.out; have hnc36 := NB188_205.out; have hnb37 := NB205_189.out; have hnc37 := NB189_205.out; have hnb38 := NB205_201.out; have hnc38 := NB201_205.out; have hcz39_0 : w34.cell? ⟨gb205, 0, none⟩ = some (.slice none 0 0) := (blk_cell BK205.out 0).trans rfl; have hfz39_0 := blk_frozen BK205.out 0))
  have n0_ : Aside0 (Kd.R k32 32 (w34.setCell ⟨gb205, 0, none⟩ (.slice Ao35 t202.length co35)) w.heap.size (fun k_ => some k_ ≠ (.slice Ao29 t197.length co29 : Value).ownBlock ∧ some k_ ≠ (.slice Ao35 t202.length co35 : Value).ownBlock) v192 t191) := ⟨by (with_reducible repeat (first | apply Kd.R_alloc | apply Kd.R_drewN | apply Kd.R_drew)); exact Kd.R_mono (Kd.R_far (p := ⟨gb205, 0, none⟩) (Kd.R_types HO193.out BK205.out (by decide)) (fun _ hk => hk.2) (.slice Ao35 t202.length co35)) (fun _ hk => ⟨hk.1.1, hk.1.2⟩)⟩
  have n1_ : Aside0 (Kd.R k32 32 (w34.setCell ⟨gb205, 0, none⟩ (.slice Ao35 t202.length co35)) w.heap.size (fun k_ => some k_ ≠ (v192 : Value).ownBlock ∧ some k_ ≠ (.slice Ao35 t202.length co35 : Value).ownBlock) (.slice Ao29 t197.length co29) t197) := ⟨by (with_reducible repeat (first | apply Kd.R_alloc | apply Kd.R_drewN | apply Kd.R_drew)); exact Kd.R_mono (Kd.R_far (p := ⟨gb205, 0, none⟩) (Kd.R_types HO199.out BK205.out (by decide)) (fun _ hk => hk.2) (.slice Ao35 t202.length co35)) (fun _ hk => ⟨hk.1.1, hk.1.2⟩)⟩
  have n2_ : Aside0 (Kd.R k32 32 (w34.setCell ⟨gb205, 0, none⟩ (.slice Ao35 t202.length co35)) w.heap.size (fun k_ => some k_ ≠ (v192 : Value).ownBlock ∧ some k_ ≠ (.slice Ao29 t197.length co29 : Value).ownBlock) (.slice Ao35 t202.length co35) t202) := ⟨by (with_reducible repeat (first | apply Kd.R_alloc | apply Kd.R_drewN | apply Kd.R_drew)); exact Kd.R_mono (Kd.R_far (p := ⟨gb205, 0, none⟩) (Kd.R_types HO204.out BK205.out (by decide)) (fun _ hk => hk.2) (.slice Ao35 t202.length co35)) (fun _ hk => ⟨hk.1.1.2, hk.1.2⟩)⟩
  have n3_ : Aside0 ((w34.setCell ⟨gb205, 0, none⟩ (.slice Ao35 t202.length co35)).heap[gb188]? = some (.cells #[.slice A0_0 l0_0.length c0_0] 37 (0, 0))) := ⟨by (with_reducible repeat (first | refine blk_drewN ?_ _ | refine blk_drew ?_ | refine blk_alloc ?_ _)); refine blk_far ?_ NB188_205.out _; (with_reducible repeat (first | refine blk_drewN ?_ _ | refine blk_drew ?_ | refine blk_alloc ?_ _)); exact BK188.out⟩
  have n4_ : Aside0 ((w34.setCell ⟨gb205, 0, none⟩ (.slice Ao35 t202.length co35)).heap[gb189]? = some (.cells #[.int .i64 a1_0, .int .i64 a1_1, .int .i64 a1_2] 30 (0, 0))) := ⟨by (with_reducible repeat (first | refine blk_drewN ?_ _ | refine blk_drew ?_ | refine blk_alloc ?_ _)); refine blk_far ?_ NB189_205.out _; (with_reducible repeat (first | refine blk_drewN ?_ _ | refine blk_drew ?_ | refine blk_alloc ?_ _)); exact BK189.out⟩
  have n5_ : Aside0 ((w34.setCell ⟨gb205, 0, none⟩ (.slice Ao35 t202.length co35)).heap[gb201]? = some (.cells #[.slice Ao29 t197.length co29] 42 (0, 0))) := ⟨by (with_reducible repeat (first | refine blk_drewN ?_ _ | refine blk_drew ?_ | refine blk_alloc ?_ _)); refine blk_far ?_ NB201_205.out _; (with_reducible repeat (first | refine blk_drewN ?_ _ | refine blk_drew ?_ | refine blk_alloc ?_ _)); exact BK201.out⟩
  have n6_ : Aside0 ((w34.setCell ⟨gb205, 0, none⟩ (.slice Ao35 t202.length co35)).heap[gb205]? = some (.cells #[.slice Ao35 t202.length co35] 42 (0, 0))) := ⟨by (with_reducible repeat (first | refine blk_drewN ?_ _ | refine blk_drew ?_ | refine blk_alloc ?_ _)); refine blk_put (cs := #[.slice none 0 0]) ?_ 0 _ rfl; (with_reducible repeat (first | refine blk_drewN ?_ _ | refine blk_drew ?_ | refine blk_alloc ?_ _)); exact BK205.out⟩
  have n7_ : Aside0 (Below w.heap.size w (w34.setCell ⟨gb205, 0, none⟩ (.slice Ao35 t202.length co35))) := ⟨by repeat (first | (with_reducible first | exact HB.out | apply below_alloc | apply pw_below_drewN | apply below_drew1 | refine below_set ?_ GE188.out | refine below_set ?_ GE189.out | refine below_set ?_ GE201.out | refine below_set ?_ GE205.out) | exact HB.out)⟩
  (try clear HO193)
  (try clear HO199)
  (try clear HO204)
  (try clear BK188)
  (try clear BK189)
  (try clear BK201)
  (try clear BK205)
  (try clear HB)
  generalize (w34.setCell ⟨gb205, 0, none⟩ (.slice Ao35 t202.length co35)) = w40 at n0_ n1_ n2_ n3_ n4_ n5_ n6_ n7_ ⊢
  have HO193 := n0_
  have HO199 := n1_
  have HO204 := n2_
  have BK188 := n3_
  have BK189 := n4_
  have BK201 := n5_
  have BK205 := n6_
  have HB := n7_
  clear n0_ n1_ n2_ n3_ n4_ n5_ n6_ n7_
  have n0_ := Aside0.mk (Kd.R_drew HO193.out)
  have n1_ := Aside0.mk (Kd.R_drew HO199.out)
  have n2_ := Aside0.mk (Kd.R_drew HO204.out)
  have n3_ := Aside0.mk (blk_drew BK188.out)
  have n4_ := Aside0.mk (blk_drew BK189.out)
  have n5_ := Aside0.mk (blk_drew BK201.out)
  have n6_ := Aside0.mk (blk_drew BK205.out)
  have n7_ := Aside0.mk (below_drew1 HB.out)
  clear HO193
  clear HO199
  clear HO204
  clear BK188
  clear BK189
  clear BK201
  clear BK205
  clear HB
  have HO193 := n0_
  have HO199 := n1_
  have HO204 := n2_
  have BK188 := n3_
  have BK189 := n4_
  have BK201 := n5_
  have BK205 := n6_
  have HB := n7_
  clear n0_ n1_ n2_ n3_ n4_ n5_ n6_ n7_
  refine start_ (n := 10) (S := fun w' => w'.cell? ⟨gb205, 0, none⟩ = some (.slice Ao35 t202.length co35) ∧ w'.cell? ⟨gb189, 0, none⟩ = some (.int .i64 a1_0) ∧ w'.cell? ⟨gb189, 1, none⟩ = some (.int .i64 a1_1) ∧ w'.cell? ⟨gb189, 2, none⟩ = some (.int .i64 a1_2)) (ds := []) #[false, false, false, false, false, false, false, false, false, false] (by kernel_rfl) rfl rfl ⟨(blk_cell BK205.out 0).trans rfl, (blk_cell BK189.out 0).trans rfl, (blk_cell BK189.out 1).trans rfl, (blk_cell BK189.out 2).trans rfl⟩ (fun hHeld => ?_); refine with_tabW laws_FnExactAddClue.tab7 laws_FnExactAddClue.bits7 (fun HT_ HW_ => ?_)
  generalize w40.drew = w41 at HO193 HO199 HO204 BK188 BK189 BK201 BK205 HB hHeld ⊢
  refine take_ (i := 0) (N := some 32) (v := ?_) (a' := ?_) #[true, false, false, false, false, false, false, false, false, false] rfl rfl (take_ofW HT_.out HW_.out (by kernel_rfl)) (fun _ _ _ h => h) (Or.inl ⟨by rfl, ?_⟩) hHeld ?_ ?_
  rotate_left
  ·rintro w' ⟨s0, s1, s2, s3⟩
   go_simp
   with_reducible rfl
  rotate_left
  ·simp only [Act.put, List.setIfInBounds_toArray, List.set_cons_zero, List.set_cons_succ, i64_w, i32_w]
   rfl
  refine take_ (i := 1) (N := some 33) (v := ?_) (a' := ?_) #[true, true, false, false, false, false, false, false, false, false] rfl rfl (take_ofW HT_.out HW_.out (by kernel_rfl)) (fun _ _ _ h => h) (Or.inl ⟨by rfl, ?_⟩) hHeld ?_ ?_
  rotate_left
  ·rintro w' ⟨s0, s1, s2, s3⟩
   go_simp
   with_reducible rfl
  rotate_left
  ·simp only [Act.put, List.setIfInBounds_toArray, List.set_cons_zero, List.set_cons_succ, i64_w, i32_w]
   rfl
  refine join_ (σ := Value × Nat) 2 #[true, true, true, true, true, true, true, true, false, false] (fun s_ => [(34, .agg #[.int .i64 t206, .int .i64 t207, .int .i64 t208]), (35, .tuple #[.agg #[s_.1], .bool t212]), (9, .pointer (some ⟨s_.2, 0, none⟩)), (31, .tuple #[.agg #[s_.1], .bool t212]), (36, .agg #[s_.1]), (37, .bool t212)]) (fun s_ w' => (w'.cell? ⟨gb205, 0, none⟩ = some (.slice Ao35 t202.length co35) ∧ w'.cell? ⟨gb189, 0, none⟩ = some (.int .i64 a1_0) ∧ w'.cell? ⟨gb189, 1, none⟩ = some (.int .i64 a1_1) ∧ w'.cell? ⟨gb189, 2, none⟩ = some (.int .i64 a1_2)) ∧ (Kd.R k32 32 w' w.heap.size (fun k_ => some k_ ≠ (.slice Ao29 t197.length co29 : Value).ownBlock ∧ some k_ ≠ (.slice Ao35 t202.length co35 : Value).ownBlock ∧ some k_ ≠ (s_.1 : Value).ownBlock) v192 t191) ∧ (Kd.R k32 32 w' w.heap.size (fun k_ => some k_ ≠ (v192 : Value).ownBlock ∧ some k_ ≠ (.slice Ao35 t202.length co35 : Value).ownBlock ∧ some k_ ≠ (s_.1 : Value).ownBlock) (.slice Ao29 t197.length co29) t197) ∧ (Kd.R k32 32 w' w.heap.size (fun k_ => some k_ ≠ (v192 : Value).ownBlock ∧ some k_ ≠ (.slice Ao29 t197.length co29 : Value).ownBlock ∧ some k_ ≠ (s_.1 : Value).ownBlock) (.slice Ao35 t202.length co35) t202) ∧ (Kd.R k32 32 w' w.heap.size (fun k_ => some k_ ≠ (v192 : Value).ownBlock ∧ some k_ ≠ (.slice Ao29 t197.length co29 : Value).ownBlock ∧ some k_ ≠ (.slice Ao35 t202.length co35 : Value).ownBlock) s_.1 t209) ∧ (w'.heap[gb188]? = some (.cells #[.slice A0_0 l0_0.length c0_0] 37 (0, 0))) ∧ (w'.heap[gb189]? = some (.cells #[.int .i64 a1_0, .int .i64 a1_1, .int .i64 a1_2] 30 (0, 0))) ∧ (w'.heap[gb201]? = some (.cells #[.slice Ao29 t197.length co29] 42 (0, 0))) ∧ (w'.heap[gb205]? = some (.cells #[.slice Ao35 t202.length co35] 42 (0, 0))) ∧ (w'.heap[s_.2]? = some (.cells #[.slice none 0 0] 42 (0, 0))) ∧ (w.heap.size ≤ s_.2) ∧ (w.heap.size ≤ s_.2) ∧ (gb188 ≠ s_.2) ∧ (s_.2 ≠ gb188) ∧ (gb189 ≠ s_.2) ∧ (s_.2 ≠ gb189) ∧ (gb201 ≠ s_.2) ∧ (s_.2 ≠ gb201) ∧ (gb205 ≠ s_.2) ∧ (s_.2 ≠ gb205) ∧ (Below w.heap.size w w')) ?_ ?_
  rotate_left
  ·intro hCont
   refine two_ (i := 2) (j := 7) (Ni := some 34) (Nj := some 9) #[true, true, true, false, false, false, false, false, false, false] #[true, true, false, false, false, false, false, true, false, false] rfl rfl rfl rfl (two_of HT_.out (by kernel_rfl)) (by decide) (by decide) (fun K hK => ?_) (fun K hK => ?_)
   ·skip
    refine goes_ Try.func17 (by kernel_rfl) rfl #[.agg #[.int .i64 a1_0, .int .i64 a1_1, .int .i64 a1_2]] (by rfl) rfl rfl (by (try simp only [List.map_toArray, List.map_cons, List.map_nil]); first | done | rfl | (simp only [List.length_drop, List.length_take]; rfl)) ?_
    with_reducible refine (laws_toClue.calls a1_0 a1_1 a1_2 t206 t207 t208 _ A14.out).mono ?_
    rintro e w42 ⟨rfl, hb⟩
    refine ⟨_, rfl, ?_⟩
    have n0_ := Aside0.mk (Kd.R_below (Lam.rq HO193.out) hb)
    have n1_ := Aside0.mk (Kd.R_below (Lam.rq HO199.out) hb)
    have n2_ := Aside0.mk (Kd.R_below (Lam.rq HO204.out) hb)
    have n3_ := Aside0.mk (blk_below (g := gb188) (o := .cells #[.slice A0_0 l0_0.length c0_0] 37 (0, 0)) (Lam.bq BK188.out) hb)
    have n4_ := Aside0.mk (blk_below (g := gb189) (o := .cells #[.int .i64 a1_0, .int .i64 a1_1, .int .i64 a1_2] 30 (0, 0)) (Lam.bq BK189.out) hb)
    have n5_ := Aside0.mk (blk_below (g := gb201) (o := .cells #[.slice Ao29 t197.length co29] 42 (0, 0)) (Lam.bq BK201.out) hb)
    have n6_ := Aside0.mk (blk_below (g := gb205) (o := .cells #[.slice Ao35 t202.length co35] 42 (0, 0)) (Lam.bq BK205.out) hb)
    have n7_ := Aside0.mk (below_step Lam.al hb)
    clear HO193
    clear HO199
    clear HO204
    clear BK188
    clear BK189
    clear BK201
    clear BK205
    clear HB
    have HO193 := n0_
    have HO199 := n1_
    have HO204 := n2_
    have BK188 := n3_
    have BK189 := n4_
    have BK201 := n5_
    have BK205 := n6_
    have HB := n7_
    clear n0_ n1_ n2_ n3_ n4_ n5_ n6_ n7_
    (try clear hb)
    (try clear hb2)
    (try clear hk)
    (try clear hi)
    refine hK.out _ _ ⟨(blk_cell BK205.out 0).trans rfl, (blk_cell BK189.out 0).trans rfl, (blk_cell BK189.out 1).trans rfl, (blk_cell BK189.out 2).trans rfl⟩ (fun hHeld => ?_)
    clear hK K
    refine norm_ (a' := ?_) ?_ ?_
    rotate_left
    ·show Act.put _ (some 34) _ = _
     simp only [Act.put, List.setIfInBounds_toArray, List.set_cons_zero, List.set_cons_succ, i64_w, i32_w]
     rfl
    refine two_ (i := 3) (j := 7) (Ni := some 35) (Nj := some 9) #[true, true, true, true, false, false, false, false, false, false] #[true, true, true, false, false, false, false, true, false, false] rfl rfl rfl rfl (two_of HT_.out (by kernel_rfl)) (by decide) (by decide) (fun K hK => ?_) (fun K hK => ?_)
    ·skip
     refine goes_ Try.func39 (by kernel_rfl) rfl #[.agg #[.slice Ao35 t202.length co35], .agg #[.int .i64 t206, .int .i64 t207, .int .i64 t208]] (by rfl) rfl rfl (by (try simp only [List.map_toArray, List.map_cons, List.map_nil]); first | done | rfl | (simp only [List.length_drop, List.length_take]; rfl)) ?_
     with_reducible refine (impl_AddClue.calls _ _ t202 t206 t207 t208 t209 t212 _ ?side1 ?side2 A15.out).mono ?_
     (case side1 => repeat (first | exact (Kd.R_reads' HO204.out).2.2 | (with_reducible refine Kd.C_alloc ?_ _) | (with_reducible refine Kd.C_drewN ?_ _) | (with_reducible refine Kd.C_drew ?_)))
     (case side2 => exact (Kd.R_reads' HO204.out).2.1)
     rintro e w43 ⟨v210, rfl, ho0, hb⟩
     refine ⟨_, rfl, ?_⟩
     have n0_ := Aside0.mk (Kd.R_elder' (Lam.rq HO193.out) (Kd.R_base ho0) hb)
     have n1_ := Aside0.mk (Kd.R_elder' (Lam.rq HO199.out) (Kd.R_base ho0) hb)
     have n2_ := Aside0.mk (Kd.R_elder' (Lam.rq HO204.out) (Kd.R_base ho0) hb)
     have n3_ := Aside0.mk (Kd.R_lower (Kd.R_new' (Kd.R_new' (Kd.R_new' ho0 (Kd.R_lt (Lam.rq HO193.out))) (Kd.R_lt (Lam.rq HO199.out))) (Kd.R_lt (Lam.rq HO204.out))) (below_size Lam.al))
     have n4_ := Aside0.mk (blk_below (g := gb188) (o := .cells #[.slice A0_0 l0_0.length c0_0] 37 (0, 0)) (Lam.bq BK188.out) hb)
     have n5_ := Aside0.mk (blk_below (g := gb189) (o := .cells #[.int .i64 a1_0, .int .i64 a1_1, .int .i64 a1_2] 30 (0, 0)) (Lam.bq BK189.out) hb)
     have n6_ := Aside0.mk (blk_below (g := gb201) (o := .cells #[.slice Ao29 t197.length co29] 42 (0, 0)) (Lam.bq BK201.out) hb)
     have n7_ := Aside0.mk (blk_below (g := gb205) (o := .cells #[.slice Ao35 t202.length co35] 42 (0, 0)) (Lam.bq BK205.out) hb)
     have n8_ := Aside0.mk (below_step Lam.al hb)
     clear HO193
     clear HO199
     clear HO204
     clear BK188
     clear BK189
     clear BK201
     clear BK205
     clear HB
     have HO193 := n0_
     have HO199 := n1_
     have HO204 := n2_
     have HO211 := n3_
     have BK188 := n4_
     have BK189 := n5_
     have BK201 := n6_
     have BK205 := n7_
     have HB := n8_
     clear n0_ n1_ n2_ n3_ n4_ n5_ n6_ n7_ n8_
     (try clear hb)
     (try clear hb2)
     (try clear hk)
     (try clear hi)
     (try clear ho0)
     refine hK.out _ _ ⟨(blk_cell BK205.out 0).trans rfl, (blk_cell BK189.out 0).trans rfl, (blk_cell BK189.out 1).trans rfl, (blk_cell BK189.out 2).trans rfl⟩ (fun hHeld => ?_)
     clear hK K
     refine norm_ (a' := ?_) ?_ ?_
     rotate_left
     ·show Act.put _ (some 35) _ = _
      simp only [Act.put, List.setIfInBounds_toArray, List.set_cons_zero, List.set_cons_succ, i64_w, i32_w]
      rfl
     refine pure_ (i := 4) (N := some 31) (v := ?_) (a' := ?_) #[true, true, true, true, true, false, false, false, false, false] rfl rfl (any_of HT_.out (by kernel_rfl)) (fun _ _ _ h => h) (Or.inl ⟨by rfl, ?_⟩) ?_ ?_
     rotate_left
     ·intro w'
      go_simp
      with_reducible rfl
     rotate_left
     ·simp only [Act.put, List.setIfInBounds_toArray, List.set_cons_zero, List.set_cons_succ, i64_w, i32_w]
      rfl
     refine pure_ (i := 5) (N := some 36) (v := ?_) (a' := ?_) #[true, true, true, true, true, true, false, false, false, false] rfl rfl (any_of HT_.out (by kernel_rfl)) (fun _ _ _ h => h) (Or.inl ⟨by rfl, ?_⟩) ?_ ?_
     rotate_left
     ·intro w'
      go_simp
      with_reducible rfl
     rotate_left
     ·simp only [Act.put, List.setIfInBounds_toArray, List.set_cons_zero, List.set_cons_succ, i64_w, i32_w]
      rfl
     refine pure_ (i := 6) (N := some 37) (v := ?_) (a' := ?_) #[true, true, true, true, true, true, true, false, false, false] rfl rfl (any_of HT_.out (by kernel_rfl)) (fun _ _ _ h => h) (Or.inl ⟨by rfl, ?_⟩) ?_ ?_
     rotate_left
     ·intro w'
      go_simp
      with_reducible rfl
     rotate_left
     ·simp only [Act.put, List.setIfInBounds_toArray, List.set_cons_zero, List.set_cons_succ, i64_w, i32_w]
      rfl
     refine one_ (i := 7) (N := some 9) #[true, true, true, true, true, true, true, true, false, false] rfl rfl (one_of HT_.out (by kernel_rfl)) (by decide) (fun K hK => ?_)
     refine box_step ?hg (N := 9) ?hd (cs := #[.slice none 0 0]) (t := 42) ?hr ?_; (case hd => rfl); (case hg => rfl); (case hr => first | (go_simp; done) | (go_simp; rfl))
     intro gb213 hg w44 hbox hb
     have n0_ := Aside0.mk (Kd.R_below (Lam.rq HO193.out) hb)
     have n1_ := Aside0.mk (Kd.R_below (Lam.rq HO199.out) hb)
     have n2_ := Aside0.mk (Kd.R_below (Lam.rq HO204.out) hb)
     have n3_ := Aside0.mk (Kd.R_below (Lam.rq HO211.out) hb)
     have n4_ := Aside0.mk (blk_below (g := gb188) (o := .cells #[.slice A0_0 l0_0.length c0_0] 37 (0, 0)) (Lam.bq BK188.out) hb)
     have n5_ := Aside0.mk (blk_below (g := gb189) (o := .cells #[.int .i64 a1_0, .int .i64 a1_1, .int .i64 a1_2] 30 (0, 0)) (Lam.bq BK189.out) hb)
     have n6_ := Aside0.mk (blk_below (g := gb201) (o := .cells #[.slice Ao29 t197.length co29] 42 (0, 0)) (Lam.bq BK201.out) hb)
     have n7_ := Aside0.mk (blk_below (g := gb205) (o := .cells #[.slice Ao35 t202.length co35] 42 (0, 0)) (Lam.bq BK205.out) hb)
     have n8_ := Aside0.mk (below_step Lam.al hb)
     have n9_ := Aside0.mk (hbox)
     have n10_ := Aside0.mk ((by rw [hg]; exact (below_size Lam.al) : w.heap.size ≤ gb213))
     have n11_ := Aside0.mk ((by rw [hg]; exact (below_size Lam.al) : w.heap.size ≤ gb213))
     have n12_ := Aside0.mk ((by rw [hg]; exact Nat.ne_of_lt (blk_lt (g := gb188) (o := .cells #[.slice A0_0 l0_0.length c0_0] 37 (0, 0)) (Lam.bq BK188.out)) : gb188 ≠ gb213))
     have n13_ := Aside0.mk ((by rw [hg]; exact Nat.ne_of_gt (blk_lt (g := gb188) (o := .cells #[.slice A0_0 l0_0.length c0_0] 37 (0, 0)) (Lam.bq BK188.out)) : gb213 ≠ gb188))
     have n14_ := Aside0.mk ((by rw [hg]; exact Nat.ne_of_lt (blk_lt (g := gb189) (o := .cells #[.int .i64 a1_0, .int .i64 a1_1, .int .i64 a1_2] 30 (0, 0)) (Lam.bq BK189.out)) : gb189 ≠ gb213))
     have n15_ := Aside0.mk ((by rw [hg]; exact Nat.ne_of_gt (blk_lt (g := gb189) (o := .cells #[.int .i64 a1_0, .int .i64 a1_1, .int .i64 a1_2] 30 (0, 0)) (Lam.bq BK189.out)) : gb213 ≠ gb189))
     have n16_ := Aside0.mk ((by rw [hg]; exact Nat.ne_of_lt (blk_lt (g := gb201) (o := .cells #[.slice Ao29 t197.length co29] 42 (0, 0)) (Lam.bq BK201.out)) : gb201 ≠ gb213))
     have n17_ := Aside0.mk ((by rw [hg]; exact Nat.ne_of_gt (blk_lt (g := gb201) (o := .cells #[.slice Ao29 t197.length co29] 42 (0, 0)) (Lam.bq BK201.out)) : gb213 ≠ gb201))
     have n18_ := Aside0.mk ((by rw [hg]; exact Nat.ne_of_lt (blk_lt (g := gb205) (o := .cells #[.slice Ao35 t202.length co35] 42 (0, 0)) (Lam.bq BK205.out)) : gb205 ≠ gb213))
     have n19_ := Aside0.mk ((by rw [hg]; exact Nat.ne_of_gt (blk_lt (g := gb205) (o := .cells #[.slice Ao35 t202.length co35] 42 (0, 0)) (Lam.bq BK205.out)) : gb213 ≠ gb205))
     clear HO193
     clear HO199
     clear HO204
     clear HO211
     clear BK188
     clear BK189
     clear BK201
     clear BK205
     clear HB
     have HO193 := n0_
     have HO199 := n1_
     have HO204 := n2_
     have HO211 := n3_
     have BK188 := n4_
     have BK189 := n5_
     have BK201 := n6_
     have BK205 := n7_
     have HB := n8_
     have BK213 := n9_
     have GW213 := n10_
     have GE213 := n11_
     have NB188_213 := n12_
     have NB213_188 := n13_
     have NB189_213 := n14_
     have NB213_189 := n15_
     have NB201_213 := n16_
     have NB213_201 := n17_
     have NB205_213 := n18_
     have NB213_205 := n19_
     clear n0_ n1_ n2_ n3_ n4_ n5_ n6_ n7_ n8_ n9_ n10_ n11_ n12_ n13_ n14_ n15_ n16_ n17_ n18_ n19_
     clear hb hbox hg
     refine hK.out _ _ ⟨(blk_cell BK205.out 0).trans rfl, (blk_cell BK189.out 0).trans rfl, (blk_cell BK189.out 1).trans rfl, (blk_cell BK189.out 2).trans rfl⟩ (fun hHeld => ?_)
     clear hK K
     refine norm_ (a' := ?_) ?_ ?_
     rotate_left
     ·show Act.put _ (some 9) _ = _
      simp only [Act.put, List.setIfInBounds_toArray, List.set_cons_zero, List.set_cons_succ, i64_w, i32_w]
      rfl
     exact norm_ (by simp only [putAll, Act.put, List.setIfInBounds_toArray, List.set_cons_zero, List.set_cons_succ]) (hCont (v210, gb213) _ ⟨hHeld, (by (with_reducible repeat (first | apply Kd.R_alloc | apply Kd.R_drewN | apply Kd.R_drew)); exact Kd.R_mono HO193.out (fun _ hk => ⟨hk.1.1, ⟨hk.1.2, hk.2⟩⟩)), (by (with_reducible repeat (first | apply Kd.R_alloc | apply Kd.R_drewN | apply Kd.R_drew)); exact Kd.R_mono HO199.out (fun _ hk => ⟨hk.1.1, ⟨hk.1.2, hk.2⟩⟩)), (by (with_reducible repeat (first | apply Kd.R_alloc | apply Kd.R_drewN | apply Kd.R_drew)); exact Kd.R_mono HO204.out (fun _ hk => ⟨hk.1.1, ⟨hk.1.2, hk.2⟩⟩)), (by (with_reducible repeat (first | apply Kd.R_alloc | apply Kd.R_drewN | apply Kd.R_drew)); exact Kd.R_mono HO211.out (fun _ hk => ⟨hk.1.1.2, ⟨hk.1.2, hk.2⟩⟩)), (Lam.bq BK188.out), (Lam.bq BK189.out), (Lam.bq BK201.out), (Lam.bq BK205.out), (Lam.bq BK213.out), GW213.out, GE213.out, NB188_213.out, NB213_188.out, NB189_213.out, NB213_189.out, NB201_213.out, NB213_201.out, NB205_213.out, NB213_205.out, Lam.al⟩)
    ·skip
     refine box_step ?hg (N := 9) ?hd (cs := #[.slice none 0 0]) (t := 42) ?hr ?_; (case hd => rfl); (case hg => rfl); (case hr => first | (go_simp; done) | (go_simp; rfl))
     intro gb213 hg w43 hbox hb
     have n0_ := Aside0.mk (Kd.R_below (Lam.rq HO193.out) hb)
     have n1_ := Aside0.mk (Kd.R_below (Lam.rq HO199.out) hb)
     have n2_ := Aside0.mk (Kd.R_below (Lam.rq HO204.out) hb)
     have n3_ := Aside0.mk (blk_below (g := gb188) (o := .cells #[.slice A0_0 l0_0.length c0_0] 37 (0, 0)) (Lam.bq BK188.out) hb)
     have n4_ := Aside0.mk (blk_below (g := gb189) (o := .cells #[.int .i64 a1_0, .int .i64 a1_1, .int .i64 a1_2] 30 (0, 0)) (Lam.bq BK189.out) hb)
     have n5_ := Aside0.mk (blk_below (g := gb201) (o := .cells #[.slice Ao29 t197.length co29] 42 (0, 0)) (Lam.bq BK201.out) hb)
     have n6_ := Aside0.mk (blk_below (g := gb205) (o := .cells #[.slice Ao35 t202.length co35] 42 (0, 0)) (Lam.bq BK205.out) hb)
     have n7_ := Aside0.mk (below_step Lam.al hb)
     have n8_ := Aside0.mk (hbox)
     have n9_ := Aside0.mk ((by rw [hg]; exact (below_size Lam.al) : w.heap.size ≤ gb213))
     have n10_ := Aside0.mk ((by rw [hg]; exact (below_size Lam.al) : w.heap.size ≤ gb213))
     have n11_ := Aside0.mk ((by rw [hg]; exact Nat.ne_of_lt (blk_lt (g := gb188) (o := .cells #[.slice A0_0 l0_0.length c0_0] 37 (0, 0)) (Lam.bq BK188.out)) : gb188 ≠ gb213))
     have n12_ := Aside0.mk ((by rw [hg]; exact Nat.ne_of_gt (blk_lt (g := gb188) (o := .cells #[.slice A0_0 l0_0.length c0_0] 37 (0, 0)) (Lam.bq BK188.out)) : gb213 ≠ gb188))
     have n13_ := Aside0.mk ((by rw [hg]; exact Nat.ne_of_lt (blk_lt (g := gb189) (o := .cells #[.int .i64 a1_0, .int .i64 a1_1, .int .i64 a1_2] 30 (0, 0)) (Lam.bq BK189.out)) : gb189 ≠ gb213))
     have n14_ := Aside0.mk ((by rw [hg]; exact Nat.ne_of_gt (blk_lt (g := gb189) (o := .cells #[.int .i64 a1_0, .int .i64 a1_1, .int .i64 a1_2] 30 (0, 0)) (Lam.bq BK189.out)) : gb213 ≠ gb189))
     have n15_ := Aside0.mk ((by rw [hg]; exact Nat.ne_of_lt (blk_lt (g := gb201) (o := .cells #[.slice Ao29 t197.length co29] 42 (0, 0)) (Lam.bq BK201.out)) : gb201 ≠ gb213))
     have n16_ := Aside0.mk ((by rw [hg]; exact Nat.ne_of_gt (blk_lt (g := gb201) (o := .cells #[.slice Ao29 t197.length co29] 42 (0, 0)) (Lam.bq BK201.out)) : gb213 ≠ gb201))
     have n17_ := Aside0.mk ((by rw [hg]; exact Nat.ne_of_lt (blk_lt (g := gb205) (o := .cells #[.slice Ao35 t202.length co35] 42 (0, 0)) (Lam.bq BK205.out)) : gb205 ≠ gb213))
     have n18_ := Aside0.mk ((by rw [hg]; exact Nat.ne_of_gt (blk_lt (g := gb205) (o := .cells #[.slice Ao35 t202.length co35] 42 (0, 0)) (Lam.bq BK205.out)) : gb213 ≠ gb205))
     clear HO193
     clear HO199
     clear HO204
     clear BK188
     clear BK189
     clear BK201
     clear BK205
     clear HB
     have HO193 := n0_
     have HO199 := n1_
     have HO204 := n2_
     have BK188 := n3_
     have BK189 := n4_
     have BK201 := n5_
     have BK205 := n6_
     have HB := n7_
     have BK213 := n8_
     have GW213 := n9_
     have GE213 := n10_
     have NB188_213 := n11_
     have NB213_188 := n12_
     have NB189_213 := n13_
     have NB213_189 := n14_
     have NB201_213 := n15_
     have NB213_201 := n16_
     have NB205_213 := n17_
     have NB213_205 := n18_
     clear n0_ n1_ n2_ n3_ n4_ n5_ n6_ n7_ n8_ n9_ n10_ n11_ n12_ n13_ n14_ n15_ n16_ n17_ n18_
     clear hb hbox hg
     refine hK.out _ _ ⟨(blk_cell BK205.out 0).trans rfl, (blk_cell BK189.out 0).trans rfl, (blk_cell BK189.out 1).trans rfl, (blk_cell BK189.out 2).trans rfl⟩ (fun hHeld => ?_)
     clear hK K
     refine norm_ (a' := ?_) ?_ ?_
     rotate_left
     ·show Act.put _ (some 9) _ = _
      simp only [Act.put, List.setIfInBounds_toArray, List.set_cons_zero, List.set_cons_succ, i64_w, i32_w]
      rfl
     refine one_ (i := 3) (N := some 35) #[true, true, true, true, false, false, false, true, false, false] rfl rfl (one_of HT_.out (by kernel_rfl)) (by decide) (fun K hK => ?_)
     refine goes_ Try.func39 (by kernel_rfl) rfl #[.agg #[.slice Ao35 t202.length co35], .agg #[.int .i64 t206, .int .i64 t207, .int .i64 t208]] (by rfl) rfl rfl (by (try simp only [List.map_toArray, List.map_cons, List.map_nil]); first | done | rfl | (simp only [List.length_drop, List.length_take]; rfl)) ?_
     with_reducible refine (impl_AddClue.calls _ _ t202 t206 t207 t208 t209 t212 _ ?side1 ?side2 A15.out).mono ?_
     (case side1 => repeat (first | exact (Kd.R_reads' HO204.out).2.2 | (with_reducible refine Kd.C_alloc ?_ _) | (with_reducible refine Kd.C_drewN ?_ _) | (with_reducible refine Kd.C_drew ?_)))
     (case side2 => exact (Kd.R_reads' HO204.out).2.1)
     rintro e w44 ⟨v210, rfl, ho0, hb⟩
     refine ⟨_, rfl, ?_⟩
     have n0_ := Aside0.mk (Kd.R_elder' (Lam.rq HO193.out) (Kd.R_base ho0) hb)
     have n1_ := Aside0.mk (Kd.R_elder' (Lam.rq HO199.out) (Kd.R_base ho0) hb)
     have n2_ := Aside0.mk (Kd.R_elder' (Lam.rq HO204.out) (Kd.R_base ho0) hb)
     have n3_ := Aside0.mk (Kd.R_lower (Kd.R_new' (Kd.R_new' (Kd.R_new' ho0 (Kd.R_lt (Lam.rq HO193.out))) (Kd.R_lt (Lam.rq HO199.out))) (Kd.R_lt (Lam.rq HO204.out))) (below_size Lam.al))
     have n4_ := Aside0.mk (blk_below (g := gb188) (o := .cells #[.slice A0_0 l0_0.length c0_0] 37 (0, 0)) (Lam.bq BK188.out) hb)
     have n5_ := Aside0.mk (blk_below (g := gb189) (o := .cells #[.int .i64 a1_0, .int .i64 a1_1, .int .i64 a1_2] 30 (0, 0)) (Lam.bq BK189.out) hb)
     have n6_ := Aside0.mk (blk_below (g := gb201) (o := .cells #[.slice Ao29 t197.length co29] 42 (0, 0)) (Lam.bq BK201.out) hb)
     have n7_ := Aside0.mk (blk_below (g := gb205) (o := .cells #[.slice Ao35 t202.length co35] 42 (0, 0)) (Lam.bq BK205.out) hb)
     have n8_ := Aside0.mk (blk_below (g := gb213) (o := .cells #[.slice none 0 0] 42 (0, 0)) (Lam.bq BK213.out) hb)
     have n9_ := Aside0.mk (below_step Lam.al hb)
     clear HO193
     clear HO199
     clear HO204
     clear BK188
     clear BK189
     clear BK201
     clear BK205
     clear BK213
     clear HB
     have HO193 := n0_
     have HO199 := n1_
     have HO204 := n2_
     have HO211 := n3_
     have BK188 := n4_
     have BK189 := n5_
     have BK201 := n6_
     have BK205 := n7_
     have BK213 := n8_
     have HB := n9_
     clear n0_ n1_ n2_ n3_ n4_ n5_ n6_ n7_ n8_ n9_
     (try clear hb)
     (try clear hb2)
     (try clear hk)
     (try clear hi)
     (try clear ho0)
     refine hK.out _ _ ⟨(blk_cell BK205.out 0).trans rfl, (blk_cell BK189.out 0).trans rfl, (blk_cell BK189.out 1).trans rfl, (blk_cell BK189.out 2).trans rfl⟩ (fun hHeld => ?_)
     clear hK K
     refine norm_ (a' := ?_) ?_ ?_
     rotate_left
     ·show Act.put _ (some 35) _ = _
      simp only [Act.put, List.setIfInBounds_toArray, List.set_cons_zero, List.set_cons_succ, i64_w, i32_w]
      rfl
     refine pure_ (i := 4) (N := some 31) (v := ?_) (a' := ?_) #[true, true, true, true, true, false, false, true, false, false] rfl rfl (any_of HT_.out (by kernel_rfl)) (fun _ _ _ h => h) (Or.inl ⟨by rfl, ?_⟩) ?_ ?_
     rotate_left
     ·intro w'
      go_simp
      with_reducible rfl
     rotate_left
     ·simp only [Act.put, List.setIfInBounds_toArray, List.set_cons_zero, List.set_cons_succ, i64_w, i32_w]
      rfl
     refine pure_ (i := 5) (N := some 36) (v := ?_) (a' := ?_) #[true, true, true, true, true, true, false, true, false, false] rfl rfl (any_of HT_.out (by kernel_rfl)) (fun _ _ _ h => h) (Or.inl ⟨by rfl, ?_⟩) ?_ ?_
     rotate_left
     ·intro w'
      go_simp
      with_reducible rfl
     rotate_left
     ·simp only [Act.put, List.setIfInBounds_toArray, List.set_cons_zero, List.set_cons_succ, i64_w, i32_w]
      rfl
     refine pure_ (i := 6) (N := some 37) (v := ?_) (a' := ?_) #[true, true, true, true, true, true, true, true, false, false] rfl rfl (any_of HT_.out (by kernel_rfl)) (fun _ _ _ h => h) (Or.inl ⟨by rfl, ?_⟩) ?_ ?_
     rotate_left
     ·intro w'
      go_simp
      with_reducible rfl
     rotate_left
     ·simp only [Act.put, List.setIfInBounds_toArray, List.set_cons_zero, List.set_cons_succ, i64_w, i32_w]
      rfl
     exact norm_ (by simp only [putAll, Act.put, List.setIfInBounds_toArray, List.set_cons_zero, List.set_cons_succ]) (hCont (v210, gb213) _ ⟨hHeld, (by (with_reducible repeat (first | apply Kd.R_alloc | apply Kd.R_drewN | apply Kd.R_drew)); exact Kd.R_mono HO193.out (fun _ hk => ⟨hk.1.1, ⟨hk.1.2, hk.2⟩⟩)), (by (with_reducible repeat (first | apply Kd.R_alloc | apply Kd.R_drewN | apply Kd.R_drew)); exact Kd.R_mono HO199.out (fun _ hk => ⟨hk.1.1, ⟨hk.1.2, hk.2⟩⟩)), (by (with_reducible repeat (first | apply Kd.R_alloc | apply Kd.R_drewN | apply Kd.R_drew)); exact Kd.R_mono HO204.out (fun _ hk => ⟨hk.1.1, ⟨hk.1.2, hk.2⟩⟩)), (by (with_reducible repeat (first | apply Kd.R_alloc | apply Kd.R_drewN | apply Kd.R_drew)); exact Kd.R_mono HO211.out (fun _ hk => ⟨hk.1.1.2, ⟨hk.1.2, hk.2⟩⟩)), (Lam.bq BK188.out), (Lam.bq BK189.out), (Lam.bq BK201.out), (Lam.bq BK205.out), (Lam.bq BK213.out), GW213.out, GE213.out, NB188_213.out, NB213_188.out, NB189_213.out, NB213_189.out, NB201_213.out, NB213_201.out, NB205_213.out, NB213_205.out, Lam.al⟩)
   ·skip
    refine box_step ?hg (N := 9) ?hd (cs := #[.slice none 0 0]) (t := 42) ?hr ?_; (case hd => rfl); (case hg => rfl); (case hr => first | (go_simp; done) | (go_simp; rfl))
    intro gb213 hg w42 hbox hb
    have n0_ := Aside0.mk (Kd.R_below (Lam.rq HO193.out) hb)
    have n1_ := Aside0.mk (Kd.R_below (Lam.rq HO199.out) hb)
    have n2_ := Aside0.mk (Kd.R_below (Lam.rq HO204.out) hb)
    have n3_ := Aside0.mk (blk_below (g := gb188) (o := .cells #[.slice A0_0 l0_0.length c0_0] 37 (0, 0)) (Lam.bq BK188.out) hb)
    have n4_ := Aside0.mk (blk_below (g := gb189) (o := .cells #[.int .i64 a1_0, .int .i64 a1_1, .int .i64 a1_2] 30 (0, 0)) (Lam.bq BK189.out) hb)
    have n5_ := Aside0.mk (blk_below (g := gb201) (o := .cells #[.slice Ao29 t197.length co29] 42 (0, 0)) (Lam.bq BK201.out) hb)
    have n6_ := Aside0.mk (blk_below (g := gb205) (o := .cells #[.slice Ao35 t202.length co35] 42 (0, 0)) (Lam.bq BK205.out) hb)
    have n7_ := Aside0.mk (below_step Lam.al hb)
    have n8_ := Aside0.mk (hbox)
    have n9_ := Aside0.mk ((by rw [hg]; exact (below_size Lam.al) : w.heap.size ≤ gb213))
    have n10_ := Aside0.mk ((by rw [hg]; exact (below_size Lam.al) : w.heap.size ≤ gb213))
    have n11_ := Aside0.mk ((by rw [hg]; exact Nat.ne_of_lt (blk_lt (g := gb188) (o := .cells #[.slice A0_0 l0_0.length c0_0] 37 (0, 0)) (Lam.bq BK188.out)) : gb188 ≠ gb213))
    have n12_ := Aside0.mk ((by rw [hg]; exact Nat.ne_of_gt (blk_lt (g := gb188) (o := .cells #[.slice A0_0 l0_0.length c0_0] 37 (0, 0)) (Lam.bq BK188.out)) : gb213 ≠ gb188))
    have n13_ := Aside0.mk ((by rw [hg]; exact Nat.ne_of_lt (blk_lt (g := gb189) (o := .cells #[.int .i64 a1_0, .int .i64 a1_1, .int .i64 a1_2] 30 (0, 0)) (Lam.bq BK189.out)) : gb189 ≠ gb213))
    have n14_ := Aside0.mk ((by rw [hg]; exact Nat.ne_of_gt (blk_lt (g := gb189) (o := .cells #[.int .i64 a1_0, .int .i64 a1_1, .int .i64 a1_2] 30 (0, 0)) (Lam.bq BK189.out)) : gb213 ≠ gb189))
    have n15_ := Aside0.mk ((by rw [hg]; exact Nat.ne_of_lt (blk_lt (g := gb201) (o := .cells #[.slice Ao29 t197.length co29] 42 (0, 0)) (Lam.bq BK201.out)) : gb201 ≠ gb213))
    have n16_ := Aside0.mk ((by rw [hg]; exact Nat.ne_of_gt (blk_lt (g := gb201) (o := .cells #[.slice Ao29 t197.length co29] 42 (0, 0)) (Lam.bq BK201.out)) : gb213 ≠ gb201))
    have n17_ := Aside0.mk ((by rw [hg]; exact Nat.ne_of_lt (blk_lt (g := gb205) (o := .cells #[.slice Ao35 t202.length co35] 42 (0, 0)) (Lam.bq BK205.out)) : gb205 ≠ gb213))
    have n18_ := Aside0.mk ((by rw [hg]; exact Nat.ne_of_gt (blk_lt (g := gb205) (o := .cells #[.slice Ao35 t202.length co35] 42 (0, 0)) (Lam.bq BK205.out)) : gb213 ≠ gb205))
    clear HO193
    clear HO199
    clear HO204
    clear BK188
    clear BK189
    clear BK201
    clear BK205
    clear HB
    have HO193 := n0_
    have HO199 := n1_
    have HO204 := n2_
    have BK188 := n3_
    have BK189 := n4_
    have BK201 := n5_
    have BK205 := n6_
    have HB := n7_
    have BK213 := n8_
    have GW213 := n9_
    have GE213 := n10_
    have NB188_213 := n11_
    have NB213_188 := n12_
    have NB189_213 := n13_
    have NB213_189 := n14_
    have NB201_213 := n15_
    have NB213_201 := n16_
    have NB205_213 := n17_
    have NB213_205 := n18_
    clear n0_ n1_ n2_ n3_ n4_ n5_ n6_ n7_ n8_ n9_ n10_ n11_ n12_ n13_ n14_ n15_ n16_ n17_ n18_
    clear hb hbox hg
    refine hK.out _ _ ⟨(blk_cell BK205.out 0).trans rfl, (blk_cell BK189.out 0).trans rfl, (blk_cell BK189.out 1).trans rfl, (blk_cell BK189.out 2).trans rfl⟩ (fun hHeld => ?_)
    clear hK K
    refine norm_ (a' := ?_) ?_ ?_
    rotate_left
    ·show Act.put _ (some 9) _ = _
     simp only [Act.put, List.setIfInBounds_toArray, List.set_cons_zero, List.set_cons_succ, i64_w, i32_w]
     rfl
    refine one_ (i := 2) (N := some 34) #[true, true, true, false, false, false, false, true, false, false] rfl rfl (one_of HT_.out (by kernel_rfl)) (by decide) (fun K hK => ?_)
    refine goes_ Try.func17 (by kernel_rfl) rfl #[.agg #[.int .i64 a1_0, .int .i64 a1_1, .int .i64 a1_2]] (by rfl) rfl rfl (by (try simp only [List.map_toArray, List.map_cons, List.map_nil]); first | done | rfl | (simp only [List.length_drop, List.length_take]; rfl)) ?_
    with_reducible refine (laws_toClue.calls a1_0 a1_1 a1_2 t206 t207 t208 _ A14.out).mono ?_
    rintro e w43 ⟨rfl, hb⟩
    refine ⟨_, rfl, ?_⟩
    have n0_ := Aside0.mk (Kd.R_below (Lam.rq HO193.out) hb)
    have n1_ := Aside0.mk (Kd.R_below (Lam.rq HO199.out) hb)
    have n2_ := Aside0.mk (Kd.R_below (Lam.rq HO204.out) hb)
    have n3_ := Aside0.mk (blk_below (g := gb188) (o := .cells #[.slice A0_0 l0_0.length c0_0] 37 (0, 0)) (Lam.bq BK188.out) hb)
    have n4_ := Aside0.mk (blk_below (g := gb189) (o := .cells #[.int .i64 a1_0, .int .i64 a1_1, .int .i64 a1_2] 30 (0, 0)) (Lam.bq BK189.out) hb)
    have n5_ := Aside0.mk (blk_below (g := gb201) (o := .cells #[.slice Ao29 t197.length co29] 42 (0, 0)) (Lam.bq BK201.out) hb)
    have n6_ := Aside0.mk (blk_below (g := gb205) (o := .cells #[.slice Ao35 t202.length co35] 42 (0, 0)) (Lam.bq BK205.out) hb)
    have n7_ := Aside0.mk (blk_below (g := gb213) (o := .cells #[.slice none 0 0] 42 (0, 0)) (Lam.bq BK213.out) hb)
    have n8_ := Aside0.mk (below_step Lam.al hb)
    clear HO193
    clear HO199
    clear HO204
    clear BK188
    clear BK189
    clear BK201
    clear BK205
    clear BK213
    clear HB
    have HO193 := n0_
    have HO199 := n1_
    have HO204 := n2_
    have BK188 := n3_
    have BK189 := n4_
    have BK201 := n5_
    have BK205 := n6_
    have BK213 := n7_
    have HB := n8_
    clear n0_ n1_ n2_ n3_ n4_ n5_ n6_ n7_ n8_
    (try clear hb)
    (try clear hb2)
    (try clear hk)
    (try clear hi)
    refine hK.out _ _ ⟨(blk_cell BK205.out 0).trans rfl, (blk_cell BK189.out 0).trans rfl, (blk_cell BK189.out 1).trans rfl, (blk_cell BK189.out 2).trans rfl⟩ (fun hHeld => ?_)
    clear hK K
    refine norm_ (a' := ?_) ?_ ?_
    rotate_left
    ·show Act.put _ (some 34) _ = _
     simp only [Act.put, List.setIfInBounds_toArray, List.set_cons_zero, List.set_cons_succ, i64_w, i32_w]
     rfl
    refine one_ (i := 3) (N := some 35) #[true, true, true, true, false, false, false, true, false, false] rfl rfl (one_of HT_.out (by kernel_rfl)) (by decide) (fun K hK => ?_)
    refine goes_ Try.func39 (by kernel_rfl) rfl #[.agg #[.slice Ao35 t202.length co35], .agg #[.int .i64 t206, .int .i64 t207, .int .i64 t208]] (by rfl) rfl rfl (by (try simp only [List.map_toArray, List.map_cons, List.map_nil]); first | done | rfl | (simp only [List.length_drop, List.length_take]; rfl)) ?_
    with_reducible refine (impl_AddClue.calls _ _ t202 t206 t207 t208 t209 t212 _ ?side1 ?side2 A15.out).mono ?_
    (case side1 => repeat (first | exact (Kd.R_reads' HO204.out).2.2 | (with_reducible refine Kd.C_alloc ?_ _) | (with_reducible refine Kd.C_drewN ?_ _) | (with_reducible refine Kd.C_drew ?_)))
    (case side2 => exact (Kd.R_reads' HO204.out).2.1)
    rintro e w44 ⟨v210, rfl, ho0, hb⟩
    refine ⟨_, rfl, ?_⟩
    have n0_ := Aside0.mk (Kd.R_elder' (Lam.rq HO193.out) (Kd.R_base ho0) hb)
    have n1_ := Aside0.mk (Kd.R_elder' (Lam.rq HO199.out) (Kd.R_base ho0) hb)
    have n2_ := Aside0.mk (Kd.R_elder' (Lam.rq HO204.out) (Kd.R_base ho0) hb)
    have n3_ := Aside0.mk (Kd.R_lower (Kd.R_new' (Kd.R_new' (Kd.R_new' ho0 (Kd.R_lt (Lam.rq HO193.out))) (Kd.R_lt (Lam.rq HO199.out))) (Kd.R_lt (Lam.rq HO204.out))) (below_size Lam.al))
    have n4_ := Aside0.mk (blk_below (g := gb188) (o := .cells #[.slice A0_0 l0_0.length c0_0] 37 (0, 0)) (Lam.bq BK188.out) hb)
    have n5_ := Aside0.mk (blk_below (g := gb189) (o := .cells #[.int .i64 a1_0, .int .i64 a1_1, .int .i64 a1_2] 30 (0, 0)) (Lam.bq BK189.out) hb)
    have n6_ := Aside0.mk (blk_below (g := gb201) (o := .cells #[.slice Ao29 t197.length co29] 42 (0, 0)) (Lam.bq BK201.out) hb)
    have n7_ := Aside0.mk (blk_below (g := gb205) (o := .cells #[.slice Ao35 t202.length co35] 42 (0, 0)) (Lam.bq BK205.out) hb)
    have n8_ := Aside0.mk (blk_below (g := gb213) (o := .cells #[.slice none 0 0] 42 (0, 0)) (Lam.bq BK213.out) hb)
    have n9_ := Aside0.mk (below_step Lam.al hb)
    clear HO193
    clear HO199
    clear HO204
    clear BK188
    clear BK189
    clear BK201
    clear BK205
    clear BK213
    clear HB
    have HO193 := n0_
    have HO199 := n1_
    have HO204 := n2_
    have HO211 := n3_
    have BK188 := n4_
    have BK189 := n5_
    have BK201 := n6_
    have BK205 := n7_
    have BK213 := n8_
    have HB := n9_
    clear n0_ n1_ n2_ n3_ n4_ n5_ n6_ n7_ n8_ n9_
    (try clear hb)
    (try clear hb2)
    (try clear hk)
    (try clear hi)
    (try clear ho0)
    refine hK.out _ _ ⟨(blk_cell BK205.out 0).trans rfl, (blk_cell BK189.out 0).trans rfl, (blk_cell BK189.out 1).trans rfl, (blk_cell BK189.out 2).trans rfl⟩ (fun hHeld => ?_)
    clear hK K
    refine norm_ (a' := ?_) ?_ ?_
    rotate_left
    ·show Act.put _ (some 35) _ = _
     simp only [Act.put, List.setIfInBounds_toArray, List.set_cons_zero, List.set_cons_succ, i64_w, i32_w]
     rfl
    refine pure_ (i := 4) (N := some 31) (v := ?_) (a' := ?_) #[true, true, true, true, true, false, false, true, false, false] rfl rfl (any_of HT_.out (by kernel_rfl)) (fun _ _ _ h => h) (Or.inl ⟨by rfl, ?_⟩) ?_ ?_
    rotate_left
    ·intro w'
     go_simp
     with_reducible rfl
    rotate_left
    ·simp only [Act.put, List.setIfInBounds_toArray, List.set_cons_zero, List.set_cons_succ, i64_w, i32_w]
     rfl
    refine pure_ (i := 5) (N := some 36) (v := ?_) (a' := ?_) #[true, true, true, true, true, true, false, true, false, false] rfl rfl (any_of HT_.out (by kernel_rfl)) (fun _ _ _ h => h) (Or.inl ⟨by rfl, ?_⟩) ?_ ?_
    rotate_left
    ·intro w'
     go_simp
     with_reducible rfl
    rotate_left
    ·simp only [Act.put, List.setIfInBounds_toArray, List.set_cons_zero, List.set_cons_succ, i64_w, i32_w]
     rfl
    refine pure_ (i := 6) (N := some 37) (v := ?_) (a' := ?_) #[true, true, true, true, true, true, true, true, false, false] rfl rfl (any_of HT_.out (by kernel_rfl)) (fun _ _ _ h => h) (Or.inl ⟨by rfl, ?_⟩) ?_ ?_
    rotate_left
    ·intro w'
     go_simp
     with_reducible rfl
    rotate_left
    ·simp only [Act.put, List.setIfInBounds_toArray, List.set_cons_zero, List.set_cons_succ, i64_w, i32_w]
     rfl
    exact norm_ (by simp only [putAll, Act.put, List.setIfInBounds_toArray, List.set_cons_zero, List.set_cons_succ]) (hCont (v210, gb213) _ ⟨hHeld, (by (with_reducible repeat (first | apply Kd.R_alloc | apply Kd.R_drewN | apply Kd.R_drew)); exact Kd.R_mono HO193.out (fun _ hk => ⟨hk.1.1, ⟨hk.1.2, hk.2⟩⟩)), (by (with_reducible repeat (first | apply Kd.R_alloc | apply Kd.R_drewN | apply Kd.R_drew)); exact Kd.R_mono HO199.out (fun _ hk => ⟨hk.1.1, ⟨hk.1.2, hk.2⟩⟩)), (by (with_reducible repeat (first | apply Kd.R_alloc | apply Kd.R_drewN | apply Kd.R_drew)); exact Kd.R_mono HO204.out (fun _ hk => ⟨hk.1.1, ⟨hk.1.2, hk.2⟩⟩)), (by (with_reducible repeat (first | apply Kd.R_alloc | apply Kd.R_drewN | apply Kd.R_drew)); exact Kd.R_mono HO211.out (fun _ hk => ⟨hk.1.1.2, ⟨hk.1.2, hk.2⟩⟩)), (Lam.bq BK188.out), (Lam.bq BK189.out), (Lam.bq BK201.out), (Lam.bq BK205.out), (Lam.bq BK213.out), GW213.out, GE213.out, NB188_213.out, NB213_188.out, NB189_213.out, NB213_189.out, NB201_213.out, NB213_201.out, NB205_213.out, NB213_205.out, Lam.al⟩)
  rintro ⟨v210, gb213⟩ w45 ⟨hS_, h0_, h1_, h2_, h3_, h4_, h5_, h6_, h7_, h8_, h9_, h10_, h11_, h12_, h13_, h14_, h15_, h16_, h17_, h18_, h19_⟩
  have n0_ : Aside0 (Kd.R k32 32 w45 w.heap.size (fun k_ => some k_ ≠ (.slice Ao29 t197.length co29 : Value).ownBlock ∧ some k_ ≠ (.slice Ao35 t202.length co35 : Value).ownBlock ∧ some k_ ≠ (v210 : Value).ownBlock) v192 t191) := ⟨h0_⟩
  have n1_ : Aside0 (Kd.R k32 32 w45 w.heap.size (fun k_ => some k_ ≠ (v192 : Value).ownBlock ∧ some k_ ≠ (.slice Ao35 t202.length co35 : Value).ownBlock ∧ some k_ ≠ (v210 : Value).ownBlock) (.slice Ao29 t197.length co29) t197) := ⟨h1_⟩
  have n2_ : Aside0 (Kd.R k32 32 w45 w.heap.size (fun k_ => some k_ ≠ (v192 : Value).ownBlock ∧ some k_ ≠ (.slice Ao29 t197.length co29 : Value).ownBlock ∧ some k_ ≠ (v210 : Value).ownBlock) (.slice Ao35 t202.length co35) t202) := ⟨h2_⟩
  have n3_ : Aside0 (Kd.R k32 32 w45 w.heap.size (fun k_ => some k_ ≠ (v192 : Value).ownBlock ∧ some k_ ≠ (.slice Ao29 t197.length co29 : Value).ownBlock ∧ some k_ ≠ (.slice Ao35 t202.length co35 : Value).ownBlock) v210 t209) := ⟨h3_⟩
  have n4_ : Aside0 (w45.heap[gb188]? = some (.cells #[.slice A0_0 l0_0.length c0_0] 37 (0, 0))) := ⟨h4_⟩
  have n5_ : Aside0 (w45.heap[gb189]? = some (.cells #[.int .i64 a1_0, .int .i64 a1_1, .int .i64 a1_2] 30 (0, 0))) := ⟨h5_⟩
  have n6_ : Aside0 (w45.heap[gb201]? = some (.cells #[.slice Ao29 t197.length co29] 42 (0, 0))) := ⟨h6_⟩
  have n7_ : Aside0 (w45.heap[gb205]? = some (.cells #[.slice Ao35 t202.length co35] 42 (0, 0))) := ⟨h7_⟩
  have n8_ : Aside0 (w45.heap[gb213]? = some (.cells #[.slice none 0 0] 42 (0, 0))) := ⟨h8_⟩
  have n9_ : Aside0 (w.heap.size ≤ gb213) := ⟨h9_⟩
  have n10_ : Aside0 (w.heap.size ≤ gb213) := ⟨h10_⟩
  have n11_ : Aside0 (gb188 ≠ gb213) := ⟨h11_⟩
  have n12_ : Aside0 (gb213 ≠ gb188) := ⟨h12_⟩
  have n13_ : Aside0 (gb189 ≠ gb213) := ⟨h13_⟩
  have n14_ : Aside0 (gb213 ≠ gb189) := ⟨h14_⟩
  have n15_ : Aside0 (gb201 ≠ gb213) := ⟨h15_⟩
  have n16_ : Aside0 (gb213 ≠ gb201) := ⟨h16_⟩
  have n17_ : Aside0 (gb205 ≠ gb213) := ⟨h17_⟩
  have n18_ : Aside0 (gb213 ≠ gb205) := ⟨h18_⟩
  have n19_ : Aside0 (Below w.heap.size w w45) := ⟨h19_⟩
  clear HO193
  clear HO199
  clear HO204
  clear BK188
  clear BK189
  clear BK201
  clear BK205
  clear HB
  clear h0_ h1_ h2_ h3_ h4_ h5_ h6_ h7_ h8_ h9_ h10_ h11_ h12_ h13_ h14_ h15_ h16_ h17_ h18_ h19_
  have HO193 := n0_
  have HO199 := n1_
  have HO204 := n2_
  have HO211 := n3_
  have BK188 := n4_
  have BK189 := n5_
  have BK201 := n6_
  have BK205 := n7_
  have BK213 := n8_
  have GW213 := n9_
  have GE213 := n10_
  have NB188_213 := n11_
  have NB213_188 := n12_
  have NB189_213 := n13_
  have NB213_189 := n14_
  have NB201_213 := n15_
  have NB213_201 := n16_
  have NB205_213 := n17_
  have NB213_205 := n18_
  have HB := n19_
  clear n0_ n1_ n2_ n3_ n4_ n5_ n6_ n7_ n8_ n9_ n10_ n11_ n12_ n13_ n14_ n15_ n16_ n17_ n18_ n19_
  have hHeld : w45.cell? ⟨gb205, 0, none⟩ = some (.slice Ao35 t202.length co35) ∧ w45.cell? ⟨gb189, 0, none⟩ = some (.int .i64 a1_0) ∧ w45.cell? ⟨gb189, 1, none⟩ = some (.int .i64 a1_1) ∧ w45.cell? ⟨gb189, 2, none⟩ = some (.int .i64 a1_2) := hS_
  obtain ⟨Ao46, co46, eo46⟩ := Kd.R_slice HO211.out
  (first | subst eo46 | (injection eo46 with f1_ f2_ f3_; have f4_ := f1_.symm; have f5_ := f3_.symm; clear f1_ f2_ f3_; subst f4_; subst f5_))
  refine norm_ (a' := ?_) ?_ ?_
  rotate_left
  ·simp only [putAll, Act.put, List.setIfInBounds_toArray, List.set_cons_zero, List.set_cons_succ]
   rfl
  refine one_ (i := 8) (N := none) #[true, true, true, true, true, true, true, true, true, false] rfl rfl (one_of HT_.out (by kernel_rfl)) (by decide) (fun K hK => ?_)
  have hs47 : w45.cell? ⟨gb213, 0, none⟩ = some (.slice none 0 0) := (blk_cell BK213.out 0).trans rfl
  have hfs47 := blk_frozen BK213.out 0
  have hns47_0 := NB188_213.out
  have hns47_1 := NB189_213.out
  have hns47_2 := NB201_213.out
  have hns47_3 := NB205_213.out
  have hms47_0 := NB213_188.out
  have hms47_1 := NB213_189.out
  have hms47_2 := NB213_201.out
  have hms47_3 := NB213_205.out
  refine skip_ (w1 := ?_) (by rfl) rfl ?_ ?_
  rotate_left
  ·go_simp
   rfl
  refine hK.out _ _ ⟨((cell_far (p := ⟨gb213, _, none⟩) NB205_213.out _).trans (hHeld.1)), ((cell_far (p := ⟨gb213, _, none⟩) NB189_213.out _).trans (hHeld.2.1)), ((cell_far (p := ⟨gb213, _, none⟩) NB189_213.out _).trans (hHeld.2.2.1)), ((cell_far (p := ⟨gb213, _, none⟩) NB189_213.out _).trans (hHeld.2.2.2))⟩ (fun hHeld => ?_)
  clear hK K
  refine pure_ (i := 9) (N := some 10) (v := ?_) (a' := ?_) #[true, true, true, true, true, true, true, true, true, true] rfl rfl (any_of HT_.out (by kernel_rfl)) (fun _ _ _ h => h) (Or.inl ⟨by rfl, ?_⟩) ?_ ?_
  rotate_left
  ·intro w'
   go_simp
   with_reducible rfl
  rotate_left
  ·simp only [Act.put, List.setIfInBounds_toArray, List.set_cons_zero, List.set_cons_succ, i64_w, i32_w]
   rfl
  refine done_ (done_of HT_.out (by kernel_rfl)) ?_
  go_upto_region 8 with (fail)
  go_cut [46] (fun v46 wc => ∃ (kq : Nat) (x46_15 : Bool), v46 = .bool x46_15 ∧ Aside0 (laws_FnExactAddClue.j0 kq t200 t212 x46_15 l0_0 a1_0 a1_1 a1_2 t197 t202 t209 = some r) ∧ Aside0 (kq ≤ k) ∧ Aside0 (Kd.R k32 32 wc w.heap.size (fun k_ => some k_ ≠ ((.slice Ao35 t202.length co35) : Value).ownBlock ∧ some k_ ≠ ((.slice Ao46 t209.length co46) : Value).ownBlock) (.slice Ao29 t197.length co29) t197) ∧ Aside0 (Kd.R k32 32 wc w.heap.size (fun k_ => some k_ ≠ ((.slice Ao29 t197.length co29) : Value).ownBlock ∧ some k_ ≠ ((.slice Ao46 t209.length co46) : Value).ownBlock) (.slice Ao35 t202.length co35) t202) ∧ Aside0 (Kd.R k32 32 wc w.heap.size (fun k_ => some k_ ≠ ((.slice Ao29 t197.length co29) : Value).ownBlock ∧ some k_ ≠ ((.slice Ao35 t202.length co35) : Value).ownBlock) (.slice Ao46 t209.length co46) t209) ∧ Aside0 (wc.heap[gb188]? = some (.cells #[(.slice A0_0 l0_0.length c0_0)] 37 (0, 0))) ∧ Aside0 (wc.heap[gb189]? = some (.cells #[.int .i64 a1_0, .int .i64 a1_1, .int .i64 a1_2] 30 (0, 0))) ∧ Aside0 (wc.heap[gb201]? = some (.cells #[(.slice Ao29 t197.length co29)] 42 (0, 0))) ∧ Aside0 (wc.heap[gb205]? = some (.cells #[(.slice Ao35 t202.length co35)] 42 (0, 0))) ∧ Aside0 (wc.heap[gb213]? = some (.cells #[(.slice Ao46 t209.length co46)] 42 (0, 0))) ∧ Aside0 (Below w.heap.size w wc))
  case first =>
   have H := HC16.out
   clear HC16
   replace H := Option.bind_eq_some_iff.mp H
   obtain ⟨t214, A480, H⟩ := H
   replace H : (if t214 = true then (laws_FnExactAddClue.j0 k t200 t212 (t212 != t200) l0_0 a1_0 a1_1 a1_2 t197 t202 t209) else (laws_FnExactAddClue.j0 k t200 t212 true l0_0 a1_0 a1_1 a1_2 t197 t202 t209)) = some r := H
   have A48 := Aside0.mk A480
   clear A480
   by_cases c49 : t214 = true
   ·subst c49
    have H1 : (laws_FnExactAddClue.j0 k t200 t212 (t212 != t200) l0_0 a1_0 a1_1 a1_2 t197 t202 t209) = some r := by rw [if_pos rfl] at H; exact H
    clear H
    have H := H1
    clear H1
    have H' := Aside0.mk H
    clear H
    have hnb50 := NB213_188.out
    have hnc50 := NB188_213.out
    have hnb51 := NB213_189.out
    have hnc51 := NB189_213.out
    have hnb52 := NB213_201.out
    have hnc52 := NB201_213.out
    have hnb53 := NB213_205.out
    have hnc53 := NB205_213.out
    have hcz54_0 : w45.cell? ⟨gb213, 0, none⟩ = some (.slice none 0 0) := (blk_cell BK213.out 0).trans rfl
    have hfz54_0 := blk_frozen BK213.out 0
    have hnb55 := NB201_188.out
    have hnc55 := NB188_201.out
    have hnb56 := NB201_189.out
    have hnc56 := NB189_201.out
    have hnb57 := NB201_205.out
    have hnc57 := NB205_201.out
    have hcz58_0 : w45.cell? ⟨gb201, 0, none⟩ = some (.slice Ao29 t197.length co29) := (blk_cell BK201.out 0).trans rfl
    have hfz58_0 := blk_frozen BK201.out 0
    go_wp2_with (first | ((with_reducible refine gate_callee (f := 23) rfl ?_); refine goesL_ (some 40) rfl rfl Try.func23 (by kernel_rfl) rfl #[.agg #[.slice Ao46 t209.length co46], .agg #[.slice Ao29 t197.length co29]] rfl (by (try simp only [List.map_toArray, List.map_cons, List.map_nil]); first | done | rfl | (simp only [List.length_drop, List.length_take]; rfl)) ?_; (with_reducible refine (laws_eqPuzzle.calls k _ _ t209 _ _ t197 true _ ?side1 ?side2 ?side3 ?side4 A48.out).mono ?_); (case side1 => refine (Kd.R_reads' (e := 32) (base := w.heap.size) (ok := fun k_ => (some k_ ≠ (v192 : Value).ownBlock ∧ (some k_ ≠ (.slice Ao29 t197.length co29 : Value).ownBlock ∧ some k_ ≠ (.slice Ao35 t202.length co35 : Value).ownBlock))) (n := t209.length) (c := co46) ?_).2.2; exact (by (with_reducible repeat (first | apply Kd.R_alloc | apply Kd.R_drewN | apply Kd.R_drew)); exact (Kd.R_mono (Kd.R_far (p := ⟨gb213, 0, none⟩) (Kd.R_types HO211.out BK213.out (by decide)) (fun _ hk => hk.2) (.slice Ao46 t209.length co46)) (fun _ h_ => h_.1)))); (case side2 => exact (Kd.R_reads' HO211.out).2.1); (case side3 => refine (Kd.R_reads' (e := 32) (base := w.heap.size) (ok := fun k_ => (some k_ ≠ (v192 : Value).ownBlock ∧ (some k_ ≠ (.slice Ao35 t202.length co35 : Value).ownBlock ∧ some k_ ≠ (.slice Ao46 t209.length co46 : Value).ownBlock))) (n := t197.length) (c := co29) ?_).2.2; exact (by (with_reducible repeat (first | apply Kd.R_alloc | apply Kd.R_drewN | apply Kd.R_drew)); exact (Kd.R_mono (Kd.R_far (p := ⟨gb213, 0, none⟩) (Kd.R_types HO199.out BK213.out (by decide)) (fun _ hk => hk.2) (.slice Ao46 t209.length co46)) (fun _ h_ => h_.1)))); (case side4 => exact (Kd.R_reads' HO199.out).2.1); rintro e w59 ⟨rfl, hb⟩; refine ⟨_, rfl, ?_⟩; have n0_ := Aside0.mk (Kd.R_below (by (with_reducible repeat (first | apply Kd.R_alloc | apply Kd.R_drewN | apply Kd.R_drew)); exact (Kd.R_mono (Kd.R_far (p := ⟨gb213, 0, none⟩) (Kd.R_types HO193.out BK213.out (by decide)) (fun _ hk => hk.2) (.slice Ao46 t209.length co46)) (fun _ h_ => h_.1))) hb); have n1_ := Aside0.mk (Kd.R_below (by (with_reducible repeat (first | apply Kd.R_alloc | apply Kd.R_drewN | apply Kd.R_drew)); exact (Kd.R_mono (Kd.R_far (p := ⟨gb213, 0, none⟩) (Kd.R_types HO199.out BK213.out (by decide)) (fun _ hk => hk.2) (.slice Ao46 t209.length co46)) (fun _ h_ => h_.1))) hb); have n2_ := Aside0.mk (Kd.R_below (by (with_reducible repeat (first | apply Kd.R_alloc | apply Kd.R_drewN | apply Kd.R_drew)); exact (Kd.R_mono (Kd.R_far (p := ⟨gb213, 0, none⟩) (Kd.R_types HO204.out BK213.out (by decide)) (fun _ hk => hk.2) (.slice Ao46 t209.length co46)) (fun _ h_ => h_.1))) hb); have n3_ := Aside0.mk (Kd.R_below (by (with_reducible repeat (first | apply Kd.R_alloc | apply Kd.R_drewN | apply Kd.R_drew)); exact (Kd.R_mono (Kd.R_far (p := ⟨gb213, 0, none⟩) (Kd.R_types HO211.out BK213.out (by decide)) (fun _ hk => hk.2) (.slice Ao46 t209.length co46)) (fun _ h_ => h_.1))) hb); have n4_ := Aside0.mk (blk_below (g := gb188) (o := .cells #[.slice A0_0 l0_0.length c0_0] 37 (0, 0)) (by (with_reducible repeat (first | refine blk_drewN ?_ _ | refine blk_drew ?_ | refine blk_alloc ?_ _)); refine blk_far ?_ NB188_213.out _; (with_reducible repeat (first | refine blk_drewN ?_ _ | refine blk_drew ?_ | refine blk_alloc ?_ _)); exact BK188.out) hb); have n5_ := Aside0.mk (blk_below (g := gb189) (o := .cells #[.int .i64 a1_0, .int .i64 a1_1, .int .i64 a1_2] 30 (0, 0)) (by (with_reducible repeat (first | refine blk_drewN ?_ _ | refine blk_drew ?_ | refine blk_alloc ?_ _)); refine blk_far ?_ NB189_213.out _; (with_reducible repeat (first | refine blk_drewN ?_ _ | refine blk_drew ?_ | refine blk_alloc ?_ _)); exact BK189.out) hb); have n6_ := Aside0.mk (blk_below (g := gb201) (o := .cells #[.slice Ao29 t197.length co29] 42 (0, 0)) (by (with_reducible repeat (first | refine blk_drewN ?_ _ | refine blk_drew ?_ | refine blk_alloc ?_ _)); refine blk_far ?_ NB201_213.out _; (with_reducible repeat (first | refine blk_drewN ?_ _ | refine blk_drew ?_ | refine blk_alloc ?_ _)); exact BK201.out) hb); have n7_ := Aside0.mk (blk_below (g := gb205) (o := .cells #[.slice Ao35 t202.length co35] 42 (0, 0)) (by (with_reducible repeat (first | refine blk_drewN ?_ _ | refine blk_drew ?_ | refine blk_alloc ?_ _)); refine blk_far ?_ NB205_213.out _; (with_reducible repeat (first | refine blk_drewN ?_ _ | refine blk_drew ?_ | refine blk_alloc ?_ _)); exact BK205.out) hb); have n8_ := Aside0.mk (blk_below (g := gb213) (o := .cells #[.slice Ao46 t209.length co46] 42 (0, 0)) (by (with_reducible repeat (first | refine blk_drewN ?_ _ | refine blk_drew ?_ | refine blk_alloc ?_ _)); refine blk_put (cs := #[.slice none 0 0]) ?_ 0 _ rfl; (with_reducible repeat (first | refine blk_drewN ?_ _ | refine blk_drew ?_ | refine blk_alloc ?_ _)); exact BK213.out) hb); have n9_ := Aside0.mk (below_step Lam.al hb); clear HO193; clear HO199; clear HO204; clear HO211; clear BK188; clear BK189; clear BK201; clear BK205; clear BK213; clear HB; have HO193 := n0_; have HO199 := n1_; have HO204 := n2_; have HO211 := n3_; have BK188 := n4_; have BK189 := n5_; have BK201 := n6_; have BK205 := n7_; have BK213 := n8_; have HB := n9_; clear n0_ n1_ n2_ n3_ n4_ n5_ n6_ n7_ n8_ n9_; (try clear hb); (try clear hb2); (try clear hk); (try clear hi)))
    go_meet
    case rel => exact ⟨_, ((t212 != t200)), (by first | rfl | (simp; done) | (simp [*]; done)), H', ⟨by first | omega | exact Nat.le_refl _⟩, ⟨by (with_reducible repeat (first | apply Kd.R_alloc | apply Kd.R_drewN | apply Kd.R_drew)); exact Kd.R_mono HO199.out (fun _ hk => ⟨hk.2.1, hk.2.2⟩)⟩, ⟨by (with_reducible repeat (first | apply Kd.R_alloc | apply Kd.R_drewN | apply Kd.R_drew)); exact Kd.R_mono HO204.out (fun _ hk => ⟨hk.2.1, hk.2.2⟩)⟩, ⟨by (with_reducible repeat (first | apply Kd.R_alloc | apply Kd.R_drewN | apply Kd.R_drew)); exact Kd.R_mono HO211.out (fun _ hk => ⟨hk.2.1, hk.2.2⟩)⟩, ⟨by (with_reducible repeat (first | refine blk_drewN ?_ _ | refine blk_drew ?_ | refine blk_alloc ?_ _)); exact BK188.out⟩, ⟨by (with_reducible repeat (first | refine blk_drewN ?_ _ | refine blk_drew ?_ | refine blk_alloc ?_ _)); exact BK189.out⟩, ⟨by (with_reducible repeat (first | refine blk_drewN ?_ _ | refine blk_drew ?_ | refine blk_alloc ?_ _)); exact BK201.out⟩, ⟨by (with_reducible repeat (first | refine blk_drewN ?_ _ | refine blk_drew ?_ | refine blk_alloc ?_ _)); exact BK205.out⟩, ⟨by (with_reducible repeat (first | refine blk_drewN ?_ _ | refine blk_drew ?_ | refine blk_alloc ?_ _)); exact BK213.out⟩, ⟨by repeat (first | (with_reducible first | exact HB.out | apply below_alloc | apply pw_below_drewN | apply below_drew1 | refine below_set ?_ GE188.out | refine below_set ?_ GE189.out | refine below_set ?_ GE201.out | refine below_set ?_ GE205.out | refine below_set ?_ GE213.out) | exact HB.out)⟩⟩
   ·replace c49 := Bool.eq_false_iff.mpr c49
    subst c49
    have H1 : (laws_FnExactAddClue.j0 k t200 t212 true l0_0 a1_0 a1_1 a1_2 t197 t202 t209) = some r := by rw [if_neg (show ¬ (false = true) by decide)] at H; exact H
    clear H
    have H := H1
    clear H1
    have H' := Aside0.mk H
    clear H
    have hnb60 := NB213_188.out
    have hnc60 := NB188_213.out
    have hnb61 := NB213_189.out
    have hnc61 := NB189_213.out
    have hnb62 := NB213_201.out
    have hnc62 := NB201_213.out
    have hnb63 := NB213_205.out
    have hnc63 := NB205_213.out
    have hcz64_0 : w45.cell? ⟨gb213, 0, none⟩ = some (.slice none 0 0) := (blk_cell BK213.out 0).trans rfl
    have hfz64_0 := blk_frozen BK213.out 0
    have hnb65 := NB201_188.out
    have hnc65 := NB188_201.out
    have hnb66 := NB201_189.out
    have hnc66 := NB189_201.out
    have hnb67 := NB201_205.out
    have hnc67 := NB205_201.out
    have hcz68_0 : w45.cell? ⟨gb201, 0, none⟩ = some (.slice Ao29 t197.length co29) := (blk_cell BK201.out 0).trans rfl
    have hfz68_0 := blk_frozen BK201.out 0
    go_wp2_with (first | ((with_reducible refine gate_callee (f := 23) rfl ?_); refine goesL_ (some 40) rfl rfl Try.func23 (by kernel_rfl) rfl #[.agg #[.slice Ao46 t209.length co46], .agg #[.slice Ao29 t197.length co29]] rfl (by (try simp only [List.map_toArray, List.map_cons, List.map_nil]); first | done | rfl | (simp only [List.length_drop, List.length_take]; rfl)) ?_; (with_reducible refine (laws_eqPuzzle.calls k _ _ t209 _ _ t197 false _ ?side1 ?side2 ?side3 ?side4 A48.out).mono ?_); (case side1 => refine (Kd.R_reads' (e := 32) (base := w.heap.size) (ok := fun k_ => (some k_ ≠ (v192 : Value).ownBlock ∧ (some k_ ≠ (.slice Ao29 t197.length co29 : Value).ownBlock ∧ some k_ ≠ (.slice Ao35 t202.length co35 : Value).ownBlock))) (n := t209.length) (c := co46) ?_).2.2; exact (by (with_reducible repeat (first | apply Kd.R_alloc | apply Kd.R_drewN | apply Kd.R_drew)); exact (Kd.R_mono (Kd.R_far (p := ⟨gb213, 0, none⟩) (Kd.R_types HO211.out BK213.out (by decide)) (fun _ hk => hk.2) (.slice Ao46 t209.length co46)) (fun _ h_ => h_.1)))); (case side2 => exact (Kd.R_reads' HO211.out).2.1); (case side3 => refine (Kd.R_reads' (e := 32) (base := w.heap.size) (ok := fun k_ => (some k_ ≠ (v192 : Value).ownBlock ∧ (some k_ ≠ (.slice Ao35 t202.length co35 : Value).ownBlock ∧ some k_ ≠ (.slice Ao46 t209.length co46 : Value).ownBlock))) (n := t197.length) (c := co29) ?_).2.2; exact (by (with_reducible repeat (first | apply Kd.R_alloc | apply Kd.R_drewN | apply Kd.R_drew)); exact (Kd.R_mono (Kd.R_far (p := ⟨gb213, 0, none⟩) (Kd.R_types HO199.out BK213.out (by decide)) (fun _ hk => hk.2) (.slice Ao46 t209.length co46)) (fun _ h_ => h_.1)))); (case side4 => exact (Kd.R_reads' HO199.out).2.1); rintro e w69 ⟨rfl, hb⟩; refine ⟨_, rfl, ?_⟩; have n0_ := Aside0.mk (Kd.R_below (by (with_reducible repeat (first | apply Kd.R_alloc | apply Kd.R_drewN | apply Kd.R_drew)); exact (Kd.R_mono (Kd.R_far (p := ⟨gb213, 0, none⟩) (Kd.R_types HO193.out BK213.out (by decide)) (fun _ hk => hk.2) (.slice Ao46 t209.length co46)) (fun _ h_ => h_.1))) hb); have n1_ := Aside0.mk (Kd.R_below (by (with_reducible repeat (first | apply Kd.R_alloc | apply Kd.R_drewN | apply Kd.R_drew)); exact (Kd.R_mono (Kd.R_far (p := ⟨gb213, 0, none⟩) (Kd.R_types HO199.out BK213.out (by decide)) (fun _ hk => hk.2) (.slice Ao46 t209.length co46)) (fun _ h_ => h_.1))) hb); have n2_ := Aside0.mk (Kd.R_below (by (with_reducible repeat (first | apply Kd.R_alloc | apply Kd.R_drewN | apply Kd.R_drew)); exact (Kd.R_mono (Kd.R_far (p := ⟨gb213, 0, none⟩) (Kd.R_types HO204.out BK213.out (by decide)) (fun _ hk => hk.2) (.slice Ao46 t209.length co46)) (fun _ h_ => h_.1))) hb); have n3_ := Aside0.mk (Kd.R_below (by (with_reducible repeat (first | apply Kd.R_alloc | apply Kd.R_drewN | apply Kd.R_drew)); exact (Kd.R_mono (Kd.R_far (p := ⟨gb213, 0, none⟩) (Kd.R_types HO211.out BK213.out (by decide)) (fun _ hk => hk.2) (.slice Ao46 t209.length co46)) (fun _ h_ => h_.1))) hb); have n4_ := Aside0.mk (blk_below (g := gb188) (o := .cells #[.slice A0_0 l0_0.length c0_0] 37 (0, 0)) (by (with_reducible repeat (first | refine blk_drewN ?_ _ | refine blk_drew ?_ | refine blk_alloc ?_ _)); refine blk_far ?_ NB188_213.out _; (with_reducible repeat (first | refine blk_drewN ?_ _ | refine blk_drew ?_ | refine blk_alloc ?_ _)); exact BK188.out) hb); have n5_ := Aside0.mk (blk_below (g := gb189) (o := .cells #[.int .i64 a1_0, .int .i64 a1_1, .int .i64 a1_2] 30 (0, 0)) (by (with_reducible repeat (first | refine blk_drewN ?_ _ | refine blk_drew ?_ | refine blk_alloc ?_ _)); refine blk_far ?_ NB189_213.out _; (with_reducible repeat (first | refine blk_drewN ?_ _ | refine blk_drew ?_ | refine blk_alloc ?_ _)); exact BK189.out) hb); have n6_ := Aside0.mk (blk_below (g := gb201) (o := .cells #[.slice Ao29 t197.length co29] 42 (0, 0)) (by (with_reducible repeat (first | refine blk_drewN ?_ _ | refine blk_drew ?_ | refine blk_alloc ?_ _)); refine blk_far ?_ NB201_213.out _; (with_reducible repeat (first | refine blk_drewN ?_ _ | refine blk_drew ?_ | refine blk_alloc ?_ _)); exact BK201.out) hb); have n7_ := Aside0.mk (blk_below (g := gb205) (o := .cells #[.slice Ao35 t202.length co35] 42 (0, 0)) (by (with_reducible repeat (first | refine blk_drewN ?_ _ | refine blk_drew ?_ | refine blk_alloc ?_ _)); refine blk_far ?_ NB205_213.out _; (with_reducible repeat (first | refine blk_drewN ?_ _ | refine blk_drew ?_ | refine blk_alloc ?_ _)); exact BK205.out) hb); have n8_ := Aside0.mk (blk_below (g := gb213) (o := .cells #[.slice Ao46 t209.length co46] 42 (0, 0)) (by (with_reducible repeat (first | refine blk_drewN ?_ _ | refine blk_drew ?_ | refine blk_alloc ?_ _)); refine blk_put (cs := #[.slice none 0 0]) ?_ 0 _ rfl; (with_reducible repeat (first | refine blk_drewN ?_ _ | refine blk_drew ?_ | refine blk_alloc ?_ _)); exact BK213.out) hb); have n9_ := Aside0.mk (below_step Lam.al hb); clear HO193; clear HO199; clear HO204; clear HO211; clear BK188; clear BK189; clear BK201; clear BK205; clear BK213; clear HB; have HO193 := n0_; have HO199 := n1_; have HO204 := n2_; have HO211 := n3_; have BK188 := n4_; have BK189 := n5_; have BK201 := n6_; have BK205 := n7_; have BK213 := n8_; have HB := n9_; clear n0_ n1_ n2_ n3_ n4_ n5_ n6_ n7_ n8_ n9_; (try clear hb); (try clear hb2); (try clear hk); (try clear hi)))
    go_meet
    case rel => exact ⟨_, (true), (by first | rfl | (simp; done) | (simp [*]; done)), H', ⟨by first | omega | exact Nat.le_refl _⟩, ⟨by (with_reducible repeat (first | apply Kd.R_alloc | apply Kd.R_drewN | apply Kd.R_drew)); exact Kd.R_mono HO199.out (fun _ hk => ⟨hk.2.1, hk.2.2⟩)⟩, ⟨by (with_reducible repeat (first | apply Kd.R_alloc | apply Kd.R_drewN | apply Kd.R_drew)); exact Kd.R_mono HO204.out (fun _ hk => ⟨hk.2.1, hk.2.2⟩)⟩, ⟨by (with_reducible repeat (first | apply Kd.R_alloc | apply Kd.R_drewN | apply Kd.R_drew)); exact Kd.R_mono HO211.out (fun _ hk => ⟨hk.2.1, hk.2.2⟩)⟩, ⟨by (with_reducible repeat (first | refine blk_drewN ?_ _ | refine blk_drew ?_ | refine blk_alloc ?_ _)); exact BK188.out⟩, ⟨by (with_reducible repeat (first | refine blk_drewN ?_ _ | refine blk_drew ?_ | refine blk_alloc ?_ _)); exact BK189.out⟩, ⟨by (with_reducible repeat (first | refine blk_drewN ?_ _ | refine blk_drew ?_ | refine blk_alloc ?_ _)); exact BK201.out⟩, ⟨by (with_reducible repeat (first | refine blk_drewN ?_ _ | refine blk_drew ?_ | refine blk_alloc ?_ _)); exact BK205.out⟩, ⟨by (with_reducible repeat (first | refine blk_drewN ?_ _ | refine blk_drew ?_ | refine blk_alloc ?_ _)); exact BK213.out⟩, ⟨by repeat (first | (with_reducible first | exact HB.out | apply below_alloc | apply pw_below_drewN | apply below_drew1 | refine below_set ?_ GE188.out | refine below_set ?_ GE189.out | refine below_set ?_ GE201.out | refine below_set ?_ GE205.out | refine below_set ?_ GE213.out) | exact HB.out)⟩⟩
  case rest =>
   clear HC16
   try clear c1
   try clear c2
   try clear p2
   try clear c3
   try clear c4
   try clear c5
   try clear c6
   try clear c17
   try clear c23
   try clear c39
   try clear c49
   try clear c50
   try clear c51
   try clear c52
   try clear c53
   try clear c55
   try clear c56
   try clear c57
   try clear c60
   try clear c61
   try clear c62
   try clear c63
   try clear c65
   try clear c66
   try clear c67
   try clear hcz54_0
   try clear hcz58_0
   try clear hcz64_0
   try clear hcz68_0
   try clear hfz54_0
   try clear hfz58_0
   try clear hfz64_0
   try clear hfz68_0
   obtain ⟨kq, x46_15, rfl, HA, HJ15, HO_202000, HO_206000, HO_214000, BK188, BK189, BK201, BK205, BK213, HB⟩ := hcut
   cases kq with
   | zero => exact absurd HA.out (by simp [laws_FnExactAddClue.j0])
   | succ kj15 =>
    have H := HA.out
    clear HA
    simp only [laws_FnExactAddClue.j0] at H
    by_cases c70 : x46_15 = true
    ·subst c70
     have H1 : (none) = some r := by rw [if_pos rfl] at H; exact H
     clear H
     have H := H1
     clear H1
     exact absurd H (by simp)
    ·replace c70 := Bool.eq_false_iff.mpr c70
     subst c70
     have H1 : ((laws_toPuzzle.f kj15 l0_0).bind fun t215 => ((laws_eqPuzzle.f kj15 t202 t215).bind fun t218 => (if t218 = true then ((laws_markPuzzle.f kj15 t202 1).bind fun bt219 => (if bt219.1 < 0 then (laws_FnExactAddClue.j1 kj15 t200 true l0_0 a1_0 a1_1 a1_2 t197 t209) else ((laws_eqPuzzle.f kj15 t209 t197).bind fun t221 => (if t221 = true then (laws_FnExactAddClue.j1 kj15 t200 (t212 != t200) l0_0 a1_0 a1_1 a1_2 t197 t209) else (laws_FnExactAddClue.j1 kj15 t200 true l0_0 a1_0 a1_1 a1_2 t197 t209))))) else (none)))) = some r := by rw [if_neg (show ¬ (false = true) by decide)] at H; exact H
     clear H
     have H := H1
     clear H1
     replace H := Option.bind_eq_some_iff.mp H
     obtain ⟨t215, A710, H⟩ := H
     replace H : ((laws_eqPuzzle.f kj15 t202 t215).bind fun t218 => (if t218 = true then ((laws_markPuzzle.f kj15 t202 1).bind fun bt219 => (if bt219.1 < 0 then (laws_FnExactAddClue.j1 kj15 t200 true l0_0 a1_0 a1_1 a1_2 t197 t209) else ((laws_eqPuzzle.f kj15 t209 t197).bind fun t221 => (if t221 = true then (laws_FnExactAddClue.j1 kj15 t200 (t212 != t200) l0_0 a1_0 a1_1 a1_2 t197 t209) else (laws_FnExactAddClue.j1 kj15 t200 true l0_0 a1_0 a1_1 a1_2 t197 t209))))) else (none))) = some r := H
     have A71 := Aside0.mk A710
     clear A710
     replace H := Option.bind_eq_some_iff.mp H
     obtain ⟨t218, A720, H⟩ := H
     replace H : (if t218 = true then ((laws_markPuzzle.f kj15 t202 1).bind fun bt219 => (if bt219.1 < 0 then (laws_FnExactAddClue.j1 kj15 t200 true l0_0 a1_0 a1_1 a1_2 t197 t209) else ((laws_eqPuzzle.f kj15 t209 t197).bind fun t221 => (if t221 = true then (laws_FnExactAddClue.j1 kj15 t200 (t212 != t200) l0_0 a1_0 a1_1 a1_2 t197 t209) else (laws_FnExactAddClue.j1 kj15 t200 true l0_0 a1_0 a1_1 a1_2 t197 t209))))) else (none)) = some r := H
     have A72 := Aside0.mk A720
     clear A720
     by_cases c73 : t218 = true
     ·subst c73
      have H1 : ((laws_markPuzzle.f kj15 t202 1).bind fun bt219 => (if bt219.1 < 0 then (laws_FnExactAddClue.j1 kj15 t200 true l0_0 a1_0 a1_1 a1_2 t197 t209) else ((laws_eqPuzzle.f kj15 t209 t197).bind fun t221 => (if t221 = true then (laws_FnExactAddClue.j1 kj15 t200 (t212 != t200) l0_0 a1_0 a1_1 a1_2 t197 t209) else (laws_FnExactAddClue.j1 kj15 t200 true l0_0 a1_0 a1_1 a1_2 t197 t209))))) = some r := by rw [if_pos rfl] at H; exact H
      clear H
      have H := H1
      clear H1
      replace H := Option.bind_eq_some_iff.mp H
      obtain ⟨⟨t219, t220⟩, A740, H⟩ := H
      replace H : (if t219 < 0 then (laws_FnExactAddClue.j1 kj15 t200 true l0_0 a1_0 a1_1 a1_2 t197 t209) else ((laws_eqPuzzle.f kj15 t209 t197).bind fun t221 => (if t221 = true then (laws_FnExactAddClue.j1 kj15 t200 (t212 != t200) l0_0 a1_0 a1_1 a1_2 t197 t209) else (laws_FnExactAddClue.j1 kj15 t200 true l0_0 a1_0 a1_1 a1_2 t197 t209)))) = some r := H
      have A74 := Aside0.mk A740
      clear A740
      have HC75 := Aside0.mk H
      clear H
      try go_wp2
      have n0_ := Aside0.mk (Kd.R_drew HO_202000.out)
      have n1_ := Aside0.mk (Kd.R_drew HO_206000.out)
      have n2_ := Aside0.mk (Kd.R_drew HO_214000.out)
      have n3_ := Aside0.mk (blk_drew BK188.out)
      have n4_ := Aside0.mk (blk_drew BK189.out)
      have n5_ := Aside0.mk (blk_drew BK201.out)
      have n6_ := Aside0.mk (blk_drew BK205.out)
      have n7_ := Aside0.mk (blk_drew BK213.out)
      have n8_ := Aside0.mk (below_drew1 HB.out)
      clear HO_202000
      clear HO_206000
      clear HO_214000
      clear BK188
      clear BK189
      clear BK201
      clear BK205
      clear BK213
      clear HB
      have HO_202000 := n0_
      have HO_206000 := n1_
      have HO_214000 := n2_
      have BK188 := n3_
      have BK189 := n4_
      have BK201 := n5_
      have BK205 := n6_
      have BK213 := n7_
      have HB := n8_
      clear n0_ n1_ n2_ n3_ n4_ n5_ n6_ n7_ n8_
      refine start_ (n := 5) (S := fun w' => w'.cell? ⟨gb205, 0, none⟩ = some (.slice Ao35 t202.length co35) ∧ w'.cell? ⟨gb188, 0, none⟩ = some (.slice A0_0 l0_0.length c0_0)) (ds := []) #[false, false, false, false, false] (by kernel_rfl) rfl rfl ⟨(blk_cell BK205.out 0).trans rfl, (blk_cell BK188.out 0).trans rfl⟩ (fun hHeld => ?_)
      generalize wc.drew = w76 at HO_202000 HO_206000 HO_214000 BK188 BK189 BK201 BK205 BK213 HB hHeld ⊢
      refine take_ (i := 0) (N := some 47) (v := ?_) (a' := ?_) #[true, false, false, false, false] rfl rfl (by kernel_rfl) (fun _ _ _ h => h) (Or.inl ⟨by rfl, ?_⟩) hHeld ?_ ?_
      rotate_left
      ·rintro w' ⟨s0, s1⟩
       go_simp
       with_reducible rfl
      rotate_left
      ·simp only [Act.put, List.setIfInBounds_toArray, List.set_cons_zero, List.set_cons_succ, i64_w, i32_w]
       rfl
      refine take_ (i := 1) (N := some 48) (v := ?_) (a' := ?_) #[true, true, false, false, false] rfl rfl (by kernel_rfl) (fun _ _ _ h => h) (Or.inl ⟨by rfl, ?_⟩) hHeld ?_ ?_
      rotate_left
      ·rintro w' ⟨s0, s1⟩
       go_simp
       with_reducible rfl
      rotate_left
      ·simp only [Act.put, List.setIfInBounds_toArray, List.set_cons_zero, List.set_cons_succ, i64_w, i32_w]
       rfl
      refine one_ (i := 2) (N := some 49) #[true, true, true, false, false] rfl rfl (by kernel_rfl) (by decide) (fun K hK => ?_)
      refine goes_ Try.func21 (by kernel_rfl) rfl #[.agg #[.slice A0_0 l0_0.length c0_0]] (by rfl) rfl rfl (by (try simp only [List.map_toArray, List.map_cons, List.map_nil]); first | done | rfl | (simp only [List.length_drop, List.length_take]; rfl)) ?_
      with_reducible refine (laws_toPuzzle.calls kj15 _ _ l0_0 t215 _ ?side1 ?side2 A71.out).mono ?_
      (case side1 => repeat (first | exact (Kd.C_below HR0_0.out HB.out) | (with_reducible refine Kd.C_alloc ?_ _) | (with_reducible refine Kd.C_drewN ?_ _) | (with_reducible refine Kd.C_drew ?_)))
      (case side2 => exact HC0_0.out)
      rintro e w77 ⟨v216, rfl, ho0, hb⟩
      refine ⟨_, rfl, ?_⟩
      have n0_ := Aside0.mk (Kd.R_elder' (by (with_reducible repeat (first | apply Kd.R_alloc | apply Kd.R_drewN | apply Kd.R_drew)); exact HO_202000.out) (Kd.R_base ho0) hb)
      have n1_ := Aside0.mk (Kd.R_elder' (by (with_reducible repeat (first | apply Kd.R_alloc | apply Kd.R_drewN | apply Kd.R_drew)); exact HO_206000.out) (Kd.R_base ho0) hb)
      have n2_ := Aside0.mk (Kd.R_elder' (by (with_reducible repeat (first | apply Kd.R_alloc | apply Kd.R_drewN | apply Kd.R_drew)); exact HO_214000.out) (Kd.R_base ho0) hb)
      have n3_ := Aside0.mk (Kd.R_lower (Kd.R_new' (Kd.R_new' (Kd.R_new' ho0 (Kd.R_lt (by (with_reducible repeat (first | apply Kd.R_alloc | apply Kd.R_drewN | apply Kd.R_drew)); exact HO_202000.out))) (Kd.R_lt (by (with_reducible repeat (first | apply Kd.R_alloc | apply Kd.R_drewN | apply Kd.R_drew)); exact HO_206000.out))) (Kd.R_lt (by (with_reducible repeat (first | apply Kd.R_alloc | apply Kd.R_drewN | apply Kd.R_drew)); exact HO_214000.out))) (below_size Lam.al))
      have n4_ := Aside0.mk (blk_below (g := gb188) (o := .cells #[.slice A0_0 l0_0.length c0_0] 37 (0, 0)) (Lam.bq BK188.out) hb)
      have n5_ := Aside0.mk (blk_below (g := gb189) (o := .cells #[.int .i64 a1_0, .int .i64 a1_1, .int .i64 a1_2] 30 (0, 0)) (Lam.bq BK189.out) hb)
      have n6_ := Aside0.mk (blk_below (g := gb201) (o := .cells #[.slice Ao29 t197.length co29] 42 (0, 0)) (Lam.bq BK201.out) hb)
      have n7_ := Aside0.mk (blk_below (g := gb205) (o := .cells #[.slice Ao35 t202.length co35] 42 (0, 0)) (Lam.bq BK205.out) hb)
      have n8_ := Aside0.mk (blk_below (g := gb213) (o := .cells #[.slice Ao46 t209.length co46] 42 (0, 0)) (Lam.bq BK213.out) hb)
      have n9_ := Aside0.mk (below_step Lam.al hb)
      clear HO_202000
      clear HO_206000
      clear HO_214000
      clear BK188
      clear BK189
      clear BK201
      clear BK205
      clear BK213
      clear HB
      have HO_202000 := n0_
      have HO_206000 := n1_
      have HO_214000 := n2_
      have HO217 := n3_
      have BK188 := n4_
      have BK189 := n5_
      have BK201 := n6_
      have BK205 := n7_
      have BK213 := n8_
      have HB := n9_
      clear n0_ n1_ n2_ n3_ n4_ n5_ n6_ n7_ n8_ n9_
      (try clear hb)
      (try clear hb2)
      (try clear hk)
      (try clear hi)
      (try clear ho0)
      obtain ⟨Ao78, co78, eo78⟩ := Kd.R_slice HO217.out
      (first | subst eo78 | (injection eo78 with f1_ f2_ f3_; have f4_ := f1_.symm; have f5_ := f3_.symm; clear f1_ f2_ f3_; subst f4_; subst f5_))
      refine hK.out _ _ ⟨(blk_cell BK205.out 0).trans rfl, (blk_cell BK188.out 0).trans rfl⟩ (fun hHeld => ?_)
      clear hK K
      refine norm_ (a' := ?_) ?_ ?_
      rotate_left
      ·show Act.put _ (some 49) _ = _
       simp only [Act.put, List.setIfInBounds_toArray, List.set_cons_zero, List.set_cons_succ, i64_w, i32_w]
       rfl
      refine one_ (i := 3) (N := some 50) #[true, true, true, true, false] rfl rfl (by kernel_rfl) (by decide) (fun K hK => ?_)
      refine goes_ Try.func23 (by kernel_rfl) rfl #[.agg #[.slice Ao35 t202.length co35], .agg #[.slice Ao78 t215.length co78]] (by rfl) rfl rfl (by (try simp only [List.map_toArray, List.map_cons, List.map_nil]); first | done | rfl | (simp only [List.length_drop, List.length_take]; rfl)) ?_
      with_reducible refine (laws_eqPuzzle.calls kj15 _ _ t202 _ _ t215 true _ ?side1 ?side2 ?side3 ?side4 A72.out).mono ?_
      (case side1 => repeat (first | exact (Kd.R_reads' HO_206000.out).2.2 | (with_reducible refine Kd.C_alloc ?_ _) | (with_reducible refine Kd.C_drewN ?_ _) | (with_reducible refine Kd.C_drew ?_)))
      (case side2 => exact (Kd.R_reads' HO_206000.out).2.1)
      (case side3 => repeat (first | exact (Kd.R_reads' HO217.out).2.2 | (with_reducible refine Kd.C_alloc ?_ _) | (with_reducible refine Kd.C_drewN ?_ _) | (with_reducible refine Kd.C_drew ?_)))
      (case side4 => exact (Kd.R_reads' HO217.out).2.1)
      rintro e w79 ⟨rfl, hb⟩
      refine ⟨_, rfl, ?_⟩
      have n0_ := Aside0.mk (Kd.R_below (by (with_reducible repeat (first | apply Kd.R_alloc | apply Kd.R_drewN | apply Kd.R_drew)); exact HO_202000.out) hb)
      have n1_ := Aside0.mk (Kd.R_below (by (with_reducible repeat (first | apply Kd.R_alloc | apply Kd.R_drewN | apply Kd.R_drew)); exact HO_206000.out) hb)
      have n2_ := Aside0.mk (Kd.R_below (by (with_reducible repeat (first | apply Kd.R_alloc | apply Kd.R_drewN | apply Kd.R_drew)); exact HO_214000.out) hb)
      have n3_ := Aside0.mk (Kd.R_below (Lam.rq HO217.out) hb)
      have n4_ := Aside0.mk (blk_below (g := gb188) (o := .cells #[.slice A0_0 l0_0.length c0_0] 37 (0, 0)) (Lam.bq BK188.out) hb)
      have n5_ := Aside0.mk (blk_below (g := gb189) (o := .cells #[.int .i64 a1_0, .int .i64 a1_1, .int .i64 a1_2] 30 (0, 0)) (Lam.bq BK189.out) hb)
      have n6_ := Aside0.mk (blk_below (g := gb201) (o := .cells #[.slice Ao29 t197.length co29] 42 (0, 0)) (Lam.bq BK201.out) hb)
      have n7_ := Aside0.mk (blk_below (g := gb205) (o := .cells #[.slice Ao35 t202.length co35] 42 (0, 0)) (Lam.bq BK205.out) hb)
      have n8_ := Aside0.mk (blk_below (g := gb213) (o := .cells #[.slice Ao46 t209.length co46] 42 (0, 0)) (Lam.bq BK213.out) hb)
      have n9_ := Aside0.mk (below_step Lam.al hb)
      clear HO_202000
      clear HO_206000
      clear HO_214000
      clear HO217
      clear BK188
      clear BK189
      clear BK201
      clear BK205
      clear BK213
      clear HB
      have HO_202000 := n0_
      have HO_206000 := n1_
      have HO_214000 := n2_
      have HO217 := n3_
      have BK188 := n4_
      have BK189 := n5_
      have BK201 := n6_
      have BK205 := n7_
      have BK213 := n8_
      have HB := n9_
      clear n0_ n1_ n2_ n3_ n4_ n5_ n6_ n7_ n8_ n9_
      (try clear hb)
      (try clear hb2)
      (try clear hk)
      (try clear hi)
      refine hK.out _ _ ⟨(blk_cell BK205.out 0).trans rfl, (blk_cell BK188.out 0).trans rfl⟩ (fun hHeld => ?_)
      clear hK K
      refine norm_ (a' := ?_) ?_ ?_
      rotate_left
      ·show Act.put _ (some 50) _ = _
       simp only [Act.put, List.setIfInBounds_toArray, List.set_cons_zero, List.set_cons_succ, i64_w, i32_w]
       rfl
      refine pure_ (i := 4) (N := some 51) (v := ?_) (a' := ?_) #[true, true, true, true, true] rfl rfl (by kernel_rfl) (fun _ _ _ h => h) (Or.inl ⟨by rfl, ?_⟩) ?_ ?_
      rotate_left
      ·intro w'
       go_simp
       with_reducible rfl
      rotate_left
      ·simp only [Act.put, List.setIfInBounds_toArray, List.set_cons_zero, List.set_cons_succ, i64_w, i32_w]
       rfl
      refine done_ (by kernel_rfl) ?_
      have hnb80 := NB205_188.out
      have hnc80 := NB188_205.out
      have hnb81 := NB205_189.out
      have hnc81 := NB189_205.out
      have hnb82 := NB205_201.out
      have hnc82 := NB201_205.out
      have hnb83 := NB205_213.out
      have hnc83 := NB213_205.out
      have hcz84_0 : w79.cell? ⟨gb205, 0, none⟩ = some (.slice Ao35 t202.length co35) := (blk_cell BK205.out 0).trans rfl
      have hfz84_0 := blk_frozen BK205.out 0
      go_upto_region 14 with (first | ((with_reducible refine gate_callee (f := 40) rfl ?_); refine goesL_ (some 54) rfl rfl Try.func40 (by kernel_rfl) rfl #[.agg #[.slice Ao35 t202.length co35], .int .i64 1] rfl (by (try simp only [List.map_toArray, List.map_cons, List.map_nil]); first | done | rfl | (simp only [List.length_drop, List.length_take]; rfl)) ?_; (with_reducible refine (laws_markPuzzle.calls kj15 (fun k_ => some k_ = (.slice Ao35 t202.length co35 : Value).ownBlock) (.slice Ao35 t202.length co35) t202 1 t219 t220 w _ ?side1 ?side2 A74.out).mono ?_); (case side1 => repeat (first | (with_reducible first | exact HB.out | apply below_alloc | apply pw_below_drewN | apply below_drew1 | refine below_set ?_ GE188.out | refine below_set ?_ GE189.out | refine below_set ?_ GE201.out | refine below_set ?_ GE205.out | refine below_set ?_ GE213.out) | exact HB.out)); (case side2 => exact Kd.R_tight rfl HO_206000.out); rintro e w85 ⟨rfl, hy0, hb, hkp⟩; refine ⟨_, rfl, ?_⟩; have n0_ := Aside0.mk (Kd.R_mono (ok' := fun k_ => some k_ ≠ (.slice Ao35 t202.length co35 : Value).ownBlock ∧ some k_ ≠ (.slice Ao46 t209.length co46 : Value).ownBlock ∧ some k_ ≠ (.slice Ao78 t215.length co78 : Value).ownBlock) (Kd.R_keptB (HO_202000.out) hkp (fun k_ hk_ hs_ => (hk_.1.1) hs_)) (fun k_ hk_ => ⟨hk_.1.1.1, hk_.1.1.2, hk_.1.2⟩)); have n1_ := Aside0.mk (Kd.R_reok rfl hy0 (fun k_ e_ => HO_206000.out.1 k_ e_)); have n2_ := Aside0.mk (Kd.R_mono (ok' := fun k_ => some k_ ≠ (.slice Ao29 t197.length co29 : Value).ownBlock ∧ some k_ ≠ (.slice Ao35 t202.length co35 : Value).ownBlock ∧ some k_ ≠ (.slice Ao78 t215.length co78 : Value).ownBlock) (Kd.R_keptB (HO_214000.out) hkp (fun k_ hk_ hs_ => (hk_.1.2) hs_)) (fun k_ hk_ => ⟨hk_.1.1.1, hk_.1.1.2, hk_.1.2⟩)); have n3_ := Aside0.mk (blk_kept (Lam.bq BK188.out) hkp (fun hs_ => (fun e_ => (Kd.R_ne HO_206000.out BK188.out (by decide)) e_) hs_)); have n4_ := Aside0.mk (blk_kept (Lam.bq BK189.out) hkp (fun hs_ => (fun e_ => (Kd.R_ne HO_206000.out BK189.out (by decide)) e_) hs_)); have n5_ := Aside0.mk (blk_kept (Lam.bq BK201.out) hkp (fun hs_ => (fun e_ => (Kd.R_ne HO_206000.out BK201.out (by decide)) e_) hs_)); have n6_ := Aside0.mk (blk_kept (Lam.bq BK205.out) hkp (fun hs_ => (fun e_ => (Kd.R_ne HO_206000.out BK205.out (by decide)) e_) hs_)); have n7_ := Aside0.mk (blk_kept (Lam.bq BK213.out) hkp (fun hs_ => (fun e_ => (Kd.R_ne HO_206000.out BK213.out (by decide)) e_) hs_)); have n8_ := Aside0.mk (Kd.R_mono (ok' := fun k_ => some k_ ≠ (.slice Ao29 t197.length co29 : Value).ownBlock ∧ some k_ ≠ (.slice Ao35 t202.length co35 : Value).ownBlock ∧ some k_ ≠ (.slice Ao46 t209.length co46 : Value).ownBlock) (Kd.R_keptB (HO217.out) hkp (fun k_ hk_ hs_ => (hk_.1.2) hs_)) (fun k_ hk_ => ⟨hk_.1.1.1.2, hk_.1.1.2, hk_.1.2⟩)); have n9_ := Aside0.mk (hb); clear HO_202000; clear HO_206000; clear HO_214000; clear BK188; clear BK189; clear BK201; clear BK205; clear BK213; clear HO217; clear HB; have HO_202000 := n0_; have HO_206000 := n1_; have HO_214000 := n2_; have BK188 := n3_; have BK189 := n4_; have BK201 := n5_; have BK205 := n6_; have BK213 := n7_; have HO217 := n8_; have HB := n9_; clear n0_ n1_ n2_ n3_ n4_ n5_ n6_ n7_ n8_ n9_; (try clear hb); (try clear hkp); (try clear hy0)))
      (try simp only [Act.put, List.setIfInBounds_toArray, List.set_cons_zero, List.set_cons_succ])
      go_cut [67] (fun v67 wc => ∃ (kq : Nat) (x67_74 : Bool), v67 = .bool x67_74 ∧ Aside0 (laws_FnExactAddClue.j1 kq t200 x67_74 l0_0 a1_0 a1_1 a1_2 t197 t209 = some r) ∧ Aside0 (kq ≤ kj15) ∧ Aside0 (Kd.R k32 32 wc w.heap.size (fun k_ => some k_ ≠ ((.slice Ao35 t202.length co35) : Value).ownBlock ∧ some k_ ≠ ((.slice Ao46 t209.length co46) : Value).ownBlock) (.slice Ao29 t197.length co29) t197) ∧ Aside0 (Kd.R k32 32 wc w.heap.size (fun k_ => some k_ ≠ ((.slice Ao29 t197.length co29) : Value).ownBlock ∧ some k_ ≠ ((.slice Ao46 t209.length co46) : Value).ownBlock) (.slice Ao35 t202.length co35) t220) ∧ Aside0 (Kd.R k32 32 wc w.heap.size (fun k_ => some k_ ≠ ((.slice Ao29 t197.length co29) : Value).ownBlock ∧ some k_ ≠ ((.slice Ao35 t202.length co35) : Value).ownBlock) (.slice Ao46 t209.length co46) t209) ∧ Aside0 (wc.heap[gb188]? = some (.cells #[(.slice A0_0 l0_0.length c0_0)] 37 (0, 0))) ∧ Aside0 (wc.heap[gb189]? = some (.cells #[.int .i64 a1_0, .int .i64 a1_1, .int .i64 a1_2] 30 (0, 0))) ∧ Aside0 (wc.heap[gb201]? = some (.cells #[(.slice Ao29 t197.length co29)] 42 (0, 0))) ∧ Aside0 (wc.heap[gb205]? = some (.cells #[(.slice Ao35 t202.length co35)] 42 (0, 0))) ∧ Aside0 (wc.heap[gb213]? = some (.cells #[(.slice Ao46 t209.length co46)] 42 (0, 0))) ∧ Aside0 (Below w.heap.size w wc))
      case first =>
       have H := HC75.out
       clear HC75
       by_cases c86 : t219 < 0
       ·rw [if_pos c86] at H
        have c86b0 : decide (t219 < 0) = true := decide_eq_true c86
        clear c86
        (first | rw [c86b0] | (simp only [i64_w, i32_w]; rw [c86b0]) | skip)
        have H' := Aside0.mk H
        clear H
        go_wp2
        go_meet
        case rel => exact ⟨_, (true), (by first | rfl | (simp; done) | (simp [*]; done)), H', ⟨by have := HJ15.out; first | omega | exact Nat.le_refl _⟩, ⟨by (with_reducible repeat (first | apply Kd.R_alloc | apply Kd.R_drewN | apply Kd.R_drew)); exact Kd.R_mono HO_202000.out (fun _ hk => ⟨hk.1, hk.2.1⟩)⟩, ⟨by (with_reducible repeat (first | apply Kd.R_alloc | apply Kd.R_drewN | apply Kd.R_drew)); exact Kd.R_mono HO_206000.out (fun _ hk => ⟨hk.1.1, hk.1.2⟩)⟩, ⟨by (with_reducible repeat (first | apply Kd.R_alloc | apply Kd.R_drewN | apply Kd.R_drew)); exact Kd.R_mono HO_214000.out (fun _ hk => ⟨hk.1, hk.2.1⟩)⟩, ⟨by (with_reducible repeat (first | refine blk_drewN ?_ _ | refine blk_drew ?_ | refine blk_alloc ?_ _)); exact BK188.out⟩, ⟨by (with_reducible repeat (first | refine blk_drewN ?_ _ | refine blk_drew ?_ | refine blk_alloc ?_ _)); exact BK189.out⟩, ⟨by (with_reducible repeat (first | refine blk_drewN ?_ _ | refine blk_drew ?_ | refine blk_alloc ?_ _)); exact BK201.out⟩, ⟨by (with_reducible repeat (first | refine blk_drewN ?_ _ | refine blk_drew ?_ | refine blk_alloc ?_ _)); exact BK205.out⟩, ⟨by (with_reducible repeat (first | refine blk_drewN ?_ _ | refine blk_drew ?_ | refine blk_alloc ?_ _)); exact BK213.out⟩, ⟨by repeat (first | (with_reducible first | exact HB.out | apply below_alloc | apply pw_below_drewN | apply below_drew1 | refine below_set ?_ GE188.out | refine below_set ?_ GE189.out | refine below_set ?_ GE201.out | refine below_set ?_ GE205.out | refine below_set ?_ GE213.out) | exact HB.out)⟩⟩
       ·rw [if_neg c86] at H
        have c86b0 : decide (t219 < 0) = false := decide_eq_false c86
        clear c86
        (first | rw [c86b0] | (simp only [i64_w, i32_w]; rw [c86b0]) | skip)
        replace H := Option.bind_eq_some_iff.mp H
        obtain ⟨t221, A870, H⟩ := H
        replace H : (if t221 = true then (laws_FnExactAddClue.j1 kj15 t200 (t212 != t200) l0_0 a1_0 a1_1 a1_2 t197 t209) else (laws_FnExactAddClue.j1 kj15 t200 true l0_0 a1_0 a1_1 a1_2 t197 t209)) = some r := H
        have A87 := Aside0.mk A870
        clear A870
        by_cases c88 : t221 = true
        ·subst c88
         have H1 : (laws_FnExactAddClue.j1 kj15 t200 (t212 != t200) l0_0 a1_0 a1_1 a1_2 t197 t209) = some r := by rw [if_pos rfl] at H; exact H
         clear H
         have H := H1
         clear H1
         have H' := Aside0.mk H
         clear H
         have hnb89 := NB213_188.out
         have hnc89 := NB188_213.out
         have hnb90 := NB213_189.out
         have hnc90 := NB189_213.out
         have hnb91 := NB213_201.out
         have hnc91 := NB201_213.out
         have hnb92 := NB213_205.out
         have hnc92 := NB205_213.out
         have hcz93_0 : w85.cell? ⟨gb213, 0, none⟩ = some (.slice Ao46 t209.length co46) := (blk_cell BK213.out 0).trans rfl
         have hfz93_0 := blk_frozen BK213.out 0
         have hnb94 := NB201_188.out
         have hnc94 := NB188_201.out
         have hnb95 := NB201_189.out
         have hnc95 := NB189_201.out
         have hnb96 := NB201_205.out
         have hnc96 := NB205_201.out
         have hcz97_0 : w85.cell? ⟨gb201, 0, none⟩ = some (.slice Ao29 t197.length co29) := (blk_cell BK201.out 0).trans rfl
         have hfz97_0 := blk_frozen BK201.out 0
         go_wp2_with (first | (go_at_call 23; (with_reducible refine (laws_eqPuzzle.calls kj15 _ _ t209 _ _ t197 true _ ?side1 ?side2 ?side3 ?side4 A87.out).mono ?_); (case side1 => repeat (first | exact (Kd.R_reads' HO_214000.out).2.2 | (with_reducible refine Kd.C_alloc ?_ _) | (with_reducible refine Kd.C_drewN ?_ _) | (with_reducible refine Kd.C_drew ?_))); (case side2 => exact (Kd.R_reads' HO_214000.out).2.1); (case side3 => repeat (first | exact (Kd.R_reads' HO_202000.out).2.2 | (with_reducible refine Kd.C_alloc ?_ _) | (with_reducible refine Kd.C_drewN ?_ _) | (with_reducible refine Kd.C_drew ?_))); (case side4 => exact (Kd.R_reads' HO_202000.out).2.1); rintro e w98 ⟨rfl, hb⟩; have n0_ := Aside0.mk (Kd.R_below (by (with_reducible repeat (first | apply Kd.R_alloc | apply Kd.R_drewN | apply Kd.R_drew)); exact HO_202000.out) hb); have n1_ := Aside0.mk (Kd.R_below (by (with_reducible repeat (first | apply Kd.R_alloc | apply Kd.R_drewN | apply Kd.R_drew)); exact HO_206000.out) hb); have n2_ := Aside0.mk (Kd.R_below (by (with_reducible repeat (first | apply Kd.R_alloc | apply Kd.R_drewN | apply Kd.R_drew)); exact HO_214000.out) hb); have n3_ := Aside0.mk (Kd.R_below (Lam.rq HO217.out) hb); have n4_ := Aside0.mk (blk_below (g := gb188) (o := .cells #[.slice A0_0 l0_0.length c0_0] 37 (0, 0)) (Lam.bq BK188.out) hb); have n5_ := Aside0.mk (blk_below (g := gb189) (o := .cells #[.int .i64 a1_0, .int .i64 a1_1, .int .i64 a1_2] 30 (0, 0)) (Lam.bq BK189.out) hb); have n6_ := Aside0.mk (blk_below (g := gb201) (o := .cells #[.slice Ao29 t197.length co29] 42 (0, 0)) (Lam.bq BK201.out) hb); have n7_ := Aside0.mk (blk_below (g := gb205) (o := .cells #[.slice Ao35 t202.length co35] 42 (0, 0)) (Lam.bq BK205.out) hb); have n8_ := Aside0.mk (blk_below (g := gb213) (o := .cells #[.slice Ao46 t209.length co46] 42 (0, 0)) (Lam.bq BK213.out) hb); have n9_ := Aside0.mk (below_step Lam.al hb); clear HO_202000; clear HO_206000; clear HO_214000; clear HO217; clear BK188; clear BK189; clear BK201; clear BK205; clear BK213; clear HB; have HO_202000 := n0_; have HO_206000 := n1_; have HO_214000 := n2_; have HO217 := n3_; have BK188 := n4_; have BK189 := n5_; have BK201 := n6_; have BK205 := n7_; have BK213 := n8_; have HB := n9_; clear n0_ n1_ n2_ n3_ n4_ n5_ n6_ n7_ n8_ n9_; (try clear hb); (try clear hb2); (try clear hk); (try clear hi)))
         go_meet
         case rel => exact ⟨_, ((t212 != t200)), (by first | rfl | (simp; done) | (simp [*]; done)), H', ⟨by have := HJ15.out; first | omega | exact Nat.le_refl _⟩, ⟨by (with_reducible repeat (first | apply Kd.R_alloc | apply Kd.R_drewN | apply Kd.R_drew)); exact Kd.R_mono HO_202000.out (fun _ hk => ⟨hk.1, hk.2.1⟩)⟩, ⟨by (with_reducible repeat (first | apply Kd.R_alloc | apply Kd.R_drewN | apply Kd.R_drew)); exact Kd.R_mono HO_206000.out (fun _ hk => ⟨hk.1.1, hk.1.2⟩)⟩, ⟨by (with_reducible repeat (first | apply Kd.R_alloc | apply Kd.R_drewN | apply Kd.R_drew)); exact Kd.R_mono HO_214000.out (fun _ hk => ⟨hk.1, hk.2.1⟩)⟩, ⟨by (with_reducible repeat (first | refine blk_drewN ?_ _ | refine blk_drew ?_ | refine blk_alloc ?_ _)); exact BK188.out⟩, ⟨by (with_reducible repeat (first | refine blk_drewN ?_ _ | refine blk_drew ?_ | refine blk_alloc ?_ _)); exact BK189.out⟩, ⟨by (with_reducible repeat (first | refine blk_drewN ?_ _ | refine blk_drew ?_ | refine blk_alloc ?_ _)); exact BK201.out⟩, ⟨by (with_reducible repeat (first | refine blk_drewN ?_ _ | refine blk_drew ?_ | refine blk_alloc ?_ _)); exact BK205.out⟩, ⟨by (with_reducible repeat (first | refine blk_drewN ?_ _ | refine blk_drew ?_ | refine blk_alloc ?_ _)); exact BK213.out⟩, ⟨by repeat (first | (with_reducible first | exact HB.out | apply below_alloc | apply pw_below_drewN | apply below_drew1 | refine below_set ?_ GE188.out | refine below_set ?_ GE189.out | refine below_set ?_ GE201.out | refine below_set ?_ GE205.out | refine below_set ?_ GE213.out) | exact HB.out)⟩⟩
        ·replace c88 := Bool.eq_false_iff.mpr c88
         subst c88
         have H1 : (laws_FnExactAddClue.j1 kj15 t200 true l0_0 a1_0 a1_1 a1_2 t197 t209) = some r := by rw [if_neg (show ¬ (false = true) by decide)] at H; exact H
         clear H
         have H := H1
         clear H1
         have H' := Aside0.mk H
         clear H
         have hnb99 := NB213_188.out
         have hnc99 := NB188_213.out
         have hnb100 := NB213_189.out
         have hnc100 := NB189_213.out
         have hnb101 := NB213_201.out
         have hnc101 := NB201_213.out
         have hnb102 := NB213_205.out
         have hnc102 := NB205_213.out
         have hcz103_0 : w85.cell? ⟨gb213, 0, none⟩ = some (.slice Ao46 t209.length co46) := (blk_cell BK213.out 0).trans rfl
         have hfz103_0 := blk_frozen BK213.out 0
         have hnb104 := NB201_188.out
         have hnc104 := NB188_201.out
         have hnb105 := NB201_189.out
         have hnc105 := NB189_201.out
         have hnb106 := NB201_205.out
         have hnc106 := NB205_201.out
         have hcz107_0 : w85.cell? ⟨gb201, 0, none⟩ = some (.slice Ao29 t197.length co29) := (blk_cell BK201.out 0).trans rfl
         have hfz107_0 := blk_frozen BK201.out 0
         go_wp2_with (first | (go_at_call 23; (with_reducible refine (laws_eqPuzzle.calls kj15 _ _ t209 _ _ t197 false _ ?side1 ?side2 ?side3 ?side4 A87.out).mono ?_); (case side1 => repeat (first | exact (Kd.R_reads' HO_214000.out).2.2 | (with_reducible refine Kd.C_alloc ?_ _) | (with_reducible refine Kd.C_drewN ?_ _) | (with_reducible refine Kd.C_drew ?_))); (case side2 => exact (Kd.R_reads' HO_214000.out).2.1); (case side3 => repeat (first | exact (Kd.R_reads' HO_202000.out).2.2 | (with_reducible refine Kd.C_alloc ?_ _) | (with_reducible refine Kd.C_drewN ?_ _) | (with_reducible refine Kd.C_drew ?_))); (case side4 => exact (Kd.R_reads' HO_202000.out).2.1); rintro e w108 ⟨rfl, hb⟩; have n0_ := Aside0.mk (Kd.R_below (by (with_reducible repeat (first | apply Kd.R_alloc | apply Kd.R_drewN | apply Kd.R_drew)); exact HO_202000.out) hb); have n1_ := Aside0.mk (Kd.R_below (by (with_reducible repeat (first | apply Kd.R_alloc | apply Kd.R_drewN | apply Kd.R_drew)); exact HO_206000.out) hb); have n2_ := Aside0.mk (Kd.R_below (by (with_reducible repeat (first | apply Kd.R_alloc | apply Kd.R_drewN | apply Kd.R_drew)); exact HO_214000.out) hb); have n3_ := Aside0.mk (Kd.R_below (Lam.rq HO217.out) hb); have n4_ := Aside0.mk (blk_below (g := gb188) (o := .cells #[.slice A0_0 l0_0.length c0_0] 37 (0, 0)) (Lam.bq BK188.out) hb); have n5_ := Aside0.mk (blk_below (g := gb189) (o := .cells #[.int .i64 a1_0, .int .i64 a1_1, .int .i64 a1_2] 30 (0, 0)) (Lam.bq BK189.out) hb); have n6_ := Aside0.mk (blk_below (g := gb201) (o := .cells #[.slice Ao29 t197.length co29] 42 (0, 0)) (Lam.bq BK201.out) hb); have n7_ := Aside0.mk (blk_below (g := gb205) (o := .cells #[.slice Ao35 t202.length co35] 42 (0, 0)) (Lam.bq BK205.out) hb); have n8_ := Aside0.mk (blk_below (g := gb213) (o := .cells #[.slice Ao46 t209.length co46] 42 (0, 0)) (Lam.bq BK213.out) hb); have n9_ := Aside0.mk (below_step Lam.al hb); clear HO_202000; clear HO_206000; clear HO_214000; clear HO217; clear BK188; clear BK189; clear BK201; clear BK205; clear BK213; clear HB; have HO_202000 := n0_; have HO_206000 := n1_; have HO_214000 := n2_; have HO217 := n3_; have BK188 := n4_; have BK189 := n5_; have BK201 := n6_; have BK205 := n7_; have BK213 := n8_; have HB := n9_; clear n0_ n1_ n2_ n3_ n4_ n5_ n6_ n7_ n8_ n9_; (try clear hb); (try clear hb2); (try clear hk); (try clear hi)))
         go_meet
         case rel => exact ⟨_, (true), (by first | rfl | (simp; done) | (simp [*]; done)), H', ⟨by have := HJ15.out; first | omega | exact Nat.le_refl _⟩, ⟨by (with_reducible repeat (first | apply Kd.R_alloc | apply Kd.R_drewN | apply Kd.R_drew)); exact Kd.R_mono HO_202000.out (fun _ hk => ⟨hk.1, hk.2.1⟩)⟩, ⟨by (with_reducible repeat (first | apply Kd.R_alloc | apply Kd.R_drewN | apply Kd.R_drew)); exact Kd.R_mono HO_206000.out (fun _ hk => ⟨hk.1.1, hk.1.2⟩)⟩, ⟨by (with_reducible repeat (first | apply Kd.R_alloc | apply Kd.R_drewN | apply Kd.R_drew)); exact Kd.R_mono HO_214000.out (fun _ hk => ⟨hk.1, hk.2.1⟩)⟩, ⟨by (with_reducible repeat (first | refine blk_drewN ?_ _ | refine blk_drew ?_ | refine blk_alloc ?_ _)); exact BK188.out⟩, ⟨by (with_reducible repeat (first | refine blk_drewN ?_ _ | refine blk_drew ?_ | refine blk_alloc ?_ _)); exact BK189.out⟩, ⟨by (with_reducible repeat (first | refine blk_drewN ?_ _ | refine blk_drew ?_ | refine blk_alloc ?_ _)); exact BK201.out⟩, ⟨by (with_reducible repeat (first | refine blk_drewN ?_ _ | refine blk_drew ?_ | refine blk_alloc ?_ _)); exact BK205.out⟩, ⟨by (with_reducible repeat (first | refine blk_drewN ?_ _ | refine blk_drew ?_ | refine blk_alloc ?_ _)); exact BK213.out⟩, ⟨by repeat (first | (with_reducible first | exact HB.out | apply below_alloc | apply pw_below_drewN | apply below_drew1 | refine below_set ?_ GE188.out | refine below_set ?_ GE189.out | refine below_set ?_ GE201.out | refine below_set ?_ GE205.out | refine below_set ?_ GE213.out) | exact HB.out)⟩⟩
      case rest =>
       clear HC75
       try clear c1
       try clear c2
       try clear p2
       try clear c3
       try clear c4
       try clear c5
       try clear c6
       try clear c7
       try clear c8
       try clear c9
       try clear c10
       try clear c17
       try clear c21
       try clear c23
       try clear c39
       try clear c40
       try clear c49
       try clear c50
       try clear c51
       try clear c52
       try clear c53
       try clear c55
       try clear c56
       try clear c57
       try clear c60
       try clear c61
       try clear c62
       try clear c63
       try clear c65
       try clear c66
       try clear c67
       try clear c70
       try clear c73
       try clear c80
       try clear c81
       try clear c82
       try clear c83
       try clear c86
       try clear c86b0
       try clear c88
       try clear c89
       try clear c90
       try clear c91
       try clear c92
       try clear c94
       try clear c95
       try clear c96
       try clear c99
       try clear c100
       try clear c101
       try clear c102
       try clear c104
       try clear c105
       try clear c106
       try clear hcz103_0
       try clear hcz107_0
       try clear hcz54_0
       try clear hcz58_0
       try clear hcz64_0
       try clear hcz68_0
       try clear hcz84_0
       try clear hcz93_0
       try clear hcz97_0
       try clear hfz103_0
       try clear hfz107_0
       try clear hfz54_0
       try clear hfz58_0
       try clear hfz64_0
       try clear hfz68_0
       try clear hfz84_0
       try clear hfz93_0
       try clear hfz97_0
       try clear p2
       obtain ⟨kq, x67_74, rfl, HA, HJ74, HO_202000, HO_206000, HO_214000, BK188, BK189, BK201, BK205, BK213, HB⟩ := hcut
       have hl206000_74 := (Kd.R_reads' HO_206000.out).1
       rw [hl206000_74] at HO_206000
       (try simp only [hl206000_74])
       (try simp only [hl206000_74] at BK188)
       (try simp only [hl206000_74] at BK189)
       (try simp only [hl206000_74] at BK201)
       (try simp only [hl206000_74] at BK205)
       (try simp only [hl206000_74] at BK213)
       (try simp only [hl206000_74] at HO_202000)
       (try simp only [hl206000_74] at HO_214000)
       cases kq with
       | zero => exact absurd HA.out (by simp [laws_FnExactAddClue.j1])
       | succ kj74 =>
        have H := HA.out
        clear HA
        simp only [laws_FnExactAddClue.j1] at H
        by_cases c109 : x67_74 = true
        ·subst c109
         have H1 : (none) = some r := by rw [if_pos rfl] at H; exact H
         clear H
         have H := H1
         clear H1
         exact absurd H (by simp)
        ·replace c109 := Bool.eq_false_iff.mpr c109
         subst c109
         have H1 : ((laws_markPuzzle.f kj74 t209 1).bind fun bt222 => ((laws_heldPuzzle.f kj74 bt222.2 1).bind fun t224 => (if t224 < 0 then (none) else (if t224 = bt222.1 then ((laws_toPuzzle.f kj74 l0_0).bind fun t225 => ((laws_toClue.f a1_0 a1_1 a1_2).bind fun bt228 => ((impl_AddClue.f t225 bt228.1 bt228.2.1 bt228.2.2).bind fun bt231 => ((laws_eqPuzzle.f kj74 bt231.1 t197).bind fun t236 => (if t236 = true then (laws_FnExactAddClue.j2 kj74 bt222.1 (bt231.2 != t200) bt222.2) else (laws_FnExactAddClue.j2 kj74 bt222.1 true bt222.2)))))) else (none))))) = some r := by rw [if_neg (show ¬ (false = true) by decide)] at H; exact H
         clear H
         have H := H1
         clear H1
         replace H := Option.bind_eq_some_iff.mp H
         obtain ⟨⟨t222, t223⟩, A1100, H⟩ := H
         replace H : ((laws_heldPuzzle.f kj74 t223 1).bind fun t224 => (if t224 < 0 then (none) else (if t224 = t222 then ((laws_toPuzzle.f kj74 l0_0).bind fun t225 => ((laws_toClue.f a1_0 a1_1 a1_2).bind fun bt228 => ((impl_AddClue.f t225 bt228.1 bt228.2.1 bt228.2.2).bind fun bt231 => ((laws_eqPuzzle.f kj74 bt231.1 t197).bind fun t236 => (if t236 = true then (laws_FnExactAddClue.j2 kj74 t222 (bt231.2 != t200) t223) else (laws_FnExactAddClue.j2 kj74 t222 true t223)))))) else (none)))) = some r := H
         have A110 := Aside0.mk A1100
         clear A1100
         replace H := Option.bind_eq_some_iff.mp H
         obtain ⟨t224, A1110, H⟩ := H
         replace H : (if t224 < 0 then (none) else (if t224 = t222 then ((laws_toPuzzle.f kj74 l0_0).bind fun t225 => ((laws_toClue.f a1_0 a1_1 a1_2).bind fun bt228 => ((impl_AddClue.f t225 bt228.1 bt228.2.1 bt228.2.2).bind fun bt231 => ((laws_eqPuzzle.f kj74 bt231.1 t197).bind fun t236 => (if t236 = true then (laws_FnExactAddClue.j2 kj74 t222 (bt231.2 != t200) t223) else (laws_FnExactAddClue.j2 kj74 t222 true t223)))))) else (none))) = some r := H
         have A111 := Aside0.mk A1110
         clear A1110
         by_cases c112 : t224 < 0
         ·rw [if_pos c112] at H
          exact absurd H (by simp)
         ·rw [if_neg c112] at H
          have c112b0 : decide (t224 < 0) = false := decide_eq_false c112
          clear c112
          by_cases c113 : t224 = t222
          ·rw [if_pos c113] at H
           have c113b0 : (t224 == t222) = true := beq_iff_eq.mpr c113
           have c113b1 : (t224 != t222) = false := bne_eq_false_iff_eq.mpr c113
           clear c113
           replace H := Option.bind_eq_some_iff.mp H
           obtain ⟨t225, A1140, H⟩ := H
           replace H : ((laws_toClue.f a1_0 a1_1 a1_2).bind fun bt228 => ((impl_AddClue.f t225 bt228.1 bt228.2.1 bt228.2.2).bind fun bt231 => ((laws_eqPuzzle.f kj74 bt231.1 t197).bind fun t236 => (if t236 = true then (laws_FnExactAddClue.j2 kj74 t222 (bt231.2 != t200) t223) else (laws_FnExactAddClue.j2 kj74 t222 true t223))))) = some r := H
           have A114 := Aside0.mk A1140
           clear A1140
           replace H := Option.bind_eq_some_iff.mp H
           obtain ⟨⟨t228, t229, t230⟩, A1150, H⟩ := H
           replace H : ((impl_AddClue.f t225 t228 t229 t230).bind fun bt231 => ((laws_eqPuzzle.f kj74 bt231.1 t197).bind fun t236 => (if t236 = true then (laws_FnExactAddClue.j2 kj74 t222 (bt231.2 != t200) t223) else (laws_FnExactAddClue.j2 kj74 t222 true t223)))) = some r := H
           have A115 := Aside0.mk A1150
           clear A1150
           replace H := Option.bind_eq_some_iff.mp H
           obtain ⟨⟨t231, t234⟩, A1160, H⟩ := H
           replace H : ((laws_eqPuzzle.f kj74 t231 t197).bind fun t236 => (if t236 = true then (laws_FnExactAddClue.j2 kj74 t222 (t234 != t200) t223) else (laws_FnExactAddClue.j2 kj74 t222 true t223))) = some r := H
           have A116 := Aside0.mk A1160
           clear A1160
           have HC117 := Aside0.mk H
           clear H
           have hnb118 := NB213_188.out
           have hnc118 := NB188_213.out
           have hnb119 := NB213_189.out
           have hnc119 := NB189_213.out
           have hnb120 := NB213_201.out
           have hnc120 := NB201_213.out
           have hnb121 := NB213_205.out
           have hnc121 := NB205_213.out
           have hcz122_0 : wc.cell? ⟨gb213, 0, none⟩ = some (.slice Ao46 t209.length co46) := (blk_cell BK213.out 0).trans rfl
           have hfz122_0 := blk_frozen BK213.out 0
           try go_wp2_with (first | ((with_reducible refine gate_callee (f := 40) rfl ?_); refine goesL_ (some 70) rfl rfl Try.func40 (by kernel_rfl) rfl #[.agg #[.slice Ao46 t209.length co46], .int .i64 1] rfl (by (try simp only [List.map_toArray, List.map_cons, List.map_nil]); first | done | rfl | (simp only [List.length_drop, List.length_take]; rfl)) ?_; (with_reducible refine (laws_markPuzzle.calls kj74 (fun k_ => some k_ = (.slice Ao46 t209.length co46 : Value).ownBlock) (.slice Ao46 t209.length co46) t209 1 t222 t223 w _ ?side1 ?side2 A110.out).mono ?_); (case side1 => repeat (first | (with_reducible first | exact HB.out | apply below_alloc | apply pw_below_drewN | apply below_drew1 | refine below_set ?_ GE188.out | refine below_set ?_ GE189.out | refine below_set ?_ GE201.out | refine below_set ?_ GE205.out | refine below_set ?_ GE213.out) | exact HB.out)); (case side2 => exact Kd.R_tight rfl HO_214000.out); rintro e w123 ⟨rfl, hy0, hb, hkp⟩; refine ⟨_, rfl, ?_⟩; have n0_ := Aside0.mk (Kd.R_mono (ok' := fun k_ => some k_ ≠ (.slice Ao35 t220.length co35 : Value).ownBlock ∧ some k_ ≠ (.slice Ao46 t209.length co46 : Value).ownBlock) (Kd.R_keptB (HO_202000.out) hkp (fun k_ hk_ hs_ => (hk_.2) hs_)) (fun k_ hk_ => ⟨hk_.1.1, hk_.1.2⟩)); have n1_ := Aside0.mk (Kd.R_mono (ok' := fun k_ => some k_ ≠ (.slice Ao29 t197.length co29 : Value).ownBlock ∧ some k_ ≠ (.slice Ao46 t209.length co46 : Value).ownBlock) (Kd.R_keptB (HO_206000.out) hkp (fun k_ hk_ hs_ => (hk_.2) hs_)) (fun k_ hk_ => ⟨hk_.1.1, hk_.1.2⟩)); have n2_ := Aside0.mk (Kd.R_reok rfl hy0 (fun k_ e_ => HO_214000.out.1 k_ e_)); have n3_ := Aside0.mk (blk_kept (Lam.bq BK188.out) hkp (fun hs_ => (fun e_ => (Kd.R_ne HO_214000.out BK188.out (by decide)) e_) hs_)); have n4_ := Aside0.mk (blk_kept (Lam.bq BK189.out) hkp (fun hs_ => (fun e_ => (Kd.R_ne HO_214000.out BK189.out (by decide)) e_) hs_)); have n5_ := Aside0.mk (blk_kept (Lam.bq BK201.out) hkp (fun hs_ => (fun e_ => (Kd.R_ne HO_214000.out BK201.out (by decide)) e_) hs_)); have n6_ := Aside0.mk (blk_kept (Lam.bq BK205.out) hkp (fun hs_ => (fun e_ => (Kd.R_ne HO_214000.out BK205.out (by decide)) e_) hs_)); have n7_ := Aside0.mk (blk_kept (Lam.bq BK213.out) hkp (fun hs_ => (fun e_ => (Kd.R_ne HO_214000.out BK213.out (by decide)) e_) hs_)); have n8_ := Aside0.mk (hb); clear HO_202000; clear HO_206000; clear HO_214000; clear BK188; clear BK189; clear BK201; clear BK205; clear BK213; clear HB; have HO_202000 := n0_; have HO_206000 := n1_; have HO_214000 := n2_; have BK188 := n3_; have BK189 := n4_; have BK201 := n5_; have BK205 := n6_; have BK213 := n7_; have HB := n8_; clear n0_ n1_ n2_ n3_ n4_ n5_ n6_ n7_ n8_; (try clear hb); (try clear hkp); (try clear hy0); have hcz124_0 : w123.cell? ⟨gb213, 0, none⟩ = some (.slice Ao46 t209.length co46) := (blk_cell BK213.out 0).trans rfl; have hfz124_0 := blk_frozen BK213.out 0) | ((with_reducible refine gate_callee (f := 41) rfl ?_); refine goesL_ (some 73) rfl rfl Try.func41 (by kernel_rfl) rfl #[.agg #[.slice Ao46 t223.length co46], .int .i64 1] rfl (by (try simp only [List.map_toArray, List.map_cons, List.map_nil]); first | done | (rw [show t223.length = t209.length from (Kd.R_reads' HO_214000.out).1.symm] <;> rfl) | rfl | (simp only [List.length_drop, List.length_take]; rfl)) ?_; (with_reducible refine (laws_heldPuzzle.calls kj74 _ _ t223 1 t224 _ ?side1 ?side2 A111.out).mono ?_); (case side1 => repeat (first | exact (Kd.R_reads' HO_214000.out).2.2 | (with_reducible refine Kd.C_alloc ?_ _) | (with_reducible refine Kd.C_drewN ?_ _) | (with_reducible refine Kd.C_drew ?_))); (case side2 => rw [show t223.length = t209.length from (Kd.R_reads' HO_214000.out).1.symm]; exact (Kd.R_reads' HO_214000.out).2.1); rintro e w125 ⟨rfl, hb⟩; refine ⟨_, rfl, ?_⟩; have n0_ := Aside0.mk (Kd.R_below (by (with_reducible repeat (first | apply Kd.R_alloc | apply Kd.R_drewN | apply Kd.R_drew)); exact HO_202000.out) hb); have n1_ := Aside0.mk (Kd.R_below (by (with_reducible repeat (first | apply Kd.R_alloc | apply Kd.R_drewN | apply Kd.R_drew)); exact HO_206000.out) hb); have n2_ := Aside0.mk (Kd.R_below (by (with_reducible repeat (first | apply Kd.R_alloc | apply Kd.R_drewN | apply Kd.R_drew)); exact HO_214000.out) hb); have n3_ := Aside0.mk (blk_below (g := gb188) (o := .cells #[.slice A0_0 l0_0.length c0_0] 37 (0, 0)) (Lam.bq BK188.out) hb); have n4_ := Aside0.mk (blk_below (g := gb189) (o := .cells #[.int .i64 a1_0, .int .i64 a1_1, .int .i64 a1_2] 30 (0, 0)) (Lam.bq BK189.out) hb); have n5_ := Aside0.mk (blk_below (g := gb201) (o := .cells #[.slice Ao29 t197.length co29] 42 (0, 0)) (Lam.bq BK201.out) hb); have n6_ := Aside0.mk (blk_below (g := gb205) (o := .cells #[.slice Ao35 t220.length co35] 42 (0, 0)) (Lam.bq BK205.out) hb); have n7_ := Aside0.mk (blk_below (g := gb213) (o := .cells #[.slice Ao46 t209.length co46] 42 (0, 0)) (Lam.bq BK213.out) hb); have n8_ := Aside0.mk (below_step Lam.al hb); clear HO_202000; clear HO_206000; clear HO_214000; clear BK188; clear BK189; clear BK201; clear BK205; clear BK213; clear HB; have HO_202000 := n0_; have HO_206000 := n1_; have HO_214000 := n2_; have BK188 := n3_; have BK189 := n4_; have BK201 := n5_; have BK205 := n6_; have BK213 := n7_; have HB := n8_; clear n0_ n1_ n2_ n3_ n4_ n5_ n6_ n7_ n8_; (try clear hb); (try clear hb2); (try clear hk); (try clear hi)))
           have n0_ := Aside0.mk (Kd.R_drew HO_202000.out)
           have n1_ := Aside0.mk (Kd.R_drew HO_206000.out)
           have n2_ := Aside0.mk (Kd.R_drew HO_214000.out)
           have n3_ := Aside0.mk (blk_drew BK188.out)
           have n4_ := Aside0.mk (blk_drew BK189.out)
           have n5_ := Aside0.mk (blk_drew BK201.out)
           have n6_ := Aside0.mk (blk_drew BK205.out)
           have n7_ := Aside0.mk (blk_drew BK213.out)
           have n8_ := Aside0.mk (below_drew1 HB.out)
           clear HO_202000
           clear HO_206000
           clear HO_214000
           clear BK188
           clear BK189
           clear BK201
           clear BK205
           clear BK213
           clear HB
           have HO_202000 := n0_
           have HO_206000 := n1_
           have HO_214000 := n2_
           have BK188 := n3_
           have BK189 := n4_
           have BK201 := n5_
           have BK205 := n6_
           have BK213 := n7_
           have HB := n8_
           clear n0_ n1_ n2_ n3_ n4_ n5_ n6_ n7_ n8_
           refine start_ (n := 11) (S := fun w' => w'.cell? ⟨gb188, 0, none⟩ = some (.slice A0_0 l0_0.length c0_0) ∧ w'.cell? ⟨gb189, 0, none⟩ = some (.int .i64 a1_0) ∧ w'.cell? ⟨gb189, 1, none⟩ = some (.int .i64 a1_1) ∧ w'.cell? ⟨gb189, 2, none⟩ = some (.int .i64 a1_2)) (ds := []) #[false, false, false, false, false, false, false, false, false, false, false] (by kernel_rfl) rfl rfl ⟨(blk_cell BK188.out 0).trans rfl, (blk_cell BK189.out 0).trans rfl, (blk_cell BK189.out 1).trans rfl, (blk_cell BK189.out 2).trans rfl⟩ (fun hHeld => ?_); refine with_tabW laws_FnExactAddClue.tab24 laws_FnExactAddClue.bits24 (fun HT_ HW_ => ?_)
           generalize w125.drew = w126 at HO_202000 HO_206000 HO_214000 BK188 BK189 BK201 BK205 BK213 HB hHeld ⊢
           refine take_ (i := 0) (N := some 80) (v := ?_) (a' := ?_) #[true, false, false, false, false, false, false, false, false, false, false] rfl rfl (take_ofW HT_.out HW_.out (by kernel_rfl)) (fun _ _ _ h => h) (Or.inl ⟨by rfl, ?_⟩) hHeld ?_ ?_
           rotate_left
           ·rintro w' ⟨s0, s1, s2, s3⟩
            go_simp
            with_reducible rfl
           rotate_left
           ·simp only [Act.put, List.setIfInBounds_toArray, List.set_cons_zero, List.set_cons_succ, i64_w, i32_w]
            rfl
           refine take_ (i := 2) (N := some 82) (v := ?_) (a' := ?_) #[true, false, true, false, false, false, false, false, false, false, false] rfl rfl (take_ofW HT_.out HW_.out (by kernel_rfl)) (fun _ _ _ h => h) (Or.inl ⟨by rfl, ?_⟩) hHeld ?_ ?_
           rotate_left
           ·rintro w' ⟨s0, s1, s2, s3⟩
            go_simp
            with_reducible rfl
           rotate_left
           ·simp only [Act.put, List.setIfInBounds_toArray, List.set_cons_zero, List.set_cons_succ, i64_w, i32_w]
            rfl
           refine join_ (σ := Value × Value × Nat) 2 #[true, true, true, true, true, true, true, true, true, false, false] (fun s_ => [(81, .agg #[s_.1]), (83, .agg #[.int .i64 t228, .int .i64 t229, .int .i64 t230]), (84, .tuple #[.agg #[s_.2.1], .bool t234]), (14, .pointer (some ⟨s_.2.2, 0, none⟩)), (79, .tuple #[.agg #[s_.2.1], .bool t234]), (85, .agg #[s_.2.1]), (86, .bool t234)]) (fun s_ w' => (w'.cell? ⟨gb188, 0, none⟩ = some (.slice A0_0 l0_0.length c0_0) ∧ w'.cell? ⟨gb189, 0, none⟩ = some (.int .i64 a1_0) ∧ w'.cell? ⟨gb189, 1, none⟩ = some (.int .i64 a1_1) ∧ w'.cell? ⟨gb189, 2, none⟩ = some (.int .i64 a1_2)) ∧ (Kd.R k32 32 w' w.heap.size (fun k_ => some k_ ≠ (s_.2.1 : Value).ownBlock ∧ some k_ ≠ (.slice Ao29 t197.length co29 : Value).ownBlock ∧ some k_ ≠ (.slice Ao35 t220.length co35 : Value).ownBlock ∧ some k_ ≠ (.slice Ao46 t209.length co46 : Value).ownBlock) s_.1 t225) ∧ (Kd.R k32 32 w' w.heap.size (fun k_ => some k_ ≠ (s_.1 : Value).ownBlock ∧ some k_ ≠ (.slice Ao29 t197.length co29 : Value).ownBlock ∧ some k_ ≠ (.slice Ao35 t220.length co35 : Value).ownBlock ∧ some k_ ≠ (.slice Ao46 t209.length co46 : Value).ownBlock) s_.2.1 t231) ∧ (Kd.R k32 32 w' w.heap.size (fun k_ => some k_ ≠ (s_.1 : Value).ownBlock ∧ some k_ ≠ (s_.2.1 : Value).ownBlock ∧ some k_ ≠ (.slice Ao35 t220.length co35 : Value).ownBlock ∧ some k_ ≠ (.slice Ao46 t209.length co46 : Value).ownBlock) (.slice Ao29 t197.length co29) t197) ∧ (Kd.R k32 32 w' w.heap.size (fun k_ => some k_ ≠ (s_.1 : Value).ownBlock ∧ some k_ ≠ (s_.2.1 : Value).ownBlock ∧ some k_ ≠ (.slice Ao29 t197.length co29 : Value).ownBlock ∧ some k_ ≠ (.slice Ao46 t209.length co46 : Value).ownBlock) (.slice Ao35 t220.length co35) t220) ∧ (Kd.R k32 32 w' w.heap.size (fun k_ => some k_ ≠ (s_.1 : Value).ownBlock ∧ some k_ ≠ (s_.2.1 : Value).ownBlock ∧ some k_ ≠ (.slice Ao29 t197.length co29 : Value).ownBlock ∧ some k_ ≠ (.slice Ao35 t220.length co35 : Value).ownBlock) (.slice Ao46 t209.length co46) t223) ∧ (w'.heap[gb188]? = some (.cells #[.slice A0_0 l0_0.length c0_0] 37 (0, 0))) ∧ (w'.heap[gb189]? = some (.cells #[.int .i64 a1_0, .int .i64 a1_1, .int .i64 a1_2] 30 (0, 0))) ∧ (w'.heap[gb201]? = some (.cells #[.slice Ao29 t197.length co29] 42 (0, 0))) ∧ (w'.heap[gb205]? = some (.cells #[.slice Ao35 t220.length co35] 42 (0, 0))) ∧ (w'.heap[gb213]? = some (.cells #[.slice Ao46 t209.length co46] 42 (0, 0))) ∧ (w'.heap[s_.2.2]? = some (.cells #[.slice none 0 0] 42 (0, 0))) ∧ (w.heap.size ≤ s_.2.2) ∧ (w.heap.size ≤ s_.2.2) ∧ (gb188 ≠ s_.2.2) ∧ (s_.2.2 ≠ gb188) ∧ (gb189 ≠ s_.2.2) ∧ (s_.2.2 ≠ gb189) ∧ (gb201 ≠ s_.2.2) ∧ (s_.2.2 ≠ gb201) ∧ (gb205 ≠ s_.2.2) ∧ (s_.2.2 ≠ gb205) ∧ (gb213 ≠ s_.2.2) ∧ (s_.2.2 ≠ gb213) ∧ (Below w.heap.size w w')) ?_ ?_
           rotate_left
           ·intro hCont
            refine two_ (i := 1) (j := 8) (Ni := some 81) (Nj := some 14) #[true, true, true, false, false, false, false, false, false, false, false] #[true, false, true, false, false, false, false, false, true, false, false] rfl rfl rfl rfl (two_of HT_.out (by kernel_rfl)) (by decide) (by decide) (fun K hK => ?_) (fun K hK => ?_)
            ·skip
             refine goes_ Try.func21 (by kernel_rfl) rfl #[.agg #[.slice A0_0 l0_0.length c0_0]] (by rfl) rfl rfl (by (try simp only [List.map_toArray, List.map_cons, List.map_nil]); first | done | rfl | (simp only [List.length_drop, List.length_take]; rfl)) ?_
             with_reducible refine (laws_toPuzzle.calls kj74 _ _ l0_0 t225 _ ?side1 ?side2 A114.out).mono ?_
             (case side1 => repeat (first | exact (Kd.C_below HR0_0.out HB.out) | (with_reducible refine Kd.C_alloc ?_ _) | (with_reducible refine Kd.C_drewN ?_ _) | (with_reducible refine Kd.C_drew ?_)))
             (case side2 => exact HC0_0.out)
             rintro e w127 ⟨v226, rfl, ho0, hb⟩
             refine ⟨_, rfl, ?_⟩
             have n0_ := Aside0.mk (Kd.R_elder' (by (with_reducible repeat (first | apply Kd.R_alloc | apply Kd.R_drewN | apply Kd.R_drew)); exact HO_202000.out) (Kd.R_base ho0) hb)
             have n1_ := Aside0.mk (Kd.R_elder' (by (with_reducible repeat (first | apply Kd.R_alloc | apply Kd.R_drewN | apply Kd.R_drew)); exact HO_206000.out) (Kd.R_base ho0) hb)
             have n2_ := Aside0.mk (Kd.R_elder' (by (with_reducible repeat (first | apply Kd.R_alloc | apply Kd.R_drewN | apply Kd.R_drew)); exact HO_214000.out) (Kd.R_base ho0) hb)
             have n3_ := Aside0.mk (Kd.R_lower (Kd.R_new' (Kd.R_new' (Kd.R_new' ho0 (Kd.R_lt (by (with_reducible repeat (first | apply Kd.R_alloc | apply Kd.R_drewN | apply Kd.R_drew)); exact HO_202000.out))) (Kd.R_lt (by (with_reducible repeat (first | apply Kd.R_alloc | apply Kd.R_drewN | apply Kd.R_drew)); exact HO_206000.out))) (Kd.R_lt (by (with_reducible repeat (first | apply Kd.R_alloc | apply Kd.R_drewN | apply Kd.R_drew)); exact HO_214000.out))) (below_size Lam.al))
             have n4_ := Aside0.mk (blk_below (g := gb188) (o := .cells #[.slice A0_0 l0_0.length c0_0] 37 (0, 0)) (Lam.bq BK188.out) hb)
             have n5_ := Aside0.mk (blk_below (g := gb189) (o := .cells #[.int .i64 a1_0, .int .i64 a1_1, .int .i64 a1_2] 30 (0, 0)) (Lam.bq BK189.out) hb)
             have n6_ := Aside0.mk (blk_below (g := gb201) (o := .cells #[.slice Ao29 t197.length co29] 42 (0, 0)) (Lam.bq BK201.out) hb)
             have n7_ := Aside0.mk (blk_below (g := gb205) (o := .cells #[.slice Ao35 t220.length co35] 42 (0, 0)) (Lam.bq BK205.out) hb)
             have n8_ := Aside0.mk (blk_below (g := gb213) (o := .cells #[.slice Ao46 t209.length co46] 42 (0, 0)) (Lam.bq BK213.out) hb)
             have n9_ := Aside0.mk (below_step Lam.al hb)
             clear HO_202000
             clear HO_206000
             clear HO_214000
             clear BK188
             clear BK189
             clear BK201
             clear BK205
             clear BK213
             clear HB
             have HO_202000 := n0_
             have HO_206000 := n1_
             have HO_214000 := n2_
             have HO227 := n3_
             have BK188 := n4_
             have BK189 := n5_
             have BK201 := n6_
             have BK205 := n7_
             have BK213 := n8_
             have HB := n9_
             clear n0_ n1_ n2_ n3_ n4_ n5_ n6_ n7_ n8_ n9_
             (try clear hb)
             (try clear hb2)
             (try clear hk)
             (try clear hi)
             (try clear ho0)
             refine hK.out _ _ ⟨(blk_cell BK188.out 0).trans rfl, (blk_cell BK189.out 0).trans rfl, (blk_cell BK189.out 1).trans rfl, (blk_cell BK189.out 2).trans rfl⟩ (fun hHeld => ?_)
             clear hK K
             refine norm_ (a' := ?_) ?_ ?_
             rotate_left
             ·show Act.put _ (some 81) _ = _
              simp only [Act.put, List.setIfInBounds_toArray, List.set_cons_zero, List.set_cons_succ, i64_w, i32_w]
              rfl
             refine two_ (i := 3) (j := 8) (Ni := some 83) (Nj := some 14) #[true, true, true, true, false, false, false, false, false, false, false] #[true, true, true, false, false, false, false, false, true, false, false] rfl rfl rfl rfl (two_of HT_.out (by kernel_rfl)) (by decide) (by decide) (fun K hK => ?_) (fun K hK => ?_)
             ·skip
              refine goes_ Try.func17 (by kernel_rfl) rfl #[.agg #[.int .i64 a1_0, .int .i64 a1_1, .int .i64 a1_2]] (by rfl) rfl rfl (by (try simp only [List.map_toArray, List.map_cons, List.map_nil]); first | done | rfl | (simp only [List.length_drop, List.length_take]; rfl)) ?_
              with_reducible refine (laws_toClue.calls a1_0 a1_1 a1_2 t228 t229 t230 _ A115.out).mono ?_
              rintro e w128 ⟨rfl, hb⟩
              refine ⟨_, rfl, ?_⟩
              have n0_ := Aside0.mk (Kd.R_below (by (with_reducible repeat (first | apply Kd.R_alloc | apply Kd.R_drewN | apply Kd.R_drew)); exact HO_202000.out) hb)
              have n1_ := Aside0.mk (Kd.R_below (by (with_reducible repeat (first | apply Kd.R_alloc | apply Kd.R_drewN | apply Kd.R_drew)); exact HO_206000.out) hb)
              have n2_ := Aside0.mk (Kd.R_below (by (with_reducible repeat (first | apply Kd.R_alloc | apply Kd.R_drewN | apply Kd.R_drew)); exact HO_214000.out) hb)
              have n3_ := Aside0.mk (Kd.R_below (Lam.rq HO227.out) hb)
              have n4_ := Aside0.mk (blk_below (g := gb188) (o := .cells #[.slice A0_0 l0_0.length c0_0] 37 (0, 0)) (Lam.bq BK188.out) hb)
              have n5_ := Aside0.mk (blk_below (g := gb189) (o := .cells #[.int .i64 a1_0, .int .i64 a1_1, .int .i64 a1_2] 30 (0, 0)) (Lam.bq BK189.out) hb)
              have n6_ := Aside0.mk (blk_below (g := gb201) (o := .cells #[.slice Ao29 t197.length co29] 42 (0, 0)) (Lam.bq BK201.out) hb)
              have n7_ := Aside0.mk (blk_below (g := gb205) (o := .cells #[.slice Ao35 t220.length co35] 42 (0, 0)) (Lam.bq BK205.out) hb)
              have n8_ := Aside0.mk (blk_below (g := gb213) (o := .cells #[.slice Ao46 t209.length co46] 42 (0, 0)) (Lam.bq BK213.out) hb)
              have n9_ := Aside0.mk (below_step Lam.al hb)
              clear HO_202000
              clear HO_206000
              clear HO_214000
              clear HO227
              clear BK188
              clear BK189
              clear BK201
              clear BK205
              clear BK213
              clear HB
              have HO_202000 := n0_
              have HO_206000 := n1_
              have HO_214000 := n2_
              have HO227 := n3_
              have BK188 := n4_
              have BK189 := n5_
              have BK201 := n6_
              have BK205 := n7_
              have BK213 := n8_
              have HB := n9_
              clear n0_ n1_ n2_ n3_ n4_ n5_ n6_ n7_ n8_ n9_
              (try clear hb)
              (try clear hb2)
              (try clear hk)
              (try clear hi)
              obtain ⟨Ao129, co129, eo129⟩ := Kd.R_slice HO227.out
              (first | subst eo129 | (injection eo129 with f1_ f2_ f3_; have f4_ := f1_.symm; have f5_ := f3_.symm; clear f1_ f2_ f3_; subst f4_; subst f5_))
              refine hK.out _ _ ⟨(blk_cell BK188.out 0).trans rfl, (blk_cell BK189.out 0).trans rfl, (blk_cell BK189.out 1).trans rfl, (blk_cell BK189.out 2).trans rfl⟩ (fun hHeld => ?_)
              clear hK K
              refine norm_ (a' := ?_) ?_ ?_
              rotate_left
              ·show Act.put _ (some 83) _ = _
               simp only [Act.put, List.setIfInBounds_toArray, List.set_cons_zero, List.set_cons_succ, i64_w, i32_w]
               rfl
              refine two_ (i := 4) (j := 8) (Ni := some 84) (Nj := some 14) #[true, true, true, true, true, false, false, false, false, false, false] #[true, true, true, true, false, false, false, false, true, false, false] rfl rfl rfl rfl (two_of HT_.out (by kernel_rfl)) (by decide) (by decide) (fun K hK => ?_) (fun K hK => ?_)
              ·skip
               refine goes_ Try.func39 (by kernel_rfl) rfl #[.agg #[.slice Ao129 t225.length co129], .agg #[.int .i64 t228, .int .i64 t229, .int .i64 t230]] (by rfl) rfl rfl (by (try simp only [List.map_toArray, List.map_cons, List.map_nil]); first | done | rfl | (simp only [List.length_drop, List.length_take]; rfl)) ?_
               with_reducible refine (impl_AddClue.calls _ _ t225 t228 t229 t230 t231 t234 _ ?side1 ?side2 A116.out).mono ?_
               (case side1 => repeat (first | exact (Kd.R_reads' HO227.out).2.2 | (with_reducible refine Kd.C_alloc ?_ _) | (with_reducible refine Kd.C_drewN ?_ _) | (with_reducible refine Kd.C_drew ?_)))
               (case side2 => exact (Kd.R_reads' HO227.out).2.1)
               rintro e w130 ⟨v232, rfl, ho0, hb⟩
               refine ⟨_, rfl, ?_⟩
               have n0_ := Aside0.mk (Kd.R_elder' (by (with_reducible repeat (first | apply Kd.R_alloc | apply Kd.R_drewN | apply Kd.R_drew)); exact HO_202000.out) (Kd.R_base ho0) hb)
               have n1_ := Aside0.mk (Kd.R_elder' (by (with_reducible repeat (first | apply Kd.R_alloc | apply Kd.R_drewN | apply Kd.R_drew)); exact HO_206000.out) (Kd.R_base ho0) hb)
               have n2_ := Aside0.mk (Kd.R_elder' (by (with_reducible repeat (first | apply Kd.R_alloc | apply Kd.R_drewN | apply Kd.R_drew)); exact HO_214000.out) (Kd.R_base ho0) hb)
               have n3_ := Aside0.mk (Kd.R_elder' (Lam.rq HO227.out) (Kd.R_base ho0) hb)
               have n4_ := Aside0.mk (Kd.R_lower (Kd.R_new' (Kd.R_new' (Kd.R_new' (Kd.R_new' ho0 (Kd.R_lt (by (with_reducible repeat (first | apply Kd.R_alloc | apply Kd.R_drewN | apply Kd.R_drew)); exact HO_202000.out))) (Kd.R_lt (by (with_reducible repeat (first | apply Kd.R_alloc | apply Kd.R_drewN | apply Kd.R_drew)); exact HO_206000.out))) (Kd.R_lt (by (with_reducible repeat (first | apply Kd.R_alloc | apply Kd.R_drewN | apply Kd.R_drew)); exact HO_214000.out))) (Kd.R_lt (Lam.rq HO227.out))) (below_size Lam.al))
               have n5_ := Aside0.mk (blk_below (g := gb188) (o := .cells #[.slice A0_0 l0_0.length c0_0] 37 (0, 0)) (Lam.bq BK188.out) hb)
               have n6_ := Aside0.mk (blk_below (g := gb189) (o := .cells #[.int .i64 a1_0, .int .i64 a1_1, .int .i64 a1_2] 30 (0, 0)) (Lam.bq BK189.out) hb)
               have n7_ := Aside0.mk (blk_below (g := gb201) (o := .cells #[.slice Ao29 t197.length co29] 42 (0, 0)) (Lam.bq BK201.out) hb)
               have n8_ := Aside0.mk (blk_below (g := gb205) (o := .cells #[.slice Ao35 t220.length co35] 42 (0, 0)) (Lam.bq BK205.out) hb)
               have n9_ := Aside0.mk (blk_below (g := gb213) (o := .cells #[.slice Ao46 t209.length co46] 42 (0, 0)) (Lam.bq BK213.out) hb)
               have n10_ := Aside0.mk (below_step Lam.al hb)
               clear HO_202000
               clear HO_206000
               clear HO_214000
               clear HO227
               clear BK188
               clear BK189
               clear BK201
               clear BK205
               clear BK213
               clear HB
               have HO_202000 := n0_
               have HO_206000 := n1_
               have HO_214000 := n2_
               have HO227 := n3_
               have HO233 := n4_
               have BK188 := n5_
               have BK189 := n6_
               have BK201 := n7_
               have BK205 := n8_
               have BK213 := n9_
               have HB := n10_
               clear n0_ n1_ n2_ n3_ n4_ n5_ n6_ n7_ n8_ n9_ n10_
               (try clear hb)
               (try clear hb2)
               (try clear hk)
               (try clear hi)
               (try clear ho0)
               refine hK.out _ _ ⟨(blk_cell BK188.out 0).trans rfl, (blk_cell BK189.out 0).trans rfl, (blk_cell BK189.out 1).trans rfl, (blk_cell BK189.out 2).trans rfl⟩ (fun hHeld => ?_)
               clear hK K
               refine norm_ (a' := ?_) ?_ ?_
               rotate_left
               ·show Act.put _ (some 84) _ = _
                simp only [Act.put, List.setIfInBounds_toArray, List.set_cons_zero, List.set_cons_succ, i64_w, i32_w]
                rfl
               refine pure_ (i := 5) (N := some 79) (v := ?_) (a' := ?_) #[true, true, true, true, true, true, false, false, false, false, false] rfl rfl (any_of HT_.out (by kernel_rfl)) (fun _ _ _ h => h) (Or.inl ⟨by rfl, ?_⟩) ?_ ?_
               rotate_left
               ·intro w'
                go_simp
                with_reducible rfl
               rotate_left
               ·simp only [Act.put, List.setIfInBounds_toArray, List.set_cons_zero, List.set_cons_succ, i64_w, i32_w]
                rfl
               refine pure_ (i := 6) (N := some 85) (v := ?_) (a' := ?_) #[true, true, true, true, true, true, true, false, false, false, false] rfl rfl (any_of HT_.out (by kernel_rfl)) (fun _ _ _ h => h) (Or.inl ⟨by rfl, ?_⟩) ?_ ?_
               rotate_left
               ·intro w'
                go_simp
                with_reducible rfl
               rotate_left
               ·simp only [Act.put, List.setIfInBounds_toArray, List.set_cons_zero, List.set_cons_succ, i64_w, i32_w]
                rfl
               refine pure_ (i := 7) (N := some 86) (v := ?_) (a' := ?_) #[true, true, true, true, true, true, true, true, false, false, false] rfl rfl (any_of HT_.out (by kernel_rfl)) (fun _ _ _ h => h) (Or.inl ⟨by rfl, ?_⟩) ?_ ?_
               rotate_left
               ·intro w'
                go_simp
                with_reducible rfl
               rotate_left
               ·simp only [Act.put, List.setIfInBounds_toArray, List.set_cons_zero, List.set_cons_succ, i64_w, i32_w]
                rfl
               refine one_ (i := 8) (N := some 14) #[true, true, true, true, true, true, true, true, true, false, false] rfl rfl (one_of HT_.out (by kernel_rfl)) (by decide) (fun K hK => ?_)
               refine box_step ?hg (N := 14) ?hd (cs := #[.slice none 0 0]) (t := 42) ?hr ?_; (case hd => rfl); (case hg => rfl); (case hr => first | (go_simp; done) | (go_simp; rfl))
               intro gb235 hg w131 hbox hb
               have n0_ := Aside0.mk (Kd.R_below (by (with_reducible repeat (first | apply Kd.R_alloc | apply Kd.R_drewN | apply Kd.R_drew)); exact HO_202000.out) hb)
               have n1_ := Aside0.mk (Kd.R_below (by (with_reducible repeat (first | apply Kd.R_alloc | apply Kd.R_drewN | apply Kd.R_drew)); exact HO_206000.out) hb)
               have n2_ := Aside0.mk (Kd.R_below (by (with_reducible repeat (first | apply Kd.R_alloc | apply Kd.R_drewN | apply Kd.R_drew)); exact HO_214000.out) hb)
               have n3_ := Aside0.mk (Kd.R_below (Lam.rq HO227.out) hb)
               have n4_ := Aside0.mk (Kd.R_below (Lam.rq HO233.out) hb)
               have n5_ := Aside0.mk (blk_below (g := gb188) (o := .cells #[.slice A0_0 l0_0.length c0_0] 37 (0, 0)) (Lam.bq BK188.out) hb)
               have n6_ := Aside0.mk (blk_below (g := gb189) (o := .cells #[.int .i64 a1_0, .int .i64 a1_1, .int .i64 a1_2] 30 (0, 0)) (Lam.bq BK189.out) hb)
               have n7_ := Aside0.mk (blk_below (g := gb201) (o := .cells #[.slice Ao29 t197.length co29] 42 (0, 0)) (Lam.bq BK201.out) hb)
               have n8_ := Aside0.mk (blk_below (g := gb205) (o := .cells #[.slice Ao35 t220.length co35] 42 (0, 0)) (Lam.bq BK205.out) hb)
               have n9_ := Aside0.mk (blk_below (g := gb213) (o := .cells #[.slice Ao46 t209.length co46] 42 (0, 0)) (Lam.bq BK213.out) hb)
               have n10_ := Aside0.mk (below_step Lam.al hb)
               have n11_ := Aside0.mk (hbox)
               have n12_ := Aside0.mk ((by rw [hg]; exact (below_size Lam.al) : w.heap.size ≤ gb235))
               have n13_ := Aside0.mk ((by rw [hg]; exact (below_size Lam.al) : w.heap.size ≤ gb235))
               have n14_ := Aside0.mk ((by rw [hg]; exact Nat.ne_of_lt (blk_lt (g := gb188) (o := .cells #[.slice A0_0 l0_0.length c0_0] 37 (0, 0)) (Lam.bq BK188.out)) : gb188 ≠ gb235))
               have n15_ := Aside0.mk ((by rw [hg]; exact Nat.ne_of_gt (blk_lt (g := gb188) (o := .cells #[.slice A0_0 l0_0.length c0_0] 37 (0, 0)) (Lam.bq BK188.out)) : gb235 ≠ gb188))
               have n16_ := Aside0.mk ((by rw [hg]; exact Nat.ne_of_lt (blk_lt (g := gb189) (o := .cells #[.int .i64 a1_0, .int .i64 a1_1, .int .i64 a1_2] 30 (0, 0)) (Lam.bq BK189.out)) : gb189 ≠ gb235))
               have n17_ := Aside0.mk ((by rw [hg]; exact Nat.ne_of_gt (blk_lt (g := gb189) (o := .cells #[.int .i64 a1_0, .int .i64 a1_1, .int .i64 a1_2] 30 (0, 0)) (Lam.bq BK189.out)) : gb235 ≠ gb189))
               have n18_ := Aside0.mk ((by rw [hg]; exact Nat.ne_of_lt (blk_lt (g := gb201) (o := .cells #[.slice Ao29 t197.length co29] 42 (0, 0)) (Lam.bq BK201.out)) : gb201 ≠ gb235))
               have n19_ := Aside0.mk ((by rw [hg]; exact Nat.ne_of_gt (blk_lt (g := gb201) (o := .cells #[.slice Ao29 t197.length co29] 42 (0, 0)) (Lam.bq BK201.out)) : gb235 ≠ gb201))
               have n20_ := Aside0.mk ((by rw [hg]; exact Nat.ne_of_lt (blk_lt (g := gb205) (o := .cells #[.slice Ao35 t220.length co35] 42 (0, 0)) (Lam.bq BK205.out)) : gb205 ≠ gb235))
               have n21_ := Aside0.mk ((by rw [hg]; exact Nat.ne_of_gt (blk_lt (g := gb205) (o := .cells #[.slice Ao35 t220.length co35] 42 (0, 0)) (Lam.bq BK205.out)) : gb235 ≠ gb205))
               have n22_ := Aside0.mk ((by rw [hg]; exact Nat.ne_of_lt (blk_lt (g := gb213) (o := .cells #[.slice Ao46 t209.length co46] 42 (0, 0)) (Lam.bq BK213.out)) : gb213 ≠ gb235))
               have n23_ := Aside0.mk ((by rw [hg]; exact Nat.ne_of_gt (blk_lt (g := gb213) (o := .cells #[.slice Ao46 t209.length co46] 42 (0, 0)) (Lam.bq BK213.out)) : gb235 ≠ gb213))
               clear HO_202000
               clear HO_206000
               clear HO_214000
               clear HO227
               clear HO233
               clear BK188
               clear BK189
               clear BK201
               clear BK205
               clear BK213
               clear HB
               have HO_202000 := n0_
               have HO_206000 := n1_
               have HO_214000 := n2_
               have HO227 := n3_
               have HO233 := n4_
               have BK188 := n5_
               have BK189 := n6_
               have BK201 := n7_
               have BK205 := n8_
               have BK213 := n9_
               have HB := n10_
               have BK235 := n11_
               have GW235 := n12_
               have GE235 := n13_
               have NB188_235 := n14_
               have NB235_188 := n15_
               have NB189_235 := n16_
               have NB235_189 := n17_
               have NB201_235 := n18_
               have NB235_201 := n19_
               have NB205_235 := n20_
               have NB235_205 := n21_
               have NB213_235 := n22_
               have NB235_213 := n23_
               clear n0_ n1_ n2_ n3_ n4_ n5_ n6_ n7_ n8_ n9_ n10_ n11_ n12_ n13_ n14_ n15_ n16_ n17_ n18_ n19_ n20_ n21_ n22_ n23_
               clear hb hbox hg
               refine hK.out _ _ ⟨(blk_cell BK188.out 0).trans rfl, (blk_cell BK189.out 0).trans rfl, (blk_cell BK189.out 1).trans rfl, (blk_cell BK189.out 2).trans rfl⟩ (fun hHeld => ?_)
               clear hK K
               refine norm_ (a' := ?_) ?_ ?_
               rotate_left
               ·show Act.put _ (some 14) _ = _
                simp only [Act.put, List.setIfInBounds_toArray, List.set_cons_zero, List.set_cons_succ, i64_w, i32_w]
                rfl
               exact norm_ (by simp only [putAll, Act.put, List.setIfInBounds_toArray, List.set_cons_zero, List.set_cons_succ]) (hCont (.slice Ao129 t225.length co129, v232, gb235) _ ⟨hHeld, (by (with_reducible repeat (first | apply Kd.R_alloc | apply Kd.R_drewN | apply Kd.R_drew)); exact Kd.R_mono HO227.out (fun _ hk => ⟨hk.2, ⟨hk.1.1.1.2, ⟨hk.1.1.2, hk.1.2⟩⟩⟩)), (by (with_reducible repeat (first | apply Kd.R_alloc | apply Kd.R_drewN | apply Kd.R_drew)); exact Kd.R_mono HO233.out (fun _ hk => ⟨hk.2, ⟨hk.1.1.1.2, ⟨hk.1.1.2, hk.1.2⟩⟩⟩)), (by (with_reducible repeat (first | apply Kd.R_alloc | apply Kd.R_drewN | apply Kd.R_drew)); exact Kd.R_mono HO_202000.out (fun _ hk => ⟨hk.1.2, ⟨hk.2, ⟨hk.1.1.1, hk.1.1.2⟩⟩⟩)), (by (with_reducible repeat (first | apply Kd.R_alloc | apply Kd.R_drewN | apply Kd.R_drew)); exact Kd.R_mono HO_206000.out (fun _ hk => ⟨hk.1.2, ⟨hk.2, ⟨hk.1.1.1, hk.1.1.2⟩⟩⟩)), (by (with_reducible repeat (first | apply Kd.R_alloc | apply Kd.R_drewN | apply Kd.R_drew)); exact Kd.R_mono HO_214000.out (fun _ hk => ⟨hk.1.2, ⟨hk.2, ⟨hk.1.1.1, hk.1.1.2⟩⟩⟩)), (Lam.bq BK188.out), (Lam.bq BK189.out), (Lam.bq BK201.out), (Lam.bq BK205.out), (Lam.bq BK213.out), (Lam.bq BK235.out), GW235.out, GE235.out, NB188_235.out, NB235_188.out, NB189_235.out, NB235_189.out, NB201_235.out, NB235_201.out, NB205_235.out, NB235_205.out, NB213_235.out, NB235_213.out, Lam.al⟩)
              ·skip
               refine box_step ?hg (N := 14) ?hd (cs := #[.slice none 0 0]) (t := 42) ?hr ?_; (case hd => rfl); (case hg => rfl); (case hr => first | (go_simp; done) | (go_simp; rfl))
               intro gb235 hg w129 hbox hb
               have n0_ := Aside0.mk (Kd.R_below (by (with_reducible repeat (first | apply Kd.R_alloc | apply Kd.R_drewN | apply Kd.R_drew)); exact HO_202000.out) hb)
               have n1_ := Aside0.mk (Kd.R_below (by (with_reducible repeat (first | apply Kd.R_alloc | apply Kd.R_drewN | apply Kd.R_drew)); exact HO_206000.out) hb)
               have n2_ := Aside0.mk (Kd.R_below (by (with_reducible repeat (first | apply Kd.R_alloc | apply Kd.R_drewN | apply Kd.R_drew)); exact HO_214000.out) hb)
               have n3_ := Aside0.mk (Kd.R_below (Lam.rq HO227.out) hb)
               have n4_ := Aside0.mk (blk_below (g := gb188) (o := .cells #[.slice A0_0 l0_0.length c0_0] 37 (0, 0)) (Lam.bq BK188.out) hb)
               have n5_ := Aside0.mk (blk_below (g := gb189) (o := .cells #[.int .i64 a1_0, .int .i64 a1_1, .int .i64 a1_2] 30 (0, 0)) (Lam.bq BK189.out) hb)
               have n6_ := Aside0.mk (blk_below (g := gb201) (o := .cells #[.slice Ao29 t197.length co29] 42 (0, 0)) (Lam.bq BK201.out) hb)
               have n7_ := Aside0.mk (blk_below (g := gb205) (o := .cells #[.slice Ao35 t220.length co35] 42 (0, 0)) (Lam.bq BK205.out) hb)
               have n8_ := Aside0.mk (blk_below (g := gb213) (o := .cells #[.slice Ao46 t209.length co46] 42 (0, 0)) (Lam.bq BK213.out) hb)
               have n9_ := Aside0.mk (below_step Lam.al hb)
               have n10_ := Aside0.mk (hbox)
               have n11_ := Aside0.mk ((by rw [hg]; exact (below_size Lam.al) : w.heap.size ≤ gb235))
               have n12_ := Aside0.mk ((by rw [hg]; exact (below_size Lam.al) : w.heap.size ≤ gb235))
               have n13_ := Aside0.mk ((by rw [hg]; exact Nat.ne_of_lt (blk_lt (g := gb188) (o := .cells #[.slice A0_0 l0_0.length c0_0] 37 (0, 0)) (Lam.bq BK188.out)) : gb188 ≠ gb235))
               have n14_ := Aside0.mk ((by rw [hg]; exact Nat.ne_of_gt (blk_lt (g := gb188) (o := .cells #[.slice A0_0 l0_0.length c0_0] 37 (0, 0)) (Lam.bq BK188.out)) : gb235 ≠ gb188))
               have n15_ := Aside0.mk ((by rw [hg]; exact Nat.ne_of_lt (blk_lt (g := gb189) (o := .cells #[.int .i64 a1_0, .int .i64 a1_1, .int .i64 a1_2] 30 (0, 0)) (Lam.bq BK189.out)) : gb189 ≠ gb235))
               have n16_ := Aside0.mk ((by rw [hg]; exact Nat.ne_of_gt (blk_lt (g := gb189) (o := .cells #[.int .i64 a1_0, .int .i64 a1_1, .int .i64 a1_2] 30 (0, 0)) (Lam.bq BK189.out)) : gb235 ≠ gb189))
               have n17_ := Aside0.mk ((by rw [hg]; exact Nat.ne_of_lt (blk_lt (g := gb201) (o := .cells #[.slice Ao29 t197.length co29] 42 (0, 0)) (Lam.bq BK201.out)) : gb201 ≠ gb235))
               have n18_ := Aside0.mk ((by rw [hg]; exact Nat.ne_of_gt (blk_lt (g := gb201) (o := .cells #[.slice Ao29 t197.length co29] 42 (0, 0)) (Lam.bq BK201.out)) : gb235 ≠ gb201))
               have n19_ := Aside0.mk ((by rw [hg]; exact Nat.ne_of_lt (blk_lt (g := gb205) (o := .cells #[.slice Ao35 t220.length co35] 42 (0, 0)) (Lam.bq BK205.out)) : gb205 ≠ gb235))
               have n20_ := Aside0.mk ((by rw [hg]; exact Nat.ne_of_gt (blk_lt (g := gb205) (o := .cells #[.slice Ao35 t220.length co35] 42 (0, 0)) (Lam.bq BK205.out)) : gb235 ≠ gb205))
               have n21_ := Aside0.mk ((by rw [hg]; exact Nat.ne_of_lt (blk_lt (g := gb213) (o := .cells #[.slice Ao46 t209.length co46] 42 (0, 0)) (Lam.bq BK213.out)) : gb213 ≠ gb235))
               have n22_ := Aside0.mk ((by rw [hg]; exact Nat.ne_of_gt (blk_lt (g := gb213) (o := .cells #[.slice Ao46 t209.length co46] 42 (0, 0)) (Lam.bq BK213.out)) : gb235 ≠ gb213))
               clear HO_202000
               clear HO_206000
               clear HO_214000
               clear HO227
               clear BK188
               clear BK189
               clear BK201
               clear BK205
               clear BK213
               clear HB
               have HO_202000 := n0_
               have HO_206000 := n1_
               have HO_214000 := n2_
               have HO227 := n3_
               have BK188 := n4_
               have BK189 := n5_
               have BK201 := n6_
               have BK205 := n7_
               have BK213 := n8_
               have HB := n9_
               have BK235 := n10_
               have GW235 := n11_
               have GE235 := n12_
               have NB188_235 := n13_
               have NB235_188 := n14_
               have NB189_235 := n15_
               have NB235_189 := n16_
               have NB201_235 := n17_
               have NB235_201 := n18_
               have NB205_235 := n19_
               have NB235_205 := n20_
               have NB213_235 := n21_
               have NB235_213 := n22_
               clear n0_ n1_ n2_ n3_ n4_ n5_ n6_ n7_ n8_ n9_ n10_ n11_ n12_ n13_ n14_ n15_ n16_ n17_ n18_ n19_ n20_ n21_ n22_
               clear hb hbox hg
               obtain ⟨Ao130, co130, eo130⟩ := Kd.R_slice HO227.out
               (first | subst eo130 | (injection eo130 with f1_ f2_ f3_; have f4_ := f1_.symm; have f5_ := f3_.symm; clear f1_ f2_ f3_; subst f4_; subst f5_))
               refine hK.out _ _ ⟨(blk_cell BK188.out 0).trans rfl, (blk_cell BK189.out 0).trans rfl, (blk_cell BK189.out 1).trans rfl, (blk_cell BK189.out 2).trans rfl⟩ (fun hHeld => ?_)
               clear hK K
               refine norm_ (a' := ?_) ?_ ?_
               rotate_left
               ·show Act.put _ (some 14) _ = _
                simp only [Act.put, List.setIfInBounds_toArray, List.set_cons_zero, List.set_cons_succ, i64_w, i32_w]
                rfl
               refine one_ (i := 4) (N := some 84) #[true, true, true, true, true, false, false, false, true, false, false] rfl rfl (one_of HT_.out (by kernel_rfl)) (by decide) (fun K hK => ?_)
               refine goes_ Try.func39 (by kernel_rfl) rfl #[.agg #[.slice Ao130 t225.length co130], .agg #[.int .i64 t228, .int .i64 t229, .int .i64 t230]] (by rfl) rfl rfl (by (try simp only [List.map_toArray, List.map_cons, List.map_nil]); first | done | rfl | (simp only [List.length_drop, List.length_take]; rfl)) ?_
               with_reducible refine (impl_AddClue.calls _ _ t225 t228 t229 t230 t231 t234 _ ?side1 ?side2 A116.out).mono ?_
               (case side1 => repeat (first | exact (Kd.R_reads' HO227.out).2.2 | (with_reducible refine Kd.C_alloc ?_ _) | (with_reducible refine Kd.C_drewN ?_ _) | (with_reducible refine Kd.C_drew ?_)))
               (case side2 => exact (Kd.R_reads' HO227.out).2.1)
               rintro e w131 ⟨v232, rfl, ho0, hb⟩
               refine ⟨_, rfl, ?_⟩
               have n0_ := Aside0.mk (Kd.R_elder' (by (with_reducible repeat (first | apply Kd.R_alloc | apply Kd.R_drewN | apply Kd.R_drew)); exact HO_202000.out) (Kd.R_base ho0) hb)
               have n1_ := Aside0.mk (Kd.R_elder' (by (with_reducible repeat (first | apply Kd.R_alloc | apply Kd.R_drewN | apply Kd.R_drew)); exact HO_206000.out) (Kd.R_base ho0) hb)
               have n2_ := Aside0.mk (Kd.R_elder' (by (with_reducible repeat (first | apply Kd.R_alloc | apply Kd.R_drewN | apply Kd.R_drew)); exact HO_214000.out) (Kd.R_base ho0) hb)
               have n3_ := Aside0.mk (Kd.R_elder' (Lam.rq HO227.out) (Kd.R_base ho0) hb)
               have n4_ := Aside0.mk (Kd.R_lower (Kd.R_new' (Kd.R_new' (Kd.R_new' (Kd.R_new' ho0 (Kd.R_lt (by (with_reducible repeat (first | apply Kd.R_alloc | apply Kd.R_drewN | apply Kd.R_drew)); exact HO_202000.out))) (Kd.R_lt (by (with_reducible repeat (first | apply Kd.R_alloc | apply Kd.R_drewN | apply Kd.R_drew)); exact HO_206000.out))) (Kd.R_lt (by (with_reducible repeat (first | apply Kd.R_alloc | apply Kd.R_drewN | apply Kd.R_drew)); exact HO_214000.out))) (Kd.R_lt (Lam.rq HO227.out))) (below_size Lam.al))
               have n5_ := Aside0.mk (blk_below (g := gb188) (o := .cells #[.slice A0_0 l0_0.length c0_0] 37 (0, 0)) (Lam.bq BK188.out) hb)
               have n6_ := Aside0.mk (blk_below (g := gb189) (o := .cells #[.int .i64 a1_0, .int .i64 a1_1, .int .i64 a1_2] 30 (0, 0)) (Lam.bq BK189.out) hb)
               have n7_ := Aside0.mk (blk_below (g := gb201) (o := .cells #[.slice Ao29 t197.length co29] 42 (0, 0)) (Lam.bq BK201.out) hb)
               have n8_ := Aside0.mk (blk_below (g := gb205) (o := .cells #[.slice Ao35 t220.length co35] 42 (0, 0)) (Lam.bq BK205.out) hb)
               have n9_ := Aside0.mk (blk_below (g := gb213) (o := .cells #[.slice Ao46 t209.length co46] 42 (0, 0)) (Lam.bq BK213.out) hb)
               have n10_ := Aside0.mk (blk_below (g := gb235) (o := .cells #[.slice none 0 0] 42 (0, 0)) (Lam.bq BK235.out) hb)
               have n11_ := Aside0.mk (below_step Lam.al hb)
               clear HO_202000
               clear HO_206000
               clear HO_214000
               clear HO227
               clear BK188
               clear BK189
               clear BK201
               clear BK205
               clear BK213
               clear BK235
               clear HB
               have HO_202000 := n0_
               have HO_206000 := n1_
               have HO_214000 := n2_
               have HO227 := n3_
               have HO233 := n4_
               have BK188 := n5_
               have BK189 := n6_
               have BK201 := n7_
               have BK205 := n8_
               have BK213 := n9_
               have BK235 := n10_
               have HB := n11_
               clear n0_ n1_ n2_ n3_ n4_ n5_ n6_ n7_ n8_ n9_ n10_ n11_
               (try clear hb)
               (try clear hb2)
               (try clear hk)
               (try clear hi)
               (try clear ho0)
               refine hK.out _ _ ⟨(blk_cell BK188.out 0).trans rfl, (blk_cell BK189.out 0).trans rfl, (blk_cell BK189.out 1).trans rfl, (blk_cell BK189.out 2).trans rfl⟩ (fun hHeld => ?_)
               clear hK K
               refine norm_ (a' := ?_) ?_ ?_
               rotate_left
               ·show Act.put _ (some 84) _ = _
                simp only [Act.put, List.setIfInBounds_toArray, List.set_cons_zero, List.set_cons_succ, i64_w, i32_w]
                rfl
               refine pure_ (i := 5) (N := some 79) (v := ?_) (a' := ?_) #[true, true, true, true, true, true, false, false, true, false, false] rfl rfl (any_of HT_.out (by kernel_rfl)) (fun _ _ _ h => h) (Or.inl ⟨by rfl, ?_⟩) ?_ ?_
               rotate_left
               ·intro w'
                go_simp
                with_reducible rfl
               rotate_left
               ·simp only [Act.put, List.setIfInBounds_toArray, List.set_cons_zero, List.set_cons_succ, i64_w, i32_w]
                rfl
               refine pure_ (i := 6) (N := some 85) (v := ?_) (a' := ?_) #[true, true, true, true, true, true, true, false, true, false, false] rfl rfl (any_of HT_.out (by kernel_rfl)) (fun _ _ _ h => h) (Or.inl ⟨by rfl, ?_⟩) ?_ ?_
               rotate_left
               ·intro w'
                go_simp
                with_reducible rfl
               rotate_left
               ·simp only [Act.put, List.setIfInBounds_toArray, List.set_cons_zero, List.set_cons_succ, i64_w, i32_w]
                rfl
               refine pure_ (i := 7) (N := some 86) (v := ?_) (a' := ?_) #[true, true, true, true, true, true, true, true, true, false, false] rfl rfl (any_of HT_.out (by kernel_rfl)) (fun _ _ _ h => h) (Or.inl ⟨by rfl, ?_⟩) ?_ ?_
               rotate_left
               ·intro w'
                go_simp
                with_reducible rfl
               rotate_left
               ·simp only [Act.put, List.setIfInBounds_toArray, List.set_cons_zero, List.set_cons_succ, i64_w, i32_w]
                rfl
               exact norm_ (by simp only [putAll, Act.put, List.setIfInBounds_toArray, List.set_cons_zero, List.set_cons_succ]) (hCont (.slice Ao130 t225.length co130, v232, gb235) _ ⟨hHeld, (by (with_reducible repeat (first | apply Kd.R_alloc | apply Kd.R_drewN | apply Kd.R_drew)); exact Kd.R_mono HO227.out (fun _ hk => ⟨hk.2, ⟨hk.1.1.1.2, ⟨hk.1.1.2, hk.1.2⟩⟩⟩)), (by (with_reducible repeat (first | apply Kd.R_alloc | apply Kd.R_drewN | apply Kd.R_drew)); exact Kd.R_mono HO233.out (fun _ hk => ⟨hk.2, ⟨hk.1.1.1.2, ⟨hk.1.1.2, hk.1.2⟩⟩⟩)), (by (with_reducible repeat (first | apply Kd.R_alloc | apply Kd.R_drewN | apply Kd.R_drew)); exact Kd.R_mono HO_202000.out (fun _ hk => ⟨hk.1.2, ⟨hk.2, ⟨hk.1.1.1, hk.1.1.2⟩⟩⟩)), (by (with_reducible repeat (first | apply Kd.R_alloc | apply Kd.R_drewN | apply Kd.R_drew)); exact Kd.R_mono HO_206000.out (fun _ hk => ⟨hk.1.2, ⟨hk.2, ⟨hk.1.1.1, hk.1.1.2⟩⟩⟩)), (by (with_reducible repeat (first | apply Kd.R_alloc | apply Kd.R_drewN | apply Kd.R_drew)); exact Kd.R_mono HO_214000.out (fun _ hk => ⟨hk.1.2, ⟨hk.2, ⟨hk.1.1.1, hk.1.1.2⟩⟩⟩)), (Lam.bq BK188.out), (Lam.bq BK189.out), (Lam.bq BK201.out), (Lam.bq BK205.out), (Lam.bq BK213.out), (Lam.bq BK235.out), GW235.out, GE235.out, NB188_235.out, NB235_188.out, NB189_235.out, NB235_189.out, NB201_235.out, NB235_201.out, NB205_235.out, NB235_205.out, NB213_235.out, NB235_213.out, Lam.al⟩)
             ·skip
              refine box_step ?hg (N := 14) ?hd (cs := #[.slice none 0 0]) (t := 42) ?hr ?_; (case hd => rfl); (case hg => rfl); (case hr => first | (go_simp; done) | (go_simp; rfl))
              intro gb235 hg w128 hbox hb
              have n0_ := Aside0.mk (Kd.R_below (by (with_reducible repeat (first | apply Kd.R_alloc | apply Kd.R_drewN | apply Kd.R_drew)); exact HO_202000.out) hb)
              have n1_ := Aside0.mk (Kd.R_below (by (with_reducible repeat (first | apply Kd.R_alloc | apply Kd.R_drewN | apply Kd.R_drew)); exact HO_206000.out) hb)
              have n2_ := Aside0.mk (Kd.R_below (by (with_reducible repeat (first | apply Kd.R_alloc | apply Kd.R_drewN | apply Kd.R_drew)); exact HO_214000.out) hb)
              have n3_ := Aside0.mk (Kd.R_below (Lam.rq HO227.out) hb)
              have n4_ := Aside0.mk (blk_below (g := gb188) (o := .cells #[.slice A0_0 l0_0.length c0_0] 37 (0, 0)) (Lam.bq BK188.out) hb)
              have n5_ := Aside0.mk (blk_below (g := gb189) (o := .cells #[.int .i64 a1_0, .int .i64 a1_1, .int .i64 a1_2] 30 (0, 0)) (Lam.bq BK189.out) hb)
              have n6_ := Aside0.mk (blk_below (g := gb201) (o := .cells #[.slice Ao29 t197.length co29] 42 (0, 0)) (Lam.bq BK201.out) hb)
              have n7_ := Aside0.mk (blk_below (g := gb205) (o := .cells #[.slice Ao35 t220.length co35] 42 (0, 0)) (Lam.bq BK205.out) hb)
              have n8_ := Aside0.mk (blk_below (g := gb213) (o := .cells #[.slice Ao46 t209.length co46] 42 (0, 0)) (Lam.bq BK213.out) hb)
              have n9_ := Aside0.mk (below_step Lam.al hb)
              have n10_ := Aside0.mk (hbox)
              have n11_ := Aside0.mk ((by rw [hg]; exact (below_size Lam.al) : w.heap.size ≤ gb235))
              have n12_ := Aside0.mk ((by rw [hg]; exact (below_size Lam.al) : w.heap.size ≤ gb235))
              have n13_ := Aside0.mk ((by rw [hg]; exact Nat.ne_of_lt (blk_lt (g := gb188) (o := .cells #[.slice A0_0 l0_0.length c0_0] 37 (0, 0)) (Lam.bq BK188.out)) : gb188 ≠ gb235))
              have n14_ := Aside0.mk ((by rw [hg]; exact Nat.ne_of_gt (blk_lt (g := gb188) (o := .cells #[.slice A0_0 l0_0.length c0_0] 37 (0, 0)) (Lam.bq BK188.out)) : gb235 ≠ gb188))
              have n15_ := Aside0.mk ((by rw [hg]; exact Nat.ne_of_lt (blk_lt (g := gb189) (o := .cells #[.int .i64 a1_0, .int .i64 a1_1, .int .i64 a1_2] 30 (0, 0)) (Lam.bq BK189.out)) : gb189 ≠ gb235))
              have n16_ := Aside0.mk ((by rw [hg]; exact Nat.ne_of_gt (blk_lt (g := gb189) (o := .cells #[.int .i64 a1_0, .int .i64 a1_1, .int .i64 a1_2] 30 (0, 0)) (Lam.bq BK189.out)) : gb235 ≠ gb189))
              have n17_ := Aside0.mk ((by rw [hg]; exact Nat.ne_of_lt (blk_lt (g := gb201) (o := .cells #[.slice Ao29 t197.length co29] 42 (0, 0)) (Lam.bq BK201.out)) : gb201 ≠ gb235))
              have n18_ := Aside0.mk ((by rw [hg]; exact Nat.ne_of_gt (blk_lt (g := gb201) (o := .cells #[.slice Ao29 t197.length co29] 42 (0, 0)) (Lam.bq BK201.out)) : gb235 ≠ gb201))
              have n19_ := Aside0.mk ((by rw [hg]; exact Nat.ne_of_lt (blk_lt (g := gb205) (o := .cells #[.slice Ao35 t220.length co35] 42 (0, 0)) (Lam.bq BK205.out)) : gb205 ≠ gb235))
              have n20_ := Aside0.mk ((by rw [hg]; exact Nat.ne_of_gt (blk_lt (g := gb205) (o := .cells #[.slice Ao35 t220.length co35] 42 (0, 0)) (Lam.bq BK205.out)) : gb235 ≠ gb205))
              have n21_ := Aside0.mk ((by rw [hg]; exact Nat.ne_of_lt (blk_lt (g := gb213) (o := .cells #[.slice Ao46 t209.length co46] 42 (0, 0)) (Lam.bq BK213.out)) : gb213 ≠ gb235))
              have n22_ := Aside0.mk ((by rw [hg]; exact Nat.ne_of_gt (blk_lt (g := gb213) (o := .cells #[.slice Ao46 t209.length co46] 42 (0, 0)) (Lam.bq BK213.out)) : gb235 ≠ gb213))
              clear HO_202000
              clear HO_206000
              clear HO_214000
              clear HO227
              clear BK188
              clear BK189
              clear BK201
              clear BK205
              clear BK213
              clear HB
              have HO_202000 := n0_
              have HO_206000 := n1_
              have HO_214000 := n2_
              have HO227 := n3_
              have BK188 := n4_
              have BK189 := n5_
              have BK201 := n6_
              have BK205 := n7_
              have BK213 := n8_
              have HB := n9_
              have BK235 := n10_
              have GW235 := n11_
              have GE235 := n12_
              have NB188_235 := n13_
              have NB235_188 := n14_
              have NB189_235 := n15_
              have NB235_189 := n16_
              have NB201_235 := n17_
              have NB235_201 := n18_
              have NB205_235 := n19_
              have NB235_205 := n20_
              have NB213_235 := n21_
              have NB235_213 := n22_
              clear n0_ n1_ n2_ n3_ n4_ n5_ n6_ n7_ n8_ n9_ n10_ n11_ n12_ n13_ n14_ n15_ n16_ n17_ n18_ n19_ n20_ n21_ n22_
              clear hb hbox hg
              refine hK.out _ _ ⟨(blk_cell BK188.out 0).trans rfl, (blk_cell BK189.out 0).trans rfl, (blk_cell BK189.out 1).trans rfl, (blk_cell BK189.out 2).trans rfl⟩ (fun hHeld => ?_)
              clear hK K
              refine norm_ (a' := ?_) ?_ ?_
              rotate_left
              ·show Act.put _ (some 14) _ = _
               simp only [Act.put, List.setIfInBounds_toArray, List.set_cons_zero, List.set_cons_succ, i64_w, i32_w]
               rfl
              refine one_ (i := 3) (N := some 83) #[true, true, true, true, false, false, false, false, true, false, false] rfl rfl (one_of HT_.out (by kernel_rfl)) (by decide) (fun K hK => ?_)
              refine goes_ Try.func17 (by kernel_rfl) rfl #[.agg #[.int .i64 a1_0, .int .i64 a1_1, .int .i64 a1_2]] (by rfl) rfl rfl (by (try simp only [List.map_toArray, List.map_cons, List.map_nil]); first | done | rfl | (simp only [List.length_drop, List.length_take]; rfl)) ?_
              with_reducible refine (laws_toClue.calls a1_0 a1_1 a1_2 t228 t229 t230 _ A115.out).mono ?_
              rintro e w129 ⟨rfl, hb⟩
              refine ⟨_, rfl, ?_⟩
              have n0_ := Aside0.mk (Kd.R_below (by (with_reducible repeat (first | apply Kd.R_alloc | apply Kd.R_drewN | apply Kd.R_drew)); exact HO_202000.out) hb)
              have n1_ := Aside0.mk (Kd.R_below (by (with_reducible repeat (first | apply Kd.R_alloc | apply Kd.R_drewN | apply Kd.R_drew)); exact HO_206000.out) hb)
              have n2_ := Aside0.mk (Kd.R_below (by (with_reducible repeat (first | apply Kd.R_alloc | apply Kd.R_drewN | apply Kd.R_drew)); exact HO_214000.out) hb)
              have n3_ := Aside0.mk (Kd.R_below (Lam.rq HO227.out) hb)
              have n4_ := Aside0.mk (blk_below (g := gb188) (o := .cells #[.slice A0_0 l0_0.length c0_0] 37 (0, 0)) (Lam.bq BK188.out) hb)
              have n5_ := Aside0.mk (blk_below (g := gb189) (o := .cells #[.int .i64 a1_0, .int .i64 a1_1, .int .i64 a1_2] 30 (0, 0)) (Lam.bq BK189.out) hb)
              have n6_ := Aside0.mk (blk_below (g := gb201) (o := .cells #[.slice Ao29 t197.length co29] 42 (0, 0)) (Lam.bq BK201.out) hb)
              have n7_ := Aside0.mk (blk_below (g := gb205) (o := .cells #[.slice Ao35 t220.length co35] 42 (0, 0)) (Lam.bq BK205.out) hb)
              have n8_ := Aside0.mk (blk_below (g := gb213) (o := .cells #[.slice Ao46 t209.length co46] 42 (0, 0)) (Lam.bq BK213.out) hb)
              have n9_ := Aside0.mk (blk_below (g := gb235) (o := .cells #[.slice none 0 0] 42 (0, 0)) (Lam.bq BK235.out) hb)
              have n10_ := Aside0.mk (below_step Lam.al hb)
              clear HO_202000
              clear HO_206000
              clear HO_214000
              clear HO227
              clear BK188
              clear BK189
              clear BK201
              clear BK205
              clear BK213
              clear BK235
              clear HB
              have HO_202000 := n0_
              have HO_206000 := n1_
              have HO_214000 := n2_
              have HO227 := n3_
              have BK188 := n4_
              have BK189 := n5_
              have BK201 := n6_
              have BK205 := n7_
              have BK213 := n8_
              have BK235 := n9_
              have HB := n10_
              clear n0_ n1_ n2_ n3_ n4_ n5_ n6_ n7_ n8_ n9_ n10_
              (try clear hb)
              (try clear hb2)
              (try clear hk)
              (try clear hi)
              obtain ⟨Ao130, co130, eo130⟩ := Kd.R_slice HO227.out
              (first | subst eo130 | (injection eo130 with f1_ f2_ f3_; have f4_ := f1_.symm; have f5_ := f3_.symm; clear f1_ f2_ f3_; subst f4_; subst f5_))
              refine hK.out _ _ ⟨(blk_cell BK188.out 0).trans rfl, (blk_cell BK189.out 0).trans rfl, (blk_cell BK189.out 1).trans rfl, (blk_cell BK189.out 2).trans rfl⟩ (fun hHeld => ?_)
              clear hK K
              refine norm_ (a' := ?_) ?_ ?_
              rotate_left
              ·show Act.put _ (some 83) _ = _
               simp only [Act.put, List.setIfInBounds_toArray, List.set_cons_zero, List.set_cons_succ, i64_w, i32_w]
               rfl
              refine one_ (i := 4) (N := some 84) #[true, true, true, true, true, false, false, false, true, false, false] rfl rfl (one_of HT_.out (by kernel_rfl)) (by decide) (fun K hK => ?_)
              refine goes_ Try.func39 (by kernel_rfl) rfl #[.agg #[.slice Ao130 t225.length co130], .agg #[.int .i64 t228, .int .i64 t229, .int .i64 t230]] (by rfl) rfl rfl (by (try simp only [List.map_toArray, List.map_cons, List.map_nil]); first | done | rfl | (simp only [List.length_drop, List.length_take]; rfl)) ?_
              with_reducible refine (impl_AddClue.calls _ _ t225 t228 t229 t230 t231 t234 _ ?side1 ?side2 A116.out).mono ?_
              (case side1 => repeat (first | exact (Kd.R_reads' HO227.out).2.2 | (with_reducible refine Kd.C_alloc ?_ _) | (with_reducible refine Kd.C_drewN ?_ _) | (with_reducible refine Kd.C_drew ?_)))
              (case side2 => exact (Kd.R_reads' HO227.out).2.1)
              rintro e w131 ⟨v232, rfl, ho0, hb⟩
              refine ⟨_, rfl, ?_⟩
              have n0_ := Aside0.mk (Kd.R_elder' (by (with_reducible repeat (first | apply Kd.R_alloc | apply Kd.R_drewN | apply Kd.R_drew)); exact HO_202000.out) (Kd.R_base ho0) hb)
              have n1_ := Aside0.mk (Kd.R_elder' (by (with_reducible repeat (first | apply Kd.R_alloc | apply Kd.R_drewN | apply Kd.R_drew)); exact HO_206000.out) (Kd.R_base ho0) hb)
              have n2_ := Aside0.mk (Kd.R_elder' (by (with_reducible repeat (first | apply Kd.R_alloc | apply Kd.R_drewN | apply Kd.R_drew)); exact HO_214000.out) (Kd.R_base ho0) hb)
              have n3_ := Aside0.mk (Kd.R_elder' (Lam.rq HO227.out) (Kd.R_base ho0) hb)
              have n4_ := Aside0.mk (Kd.R_lower (Kd.R_new' (Kd.R_new' (Kd.R_new' (Kd.R_new' ho0 (Kd.R_lt (by (with_reducible repeat (first | apply Kd.R_alloc | apply Kd.R_drewN | apply Kd.R_drew)); exact HO_202000.out))) (Kd.R_lt (by (with_reducible repeat (first | apply Kd.R_alloc | apply Kd.R_drewN | apply Kd.R_drew)); exact HO_206000.out))) (Kd.R_lt (by (with_reducible repeat (first | apply Kd.R_alloc | apply Kd.R_drewN | apply Kd.R_drew)); exact HO_214000.out))) (Kd.R_lt (Lam.rq HO227.out))) (below_size Lam.al))
              have n5_ := Aside0.mk (blk_below (g := gb188) (o := .cells #[.slice A0_0 l0_0.length c0_0] 37 (0, 0)) (Lam.bq BK188.out) hb)
              have n6_ := Aside0.mk (blk_below (g := gb189) (o := .cells #[.int .i64 a1_0, .int .i64 a1_1, .int .i64 a1_2] 30 (0, 0)) (Lam.bq BK189.out) hb)
              have n7_ := Aside0.mk (blk_below (g := gb201) (o := .cells #[.slice Ao29 t197.length co29] 42 (0, 0)) (Lam.bq BK201.out) hb)
              have n8_ := Aside0.mk (blk_below (g := gb205) (o := .cells #[.slice Ao35 t220.length co35] 42 (0, 0)) (Lam.bq BK205.out) hb)
              have n9_ := Aside0.mk (blk_below (g := gb213) (o := .cells #[.slice Ao46 t209.length co46] 42 (0, 0)) (Lam.bq BK213.out) hb)
              have n10_ := Aside0.mk (blk_below (g := gb235) (o := .cells #[.slice none 0 0] 42 (0, 0)) (Lam.bq BK235.out) hb)
              have n11_ := Aside0.mk (below_step Lam.al hb)
              clear HO_202000
              clear HO_206000
              clear HO_214000
              clear HO227
              clear BK188
              clear BK189
              clear BK201
              clear BK205
              clear BK213
              clear BK235
              clear HB
              have HO_202000 := n0_
              have HO_206000 := n1_
              have HO_214000 := n2_
              have HO227 := n3_
              have HO233 := n4_
              have BK188 := n5_
              have BK189 := n6_
              have BK201 := n7_
              have BK205 := n8_
              have BK213 := n9_
              have BK235 := n10_
              have HB := n11_
              clear n0_ n1_ n2_ n3_ n4_ n5_ n6_ n7_ n8_ n9_ n10_ n11_
              (try clear hb)
              (try clear hb2)
              (try clear hk)
              (try clear hi)
              (try clear ho0)
              refine hK.out _ _ ⟨(blk_cell BK188.out 0).trans rfl, (blk_cell BK189.out 0).trans rfl, (blk_cell BK189.out 1).trans rfl, (blk_cell BK189.out 2).trans rfl⟩ (fun hHeld => ?_)
              clear hK K
              refine norm_ (a' := ?_) ?_ ?_
              rotate_left
              ·show Act.put _ (some 84) _ = _
               simp only [Act.put, List.setIfInBounds_toArray, List.set_cons_zero, List.set_cons_succ, i64_w, i32_w]
               rfl
              refine pure_ (i := 5) (N := some 79) (v := ?_) (a' := ?_) #[true, true, true, true, true, true, false, false, true, false, false] rfl rfl (any_of HT_.out (by kernel_rfl)) (fun _ _ _ h => h) (Or.inl ⟨by rfl, ?_⟩) ?_ ?_
              rotate_left
              ·intro w'
               go_simp
               with_reducible rfl
              rotate_left
              ·simp only [Act.put, List.setIfInBounds_toArray, List.set_cons_zero, List.set_cons_succ, i64_w, i32_w]
               rfl
              refine pure_ (i := 6) (N := some 85) (v := ?_) (a' := ?_) #[true, true, true, true, true, true, true, false, true, false, false] rfl rfl (any_of HT_.out (by kernel_rfl)) (fun _ _ _ h => h) (Or.inl ⟨by rfl, ?_⟩) ?_ ?_
              rotate_left
              ·intro w'
               go_simp
               with_reducible rfl
              rotate_left
              ·simp only [Act.put, List.setIfInBounds_toArray, List.set_cons_zero, List.set_cons_succ, i64_w, i32_w]
               rfl
              refine pure_ (i := 7) (N := some 86) (v := ?_) (a' := ?_) #[true, true, true, true, true, true, true, true, true, false, false] rfl rfl (any_of HT_.out (by kernel_rfl)) (fun _ _ _ h => h) (Or.inl ⟨by rfl, ?_⟩) ?_ ?_
              rotate_left
              ·intro w'
               go_simp
               with_reducible rfl
              rotate_left
              ·simp only [Act.put, List.setIfInBounds_toArray, List.set_cons_zero, List.set_cons_succ, i64_w, i32_w]
               rfl
              exact norm_ (by simp only [putAll, Act.put, List.setIfInBounds_toArray, List.set_cons_zero, List.set_cons_succ]) (hCont (.slice Ao130 t225.length co130, v232, gb235) _ ⟨hHeld, (by (with_reducible repeat (first | apply Kd.R_alloc | apply Kd.R_drewN | apply Kd.R_drew)); exact Kd.R_mono HO227.out (fun _ hk => ⟨hk.2, ⟨hk.1.1.1.2, ⟨hk.1.1.2, hk.1.2⟩⟩⟩)), (by (with_reducible repeat (first | apply Kd.R_alloc | apply Kd.R_drewN | apply Kd.R_drew)); exact Kd.R_mono HO233.out (fun _ hk => ⟨hk.2, ⟨hk.1.1.1.2, ⟨hk.1.1.2, hk.1.2⟩⟩⟩)), (by (with_reducible repeat (first | apply Kd.R_alloc | apply Kd.R_drewN | apply Kd.R_drew)); exact Kd.R_mono HO_202000.out (fun _ hk => ⟨hk.1.2, ⟨hk.2, ⟨hk.1.1.1, hk.1.1.2⟩⟩⟩)), (by (with_reducible repeat (first | apply Kd.R_alloc | apply Kd.R_drewN | apply Kd.R_drew)); exact Kd.R_mono HO_206000.out (fun _ hk => ⟨hk.1.2, ⟨hk.2, ⟨hk.1.1.1, hk.1.1.2⟩⟩⟩)), (by (with_reducible repeat (first | apply Kd.R_alloc | apply Kd.R_drewN | apply Kd.R_drew)); exact Kd.R_mono HO_214000.out (fun _ hk => ⟨hk.1.2, ⟨hk.2, ⟨hk.1.1.1, hk.1.1.2⟩⟩⟩)), (Lam.bq BK188.out), (Lam.bq BK189.out), (Lam.bq BK201.out), (Lam.bq BK205.out), (Lam.bq BK213.out), (Lam.bq BK235.out), GW235.out, GE235.out, NB188_235.out, NB235_188.out, NB189_235.out, NB235_189.out, NB201_235.out, NB235_201.out, NB205_235.out, NB235_205.out, NB213_235.out, NB235_213.out, Lam.al⟩)
            ·skip
             refine box_step ?hg (N := 14) ?hd (cs := #[.slice none 0 0]) (t := 42) ?hr ?_; (case hd => rfl); (case hg => rfl); (case hr => first | (go_simp; done) | (go_simp; rfl))
             intro gb235 hg w127 hbox hb
             have n0_ := Aside0.mk (Kd.R_below (by (with_reducible repeat (first | apply Kd.R_alloc | apply Kd.R_drewN | apply Kd.R_drew)); exact HO_202000.out) hb)
             have n1_ := Aside0.mk (Kd.R_below (by (with_reducible repeat (first | apply Kd.R_alloc | apply Kd.R_drewN | apply Kd.R_drew)); exact HO_206000.out) hb)
             have n2_ := Aside0.mk (Kd.R_below (by (with_reducible repeat (first | apply Kd.R_alloc | apply Kd.R_drewN | apply Kd.R_drew)); exact HO_214000.out) hb)
             have n3_ := Aside0.mk (blk_below (g := gb188) (o := .cells #[.slice A0_0 l0_0.length c0_0] 37 (0, 0)) (Lam.bq BK188.out) hb)
             have n4_ := Aside0.mk (blk_below (g := gb189) (o := .cells #[.int .i64 a1_0, .int .i64 a1_1, .int .i64 a1_2] 30 (0, 0)) (Lam.bq BK189.out) hb)
             have n5_ := Aside0.mk (blk_below (g := gb201) (o := .cells #[.slice Ao29 t197.length co29] 42 (0, 0)) (Lam.bq BK201.out) hb)
             have n6_ := Aside0.mk (blk_below (g := gb205) (o := .cells #[.slice Ao35 t220.length co35] 42 (0, 0)) (Lam.bq BK205.out) hb)
             have n7_ := Aside0.mk (blk_below (g := gb213) (o := .cells #[.slice Ao46 t209.length co46] 42 (0, 0)) (Lam.bq BK213.out) hb)
             have n8_ := Aside0.mk (below_step Lam.al hb)
             have n9_ := Aside0.mk (hbox)
             have n10_ := Aside0.mk ((by rw [hg]; exact (below_size Lam.al) : w.heap.size ≤ gb235))
             have n11_ := Aside0.mk ((by rw [hg]; exact (below_size Lam.al) : w.heap.size ≤ gb235))
             have n12_ := Aside0.mk ((by rw [hg]; exact Nat.ne_of_lt (blk_lt (g := gb188) (o := .cells #[.slice A0_0 l0_0.length c0_0] 37 (0, 0)) (Lam.bq BK188.out)) : gb188 ≠ gb235))
             have n13_ := Aside0.mk ((by rw [hg]; exact Nat.ne_of_gt (blk_lt (g := gb188) (o := .cells #[.slice A0_0 l0_0.length c0_0] 37 (0, 0)) (Lam.bq BK188.out)) : gb235 ≠ gb188))
             have n14_ := Aside0.mk ((by rw [hg]; exact Nat.ne_of_lt (blk_lt (g := gb189) (o := .cells #[.int .i64 a1_0, .int .i64 a1_1, .int .i64 a1_2] 30 (0, 0)) (Lam.bq BK189.out)) : gb189 ≠ gb235))
             have n15_ := Aside0.mk ((by rw [hg]; exact Nat.ne_of_gt (blk_lt (g := gb189) (o := .cells #[.int .i64 a1_0, .int .i64 a1_1, .int .i64 a1_2] 30 (0, 0)) (Lam.bq BK189.out)) : gb235 ≠ gb189))
             have n16_ := Aside0.mk ((by rw [hg]; exact Nat.ne_of_lt (blk_lt (g := gb201) (o := .cells #[.slice Ao29 t197.length co29] 42 (0, 0)) (Lam.bq BK201.out)) : gb201 ≠ gb235))
             have n17_ := Aside0.mk ((by rw [hg]; exact Nat.ne_of_gt (blk_lt (g := gb201) (o := .cells #[.slice Ao29 t197.length co29] 42 (0, 0)) (Lam.bq BK201.out)) : gb235 ≠ gb201))
             have n18_ := Aside0.mk ((by rw [hg]; exact Nat.ne_of_lt (blk_lt (g := gb205) (o := .cells #[.slice Ao35 t220.length co35] 42 (0, 0)) (Lam.bq BK205.out)) : gb205 ≠ gb235))
             have n19_ := Aside0.mk ((by rw [hg]; exact Nat.ne_of_gt (blk_lt (g := gb205) (o := .cells #[.slice Ao35 t220.length co35] 42 (0, 0)) (Lam.bq BK205.out)) : gb235 ≠ gb205))
             have n20_ := Aside0.mk ((by rw [hg]; exact Nat.ne_of_lt (blk_lt (g := gb213) (o := .cells #[.slice Ao46 t209.length co46] 42 (0, 0)) (Lam.bq BK213.out)) : gb213 ≠ gb235))
             have n21_ := Aside0.mk ((by rw [hg]; exact Nat.ne_of_gt (blk_lt (g := gb213) (o := .cells #[.slice Ao46 t209.length co46] 42 (0, 0)) (Lam.bq BK213.out)) : gb235 ≠ gb213))
             clear HO_202000
             clear HO_206000
             clear HO_214000
             clear BK188
             clear BK189
             clear BK201
             clear BK205
             clear BK213
             clear HB
             have HO_202000 := n0_
             have HO_206000 := n1_
             have HO_214000 := n2_
             have BK188 := n3_
             have BK189 := n4_
             have BK201 := n5_
             have BK205 := n6_
             have BK213 := n7_
             have HB := n8_
             have BK235 := n9_
             have GW235 := n10_
             have GE235 := n11_
             have NB188_235 := n12_
             have NB235_188 := n13_
             have NB189_235 := n14_
             have NB235_189 := n15_
             have NB201_235 := n16_
             have NB235_201 := n17_
             have NB205_235 := n18_
             have NB235_205 := n19_
             have NB213_235 := n20_
             have NB235_213 := n21_
             clear n0_ n1_ n2_ n3_ n4_ n5_ n6_ n7_ n8_ n9_ n10_ n11_ n12_ n13_ n14_ n15_ n16_ n17_ n18_ n19_ n20_ n21_
             clear hb hbox hg
             refine hK.out _ _ ⟨(blk_cell BK188.out 0).trans rfl, (blk_cell BK189.out 0).trans rfl, (blk_cell BK189.out 1).trans rfl, (blk_cell BK189.out 2).trans rfl⟩ (fun hHeld => ?_)
             clear hK K
             refine norm_ (a' := ?_) ?_ ?_
             rotate_left
             ·show Act.put _ (some 14) _ = _
              simp only [Act.put, List.setIfInBounds_toArray, List.set_cons_zero, List.set_cons_succ, i64_w, i32_w]
              rfl
             refine one_ (i := 1) (N := some 81) #[true, true, true, false, false, false, false, false, true, false, false] rfl rfl (one_of HT_.out (by kernel_rfl)) (by decide) (fun K hK => ?_)
             refine goes_ Try.func21 (by kernel_rfl) rfl #[.agg #[.slice A0_0 l0_0.length c0_0]] (by rfl) rfl rfl (by (try simp only [List.map_toArray, List.map_cons, List.map_nil]); first | done | rfl | (simp only [List.length_drop, List.length_take]; rfl)) ?_
             with_reducible refine (laws_toPuzzle.calls kj74 _ _ l0_0 t225 _ ?side1 ?side2 A114.out).mono ?_
             (case side1 => repeat (first | exact (Kd.C_below HR0_0.out HB.out) | (with_reducible refine Kd.C_alloc ?_ _) | (with_reducible refine Kd.C_drewN ?_ _) | (with_reducible refine Kd.C_drew ?_)))
             (case side2 => exact HC0_0.out)
             rintro e w128 ⟨v226, rfl, ho0, hb⟩
             refine ⟨_, rfl, ?_⟩
             have n0_ := Aside0.mk (Kd.R_elder' (by (with_reducible repeat (first | apply Kd.R_alloc | apply Kd.R_drewN | apply Kd.R_drew)); exact HO_202000.out) (Kd.R_base ho0) hb)
             have n1_ := Aside0.mk (Kd.R_elder' (by (with_reducible repeat (first | apply Kd.R_alloc | apply Kd.R_drewN | apply Kd.R_drew)); exact HO_206000.out) (Kd.R_base ho0) hb)
             have n2_ := Aside0.mk (Kd.R_elder' (by (with_reducible repeat (first | apply Kd.R_alloc | apply Kd.R_drewN | apply Kd.R_drew)); exact HO_214000.out) (Kd.R_base ho0) hb)
             have n3_ := Aside0.mk (Kd.R_lower (Kd.R_new' (Kd.R_new' (Kd.R_new' ho0 (Kd.R_lt (by (with_reducible repeat (first | apply Kd.R_alloc | apply Kd.R_drewN | apply Kd.R_drew)); exact HO_202000.out))) (Kd.R_lt (by (with_reducible repeat (first | apply Kd.R_alloc | apply Kd.R_drewN | apply Kd.R_drew)); exact HO_206000.out))) (Kd.R_lt (by (with_reducible repeat (first | apply Kd.R_alloc | apply Kd.R_drewN | apply Kd.R_drew)); exact HO_214000.out))) (below_size Lam.al))
             have n4_ := Aside0.mk (blk_below (g := gb188) (o := .cells #[.slice A0_0 l0_0.length c0_0] 37 (0, 0)) (Lam.bq BK188.out) hb)
             have n5_ := Aside0.mk (blk_below (g := gb189) (o := .cells #[.int .i64 a1_0, .int .i64 a1_1, .int .i64 a1_2] 30 (0, 0)) (Lam.bq BK189.out) hb)
             have n6_ := Aside0.mk (blk_below (g := gb201) (o := .cells #[.slice Ao29 t197.length co29] 42 (0, 0)) (Lam.bq BK201.out) hb)
             have n7_ := Aside0.mk (blk_below (g := gb205) (o := .cells #[.slice Ao35 t220.length co35] 42 (0, 0)) (Lam.bq BK205.out) hb)
             have n8_ := Aside0.mk (blk_below (g := gb213) (o := .cells #[.slice Ao46 t209.length co46] 42 (0, 0)) (Lam.bq BK213.out) hb)
             have n9_ := Aside0.mk (blk_below (g := gb235) (o := .cells #[.slice none 0 0] 42 (0, 0)) (Lam.bq BK235.out) hb)
             have n10_ := Aside0.mk (below_step Lam.al hb)
             clear HO_202000
             clear HO_206000
             clear HO_214000
             clear BK188
             clear BK189
             clear BK201
             clear BK205
             clear BK213
             clear BK235
             clear HB
             have HO_202000 := n0_
             have HO_206000 := n1_
             have HO_214000 := n2_
             have HO227 := n3_
             have BK188 := n4_
             have BK189 := n5_
             have BK201 := n6_
             have BK205 := n7_
             have BK213 := n8_
             have BK235 := n9_
             have HB := n10_
             clear n0_ n1_ n2_ n3_ n4_ n5_ n6_ n7_ n8_ n9_ n10_
             (try clear hb)
             (try clear hb2)
             (try clear hk)
             (try clear hi)
             (try clear ho0)
             refine hK.out _ _ ⟨(blk_cell BK188.out 0).trans rfl, (blk_cell BK189.out 0).trans rfl, (blk_cell BK189.out 1).trans rfl, (blk_cell BK189.out 2).trans rfl⟩ (fun hHeld => ?_)
             clear hK K
             refine norm_ (a' := ?_) ?_ ?_
             rotate_left
             ·show Act.put _ (some 81) _ = _
              simp only [Act.put, List.setIfInBounds_toArray, List.set_cons_zero, List.set_cons_succ, i64_w, i32_w]
              rfl
             refine one_ (i := 3) (N := some 83) #[true, true, true, true, false, false, false, false, true, false, false] rfl rfl (one_of HT_.out (by kernel_rfl)) (by decide) (fun K hK => ?_)
             refine goes_ Try.func17 (by kernel_rfl) rfl #[.agg #[.int .i64 a1_0, .int .i64 a1_1, .int .i64 a1_2]] (by rfl) rfl rfl (by (try simp only [List.map_toArray, List.map_cons, List.map_nil]); first | done | rfl | (simp only [List.length_drop, List.length_take]; rfl)) ?_
             with_reducible refine (laws_toClue.calls a1_0 a1_1 a1_2 t228 t229 t230 _ A115.out).mono ?_
             rintro e w129 ⟨rfl, hb⟩
             refine ⟨_, rfl, ?_⟩
             have n0_ := Aside0.mk (Kd.R_below (by (with_reducible repeat (first | apply Kd.R_alloc | apply Kd.R_drewN | apply Kd.R_drew)); exact HO_202000.out) hb)
             have n1_ := Aside0.mk (Kd.R_below (by (with_reducible repeat (first | apply Kd.R_alloc | apply Kd.R_drewN | apply Kd.R_drew)); exact HO_206000.out) hb)
             have n2_ := Aside0.mk (Kd.R_below (by (with_reducible repeat (first | apply Kd.R_alloc | apply Kd.R_drewN | apply Kd.R_drew)); exact HO_214000.out) hb)
             have n3_ := Aside0.mk (Kd.R_below (Lam.rq HO227.out) hb)
             have n4_ := Aside0.mk (blk_below (g := gb188) (o := .cells #[.slice A0_0 l0_0.length c0_0] 37 (0, 0)) (Lam.bq BK188.out) hb)
             have n5_ := Aside0.mk (blk_below (g := gb189) (o := .cells #[.int .i64 a1_0, .int .i64 a1_1, .int .i64 a1_2] 30 (0, 0)) (Lam.bq BK189.out) hb)
             have n6_ := Aside0.mk (blk_below (g := gb201) (o := .cells #[.slice Ao29 t197.length co29] 42 (0, 0)) (Lam.bq BK201.out) hb)
             have n7_ := Aside0.mk (blk_below (g := gb205) (o := .cells #[.slice Ao35 t220.length co35] 42 (0, 0)) (Lam.bq BK205.out) hb)
             have n8_ := Aside0.mk (blk_below (g := gb213) (o := .cells #[.slice Ao46 t209.length co46] 42 (0, 0)) (Lam.bq BK213.out) hb)
             have n9_ := Aside0.mk (blk_below (g := gb235) (o := .cells #[.slice none 0 0] 42 (0, 0)) (Lam.bq BK235.out) hb)
             have n10_ := Aside0.mk (below_step Lam.al hb)
             clear HO_202000
             clear HO_206000
             clear HO_214000
             clear HO227
             clear BK188
             clear BK189
             clear BK201
             clear BK205
             clear BK213
             clear BK235
             clear HB
             have HO_202000 := n0_
             have HO_206000 := n1_
             have HO_214000 := n2_
             have HO227 := n3_
             have BK188 := n4_
             have BK189 := n5_
             have BK201 := n6_
             have BK205 := n7_
             have BK213 := n8_
             have BK235 := n9_
             have HB := n10_
             clear n0_ n1_ n2_ n3_ n4_ n5_ n6_ n7_ n8_ n9_ n10_
             (try clear hb)
             (try clear hb2)
             (try clear hk)
             (try clear hi)
             obtain ⟨Ao130, co130, eo130⟩ := Kd.R_slice HO227.out
             (first | subst eo130 | (injection eo130 with f1_ f2_ f3_; have f4_ := f1_.symm; have f5_ := f3_.symm; clear f1_ f2_ f3_; subst f4_; subst f5_))
             refine hK.out _ _ ⟨(blk_cell BK188.out 0).trans rfl, (blk_cell BK189.out 0).trans rfl, (blk_cell BK189.out 1).trans rfl, (blk_cell BK189.out 2).trans rfl⟩ (fun hHeld => ?_)
             clear hK K
             refine norm_ (a' := ?_) ?_ ?_
             rotate_left
             ·show Act.put _ (some 83) _ = _
              simp only [Act.put, List.setIfInBounds_toArray, List.set_cons_zero, List.set_cons_succ, i64_w, i32_w]
              rfl
             refine one_ (i := 4) (N := some 84) #[true, true, true, true, true, false, false, false, true, false, false] rfl rfl (one_of HT_.out (by kernel_rfl)) (by decide) (fun K hK => ?_)
             refine goes_ Try.func39 (by kernel_rfl) rfl #[.agg #[.slice Ao130 t225.length co130], .agg #[.int .i64 t228, .int .i64 t229, .int .i64 t230]] (by rfl) rfl rfl (by (try simp only [List.map_toArray, List.map_cons, List.map_nil]); first | done | rfl | (simp only [List.length_drop, List.length_take]; rfl)) ?_
             with_reducible refine (impl_AddClue.calls _ _ t225 t228 t229 t230 t231 t234 _ ?side1 ?side2 A116.out).mono ?_
             (case side1 => repeat (first | exact (Kd.R_reads' HO227.out).2.2 | (with_reducible refine Kd.C_alloc ?_ _) | (with_reducible refine Kd.C_drewN ?_ _) | (with_reducible refine Kd.C_drew ?_)))
             (case side2 => exact (Kd.R_reads' HO227.out).2.1)
             rintro e w131 ⟨v232, rfl, ho0, hb⟩
             refine ⟨_, rfl, ?_⟩
             have n0_ := Aside0.mk (Kd.R_elder' (by (with_reducible repeat (first | apply Kd.R_alloc | apply Kd.R_drewN | apply Kd.R_drew)); exact HO_202000.out) (Kd.R_base ho0) hb)
             have n1_ := Aside0.mk (Kd.R_elder' (by (with_reducible repeat (first | apply Kd.R_alloc | apply Kd.R_drewN | apply Kd.R_drew)); exact HO_206000.out) (Kd.R_base ho0) hb)
             have n2_ := Aside0.mk (Kd.R_elder' (by (with_reducible repeat (first | apply Kd.R_alloc | apply Kd.R_drewN | apply Kd.R_drew)); exact HO_214000.out) (Kd.R_base ho0) hb)
             have n3_ := Aside0.mk (Kd.R_elder' (Lam.rq HO227.out) (Kd.R_base ho0) hb)
             have n4_ := Aside0.mk (Kd.R_lower (Kd.R_new' (Kd.R_new' (Kd.R_new' (Kd.R_new' ho0 (Kd.R_lt (by (with_reducible repeat (first | apply Kd.R_alloc | apply Kd.R_drewN | apply Kd.R_drew)); exact HO_202000.out))) (Kd.R_lt (by (with_reducible repeat (first | apply Kd.R_alloc | apply Kd.R_drewN | apply Kd.R_drew)); exact HO_206000.out))) (Kd.R_lt (by (with_reducible repeat (first | apply Kd.R_alloc | apply Kd.R_drewN | apply Kd.R_drew)); exact HO_214000.out))) (Kd.R_lt (Lam.rq HO227.out))) (below_size Lam.al))
             have n5_ := Aside0.mk (blk_below (g := gb188) (o := .cells #[.slice A0_0 l0_0.length c0_0] 37 (0, 0)) (Lam.bq BK188.out) hb)
             have n6_ := Aside0.mk (blk_below (g := gb189) (o := .cells #[.int .i64 a1_0, .int .i64 a1_1, .int .i64 a1_2] 30 (0, 0)) (Lam.bq BK189.out) hb)
             have n7_ := Aside0.mk (blk_below (g := gb201) (o := .cells #[.slice Ao29 t197.length co29] 42 (0, 0)) (Lam.bq BK201.out) hb)
             have n8_ := Aside0.mk (blk_below (g := gb205) (o := .cells #[.slice Ao35 t220.length co35] 42 (0, 0)) (Lam.bq BK205.out) hb)
             have n9_ := Aside0.mk (blk_below (g := gb213) (o := .cells #[.slice Ao46 t209.length co46] 42 (0, 0)) (Lam.bq BK213.out) hb)
             have n10_ := Aside0.mk (blk_below (g := gb235) (o := .cells #[.slice none 0 0] 42 (0, 0)) (Lam.bq BK235.out) hb)
             have n11_ := Aside0.mk (below_step Lam.al hb)
             clear HO_202000
             clear HO_206000
             clear HO_214000
             clear HO227
             clear BK188
             clear BK189
             clear BK201
             clear BK205
             clear BK213
             clear BK235
             clear HB
             have HO_202000 := n0_
             have HO_206000 := n1_
             have HO_214000 := n2_
             have HO227 := n3_
             have HO233 := n4_
             have BK188 := n5_
             have BK189 := n6_
             have BK201 := n7_
             have BK205 := n8_
             have BK213 := n9_
             have BK235 := n10_
             have HB := n11_
             clear n0_ n1_ n2_ n3_ n4_ n5_ n6_ n7_ n8_ n9_ n10_ n11_
             (try clear hb)
             (try clear hb2)
             (try clear hk)
             (try clear hi)
             (try clear ho0)
             refine hK.out _ _ ⟨(blk_cell BK188.out 0).trans rfl, (blk_cell BK189.out 0).trans rfl, (blk_cell BK189.out 1).trans rfl, (blk_cell BK189.out 2).trans rfl⟩ (fun hHeld => ?_)
             clear hK K
             refine norm_ (a' := ?_) ?_ ?_
             rotate_left
             ·show Act.put _ (some 84) _ = _
              simp only [Act.put, List.setIfInBounds_toArray, List.set_cons_zero, List.set_cons_succ, i64_w, i32_w]
              rfl
             refine pure_ (i := 5) (N := some 79) (v := ?_) (a' := ?_) #[true, true, true, true, true, true, false, false, true, false, false] rfl rfl (any_of HT_.out (by kernel_rfl)) (fun _ _ _ h => h) (Or.inl ⟨by rfl, ?_⟩) ?_ ?_
             rotate_left
             ·intro w'
              go_simp
              with_reducible rfl
             rotate_left
             ·simp only [Act.put, List.setIfInBounds_toArray, List.set_cons_zero, List.set_cons_succ, i64_w, i32_w]
              rfl
             refine pure_ (i := 6) (N := some 85) (v := ?_) (a' := ?_) #[true, true, true, true, true, true, true, false, true, false, false] rfl rfl (any_of HT_.out (by kernel_rfl)) (fun _ _ _ h => h) (Or.inl ⟨by rfl, ?_⟩) ?_ ?_
             rotate_left
             ·intro w'
              go_simp
              with_reducible rfl
             rotate_left
             ·simp only [Act.put, List.setIfInBounds_toArray, List.set_cons_zero, List.set_cons_succ, i64_w, i32_w]
              rfl
             refine pure_ (i := 7) (N := some 86) (v := ?_) (a' := ?_) #[true, true, true, true, true, true, true, true, true, false, false] rfl rfl (any_of HT_.out (by kernel_rfl)) (fun _ _ _ h => h) (Or.inl ⟨by rfl, ?_⟩) ?_ ?_
             rotate_left
             ·intro w'
              go_simp
              with_reducible rfl
             rotate_left
             ·simp only [Act.put, List.setIfInBounds_toArray, List.set_cons_zero, List.set_cons_succ, i64_w, i32_w]
              rfl
             exact norm_ (by simp only [putAll, Act.put, List.setIfInBounds_toArray, List.set_cons_zero, List.set_cons_succ]) (hCont (.slice Ao130 t225.length co130, v232, gb235) _ ⟨hHeld, (by (with_reducible repeat (first | apply Kd.R_alloc | apply Kd.R_drewN | apply Kd.R_drew)); exact Kd.R_mono HO227.out (fun _ hk => ⟨hk.2, ⟨hk.1.1.1.2, ⟨hk.1.1.2, hk.1.2⟩⟩⟩)), (by (with_reducible repeat (first | apply Kd.R_alloc | apply Kd.R_drewN | apply Kd.R_drew)); exact Kd.R_mono HO233.out (fun _ hk => ⟨hk.2, ⟨hk.1.1.1.2, ⟨hk.1.1.2, hk.1.2⟩⟩⟩)), (by (with_reducible repeat (first | apply Kd.R_alloc | apply Kd.R_drewN | apply Kd.R_drew)); exact Kd.R_mono HO_202000.out (fun _ hk => ⟨hk.1.2, ⟨hk.2, ⟨hk.1.1.1, hk.1.1.2⟩⟩⟩)), (by (with_reducible repeat (first | apply Kd.R_alloc | apply Kd.R_drewN | apply Kd.R_drew)); exact Kd.R_mono HO_206000.out (fun _ hk => ⟨hk.1.2, ⟨hk.2, ⟨hk.1.1.1, hk.1.1.2⟩⟩⟩)), (by (with_reducible repeat (first | apply Kd.R_alloc | apply Kd.R_drewN | apply Kd.R_drew)); exact Kd.R_mono HO_214000.out (fun _ hk => ⟨hk.1.2, ⟨hk.2, ⟨hk.1.1.1, hk.1.1.2⟩⟩⟩)), (Lam.bq BK188.out), (Lam.bq BK189.out), (Lam.bq BK201.out), (Lam.bq BK205.out), (Lam.bq BK213.out), (Lam.bq BK235.out), GW235.out, GE235.out, NB188_235.out, NB235_188.out, NB189_235.out, NB235_189.out, NB201_235.out, NB235_201.out, NB205_235.out, NB235_205.out, NB213_235.out, NB235_213.out, Lam.al⟩)
           rintro ⟨v226, v232, gb235⟩ w132 ⟨hS_, h0_, h1_, h2_, h3_, h4_, h5_, h6_, h7_, h8_, h9_, h10_, h11_, h12_, h13_, h14_, h15_, h16_, h17_, h18_, h19_, h20_, h21_, h22_, h23_⟩
           have n0_ : Aside0 (Kd.R k32 32 w132 w.heap.size (fun k_ => some k_ ≠ (v232 : Value).ownBlock ∧ some k_ ≠ (.slice Ao29 t197.length co29 : Value).ownBlock ∧ some k_ ≠ (.slice Ao35 t220.length co35 : Value).ownBlock ∧ some k_ ≠ (.slice Ao46 t209.length co46 : Value).ownBlock) v226 t225) := ⟨h0_⟩
           have n1_ : Aside0 (Kd.R k32 32 w132 w.heap.size (fun k_ => some k_ ≠ (v226 : Value).ownBlock ∧ some k_ ≠ (.slice Ao29 t197.length co29 : Value).ownBlock ∧ some k_ ≠ (.slice Ao35 t220.length co35 : Value).ownBlock ∧ some k_ ≠ (.slice Ao46 t209.length co46 : Value).ownBlock) v232 t231) := ⟨h1_⟩
           have n2_ : Aside0 (Kd.R k32 32 w132 w.heap.size (fun k_ => some k_ ≠ (v226 : Value).ownBlock ∧ some k_ ≠ (v232 : Value).ownBlock ∧ some k_ ≠ (.slice Ao35 t220.length co35 : Value).ownBlock ∧ some k_ ≠ (.slice Ao46 t209.length co46 : Value).ownBlock) (.slice Ao29 t197.length co29) t197) := ⟨h2_⟩
           have n3_ : Aside0 (Kd.R k32 32 w132 w.heap.size (fun k_ => some k_ ≠ (v226 : Value).ownBlock ∧ some k_ ≠ (v232 : Value).ownBlock ∧ some k_ ≠ (.slice Ao29 t197.length co29 : Value).ownBlock ∧ some k_ ≠ (.slice Ao46 t209.length co46 : Value).ownBlock) (.slice Ao35 t220.length co35) t220) := ⟨h3_⟩
           have n4_ : Aside0 (Kd.R k32 32 w132 w.heap.size (fun k_ => some k_ ≠ (v226 : Value).ownBlock ∧ some k_ ≠ (v232 : Value).ownBlock ∧ some k_ ≠ (.slice Ao29 t197.length co29 : Value).ownBlock ∧ some k_ ≠ (.slice Ao35 t220.length co35 : Value).ownBlock) (.slice Ao46 t209.length co46) t223) := ⟨h4_⟩
           have n5_ : Aside0 (w132.heap[gb188]? = some (.cells #[.slice A0_0 l0_0.length c0_0] 37 (0, 0))) := ⟨h5_⟩
           have n6_ : Aside0 (w132.heap[gb189]? = some (.cells #[.int .i64 a1_0, .int .i64 a1_1, .int .i64 a1_2] 30 (0, 0))) := ⟨h6_⟩
           have n7_ : Aside0 (w132.heap[gb201]? = some (.cells #[.slice Ao29 t197.length co29] 42 (0, 0))) := ⟨h7_⟩
           have n8_ : Aside0 (w132.heap[gb205]? = some (.cells #[.slice Ao35 t220.length co35] 42 (0, 0))) := ⟨h8_⟩
           have n9_ : Aside0 (w132.heap[gb213]? = some (.cells #[.slice Ao46 t209.length co46] 42 (0, 0))) := ⟨h9_⟩
           have n10_ : Aside0 (w132.heap[gb235]? = some (.cells #[.slice none 0 0] 42 (0, 0))) := ⟨h10_⟩
           have n11_ : Aside0 (w.heap.size ≤ gb235) := ⟨h11_⟩
           have n12_ : Aside0 (w.heap.size ≤ gb235) := ⟨h12_⟩
           have n13_ : Aside0 (gb188 ≠ gb235) := ⟨h13_⟩
           have n14_ : Aside0 (gb235 ≠ gb188) := ⟨h14_⟩
           have n15_ : Aside0 (gb189 ≠ gb235) := ⟨h15_⟩
           have n16_ : Aside0 (gb235 ≠ gb189) := ⟨h16_⟩
           have n17_ : Aside0 (gb201 ≠ gb235) := ⟨h17_⟩
           have n18_ : Aside0 (gb235 ≠ gb201) := ⟨h18_⟩
           have n19_ : Aside0 (gb205 ≠ gb235) := ⟨h19_⟩
           have n20_ : Aside0 (gb235 ≠ gb205) := ⟨h20_⟩
           have n21_ : Aside0 (gb213 ≠ gb235) := ⟨h21_⟩
           have n22_ : Aside0 (gb235 ≠ gb213) := ⟨h22_⟩
           have n23_ : Aside0 (Below w.heap.size w w132) := ⟨h23_⟩
           clear HO_202000
           clear HO_206000
           clear HO_214000
           clear BK188
           clear BK189
           clear BK201
           clear BK205
           clear BK213
           clear HB
           clear h0_ h1_ h2_ h3_ h4_ h5_ h6_ h7_ h8_ h9_ h10_ h11_ h12_ h13_ h14_ h15_ h16_ h17_ h18_ h19_ h20_ h21_ h22_ h23_
           have HO227 := n0_
           have HO233 := n1_
           have HO_202000 := n2_
           have HO_206000 := n3_
           have HO_214000 := n4_
           have BK188 := n5_
           have BK189 := n6_
           have BK201 := n7_
           have BK205 := n8_
           have BK213 := n9_
           have BK235 := n10_
           have GW235 := n11_
           have GE235 := n12_
           have NB188_235 := n13_
           have NB235_188 := n14_
           have NB189_235 := n15_
           have NB235_189 := n16_
           have NB201_235 := n17_
           have NB235_201 := n18_
           have NB205_235 := n19_
           have NB235_205 := n20_
           have NB213_235 := n21_
           have NB235_213 := n22_
           have HB := n23_
           clear n0_ n1_ n2_ n3_ n4_ n5_ n6_ n7_ n8_ n9_ n10_ n11_ n12_ n13_ n14_ n15_ n16_ n17_ n18_ n19_ n20_ n21_ n22_ n23_
           have hHeld : w132.cell? ⟨gb188, 0, none⟩ = some (.slice A0_0 l0_0.length c0_0) ∧ w132.cell? ⟨gb189, 0, none⟩ = some (.int .i64 a1_0) ∧ w132.cell? ⟨gb189, 1, none⟩ = some (.int .i64 a1_1) ∧ w132.cell? ⟨gb189, 2, none⟩ = some (.int .i64 a1_2) := hS_
           obtain ⟨Ao133, co133, eo133⟩ := Kd.R_slice HO233.out
           (first | subst eo133 | (injection eo133 with f1_ f2_ f3_; have f4_ := f1_.symm; have f5_ := f3_.symm; clear f1_ f2_ f3_; subst f4_; subst f5_))
           refine norm_ (a' := ?_) ?_ ?_
           rotate_left
           ·simp only [putAll, Act.put, List.setIfInBounds_toArray, List.set_cons_zero, List.set_cons_succ]
            rfl
           refine one_ (i := 9) (N := none) #[true, true, true, true, true, true, true, true, true, true, false] rfl rfl (one_of HT_.out (by kernel_rfl)) (by decide) (fun K hK => ?_)
           have hs134 : w132.cell? ⟨gb235, 0, none⟩ = some (.slice none 0 0) := (blk_cell BK235.out 0).trans rfl
           have hfs134 := blk_frozen BK235.out 0
           have hns134_0 := NB188_235.out
           have hns134_1 := NB189_235.out
           have hns134_2 := NB201_235.out
           have hns134_3 := NB205_235.out
           have hns134_4 := NB213_235.out
           have hms134_0 := NB235_188.out
           have hms134_1 := NB235_189.out
           have hms134_2 := NB235_201.out
           have hms134_3 := NB235_205.out
           have hms134_4 := NB235_213.out
           refine skip_ (w1 := ?_) (by rfl) rfl ?_ ?_
           rotate_left
           ·go_simp
            rfl
           refine hK.out _ _ ⟨((cell_far (p := ⟨gb235, _, none⟩) NB188_235.out _).trans (hHeld.1)), ((cell_far (p := ⟨gb235, _, none⟩) NB189_235.out _).trans (hHeld.2.1)), ((cell_far (p := ⟨gb235, _, none⟩) NB189_235.out _).trans (hHeld.2.2.1)), ((cell_far (p := ⟨gb235, _, none⟩) NB189_235.out _).trans (hHeld.2.2.2))⟩ (fun hHeld => ?_)
           clear hK K
           refine pure_ (i := 10) (N := some 15) (v := ?_) (a' := ?_) #[true, true, true, true, true, true, true, true, true, true, true] rfl rfl (any_of HT_.out (by kernel_rfl)) (fun _ _ _ h => h) (Or.inl ⟨by rfl, ?_⟩) ?_ ?_
           rotate_left
           ·intro w'
            go_simp
            with_reducible rfl
           rotate_left
           ·simp only [Act.put, List.setIfInBounds_toArray, List.set_cons_zero, List.set_cons_succ, i64_w, i32_w]
            rfl
           refine done_ (done_of HT_.out (by kernel_rfl)) ?_
           go_upto_region 25 with (fail)
           go_cut [95] (fun v95 wc => ∃ (kq : Nat) (x95_116 : Bool), v95 = .bool x95_116 ∧ Aside0 (laws_FnExactAddClue.j2 kq t222 x95_116 t223 = some r) ∧ Aside0 (kq ≤ kj74) ∧ Aside0 (Kd.R k32 32 wc w.heap.size (fun k_ => some k_ ≠ ((.slice Ao35 t220.length co35) : Value).ownBlock ∧ some k_ ≠ ((.slice Ao46 t209.length co46) : Value).ownBlock ∧ some k_ ≠ ((.slice Ao133 t231.length co133) : Value).ownBlock) (.slice Ao29 t197.length co29) t197) ∧ Aside0 (Kd.R k32 32 wc w.heap.size (fun k_ => some k_ ≠ ((.slice Ao29 t197.length co29) : Value).ownBlock ∧ some k_ ≠ ((.slice Ao46 t209.length co46) : Value).ownBlock ∧ some k_ ≠ ((.slice Ao133 t231.length co133) : Value).ownBlock) (.slice Ao35 t220.length co35) t220) ∧ Aside0 (Kd.R k32 32 wc w.heap.size (fun k_ => some k_ ≠ ((.slice Ao29 t197.length co29) : Value).ownBlock ∧ some k_ ≠ ((.slice Ao35 t220.length co35) : Value).ownBlock ∧ some k_ ≠ ((.slice Ao133 t231.length co133) : Value).ownBlock) (.slice Ao46 t209.length co46) t223) ∧ Aside0 (Kd.R k32 32 wc w.heap.size (fun k_ => some k_ ≠ ((.slice Ao29 t197.length co29) : Value).ownBlock ∧ some k_ ≠ ((.slice Ao35 t220.length co35) : Value).ownBlock ∧ some k_ ≠ ((.slice Ao46 t209.length co46) : Value).ownBlock) (.slice Ao133 t231.length co133) t231) ∧ Aside0 (wc.heap[gb188]? = some (.cells #[(.slice A0_0 l0_0.length c0_0)] 37 (0, 0))) ∧ Aside0 (wc.heap[gb189]? = some (.cells #[.int .i64 a1_0, .int .i64 a1_1, .int .i64 a1_2] 30 (0, 0))) ∧ Aside0 (wc.heap[gb201]? = some (.cells #[(.slice Ao29 t197.length co29)] 42 (0, 0))) ∧ Aside0 (wc.heap[gb205]? = some (.cells #[(.slice Ao35 t220.length co35)] 42 (0, 0))) ∧ Aside0 (wc.heap[gb213]? = some (.cells #[(.slice Ao46 t209.length co46)] 42 (0, 0))) ∧ Aside0 (wc.heap[gb235]? = some (.cells #[(.slice Ao133 t231.length co133)] 42 (0, 0))) ∧ Aside0 (Below w.heap.size w wc))
           case first =>
            have H := HC117.out
            clear HC117
            replace H := Option.bind_eq_some_iff.mp H
            obtain ⟨t236, A1350, H⟩ := H
            replace H : (if t236 = true then (laws_FnExactAddClue.j2 kj74 t222 (t234 != t200) t223) else (laws_FnExactAddClue.j2 kj74 t222 true t223)) = some r := H
            have A135 := Aside0.mk A1350
            clear A1350
            by_cases c136 : t236 = true
            ·subst c136
             have H1 : (laws_FnExactAddClue.j2 kj74 t222 (t234 != t200) t223) = some r := by rw [if_pos rfl] at H; exact H
             clear H
             have H := H1
             clear H1
             have H' := Aside0.mk H
             clear H
             have hnb137 := NB235_188.out
             have hnc137 := NB188_235.out
             have hnb138 := NB235_189.out
             have hnc138 := NB189_235.out
             have hnb139 := NB235_201.out
             have hnc139 := NB201_235.out
             have hnb140 := NB235_205.out
             have hnc140 := NB205_235.out
             have hnb141 := NB235_213.out
             have hnc141 := NB213_235.out
             have hcz142_0 : w132.cell? ⟨gb235, 0, none⟩ = some (.slice none 0 0) := (blk_cell BK235.out 0).trans rfl
             have hfz142_0 := blk_frozen BK235.out 0
             have hnb143 := NB201_188.out
             have hnc143 := NB188_201.out
             have hnb144 := NB201_189.out
             have hnc144 := NB189_201.out
             have hnb145 := NB201_205.out
             have hnc145 := NB205_201.out
             have hnb146 := NB201_213.out
             have hnc146 := NB213_201.out
             have hcz147_0 : w132.cell? ⟨gb201, 0, none⟩ = some (.slice Ao29 t197.length co29) := (blk_cell BK201.out 0).trans rfl
             have hfz147_0 := blk_frozen BK201.out 0
             go_wp2_with (first | ((with_reducible refine gate_callee (f := 23) rfl ?_); refine goesL_ (some 89) rfl rfl Try.func23 (by kernel_rfl) rfl #[.agg #[.slice Ao133 t231.length co133], .agg #[.slice Ao29 t197.length co29]] rfl (by (try simp only [List.map_toArray, List.map_cons, List.map_nil]); first | done | rfl | (simp only [List.length_drop, List.length_take]; rfl)) ?_; (with_reducible refine (laws_eqPuzzle.calls kj74 _ _ t231 _ _ t197 true _ ?side1 ?side2 ?side3 ?side4 A135.out).mono ?_); (case side1 => refine (Kd.R_reads' (e := 32) (base := w.heap.size) (ok := fun k_ => (some k_ ≠ (v226 : Value).ownBlock ∧ (some k_ ≠ (.slice Ao29 t197.length co29 : Value).ownBlock ∧ (some k_ ≠ (.slice Ao35 t220.length co35 : Value).ownBlock ∧ some k_ ≠ (.slice Ao46 t209.length co46 : Value).ownBlock)))) (n := t231.length) (c := co133) ?_).2.2; exact (by (with_reducible repeat (first | apply Kd.R_alloc | apply Kd.R_drewN | apply Kd.R_drew)); exact (Kd.R_mono (Kd.R_far (p := ⟨gb235, 0, none⟩) (Kd.R_types HO233.out BK235.out (by decide)) (fun _ hk => hk.2) (.slice Ao133 t231.length co133)) (fun _ h_ => h_.1)))); (case side2 => exact (Kd.R_reads' HO233.out).2.1); (case side3 => refine (Kd.R_reads' (e := 32) (base := w.heap.size) (ok := fun k_ => (some k_ ≠ (v226 : Value).ownBlock ∧ (some k_ ≠ (.slice Ao133 t231.length co133 : Value).ownBlock ∧ (some k_ ≠ (.slice Ao35 t220.length co35 : Value).ownBlock ∧ some k_ ≠ (.slice Ao46 t209.length co46 : Value).ownBlock)))) (n := t197.length) (c := co29) ?_).2.2; exact (by (with_reducible repeat (first | apply Kd.R_alloc | apply Kd.R_drewN | apply Kd.R_drew)); exact (Kd.R_mono (Kd.R_far (p := ⟨gb235, 0, none⟩) (Kd.R_types HO_202000.out BK235.out (by decide)) (fun _ hk => hk.2) (.slice Ao133 t231.length co133)) (fun _ h_ => h_.1)))); (case side4 => exact (Kd.R_reads' HO_202000.out).2.1); rintro e w148 ⟨rfl, hb⟩; refine ⟨_, rfl, ?_⟩; have n0_ := Aside0.mk (Kd.R_below (by (with_reducible repeat (first | apply Kd.R_alloc | apply Kd.R_drewN | apply Kd.R_drew)); exact (Kd.R_mono (Kd.R_far (p := ⟨gb235, 0, none⟩) (Kd.R_types HO_202000.out BK235.out (by decide)) (fun _ hk => hk.2) (.slice Ao133 t231.length co133)) (fun _ h_ => h_.1))) hb); have n1_ := Aside0.mk (Kd.R_below (by (with_reducible repeat (first | apply Kd.R_alloc | apply Kd.R_drewN | apply Kd.R_drew)); exact (Kd.R_mono (Kd.R_far (p := ⟨gb235, 0, none⟩) (Kd.R_types HO_206000.out BK235.out (by decide)) (fun _ hk => hk.2) (.slice Ao133 t231.length co133)) (fun _ h_ => h_.1))) hb); have n2_ := Aside0.mk (Kd.R_below (by (with_reducible repeat (first | apply Kd.R_alloc | apply Kd.R_drewN | apply Kd.R_drew)); exact (Kd.R_mono (Kd.R_far (p := ⟨gb235, 0, none⟩) (Kd.R_types HO_214000.out BK235.out (by decide)) (fun _ hk => hk.2) (.slice Ao133 t231.length co133)) (fun _ h_ => h_.1))) hb); have n3_ := Aside0.mk (Kd.R_below (by (with_reducible repeat (first | apply Kd.R_alloc | apply Kd.R_drewN | apply Kd.R_drew)); exact (Kd.R_mono (Kd.R_far (p := ⟨gb235, 0, none⟩) (Kd.R_types HO227.out BK235.out (by decide)) (fun _ hk => hk.2) (.slice Ao133 t231.length co133)) (fun _ h_ => h_.1))) hb); have n4_ := Aside0.mk (Kd.R_below (by (with_reducible repeat (first | apply Kd.R_alloc | apply Kd.R_drewN | apply Kd.R_drew)); exact (Kd.R_mono (Kd.R_far (p := ⟨gb235, 0, none⟩) (Kd.R_types HO233.out BK235.out (by decide)) (fun _ hk => hk.2) (.slice Ao133 t231.length co133)) (fun _ h_ => h_.1))) hb); have n5_ := Aside0.mk (blk_below (g := gb188) (o := .cells #[.slice A0_0 l0_0.length c0_0] 37 (0, 0)) (by (with_reducible repeat (first | refine blk_drewN ?_ _ | refine blk_drew ?_ | refine blk_alloc ?_ _)); refine blk_far ?_ NB188_235.out _; (with_reducible repeat (first | refine blk_drewN ?_ _ | refine blk_drew ?_ | refine blk_alloc ?_ _)); exact BK188.out) hb); have n6_ := Aside0.mk (blk_below (g := gb189) (o := .cells #[.int .i64 a1_0, .int .i64 a1_1, .int .i64 a1_2] 30 (0, 0)) (by (with_reducible repeat (first | refine blk_drewN ?_ _ | refine blk_drew ?_ | refine blk_alloc ?_ _)); refine blk_far ?_ NB189_235.out _; (with_reducible repeat (first | refine blk_drewN ?_ _ | refine blk_drew ?_ | refine blk_alloc ?_ _)); exact BK189.out) hb); have n7_ := Aside0.mk (blk_below (g := gb201) (o := .cells #[.slice Ao29 t197.length co29] 42 (0, 0)) (by (with_reducible repeat (first | refine blk_drewN ?_ _ | refine blk_drew ?_ | refine blk_alloc ?_ _)); refine blk_far ?_ NB201_235.out _; (with_reducible repeat (first | refine blk_drewN ?_ _ | refine blk_drew ?_ | refine blk_alloc ?_ _)); exact BK201.out) hb); have n8_ := Aside0.mk (blk_below (g := gb205) (o := .cells #[.slice Ao35 t220.length co35] 42 (0, 0)) (by (with_reducible repeat (first | refine blk_drewN ?_ _ | refine blk_drew ?_ | refine blk_alloc ?_ _)); refine blk_far ?_ NB205_235.out _; (with_reducible repeat (first | refine blk_drewN ?_ _ | refine blk_drew ?_ | refine blk_alloc ?_ _)); exact BK205.out) hb); have n9_ := Aside0.mk (blk_below (g := gb213) (o := .cells #[.slice Ao46 t209.length co46] 42 (0, 0)) (by (with_reducible repeat (first | refine blk_drewN ?_ _ | refine blk_drew ?_ | refine blk_alloc ?_ _)); refine blk_far ?_ NB213_235.out _; (with_reducible repeat (first | refine blk_drewN ?_ _ | refine blk_drew ?_ | refine blk_alloc ?_ _)); exact BK213.out) hb); have n10_ := Aside0.mk (blk_below (g := gb235) (o := .cells #[.slice Ao133 t231.length co133] 42 (0, 0)) (by (with_reducible repeat (first | refine blk_drewN ?_ _ | refine blk_drew ?_ | refine blk_alloc ?_ _)); refine blk_put (cs := #[.slice none 0 0]) ?_ 0 _ rfl; (with_reducible repeat (first | refine blk_drewN ?_ _ | refine blk_drew ?_ | refine blk_alloc ?_ _)); exact BK235.out) hb); have n11_ := Aside0.mk (below_step Lam.al hb); clear HO_202000; clear HO_206000; clear HO_214000; clear HO227; clear HO233; clear BK188; clear BK189; clear BK201; clear BK205; clear BK213; clear BK235; clear HB; have HO_202000 := n0_; have HO_206000 := n1_; have HO_214000 := n2_; have HO227 := n3_; have HO233 := n4_; have BK188 := n5_; have BK189 := n6_; have BK201 := n7_; have BK205 := n8_; have BK213 := n9_; have BK235 := n10_; have HB := n11_; clear n0_ n1_ n2_ n3_ n4_ n5_ n6_ n7_ n8_ n9_ n10_ n11_; (try clear hb); (try clear hb2); (try clear hk); (try clear hi)))
             go_meet
             case rel => exact ⟨_, ((t234 != t200)), (by first | rfl | (simp; done) | (simp [*]; done)), H', ⟨by have := HJ15.out; have := HJ74.out; first | omega | exact Nat.le_refl _⟩, ⟨by (try simp only [hl206000_74]); (with_reducible repeat (first | apply Kd.R_alloc | apply Kd.R_drewN | apply Kd.R_drew)); exact Kd.R_mono HO_202000.out (fun _ hk => ⟨hk.2.2.1, ⟨hk.2.2.2, hk.2.1⟩⟩)⟩, ⟨by (try simp only [hl206000_74]); (with_reducible repeat (first | apply Kd.R_alloc | apply Kd.R_drewN | apply Kd.R_drew)); exact Kd.R_mono HO_206000.out (fun _ hk => ⟨hk.2.2.1, ⟨hk.2.2.2, hk.2.1⟩⟩)⟩, ⟨by (try simp only [hl206000_74]); (with_reducible repeat (first | apply Kd.R_alloc | apply Kd.R_drewN | apply Kd.R_drew)); exact Kd.R_mono HO_214000.out (fun _ hk => ⟨hk.2.2.1, ⟨hk.2.2.2, hk.2.1⟩⟩)⟩, ⟨by (try simp only [hl206000_74]); (with_reducible repeat (first | apply Kd.R_alloc | apply Kd.R_drewN | apply Kd.R_drew)); exact Kd.R_mono HO233.out (fun _ hk => ⟨hk.2.1, ⟨hk.2.2.1, hk.2.2.2⟩⟩)⟩, ⟨by (try simp only [hl206000_74]); (with_reducible repeat (first | refine blk_drewN ?_ _ | refine blk_drew ?_ | refine blk_alloc ?_ _)); exact BK188.out⟩, ⟨by (try simp only [hl206000_74]); (with_reducible repeat (first | refine blk_drewN ?_ _ | refine blk_drew ?_ | refine blk_alloc ?_ _)); exact BK189.out⟩, ⟨by (try simp only [hl206000_74]); (with_reducible repeat (first | refine blk_drewN ?_ _ | refine blk_drew ?_ | refine blk_alloc ?_ _)); exact BK201.out⟩, ⟨by (try simp only [hl206000_74]); (with_reducible repeat (first | refine blk_drewN ?_ _ | refine blk_drew ?_ | refine blk_alloc ?_ _)); exact BK205.out⟩, ⟨by (try simp only [hl206000_74]); (with_reducible repeat (first | refine blk_drewN ?_ _ | refine blk_drew ?_ | refine blk_alloc ?_ _)); exact BK213.out⟩, ⟨by (try simp only [hl206000_74]); (with_reducible repeat (first | refine blk_drewN ?_ _ | refine blk_drew ?_ | refine blk_alloc ?_ _)); exact BK235.out⟩, ⟨by repeat (first | (with_reducible first | exact HB.out | apply below_alloc | apply pw_below_drewN | apply below_drew1 | refine below_set ?_ GE188.out | refine below_set ?_ GE189.out | refine below_set ?_ GE201.out | refine below_set ?_ GE205.out | refine below_set ?_ GE213.out | refine below_set ?_ GE235.out) | exact HB.out)⟩⟩
            ·replace c136 := Bool.eq_false_iff.mpr c136
             subst c136
             have H1 : (laws_FnExactAddClue.j2 kj74 t222 true t223) = some r := by rw [if_neg (show ¬ (false = true) by decide)] at H; exact H
             clear H
             have H := H1
             clear H1
             have H' := Aside0.mk H
             clear H
             have hnb149 := NB235_188.out
             have hnc149 := NB188_235.out
             have hnb150 := NB235_189.out
             have hnc150 := NB189_235.out
             have hnb151 := NB235_201.out
             have hnc151 := NB201_235.out
             have hnb152 := NB235_205.out
             have hnc152 := NB205_235.out
             have hnb153 := NB235_213.out
             have hnc153 := NB213_235.out
             have hcz154_0 : w132.cell? ⟨gb235, 0, none⟩ = some (.slice none 0 0) := (blk_cell BK235.out 0).trans rfl
             have hfz154_0 := blk_frozen BK235.out 0
             have hnb155 := NB201_188.out
             have hnc155 := NB188_201.out
             have hnb156 := NB201_189.out
             have hnc156 := NB189_201.out
             have hnb157 := NB201_205.out
             have hnc157 := NB205_201.out
             have hnb158 := NB201_213.out
             have hnc158 := NB213_201.out
             have hcz159_0 : w132.cell? ⟨gb201, 0, none⟩ = some (.slice Ao29 t197.length co29) := (blk_cell BK201.out 0).trans rfl
             have hfz159_0 := blk_frozen BK201.out 0
             go_wp2_with (first | ((with_reducible refine gate_callee (f := 23) rfl ?_); refine goesL_ (some 89) rfl rfl Try.func23 (by kernel_rfl) rfl #[.agg #[.slice Ao133 t231.length co133], .agg #[.slice Ao29 t197.length co29]] rfl (by (try simp only [List.map_toArray, List.map_cons, List.map_nil]); first | done | rfl | (simp only [List.length_drop, List.length_take]; rfl)) ?_; (with_reducible refine (laws_eqPuzzle.calls kj74 _ _ t231 _ _ t197 false _ ?side1 ?side2 ?side3 ?side4 A135.out).mono ?_); (case side1 => refine (Kd.R_reads' (e := 32) (base := w.heap.size) (ok := fun k_ => (some k_ ≠ (v226 : Value).ownBlock ∧ (some k_ ≠ (.slice Ao29 t197.length co29 : Value).ownBlock ∧ (some k_ ≠ (.slice Ao35 t220.length co35 : Value).ownBlock ∧ some k_ ≠ (.slice Ao46 t209.length co46 : Value).ownBlock)))) (n := t231.length) (c := co133) ?_).2.2; exact (by (with_reducible repeat (first | apply Kd.R_alloc | apply Kd.R_drewN | apply Kd.R_drew)); exact (Kd.R_mono (Kd.R_far (p := ⟨gb235, 0, none⟩) (Kd.R_types HO233.out BK235.out (by decide)) (fun _ hk => hk.2) (.slice Ao133 t231.length co133)) (fun _ h_ => h_.1)))); (case side2 => exact (Kd.R_reads' HO233.out).2.1); (case side3 => refine (Kd.R_reads' (e := 32) (base := w.heap.size) (ok := fun k_ => (some k_ ≠ (v226 : Value).ownBlock ∧ (some k_ ≠ (.slice Ao133 t231.length co133 : Value).ownBlock ∧ (some k_ ≠ (.slice Ao35 t220.length co35 : Value).ownBlock ∧ some k_ ≠ (.slice Ao46 t209.length co46 : Value).ownBlock)))) (n := t197.length) (c := co29) ?_).2.2; exact (by (with_reducible repeat (first | apply Kd.R_alloc | apply Kd.R_drewN | apply Kd.R_drew)); exact (Kd.R_mono (Kd.R_far (p := ⟨gb235, 0, none⟩) (Kd.R_types HO_202000.out BK235.out (by decide)) (fun _ hk => hk.2) (.slice Ao133 t231.length co133)) (fun _ h_ => h_.1)))); (case side4 => exact (Kd.R_reads' HO_202000.out).2.1); rintro e w160 ⟨rfl, hb⟩; refine ⟨_, rfl, ?_⟩; have n0_ := Aside0.mk (Kd.R_below (by (with_reducible repeat (first | apply Kd.R_alloc | apply Kd.R_drewN | apply Kd.R_drew)); exact (Kd.R_mono (Kd.R_far (p := ⟨gb235, 0, none⟩) (Kd.R_types HO_202000.out BK235.out (by decide)) (fun _ hk => hk.2) (.slice Ao133 t231.length co133)) (fun _ h_ => h_.1))) hb); have n1_ := Aside0.mk (Kd.R_below (by (with_reducible repeat (first | apply Kd.R_alloc | apply Kd.R_drewN | apply Kd.R_drew)); exact (Kd.R_mono (Kd.R_far (p := ⟨gb235, 0, none⟩) (Kd.R_types HO_206000.out BK235.out (by decide)) (fun _ hk => hk.2) (.slice Ao133 t231.length co133)) (fun _ h_ => h_.1))) hb); have n2_ := Aside0.mk (Kd.R_below (by (with_reducible repeat (first | apply Kd.R_alloc | apply Kd.R_drewN | apply Kd.R_drew)); exact (Kd.R_mono (Kd.R_far (p := ⟨gb235, 0, none⟩) (Kd.R_types HO_214000.out BK235.out (by decide)) (fun _ hk => hk.2) (.slice Ao133 t231.length co133)) (fun _ h_ => h_.1))) hb); have n3_ := Aside0.mk (Kd.R_below (by (with_reducible repeat (first | apply Kd.R_alloc | apply Kd.R_drewN | apply Kd.R_drew)); exact (Kd.R_mono (Kd.R_far (p := ⟨gb235, 0, none⟩) (Kd.R_types HO227.out BK235.out (by decide)) (fun _ hk => hk.2) (.slice Ao133 t231.length co133)) (fun _ h_ => h_.1))) hb); have n4_ := Aside0.mk (Kd.R_below (by (with_reducible repeat (first | apply Kd.R_alloc | apply Kd.R_drewN | apply Kd.R_drew)); exact (Kd.R_mono (Kd.R_far (p := ⟨gb235, 0, none⟩) (Kd.R_types HO233.out BK235.out (by decide)) (fun _ hk => hk.2) (.slice Ao133 t231.length co133)) (fun _ h_ => h_.1))) hb); have n5_ := Aside0.mk (blk_below (g := gb188) (o := .cells #[.slice A0_0 l0_0.length c0_0] 37 (0, 0)) (by (with_reducible repeat (first | refine blk_drewN ?_ _ | refine blk_drew ?_ | refine blk_alloc ?_ _)); refine blk_far ?_ NB188_235.out _; (with_reducible repeat (first | refine blk_drewN ?_ _ | refine blk_drew ?_ | refine blk_alloc ?_ _)); exact BK188.out) hb); have n6_ := Aside0.mk (blk_below (g := gb189) (o := .cells #[.int .i64 a1_0, .int .i64 a1_1, .int .i64 a1_2] 30 (0, 0)) (by (with_reducible repeat (first | refine blk_drewN ?_ _ | refine blk_drew ?_ | refine blk_alloc ?_ _)); refine blk_far ?_ NB189_235.out _; (with_reducible repeat (first | refine blk_drewN ?_ _ | refine blk_drew ?_ | refine blk_alloc ?_ _)); exact BK189.out) hb); have n7_ := Aside0.mk (blk_below (g := gb201) (o := .cells #[.slice Ao29 t197.length co29] 42 (0, 0)) (by (with_reducible repeat (first | refine blk_drewN ?_ _ | refine blk_drew ?_ | refine blk_alloc ?_ _)); refine blk_far ?_ NB201_235.out _; (with_reducible repeat (first | refine blk_drewN ?_ _ | refine blk_drew ?_ | refine blk_alloc ?_ _)); exact BK201.out) hb); have n8_ := Aside0.mk (blk_below (g := gb205) (o := .cells #[.slice Ao35 t220.length co35] 42 (0, 0)) (by (with_reducible repeat (first | refine blk_drewN ?_ _ | refine blk_drew ?_ | refine blk_alloc ?_ _)); refine blk_far ?_ NB205_235.out _; (with_reducible repeat (first | refine blk_drewN ?_ _ | refine blk_drew ?_ | refine blk_alloc ?_ _)); exact BK205.out) hb); have n9_ := Aside0.mk (blk_below (g := gb213) (o := .cells #[.slice Ao46 t209.length co46] 42 (0, 0)) (by (with_reducible repeat (first | refine blk_drewN ?_ _ | refine blk_drew ?_ | refine blk_alloc ?_ _)); refine blk_far ?_ NB213_235.out _; (with_reducible repeat (first | refine blk_drewN ?_ _ | refine blk_drew ?_ | refine blk_alloc ?_ _)); exact BK213.out) hb); have n10_ := Aside0.mk (blk_below (g := gb235) (o := .cells #[.slice Ao133 t231.length co133] 42 (0, 0)) (by (with_reducible repeat (first | refine blk_drewN ?_ _ | refine blk_drew ?_ | refine blk_alloc ?_ _)); refine blk_put (cs := #[.slice none 0 0]) ?_ 0 _ rfl; (with_reducible repeat (first | refine blk_drewN ?_ _ | refine blk_drew ?_ | refine blk_alloc ?_ _)); exact BK235.out) hb); have n11_ := Aside0.mk (below_step Lam.al hb); clear HO_202000; clear HO_206000; clear HO_214000; clear HO227; clear HO233; clear BK188; clear BK189; clear BK201; clear BK205; clear BK213; clear BK235; clear HB; have HO_202000 := n0_; have HO_206000 := n1_; have HO_214000 := n2_; have HO227 := n3_; have HO233 := n4_; have BK188 := n5_; have BK189 := n6_; have BK201 := n7_; have BK205 := n8_; have BK213 := n9_; have BK235 := n10_; have HB := n11_; clear n0_ n1_ n2_ n3_ n4_ n5_ n6_ n7_ n8_ n9_ n10_ n11_; (try clear hb); (try clear hb2); (try clear hk); (try clear hi)))
             go_meet
             case rel => exact ⟨_, (true), (by first | rfl | (simp; done) | (simp [*]; done)), H', ⟨by have := HJ15.out; have := HJ74.out; first | omega | exact Nat.le_refl _⟩, ⟨by (try simp only [hl206000_74]); (with_reducible repeat (first | apply Kd.R_alloc | apply Kd.R_drewN | apply Kd.R_drew)); exact Kd.R_mono HO_202000.out (fun _ hk => ⟨hk.2.2.1, ⟨hk.2.2.2, hk.2.1⟩⟩)⟩, ⟨by (try simp only [hl206000_74]); (with_reducible repeat (first | apply Kd.R_alloc | apply Kd.R_drewN | apply Kd.R_drew)); exact Kd.R_mono HO_206000.out (fun _ hk => ⟨hk.2.2.1, ⟨hk.2.2.2, hk.2.1⟩⟩)⟩, ⟨by (try simp only [hl206000_74]); (with_reducible repeat (first | apply Kd.R_alloc | apply Kd.R_drewN | apply Kd.R_drew)); exact Kd.R_mono HO_214000.out (fun _ hk => ⟨hk.2.2.1, ⟨hk.2.2.2, hk.2.1⟩⟩)⟩, ⟨by (try simp only [hl206000_74]); (with_reducible repeat (first | apply Kd.R_alloc | apply Kd.R_drewN | apply Kd.R_drew)); exact Kd.R_mono HO233.out (fun _ hk => ⟨hk.2.1, ⟨hk.2.2.1, hk.2.2.2⟩⟩)⟩, ⟨by (try simp only [hl206000_74]); (with_reducible repeat (first | refine blk_drewN ?_ _ | refine blk_drew ?_ | refine blk_alloc ?_ _)); exact BK188.out⟩, ⟨by (try simp only [hl206000_74]); (with_reducible repeat (first | refine blk_drewN ?_ _ | refine blk_drew ?_ | refine blk_alloc ?_ _)); exact BK189.out⟩, ⟨by (try simp only [hl206000_74]); (with_reducible repeat (first | refine blk_drewN ?_ _ | refine blk_drew ?_ | refine blk_alloc ?_ _)); exact BK201.out⟩, ⟨by (try simp only [hl206000_74]); (with_reducible repeat (first | refine blk_drewN ?_ _ | refine blk_drew ?_ | refine blk_alloc ?_ _)); exact BK205.out⟩, ⟨by (try simp only [hl206000_74]); (with_reducible repeat (first | refine blk_drewN ?_ _ | refine blk_drew ?_ | refine blk_alloc ?_ _)); exact BK213.out⟩, ⟨by (try simp only [hl206000_74]); (with_reducible repeat (first | refine blk_drewN ?_ _ | refine blk_drew ?_ | refine blk_alloc ?_ _)); exact BK235.out⟩, ⟨by repeat (first | (with_reducible first | exact HB.out | apply below_alloc | apply pw_below_drewN | apply below_drew1 | refine below_set ?_ GE188.out | refine below_set ?_ GE189.out | refine below_set ?_ GE201.out | refine below_set ?_ GE205.out | refine below_set ?_ GE213.out | refine below_set ?_ GE235.out) | exact HB.out)⟩⟩
           case rest =>
            clear HC117
            try clear c1
            try clear c2
            try clear p2
            try clear c3
            try clear c13
            try clear c14
            try clear c15
            try clear c17
            try clear c21
            try clear c23
            try clear c39
            try clear c136
            try clear c137
            try clear c138
            try clear c139
            try clear c140
            try clear c141
            try clear c143
            try clear c144
            try clear c145
            try clear c146
            try clear c149
            try clear c150
            try clear c151
            try clear c152
            try clear c153
            try clear c155
            try clear c156
            try clear c157
            try clear c158
            try clear hcz142_0
            try clear hcz147_0
            try clear hcz154_0
            try clear hcz159_0
            try clear hfz142_0
            try clear hfz147_0
            try clear hfz154_0
            try clear hfz159_0
            obtain ⟨kq, x95_116, rfl, HA, HJ116, HO_202000, HO_206000, HO_214000, HO_236000, BK188, BK189, BK201, BK205, BK213, BK235, HB⟩ := hcut
            have hl214000_116 := (Kd.R_reads' HO_214000.out).1
            rw [hl214000_116] at HO_214000
            (try simp only [hl214000_116])
            (try simp only [hl214000_116] at BK188)
            (try simp only [hl214000_116] at BK189)
            (try simp only [hl214000_116] at BK201)
            (try simp only [hl214000_116] at BK205)
            (try simp only [hl214000_116] at BK213)
            (try simp only [hl214000_116] at BK235)
            (try simp only [hl214000_116] at HO_202000)
            (try simp only [hl214000_116] at HO_206000)
            (try simp only [hl214000_116] at HO_236000)
            cases kq with
            | zero => exact absurd HA.out (by simp [laws_FnExactAddClue.j2])
            | succ kj116 =>
             have H := HA.out
             clear HA
             simp only [laws_FnExactAddClue.j2] at H
             by_cases c161 : x95_116 = true
             ·subst c161
              have H1 : (none) = some r := by rw [if_pos rfl] at H; exact H
              clear H
              have H := H1
              clear H1
              exact absurd H (by simp)
             ·replace c161 := Bool.eq_false_iff.mpr c161
              subst c161
              have H1 : ((laws_heldPuzzle.f kj116 t223 1).bind fun t237 => (if t237 < 0 then (none) else (if t237 = t222 then (some true) else (none)))) = some r := by rw [if_neg (show ¬ (false = true) by decide)] at H; exact H
              clear H
              have H := H1
              clear H1
              replace H := Option.bind_eq_some_iff.mp H
              obtain ⟨t237, A1620, H⟩ := H
              replace H : (if t237 < 0 then (none) else (if t237 = t222 then (some true) else (none))) = some r := H
              have A162 := Aside0.mk A1620
              clear A1620
              by_cases c163 : t237 < 0
              ·rw [if_pos c163] at H
               exact absurd H (by simp)
              ·rw [if_neg c163] at H
               have c163b0 : decide (t237 < 0) = false := decide_eq_false c163
               clear c163
               by_cases c164 : t237 = t222
               ·rw [if_pos c164] at H
                have c164b0 : (t237 == t222) = true := beq_iff_eq.mpr c164
                have c164b1 : (t237 != t222) = false := bne_eq_false_iff_eq.mpr c164
                clear c164
                obtain rfl := Option.some.inj H
                have hnb165 := NB213_188.out
                have hnc165 := NB188_213.out
                have hnb166 := NB213_189.out
                have hnc166 := NB189_213.out
                have hnb167 := NB213_201.out
                have hnc167 := NB201_213.out
                have hnb168 := NB213_205.out
                have hnc168 := NB205_213.out
                have hnb169 := NB213_235.out
                have hnc169 := NB235_213.out
                have hcz170_0 : wc.cell? ⟨gb213, 0, none⟩ = some (.slice Ao46 t223.length co46) := (blk_cell BK213.out 0).trans rfl
                have hfz170_0 := blk_frozen BK213.out 0
                go_wp2_with (first | ((with_reducible refine gate_callee (f := 41) rfl ?_); refine goesL_ (some 98) rfl rfl Try.func41 (by kernel_rfl) rfl #[.agg #[.slice Ao46 t223.length co46], .int .i64 1] rfl (by (try simp only [List.map_toArray, List.map_cons, List.map_nil]); first | done | rfl | (simp only [List.length_drop, List.length_take]; rfl)) ?_; (with_reducible refine (laws_heldPuzzle.calls kj116 _ _ t223 1 t237 _ ?side1 ?side2 A162.out).mono ?_); (case side1 => repeat (first | exact (Kd.R_reads' HO_214000.out).2.2 | (with_reducible refine Kd.C_alloc ?_ _) | (with_reducible refine Kd.C_drewN ?_ _) | (with_reducible refine Kd.C_drew ?_))); (case side2 => exact (Kd.R_reads' HO_214000.out).2.1); rintro e w171 ⟨rfl, hb⟩; refine ⟨_, rfl, ?_⟩; have n0_ := Aside0.mk (Kd.R_below (by (with_reducible repeat (first | apply Kd.R_alloc | apply Kd.R_drewN | apply Kd.R_drew)); exact HO_202000.out) hb); have n1_ := Aside0.mk (Kd.R_below (by (with_reducible repeat (first | apply Kd.R_alloc | apply Kd.R_drewN | apply Kd.R_drew)); exact HO_206000.out) hb); have n2_ := Aside0.mk (Kd.R_below (by (with_reducible repeat (first | apply Kd.R_alloc | apply Kd.R_drewN | apply Kd.R_drew)); exact HO_214000.out) hb); have n3_ := Aside0.mk (Kd.R_below (by (with_reducible repeat (first | apply Kd.R_alloc | apply Kd.R_drewN | apply Kd.R_drew)); exact HO_236000.out) hb); have n4_ := Aside0.mk (blk_below (g := gb188) (o := .cells #[.slice A0_0 l0_0.length c0_0] 37 (0, 0)) (Lam.bq BK188.out) hb); have n5_ := Aside0.mk (blk_below (g := gb189) (o := .cells #[.int .i64 a1_0, .int .i64 a1_1, .int .i64 a1_2] 30 (0, 0)) (Lam.bq BK189.out) hb); have n6_ := Aside0.mk (blk_below (g := gb201) (o := .cells #[.slice Ao29 t197.length co29] 42 (0, 0)) (Lam.bq BK201.out) hb); have n7_ := Aside0.mk (blk_below (g := gb205) (o := .cells #[.slice Ao35 t220.length co35] 42 (0, 0)) (Lam.bq BK205.out) hb); have n8_ := Aside0.mk (blk_below (g := gb213) (o := .cells #[.slice Ao46 t223.length co46] 42 (0, 0)) (Lam.bq BK213.out) hb); have n9_ := Aside0.mk (blk_below (g := gb235) (o := .cells #[.slice Ao133 t231.length co133] 42 (0, 0)) (Lam.bq BK235.out) hb); have n10_ := Aside0.mk (below_step Lam.al hb); clear HO_202000; clear HO_206000; clear HO_214000; clear HO_236000; clear BK188; clear BK189; clear BK201; clear BK205; clear BK213; clear BK235; clear HB; have HO_202000 := n0_; have HO_206000 := n1_; have HO_214000 := n2_; have HO_236000 := n3_; have BK188 := n4_; have BK189 := n5_; have BK201 := n6_; have BK205 := n7_; have BK213 := n8_; have BK235 := n9_; have HB := n10_; clear n0_ n1_ n2_ n3_ n4_ n5_ n6_ n7_ n8_ n9_ n10_; (try clear hb); (try clear hb2); (try clear hk); (try clear hi)))
                go_ret
                exact ⟨by first | rfl | (simp [errW_none, errW_some] <;> rfl) | (simp [*, errW_none, errW_some] <;> rfl), by repeat (first | (with_reducible first | exact HB.out | apply below_alloc | apply pw_below_drewN | apply below_drew1 | refine below_set ?_ GE188.out | refine below_set ?_ GE189.out | refine below_set ?_ GE201.out | refine below_set ?_ GE205.out | refine below_set ?_ GE213.out | refine below_set ?_ GE235.out) | exact HB.out)⟩
               ·rw [if_neg c164] at H
                exact absurd H (by simp)
          ·rw [if_neg c113] at H
           exact absurd H (by simp)
     ·replace c73 := Bool.eq_false_iff.mpr c73
      subst c73
      have H1 : (none) = some r := by rw [if_neg (show ¬ (false = true) by decide)] at H; exact H
      clear H
      have H := H1
      clear H1
      exact absurd H (by simp)

end Go.Proofs.Ythlebenfnlllhaa.PFnExactAddClue
