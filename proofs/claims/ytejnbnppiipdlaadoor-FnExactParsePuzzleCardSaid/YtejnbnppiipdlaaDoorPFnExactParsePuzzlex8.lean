-- Made by a program of this session (wip/xprint.py) out of the translation.
import Derived.Test.YtejnbnppiipdlaaDoorEnv
import Derived.Test.YtejnbnppiipdlaaDoorPFnExactParsePuzzlex0
import Derived.Test.YtejnbnppiipdlaaDoorPFnExactParsePuzzlex4
import Derived.Test.YtejnbnppiipdlaaDoorPFnExactParsePuzzlex6
import Derived.Test.YtejnbnppiipdlaaDoorPFnExactParsePuzzlex7
namespace Go.Proofs.YtejnbnppiipdlaaDoor.PFnExactParsePuzzle
open Go.RowKit Go.Proofs.YtejnbnppiipdlaaDoorW.PrintWords Go.Proofs.YtejnbnppiipdlaaDoorW.PrintLast Go.Proofs.YtejnbnppiipdlaaDoorW.PrintMore
attribute [local go_sem] Lam.yl_undef max2_int min2_int max_two min_two max_three min_three max_four min_four   -- for this text's walks alone
set_option linter.unusedVariables false
set_option linter.unusedSimpArgs false

/-! ### laws_FnExactParsePuzzle: function 4 -/
mutual
def laws_FnExactParsePuzzle.j0 : Nat → ByteArray → Bool → Bool → List (S47) → List (S47) → Option (Bool)
 | 0, _, _, _, _, _ => none
 | k + 1, x0, x4, x32, x215000, x220000 => if x32 = true then (none) else ((laws_markPuzzle.f k x220000 1).bind fun bt221 => ((laws_heldPuzzle.f k bt221.2 1).bind fun t223 => (if t223 < 0 then (none) else (if t223 = bt221.1 then ((impl_ParsePuzzle.f k x0).bind fun bt224 => ((laws_eqPuzzle.f k bt224.1 x215000).bind fun t229 => (if t229 = true then (laws_FnExactParsePuzzle.j1 k bt221.1 (bt224.2 != x4) bt221.2) else (laws_FnExactParsePuzzle.j1 k bt221.1 true bt221.2)))) else (none)))))
def laws_FnExactParsePuzzle.j1 : Nat → Int → Bool → List (S47) → Option (Bool)
 | 0, _, _, _ => none
 | k + 1, x7, x57, x220000 => if x57 = true then (none) else ((laws_heldPuzzle.f k x220000 1).bind fun t230 => (if t230 < 0 then (none) else (if t230 = x7 then (some true) else (none))))
end
def laws_FnExactParsePuzzle.f (k : Nat) (a0 : ByteArray) : Option (Bool) := if (a0.size : Int) > 1048576 then (some true) else ((spec_ParsePuzzle.f k a0).bind fun bt210 => ((impl_ParsePuzzle.f k a0).bind fun bt215 => ((laws_eqPuzzle.f k bt215.1 bt210.1).bind fun t220 => (if t220 = true then (laws_FnExactParsePuzzle.j0 k a0 bt210.2 (bt215.2 != bt210.2) bt210.1 bt215.1) else (laws_FnExactParsePuzzle.j0 k a0 bt210.2 true bt210.1 bt215.1)))))
set_option maxHeartbeats 8000000 in
set_option maxRecDepth 100000 in
theorem laws_FnExactParsePuzzle.calls (k : Nat) (a0 : ByteArray) (r : Bool) (w : World) (henv : Env.Is w) (h : laws_FnExactParsePuzzle.f k a0 = some r) :
  Calls Tryd.prog 4 #[.string a0] w fun e w' => e = .returned (.bool r) ∧ Below w.heap.size w w' := by
 have HTAB : Aside0 (∀ W_, Below w.heap.size w W_ → Env.Is W_) := ⟨fun W_ h_ => henv.below h_⟩
 clear henv
 have hu30 := Tryd.underlying30
 have HB := Aside0.mk (Below.refl w.heap.size w)
 have H : (if (a0.size : Int) > 1048576 then (some true) else ((spec_ParsePuzzle.f k a0).bind fun bt210 => ((impl_ParsePuzzle.f k a0).bind fun bt215 => ((laws_eqPuzzle.f k bt215.1 bt210.1).bind fun t220 => (if t220 = true then (laws_FnExactParsePuzzle.j0 k a0 bt210.2 (bt215.2 != bt210.2) bt210.1 bt215.1) else (laws_FnExactParsePuzzle.j0 k a0 bt210.2 true bt210.1 bt215.1)))))) = some r := h
 clear h
 by_cases c2 : (a0.size : Int) > 1048576
 ·rw [if_pos c2] at H
  have c2b0 : decide (1048576 < (a0.size : Int)) = true := decide_eq_true c2
  have c2b1 : decide (1048576 < a0.size) = true := decide_eq_true (by omega)
  clear c2
  obtain rfl := Option.some.inj H
  go_enter Tryd.func4, Tryd.ntmps4
  go_wp2
  go_ret
  exact ⟨by first | rfl | (simp [errW_none, errW_some] <;> rfl) | (simp [*, errW_none, errW_some] <;> rfl), Lam.al⟩
 ·rw [if_neg c2] at H
  have c2b0 : decide (1048576 < (a0.size : Int)) = false := decide_eq_false c2
  have c2b1 : decide (1048576 < a0.size) = false := decide_eq_false (by omega)
  clear c2
  replace H := Option.bind_eq_some_iff.mp H
  obtain ⟨⟨t210, t213⟩, A30, H⟩ := H
  (try dsimp only at H)
  have A3 := Aside0.mk A30
  clear A30
  replace H := Option.bind_eq_some_iff.mp H
  obtain ⟨⟨t215, t216⟩, A40, H⟩ := H
  (try dsimp only at H)
  have A4 := Aside0.mk A40
  clear A40
  have HC5 := Aside0.mk H
  clear H
  go_enter Tryd.func4, Tryd.ntmps4
  go_upto_region 5 with (first | ((with_reducible refine gate_callee (f := 10) rfl ?_); refine goesL_ (some 16) rfl rfl Tryd.func10 (by kernel_rfl) rfl #[.string a0] rfl (by (try simp only [List.map_toArray, List.map_cons, List.map_nil]); first | done | rfl | (simp only [List.length_drop, List.length_take]; rfl)) ?_; (with_reducible refine (spec_ParsePuzzle.calls k a0 t210 t213 _ A3.out).mono ?_); rintro e w6 ⟨v211, rfl, ho0, hb⟩; refine ⟨_, rfl, ?_⟩; have n0_ := Aside0.mk (Kd.R_lower ho0 (below_size (Lam.al))); have n1_ := Aside0.mk (below_step (Lam.al) hb); clear HB; have HO212 := n0_; have HB := n1_; clear n0_ n1_; (try clear hb); (try clear hb2); (try clear hk); (try clear hi); (try clear ho0)) | ((with_reducible refine gate_dst (N := 3) rfl ?_); refine box_event ?hg (N := 3) ?hd (cs := #[.slice none 0 0]) (t := 30) ?hr ?_; (case hd => rfl); (case hg => rfl); (case hr => first | (go_simp; done) | (go_simp; rfl)); intro gb214 hg w7 hbox hb; have n0_ := Aside0.mk (Kd.R_below (Lam.rq HO212.out) hb); have n1_ := Aside0.mk (below_step (Lam.al) hb); have n2_ := Aside0.mk (hbox); have n3_ := Aside0.mk ((by rw [hg]; exact (below_size (Lam.al)) : w.heap.size ≤ gb214)); have n4_ := Aside0.mk ((by rw [hg]; exact (below_size (Lam.al)) : w.heap.size ≤ gb214)); clear HO212; clear HB; have HO212 := n0_; have HB := n1_; have BK214 := n2_; have GW214 := n3_; have GE214 := n4_; clear n0_ n1_ n2_ n3_ n4_; clear hb hbox hg; obtain ⟨Ao8, co8, eo8⟩ := Kd.R_slice HO212.out; subst eo8; have hcz9_0 : w7.cell? ⟨gb214, 0, none⟩ = some (.slice none 0 0) := (blk_cell BK214.out 0).trans rfl; have hfz9_0 := blk_frozen BK214.out 0) | ((with_reducible refine gate_callee (f := 11) rfl ?_); refine goesL_ (some 21) rfl rfl Tryd.func11 (by kernel_rfl) rfl #[.string a0] rfl (by (try simp only [List.map_toArray, List.map_cons, List.map_nil]); first | done | rfl | (simp only [List.length_drop, List.length_take]; rfl)) ?_; (with_reducible refine (impl_ParsePuzzle.calls k a0 t215 t216 _ (HTAB.out _ Lam.al) A4.out).mono ?_); rintro e w10 ⟨v217, rfl, ho0, hb⟩; refine ⟨_, rfl, ?_⟩; have n0_ := Aside0.mk (Kd.R_elder' (by (with_reducible repeat (first | apply Kd.R_alloc | apply Kd.R_drewN | apply Kd.R_drew)); exact (Kd.R_mono (Kd.R_far (p := ⟨gb214, 0, none⟩) (Kd.R_types HO212.out BK214.out (by decide)) (fun _ hk => hk.2) (.slice Ao8 t210.length co8)) (fun _ h_ => h_.1))) (Kd.R_base ho0) hb); have n1_ := Aside0.mk (Kd.R_lower (Kd.R_new' ho0 (Kd.R_lt (by (with_reducible repeat (first | apply Kd.R_alloc | apply Kd.R_drewN | apply Kd.R_drew)); exact (Kd.R_mono (Kd.R_far (p := ⟨gb214, 0, none⟩) (Kd.R_types HO212.out BK214.out (by decide)) (fun _ hk => hk.2) (.slice Ao8 t210.length co8)) (fun _ h_ => h_.1))))) (below_size (Lam.al))); have n2_ := Aside0.mk (blk_below (g := gb214) (o := .cells #[.slice Ao8 t210.length co8] 30 (0, 0)) (by (with_reducible repeat (first | refine blk_drewN ?_ _ | refine blk_drew ?_ | refine blk_alloc ?_ _)); refine blk_put (cs := #[.slice none 0 0]) ?_ 0 _ rfl; (with_reducible repeat (first | refine blk_drewN ?_ _ | refine blk_drew ?_ | refine blk_alloc ?_ _)); exact BK214.out) hb); have n3_ := Aside0.mk (below_step (Lam.al) hb); clear HO212; clear BK214; clear HB; have HO212 := n0_; have HO218 := n1_; have BK214 := n2_; have HB := n3_; clear n0_ n1_ n2_ n3_; (try clear hb); (try clear hb2); (try clear hk); (try clear hi); (try clear ho0)) | ((with_reducible refine gate_dst (N := 5) rfl ?_); refine box_event ?hg (N := 5) ?hd (cs := #[.slice none 0 0]) (t := 30) ?hr ?_; (case hd => rfl); (case hg => rfl); (case hr => first | (go_simp; done) | (go_simp; rfl)); intro gb219 hg w11 hbox hb; have n0_ := Aside0.mk (Kd.R_below (Lam.rq HO212.out) hb); have n1_ := Aside0.mk (Kd.R_below (Lam.rq HO218.out) hb); have n2_ := Aside0.mk (blk_below (g := gb214) (o := .cells #[.slice Ao8 t210.length co8] 30 (0, 0)) (Lam.bq BK214.out) hb); have n3_ := Aside0.mk (below_step (Lam.al) hb); have n4_ := Aside0.mk (hbox); have n5_ := Aside0.mk ((by rw [hg]; exact (below_size (Lam.al)) : w.heap.size ≤ gb219)); have n6_ := Aside0.mk ((by rw [hg]; exact (below_size (Lam.al)) : w.heap.size ≤ gb219)); have n7_ := Aside0.mk ((by rw [hg]; exact Nat.ne_of_lt (blk_lt (g := gb214) (o := .cells #[.slice Ao8 t210.length co8] 30 (0, 0)) (Lam.bq BK214.out)) : gb214 ≠ gb219)); have n8_ := Aside0.mk ((by rw [hg]; exact Nat.ne_of_gt (blk_lt (g := gb214) (o := .cells #[.slice Ao8 t210.length co8] 30 (0, 0)) (Lam.bq BK214.out)) : gb219 ≠ gb214)); clear HO212; clear HO218; clear BK214; clear HB; have HO212 := n0_; have HO218 := n1_; have BK214 := n2_; have HB := n3_; have BK219 := n4_; have GW219 := n5_; have GE219 := n6_; have NB214_219 := n7_; have NB219_214 := n8_; clear n0_ n1_ n2_ n3_ n4_ n5_ n6_ n7_ n8_; clear hb hbox hg; obtain ⟨Ao12, co12, eo12⟩ := Kd.R_slice HO218.out; subst eo12; have hnb13 := NB219_214.out; have hnc13 := NB214_219.out; have hcz14_0 : w11.cell? ⟨gb219, 0, none⟩ = some (.slice none 0 0) := (blk_cell BK219.out 0).trans rfl; have hfz14_0 := blk_frozen BK219.out 0))
  (try simp only [Act.put, Lam.pa, Lam.pb, Lam.pc])
  go_cut [32] (fun v32 wc => ∃ (kq : Nat) (x32_4 : Bool), v32 = .bool x32_4 ∧ Aside0 (laws_FnExactParsePuzzle.j0 kq a0 t213 x32_4 t210 t215 = some r) ∧ Aside0 (kq ≤ k) ∧ Aside0 (Kd.R k47 47 wc w.heap.size (fun k_ => some k_ ≠ ((.slice Ao12 t215.length co12) : Value).ownBlock) (.slice Ao8 t210.length co8) t210) ∧ Aside0 (Kd.R k47 47 wc w.heap.size (fun k_ => some k_ ≠ ((.slice Ao8 t210.length co8) : Value).ownBlock) (.slice Ao12 t215.length co12) t215) ∧ Aside0 (wc.heap[gb214]? = some (.cells #[(.slice Ao8 t210.length co8)] 30 (0, 0))) ∧ Aside0 (wc.heap[gb219]? = some (.cells #[(.slice Ao12 t215.length co12)] 30 (0, 0))) ∧ Aside0 (Below w.heap.size w wc))
  case first =>
   have H := HC5.out
   clear HC5
   replace H := Option.bind_eq_some_iff.mp H
   obtain ⟨t220, A150, H⟩ := H
   (try dsimp only at H)
   have A15 := Aside0.mk A150
   clear A150
   by_cases c16 : t220 = true
   ·subst c16
    have H1 : (laws_FnExactParsePuzzle.j0 k a0 t213 (t216 != t213) t210 t215) = some r := by rw [if_pos rfl] at H; exact H
    clear H
    have H := H1
    clear H1
    have H' := Aside0.mk H
    clear H
    have hnb17 := NB219_214.out
    have hnc17 := NB214_219.out
    have hcz18_0 : w11.cell? ⟨gb219, 0, none⟩ = some (.slice none 0 0) := (blk_cell BK219.out 0).trans rfl
    have hfz18_0 := blk_frozen BK219.out 0
    have hcz19_0 : w11.cell? ⟨gb214, 0, none⟩ = some (.slice Ao8 t210.length co8) := (blk_cell BK214.out 0).trans rfl
    have hfz19_0 := blk_frozen BK214.out 0
    go_wp2_with (first | ((with_reducible refine gate_callee (f := 12) rfl ?_); refine goesL_ (some 26) rfl rfl Tryd.func12 (by kernel_rfl) rfl #[.agg #[.slice Ao12 t215.length co12], .agg #[.slice Ao8 t210.length co8]] rfl (by (try simp only [List.map_toArray, List.map_cons, List.map_nil]); first | done | rfl | (simp only [List.length_drop, List.length_take]; rfl)) ?_; (with_reducible refine (laws_eqPuzzle.calls k _ _ t215 _ _ t210 true _ ?side1 ?side2 ?side3 ?side4 A15.out).mono ?_); (case side1 => refine (Kd.R_reads' (e := 47) (base := w.heap.size) (ok := fun k_ => (True ∧ some k_ ≠ (.slice Ao8 t210.length co8 : Value).ownBlock)) (n := t215.length) (c := co12) ?_).2.2; exact (by (with_reducible repeat (first | apply Kd.R_alloc | apply Kd.R_drewN | apply Kd.R_drew)); exact (Kd.R_mono (Kd.R_far (p := ⟨gb219, 0, none⟩) (Kd.R_types HO218.out BK219.out (by decide)) (fun _ hk => hk.2) (.slice Ao12 t215.length co12)) (fun _ h_ => h_.1)))); (case side2 => exact (Kd.R_reads' HO218.out).2.1); (case side3 => refine (Kd.R_reads' (e := 47) (base := w.heap.size) (ok := fun k_ => (True ∧ some k_ ≠ (.slice Ao12 t215.length co12 : Value).ownBlock)) (n := t210.length) (c := co8) ?_).2.2; exact (by (with_reducible repeat (first | apply Kd.R_alloc | apply Kd.R_drewN | apply Kd.R_drew)); exact (Kd.R_mono (Kd.R_far (p := ⟨gb219, 0, none⟩) (Kd.R_types HO212.out BK219.out (by decide)) (fun _ hk => hk.2) (.slice Ao12 t215.length co12)) (fun _ h_ => h_.1)))); (case side4 => exact (Kd.R_reads' HO212.out).2.1); rintro e w20 ⟨rfl, hb⟩; refine ⟨_, rfl, ?_⟩; have n0_ := Aside0.mk (Kd.R_below (by (with_reducible repeat (first | apply Kd.R_alloc | apply Kd.R_drewN | apply Kd.R_drew)); exact (Kd.R_mono (Kd.R_far (p := ⟨gb219, 0, none⟩) (Kd.R_types HO212.out BK219.out (by decide)) (fun _ hk => hk.2) (.slice Ao12 t215.length co12)) (fun _ h_ => h_.1))) hb); have n1_ := Aside0.mk (Kd.R_below (by (with_reducible repeat (first | apply Kd.R_alloc | apply Kd.R_drewN | apply Kd.R_drew)); exact (Kd.R_mono (Kd.R_far (p := ⟨gb219, 0, none⟩) (Kd.R_types HO218.out BK219.out (by decide)) (fun _ hk => hk.2) (.slice Ao12 t215.length co12)) (fun _ h_ => h_.1))) hb); have n2_ := Aside0.mk (blk_below (g := gb214) (o := .cells #[.slice Ao8 t210.length co8] 30 (0, 0)) (by (with_reducible repeat (first | refine blk_drewN ?_ _ | refine blk_drew ?_ | refine blk_alloc ?_ _)); refine blk_far ?_ NB214_219.out _; (with_reducible repeat (first | refine blk_drewN ?_ _ | refine blk_drew ?_ | refine blk_alloc ?_ _)); exact BK214.out) hb); have n3_ := Aside0.mk (blk_below (g := gb219) (o := .cells #[.slice Ao12 t215.length co12] 30 (0, 0)) (by (with_reducible repeat (first | refine blk_drewN ?_ _ | refine blk_drew ?_ | refine blk_alloc ?_ _)); refine blk_put (cs := #[.slice none 0 0]) ?_ 0 _ rfl; (with_reducible repeat (first | refine blk_drewN ?_ _ | refine blk_drew ?_ | refine blk_alloc ?_ _)); exact BK219.out) hb); have n4_ := Aside0.mk (below_step (Lam.al) hb); clear HO212; clear HO218; clear BK214; clear BK219; clear HB; have HO212 := n0_; have HO218 := n1_; have BK214 := n2_; have BK219 := n3_; have HB := n4_; clear n0_ n1_ n2_ n3_ n4_; (try clear hb); (try clear hb2); (try clear hk); (try clear hi)))
    go_meet
    case rel => exact ⟨_, ((t216 != t213)), (by first | rfl | (simp; done) | (simp [*]; done)), H', ⟨by first | omega | exact Nat.le_refl _⟩, ⟨by (with_reducible repeat (first | apply Kd.R_alloc | apply Kd.R_drewN | apply Kd.R_drew)); exact Kd.R_mono HO212.out (fun _ hk => hk.2)⟩, ⟨by (with_reducible repeat (first | apply Kd.R_alloc | apply Kd.R_drewN | apply Kd.R_drew)); exact Kd.R_mono HO218.out (fun _ hk => hk.2)⟩, ⟨Lam.bq BK214.out⟩, ⟨Lam.bq BK219.out⟩, ⟨Lam.al⟩⟩
   ·replace c16 := Bool.eq_false_iff.mpr c16
    subst c16
    have H1 : (laws_FnExactParsePuzzle.j0 k a0 t213 true t210 t215) = some r := by rw [if_neg (show ¬ (false = true) by decide)] at H; exact H
    clear H
    have H := H1
    clear H1
    have H' := Aside0.mk H
    clear H
    have hnb21 := NB219_214.out
    have hnc21 := NB214_219.out
    have hcz22_0 : w11.cell? ⟨gb219, 0, none⟩ = some (.slice none 0 0) := (blk_cell BK219.out 0).trans rfl
    have hfz22_0 := blk_frozen BK219.out 0
    have hcz23_0 : w11.cell? ⟨gb214, 0, none⟩ = some (.slice Ao8 t210.length co8) := (blk_cell BK214.out 0).trans rfl
    have hfz23_0 := blk_frozen BK214.out 0
    go_wp2_with (first | ((with_reducible refine gate_callee (f := 12) rfl ?_); refine goesL_ (some 26) rfl rfl Tryd.func12 (by kernel_rfl) rfl #[.agg #[.slice Ao12 t215.length co12], .agg #[.slice Ao8 t210.length co8]] rfl (by (try simp only [List.map_toArray, List.map_cons, List.map_nil]); first | done | rfl | (simp only [List.length_drop, List.length_take]; rfl)) ?_; (with_reducible refine (laws_eqPuzzle.calls k _ _ t215 _ _ t210 false _ ?side1 ?side2 ?side3 ?side4 A15.out).mono ?_); (case side1 => refine (Kd.R_reads' (e := 47) (base := w.heap.size) (ok := fun k_ => (True ∧ some k_ ≠ (.slice Ao8 t210.length co8 : Value).ownBlock)) (n := t215.length) (c := co12) ?_).2.2; exact (by (with_reducible repeat (first | apply Kd.R_alloc | apply Kd.R_drewN | apply Kd.R_drew)); exact (Kd.R_mono (Kd.R_far (p := ⟨gb219, 0, none⟩) (Kd.R_types HO218.out BK219.out (by decide)) (fun _ hk => hk.2) (.slice Ao12 t215.length co12)) (fun _ h_ => h_.1)))); (case side2 => exact (Kd.R_reads' HO218.out).2.1); (case side3 => refine (Kd.R_reads' (e := 47) (base := w.heap.size) (ok := fun k_ => (True ∧ some k_ ≠ (.slice Ao12 t215.length co12 : Value).ownBlock)) (n := t210.length) (c := co8) ?_).2.2; exact (by (with_reducible repeat (first | apply Kd.R_alloc | apply Kd.R_drewN | apply Kd.R_drew)); exact (Kd.R_mono (Kd.R_far (p := ⟨gb219, 0, none⟩) (Kd.R_types HO212.out BK219.out (by decide)) (fun _ hk => hk.2) (.slice Ao12 t215.length co12)) (fun _ h_ => h_.1)))); (case side4 => exact (Kd.R_reads' HO212.out).2.1); rintro e w24 ⟨rfl, hb⟩; refine ⟨_, rfl, ?_⟩; have n0_ := Aside0.mk (Kd.R_below (by (with_reducible repeat (first | apply Kd.R_alloc | apply Kd.R_drewN | apply Kd.R_drew)); exact (Kd.R_mono (Kd.R_far (p := ⟨gb219, 0, none⟩) (Kd.R_types HO212.out BK219.out (by decide)) (fun _ hk => hk.2) (.slice Ao12 t215.length co12)) (fun _ h_ => h_.1))) hb); have n1_ := Aside0.mk (Kd.R_below (by (with_reducible repeat (first | apply Kd.R_alloc | apply Kd.R_drewN | apply Kd.R_drew)); exact (Kd.R_mono (Kd.R_far (p := ⟨gb219, 0, none⟩) (Kd.R_types HO218.out BK219.out (by decide)) (fun _ hk => hk.2) (.slice Ao12 t215.length co12)) (fun _ h_ => h_.1))) hb); have n2_ := Aside0.mk (blk_below (g := gb214) (o := .cells #[.slice Ao8 t210.length co8] 30 (0, 0)) (by (with_reducible repeat (first | refine blk_drewN ?_ _ | refine blk_drew ?_ | refine blk_alloc ?_ _)); refine blk_far ?_ NB214_219.out _; (with_reducible repeat (first | refine blk_drewN ?_ _ | refine blk_drew ?_ | refine blk_alloc ?_ _)); exact BK214.out) hb); have n3_ := Aside0.mk (blk_below (g := gb219) (o := .cells #[.slice Ao12 t215.length co12] 30 (0, 0)) (by (with_reducible repeat (first | refine blk_drewN ?_ _ | refine blk_drew ?_ | refine blk_alloc ?_ _)); refine blk_put (cs := #[.slice none 0 0]) ?_ 0 _ rfl; (with_reducible repeat (first | refine blk_drewN ?_ _ | refine blk_drew ?_ | refine blk_alloc ?_ _)); exact BK219.out) hb); have n4_ := Aside0.mk (below_step (Lam.al) hb); clear HO212; clear HO218; clear BK214; clear BK219; clear HB; have HO212 := n0_; have HO218 := n1_; have BK214 := n2_; have BK219 := n3_; have HB := n4_; clear n0_ n1_ n2_ n3_ n4_; (try clear hb); (try clear hb2); (try clear hk); (try clear hi)))
    go_meet
    case rel => exact ⟨_, (true), (by first | rfl | (simp; done) | (simp [*]; done)), H', ⟨by first | omega | exact Nat.le_refl _⟩, ⟨by (with_reducible repeat (first | apply Kd.R_alloc | apply Kd.R_drewN | apply Kd.R_drew)); exact Kd.R_mono HO212.out (fun _ hk => hk.2)⟩, ⟨by (with_reducible repeat (first | apply Kd.R_alloc | apply Kd.R_drewN | apply Kd.R_drew)); exact Kd.R_mono HO218.out (fun _ hk => hk.2)⟩, ⟨Lam.bq BK214.out⟩, ⟨Lam.bq BK219.out⟩, ⟨Lam.al⟩⟩
  case rest =>
   clear HC5
   try clear c2
   try clear c2b0
   try clear c2b1
   try clear hcz14_0
   try clear hcz9_0
   try clear hfz14_0
   try clear hfz9_0
   obtain ⟨kq, x32_4, rfl, HA, HJ4, HO_215000, HO_220000, BK214, BK219, HB⟩ := hcut
   cases kq with
   | zero => exact absurd HA.out (by simp [laws_FnExactParsePuzzle.j0])
   | succ kj4 =>
    have H := HA.out
    clear HA
    simp only [laws_FnExactParsePuzzle.j0] at H
    by_cases c25 : x32_4 = true
    ·subst c25
     have H1 : (none) = some r := by rw [if_pos rfl] at H; exact H
     clear H
     have H := H1
     clear H1
     exact absurd H (by simp)
    ·replace c25 := Bool.eq_false_iff.mpr c25
     subst c25
     rw [if_neg (show ¬ (false = true) by decide)] at H
     replace H := Option.bind_eq_some_iff.mp H
     obtain ⟨⟨t221, t222⟩, A260, H⟩ := H
     (try dsimp only at H)
     have A26 := Aside0.mk A260
     clear A260
     replace H := Option.bind_eq_some_iff.mp H
     obtain ⟨t223, A270, H⟩ := H
     (try dsimp only at H)
     have A27 := Aside0.mk A270
     clear A270
     by_cases c28 : t223 < 0
     ·rw [if_pos c28] at H
      exact absurd H (by simp)
     ·rw [if_neg c28] at H
      have c28b0 : decide (t223 < 0) = false := decide_eq_false c28
      clear c28
      by_cases c29 : t223 = t221
      ·rw [if_pos c29] at H
       have c29b0 : (t223 == t221) = true := beq_iff_eq.mpr c29
       have c29b1 : (t223 != t221) = false := bne_eq_false_iff_eq.mpr c29
       clear c29
       replace H := Option.bind_eq_some_iff.mp H
       obtain ⟨⟨t224, t225⟩, A300, H⟩ := H
       (try dsimp only at H)
       have A30 := Aside0.mk A300
       clear A300
       have HC31 := Aside0.mk H
       clear H
       have hnb32 := NB219_214.out
       have hnc32 := NB214_219.out
       have hcz33_0 : wc.cell? ⟨gb219, 0, none⟩ = some (.slice Ao12 t215.length co12) := (blk_cell BK219.out 0).trans rfl
       have hfz33_0 := blk_frozen BK219.out 0
       go_upto_region 16 with (first | ((with_reducible refine gate_callee (f := 13) rfl ?_); refine goesL_ (some 35) rfl rfl Tryd.func13 (by kernel_rfl) rfl #[.agg #[.slice Ao12 t215.length co12], .int .i64 1] rfl (by (try simp only [List.map_toArray, List.map_cons, List.map_nil]); first | done | rfl | (simp only [List.length_drop, List.length_take]; rfl)) ?_; (with_reducible refine (laws_markPuzzle.calls kj4 (fun k_ => some k_ = (.slice Ao12 t215.length co12 : Value).ownBlock) (.slice Ao12 t215.length co12) t215 1 t221 t222 w _ ?side1 ?side2 A26.out).mono ?_); (case side1 => repeat (first | (with_reducible first | exact HB.out | apply below_alloc | apply pw_below_drewN | apply below_drew1 | refine below_set ?_ GE214.out | refine below_set ?_ GE219.out) | exact HB.out)); (case side2 => exact Kd.R_tight rfl HO_220000.out); rintro e w34 ⟨rfl, hy0, hb, hkp⟩; refine ⟨_, rfl, ?_⟩; have n0_ := Aside0.mk (Kd.R_mono (ok' := fun k_ => some k_ ≠ (.slice Ao12 t215.length co12 : Value).ownBlock) (Kd.R_keptB (HO_215000.out) hkp (fun k_ hk_ hs_ => (hk_) hs_)) (fun k_ hk_ => hk_.1)); have n1_ := Aside0.mk (Kd.R_reok rfl hy0 (fun k_ e_ => HO_220000.out.1 k_ e_)); have n2_ := Aside0.mk (blk_kept (Lam.bq BK214.out) hkp (fun hs_ => (fun e_ => (Kd.R_ne HO_220000.out BK214.out (by decide)) e_) hs_)); have n3_ := Aside0.mk (blk_kept (Lam.bq BK219.out) hkp (fun hs_ => (fun e_ => (Kd.R_ne HO_220000.out BK219.out (by decide)) e_) hs_)); have n4_ := Aside0.mk (hb); clear HO_215000; clear HO_220000; clear BK214; clear BK219; clear HB; have HO_215000 := n0_; have HO_220000 := n1_; have BK214 := n2_; have BK219 := n3_; have HB := n4_; clear n0_ n1_ n2_ n3_ n4_; (try clear hb); (try clear hkp); (try clear hy0); have hcz35_0 : w34.cell? ⟨gb219, 0, none⟩ = some (.slice Ao12 t215.length co12) := (blk_cell BK219.out 0).trans rfl; have hfz35_0 := blk_frozen BK219.out 0) | ((with_reducible refine gate_callee (f := 14) rfl ?_); refine goesL_ (some 38) rfl rfl Tryd.func14 (by kernel_rfl) rfl #[.agg #[.slice Ao12 t222.length co12], .int .i64 1] rfl (by (try simp only [List.map_toArray, List.map_cons, List.map_nil]); first | done | (rw [show t222.length = t215.length from (Kd.R_reads' HO_220000.out).1.symm] <;> rfl) | rfl | (simp only [List.length_drop, List.length_take]; rfl)) ?_; (with_reducible refine (laws_heldPuzzle.calls kj4 _ _ t222 1 t223 _ ?side1 ?side2 A27.out).mono ?_); (case side1 => repeat (first | exact (Kd.R_reads' HO_220000.out).2.2 | (with_reducible refine Kd.C_alloc ?_ _) | (with_reducible refine Kd.C_drewN ?_ _) | (with_reducible refine Kd.C_drew ?_))); (case side2 => rw [show t222.length = t215.length from (Kd.R_reads' HO_220000.out).1.symm]; exact (Kd.R_reads' HO_220000.out).2.1); rintro e w36 ⟨rfl, hb⟩; refine ⟨_, rfl, ?_⟩; have n0_ := Aside0.mk (Kd.R_below (Lam.rq HO_215000.out) hb); have n1_ := Aside0.mk (Kd.R_below (Lam.rq HO_220000.out) hb); have n2_ := Aside0.mk (blk_below (g := gb214) (o := .cells #[.slice Ao8 t210.length co8] 30 (0, 0)) (Lam.bq BK214.out) hb); have n3_ := Aside0.mk (blk_below (g := gb219) (o := .cells #[.slice Ao12 t215.length co12] 30 (0, 0)) (Lam.bq BK219.out) hb); have n4_ := Aside0.mk (below_step (Lam.al) hb); clear HO_215000; clear HO_220000; clear BK214; clear BK219; clear HB; have HO_215000 := n0_; have HO_220000 := n1_; have BK214 := n2_; have BK219 := n3_; have HB := n4_; clear n0_ n1_ n2_ n3_ n4_; (try clear hb); (try clear hb2); (try clear hk); (try clear hi)) | ((with_reducible refine gate_callee (f := 11) rfl ?_); refine goesL_ (some 46) rfl rfl Tryd.func11 (by kernel_rfl) rfl #[.string a0] rfl (by (try simp only [List.map_toArray, List.map_cons, List.map_nil]); first | done | rfl | (simp only [List.length_drop, List.length_take]; rfl)) ?_; (with_reducible refine (impl_ParsePuzzle.calls kj4 a0 t224 t225 _ (HTAB.out _ Lam.al) A30.out).mono ?_); rintro e w37 ⟨v226, rfl, ho0, hb⟩; refine ⟨_, rfl, ?_⟩; have n0_ := Aside0.mk (Kd.R_elder' (Lam.rq HO_215000.out) (Kd.R_base ho0) hb); have n1_ := Aside0.mk (Kd.R_elder' (Lam.rq HO_220000.out) (Kd.R_base ho0) hb); have n2_ := Aside0.mk (Kd.R_lower (Kd.R_new' (Kd.R_new' ho0 (Kd.R_lt (Lam.rq HO_215000.out))) (Kd.R_lt (Lam.rq HO_220000.out))) (below_size (Lam.al))); have n3_ := Aside0.mk (blk_below (g := gb214) (o := .cells #[.slice Ao8 t210.length co8] 30 (0, 0)) (Lam.bq BK214.out) hb); have n4_ := Aside0.mk (blk_below (g := gb219) (o := .cells #[.slice Ao12 t215.length co12] 30 (0, 0)) (Lam.bq BK219.out) hb); have n5_ := Aside0.mk (below_step (Lam.al) hb); clear HO_215000; clear HO_220000; clear BK214; clear BK219; clear HB; have HO_215000 := n0_; have HO_220000 := n1_; have HO227 := n2_; have BK214 := n3_; have BK219 := n4_; have HB := n5_; clear n0_ n1_ n2_ n3_ n4_ n5_; (try clear hb); (try clear hb2); (try clear hk); (try clear hi); (try clear ho0)) | ((with_reducible refine gate_dst (N := 9) rfl ?_); refine box_event ?hg (N := 9) ?hd (cs := #[.slice none 0 0]) (t := 30) ?hr ?_; (case hd => rfl); (case hg => rfl); (case hr => first | (go_simp; done) | (go_simp; rfl)); intro gb228 hg w38 hbox hb; have n0_ := Aside0.mk (Kd.R_below (Lam.rq HO_215000.out) hb); have n1_ := Aside0.mk (Kd.R_below (Lam.rq HO_220000.out) hb); have n2_ := Aside0.mk (Kd.R_below (Lam.rq HO227.out) hb); have n3_ := Aside0.mk (blk_below (g := gb214) (o := .cells #[.slice Ao8 t210.length co8] 30 (0, 0)) (Lam.bq BK214.out) hb); have n4_ := Aside0.mk (blk_below (g := gb219) (o := .cells #[.slice Ao12 t215.length co12] 30 (0, 0)) (Lam.bq BK219.out) hb); have n5_ := Aside0.mk (below_step (Lam.al) hb); have n6_ := Aside0.mk (hbox); have n7_ := Aside0.mk ((by rw [hg]; exact (below_size (Lam.al)) : w.heap.size ≤ gb228)); have n8_ := Aside0.mk ((by rw [hg]; exact (below_size (Lam.al)) : w.heap.size ≤ gb228)); have n9_ := Aside0.mk ((by rw [hg]; exact Nat.ne_of_lt (blk_lt (g := gb214) (o := .cells #[.slice Ao8 t210.length co8] 30 (0, 0)) (Lam.bq BK214.out)) : gb214 ≠ gb228)); have n10_ := Aside0.mk ((by rw [hg]; exact Nat.ne_of_gt (blk_lt (g := gb214) (o := .cells #[.slice Ao8 t210.length co8] 30 (0, 0)) (Lam.bq BK214.out)) : gb228 ≠ gb214)); have n11_ := Aside0.mk ((by rw [hg]; exact Nat.ne_of_lt (blk_lt (g := gb219) (o := .cells #[.slice Ao12 t215.length co12] 30 (0, 0)) (Lam.bq BK219.out)) : gb219 ≠ gb228)); have n12_ := Aside0.mk ((by rw [hg]; exact Nat.ne_of_gt (blk_lt (g := gb219) (o := .cells #[.slice Ao12 t215.length co12] 30 (0, 0)) (Lam.bq BK219.out)) : gb228 ≠ gb219)); clear HO_215000; clear HO_220000; clear HO227; clear BK214; clear BK219; clear HB; have HO_215000 := n0_; have HO_220000 := n1_; have HO227 := n2_; have BK214 := n3_; have BK219 := n4_; have HB := n5_; have BK228 := n6_; have GW228 := n7_; have GE228 := n8_; have NB214_228 := n9_; have NB228_214 := n10_; have NB219_228 := n11_; have NB228_219 := n12_; clear n0_ n1_ n2_ n3_ n4_ n5_ n6_ n7_ n8_ n9_ n10_ n11_ n12_; clear hb hbox hg; obtain ⟨Ao39, co39, eo39⟩ := Kd.R_slice HO227.out; subst eo39; have hnb40 := NB228_214.out; have hnc40 := NB214_228.out; have hnb41 := NB228_219.out; have hnc41 := NB219_228.out; have hcz42_0 : w38.cell? ⟨gb228, 0, none⟩ = some (.slice none 0 0) := (blk_cell BK228.out 0).trans rfl; have hfz42_0 := blk_frozen BK228.out 0))
       (try simp only [Act.put, Lam.pa, Lam.pb, Lam.pc])
       go_cut [57] (fun v57 wc => ∃ (kq : Nat) (x57_30 : Bool), v57 = .bool x57_30 ∧ Aside0 (laws_FnExactParsePuzzle.j1 kq t221 x57_30 t222 = some r) ∧ Aside0 (kq ≤ kj4) ∧ Aside0 (Kd.R k47 47 wc w.heap.size (fun k_ => some k_ ≠ ((.slice Ao12 t215.length co12) : Value).ownBlock ∧ some k_ ≠ ((.slice Ao39 t224.length co39) : Value).ownBlock) (.slice Ao8 t210.length co8) t210) ∧ Aside0 (Kd.R k47 47 wc w.heap.size (fun k_ => some k_ ≠ ((.slice Ao8 t210.length co8) : Value).ownBlock ∧ some k_ ≠ ((.slice Ao39 t224.length co39) : Value).ownBlock) (.slice Ao12 t215.length co12) t222) ∧ Aside0 (Kd.R k47 47 wc w.heap.size (fun k_ => some k_ ≠ ((.slice Ao8 t210.length co8) : Value).ownBlock ∧ some k_ ≠ ((.slice Ao12 t215.length co12) : Value).ownBlock) (.slice Ao39 t224.length co39) t224) ∧ Aside0 (wc.heap[gb214]? = some (.cells #[(.slice Ao8 t210.length co8)] 30 (0, 0))) ∧ Aside0 (wc.heap[gb219]? = some (.cells #[(.slice Ao12 t215.length co12)] 30 (0, 0))) ∧ Aside0 (wc.heap[gb228]? = some (.cells #[(.slice Ao39 t224.length co39)] 30 (0, 0))) ∧ Aside0 (Below w.heap.size w wc))
       case first =>
        have H := HC31.out
        clear HC31
        replace H := Option.bind_eq_some_iff.mp H
        obtain ⟨t229, A430, H⟩ := H
        (try dsimp only at H)
        have A43 := Aside0.mk A430
        clear A430
        by_cases c44 : t229 = true
        ·subst c44
         have H1 : (laws_FnExactParsePuzzle.j1 kj4 t221 (t225 != t213) t222) = some r := by rw [if_pos rfl] at H; exact H
         clear H
         have H := H1
         clear H1
         have H' := Aside0.mk H
         clear H
         have hnb45 := NB228_214.out
         have hnc45 := NB214_228.out
         have hnb46 := NB228_219.out
         have hnc46 := NB219_228.out
         have hcz47_0 : w38.cell? ⟨gb228, 0, none⟩ = some (.slice none 0 0) := (blk_cell BK228.out 0).trans rfl
         have hfz47_0 := blk_frozen BK228.out 0
         have hnb48 := NB214_219.out
         have hnc48 := NB219_214.out
         have hcz49_0 : w38.cell? ⟨gb214, 0, none⟩ = some (.slice Ao8 t210.length co8) := (blk_cell BK214.out 0).trans rfl
         have hfz49_0 := blk_frozen BK214.out 0
         go_wp2_with (first | ((with_reducible refine gate_callee (f := 12) rfl ?_); refine goesL_ (some 51) rfl rfl Tryd.func12 (by kernel_rfl) rfl #[.agg #[.slice Ao39 t224.length co39], .agg #[.slice Ao8 t210.length co8]] rfl (by (try simp only [List.map_toArray, List.map_cons, List.map_nil]); first | done | rfl | (simp only [List.length_drop, List.length_take]; rfl)) ?_; (with_reducible refine (laws_eqPuzzle.calls kj4 _ _ t224 _ _ t210 true _ ?side1 ?side2 ?side3 ?side4 A43.out).mono ?_); (case side1 => refine (Kd.R_reads' (e := 47) (base := w.heap.size) (ok := fun k_ => ((True ∧ some k_ ≠ (.slice Ao8 t210.length co8 : Value).ownBlock) ∧ some k_ ≠ (.slice Ao12 t215.length co12 : Value).ownBlock)) (n := t224.length) (c := co39) ?_).2.2; exact (by (with_reducible repeat (first | apply Kd.R_alloc | apply Kd.R_drewN | apply Kd.R_drew)); exact (Kd.R_mono (Kd.R_far (p := ⟨gb228, 0, none⟩) (Kd.R_types HO227.out BK228.out (by decide)) (fun _ hk => hk.2) (.slice Ao39 t224.length co39)) (fun _ h_ => h_.1)))); (case side2 => exact (Kd.R_reads' HO227.out).2.1); (case side3 => refine (Kd.R_reads' (e := 47) (base := w.heap.size) (ok := fun k_ => (some k_ ≠ (.slice Ao12 t215.length co12 : Value).ownBlock ∧ some k_ ≠ (.slice Ao39 t224.length co39 : Value).ownBlock)) (n := t210.length) (c := co8) ?_).2.2; exact (by (with_reducible repeat (first | apply Kd.R_alloc | apply Kd.R_drewN | apply Kd.R_drew)); exact (Kd.R_mono (Kd.R_far (p := ⟨gb228, 0, none⟩) (Kd.R_types HO_215000.out BK228.out (by decide)) (fun _ hk => hk.2) (.slice Ao39 t224.length co39)) (fun _ h_ => h_.1)))); (case side4 => exact (Kd.R_reads' HO_215000.out).2.1); rintro e w50 ⟨rfl, hb⟩; refine ⟨_, rfl, ?_⟩; have n0_ := Aside0.mk (Kd.R_below (by (with_reducible repeat (first | apply Kd.R_alloc | apply Kd.R_drewN | apply Kd.R_drew)); exact (Kd.R_mono (Kd.R_far (p := ⟨gb228, 0, none⟩) (Kd.R_types HO_215000.out BK228.out (by decide)) (fun _ hk => hk.2) (.slice Ao39 t224.length co39)) (fun _ h_ => h_.1))) hb); have n1_ := Aside0.mk (Kd.R_below (by (with_reducible repeat (first | apply Kd.R_alloc | apply Kd.R_drewN | apply Kd.R_drew)); exact (Kd.R_mono (Kd.R_far (p := ⟨gb228, 0, none⟩) (Kd.R_types HO_220000.out BK228.out (by decide)) (fun _ hk => hk.2) (.slice Ao39 t224.length co39)) (fun _ h_ => h_.1))) hb); have n2_ := Aside0.mk (Kd.R_below (by (with_reducible repeat (first | apply Kd.R_alloc | apply Kd.R_drewN | apply Kd.R_drew)); exact (Kd.R_mono (Kd.R_far (p := ⟨gb228, 0, none⟩) (Kd.R_types HO227.out BK228.out (by decide)) (fun _ hk => hk.2) (.slice Ao39 t224.length co39)) (fun _ h_ => h_.1))) hb); have n3_ := Aside0.mk (blk_below (g := gb214) (o := .cells #[.slice Ao8 t210.length co8] 30 (0, 0)) (by (with_reducible repeat (first | refine blk_drewN ?_ _ | refine blk_drew ?_ | refine blk_alloc ?_ _)); refine blk_far ?_ NB214_228.out _; (with_reducible repeat (first | refine blk_drewN ?_ _ | refine blk_drew ?_ | refine blk_alloc ?_ _)); exact BK214.out) hb); have n4_ := Aside0.mk (blk_below (g := gb219) (o := .cells #[.slice Ao12 t215.length co12] 30 (0, 0)) (by (with_reducible repeat (first | refine blk_drewN ?_ _ | refine blk_drew ?_ | refine blk_alloc ?_ _)); refine blk_far ?_ NB219_228.out _; (with_reducible repeat (first | refine blk_drewN ?_ _ | refine blk_drew ?_ | refine blk_alloc ?_ _)); exact BK219.out) hb); have n5_ := Aside0.mk (blk_below (g := gb228) (o := .cells #[.slice Ao39 t224.length co39] 30 (0, 0)) (by (with_reducible repeat (first | refine blk_drewN ?_ _ | refine blk_drew ?_ | refine blk_alloc ?_ _)); refine blk_put (cs := #[.slice none 0 0]) ?_ 0 _ rfl; (with_reducible repeat (first | refine blk_drewN ?_ _ | refine blk_drew ?_ | refine blk_alloc ?_ _)); exact BK228.out) hb); have n6_ := Aside0.mk (below_step (Lam.al) hb); clear HO_215000; clear HO_220000; clear HO227; clear BK214; clear BK219; clear BK228; clear HB; have HO_215000 := n0_; have HO_220000 := n1_; have HO227 := n2_; have BK214 := n3_; have BK219 := n4_; have BK228 := n5_; have HB := n6_; clear n0_ n1_ n2_ n3_ n4_ n5_ n6_; (try clear hb); (try clear hb2); (try clear hk); (try clear hi)))
         go_meet
         case rel => exact ⟨_, ((t225 != t213)), (by first | rfl | (simp; done) | (simp [*]; done)), H', ⟨by have := HJ4.out; first | omega | exact Nat.le_refl _⟩, ⟨Lam.rq HO_215000.out⟩, ⟨Lam.rq HO_220000.out⟩, ⟨by (with_reducible repeat (first | apply Kd.R_alloc | apply Kd.R_drewN | apply Kd.R_drew)); exact Kd.R_mono HO227.out (fun _ hk => ⟨hk.1.2, hk.2⟩)⟩, ⟨Lam.bq BK214.out⟩, ⟨Lam.bq BK219.out⟩, ⟨Lam.bq BK228.out⟩, ⟨Lam.al⟩⟩
        ·replace c44 := Bool.eq_false_iff.mpr c44
         subst c44
         have H1 : (laws_FnExactParsePuzzle.j1 kj4 t221 true t222) = some r := by rw [if_neg (show ¬ (false = true) by decide)] at H; exact H
         clear H
         have H := H1
         clear H1
         have H' := Aside0.mk H
         clear H
         have hnb51 := NB228_214.out
         have hnc51 := NB214_228.out
         have hnb52 := NB228_219.out
         have hnc52 := NB219_228.out
         have hcz53_0 : w38.cell? ⟨gb228, 0, none⟩ = some (.slice none 0 0) := (blk_cell BK228.out 0).trans rfl
         have hfz53_0 := blk_frozen BK228.out 0
         have hnb54 := NB214_219.out
         have hnc54 := NB219_214.out
         have hcz55_0 : w38.cell? ⟨gb214, 0, none⟩ = some (.slice Ao8 t210.length co8) := (blk_cell BK214.out 0).trans rfl
         have hfz55_0 := blk_frozen BK214.out 0
         go_wp2_with (first | ((with_reducible refine gate_callee (f := 12) rfl ?_); refine goesL_ (some 51) rfl rfl Tryd.func12 (by kernel_rfl) rfl #[.agg #[.slice Ao39 t224.length co39], .agg #[.slice Ao8 t210.length co8]] rfl (by (try simp only [List.map_toArray, List.map_cons, List.map_nil]); first | done | rfl | (simp only [List.length_drop, List.length_take]; rfl)) ?_; (with_reducible refine (laws_eqPuzzle.calls kj4 _ _ t224 _ _ t210 false _ ?side1 ?side2 ?side3 ?side4 A43.out).mono ?_); (case side1 => refine (Kd.R_reads' (e := 47) (base := w.heap.size) (ok := fun k_ => ((True ∧ some k_ ≠ (.slice Ao8 t210.length co8 : Value).ownBlock) ∧ some k_ ≠ (.slice Ao12 t215.length co12 : Value).ownBlock)) (n := t224.length) (c := co39) ?_).2.2; exact (by (with_reducible repeat (first | apply Kd.R_alloc | apply Kd.R_drewN | apply Kd.R_drew)); exact (Kd.R_mono (Kd.R_far (p := ⟨gb228, 0, none⟩) (Kd.R_types HO227.out BK228.out (by decide)) (fun _ hk => hk.2) (.slice Ao39 t224.length co39)) (fun _ h_ => h_.1)))); (case side2 => exact (Kd.R_reads' HO227.out).2.1); (case side3 => refine (Kd.R_reads' (e := 47) (base := w.heap.size) (ok := fun k_ => (some k_ ≠ (.slice Ao12 t215.length co12 : Value).ownBlock ∧ some k_ ≠ (.slice Ao39 t224.length co39 : Value).ownBlock)) (n := t210.length) (c := co8) ?_).2.2; exact (by (with_reducible repeat (first | apply Kd.R_alloc | apply Kd.R_drewN | apply Kd.R_drew)); exact (Kd.R_mono (Kd.R_far (p := ⟨gb228, 0, none⟩) (Kd.R_types HO_215000.out BK228.out (by decide)) (fun _ hk => hk.2) (.slice Ao39 t224.length co39)) (fun _ h_ => h_.1)))); (case side4 => exact (Kd.R_reads' HO_215000.out).2.1); rintro e w56 ⟨rfl, hb⟩; refine ⟨_, rfl, ?_⟩; have n0_ := Aside0.mk (Kd.R_below (by (with_reducible repeat (first | apply Kd.R_alloc | apply Kd.R_drewN | apply Kd.R_drew)); exact (Kd.R_mono (Kd.R_far (p := ⟨gb228, 0, none⟩) (Kd.R_types HO_215000.out BK228.out (by decide)) (fun _ hk => hk.2) (.slice Ao39 t224.length co39)) (fun _ h_ => h_.1))) hb); have n1_ := Aside0.mk (Kd.R_below (by (with_reducible repeat (first | apply Kd.R_alloc | apply Kd.R_drewN | apply Kd.R_drew)); exact (Kd.R_mono (Kd.R_far (p := ⟨gb228, 0, none⟩) (Kd.R_types HO_220000.out BK228.out (by decide)) (fun _ hk => hk.2) (.slice Ao39 t224.length co39)) (fun _ h_ => h_.1))) hb); have n2_ := Aside0.mk (Kd.R_below (by (with_reducible repeat (first | apply Kd.R_alloc | apply Kd.R_drewN | apply Kd.R_drew)); exact (Kd.R_mono (Kd.R_far (p := ⟨gb228, 0, none⟩) (Kd.R_types HO227.out BK228.out (by decide)) (fun _ hk => hk.2) (.slice Ao39 t224.length co39)) (fun _ h_ => h_.1))) hb); have n3_ := Aside0.mk (blk_below (g := gb214) (o := .cells #[.slice Ao8 t210.length co8] 30 (0, 0)) (by (with_reducible repeat (first | refine blk_drewN ?_ _ | refine blk_drew ?_ | refine blk_alloc ?_ _)); refine blk_far ?_ NB214_228.out _; (with_reducible repeat (first | refine blk_drewN ?_ _ | refine blk_drew ?_ | refine blk_alloc ?_ _)); exact BK214.out) hb); have n4_ := Aside0.mk (blk_below (g := gb219) (o := .cells #[.slice Ao12 t215.length co12] 30 (0, 0)) (by (with_reducible repeat (first | refine blk_drewN ?_ _ | refine blk_drew ?_ | refine blk_alloc ?_ _)); refine blk_far ?_ NB219_228.out _; (with_reducible repeat (first | refine blk_drewN ?_ _ | refine blk_drew ?_ | refine blk_alloc ?_ _)); exact BK219.out) hb); have n5_ := Aside0.mk (blk_below (g := gb228) (o := .cells #[.slice Ao39 t224.length co39] 30 (0, 0)) (by (with_reducible repeat (first | refine blk_drewN ?_ _ | refine blk_drew ?_ | refine blk_alloc ?_ _)); refine blk_put (cs := #[.slice none 0 0]) ?_ 0 _ rfl; (with_reducible repeat (first | refine blk_drewN ?_ _ | refine blk_drew ?_ | refine blk_alloc ?_ _)); exact BK228.out) hb); have n6_ := Aside0.mk (below_step (Lam.al) hb); clear HO_215000; clear HO_220000; clear HO227; clear BK214; clear BK219; clear BK228; clear HB; have HO_215000 := n0_; have HO_220000 := n1_; have HO227 := n2_; have BK214 := n3_; have BK219 := n4_; have BK228 := n5_; have HB := n6_; clear n0_ n1_ n2_ n3_ n4_ n5_ n6_; (try clear hb); (try clear hb2); (try clear hk); (try clear hi)))
         go_meet
         case rel => exact ⟨_, (true), (by first | rfl | (simp; done) | (simp [*]; done)), H', ⟨by have := HJ4.out; first | omega | exact Nat.le_refl _⟩, ⟨Lam.rq HO_215000.out⟩, ⟨Lam.rq HO_220000.out⟩, ⟨by (with_reducible repeat (first | apply Kd.R_alloc | apply Kd.R_drewN | apply Kd.R_drew)); exact Kd.R_mono HO227.out (fun _ hk => ⟨hk.1.2, hk.2⟩)⟩, ⟨Lam.bq BK214.out⟩, ⟨Lam.bq BK219.out⟩, ⟨Lam.bq BK228.out⟩, ⟨Lam.al⟩⟩
       case rest =>
        clear HC31
        try clear c2
        try clear c2b0
        try clear c2b1
        try clear c25
        try clear c28
        try clear c28b0
        try clear c29
        try clear c29b0
        try clear c29b1
        try clear hcz14_0
        try clear hcz33_0
        try clear hcz35_0
        try clear hcz42_0
        try clear hcz9_0
        try clear hfz14_0
        try clear hfz33_0
        try clear hfz35_0
        try clear hfz42_0
        try clear hfz9_0
        obtain ⟨kq, x57_30, rfl, HA, HJ30, HO_215000, HO_220000, HO_229000, BK214, BK219, BK228, HB⟩ := hcut
        have hl220000_30 := (Kd.R_reads' HO_220000.out).1
        rw [hl220000_30] at HO_220000
        (try simp only [hl220000_30])
        (try simp only [hl220000_30] at BK214)
        (try simp only [hl220000_30] at BK219)
        (try simp only [hl220000_30] at BK228)
        (try simp only [hl220000_30] at HO_215000)
        (try simp only [hl220000_30] at HO_229000)
        cases kq with
        | zero => exact absurd HA.out (by simp [laws_FnExactParsePuzzle.j1])
        | succ kj30 =>
         have H := HA.out
         clear HA
         simp only [laws_FnExactParsePuzzle.j1] at H
         by_cases c57 : x57_30 = true
         ·subst c57
          have H1 : (none) = some r := by rw [if_pos rfl] at H; exact H
          clear H
          have H := H1
          clear H1
          exact absurd H (by simp)
         ·replace c57 := Bool.eq_false_iff.mpr c57
          subst c57
          rw [if_neg (show ¬ (false = true) by decide)] at H
          replace H := Option.bind_eq_some_iff.mp H
          obtain ⟨t230, A580, H⟩ := H
          replace H : (if t230 < 0 then (none) else (if t230 = t221 then (some true) else (none))) = some r := H
          have A58 := Aside0.mk A580
          clear A580
          by_cases c59 : t230 < 0
          ·rw [if_pos c59] at H
           exact absurd H (by simp)
          ·rw [if_neg c59] at H
           have c59b0 : decide (t230 < 0) = false := decide_eq_false c59
           clear c59
           by_cases c60 : t230 = t221
           ·rw [if_pos c60] at H
            have c60b0 : (t230 == t221) = true := beq_iff_eq.mpr c60
            have c60b1 : (t230 != t221) = false := bne_eq_false_iff_eq.mpr c60
            clear c60
            obtain rfl := Option.some.inj H
            have hnb61 := NB219_214.out
            have hnc61 := NB214_219.out
            have hnb62 := NB219_228.out
            have hnc62 := NB228_219.out
            have hcz63_0 : wc.cell? ⟨gb219, 0, none⟩ = some (.slice Ao12 t222.length co12) := (blk_cell BK219.out 0).trans rfl
            have hfz63_0 := blk_frozen BK219.out 0
            go_wp2_with (first | ((with_reducible refine gate_callee (f := 14) rfl ?_); refine goesL_ (some 60) rfl rfl Tryd.func14 (by kernel_rfl) rfl #[.agg #[.slice Ao12 t222.length co12], .int .i64 1] rfl (by (try simp only [List.map_toArray, List.map_cons, List.map_nil]); first | done | rfl | (simp only [List.length_drop, List.length_take]; rfl)) ?_; (with_reducible refine (laws_heldPuzzle.calls kj30 _ _ t222 1 t230 _ ?side1 ?side2 A58.out).mono ?_); (case side1 => repeat (first | exact (Kd.R_reads' HO_220000.out).2.2 | (with_reducible refine Kd.C_alloc ?_ _) | (with_reducible refine Kd.C_drewN ?_ _) | (with_reducible refine Kd.C_drew ?_))); (case side2 => exact (Kd.R_reads' HO_220000.out).2.1); rintro e w64 ⟨rfl, hb⟩; refine ⟨_, rfl, ?_⟩; have n0_ := Aside0.mk (Kd.R_below (Lam.rq HO_215000.out) hb); have n1_ := Aside0.mk (Kd.R_below (Lam.rq HO_220000.out) hb); have n2_ := Aside0.mk (Kd.R_below (Lam.rq HO_229000.out) hb); have n3_ := Aside0.mk (blk_below (g := gb214) (o := .cells #[.slice Ao8 t210.length co8] 30 (0, 0)) (Lam.bq BK214.out) hb); have n4_ := Aside0.mk (blk_below (g := gb219) (o := .cells #[.slice Ao12 t222.length co12] 30 (0, 0)) (Lam.bq BK219.out) hb); have n5_ := Aside0.mk (blk_below (g := gb228) (o := .cells #[.slice Ao39 t224.length co39] 30 (0, 0)) (Lam.bq BK228.out) hb); have n6_ := Aside0.mk (below_step (Lam.al) hb); clear HO_215000; clear HO_220000; clear HO_229000; clear BK214; clear BK219; clear BK228; clear HB; have HO_215000 := n0_; have HO_220000 := n1_; have HO_229000 := n2_; have BK214 := n3_; have BK219 := n4_; have BK228 := n5_; have HB := n6_; clear n0_ n1_ n2_ n3_ n4_ n5_ n6_; (try clear hb); (try clear hb2); (try clear hk); (try clear hi)))
            go_ret
            exact ⟨by first | rfl | (simp [errW_none, errW_some] <;> rfl) | (simp [*, errW_none, errW_some] <;> rfl), Lam.al⟩
           ·rw [if_neg c60] at H
            exact absurd H (by simp)
      ·rw [if_neg c29] at H
       exact absurd H (by simp)

/-- THE ONE PURE STATEMENT of laws_FnExactParsePuzzle: yours. -/
def laws_FnExactParsePuzzle.Pure : Prop := ∀ (a0 : ByteArray), a0.size ≤ 140737488351232 → ∃ k, laws_FnExactParsePuzzle.f k a0 = some true


end Go.Proofs.YtejnbnppiipdlaaDoor.PFnExactParsePuzzle
