-- Made by a program of this session (wip/xprint.py) out of the translation.
import Derived.Test.YtdikeggkfkkajaaDoorPFnExactSolutionsx0
import Derived.Test.YtdikeggkfkkajaaDoorPFnExactSolutionsx6
import Derived.Test.YtdikeggkfkkajaaDoorPFnExactSolutionsx7
namespace Go.Proofs.YtdikeggkfkkajaaDoor.PFnExactSolutions
open Go.RowKit Go.Proofs.YtdikeggkfkkajaaDoorW.PrintWords Go.Proofs.YtdikeggkfkkajaaDoorW.PrintLast Go.Proofs.YtdikeggkfkkajaaDoorW.PrintMore
attribute [local go_sem] max2_int min2_int max_two min_two max_three min_three max_four min_four   -- for this text's walks alone
set_option linter.unusedVariables false
set_option linter.unusedSimpArgs false

/-! ### impl_chompText: function 113 -/
def impl_chompText.f (k : Nat) (l0 : List Int) : Option (ByteArray) := (impl_joined.f k l0 (⟨#[]⟩ : ByteArray)).bind fun t198 => (some t198)
theorem impl_chompText.mono : ∀ a0 k, LeO (impl_chompText.f k a0) (impl_chompText.f (k + 1) a0) := by
 intro a0 k
 unfold impl_chompText.f
 repeat' first
   | (with_reducible exact impl_joined.mono _ _ _)
   | (with_reducible exact LeO.refl _)
   | (with_reducible exact LeO.none _)
   | (with_reducible refine LeO.ite ?_ ?_)
   | (with_reducible refine LeO.bind ?_ (fun _ => ?_))
   | exact impl_joined.mono _ _ _
   | exact LeO.none _
   | refine LeO.ite ?_ ?_
   | refine LeO.bind ?_ (fun _ => ?_)
set_option maxHeartbeats 8000000 in
set_option maxRecDepth 100000 in
theorem impl_chompText.calls (k : Nat) (A0 : Option Addr) (c0 : Nat) (l0 : List Int) (r : ByteArray) (w : World) (hr0 : Kd.C (Kd.int .i64) w A0 l0.length l0) (hc0 : l0.length ≤ c0) (h : impl_chompText.f k l0 = some r) :
  Calls Tryd.prog 113 #[.slice A0 l0.length c0] w fun e w' => e = .returned (.string r) ∧ Below w.heap.size w w' := by
 have HR0 := Aside0.mk hr0
 have HC0 := Aside0.mk hc0
 clear hr0 hc0
 have HB := Aside0.mk (Below.refl w.heap.size w)
 have H : ((impl_joined.f k l0 (⟨#[]⟩ : ByteArray)).bind fun t198 => (some t198)) = some r := h
 clear h
 replace H := Option.bind_eq_some_iff.mp H
 obtain ⟨t198, A20, H⟩ := H
 replace H : (some t198) = some r := H
 have A2 := Aside0.mk A20
 clear A20
 obtain rfl := Option.some.inj H
 go_enter Tryd.func113, Tryd.ntmps113
 go_wp2_with (first | ((with_reducible refine gate_callee (f := 102) rfl ?_); refine goesL_ (some 4) rfl rfl Tryd.func102 (by kernel_rfl) rfl #[.slice A0 l0.length c0, .string (⟨#[]⟩ : ByteArray)] rfl (by (try simp only [List.map_toArray, List.map_cons, List.map_nil]); first | done | rfl | (simp only [List.length_drop, List.length_take]; rfl)) ?_; (with_reducible refine (impl_joined.calls k _ _ l0 (⟨#[]⟩ : ByteArray) t198 _ ?side1 ?side2 A2.out).mono ?_); (case side1 => repeat (first | exact HR0.out | (with_reducible refine Kd.C_alloc ?_ _) | (with_reducible refine Kd.C_drewN ?_ _) | (with_reducible refine Kd.C_drew ?_))); (case side2 => exact HC0.out); rintro e w3 ⟨rfl, hb⟩; refine ⟨_, rfl, ?_⟩; have n0_ := Aside0.mk (below_step (Lam.al) hb); clear HB; have HB := n0_; clear n0_; (try clear hb); (try clear hb2); (try clear hk); (try clear hi)))
 go_ret
 exact ⟨by first | rfl | (simp [errW_none, errW_some] <;> rfl) | (simp [*, errW_none, errW_some] <;> rfl), Lam.al⟩

/-! ### impl_bites: function 114 -/
mutual
def impl_bites.l0 : Nat → List (List Int) → List Int → Int → Int → Option ((List (List Int)))
 | 0, _, _, _, _ => none
 | k + 1, x3, x8, x9, x10 => if x10 < x9 then (if 0 ≤ x10 then (if x10 < (x8.length : Int) then (impl_bites.l1 k x3 x10 x8 x9 x10 (rd x8 x10) 0) else (none)) else (none)) else (some x3)
def impl_bites.l1 : Nat → List (List Int) → Int → List Int → Int → Int → Int → Int → Option ((List (List Int)))
 | 0, _, _, _, _, _, _, _ => none
 | k + 1, x3, x4, x8, x9, x10, x15, x16 => if x16 < x15 then (if x16 > 0 then (if x3.length < 5864062014805 then (impl_bites.l1 k (x3 ++ [(([x16, x4] : List Int))]) x4 x8 x9 x10 x15 (wrap64 (x16 + 1))) else (none)) else (if x4 > 0 then (if x3.length < 5864062014805 then (impl_bites.l1 k (x3 ++ [(([x16, x4] : List Int))]) x4 x8 x9 x10 x15 (wrap64 (x16 + 1))) else (none)) else (impl_bites.l1 k x3 x4 x8 x9 x10 x15 (wrap64 (x16 + 1))))) else (impl_bites.l0 k x3 x8 x9 (wrap64 (x10 + 1)))
end
def impl_bites.f (k : Nat) (l0 : List Int) : Option ((List (List Int))) := impl_bites.l0 k (([] : List (List Int))) l0 (l0.length : Int) 0
theorem impl_bites.mono_l : ∀ k, (∀ y0 y1 y2 y3, LeO (impl_bites.l0 k y0 y1 y2 y3) (impl_bites.l0 (k + 1) y0 y1 y2 y3)) ∧ (∀ y0 y1 y2 y3 y4 y5 y6, LeO (impl_bites.l1 k y0 y1 y2 y3 y4 y5 y6) (impl_bites.l1 (k + 1) y0 y1 y2 y3 y4 y5 y6))
 | 0 => ⟨fun _ _ _ _ r h => by simp [impl_bites.l0] at h, fun _ _ _ _ _ _ _ r h => by simp [impl_bites.l1] at h⟩
 | k + 1 => by
  obtain ⟨ih0, ih1⟩ := impl_bites.mono_l k
  refine ⟨?_, ?_⟩
  ·intro y0 y1 y2 y3
   unfold impl_bites.l0
   repeat' first
   | (with_reducible exact ih0 _ _ _ _)
   | (with_reducible exact ih1 _ _ _ _ _ _ _)
   | (with_reducible exact LeO.refl _)
   | (with_reducible exact LeO.none _)
   | (with_reducible refine LeO.ite ?_ ?_)
   | (with_reducible refine LeO.bind ?_ (fun _ => ?_))
   | exact ih0 _ _ _ _
   | exact ih1 _ _ _ _ _ _ _
   | exact LeO.none _
   | refine LeO.ite ?_ ?_
   | refine LeO.bind ?_ (fun _ => ?_)
  ·intro y0 y1 y2 y3 y4 y5 y6
   unfold impl_bites.l1
   repeat' first
   | (with_reducible exact ih0 _ _ _ _)
   | (with_reducible exact ih1 _ _ _ _ _ _ _)
   | (with_reducible exact LeO.refl _)
   | (with_reducible exact LeO.none _)
   | (with_reducible refine LeO.ite ?_ ?_)
   | (with_reducible refine LeO.bind ?_ (fun _ => ?_))
   | exact ih0 _ _ _ _
   | exact ih1 _ _ _ _ _ _ _
   | exact LeO.none _
   | refine LeO.ite ?_ ?_
   | refine LeO.bind ?_ (fun _ => ?_)
theorem impl_bites.mono : ∀ a0 k, LeO (impl_bites.f k a0) (impl_bites.f (k + 1) a0) := by
 intro a0 k
 obtain ⟨ih0, ih1⟩ := impl_bites.mono_l k
 unfold impl_bites.f
 repeat' first
   | (with_reducible exact ih0 _ _ _ _)
   | (with_reducible exact ih1 _ _ _ _ _ _ _)
   | (with_reducible exact LeO.refl _)
   | (with_reducible exact LeO.none _)
   | (with_reducible refine LeO.ite ?_ ?_)
   | (with_reducible refine LeO.bind ?_ (fun _ => ?_))
   | exact ih0 _ _ _ _
   | exact ih1 _ _ _ _ _ _ _
   | exact LeO.none _
   | refine LeO.ite ?_ ?_
   | refine LeO.bind ?_ (fun _ => ?_)
set_option maxHeartbeats 8000000 in
set_option maxRecDepth 100000 in
theorem impl_bites.calls (k : Nat) (A0 : Option Addr) (c0 : Nat) (l0 : List Int) (r : List (List Int)) (w : World) (hr0 : Kd.C (Kd.int .i64) w A0 l0.length l0) (hc0 : l0.length ≤ c0) (h : impl_bites.f k l0 = some r) :
  Calls Tryd.prog 114 #[.slice A0 l0.length c0] w fun e w' => ∃ v0_ : Value, e = .returned (v0_) ∧ Kd.S (Kd.slice 3 (Kd.int .i64)) 38 w' w.heap.size (fun _ => True) v0_ r ∧ Below w.heap.size w w' := by
 have HR0 := Aside0.mk hr0
 have HC0 := Aside0.mk hc0
 clear hr0 hc0
 have HB := Aside0.mk (Below.refl w.heap.size w)
 have H : (impl_bites.l0 k (([] : List (List Int))) l0 (l0.length : Int) 0) = some r := h
 clear h
 obtain ⟨y199, hy199⟩ : ∃ y_ : List (List Int), y_ = (([] : List (List Int))) := ⟨_, rfl⟩
 replace H : (impl_bites.l0 k y199 l0 (l0.length : Int) 0) = some r := by first | (rw [hy199]; with_reducible exact H) | (have H2_ := (Option.bind_some _ _).symm.trans H; rw [hy199]; with_reducible exact H2_) | (have H2_ := (Option.bind_some _ _).symm.trans H; with_reducible exact H2_) | with_reducible exact H | (rw [hy199]; exact H) | exact H
 have Ny199 := Aside0.mk hy199
 clear hy199
 have H' := Aside0.mk H
 clear H
 go_enter Tryd.func114, Tryd.ntmps114
 go_wp2_with (first | ((with_reducible refine gate_dst (N := 7) rfl ?_); refine Kd.S_lit (Kd.slice 3 (Kd.int .i64)) _ 38 ?hg (N := 7) ?hd (xs := ([] : List (List Int))) (inner := []) (ok := fun _ => True) (okp := fun _ => True) ?hr ?hp (fun _ hk => hk) trivial (Below.refl _ _) (Nat.le_refl _) (by simp) ?_; (case hd => rfl); (case hg => rfl); (case hr => first | (go_simp; done) | (go_simp; rfl)); (case hp => exact (Reps.none _ _)); intro v200 w2 ho3 hb hg_ hnew_; clear hg_ hnew_; (first | rw [← Ny199.out] at ho3 | (simp only [Int.reduceToNat] at ho3; rw [← Ny199.out] at ho3)); have n0_ := Aside0.mk (Kd.S_lower ho3 (below_size (Lam.al))); have n1_ := Aside0.mk (below_step (Lam.al) hb); clear HB; have HO201 := n0_; have HB := n1_; clear n0_ n1_; clear hb ho3))
 go_loopg [3, 10] k (fun kq v3 v10 w' => ∃ (x3_1 : List (List Int)) (x10_1 : Int), v10 = .int .i64 x10_1 ∧ Aside0 (impl_bites.l0 kq x3_1 l0 (l0.length : Int) x10_1 = some r) ∧ Aside0 (kq ≤ k) ∧ Aside0 (Kd.S (Kd.slice 3 (Kd.int .i64)) 38 w' w.heap.size (fun _ => True) v3 x3_1) ∧ Aside0 (Below w.heap.size w w'))
 case atStart => exact ⟨(y199), (0), (by first | rfl | (simp; done) | (simp [*]; done)), H', ⟨Nat.le_refl _⟩, ⟨Lam.sq HO201.out⟩, ⟨Lam.al⟩⟩
 case round =>
  clear H'
  try clear c1
  try clear p2
  obtain ⟨x3_1, x10_1, rfl, HA, HK1, HO_3, HB⟩ := hrel
  cases gk with
  | zero => exact absurd HA.out (by simp [impl_bites.l0])
  | succ k1 =>
   have H := HA.out
   clear HA
   simp only [impl_bites.l0] at H
   by_cases c4 : x10_1 < (l0.length : Int)
   ·rw [if_pos c4] at H
    have c4b0 : decide (x10_1 < (l0.length : Int)) = true := decide_eq_true c4
    clear c4
    by_cases c5 : 0 ≤ x10_1
    ·rw [if_pos c5] at H
     have c5b0 : decide (0 ≤ x10_1) = true := decide_eq_true c5
     clear c5
     by_cases c6 : x10_1 < (l0.length : Int)
     ·rw [if_pos c6] at H
      have c6b0 : decide (x10_1 < (l0.length : Int)) = true := decide_eq_true c6
      clear c6
      have H' := Aside0.mk H
      clear H
      have p202 : 0 ≤ (x10_1 : Int) := of_decide_eq_true (by first | (with_reducible assumption) | assumption)
      have q202 : x10_1 < (l0.length : Int) := of_decide_eq_true (by first | (with_reducible assumption) | assumption)
      obtain ⟨ad202, e202, hx202_0⟩ := Kd.at_int HR0.out x10_1 p202 q202
      cases e202
      replace hx202_0 := (HB.out.cell (World.block_lt_of_cell? w _ hx202_0)).trans hx202_0
      replace p202 := eq_true p202
      replace q202 := eq_true q202
      go_wp2
      go_loopg [3, 16] k1 (fun kq v3 v16 w' => ∃ (x3_2 : List (List Int)) (x16_2 : Int), v16 = .int .i64 x16_2 ∧ Aside0 (impl_bites.l1 kq x3_2 x10_1 l0 (l0.length : Int) x10_1 (rd l0 x10_1) x16_2 = some r) ∧ Aside0 (kq ≤ k1) ∧ Aside0 (Kd.S (Kd.slice 3 (Kd.int .i64)) 38 w' w.heap.size (fun _ => True) v3 x3_2) ∧ Aside0 (Below w.heap.size w w'))
      case atStart => exact ⟨(x3_1), (0), (by first | rfl | (simp; done) | (simp [*]; done)), H', ⟨Nat.le_refl _⟩, ⟨Lam.sq HO_3.out⟩, ⟨Lam.al⟩⟩
      case round =>
       clear H'
       try clear c1
       try clear p2
       try clear q2
       try clear hx2
       try clear c4
       try clear c4b0
       try clear c5
       try clear c5b0
       try clear c6
       try clear c6b0
       try clear hx202_0
       try clear p2
       try clear p202
       try clear q202
       obtain ⟨x3_2, x16_2, rfl, HA, HK2, HO_3, HB⟩ := hrel
       cases gk with
       | zero => exact absurd HA.out (by simp [impl_bites.l1])
       | succ k2 =>
        have H := HA.out
        clear HA
        simp only [impl_bites.l1] at H
        by_cases c7 : x16_2 < (rd l0 x10_1)
        ·rw [if_pos c7] at H
         have c7b0 : decide (x16_2 < (rd l0 x10_1)) = true := decide_eq_true c7
         clear c7
         by_cases c8 : x16_2 > 0
         ·rw [if_pos c8] at H
          have c8b0 : decide (0 < x16_2) = true := decide_eq_true c8
          clear c8
          obtain ⟨y203, hy203⟩ : ∃ y_ : List Int, y_ = (([x16_2, x10_1] : List Int)) := ⟨_, rfl⟩
          replace H : (if x3_2.length < 5864062014805 then (impl_bites.l1 k2 (x3_2 ++ [y203]) x10_1 l0 (l0.length : Int) x10_1 (rd l0 x10_1) (wrap64 (x16_2 + 1))) else (none)) = some r := by first | (rw [hy203]; with_reducible exact H) | (have H2_ := (Option.bind_some _ _).symm.trans H; rw [hy203]; with_reducible exact H2_) | (have H2_ := (Option.bind_some _ _).symm.trans H; with_reducible exact H2_) | with_reducible exact H | (rw [hy203]; exact H) | exact H
          have Ny203 := Aside0.mk hy203
          clear hy203
          by_cases c9 : x3_2.length < 5864062014805
          ·rw [if_pos c9] at H
           have LMc9 := Aside0.mk c9
           clear c9
           obtain ⟨y206, hy206⟩ : ∃ y_ : List (List Int), y_ = (x3_2 ++ [y203]) := ⟨_, rfl⟩
           replace H : (impl_bites.l1 k2 y206 x10_1 l0 (l0.length : Int) x10_1 (rd l0 x10_1) (wrap64 (x16_2 + 1))) = some r := by first | (rw [hy206]; with_reducible exact H) | (have H2_ := (Option.bind_some _ _).symm.trans H; rw [hy206]; with_reducible exact H2_) | (have H2_ := (Option.bind_some _ _).symm.trans H; with_reducible exact H2_) | with_reducible exact H | (rw [hy206]; exact H) | exact H
           have Ny206 := Aside0.mk hy206
           clear hy206
           have H' := Aside0.mk H
           clear H
           go_wp2_with (first | ((with_reducible refine gate_dst (N := 28) rfl ?_); refine Kd.R_lit (Kd.int .i64) _ 3 ?hg (N := 28) ?hd (xs := ([x16_2, x10_1] : List Int)) (inner := [.int .i64 x16_2, .int .i64 x10_1]) (ok := fun _ => True) (okp := fun _ => True) ?hr ?hp (fun _ hk => hk) trivial (Below.refl _ _) (Nat.le_refl _) (by simp) ?_; (case hd => rfl); (case hg => rfl); (case hr => first | (go_simp; done) | (go_simp; rfl)); (case hp => exact (Reps.one (show Kd.M (Kd.int .i64) _ _ _ x16_2 [.int .i64 x16_2] from rfl) (Reps.one (show Kd.M (Kd.int .i64) _ _ _ x10_1 [.int .i64 x10_1] from rfl) (Reps.none _ _)))); intro v204 w10 ho11 hb hg_ hnew_; clear hg_ hnew_; (first | rw [← Ny203.out] at ho11 | (simp only [Int.reduceToNat] at ho11; rw [← Ny203.out] at ho11)); have n0_ := Aside0.mk (Kd.S_elder' (Lam.sq HO_3.out) (Kd.R_base ho11) hb); have n1_ := Aside0.mk (Kd.R_lower ho11 (below_size (Lam.al))); have n2_ := Aside0.mk (below_step (Lam.al) hb); clear HO_3; clear HB; have HO_3 := n0_; have HO205 := n1_; have HB := n2_; clear n0_ n1_ n2_; clear hb ho11; obtain ⟨Ao13, co13, eo13⟩ := Kd.R_slice HO205.out; subst eo13) | ((with_reducible refine gate_builtin (b := .append) (xs := #[.tmp 25, .tmp 29]) rfl ?_); at_builtin; refine Kd.S_append (Kd.slice 3 (Kd.int .i64)) (w0 := w) w.heap.size rfl (.tmp 25) (.tmp 29) 26 38 (.slice none 0 0) 24 rfl Tryd.underlying26 info38 rfl (by decide) (by omega) u3 x3_2 y203 [.slice Ao13 y203.length co13] (fun _ => True) (fun k_ => some k_ = (.slice Ao13 y203.length co13 : Value).ownBlock) rfl rfl ?aP (fun k_ hk_ => ((Kd.R_mono (ok' := fun k_ => ((fun _ => True)) k_ ∧ some k_ ≠ (u3 : Value).ownBlock) (Kd.R_apart' (HO205.out) (Kd.S_typed HO_3.out) (by decide)) (fun k_ hk => ⟨trivial, hk.2⟩))).1 k_ hk_.symm) ?aF ?aO ?aB ?aS ?aL ?_; (case aP => exact Kd.M_row (Kd.R_mono (Kd.R_tight rfl (Kd.R_mono (ok' := fun k_ => ((fun _ => True)) k_ ∧ some k_ ≠ (u3 : Value).ownBlock) (Kd.R_apart' (HO205.out) (Kd.S_typed HO_3.out) (by decide)) (fun k_ hk => ⟨trivial, hk.2⟩))) (fun _ h_ => h_))); (case aB => exact (Lam.al)); (case aF => exact (fun _ _ => trivial)); (case aO => exact (by (with_reducible repeat (first | apply Kd.S_alloc | apply Kd.S_drewN | apply Kd.S_drew)); exact Kd.S_mono HO_3.out (fun k_ hk => ⟨trivial, fun e_ => hk.2 e_⟩))); (case aS => exact (below_size (Lam.al))); (case aL => have := LMc9.out; omega); intro v207 w12 ho hb hg hat; rw [← Ny206.out] at ho; have n0_ := Aside0.mk (hb); have n1_ := Aside0.mk (ho); clear HB; clear HO_3; clear HO205; have HB := n0_; have HO208 := n1_; clear n0_ n1_; clear ho hb hg hat))
           go_roundg k2
           case measure => have := HK1.out; have := HK2.out; omega
           case rel => exact ⟨(y206), (wrap64 (x16_2 + 1)), (by first | rfl | (simp; done) | (simp [*]; done)), H', ⟨by have := HK1.out; have := HK2.out; omega⟩, ⟨Lam.sq HO208.out⟩, ⟨Lam.al⟩⟩
          ·rw [if_neg c9] at H
           exact absurd H (by simp)
         ·rw [if_neg c8] at H
          have c8b0 : decide (0 < x16_2) = false := decide_eq_false c8
          clear c8
          by_cases c14 : x10_1 > 0
          ·rw [if_pos c14] at H
           have c14b0 : decide (0 < x10_1) = true := decide_eq_true c14
           clear c14
           obtain ⟨y209, hy209⟩ : ∃ y_ : List Int, y_ = (([x16_2, x10_1] : List Int)) := ⟨_, rfl⟩
           replace H : (if x3_2.length < 5864062014805 then (impl_bites.l1 k2 (x3_2 ++ [y209]) x10_1 l0 (l0.length : Int) x10_1 (rd l0 x10_1) (wrap64 (x16_2 + 1))) else (none)) = some r := by first | (rw [hy209]; with_reducible exact H) | (have H2_ := (Option.bind_some _ _).symm.trans H; rw [hy209]; with_reducible exact H2_) | (have H2_ := (Option.bind_some _ _).symm.trans H; with_reducible exact H2_) | with_reducible exact H | (rw [hy209]; exact H) | exact H
           have Ny209 := Aside0.mk hy209
           clear hy209
           by_cases c15 : x3_2.length < 5864062014805
           ·rw [if_pos c15] at H
            have LMc15 := Aside0.mk c15
            clear c15
            obtain ⟨y212, hy212⟩ : ∃ y_ : List (List Int), y_ = (x3_2 ++ [y209]) := ⟨_, rfl⟩
            replace H : (impl_bites.l1 k2 y212 x10_1 l0 (l0.length : Int) x10_1 (rd l0 x10_1) (wrap64 (x16_2 + 1))) = some r := by first | (rw [hy212]; with_reducible exact H) | (have H2_ := (Option.bind_some _ _).symm.trans H; rw [hy212]; with_reducible exact H2_) | (have H2_ := (Option.bind_some _ _).symm.trans H; with_reducible exact H2_) | with_reducible exact H | (rw [hy212]; exact H) | exact H
            have Ny212 := Aside0.mk hy212
            clear hy212
            have H' := Aside0.mk H
            clear H
            go_wp2_with (first | ((with_reducible refine gate_dst (N := 28) rfl ?_); refine Kd.R_lit (Kd.int .i64) _ 3 ?hg (N := 28) ?hd (xs := ([x16_2, x10_1] : List Int)) (inner := [.int .i64 x16_2, .int .i64 x10_1]) (ok := fun _ => True) (okp := fun _ => True) ?hr ?hp (fun _ hk => hk) trivial (Below.refl _ _) (Nat.le_refl _) (by simp) ?_; (case hd => rfl); (case hg => rfl); (case hr => first | (go_simp; done) | (go_simp; rfl)); (case hp => exact (Reps.one (show Kd.M (Kd.int .i64) _ _ _ x16_2 [.int .i64 x16_2] from rfl) (Reps.one (show Kd.M (Kd.int .i64) _ _ _ x10_1 [.int .i64 x10_1] from rfl) (Reps.none _ _)))); intro v210 w16 ho17 hb hg_ hnew_; clear hg_ hnew_; (first | rw [← Ny209.out] at ho17 | (simp only [Int.reduceToNat] at ho17; rw [← Ny209.out] at ho17)); have n0_ := Aside0.mk (Kd.S_elder' (Lam.sq HO_3.out) (Kd.R_base ho17) hb); have n1_ := Aside0.mk (Kd.R_lower ho17 (below_size (Lam.al))); have n2_ := Aside0.mk (below_step (Lam.al) hb); clear HO_3; clear HB; have HO_3 := n0_; have HO211 := n1_; have HB := n2_; clear n0_ n1_ n2_; clear hb ho17; obtain ⟨Ao19, co19, eo19⟩ := Kd.R_slice HO211.out; subst eo19) | ((with_reducible refine gate_builtin (b := .append) (xs := #[.tmp 25, .tmp 29]) rfl ?_); at_builtin; refine Kd.S_append (Kd.slice 3 (Kd.int .i64)) (w0 := w) w.heap.size rfl (.tmp 25) (.tmp 29) 26 38 (.slice none 0 0) 24 rfl Tryd.underlying26 info38 rfl (by decide) (by omega) u3 x3_2 y209 [.slice Ao19 y209.length co19] (fun _ => True) (fun k_ => some k_ = (.slice Ao19 y209.length co19 : Value).ownBlock) rfl rfl ?aP (fun k_ hk_ => ((Kd.R_mono (ok' := fun k_ => ((fun _ => True)) k_ ∧ some k_ ≠ (u3 : Value).ownBlock) (Kd.R_apart' (HO211.out) (Kd.S_typed HO_3.out) (by decide)) (fun k_ hk => ⟨trivial, hk.2⟩))).1 k_ hk_.symm) ?aF ?aO ?aB ?aS ?aL ?_; (case aP => exact Kd.M_row (Kd.R_mono (Kd.R_tight rfl (Kd.R_mono (ok' := fun k_ => ((fun _ => True)) k_ ∧ some k_ ≠ (u3 : Value).ownBlock) (Kd.R_apart' (HO211.out) (Kd.S_typed HO_3.out) (by decide)) (fun k_ hk => ⟨trivial, hk.2⟩))) (fun _ h_ => h_))); (case aB => exact (Lam.al)); (case aF => exact (fun _ _ => trivial)); (case aO => exact (by (with_reducible repeat (first | apply Kd.S_alloc | apply Kd.S_drewN | apply Kd.S_drew)); exact Kd.S_mono HO_3.out (fun k_ hk => ⟨trivial, fun e_ => hk.2 e_⟩))); (case aS => exact (below_size (Lam.al))); (case aL => have := LMc15.out; omega); intro v213 w18 ho hb hg hat; rw [← Ny212.out] at ho; have n0_ := Aside0.mk (hb); have n1_ := Aside0.mk (ho); clear HB; clear HO_3; clear HO211; have HB := n0_; have HO214 := n1_; clear n0_ n1_; clear ho hb hg hat))
            go_roundg k2
            case measure => have := HK1.out; have := HK2.out; omega
            case rel => exact ⟨(y212), (wrap64 (x16_2 + 1)), (by first | rfl | (simp; done) | (simp [*]; done)), H', ⟨by have := HK1.out; have := HK2.out; omega⟩, ⟨Lam.sq HO214.out⟩, ⟨Lam.al⟩⟩
           ·rw [if_neg c15] at H
            exact absurd H (by simp)
          ·rw [if_neg c14] at H
           have c14b0 : decide (0 < x10_1) = false := decide_eq_false c14
           clear c14
           have H' := Aside0.mk H
           clear H
           go_wp2
           go_roundg k2
           case measure => have := HK1.out; have := HK2.out; omega
           case rel => exact ⟨(x3_2), (wrap64 (x16_2 + 1)), (by first | rfl | (simp; done) | (simp [*]; done)), H', ⟨by have := HK1.out; have := HK2.out; omega⟩, ⟨Lam.sq HO_3.out⟩, ⟨Lam.al⟩⟩
        ·rw [if_neg c7] at H
         have c7b0 : decide (x16_2 < (rd l0 x10_1)) = false := decide_eq_false c7
         clear c7
         have H' := Aside0.mk H
         clear H
         go_wp2
         go_roundg k2
         case measure => have := HK1.out; have := HK2.out; omega
         case rel => exact ⟨(x3_2), (wrap64 (x10_1 + 1)), (by first | rfl | (simp; done) | (simp [*]; done)), H', ⟨by have := HK1.out; have := HK2.out; omega⟩, ⟨Lam.sq HO_3.out⟩, ⟨Lam.al⟩⟩
     ·rw [if_neg c6] at H
      exact absurd H (by simp)
    ·rw [if_neg c5] at H
     exact absurd H (by simp)
   ·rw [if_neg c4] at H
    have c4b0 : decide (x10_1 < (l0.length : Int)) = false := decide_eq_false c4
    clear c4
    obtain rfl := Option.some.inj H
    go_wp2
    go_ret
    exact ⟨_, by first | rfl | (simp [errW_none, errW_some] <;> rfl) | (simp [*, errW_none, errW_some] <;> rfl), by (with_reducible repeat (first | apply Kd.S_alloc | apply Kd.S_drewN | apply Kd.S_drew)); exact HO_3.out, Lam.al⟩

/-! ### slices_DeleteFunc_int_int_84: function 84 -/
set_option maxHeartbeats 8000000 in
set_option maxRecDepth 100000 in
theorem slices_DeleteFunc_int_int_84.idx (I : World → Prop) (g n c gf : Nat) (lb : Array Value) (cur0 : Array Value) (pj : Nat → Bool) (w : World) (eg : ∀ args w, (callFunc gf args).run Tryd.prog w = .ok (.enter gf args) w)
  (hn : n ≤ cur0.size) (h64 : (c : Int) ≤ 9223372036854775807) (hnc : n ≤ c) (hsh : ∀ j, j < n → ∃ y, cur0[j]! = .int .i64 y) (hI : I w) (hg : w.heap[g]? = some (.cells cur0 3 (0, 0)))
  (hp : ∀ j W, j < n → I W → Calls Tryd.prog gf (#[cur0[j]!] ++ lb) W fun e w' => e = .returned (.bool (pj j)) ∧ I w' ∧ w'.heap[g]? = W.heap[g]?) :
  Calls Tryd.prog 116 #[.slice (some ⟨g, 0, none⟩) n c, .func (.func gf) #[] lb] w fun e w' => I w' ∧ w'.heap[g]? = some (.cells cur0 3 (0, 0)) ∧ ((e = .returned (.int .i64 (-1)) ∧ ∀ j, j < n → pj j = false) ∨ ∃ k, k < n ∧ e = .returned (.int .i64 (k : Int)) ∧ pj k = true ∧ ∀ j, j < k → pj j = false) := by
 have hn64 : (n : Int) ≤ 9223372036854775807 := by omega
 have HI := Aside0.mk hI
 have HG := Aside0.mk hg
 have HP := Aside0.mk hp
 have HSH := Aside0.mk hsh
 have HN := Aside0.mk hn
 clear hI hg hp hsh hn hnc
 go_enter Tryd.func116, Tryd.ntmps116
 go_wp2
 go_loopg [5, 8] n (fun gg _ s8 wr => ∃ kk : Nat, kk ≤ n ∧ n - kk ≤ gg ∧ s8 = .int .i64 kk ∧ Aside0 (I wr) ∧ Aside0 (wr.heap[g]? = some (.cells cur0 3 (0, 0))) ∧ Aside0 (∀ j, j < kk → pj j = false))
 case atStart => exact ⟨0, Nat.zero_le _, by omega, rfl, HI, HG, ⟨fun j hj => absurd hj (Nat.not_lt_zero _)⟩⟩
 case round =>
  clear HI HG
  obtain ⟨kk, hkk, hgg, rfl, HI, HG, HA⟩ := hrel
  by_cases hlt : kk < n
  ·have hltz : (kk : Int) < (n : Int) := by omega
   have hx0 : wr.cell? ⟨g, kk, none⟩ = some cur0[kk]! := (blk_cell HG.out kk).trans (Del.arr_at (by have := HN.out; omega))
   have hcall := HP.out kk wr hlt HI.out
   obtain ⟨y, hy⟩ := HSH.out kk hlt
   rw [hy] at hx0 hcall
   clear hy
   cases hq : pj kk with
   | true =>
    rw [hq] at hcall
    have HQ := Aside0.mk hq
    clear hq
    go_wp2_with (go_at_fn gf; refine hcall.mono ?_; rintro e w' ⟨rfl, hi', hg'⟩)
    go_ret
    exact ⟨hi', hg'.trans HG.out, .inr ⟨kk, hlt, rfl, HQ.out, HA.out⟩⟩
   | false =>
    rw [hq] at hcall
    have HQ := Aside0.mk hq
    clear hq
    go_wp2_with (go_at_fn gf; refine hcall.mono ?_; rintro e w' ⟨rfl, hi', hg'⟩)
    go_roundg (n - (kk + 1))
    case measure => omega
    case rel =>
     refine ⟨kk + 1, by omega, by omega, by go_num, ⟨hi'⟩, ⟨hg'.trans HG.out⟩, ⟨fun j hj => ?_⟩⟩
     by_cases e : j = kk
     ·rw [e]; exact HQ.out
     ·exact HA.out j (by omega)
  ·have hltz : ¬ (kk : Int) < (n : Int) := by omega
   obtain rfl : kk = n := by omega
   go_wp2
   go_ret
   exact ⟨HI.out, HG.out, .inl ⟨rfl, HA.out⟩⟩
set_option maxHeartbeats 8000000 in
set_option maxRecDepth 100000 in
theorem slices_DeleteFunc_int_int_84.cells (I : World → Prop) (g n c gf : Nat) (lb : Array Value) (cur0 : Array Value) (pj : Nat → Bool) (w : World) (eg : ∀ args w, (callFunc gf args).run Tryd.prog w = .ok (.enter gf args) w)
  (hn : n ≤ cur0.size) (h64 : (c : Int) ≤ 9223372036854775807) (hnc : n ≤ c) (hsh : ∀ j, j < n → ∃ y, cur0[j]! = .int .i64 y) (hI : I w) (hg : w.heap[g]? = some (.cells cur0 3 (0, 0)))
  (hp : ∀ j W, j < n → I W → Calls Tryd.prog gf (#[cur0[j]!] ++ lb) W fun e w' => e = .returned (.bool (pj j)) ∧ I w' ∧ w'.heap[g]? = W.heap[g]?) (hset : ∀ W W', I W → W.grownBy W' (some g) → I W') :
  Calls Tryd.prog 84 #[.slice (some ⟨g, 0, none⟩) n c, .func (.func gf) #[] lb] w fun e w' => ∃ m, e = .returned (.slice (some ⟨g, 0, none⟩) m c) ∧ I w' ∧ ∃ cur1, w'.heap[g]? = some (.cells cur1 3 (0, 0)) ∧ cur1.size = cur0.size ∧ (Lib.keptUpTo (fun j => !pj j) cur0 n).length = m ∧ cur1.toList.take m = Lib.keptUpTo (fun j => !pj j) cur0 n := by
 have hn64 : (n : Int) ≤ 9223372036854775807 := by omega
 have hn0 : (0 : Int) ≤ (n : Int) := by omega
 have hidx := slices_DeleteFunc_int_int_84.idx I g n c gf lb cur0 pj w eg hn h64 hnc hsh hI hg hp
 obtain ⟨kp, HK⟩ : ∃ kp : Nat → Bool, Aside0 (kp = fun j => !pj j) := ⟨_, ⟨rfl⟩⟩
 rw [← HK.out]
 have HP := Aside0.mk hp
 have HSH := Aside0.mk hsh
 have HN := Aside0.mk hn
 have HNC := Aside0.mk hnc
 have HSET := Aside0.mk hset
 have hv : ∀ w, (zeroValue 3).run Tryd.prog w = .ok ((.int .i64 0)) w := Tryd.zeroValue3
 have HV := Aside0.mk hv
 clear hI hg hp hsh hn hset hv
 have HX := Aside0.mk hidx
 clear hidx
 go_enter Tryd.func84, Tryd.ntmps84
 have GO : ∀ (wi : World) (k0 : Nat), True → True := fun _ _ h => h
 clear GO
 go_wp2_with (go_at_call 116; go_loud (refine HX.out.mono ?_); rintro e w1 ⟨hi1, hg1, h1⟩; have HI := Aside0.mk hi1; have HG := Aside0.mk hg1; clear hi1 hg1; rcases h1 with ⟨rfl, hall⟩ | ⟨k0, hk0, rfl, hk1, hk2⟩)
 ·have HA := Aside0.mk hall
  clear hall
  go_wp2
  go_ret
  have e3 : Lib.keptUpTo kp cur0 n = (List.range n).map (cur0[·]!) := Lib.keptUpTo_all kp cur0 n (fun j hj => by rw [HK.out]; show (!pj j) = true; rw [HA.out j hj]; rfl)
  refine ⟨n, rfl, HI.out, cur0, HG.out, rfl, by rw [e3]; simp, ?_⟩
  rw [e3]
  apply List.ext_getElem
  ·have := HN.out; simp; omega
  ·intro i h1 h2
   have : i < cur0.size := by have := HN.out; simp at h2; omega
   simp [getElem!_pos cur0 i this]
 ·have hneg : ¬ ((k0 : Int) = -1) := by omega
  have hk64 : (k0 : Int) + 1 ≤ 9223372036854775807 := by omega
  have HK1 := Aside0.mk hk1
  have HK2 := Aside0.mk hk2
  clear hk1 hk2
  go_wp2
  go_loopg [5, 6, 7] n (fun gg s5 s6 _ wr => ∃ (i j : Nat) (dk : Array Value), s5 = .int .i64 i ∧ s6 = .int .i64 j ∧ j ≤ n ∧ n - j ≤ gg ∧ Aside0 (I wr) ∧ Aside0 (wr.heap[g]? = some (.cells dk 3 (0, 0))) ∧ Aside0 (Lib.KeptInv kp cur0 j i dk))
  case atStart => exact ⟨k0, k0 + 1, cur0, rfl, by go_num, by omega, by omega, HI, HG, ⟨Lib.KeptInv.start (fun j hj => by rw [HK.out]; show (!pj j) = true; rw [HK2.out j hj]; rfl) (by rw [HK.out]; show (!pj k0) = false; rw [HK1.out]; rfl)⟩⟩
  case round =>
   clear HI HG
   obtain ⟨i, j, dk, rfl, rfl, hjd, hgg, HI, HG, I2⟩ := hrel
   have hij := I2.out.lt
   have hds := Aside0.mk I2.out.size
   by_cases hlt : j < n
   ·have hltz : (j : Int) < (n : Int) := by omega
    have hiz : (i : Int) < (n : Int) := by omega
    have hi0 : (0 : Int) ≤ (i : Int) := by omega
    have hi64 : (i : Int) + 1 ≤ 9223372036854775807 := by omega
    have hx0 : wr.cell? ⟨g, j, none⟩ = some cur0[j]! := (blk_cell HG.out j).trans (by rw [Del.arr_at (by have := HN.out; have := hds.out; omega), I2.out.high j (by omega)])
    have hcall := HP.out j wr hlt HI.out
    obtain ⟨y, hy⟩ := HSH.out j hlt
    rw [hy] at hx0 hcall
    have HY := Aside0.mk hy
    clear hy
    cases hq : pj j with
    | true =>
     rw [hq] at hcall
     have HQ := Aside0.mk hq
     clear hq
     go_wp2_with (go_at_fn gf; refine hcall.mono ?_; rintro e w' ⟨rfl, hi', hg'⟩)
     go_roundg (n - (j + 1))
     case measure => omega
     case rel => exact ⟨i, j + 1, dk, rfl, by go_num, by omega, Nat.le_refl _, ⟨hi'⟩, ⟨hg'.trans HG.out⟩, ⟨I2.out.skip (by rw [HK.out]; show (!pj j) = false; rw [HQ.out]; rfl)⟩⟩
    | false =>
     rw [hq] at hcall
     have HQ := Aside0.mk hq
     clear hq
     go_wp2_with (go_at_fn gf; refine hcall.mono ?_; rintro e w' ⟨rfl, hi', hg'⟩; have hg2 := hg'.trans HG.out; have hci : w'.cell? ⟨g, i, none⟩ = some dk[i]! := (blk_cell hg2 i).trans (Del.arr_at (by have := HN.out; have := hds.out; omega)); have hfi := blk_frozen hg2 i; have HI' := Aside0.mk hi'; have HG' := Aside0.mk hg2; clear hi' hg' hg2)
     go_roundg (n - (j + 1))
     case measure => omega
     case rel =>
      refine ⟨i + 1, j + 1, dk.setIfInBounds i (.int .i64 y), by go_num, by go_num, by omega, Nat.le_refl _, ⟨HSET.out _ _ HI'.out (Del.grown_set HG'.out i _)⟩, ⟨blk_put HG'.out i _ rfl⟩, ⟨?_⟩⟩
      have h2 := I2.out.keep (by have := HN.out; omega) (by rw [HK.out]; show (!pj j) = true; rw [HQ.out]; rfl)
      rwa [HY.out] at h2
   ·obtain rfl : j = n := by omega
    have hltz : ¬ (j : Int) < (j : Int) := by omega
    have hi0 : (0 : Int) ≤ (i : Int) := by omega
    have hic : (i : Int) ≤ (c : Int) := by omega
    have hij2 : (i : Int) ≤ (j : Int) := by omega
    have hicn : i ≤ c := by omega
    have hijn : i ≤ j := by omega
    have hcl : ∀ ty, (Builtin.clear_ #[38] ty #[.slice (some ⟨g, i, none⟩) (j - i) (c - i)]).run Tryd.prog wr = .ok (.tuple #[]) (wr.setCells g i (List.replicate (j - i) ((.int .i64 0)))) :=
     fun ty => Lib.run_clear_slice wr 38 3 ty _ Tryd.underlying38 HV.out rfl rfl g i _ _ (by omega) (fun t ht => by rw [blk_cell HG.out (i + t), Del.arr_at (by have := HN.out; have := hds.out; omega)]; rfl) (fun t ht => blk_frozen HG.out (i + t))
    go_wp2
    go_ret
    obtain ⟨cur1, h3, h4, h5⟩ := Del.set_many (zs := List.replicate (j - i) ((.int .i64 0))) HG.out i (by have := HN.out; have := hds.out; rw [List.length_replicate]; omega)
    refine ⟨i, rfl, HSET.out _ _ HI.out (Del.grown_many HG.out i _), cur1, h3, h4.trans hds.out, I2.out.len, ?_⟩
    rw [h5]
    apply List.ext_getElem?
    intro t
    rw [List.getElem?_take]
    by_cases ht : t < i
    ·rw [if_pos ht, I2.out.low t ht]
     have := Del.arr_at (a := dk) (k := t) (by have := HN.out; have := hds.out; omega)
     rw [← this]; simp
    ·rw [if_neg ht, List.getElem?_eq_none (by rw [I2.out.len]; omega)]
theorem slices_DeleteFunc_int_int_84.ownR (I : World → Prop) (g n c gf base : Nat) (lb : Array Value) (pj : Nat → Bool) (ok : Nat → Prop) (xs : List (Int)) (w : World) (eg : ∀ args w, (callFunc gf args).run Tryd.prog w = .ok (.enter gf args) w)
  (HO : Kd.R ((Kd.int .i64)) 3 w base ok (.slice (some ⟨g, 0, none⟩) n c) xs) (hI : I w) (hset : ∀ W W', I W → W.grownBy W' (some g) → I W') (hkeep : ∀ W, I W → ∀ k, ok k → k ≠ g → k < w.heap.size → W.heap[k]? = w.heap[k]?)
  (hp : ∀ j u W, j < n → I W → (((Kd.int .i64))).M w base (fun k => ok k ∧ k ≠ g) (xs.getD j 0) [u] → Calls Tryd.prog gf (#[u] ++ lb) W fun e w' => e = .returned (.bool (pj j)) ∧ I w' ∧ w'.heap[g]? = W.heap[g]?) :
  Calls Tryd.prog 84 #[.slice (some ⟨g, 0, none⟩) n c, .func (.func gf) #[] lb] w fun e w' => ∃ m, e = .returned (.slice (some ⟨g, 0, none⟩) m c) ∧ I w' ∧ Kd.R ((Kd.int .i64)) 3 w' base ok (.slice (some ⟨g, 0, none⟩) m c) ((Del.places (fun j => !pj j) n).map (fun j => xs.getD j 0)) := by
 obtain ⟨hxn, hnc, hbg, cur0, hg, hn, h64, hK⟩ := Del.row_ofR rfl HO 0
 refine (slices_DeleteFunc_int_int_84.cells I g n c gf lb cur0 pj w eg hn h64 hnc (fun j hj => ?_) hI hg (fun j W hj hW => hp j _ W hj hW (hK j hj)) hset).mono ?_
 ·have h1 := hK j hj
  exact Del.shape_int h1
 ·rintro e w' ⟨m, rfl, hi, cur1, h1, h2, h3, h4⟩
  exact ⟨m, rfl, hi, Del.R_kept rfl HO (hkeep w' hi) hg h1 h2 _ m h3 h4 0⟩
set_option maxHeartbeats 4000000 in
theorem slices_DeleteFunc_int_int_84.nilrow (gf : Nat) (lb : Array Value) (w : World) : Calls Tryd.prog 84 #[.slice none 0 0, .func (.func gf) #[] lb] w fun e w' => e = .returned (.slice none 0 0) ∧ Below w.heap.size w w' := by
 have hI : Calls Tryd.prog 116 #[.slice none 0 0, .func (.func gf) #[] lb] w fun e w' => e = .returned (.int .i64 (-1)) ∧ Below w.heap.size w w' := by
  have HB := Aside0.mk (Below.refl w.heap.size w)
  go_enter Tryd.func116, Tryd.ntmps116
  go_wp2
  go_loopg [5, 8] 0 (fun gg _ s8 wr => s8 = .int .i64 0 ∧ Aside0 (Below w.heap.size w wr))
  case atStart => exact ⟨rfl, HB⟩
  case round =>
   clear HB
   obtain ⟨rfl, HB⟩ := hrel
   go_wp2
   go_ret
   exact ⟨rfl, HB.out⟩
 go_enter Tryd.func84, Tryd.ntmps84
 go_wp2_with (go_at_call 116; refine hI.mono ?_; rintro e w' ⟨rfl, hb⟩)
 go_ret
 exact ⟨rfl, hb⟩
theorem slices_DeleteFunc_int_int_84.ownR2 (I : World → Prop) (gf base : Nat) (lb : Array Value) (pj : Nat → Bool) (ok : Nat → Prop) (xs : List (Int)) (v : Value) (w : World) (eg : ∀ args w, (callFunc gf args).run Tryd.prog w = .ok (.enter gf args) w)
  (HO : Kd.R ((Kd.int .i64)) 3 w base ok v xs) (hI : I w) (hset : ∀ W W', I W → W.grownBy W' v.ownBlock → I W') (hkeep : ∀ W, I W → ∀ k, ok k → some k ≠ v.ownBlock → k < w.heap.size → W.heap[k]? = w.heap[k]?)
  (hp : ∀ j u W, j < xs.length → I W → (((Kd.int .i64))).M w base (fun k => ok k ∧ some k ≠ v.ownBlock) (xs.getD j 0) [u] → Calls Tryd.prog gf (#[u] ++ lb) W fun e w' => e = .returned (.bool (pj j)) ∧ I w' ∧ ∀ g, v.ownBlock = some g → w'.heap[g]? = W.heap[g]?) :
  Calls Tryd.prog 84 #[v, .func (.func gf) #[] lb] w fun e w' => ∃ v', e = .returned v' ∧ I w' ∧ Kd.R ((Kd.int .i64)) 3 w' base ok v' ((Del.places (fun j => !pj j) xs.length).map (fun j => xs.getD j 0)) ∧ v'.ownBlock = v.ownBlock := by
 rcases Del.row_formR HO with ⟨rfl, rfl⟩ | ⟨g, c, rfl⟩
 ·refine (slices_DeleteFunc_int_int_84.nilrow gf lb w).mono ?_
  rintro e w' ⟨rfl, hb⟩
  exact ⟨_, rfl, hset _ _ hI (Del.grown_below hb), Kd.R_nil _ _ _ _ _, rfl⟩
 ·have hgb : ∀ m : Nat, (Value.slice (some ⟨g, 0, none⟩) m c).ownBlock = some g := fun m => by simp [Value.ownBlock]
  rw [hgb] at hset
  refine (slices_DeleteFunc_int_int_84.ownR I g xs.length c gf base lb pj ok xs w eg HO hI hset (fun W hW k hk hne hlt => hkeep W hW k hk (by rw [hgb]; intro h; exact hne (by injection h)) hlt) (fun j u W hj hW hM => ?_)).mono ?_
  ·refine (hp j u W hj hW ((((Kd.int .i64))).M_mono (fun k hk => ⟨hk.1, by rw [hgb]; intro h; exact hk.2 (by injection h)⟩) hM)).mono ?_
   rintro e w' ⟨h1, h2, h3⟩
   exact ⟨h1, h2, h3 g (hgb _)⟩
  ·rintro e w' ⟨m, rfl, h1, h2⟩
   exact ⟨_, rfl, h1, h2, by rw [hgb, hgb]⟩


/-! ### impl_bitten: function 115 -/
set_option maxHeartbeats 4000000 in
theorem impl_bitten.lam (x : Int) (W : World) : Calls Tryd.prog 129 #[.int .i64 x] W fun e w' => e = .returned (.bool (x == 0)) ∧ Drawn0 W w' := by
 have HD := Aside0.mk (Drawn0.refl W)
 go_enter Tryd.func129, Tryd.ntmps129
 go_wp2
 go_ret
 exact ⟨rfl, HD.out⟩
/-- Of the rows from y on those ahead of kk are cut. -/
def impl_bitten.At (l o : List Int) (x : Int) (y kk : Nat) : Prop := o.length = l.length ∧ ∀ i, i < l.length → o.getD i 0 = if y ≤ i ∧ i < kk then (if x < l.getD i 0 then x else l.getD i 0) else l.getD i 0
theorem impl_bitten.at_end {l o : List Int} {x : Int} {y kk : Nat} (h : impl_bitten.At l o x y kk) (hk : l.length ≤ kk) : o = Chomp.cut l x y := by
 apply List.ext_getElem
 ·rw [h.1, Chomp.cut_length]
 ·intro i h1 h2
  have hi : i < l.length := by rw [← h.1]; exact h1
  have e1 := h.2 i hi
  have e2 := Chomp.cut_getD l x y i hi
  rw [List.getD_eq_getElem?_getD, List.getElem?_eq_getElem h1, Option.getD_some] at e1
  rw [List.getD_eq_getElem?_getD, List.getElem?_eq_getElem h2, Option.getD_some] at e2
  rw [e1, e2]
  by_cases c : y ≤ i
  ·rw [if_pos ⟨c, by omega⟩, if_pos c]
  ·rw [if_neg (fun z => c z.1), if_neg c]
theorem impl_bitten.at_start (l : List Int) (x : Int) (y : Nat) : impl_bitten.At l l x y y := ⟨rfl, fun i _ => by rw [if_neg (by omega)]⟩
theorem impl_bitten.at_step {l o : List Int} {x : Int} {y kk : Nat} (h : impl_bitten.At l o x y kk) (hy : y ≤ kk) (hk : kk < l.length) : impl_bitten.At l (o.set kk (if x < o.getD kk 0 then x else o.getD kk 0)) x y (kk + 1) := by
 have e0 := h.2 kk hk
 rw [if_neg (by omega)] at e0
 refine ⟨by rw [List.length_set, h.1], fun i hi => ?_⟩
 rw [List.getD_eq_getElem?_getD, List.getElem?_set]
 by_cases c : kk = i
 ·subst c
  rw [if_pos rfl, if_pos (by rw [h.1]; exact hk), Option.getD_some, e0, if_pos (show y ≤ kk ∧ kk < kk + 1 from ⟨hy, by omega⟩)]
 ·rw [if_neg c, ← List.getD_eq_getElem?_getD, h.2 i hi]
  by_cases d : y ≤ i ∧ i < kk
  ·rw [if_pos d, if_pos (show y ≤ i ∧ i < kk + 1 by omega)]
  ·rw [if_neg d, if_neg (show ¬ (y ≤ i ∧ i < kk + 1) by omega)]
def impl_bitten.f (l0 : List Int) (a1 : Int) (a2 : Int) : Option (List Int) := if 0 ≤ a2 ∧ l0.length < 1000000 then some (Chomp.bit l0 a1 a2.toNat) else none
set_option maxHeartbeats 8000000 in
set_option maxRecDepth 100000 in
theorem impl_bitten.calls (A0 : Option Addr) (c0 : Nat) (l0 : List Int) (a1 : Int) (a2 : Int) (r : List Int) (w : World) (hr0 : Kd.C (Kd.int .i64) w A0 l0.length l0) (hc0 : l0.length ≤ c0) (h : impl_bitten.f l0 a1 a2 = some r) :
  Calls Tryd.prog 115 #[.slice A0 l0.length c0, .int .i64 a1, .int .i64 a2] w fun e w' => ∃ v0_ : Value, e = .returned (v0_) ∧ Kd.R (Kd.int .i64) 3 w' w.heap.size (fun _ => True) v0_ r ∧ Below w.heap.size w w' := by
 have hc : 0 ≤ a2 ∧ l0.length < 1000000 := by
  by_cases hc : 0 ≤ a2 ∧ l0.length < 1000000
  ·exact hc
  ·simp only [impl_bitten.f, if_neg hc] at h; cases h
 simp only [impl_bitten.f, if_pos hc] at h
 obtain rfl := Option.some.inj h
 obtain ⟨y, rfl⟩ := Int.eq_ofNat_of_zero_le hc.1
 rw [Int.toNat_natCast]
 have hown : slices_Clone_int_int.f l0 = some l0 := by unfold slices_Clone_int_int.f; rw [if_pos (by omega)]
 have hcall := slices_Clone_int_int.calls A0 c0 l0 l0 w hr0 hc0 hown
 have HL := Aside0.mk hc.2
 have hl64 : (l0.length : Int) ≤ 9223372036854775807 := by omega
 have eg := enters_of Tryd.func129 (by kernel_rfl) rfl
 have EG := Aside0.mk eg
 clear hr0 hc0 h hc hown eg
 go_enter Tryd.func115, Tryd.ntmps115
 go_wp2_with (go_at_call 85; refine hcall.mono ?_; rintro e w1 ⟨v1, rfl, ho, hb⟩; obtain ⟨A1, c1, e1⟩ := Kd.R_slice ho; subst e1; have HO := Aside0.mk ho; have HB := Aside0.mk hb; clear ho hb hcall)
 go_loopg [8] (l0.length + 1) (fun gg v w' => ∃ (kk : Nat) (o : List Int), y ≤ kk ∧ l0.length + 1 - kk ≤ gg ∧ v = .int .i64 kk ∧ Aside0 (impl_bitten.At l0 o a1 y kk) ∧ Aside0 (Kd.R (Kd.int .i64) 3 w' w.heap.size (fun _ => True) (.slice A1 l0.length c1) o) ∧ Aside0 (Below w.heap.size w w'))
 case atStart => exact ⟨y, l0, Nat.le_refl _, by omega, rfl, ⟨impl_bitten.at_start l0 a1 y⟩, HO, HB⟩
 case round =>
  clear HO HB
  obtain ⟨kk, o, hyk, hgg, rfl, HA, HO, HB⟩ := hrel
  by_cases hlt : kk < l0.length
  ·have hltz : (kk : Int) < (l0.length : Int) := by omega
   rcases Del.row_formR HO.out with ⟨h1, h2⟩ | ⟨g, c, hv⟩
   ·rw [h2] at HA; have := HA.out.1; simp at this; omega
   ·injection hv with hA hn hc
    clear hn
    subst hA; subst hc
    obtain ⟨hbg, hx0, hf0, hput⟩ := Del.R_put HO.out hlt
    have HP := Aside0.mk hput
    obtain ⟨q, hq⟩ : ∃ q, o.getD kk 0 = q := ⟨_, rfl⟩
    rw [hq] at hx0
    have HQ := Aside0.mk hq
    clear hq
    have HG := Aside0.mk hbg
    clear hput hbg
    by_cases hm : a1 < q
    ·go_wp2
     go_roundg (l0.length + 1 - (kk + 1))
     case measure => omega
     case rel =>
      obtain ⟨h1, h2⟩ := HP.out a1
      have h3 := impl_bitten.at_step HA.out hyk hlt
      rw [HQ.out, if_pos hm] at h3
      exact ⟨kk + 1, _, by omega, by omega, by go_num, ⟨h3⟩, ⟨h1⟩, ⟨below_set HB.out HG.out⟩⟩
    ·go_wp2
     go_roundg (l0.length + 1 - (kk + 1))
     case measure => omega
     case rel =>
      obtain ⟨h1, h2⟩ := HP.out q
      have h3 := impl_bitten.at_step HA.out hyk hlt
      rw [HQ.out, if_neg (by omega)] at h3
      exact ⟨kk + 1, _, by omega, by omega, by go_num, ⟨h3⟩, ⟨h1⟩, ⟨below_set HB.out HG.out⟩⟩
  ·have hltz : ¬ (kk : Int) < (l0.length : Int) := by omega
   have ho := HO.out
   rw [impl_bitten.at_end HA.out (by omega)] at ho
   have HO2 := Aside0.mk ho
   clear HO HA ho
   have hdel := slices_DeleteFunc_int_int_84.ownR2 (fun W => Below w.heap.size w W ∧ wr.heap.size ≤ W.heap.size) 129 w.heap.size #[] (fun j => ((Chomp.cut l0 a1 y).getD j 0 == 0)) (fun k => some k = (Value.slice A1 l0.length c1).ownBlock) (Chomp.cut l0 a1 y) (.slice A1 l0.length c1) wr EG.out (Kd.R_tight rfl HO2.out) ⟨HB.out, Nat.le_refl _⟩
    (fun W W' h hg => ⟨h.1.grown hg h.1.size (Kd.R_base HO2.out), Nat.le_trans h.2 hg.size⟩) (fun W _ k hk hne => absurd hk hne) (fun j u W hj hW hM => by
     have hu : [u] = [Value.int .i64 ((Chomp.cut l0 a1 y).getD j 0)] := hM
     injection hu with hu
     rw [hu]
     refine (impl_bitten.lam _ W).mono ?_
     rintro e w' ⟨h1, h2⟩
     exact ⟨h1, ⟨below_step hW.1 h2.below, Nat.le_trans hW.2 h2.below.size⟩, fun g hg => h2.below.block g (Nat.lt_of_lt_of_le (Kd.R_lt HO2.out g hg) hW.2)⟩)
   go_wp2_with (go_at_call 84; go_loud (refine hdel.mono ?_); rintro e w2 ⟨v2, rfl, ⟨hb2, _⟩, ho2, _⟩)
   go_ret
   have e1 := Del.places_filter (0 : Int) (fun n => (n == 0)) (Chomp.cut l0 a1 y)
   rw [e1] at ho2
   exact ⟨_, rfl, Kd.R_mono ho2 (fun _ _ => trivial), hb2⟩

end Go.Proofs.YtdikeggkfkkajaaDoor.PFnExactSolutions
