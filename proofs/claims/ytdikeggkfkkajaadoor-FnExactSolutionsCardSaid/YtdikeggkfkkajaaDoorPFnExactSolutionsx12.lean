-- Made by a program of this session (wip/xprint.py) out of the translation.
import Derived.Test.YtdikeggkfkkajaaDoorPFnExactSolutionsx0
import Derived.Test.YtdikeggkfkkajaaDoorPFnExactSolutionsx1
import Derived.Test.YtdikeggkfkkajaaDoorPFnExactSolutionsx5
import Derived.Test.YtdikeggkfkkajaaDoorPFnExactSolutionsx10
import Derived.Test.YtdikeggkfkkajaaDoorPFnExactSolutionsx11
namespace Go.Proofs.YtdikeggkfkkajaaDoor.PFnExactSolutions
open Go.RowKit Go.Proofs.YtdikeggkfkkajaaDoorW.PrintWords Go.Proofs.YtdikeggkfkkajaaDoorW.PrintLast Go.Proofs.YtdikeggkfkkajaaDoorW.PrintMore
attribute [local go_sem] max2_int min2_int max_two min_two max_three min_three max_four min_four   -- for this text's walks alone
set_option linter.unusedVariables false
set_option linter.unusedSimpArgs false

/-! ### laws_heldIntS: function 42 -/
def laws_heldIntS.l0 : Nat → List Int → Int → Int → Option (Int)
 | 0, _, _, _ => none
 | k + 1, x0, x1, x5 => if x5 < (x0.length : Int) then (if 0 ≤ x5 then (if (rd x0 x5) = x1 then (laws_heldIntS.l0 k x0 (wrap64 (x1 + 1)) (wrap64 (x5 + 1))) else (some (-1))) else (none)) else (some x1)
def laws_heldIntS.f (k : Nat) (l0 : List Int) (a1 : Int) : Option (Int) := laws_heldIntS.l0 k l0 a1 0
theorem laws_heldIntS.mono_l : ∀ k, (∀ y0 y1 y2, LeO (laws_heldIntS.l0 k y0 y1 y2) (laws_heldIntS.l0 (k + 1) y0 y1 y2))
 | 0 => fun _ _ _ r h => by simp [laws_heldIntS.l0] at h
 | k + 1 => by
  have ih0 := laws_heldIntS.mono_l k
  ·intro y0 y1 y2
   unfold laws_heldIntS.l0
   repeat' first
   | (with_reducible exact ih0 _ _ _)
   | (with_reducible exact LeO.refl _)
   | (with_reducible exact LeO.none _)
   | (with_reducible refine LeO.ite ?_ ?_)
   | (with_reducible refine LeO.bind ?_ (fun _ => ?_))
   | exact ih0 _ _ _
   | exact LeO.none _
   | refine LeO.ite ?_ ?_
   | refine LeO.bind ?_ (fun _ => ?_)
theorem laws_heldIntS.mono : ∀ a0 a1 k, LeO (laws_heldIntS.f k a0 a1) (laws_heldIntS.f (k + 1) a0 a1) := by
 intro a0 a1 k
 have ih0 := laws_heldIntS.mono_l k
 unfold laws_heldIntS.f
 repeat' first
   | (with_reducible exact ih0 _ _ _)
   | (with_reducible exact LeO.refl _)
   | (with_reducible exact LeO.none _)
   | (with_reducible refine LeO.ite ?_ ?_)
   | (with_reducible refine LeO.bind ?_ (fun _ => ?_))
   | exact ih0 _ _ _
   | exact LeO.none _
   | refine LeO.ite ?_ ?_
   | refine LeO.bind ?_ (fun _ => ?_)
set_option maxHeartbeats 8000000 in
set_option maxRecDepth 100000 in
theorem laws_heldIntS.calls (k : Nat) (A0 : Option Addr) (c0 : Nat) (l0 : List Int) (a1 : Int) (r : Int) (w : World) (hr0 : Kd.C (Kd.int .i64) w A0 l0.length l0) (hc0 : l0.length ≤ c0) (h : laws_heldIntS.f k l0 a1 = some r) :
  Calls Tryd.prog 42 #[.slice A0 l0.length c0, .int .i64 a1] w fun e w' => e = .returned (.int .i64 r) ∧ Drawn0 w w' := by
 have HR0 := Aside0.mk hr0
 have HC0 := Aside0.mk hc0
 clear hr0 hc0
 have H : (laws_heldIntS.l0 k l0 a1 0) = some r := h
 clear h
 have H' := Aside0.mk H
 clear H
 go_enter Tryd.func42, Tryd.ntmps42
 go_wp2
 go_loopg [1, 5] k (fun kq v1 v5 w' => ∃ (x1_1 : Int) (x5_1 : Int), v1 = .int .i64 x1_1 ∧ v5 = .int .i64 x5_1 ∧ Aside0 (laws_heldIntS.l0 kq l0 x1_1 x5_1 = some r) ∧ Aside0 (kq ≤ k) ∧ Drawn0 w w')
 case atStart => exact ⟨(a1), (0), (by first | rfl | (simp; done) | (simp [*]; done)), (by first | rfl | (simp; done) | (simp [*]; done)), H', ⟨Nat.le_refl _⟩, by repeat (first | exact Drawn0.refl _ | apply Drawn0.step)⟩
 case round =>
  clear H'
  try clear p2
  obtain ⟨x1_1, x5_1, rfl, rfl, HA, HK1, ⟨m1, rfl⟩⟩ := hrel
  cases gk with
  | zero => exact absurd HA.out (by simp [laws_heldIntS.l0])
  | succ k1 =>
   have H := HA.out
   clear HA
   simp only [laws_heldIntS.l0] at H
   by_cases c3 : x5_1 < (l0.length : Int)
   ·rw [if_pos c3] at H
    have c3b0 : decide (x5_1 < (l0.length : Int)) = true := decide_eq_true c3
    clear c3
    by_cases c4 : 0 ≤ x5_1
    ·rw [if_pos c4] at H
     have c4b0 : decide (0 ≤ x5_1) = true := decide_eq_true c4
     clear c4
     by_cases c5 : (rd l0 x5_1) = x1_1
     ·rw [if_pos c5] at H
      have c5b0 : ((rd l0 x5_1) == x1_1) = true := beq_iff_eq.mpr c5
      have c5b1 : ((rd l0 x5_1) != x1_1) = false := bne_eq_false_iff_eq.mpr c5
      clear c5
      have H' := Aside0.mk H
      clear H
      have p240 : 0 ≤ (x5_1 : Int) := of_decide_eq_true (by first | (with_reducible assumption) | assumption)
      have q240 : x5_1 < (l0.length : Int) := of_decide_eq_true (by first | (with_reducible assumption) | assumption)
      obtain ⟨ad240, e240, hx240_0⟩ := Kd.at_int HR0.out x5_1 p240 q240
      cases e240
      replace p240 := eq_true p240
      replace q240 := eq_true q240
      go_wp2
      go_roundg k1
      case measure => have := HK1.out; omega
      case rel => exact ⟨(wrap64 (x1_1 + 1)), (wrap64 (x5_1 + 1)), (by first | rfl | (simp; done) | (simp [*]; done)), (by first | rfl | (simp; done) | (simp [*]; done)), H', ⟨by have := HK1.out; omega⟩, by repeat (first | exact Drawn0.refl _ | apply Drawn0.step)⟩
     ·rw [if_neg c5] at H
      have c5b0 : ((rd l0 x5_1) == x1_1) = false := beq_eq_false_iff_ne.mpr c5
      have c5b1 : ((rd l0 x5_1) != x1_1) = true := bne_iff_ne.mpr c5
      obtain rfl := Option.some.inj H
      have p240 : 0 ≤ (x5_1 : Int) := of_decide_eq_true (by first | (with_reducible assumption) | assumption)
      have q240 : x5_1 < (l0.length : Int) := of_decide_eq_true (by first | (with_reducible assumption) | assumption)
      obtain ⟨ad240, e240, hx240_0⟩ := Kd.at_int HR0.out x5_1 p240 q240
      cases e240
      replace p240 := eq_true p240
      replace q240 := eq_true q240
      go_wp2
      go_ret
      exact ⟨by first | rfl | (simp; done) | (simp [*]; done), by repeat (first | exact Drawn0.refl _ | apply Drawn0.step)⟩
    ·rw [if_neg c4] at H
     exact absurd H (by simp)
   ·rw [if_neg c3] at H
    have c3b0 : decide (x5_1 < (l0.length : Int)) = false := decide_eq_false c3
    clear c3
    obtain rfl := Option.some.inj H
    go_wp2
    go_ret
    exact ⟨by first | rfl | (simp; done) | (simp [*]; done), by repeat (first | exact Drawn0.refl _ | apply Drawn0.step)⟩

/-! ### laws_heldIntSS: function 16 -/
def laws_heldIntSS.l0 : Nat → List (List Int) → Int → Int → Option (Int)
 | 0, _, _, _ => none
 | k + 1, x0, x1, x5 => if x5 < (x0.length : Int) then (if 0 ≤ x5 then ((laws_heldIntS.f k (rd_L3 x0 x5) x1).bind fun t242 => (if t242 < 0 then (some (-1)) else (laws_heldIntSS.l0 k x0 t242 (wrap64 (x5 + 1))))) else (none)) else (some x1)
def laws_heldIntSS.f (k : Nat) (l0 : List (List Int)) (a1 : Int) : Option (Int) := laws_heldIntSS.l0 k l0 a1 0
theorem laws_heldIntSS.mono_l : ∀ k, (∀ y0 y1 y2, LeO (laws_heldIntSS.l0 k y0 y1 y2) (laws_heldIntSS.l0 (k + 1) y0 y1 y2))
 | 0 => fun _ _ _ r h => by simp [laws_heldIntSS.l0] at h
 | k + 1 => by
  have ih0 := laws_heldIntSS.mono_l k
  ·intro y0 y1 y2
   unfold laws_heldIntSS.l0
   repeat' first
   | (with_reducible exact ih0 _ _ _)
   | (with_reducible exact laws_heldIntS.mono _ _ _)
   | (with_reducible exact LeO.refl _)
   | (with_reducible exact LeO.none _)
   | (with_reducible refine LeO.ite ?_ ?_)
   | (with_reducible refine LeO.bind ?_ (fun _ => ?_))
   | exact ih0 _ _ _
   | exact laws_heldIntS.mono _ _ _
   | exact LeO.none _
   | refine LeO.ite ?_ ?_
   | refine LeO.bind ?_ (fun _ => ?_)
theorem laws_heldIntSS.mono : ∀ a0 a1 k, LeO (laws_heldIntSS.f k a0 a1) (laws_heldIntSS.f (k + 1) a0 a1) := by
 intro a0 a1 k
 have ih0 := laws_heldIntSS.mono_l k
 unfold laws_heldIntSS.f
 repeat' first
   | (with_reducible exact ih0 _ _ _)
   | (with_reducible exact laws_heldIntS.mono _ _ _)
   | (with_reducible exact LeO.refl _)
   | (with_reducible exact LeO.none _)
   | (with_reducible refine LeO.ite ?_ ?_)
   | (with_reducible refine LeO.bind ?_ (fun _ => ?_))
   | exact ih0 _ _ _
   | exact laws_heldIntS.mono _ _ _
   | exact LeO.none _
   | refine LeO.ite ?_ ?_
   | refine LeO.bind ?_ (fun _ => ?_)
set_option maxHeartbeats 8000000 in
set_option maxRecDepth 100000 in
theorem laws_heldIntSS.calls (k : Nat) (A0 : Option Addr) (c0 : Nat) (l0 : List (List Int)) (a1 : Int) (r : Int) (w : World) (hr0 : Kd.C (Kd.slice 3 (Kd.int .i64)) w A0 l0.length l0) (hc0 : l0.length ≤ c0) (h : laws_heldIntSS.f k l0 a1 = some r) :
  Calls Tryd.prog 16 #[.slice A0 l0.length c0, .int .i64 a1] w fun e w' => e = .returned (.int .i64 r) ∧ Drawn0 w w' := by
 have HR0 := Aside0.mk hr0
 have HC0 := Aside0.mk hc0
 clear hr0 hc0
 have H : (laws_heldIntSS.l0 k l0 a1 0) = some r := h
 clear h
 have H' := Aside0.mk H
 clear H
 go_enter Tryd.func16, Tryd.ntmps16
 go_wp2
 go_loopg [1, 5] k (fun kq v1 v5 w' => ∃ (x1_1 : Int) (x5_1 : Int), v1 = .int .i64 x1_1 ∧ v5 = .int .i64 x5_1 ∧ Aside0 (laws_heldIntSS.l0 kq l0 x1_1 x5_1 = some r) ∧ Aside0 (kq ≤ k) ∧ Drawn0 w w')
 case atStart => exact ⟨(a1), (0), (by first | rfl | (simp; done) | (simp [*]; done)), (by first | rfl | (simp; done) | (simp [*]; done)), H', ⟨Nat.le_refl _⟩, by repeat (first | exact Drawn0.refl _ | apply Drawn0.step)⟩
 case round =>
  clear H'
  try clear c1
  try clear p2
  obtain ⟨x1_1, x5_1, rfl, rfl, HA, HK1, ⟨m1, rfl⟩⟩ := hrel
  cases gk with
  | zero => exact absurd HA.out (by simp [laws_heldIntSS.l0])
  | succ k1 =>
   have H := HA.out
   clear HA
   simp only [laws_heldIntSS.l0] at H
   by_cases c3 : x5_1 < (l0.length : Int)
   ·rw [if_pos c3] at H
    have c3b0 : decide (x5_1 < (l0.length : Int)) = true := decide_eq_true c3
    clear c3
    by_cases c4 : 0 ≤ x5_1
    ·rw [if_pos c4] at H
     have c4b0 : decide (0 ≤ x5_1) = true := decide_eq_true c4
     clear c4
     replace H := Option.bind_eq_some_iff.mp H
     obtain ⟨t242, A50, H⟩ := H
     replace H : (if t242 < 0 then (some (-1)) else (laws_heldIntSS.l0 k1 l0 t242 (wrap64 (x5_1 + 1)))) = some r := H
     have A5 := Aside0.mk A50
     clear A50
     by_cases c6 : t242 < 0
     ·rw [if_pos c6] at H
      have c6b0 : decide (t242 < 0) = true := decide_eq_true c6
      clear c6
      obtain rfl := Option.some.inj H
      have p241 : 0 ≤ (x5_1 : Int) := of_decide_eq_true (by first | (with_reducible assumption) | assumption)
      have q241 : x5_1 < (l0.length : Int) := of_decide_eq_true (by first | (with_reducible assumption) | assumption)
      obtain ⟨ad241, A241_0, c241_0, e241, hx241_0, hl241_0, hi241_0⟩ := at_L3 HR0.out x5_1 p241 q241
      cases e241
      have HR241_0 := Aside0.mk hi241_0
      have HC241_0 := Aside0.mk hl241_0
      clear hi241_0 hl241_0
      replace p241 := eq_true p241
      replace q241 := eq_true q241
      go_wp2_with (first | ((with_reducible refine gate_callee (f := 42) rfl ?_); refine goesL_ (some 17) rfl rfl Tryd.func42 (by kernel_rfl) rfl #[.slice A241_0 (rd_L3 l0 x5_1).length c241_0, .int .i64 x1_1] rfl (by (try simp only [List.map_toArray, List.map_cons, List.map_nil]); first | done | rfl | (simp only [List.length_drop, List.length_take]; rfl)) ?_; (with_reducible refine (laws_heldIntS.calls k1 _ _ (rd_L3 l0 x5_1) x1_1 t242 _ ?side1 ?side2 A5.out).mono ?_); (case side1 => repeat (first | exact HR241_0.out | (with_reducible refine Kd.C_alloc ?_ _) | (with_reducible refine Kd.C_drewN ?_ _) | (with_reducible refine Kd.C_drew ?_))); (case side2 => exact HC241_0.out); rintro e w' ⟨rfl, ⟨nd, rfl⟩⟩; refine ⟨_, rfl, ?_⟩))
      go_ret
      exact ⟨by first | rfl | (simp; done) | (simp [*]; done), by repeat (first | exact Drawn0.refl _ | apply Drawn0.step)⟩
     ·rw [if_neg c6] at H
      have c6b0 : decide (t242 < 0) = false := decide_eq_false c6
      clear c6
      have H' := Aside0.mk H
      clear H
      have p241 : 0 ≤ (x5_1 : Int) := of_decide_eq_true (by first | (with_reducible assumption) | assumption)
      have q241 : x5_1 < (l0.length : Int) := of_decide_eq_true (by first | (with_reducible assumption) | assumption)
      obtain ⟨ad241, A241_0, c241_0, e241, hx241_0, hl241_0, hi241_0⟩ := at_L3 HR0.out x5_1 p241 q241
      cases e241
      have HR241_0 := Aside0.mk hi241_0
      have HC241_0 := Aside0.mk hl241_0
      clear hi241_0 hl241_0
      replace p241 := eq_true p241
      replace q241 := eq_true q241
      go_wp2_with (first | ((with_reducible refine gate_callee (f := 42) rfl ?_); refine goesL_ (some 17) rfl rfl Tryd.func42 (by kernel_rfl) rfl #[.slice A241_0 (rd_L3 l0 x5_1).length c241_0, .int .i64 x1_1] rfl (by (try simp only [List.map_toArray, List.map_cons, List.map_nil]); first | done | rfl | (simp only [List.length_drop, List.length_take]; rfl)) ?_; (with_reducible refine (laws_heldIntS.calls k1 _ _ (rd_L3 l0 x5_1) x1_1 t242 _ ?side1 ?side2 A5.out).mono ?_); (case side1 => repeat (first | exact HR241_0.out | (with_reducible refine Kd.C_alloc ?_ _) | (with_reducible refine Kd.C_drewN ?_ _) | (with_reducible refine Kd.C_drew ?_))); (case side2 => exact HC241_0.out); rintro e w' ⟨rfl, ⟨nd, rfl⟩⟩; refine ⟨_, rfl, ?_⟩))
      go_roundg k1
      case measure => have := HK1.out; omega
      case rel => exact ⟨(t242), (wrap64 (x5_1 + 1)), (by first | rfl | (simp; done) | (simp [*]; done)), (by first | rfl | (simp; done) | (simp [*]; done)), H', ⟨by have := HK1.out; omega⟩, by repeat (first | exact Drawn0.refl _ | apply Drawn0.step)⟩
    ·rw [if_neg c4] at H
     exact absurd H (by simp)
   ·rw [if_neg c3] at H
    have c3b0 : decide (x5_1 < (l0.length : Int)) = false := decide_eq_false c3
    clear c3
    obtain rfl := Option.some.inj H
    go_wp2
    go_ret
    exact ⟨by first | rfl | (simp; done) | (simp [*]; done), by repeat (first | exact Drawn0.refl _ | apply Drawn0.step)⟩

/-! ### laws_FnExactSolutions: function 3 -/
def laws_FnExactSolutions.f (k : Nat) (l0_0 : List (S92)) : Option (Bool) := (laws_szPuzzle.f l0_0 1048576).bind fun t => if t < 0 then some true else (laws_toPuzzle.f k l0_0).bind fun p => (spec_Solutions.f k p).bind fun ws => (impl_Solutions.f p).bind fun gs => (laws_eqIntSS.f k gs.1 ws.1).bind fun e => if e = true then (if gs.2 = ws.2 then (laws_eqPuzzle.f k p p).bind fun e2 => if e2 = true then (laws_markPuzzle.f k p 1).bind fun m1 => if m1.1 < 0 then none else (laws_markIntSS.f k gs.1 1).bind fun m => (laws_heldIntSS.f k m.2 1).bind fun q => if q < 0 then none else if q = m.1 then some true else none else none else none) else none
set_option maxHeartbeats 16000000 in
set_option maxRecDepth 100000 in
theorem laws_FnExactSolutions.calls (k : Nat) (A0_0 : Option Addr) (c0_0 : Nat) (l0_0 : List (S92)) (r : Bool) (w : World) (hr0_0 : Kd.C k92 w A0_0 l0_0.length l0_0) (hc0_0 : l0_0.length ≤ c0_0) (h : laws_FnExactSolutions.f k l0_0 = some r) :
  Calls Tryd.prog 3 #[.agg #[.slice A0_0 l0_0.length c0_0]] w fun e w' => e = .returned (.bool r) ∧ Below w.heap.size w w' := by
 unfold laws_FnExactSolutions.f at h
 obtain ⟨t, hsz, hz⟩ := Option.bind_eq_some_iff.1 h
 clear h
 have h := hz
 clear hz
 try dsimp only at h
 have HSZ := Aside0.mk (fun W (hW : Below w.heap.size w W) => laws_szPuzzle.calls A0_0 c0_0 l0_0 1048576 t W (Kd.C_below hr0_0 hW) hc0_0 hsz)
 clear hsz
 by_cases ct : t < 0
 ·rw [if_pos ct] at h
  injection h with h
  subst h
  have e0 : decide (t < 0) = true := decide_eq_true ct
  clear hr0_0 hc0_0 ct
  go_enter Tryd.func3, Tryd.ntmps3
  go_wp2_with (first | ((with_reducible refine gate_dst (N := 1) rfl ?_); refine box_event ?hg (N := 1) ?hd (cs := #[.slice A0_0 l0_0.length c0_0]) (t := 24) ?hr ?_; (case hd => rfl); (case hg => rfl); (case hr => first | (go_simp; done) | (go_simp; rfl)); intro g1 hg1 w1 hbox hb; have X1 := Aside0.mk hbox; have B := Aside0.mk hb; clear hbox hb hg1; have hczX1 : w1.cell? ⟨g1, 0, none⟩ = some (.slice A0_0 l0_0.length c0_0) := (blk_cell X1.out 0).trans rfl; have hfzX1 := blk_frozen X1.out 0; have T1 := Aside0.mk True.intro) | (go_at_call 8; have tok_ := T1; clear tok_ T1; (refine (HSZ.out _ B.out).mono ?_); rintro e w2 ⟨rfl, hb⟩; have hb' := (show Below _ _ w2 by first | exact hb | exact hb.below); clear hb; have n0_ := Aside0.mk (below_step B.out hb'); have n1_ := Aside0.mk (blk_below X1.out hb'); clear B X1; have B := n0_; have X1 := n1_; clear n0_ n1_; (try clear hczX1 hfzX1); have hczX1 : w2.cell? ⟨g1, 0, none⟩ = some (.slice A0_0 l0_0.length c0_0) := (blk_cell X1.out 0).trans rfl; have hfzX1 := blk_frozen X1.out 0; have T2 := Aside0.mk True.intro; clear hb'))
  go_ret
  exact ⟨rfl, B.out⟩
 rw [if_neg ct] at h
 have e0 : decide (t < 0) = false := decide_eq_false ct
 clear ct
 obtain ⟨p, hp, hz⟩ := Option.bind_eq_some_iff.1 h
 clear h
 have h := hz
 clear hz
 try dsimp only at h
 obtain ⟨⟨ws, b1⟩, hw, hz⟩ := Option.bind_eq_some_iff.1 h
 clear h
 have h := hz
 clear hz
 try dsimp only at h
 obtain ⟨⟨gs, b0⟩, hg, hz⟩ := Option.bind_eq_some_iff.1 h
 clear h
 have h := hz
 clear hz
 try dsimp only at h
 obtain ⟨e1, he, hz⟩ := Option.bind_eq_some_iff.1 h
 clear h
 have h := hz
 clear hz
 try dsimp only at h
 by_cases c1 : e1 = true
 case neg => rw [if_neg c1] at h; cases h
 rw [if_pos c1] at h
 subst c1
 by_cases c2 : b0 = b1
 case neg => rw [if_neg c2] at h; cases h
 rw [if_pos c2] at h
 subst c2
 obtain ⟨e2, hep, hz⟩ := Option.bind_eq_some_iff.1 h
 clear h
 have h := hz
 clear hz
 try dsimp only at h
 by_cases c3 : e2 = true
 case neg => rw [if_neg c3] at h; cases h
 rw [if_pos c3] at h
 subst c3
 obtain ⟨⟨m1, p1⟩, hmp, hz⟩ := Option.bind_eq_some_iff.1 h
 clear h
 have h := hz
 clear hz
 try dsimp only at h
 by_cases c4 : m1 < 0
 case pos => rw [if_pos c4] at h; cases h
 rw [if_neg c4] at h
 obtain ⟨⟨mm, m2⟩, hmi, hz⟩ := Option.bind_eq_some_iff.1 h
 clear h
 have h := hz
 clear hz
 try dsimp only at h
 obtain ⟨q, hhe, hz⟩ := Option.bind_eq_some_iff.1 h
 clear h
 have h := hz
 clear hz
 try dsimp only at h
 by_cases c5 : q < 0
 case pos => rw [if_pos c5] at h; cases h
 rw [if_neg c5] at h
 by_cases c6 : q = mm
 case neg => rw [if_neg c6] at h; cases h
 rw [if_pos c6] at h
 subst c6
 injection h with h
 subst h
 have e4 : decide (m1 < 0) = false := decide_eq_false c4
 have e5 : decide (q < 0) = false := decide_eq_false c5
 clear c4 c5
 have HTO := Aside0.mk (fun W (hW : Below w.heap.size w W) => laws_toPuzzle.calls k A0_0 c0_0 l0_0 p W (Kd.C_below hr0_0 hW) hc0_0 hp)
 have HSP := Aside0.mk (fun W A c h1 h2 => spec_Solutions.calls k A c p ws b0 W h1 h2 hw)
 have HIM := Aside0.mk (fun W A c h1 h2 => impl_Solutions.calls A c p gs b0 W h1 h2 hg)
 have HEQ := Aside0.mk (fun W A c A' c' h1 h2 h3 h4 => laws_eqIntSS.calls k A c gs A' c' ws true W h1 h2 h3 h4 he)
 have HEP := Aside0.mk (fun W A c A' c' h1 h2 h3 h4 => laws_eqPuzzle.calls k A c p A' c' p true W h1 h2 h3 h4 hep)
 have HMP := Aside0.mk (fun P u W hB ho => laws_markPuzzle.calls k P u p 1 m1 p1 w W hB ho hmp)
 have HMI := Aside0.mk (fun P u W hB ho => laws_markIntSS.own k P u gs 1 q m2 w W hB ho hmi)
 have HHE := Aside0.mk (fun W A c h1 h2 => laws_heldIntSS.calls k A c m2 1 q W h1 h2 hhe)
 clear hr0_0 hc0_0 hp hw hg he hep hmp hmi hhe
 cases b0
 all_goals
  go_enter Tryd.func3, Tryd.ntmps3
  go_upto_region 10 with (first | ((with_reducible refine gate_dst (N := 1) rfl ?_); refine box_event ?hg (N := 1) ?hd (cs := #[.slice A0_0 l0_0.length c0_0]) (t := 24) ?hr ?_; (case hd => rfl); (case hg => rfl); (case hr => first | (go_simp; done) | (go_simp; rfl)); intro g1 hg1 w1 hbox hb; have X1 := Aside0.mk hbox; have B := Aside0.mk hb; clear hbox hb hg1; have hczX1 : w1.cell? ⟨g1, 0, none⟩ = some (.slice A0_0 l0_0.length c0_0) := (blk_cell X1.out 0).trans rfl; have hfzX1 := blk_frozen X1.out 0; have T1 := Aside0.mk True.intro) | (go_at_call 8; have tok_ := T1; clear tok_ T1; (refine (HSZ.out _ B.out).mono ?_); rintro e w2 ⟨rfl, hb⟩; have hb' := (show Below _ _ w2 by first | exact hb | exact hb.below); clear hb; have n0_ := Aside0.mk (below_step B.out hb'); have n1_ := Aside0.mk (blk_below X1.out hb'); clear B X1; have B := n0_; have X1 := n1_; clear n0_ n1_; (try clear hczX1 hfzX1); have hczX1 : w2.cell? ⟨g1, 0, none⟩ = some (.slice A0_0 l0_0.length c0_0) := (blk_cell X1.out 0).trans rfl; have hfzX1 := blk_frozen X1.out 0; have T2 := Aside0.mk True.intro; clear hb') | (go_at_call 10; have tok_ := T2; clear tok_ T2; (refine (HTO.out _ B.out).mono ?_); rintro e w3 ⟨v3, rfl, ho, hb⟩; have hb' := (show Below _ _ w3 by first | exact hb | exact hb.below); clear hb; obtain ⟨Av, cv, ev⟩ := Kd.R_slice ho; subst ev; have HV := Aside0.mk ho; clear ho; have n0_ := Aside0.mk (below_step B.out hb'); have n1_ := Aside0.mk (blk_below X1.out hb'); clear B X1; have B := n0_; have X1 := n1_; clear n0_ n1_; (try clear hczX1 hfzX1); have hczX1 : w3.cell? ⟨g1, 0, none⟩ = some (.slice A0_0 l0_0.length c0_0) := (blk_cell X1.out 0).trans rfl; have hfzX1 := blk_frozen X1.out 0; have T3 := Aside0.mk True.intro; clear hb') | (go_at_call 9; have tok_ := T3; clear tok_ T3; (refine (HSP.out _ Av cv (Kd.R_reads' HV.out).2.2 (Kd.R_reads' HV.out).2.1).mono ?_); rintro e w4 ⟨v4, rfl, ho, hb⟩; have hb' := (show Below _ _ w4 by first | exact hb | exact hb.below); clear hb; have HW := Aside0.mk (Kd.S_lower ho B.out.size); clear ho HV; obtain ⟨Aw, cw, ew⟩ := Kd.S_slice HW.out; subst ew; have n0_ := Aside0.mk (below_step B.out hb'); have n1_ := Aside0.mk (blk_below X1.out hb'); clear B X1; have B := n0_; have X1 := n1_; clear n0_ n1_; (try clear hczX1 hfzX1); have hczX1 : w4.cell? ⟨g1, 0, none⟩ = some (.slice A0_0 l0_0.length c0_0) := (blk_cell X1.out 0).trans rfl; have hfzX1 := blk_frozen X1.out 0; have T4 := Aside0.mk True.intro; clear hb') | (go_at_call 10; have tok_ := T4; clear tok_ T4; (refine (HTO.out _ B.out).mono ?_); rintro e w5 ⟨v5, rfl, ho, hb⟩; have hb' := (show Below _ _ w5 by first | exact hb | exact hb.below); clear hb; obtain ⟨Ap, cp, ep⟩ := Kd.R_slice ho; subst ep; have HP := Aside0.mk (Kd.R_lower ho B.out.size); clear ho; have n0_ := Aside0.mk (below_step B.out hb'); have n1_ := Aside0.mk (blk_below X1.out hb'); have n2_ := Aside0.mk (Kd.S_below HW.out hb'); clear B X1 HW; have B := n0_; have X1 := n1_; have HW := n2_; clear n0_ n1_ n2_; have T5 := Aside0.mk True.intro; clear hb') | ((with_reducible refine gate_dst (N := 6) rfl ?_); refine box_event ?hg (N := 6) ?hd (cs := #[.slice none 0 0]) (t := 31) ?hr ?_; (case hd => rfl); (case hg => rfl); (case hr => first | (go_simp; done) | (go_simp; rfl)); intro g6 hg6 w6 hbox hb'; have NE16 := Aside0.mk (show g1 ≠ g6 by rw [hg6]; exact Nat.ne_of_lt (blk_lt X1.out)); have G6 := Aside0.mk (show w.heap.size ≤ g6 by rw [hg6]; exact B.out.size); have X6 := Aside0.mk hbox; clear hbox hg6; have n0_ := Aside0.mk (below_step B.out hb'); have n1_ := Aside0.mk (blk_below X1.out hb'); have n2_ := Aside0.mk (Kd.S_below HW.out hb'); have n3_ := Aside0.mk (Kd.R_below HP.out hb'); clear B X1 HW HP; have B := n0_; have X1 := n1_; have HW := n2_; have HP := n3_; clear n0_ n1_ n2_ n3_; (try clear hczX1 hfzX1); clear hb'; have hczX6 : w6.cell? ⟨g6, 0, none⟩ = some (.slice none 0 0) := (blk_cell X6.out 0).trans rfl; have hfzX6 := blk_frozen X6.out 0) | (go_at_call 11; have tok_ := T5; clear tok_ T5; have x1_ := blk_far (p := ⟨g6, 0, none⟩) X1.out NE16.out (.slice Ap p.length cp); have x6_ := blk_put (cs := #[.slice none 0 0]) X6.out 0 (.slice Ap p.length cp) rfl; have w_ := Kd.S_far (p := ⟨g6, 0, none⟩) (Kd.S_types HW.out X6.out (by decide)) (fun _ hk => hk.2) (.slice Ap p.length cp); have p_ := Kd.R_far (p := ⟨g6, 0, none⟩) (Kd.R_types HP.out X6.out (by decide)) (fun _ hk => hk.2) (.slice Ap p.length cp); have b_ := below_set B.out G6.out (v := .slice Ap p.length cp) (j := 0); clear X1 X6 HW HP B; have X1 := Aside0.mk x1_; have X6 := Aside0.mk x6_; have HW := Aside0.mk w_; have HP := Aside0.mk p_; have B := Aside0.mk b_; clear x1_ x6_ w_ b_; (refine (HIM.out _ Ap cp (Kd.R_reads' p_).2.2 (Kd.R_reads' p_).2.1).mono ?_); rintro e w7 ⟨v7, rfl, ho, hb⟩; have hb' := (show Below _ _ w7 by first | exact hb | exact hb.below); clear hb; obtain ⟨b2, hb2⟩ : ∃ q, q = (World.heap (w6.setCell ⟨g6, 0, none⟩ (.slice Ap p.length cp))).size := ⟨_, rfl⟩; have HGZ := Aside0.mk (Kd.S_mono (ok' := fun q => b2 ≤ q) (Kd.S_bound ho) (fun q hq => by rw [hb2]; exact hq.2.1)); have BB2 := Aside0.mk (show w.heap.size ≤ b2 by rw [hb2]; exact B.out.size); have HG := Aside0.mk (Kd.S_lower HGZ.out B.out.size); have LT1 := Aside0.mk (show g1 < b2 by rw [hb2]; exact blk_lt X1.out); have w_ := Kd.S_mono (ok' := fun q => q < b2) (Kd.S_bound HW.out) (fun q hq => by rw [hb2]; exact hq.2.2.1); clear HW ho HGZ hb2 p_; have HW := Aside0.mk w_; clear w_; obtain ⟨Ag, cg, eg⟩ := Kd.S_slice HG.out; subst eg; (try clear hczX6 hfzX6); have n0_ := Aside0.mk (below_step B.out hb'); have n1_ := Aside0.mk (blk_below X1.out hb'); have n2_ := Aside0.mk (blk_below X6.out hb'); have n3_ := Aside0.mk (Kd.S_below HW.out hb'); have n4_ := Aside0.mk (Kd.R_below HP.out hb'); clear B X1 X6 HW HP; have B := n0_; have X1 := n1_; have X6 := n2_; have HW := n3_; have HP := n4_; clear n0_ n1_ n2_ n3_ n4_; (try clear hczX1 hfzX1); have hczX1 : w7.cell? ⟨g1, 0, none⟩ = some (.slice A0_0 l0_0.length c0_0) := (blk_cell X1.out 0).trans rfl; have hfzX1 := blk_frozen X1.out 0; (try clear hczX6 hfzX6); have hczX6 : w7.cell? ⟨g6, 0, none⟩ = some (.slice Ap p.length cp) := (blk_cell X6.out 0).trans rfl; have hfzX6 := blk_frozen X6.out 0; have T6 := Aside0.mk True.intro; clear hb') | (go_at_call 12; have tok_ := T6; clear tok_ T6; (refine (HEQ.out _ Ag cg Aw cw (Kd.S_reads' HG.out).2.2 (Kd.S_reads' HG.out).2.1 (Kd.S_reads' HW.out).2.2 (Kd.S_reads' HW.out).2.1).mono ?_); rintro e w8 ⟨rfl, hb⟩; have hb' := (show Below _ _ w8 by first | exact hb | exact hb.below); clear hb; have n0_ := Aside0.mk (below_step B.out hb'); have n1_ := Aside0.mk (blk_below X1.out hb'); have n2_ := Aside0.mk (blk_below X6.out hb'); have n3_ := Aside0.mk (Kd.S_below HW.out hb'); have n4_ := Aside0.mk (Kd.R_below HP.out hb'); have n5_ := Aside0.mk (Kd.S_below HG.out hb'); clear B X1 X6 HW HP HG; have B := n0_; have X1 := n1_; have X6 := n2_; have HW := n3_; have HP := n4_; have HG := n5_; clear n0_ n1_ n2_ n3_ n4_ n5_; (try clear hczX1 hfzX1); have hczX1 : w8.cell? ⟨g1, 0, none⟩ = some (.slice A0_0 l0_0.length c0_0) := (blk_cell X1.out 0).trans rfl; have hfzX1 := blk_frozen X1.out 0; (try clear hczX6 hfzX6); have hczX6 : w8.cell? ⟨g6, 0, none⟩ = some (.slice Ap p.length cp) := (blk_cell X6.out 0).trans rfl; have hfzX6 := blk_frozen X6.out 0; have T7 := Aside0.mk True.intro; clear hb'))
  try go_wp2
  have n0_ := Aside0.mk (Kd.S_drew HW.out)
  have n1_ := Aside0.mk (Kd.S_drew HG.out)
  have n2_ := Aside0.mk (Kd.R_drew HP.out)
  have n3_ := Aside0.mk (blk_drew X1.out)
  have n4_ := Aside0.mk (blk_drew X6.out)
  have n5_ := Aside0.mk (below_drew1 B.out)
  clear HW HG HP X1 X6 B hczX1 hfzX1 hczX6 hfzX6
  have HW := n0_
  have HG := n1_
  have HP := n2_
  have X1 := n3_
  have X6 := n4_
  have B := n5_
  clear n0_ n1_ n2_ n3_ n4_ n5_
  refine start_ (n := 5) (S := fun w' => w'.cell? ⟨g6, 0, none⟩ = some (.slice Ap p.length cp) ∧ w'.cell? ⟨g1, 0, none⟩ = some (.slice A0_0 l0_0.length c0_0)) (ds := []) #[false, false, false, false, false] (by kernel_rfl) rfl rfl ⟨(blk_cell X6.out 0).trans rfl, (blk_cell X1.out 0).trans rfl⟩ (fun hHeld => ?_)
  generalize w8.drew = w9 at HW HG HP X1 X6 B hHeld ⊢
  refine take_ (i := 0) (N := some 41) (v := ?_) (a' := ?_) #[true, false, false, false, false] rfl rfl (by kernel_rfl) (fun _ _ _ h => h) (Or.inl ⟨by rfl, ?_⟩) hHeld ?_ ?_
  rotate_left
  ·rintro w' s0
   obtain ⟨s0, s1⟩ := s0
   go_simp
   with_reducible rfl
  rotate_left
  ·simp only [Act.put, Lam.pa, Lam.pb, Lam.pc, i64_w, i32_w]
   rfl
  refine take_ (i := 1) (N := some 42) (v := ?_) (a' := ?_) #[true, true, false, false, false] rfl rfl (by kernel_rfl) (fun _ _ _ h => h) (Or.inl ⟨by rfl, ?_⟩) hHeld ?_ ?_
  rotate_left
  ·rintro w' s0
   obtain ⟨s0, s1⟩ := s0
   go_simp
   with_reducible rfl
  rotate_left
  ·simp only [Act.put, Lam.pa, Lam.pb, Lam.pc, i64_w, i32_w]
   rfl
  refine one_ (i := 2) (N := some 43) #[true, true, true, false, false] rfl rfl (by kernel_rfl) (by decide) (fun K hK => ?_)
  refine goes_ Tryd.func10 (by kernel_rfl) rfl #[.agg #[.slice A0_0 l0_0.length c0_0]] (by rfl) rfl rfl (by (try simp only [List.map_toArray, List.map_cons, List.map_nil]); first | done | rfl | (simp [Act.eval]; done)) ?_
  refine (HTO.out _ B.out).mono ?_
  rintro e w10 ⟨v10, rfl, ho, hb'⟩
  refine ⟨_, rfl, ?_⟩
  obtain ⟨Aq, cq, eq_⟩ := Kd.R_slice ho
  subst eq_
  have HQ := Aside0.mk ho
  clear ho
  have n0_ := Aside0.mk (below_step B.out hb')
  have n1_ := Aside0.mk (blk_below X1.out hb')
  have n2_ := Aside0.mk (blk_below X6.out hb')
  have n3_ := Aside0.mk (Kd.S_below HW.out hb')
  have n4_ := Aside0.mk (Kd.R_below HP.out hb')
  have n5_ := Aside0.mk (Kd.S_below HG.out hb')
  clear B X1 X6 HW HP HG
  have B := n0_
  have X1 := n1_
  have X6 := n2_
  have HW := n3_
  have HP := n4_
  have HG := n5_
  clear n0_ n1_ n2_ n3_ n4_ n5_
  clear hb'
  refine hK.out _ _ ⟨(blk_cell X6.out 0).trans rfl, (blk_cell X1.out 0).trans rfl⟩ (fun hHeld => ?_)
  clear hK K
  refine norm_ (a' := ?_) ?_ ?_
  rotate_left
  ·show Act.put _ (some 43) _ = _
   simp only [Act.put, Lam.pa, Lam.pb, Lam.pc, i64_w, i32_w]
   rfl
  refine one_ (i := 3) (N := some 44) #[true, true, true, true, false] rfl rfl (by kernel_rfl) (by decide) (fun K hK => ?_)
  refine goes_ Tryd.func13 (by kernel_rfl) rfl #[.agg #[.slice Ap p.length cp], .agg #[.slice Aq p.length cq]] (by rfl) rfl rfl (by (try simp only [List.map_toArray, List.map_cons, List.map_nil]); first | done | rfl | (simp [Act.eval]; done)) ?_
  refine (HEP.out _ Ap cp Aq cq (Kd.R_reads' HP.out).2.2 (Kd.R_reads' HP.out).2.1 (Kd.R_reads' HQ.out).2.2 (Kd.R_reads' HQ.out).2.1).mono ?_
  rintro e w11 ⟨rfl, hb⟩
  refine ⟨_, rfl, ?_⟩
  have hb' := (show Below _ _ w11 by first | exact hb | exact hb.below)
  clear hb HQ
  have n0_ := Aside0.mk (below_step B.out hb')
  have n1_ := Aside0.mk (blk_below X1.out hb')
  have n2_ := Aside0.mk (blk_below X6.out hb')
  have n3_ := Aside0.mk (Kd.S_below HW.out hb')
  have n4_ := Aside0.mk (Kd.R_below HP.out hb')
  have n5_ := Aside0.mk (Kd.S_below HG.out hb')
  clear B X1 X6 HW HP HG
  have B := n0_
  have X1 := n1_
  have X6 := n2_
  have HW := n3_
  have HP := n4_
  have HG := n5_
  clear n0_ n1_ n2_ n3_ n4_ n5_
  clear hb'
  refine hK.out _ _ ⟨(blk_cell X6.out 0).trans rfl, (blk_cell X1.out 0).trans rfl⟩ (fun hHeld => ?_)
  clear hK K
  refine norm_ (a' := ?_) ?_ ?_
  rotate_left
  ·show Act.put _ (some 44) _ = _
   simp only [Act.put, Lam.pa, Lam.pb, Lam.pc, i64_w, i32_w]
   rfl
  refine pure_ (i := 4) (N := some 45) (v := ?_) (a' := ?_) #[true, true, true, true, true] rfl rfl (by kernel_rfl) (fun _ _ _ h => h) (Or.inl ⟨by rfl, ?_⟩) ?_ ?_
  rotate_left
  ·intro w'
   go_simp
   with_reducible rfl
  rotate_left
  ·simp only [Act.put, Lam.pa, Lam.pb, Lam.pc, i64_w, i32_w]
   rfl
  refine done_ (by kernel_rfl) ?_
  clear hHeld
  have hczX6 : w11.cell? ⟨g6, 0, none⟩ = some (.slice Ap p.length cp) := (blk_cell X6.out 0).trans rfl
  have hfzX6 := blk_frozen X6.out 0
  have hczX1 : w11.cell? ⟨g1, 0, none⟩ = some (.slice A0_0 l0_0.length c0_0) := (blk_cell X1.out 0).trans rfl
  have hfzX1 := blk_frozen X1.out 0
  go_wp2_with (first | (go_at_call 14; have tok_ := T7; clear tok_ T7; (refine (HMP.out (fun q => some q = (Value.slice Ap p.length cp).ownBlock) (.slice Ap p.length cp) w11 B.out (Kd.R_tight rfl HP.out)).mono ?_); rintro e w12 ⟨rfl, -, hbb, hk⟩; have HTY := Aside0.mk (Kd.R_typed HP.out); have x1_ := blk_kept X1.out hk (fun e_ => by obtain ⟨cs, hc⟩ := HTY.out _ e_.symm; rw [X1.out] at hc; injection hc with hc; injection hc with _ hc; exact absurd hc (by decide)); have w_ := Kd.S_mono (ok' := fun q => q < b2) (Kd.S_step (Kd.S_bound HW.out) (fun q hq hlt => hk.2 q hlt (fun e_ => by obtain ⟨cs, hc⟩ := HTY.out _ e_.symm; obtain ⟨-, -, -, t_, ht_, cs2, hc2⟩ := hq; rw [hc2] at hc; injection hc with hc; injection hc with _ hc; subst hc; revert ht_; decide))) (fun q hq => hq.1); have g_ := Kd.S_mono (ok' := fun q => b2 ≤ q) (Kd.S_step (Kd.S_bound HG.out) (fun q hq hlt => hk.2 q hlt (fun e_ => by obtain ⟨cs, hc⟩ := HTY.out _ e_.symm; obtain ⟨-, -, -, t_, ht_, cs2, hc2⟩ := hq; rw [hc2] at hc; injection hc with hc; injection hc with _ hc; subst hc; revert ht_; decide))) (fun q hq => hq.1); clear X1 X6 HW HG HP HTY B hk hczX1 hfzX1 hczX6 hfzX6; have X1 := Aside0.mk x1_; have HW := Aside0.mk w_; have HG := Aside0.mk g_; have B := Aside0.mk hbb; clear x1_ w_ g_ hbb; have T8 := Aside0.mk True.intro) | (go_at_call 12; have tok_ := T8; clear tok_ T8; (refine (HEQ.out _ Ag cg Aw cw (Kd.S_reads' HG.out).2.2 (Kd.S_reads' HG.out).2.1 (Kd.S_reads' HW.out).2.2 (Kd.S_reads' HW.out).2.1).mono ?_); rintro e w13 ⟨rfl, hb⟩; have hb' := (show Below _ _ w13 by first | exact hb | exact hb.below); clear hb; have n0_ := Aside0.mk (below_step B.out hb'); have n1_ := Aside0.mk (blk_below X1.out hb'); have n2_ := Aside0.mk (Kd.S_below HW.out hb'); have n3_ := Aside0.mk (Kd.S_below HG.out hb'); clear B X1 HW HG; have B := n0_; have X1 := n1_; have HW := n2_; have HG := n3_; clear n0_ n1_ n2_ n3_; have T9 := Aside0.mk True.intro; clear hb') | (go_at_call 15; have tok_ := T9; clear tok_ T9; (refine (HMI.out (fun q => b2 ≤ q) (.slice Ag gs.length cg) _ B.out HG.out).mono ?_); rintro e w14 ⟨rfl, hs, hbb, hk⟩; have x1_ := blk_kept X1.out hk (fun e_ => Nat.not_le.2 LT1.out e_); have w_ := Kd.S_step HW.out (fun q hq _ => hk.2 q (by assumption) (fun e_ => Nat.not_le.2 hq e_)); clear X1 HW HG B hk; have X1 := Aside0.mk x1_; have HW := Aside0.mk w_; have HG := Aside0.mk hs; have B := Aside0.mk hbb; clear x1_ w_ hs hbb; have HGL := Aside0.mk (Kd.S_reads' HG.out); have T10 := Aside0.mk True.intro) | (go_at_call 16; have tok_ := T10; clear tok_ T10; rw [show gs.length = m2.length from (Kd.S_reads' HG.out).1]; (refine (HHE.out _ Ag cg (by have := (Kd.S_reads' HG.out); exact this.2.2) (by have := (Kd.S_reads' HG.out); have h2 := this.1; rw [← h2]; exact this.2.1)).mono ?_); rintro e w15 ⟨rfl, hb⟩; have hb' := (show Below _ _ w15 by first | exact hb | exact hb.below); clear hb; have n0_ := Aside0.mk (below_step B.out hb'); have n1_ := Aside0.mk (blk_below X1.out hb'); have n2_ := Aside0.mk (Kd.S_below HW.out hb'); have n3_ := Aside0.mk (Kd.S_below HG.out hb'); clear B X1 HW HG; have B := n0_; have X1 := n1_; have HW := n2_; have HG := n3_; clear n0_ n1_ n2_ n3_; (try clear hczX1 hfzX1); have hczX1 : w15.cell? ⟨g1, 0, none⟩ = some (.slice A0_0 l0_0.length c0_0) := (blk_cell X1.out 0).trans rfl; have hfzX1 := blk_frozen X1.out 0; have T11 := Aside0.mk True.intro; clear hb') | (go_at_call 10; have tok_ := T11; clear tok_ T11; (refine (HTO.out _ B.out).mono ?_); rintro e w16 ⟨v16, rfl, ho, hb⟩; have hb' := (show Below _ _ w16 by first | exact hb | exact hb.below); clear hb; obtain ⟨Av, cv, ev⟩ := Kd.R_slice ho; subst ev; have HV := Aside0.mk ho; clear ho; have n0_ := Aside0.mk (below_step B.out hb'); have n1_ := Aside0.mk (blk_below X1.out hb'); have n2_ := Aside0.mk (Kd.S_below HW.out hb'); have n3_ := Aside0.mk (Kd.S_below HG.out hb'); clear B X1 HW HG; have B := n0_; have X1 := n1_; have HW := n2_; have HG := n3_; clear n0_ n1_ n2_ n3_; have T12 := Aside0.mk True.intro; clear hb') | (go_at_call 11; have tok_ := T12; clear tok_ T12; (refine (HIM.out _ Av cv (Kd.R_reads' HV.out).2.2 (Kd.R_reads' HV.out).2.1).mono ?_); rintro e w17 ⟨v17, rfl, ho, hb⟩; have hb' := (show Below _ _ w17 by first | exact hb | exact hb.below); clear hb; have HH := Aside0.mk ho; clear ho HV; obtain ⟨Ah, ch, eh⟩ := Kd.S_slice HH.out; subst eh; have n0_ := Aside0.mk (below_step B.out hb'); have n1_ := Aside0.mk (blk_below X1.out hb'); have n2_ := Aside0.mk (Kd.S_below HW.out hb'); have n3_ := Aside0.mk (Kd.S_below HG.out hb'); clear B X1 HW HG; have B := n0_; have X1 := n1_; have HW := n2_; have HG := n3_; clear n0_ n1_ n2_ n3_; have T13 := Aside0.mk True.intro; clear hb') | (go_at_call 12; have tok_ := T13; clear tok_ T13; (refine (HEQ.out _ Ah ch Aw cw (Kd.S_reads' HH.out).2.2 (Kd.S_reads' HH.out).2.1 (Kd.S_reads' HW.out).2.2 (Kd.S_reads' HW.out).2.1).mono ?_); rintro e w18 ⟨rfl, hb⟩; have hb' := (show Below _ _ w18 by first | exact hb | exact hb.below); clear hb; have n0_ := Aside0.mk (below_step B.out hb'); have n1_ := Aside0.mk (blk_below X1.out hb'); have n2_ := Aside0.mk (Kd.S_below HW.out hb'); have n3_ := Aside0.mk (Kd.S_below HG.out hb'); clear B X1 HW HG; have B := n0_; have X1 := n1_; have HW := n2_; have HG := n3_; clear n0_ n1_ n2_ n3_; have T14 := Aside0.mk True.intro; clear hb') | (go_at_call 16; have tok_ := T14; clear tok_ T14; rw [show gs.length = m2.length from (Kd.S_reads' HG.out).1]; (refine (HHE.out _ Ag cg (by have := (Kd.S_reads' HG.out); exact this.2.2) (by have := (Kd.S_reads' HG.out); have h2 := this.1; rw [← h2]; exact this.2.1)).mono ?_); rintro e w19 ⟨rfl, hb⟩; have hb' := (show Below _ _ w19 by first | exact hb | exact hb.below); clear hb; have n0_ := Aside0.mk (below_step B.out hb'); have n1_ := Aside0.mk (blk_below X1.out hb'); have n2_ := Aside0.mk (Kd.S_below HW.out hb'); have n3_ := Aside0.mk (Kd.S_below HG.out hb'); clear B X1 HW HG; have B := n0_; have X1 := n1_; have HW := n2_; have HG := n3_; clear n0_ n1_ n2_ n3_; have T15 := Aside0.mk True.intro; clear hb'))
  go_ret
  exact ⟨rfl, B.out⟩

end Go.Proofs.YtdikeggkfkkajaaDoor.PFnExactSolutions
