-- Made by a program of this session (wip/xprint.py) out of the translation.
import Derived.Test.YtejnbnppiipdlaaPFnBreaksStripsx0
import Derived.Test.YtejnbnppiipdlaaPFnBreaksStripsx1
namespace Go.Proofs.Ytejnbnppiipdlaa.PFnBreaksStrips
open Go.RowKit Go.Proofs.YtejnbnppiipdlaaW.PrintWords Go.Proofs.YtejnbnppiipdlaaW.PrintLast Go.Proofs.YtejnbnppiipdlaaW.PrintMore
attribute [local go_sem] max2_int min2_int max_two min_two max_three min_three max_four min_four   -- for this text's walks alone
set_option linter.unusedVariables false
set_option linter.unusedSimpArgs false

/-! ### spec_StripMoves: function 8 -/
def spec_StripMoves.l0 : Nat → Int → Int → Bool → List Int → Int → Option (List Int × Bool)
 | 0, _, _, _, _, _ => none
 | k + 1, x0, x1, x2, x8, x9 => if (wrap64 (2 * x9)) ≤ x0 then ((spec_laCan.f x0 x9 x1 x2).bind fun t155 => (if t155 = true then (if x8.length < 17592186044416 then (spec_StripMoves.l0 k x0 x1 x2 (x8 ++ [x9]) (wrap64 (x9 + 1))) else (none)) else (spec_StripMoves.l0 k x0 x1 x2 x8 (wrap64 (x9 + 1))))) else (some (x8, true))
def spec_StripMoves.f (k : Nat) (a0 : Int) (a1 : Int) (a2 : Bool) : Option (List Int × Bool) := (spec_laStrip.f a0 a1).bind fun t154 => (if t154 = true then (spec_StripMoves.l0 k a0 a1 a2 ([] : List Int) 1) else (some (([] : List Int), false)))
theorem spec_StripMoves.mono_l : ∀ k, (∀ y0 y1 y2 y3 y4, LeO (spec_StripMoves.l0 k y0 y1 y2 y3 y4) (spec_StripMoves.l0 (k + 1) y0 y1 y2 y3 y4))
 | 0 => fun _ _ _ _ _ r h => by simp [spec_StripMoves.l0] at h
 | k + 1 => by
  have ih0 := spec_StripMoves.mono_l k
  ·intro y0 y1 y2 y3 y4
   unfold spec_StripMoves.l0
   repeat' first
   | (with_reducible exact ih0 _ _ _ _ _)
   | (with_reducible exact LeO.refl _)
   | (with_reducible exact LeO.none _)
   | (with_reducible refine LeO.ite ?_ ?_)
   | (with_reducible refine LeO.bind ?_ (fun _ => ?_))
   | exact ih0 _ _ _ _ _
   | exact LeO.none _
   | refine LeO.ite ?_ ?_
   | refine LeO.bind ?_ (fun _ => ?_)
theorem spec_StripMoves.mono : ∀ a0 a1 a2 k, LeO (spec_StripMoves.f k a0 a1 a2) (spec_StripMoves.f (k + 1) a0 a1 a2) := by
 intro a0 a1 a2 k
 have ih0 := spec_StripMoves.mono_l k
 unfold spec_StripMoves.f
 repeat' first
   | (with_reducible exact ih0 _ _ _ _ _)
   | (with_reducible exact LeO.refl _)
   | (with_reducible exact LeO.none _)
   | (with_reducible refine LeO.ite ?_ ?_)
   | (with_reducible refine LeO.bind ?_ (fun _ => ?_))
   | exact ih0 _ _ _ _ _
   | exact LeO.none _
   | refine LeO.ite ?_ ?_
   | refine LeO.bind ?_ (fun _ => ?_)
set_option maxHeartbeats 8000000 in
set_option maxRecDepth 100000 in
theorem spec_StripMoves.calls (k : Nat) (a0 : Int) (a1 : Int) (a2 : Bool) (r1 : List Int) (r2 : Bool) (w : World) (h : spec_StripMoves.f k a0 a1 a2 = some (r1, r2)) :
  Calls Try.prog 8 #[.int .i64 a0, .int .i64 a1, .bool a2] w fun e w' => ∃ v0_ : Value, e = .returned (.tuple #[v0_, .bool r2]) ∧ Kd.R (Kd.int .i64) 3 w' w.heap.size (fun _ => True) v0_ r1 ∧ Below w.heap.size w w' := by
 have HB := Aside0.mk (Below.refl w.heap.size w)
 have H : ((spec_laStrip.f a0 a1).bind fun t154 => (if t154 = true then (spec_StripMoves.l0 k a0 a1 a2 ([] : List Int) 1) else (some (([] : List Int), false)))) = some (r1, r2) := h
 clear h
 replace H := Option.bind_eq_some_iff.mp H
 obtain ⟨t154, A40, H⟩ := H
 (try dsimp only at H)
 have A4 := Aside0.mk A40
 clear A40
 by_cases c5 : t154 = true
 ·subst c5
  have H1 : (spec_StripMoves.l0 k a0 a1 a2 ([] : List Int) 1) = some (r1, r2) := by rw [if_pos rfl] at H; exact H
  clear H
  have H := H1
  clear H1
  have H' := Aside0.mk H
  clear H
  go_enter Try.func8, Try.ntmps8
  go_wp2_with (first | ((with_reducible refine gate_callee (f := 54) rfl ?_); refine goesL_ (some 12) rfl rfl Try.func54 (by kernel_rfl) rfl #[.int .i64 a0, .int .i64 a1] rfl (by (try simp only [List.map_toArray, List.map_cons, List.map_nil]); first | done | rfl | (simp only [List.length_drop, List.length_take]; rfl)) ?_; (with_reducible refine (spec_laStrip.calls a0 a1 true _ A4.out).mono ?_); rintro e w' ⟨rfl, ⟨nd, rfl⟩⟩; refine ⟨_, rfl, ?_⟩))
  go_loopg [8, 9] k (fun kq v8 v9 w' => ∃ (x8_1 : List Int) (x9_1 : Int), v9 = .int .i64 x9_1 ∧ Aside0 (spec_StripMoves.l0 kq a0 a1 a2 x8_1 x9_1 = some (r1, r2)) ∧ Aside0 (kq ≤ k) ∧ Aside0 (Kd.R (Kd.int .i64) 3 w' w.heap.size (fun _ => True) v8 x8_1) ∧ Aside0 (Below w.heap.size w w'))
  case atStart => exact ⟨(([] : List Int)), (1), (by first | rfl | (simp; done) | (simp [*]; done)), H', ⟨Nat.le_refl _⟩, ⟨by first | exact Kd.R_nil _ _ _ _ _ | exact Kd.N_nil _ _ _ _ _ | exact Kd.V_nil _ _ _ _ _ | exact Kd.Q_nil _ _ _ _ _ | exact Kd.S_nil _ _ _ _ _⟩, ⟨Lam.al⟩⟩
  case round =>
   clear H'
   try clear p2
   try clear c5
   obtain ⟨x8_1, x9_1, rfl, HA, HK1, HO_8, HB⟩ := hrel
   cases gk with
   | zero => exact absurd HA.out (by simp [spec_StripMoves.l0])
   | succ k1 =>
    have H := HA.out
    clear HA
    simp only [spec_StripMoves.l0] at H
    by_cases c6 : (wrap64 (2 * x9_1)) ≤ a0
    ·rw [if_pos c6] at H
     have c6b0 : decide ((wrap64 (2 * x9_1)) ≤ a0) = true := decide_eq_true c6
     clear c6
     replace H := Option.bind_eq_some_iff.mp H
     obtain ⟨t155, A70, H⟩ := H
     (try dsimp only at H)
     have A7 := Aside0.mk A70
     clear A70
     by_cases c8 : t155 = true
     ·subst c8
      rw [if_pos rfl] at H
      by_cases c9 : x8_1.length < 17592186044416
      ·rw [if_pos c9] at H
       have LMc9 := Aside0.mk c9
       clear c9
       obtain ⟨y156, hy156⟩ : ∃ y_ : List Int, y_ = (x8_1 ++ [x9_1]) := ⟨_, rfl⟩
       replace H : (spec_StripMoves.l0 k1 a0 a1 a2 y156 (wrap64 (x9_1 + 1))) = some (r1, r2) := by first | (rw [hy156]; with_reducible exact H) | (have H2_ := (Option.bind_some _ _).symm.trans H; rw [hy156]; with_reducible exact H2_) | (have H2_ := (Option.bind_some _ _).symm.trans H; with_reducible exact H2_) | with_reducible exact H | (rw [hy156]; exact H) | exact H
       have Ny156 := Aside0.mk hy156
       clear hy156
       have H' := Aside0.mk H
       clear H
       go_wp2_with (first | ((with_reducible refine gate_callee (f := 55) rfl ?_); refine goesL_ (some 24) rfl rfl Try.func55 (by kernel_rfl) rfl #[.int .i64 a0, .int .i64 x9_1, .int .i64 a1, .bool a2] rfl (by (try simp only [List.map_toArray, List.map_cons, List.map_nil]); first | done | rfl | (simp only [List.length_drop, List.length_take]; rfl)) ?_; (with_reducible refine (spec_laCan.calls a0 x9_1 a1 a2 true _ A7.out).mono ?_); rintro e w' ⟨rfl, ⟨nd, rfl⟩⟩; refine ⟨_, rfl, ?_⟩) | ((with_reducible refine gate_builtin (b := .append) (xs := #[.tmp 25, .tmp 27]) rfl ?_); at_builtin; refine Kd.R_append (Kd.int .i64) (w0 := w) w.heap.size rfl (.tmp 25) (.tmp 27) 26 3 (.int .i64 0) 8 rfl Try.underlying26 info3 rfl (by decide) (by omega) u8 x8_1 x9_1 [.int .i64 x9_1] (fun _ => True) (fun _ => False) rfl rfl ?aP (fun _ hk => hk.elim) ?aF ?aO ?aB ?aS ?aL ?_; (case aP => exact rfl); (case aB => exact (Lam.al)); (case aF => exact (fun _ _ => trivial)); (case aO => exact (Lam.rq HO_8.out)); (case aS => exact (below_size (Lam.al))); (case aL => have := LMc9.out; omega); intro v157 w10 ho hb hg hat; rw [← Ny156.out] at ho; have n0_ := Aside0.mk (hb); have n1_ := Aside0.mk (ho); clear HB; clear HO_8; have HB := n0_; have HO158 := n1_; clear n0_ n1_; clear ho hb hg hat))
       go_roundg k1
       case measure => have := HK1.out; omega
       case rel => exact ⟨(y156), (wrap64 (x9_1 + 1)), (by first | rfl | (simp; done) | (simp [*]; done)), H', ⟨by have := HK1.out; omega⟩, ⟨Lam.rq HO158.out⟩, ⟨Lam.al⟩⟩
      ·rw [if_neg c9] at H
       exact absurd H (by simp)
     ·replace c8 := Bool.eq_false_iff.mpr c8
      subst c8
      have H1 : (spec_StripMoves.l0 k1 a0 a1 a2 x8_1 (wrap64 (x9_1 + 1))) = some (r1, r2) := by rw [if_neg (show ¬ (false = true) by decide)] at H; exact H
      clear H
      have H := H1
      clear H1
      have H' := Aside0.mk H
      clear H
      go_wp2_with (first | ((with_reducible refine gate_callee (f := 55) rfl ?_); refine goesL_ (some 24) rfl rfl Try.func55 (by kernel_rfl) rfl #[.int .i64 a0, .int .i64 x9_1, .int .i64 a1, .bool a2] rfl (by (try simp only [List.map_toArray, List.map_cons, List.map_nil]); first | done | rfl | (simp only [List.length_drop, List.length_take]; rfl)) ?_; (with_reducible refine (spec_laCan.calls a0 x9_1 a1 a2 false _ A7.out).mono ?_); rintro e w' ⟨rfl, ⟨nd, rfl⟩⟩; refine ⟨_, rfl, ?_⟩))
      go_roundg k1
      case measure => have := HK1.out; omega
      case rel => exact ⟨(x8_1), (wrap64 (x9_1 + 1)), (by first | rfl | (simp; done) | (simp [*]; done)), H', ⟨by have := HK1.out; omega⟩, ⟨Lam.rq HO_8.out⟩, ⟨Lam.al⟩⟩
    ·rw [if_neg c6] at H
     have c6b0 : decide ((wrap64 (2 * x9_1)) ≤ a0) = false := decide_eq_false c6
     clear c6
     simp only [Option.some.injEq, Prod.mk.injEq] at H
     obtain ⟨rfl, rfl⟩ := H
     go_wp2
     go_ret2
     exact ⟨_, by first | rfl | (simp [errW_none, errW_some] <;> rfl) | (simp [*, errW_none, errW_some] <;> rfl), by (with_reducible repeat (first | apply Kd.R_alloc | apply Kd.R_drewN | apply Kd.R_drew)); exact HO_8.out, Lam.al⟩
 ·replace c5 := Bool.eq_false_iff.mpr c5
  subst c5
  have H1 : (some (([] : List Int), false)) = some (r1, r2) := by rw [if_neg (show ¬ (false = true) by decide)] at H; exact H
  clear H
  have H := H1
  clear H1
  simp only [Option.some.injEq, Prod.mk.injEq] at H
  obtain ⟨rfl, rfl⟩ := H
  go_enter Try.func8, Try.ntmps8
  go_wp2_with (first | ((with_reducible refine gate_callee (f := 54) rfl ?_); refine goesL_ (some 12) rfl rfl Try.func54 (by kernel_rfl) rfl #[.int .i64 a0, .int .i64 a1] rfl (by (try simp only [List.map_toArray, List.map_cons, List.map_nil]); first | done | rfl | (simp only [List.length_drop, List.length_take]; rfl)) ?_; (with_reducible refine (spec_laStrip.calls a0 a1 false _ A4.out).mono ?_); rintro e w' ⟨rfl, ⟨nd, rfl⟩⟩; refine ⟨_, rfl, ?_⟩))
  go_ret2
  exact ⟨_, by first | rfl | (simp [errW_none, errW_some] <;> rfl) | (simp [*, errW_none, errW_some] <;> rfl), by first | exact Kd.R_nil _ _ _ _ _ | exact Kd.N_nil _ _ _ _ _ | exact Kd.V_nil _ _ _ _ _ | exact Kd.Q_nil _ _ _ _ _ | exact Kd.S_nil _ _ _ _ _, Lam.al⟩

/-! ### impl_rule_values: function 56 -/
def impl_rule_values.xr (out : List Int) (n : Nat) (m : Int) : Int := Go.bits .xor .i64 (out.getD m.toNat 0) (out.getD (n - m.toNat) 0)
def impl_rule_values.Fit (out ms : List Int) (n : Nat) : Prop := out.length = n ∧ n ≤ 60 ∧ ms.length ≤ 60 ∧ (∀ m ∈ ms, 0 < m ∧ m < (n : Int)) ∧ ∀ m ∈ ms, 0 ≤ impl_rule_values.xr out n m ∧ impl_rule_values.xr out n m < 1000
instance impl_rule_values.decFit (out ms : List Int) (n : Nat) : Decidable (impl_rule_values.Fit out ms n) := by unfold impl_rule_values.Fit; infer_instance
def impl_rule_values.nx (k : Nat) (least : Int) (unlike : Bool) (out : List Int) (n : Nat) : Option (List Int) :=
 (impl_rule_moves.f k least unlike (n : Int)).bind fun ms => if impl_rule_values.Fit out ms n then some (out ++ [(Chomp.mex (ms.map (impl_rule_values.xr out n)) : Int)]) else none
def impl_rule_values.vals (k : Nat) (least : Int) (unlike : Bool) : Nat → Option (List Int)
 | 0 => some [0]
 | n + 1 => (impl_rule_values.vals k least unlike n).bind fun out => impl_rule_values.nx k least unlike out (n + 1)
theorem impl_rule_values.down {k : Nat} {least : Int} {unlike : Bool} : ∀ {N n : Nat} {r : List Int}, impl_rule_values.vals k least unlike N = some r → n ≤ N → ∃ o, impl_rule_values.vals k least unlike n = some o := by
 intro N
 induction N with
 | zero =>
  intro n r h hn
  obtain rfl : n = 0 := by omega
  exact ⟨r, h⟩
 | succ N ih =>
  intro n r h hn
  by_cases c : n = N + 1
  ·rw [c]; exact ⟨r, h⟩
  ·simp only [impl_rule_values.vals] at h
   obtain ⟨o, h1, _⟩ := Option.bind_eq_some_iff.1 h
   exact ih h1 (by omega)
theorem impl_rule_values.next {k : Nat} {least : Int} {unlike : Bool} {n : Nat} {out o2 : List Int} (h : impl_rule_values.vals k least unlike n = some out) (h2 : impl_rule_values.vals k least unlike (n + 1) = some o2) :
  ∃ ms, impl_rule_moves.f k least unlike ((n + 1 : Nat) : Int) = some ms ∧ impl_rule_values.Fit out ms (n + 1) ∧ o2 = out ++ [(Chomp.mex (ms.map (impl_rule_values.xr out (n + 1))) : Int)] := by
 simp only [impl_rule_values.vals, h, Option.bind_some, impl_rule_values.nx] at h2
 obtain ⟨ms, h3, h4⟩ := Option.bind_eq_some_iff.1 h2
 refine ⟨ms, h3, ?_⟩
 by_cases c : impl_rule_values.Fit out ms (n + 1)
 ·rw [if_pos c] at h4
  exact ⟨c, (Option.some.inj h4).symm⟩
 ·rw [if_neg c] at h4; cases h4
theorem impl_rule_values.take_step {out ms : List Int} {n kk : Nat} (h : kk < ms.length) : (ms.take kk).map (impl_rule_values.xr out n) ++ [impl_rule_values.xr out n ms[kk]] = (ms.take (kk + 1)).map (impl_rule_values.xr out n) := by
 rw [List.take_add_one, List.getElem?_eq_getElem h, List.map_append]; rfl
def impl_rule_values.f (k : Nat) (a0_0 : Int) (a0_1 : Bool) (a1 : Int) : Option (List Int) := if 0 ≤ a1 ∧ a1 ≤ 60 then impl_rule_values.vals k a0_0 a0_1 a1.toNat else none
theorem impl_rule_values.mono : ∀ a0 a1 a2 k, LeO (impl_rule_values.f k a0 a1 a2) (impl_rule_values.f (k + 1) a0 a1 a2) := by
 intro a0 a1 a2 k
 unfold impl_rule_values.f
 refine LeO.ite ?_ (LeO.refl _)
 induction a2.toNat with
 | zero => exact LeO.refl _
 | succ n ih =>
  refine LeO.bind ih (fun out => ?_)
  exact LeO.bind (impl_rule_moves.mono _ _ _ _) (fun _ => LeO.refl _)
set_option maxHeartbeats 8000000 in
set_option maxRecDepth 100000 in
theorem impl_rule_values.calls (k : Nat) (a0_0 : Int) (a0_1 : Bool) (a1 : Int) (r : List Int) (w : World) (h : impl_rule_values.f k a0_0 a0_1 a1 = some r) :
  Calls Try.prog 56 #[.agg #[.int .i64 a0_0, .bool a0_1], .int .i64 a1] w fun e w' => ∃ v0_ : Value, e = .returned (v0_) ∧ Kd.R (Kd.int .i64) 3 w' w.heap.size (fun _ => True) v0_ r ∧ Below w.heap.size w w' := by
 have hc : 0 ≤ a1 ∧ a1 ≤ 60 := by
  by_cases hc : 0 ≤ a1 ∧ a1 ≤ 60
  ·exact hc
  ·simp only [impl_rule_values.f, if_neg hc] at h; cases h
 simp only [impl_rule_values.f, if_pos hc] at h
 obtain ⟨N, rfl⟩ : ∃ N : Nat, a1 = (N : Int) := ⟨a1.toNat, by omega⟩
 rw [Int.toNat_natCast] at h
 have HV := Aside0.mk h
 have HN := Aside0.mk (show N ≤ 60 by omega)
 have HB := Aside0.mk (Below.refl w.heap.size w)
 have hu := Try.underlying26
 clear h hc
 go_enter Try.func56, Try.ntmps56
 go_wp2_with (first
  | ((with_reducible refine gate_dst (N := 2) rfl ?_); refine box_event ?hg (N := 2) ?hd (cs := #[.int .i64 a0_0, .bool a0_1]) (t := 69) ?hr ?_; (case hd => rfl); (case hg => rfl); (case hr => first | (go_simp; done) | (go_simp; rfl)); intro g2 hg2 w2 hbox2 hb2; have G2 := Aside0.mk hg2; have X2 := Aside0.mk hbox2; have B2 := Aside0.mk hb2; clear hg2 hbox2 hb2; have hcz2_0 : w2.cell? ⟨g2, 0, none⟩ = some (.int .i64 a0_0) := (blk_cell X2.out 0).trans rfl; have hfz2_0 := blk_frozen X2.out 0; have hcz2_1 : w2.cell? ⟨g2, 1, none⟩ = some (.bool a0_1) := (blk_cell X2.out 1).trans rfl; have hfz2_1 := blk_frozen X2.out 1)
  | ((with_reducible refine gate_dst (N := 11) rfl ?_); refine Kd.R_lit (Kd.int .i64) _ 3 ?hg (N := 11) ?hd (xs := ([0] : List Int)) (inner := [.int .i64 0]) (ok := fun _ => True) (okp := fun _ => True) ?hr ?hp (fun _ hk => hk) trivial (Below.refl _ _) (Nat.le_refl _) (by simp) ?_; (case hd => rfl); (case hg => rfl); (case hr => first | (go_simp; done) | (go_simp; rfl)); (case hp => exact (Reps.one (show Kd.M (Kd.int .i64) _ _ _ 0 [.int .i64 0] from rfl) (Reps.none _ _))); intro v11 w11 ho hb hg_ hnew_; have HO := Aside0.mk (Kd.R_lower ho B2.out.size); have HB3 := Aside0.mk (below_step B2.out hb); have X3 := Aside0.mk (blk_below X2.out hb); clear ho hb hg_ hnew_))
 go_loopg [5, 6] (N + 1) (fun gg v5 v6 w' => ∃ (n : Nat) (out : List Int), n ≤ N ∧ N + 1 - n ≤ gg ∧ v6 = .int .i64 ((n + 1 : Nat) : Int) ∧ Aside0 (impl_rule_values.vals k a0_0 a0_1 n = some out) ∧ Aside0 (Kd.R (Kd.int .i64) 3 w' w.heap.size (fun _ => True) v5 out) ∧ Aside0 (w'.heap[g2]? = some (.cells #[.int .i64 a0_0, .bool a0_1] 69 (0, 0))) ∧ Aside0 (Below w.heap.size w w'))
 case atStart => exact ⟨0, [0], Nat.zero_le _, by omega, rfl, ⟨rfl⟩, HO, X3, HB3⟩
 case round =>
  clear HO X3 HB3 HB hcz2_0 hcz2_1 hfz2_0 hfz2_1 B2 X2
  obtain ⟨n, out, hn, hgg, rfl, HVn, HO, X2, HB⟩ := hrel
  by_cases hlt : n + 1 ≤ N
  ·have hltz : ((n + 1 : Nat) : Int) ≤ (N : Int) := by omega
   obtain ⟨o2, ho2⟩ := impl_rule_values.down HV.out hlt
   obtain ⟨ms, hms, hfit, hoe⟩ := impl_rule_values.next HVn.out ho2
   have HV2 := Aside0.mk ho2
   have HMV := Aside0.mk (fun W => impl_rule_moves.calls k a0_0 a0_1 ((n + 1 : Nat) : Int) ms W hms)
   have HF := Aside0.mk hfit
   have HE := Aside0.mk hoe
   have HLT := Aside0.mk hlt
   have HGG := Aside0.mk hgg
   have hw1 : wrap64 (((n + 1 : Nat) : Int) + 1) = ((n + 1 + 1 : Nat) : Int) := PK.w1 (show n + 1 < 100 by have := HN.out; omega) (by omega)
   have hcz0 : wr.cell? ⟨g2, 0, none⟩ = some (.int .i64 a0_0) := (blk_cell X2.out 0).trans rfl
   have hcz1 : wr.cell? ⟨g2, 1, none⟩ = some (.bool a0_1) := (blk_cell X2.out 1).trans rfl
   clear ho2 hms hfit hoe hn hgg
   go_wp2_with (first
    | ((with_reducible refine gate_dst (N := 17) rfl ?_); refine Fmap.wp_make rfl rfl 97 rfl Try.prog 3 4 ?_; intro gm w17 hgm hset hbm; have GM := Aside0.mk (show w.heap.size ≤ gm by rw [hgm]; exact HB.out.size); have HO3 := Aside0.mk (Kd.R_below HO.out hbm); have X3 := Aside0.mk (blk_below X2.out hbm); have HB3 := Aside0.mk (below_step HB.out hbm); have HSET := Aside0.mk hset; have NM := Aside0.mk (show ∀ k, some k = (u5).ownBlock → k ≠ gm from fun k hk e => by have h1 := Kd.R_lt HO.out k hk.symm; omega); clear hset hbm hgm hcz0 hcz1; have hcz0 : w17.cell? ⟨g2, 0, none⟩ = some (.int .i64 a0_0) := (blk_cell X3.out 0).trans rfl; have hcz1 : w17.cell? ⟨g2, 1, none⟩ = some (.bool a0_1) := (blk_cell X3.out 1).trans rfl)
    | (go_at_call 53; go_loud (refine (HMV.out _).mono ?_; rintro e w20 ⟨vm, rfl, ho, hb⟩); have HM4 := Aside0.mk (Kd.R_lower ho HB3.out.size); have HO4 := Aside0.mk (Kd.R_below HO3.out hb); have X4 := Aside0.mk (blk_below X3.out hb); have HB4 := Aside0.mk (below_step HB3.out hb); have HS4 := Aside0.mk (HSET.out.below hb); obtain ⟨Am, cm, em⟩ := Kd.R_slice ho; subst em; clear ho hb hcz0 hcz1))
   go_loopg [22] ms.length (fun gg v22 w' => ∃ kk : Nat, kk ≤ ms.length ∧ ms.length - kk ≤ gg ∧ v22 = .int .i64 (kk : Int) ∧ Aside0 (Fmap.SetIs Try.prog 3 4 w' gm kk ((ms.take kk).map (impl_rule_values.xr out (n + 1)))) ∧ Aside0 (Kd.R (Kd.int .i64) 3 w' w.heap.size (fun _ => True) (.slice Am ms.length cm) ms) ∧ Aside0 (Kd.R (Kd.int .i64) 3 w' w.heap.size (fun _ => True) u5 out) ∧ Aside0 (w'.heap[g2]? = some (.cells #[.int .i64 a0_0, .bool a0_1] 69 (0, 0))) ∧ Aside0 (Below w.heap.size w w'))
   case atStart => exact ⟨0, Nat.zero_le _, by omega, rfl, HS4, HM4, HO4, X4, HB4⟩
   case round =>
    clear HS4 HM4 HO4 X4 HB4 HO X2 HB HO3 X3 HB3 HSET
    obtain ⟨kk, hkk, hgg2, rfl, HS, HM, HO, X2, HB⟩ := hrel
    by_cases hlk : kk < ms.length
    ·have hlkz : (kk : Int) < (ms.length : Int) := by omega
     obtain ⟨f1, f2, f3, f4, f5⟩ := HF.out
     have hmem := Lam.getD_mem hlk (0 : Int)
     have g4 := f4 _ hmem
     have g5 := f5 _ hmem
     obtain ⟨mm, hmm⟩ : ∃ mm : Nat, ms.getD kk 0 = (mm : Int) := ⟨(ms.getD kk 0).toNat, by omega⟩
     have hxr := impl_rule_values.take_step (out := out) (n := n + 1) hlk
     have hgm : ms[kk] = (mm : Int) := by rw [← hmm, List.getD_eq_getElem?_getD, List.getElem?_eq_getElem hlk]; rfl
     rw [hgm] at hxr
     rw [hmm] at g4 g5
     have HMM := Aside0.mk (show 0 < mm ∧ mm < n + 1 by omega)
     have HX5 := Aside0.mk g5
     have HXR := Aside0.mk hxr
     rcases Del.row_formR HM.out with ⟨_, h2⟩ | ⟨gq, cq, hv⟩
     ·rw [h2] at hlk; simp at hlk
     injection hv with hA hn2 hc2
     clear hn2
     subst hA; subst hc2
     obtain ⟨_, _, hbq, curq, hgq, hnq, _, hMq⟩ := Del.row_ofR rfl HM.out (0 : Int)
     rcases Del.row_formR HO.out with ⟨_, h2⟩ | ⟨go, co, hvo⟩
     ·rw [h2] at f1; simp at f1
     subst hvo
     obtain ⟨_, _, hbo, curo, hgo, hno, _, hMo⟩ := Del.row_ofR rfl HO.out (0 : Int)
     have hx0 : wr.cell? ⟨gq, kk, none⟩ = some (.int .i64 (mm : Int)) := (blk_cell hgq kk).trans (by have h9 : [curq[kk]!] = [Value.int .i64 (ms.getD kk 0)] := hMq kk hlk; injection h9 with h9; rw [Del.arr_at (by omega), h9, hmm])
     have HQ0 := Aside0.mk (show curo[mm]? = some (.int .i64 (out.getD mm 0)) by have h9 : [curo[mm]!] = [Value.int .i64 (out.getD mm 0)] := hMo mm (by omega); injection h9 with h9; rw [Del.arr_at (by omega), h9])
     obtain ⟨q, hq⟩ : ∃ q : Nat, n + 1 - mm = q := ⟨_, rfl⟩
     have HQQ := Aside0.mk hq
     have HQ1 := Aside0.mk (show curo[q]? = some (.int .i64 (out.getD q 0)) by have h9 : [curo[q]!] = [Value.int .i64 (out.getD q 0)] := hMo q (by omega); injection h9 with h9; rw [Del.arr_at (by omega), h9])
     obtain ⟨ua, hua⟩ : ∃ ua, out.getD mm 0 = ua := ⟨_, rfl⟩
     obtain ⟨ub, hub⟩ : ∃ ub, out.getD q 0 = ub := ⟨_, rfl⟩
     have HEX := Aside0.mk (show Go.bits .xor .i64 ua ub = impl_rule_values.xr out (n + 1) (mm : Int) by unfold impl_rule_values.xr; rw [Int.toNat_natCast, hq, hua, hub])
     rw [hua] at HQ0
     rw [hub] at HQ1
     have hi0 : (mm : Int) < (out.length : Int) := by omega
     have hi1 : (q : Int) < (out.length : Int) := by omega
     have hws : wrap64 ((n : Int) + 1 - (mm : Int)) = (q : Int) := by have := HN.out; rw [PK.wrap_in (by omega) (by omega)]; omega
     have NGM := Aside0.mk (show ¬ go = gm from NM.out go rfl)
     clear hq hua hub f1 f2 f3 f4 f5 g4 g5 hmem hmm hxr hgm hMq hMo hbq hbo hnq hno
     go_wp2
     have S8 := HS.out.kept (w' := wr.drew) rfl
     have M8 := Kd.R_drew HM.out
     have O8 := Kd.R_drew HO.out
     have X8 : wr.drew.heap[g2]? = some (.cells #[.int .i64 a0_0, .bool a0_1] 69 (0, 0)) := X2.out
     have B8 := below_drew HB.out
     have q8 : wr.drew.heap[go]? = some (.cells curo 3 (0, 0)) := hgo
     refine start_ (n := 13) (S := fun w' => w'.heap[go]? = some (.cells curo 3 (0, 0))) (ds := [12]) #[false, false, false, false, false, false, false, false, false, false, false, false, false] (by kernel_rfl) rfl rfl q8 (fun hHeld => ?_)
     generalize wr.drew = we at S8 M8 O8 X8 B8 q8 hHeld ⊢
     clear HS HM HO X2 HB hgq hgo hx0
     refine pure_ (i := 0) (N := some 26) (v := ?_) (a' := ?_) #[true, false, false, false, false, false, false, false, false, false, false, false, false] rfl rfl (by kernel_rfl) (fun _ _ _ h => h) (Or.inl ⟨by rfl, ?_⟩) ?_ ?_
     rotate_left
     ·intro w'
      go_simp
      with_reducible rfl
     rotate_left
     ·simp only [Act.put, Lam.pa, Lam.pb, Lam.pc, i64_w, i32_w]
      rfl
     refine pure_ (i := 1) (N := some 27) (v := ?_) (a' := ?_) #[true, true, false, false, false, false, false, false, false, false, false, false, false] rfl rfl (by kernel_rfl) (fun _ _ _ h => h) (Or.inl ⟨by rfl, ?_⟩) ?_ ?_
     rotate_left
     ·intro w'
      go_simp
      with_reducible rfl
     rotate_left
     ·simp only [Act.put, Lam.pa, Lam.pb, Lam.pc, i64_w, i32_w]
      rfl
     refine pure_ (i := 2) (N := some 28) (v := ?_) (a' := ?_) #[true, true, true, false, false, false, false, false, false, false, false, false, false] rfl rfl (by kernel_rfl) (fun _ _ _ h => h) (Or.inl ⟨by rfl, ?_⟩) ?_ ?_
     rotate_left
     ·intro w'
      go_simp
      with_reducible rfl
     rotate_left
     ·simp only [Act.put, Lam.pa, Lam.pb, Lam.pc, i64_w, i32_w]
      rfl
     refine pure_ (i := 3) (N := some 29) (v := ?_) (a' := ?_) #[true, true, true, true, false, false, false, false, false, false, false, false, false] rfl rfl (by kernel_rfl) (fun _ _ _ h => h) (Or.inl ⟨by rfl, ?_⟩) ?_ ?_
     rotate_left
     ·intro w'
      go_simp
      with_reducible rfl
     rotate_left
     ·simp only [Act.put, Lam.pa, Lam.pb, Lam.pc, i64_w, i32_w]
      rfl
     refine take_ (i := 4) (N := some 30) (v := ?_) (a' := ?_) #[true, true, true, true, true, false, false, false, false, false, false, false, false] rfl rfl (by kernel_rfl) (fun _ _ _ h => h) (Or.inl ⟨by rfl, ?_⟩) hHeld ?_ ?_
     rotate_left
     ·rintro w' s0
      have s1 := (blk_cell s0 mm).trans HQ0.out
      go_simp
      with_reducible rfl
     rotate_left
     ·simp only [Act.put, Lam.pa, Lam.pb, Lam.pc, i64_w, i32_w]
      rfl
     refine pure_ (i := 5) (N := some 31) (v := ?_) (a' := ?_) #[true, true, true, true, true, true, false, false, false, false, false, false, false] rfl rfl (by kernel_rfl) (fun _ _ _ h => h) (Or.inl ⟨by rfl, ?_⟩) ?_ ?_
     rotate_left
     ·intro w'
      go_simp
      with_reducible rfl
     rotate_left
     ·simp only [Act.put, Lam.pa, Lam.pb, Lam.pc, i64_w, i32_w]
      rfl
     refine pure_ (i := 6) (N := some 32) (v := ?_) (a' := ?_) #[true, true, true, true, true, true, true, false, false, false, false, false, false] rfl rfl (by kernel_rfl) (fun _ _ _ h => h) (Or.inl ⟨by rfl, ?_⟩) ?_ ?_
     rotate_left
     ·intro w'
      go_simp
      with_reducible rfl
     rotate_left
     ·simp only [Act.put, Lam.pa, Lam.pb, Lam.pc, i64_w, i32_w]
      rfl
     refine pure_ (i := 7) (N := some 33) (v := ?_) (a' := ?_) #[true, true, true, true, true, true, true, true, false, false, false, false, false] rfl rfl (by kernel_rfl) (fun _ _ _ h => h) (Or.inl ⟨by rfl, ?_⟩) ?_ ?_
     rotate_left
     ·intro w'
      go_simp
      with_reducible rfl
     rotate_left
     ·simp only [Act.put, Lam.pa, Lam.pb, Lam.pc, i64_w, i32_w]
      rfl
     refine pure_ (i := 8) (N := some 34) (v := ?_) (a' := ?_) #[true, true, true, true, true, true, true, true, true, false, false, false, false] rfl rfl (by kernel_rfl) (fun _ _ _ h => h) (Or.inl ⟨by rfl, ?_⟩) ?_ ?_
     rotate_left
     ·intro w'
      go_simp
      with_reducible rfl
     rotate_left
     ·simp only [Act.put, Lam.pa, Lam.pb, Lam.pc, i64_w, i32_w]
      rfl
     refine pure_ (i := 9) (N := some 35) (v := ?_) (a' := ?_) #[true, true, true, true, true, true, true, true, true, true, false, false, false] rfl rfl (by kernel_rfl) (fun _ _ _ h => h) (Or.inl ⟨by rfl, ?_⟩) ?_ ?_
     rotate_left
     ·intro w'
      go_simp
      with_reducible rfl
     rotate_left
     ·simp only [Act.put, Lam.pa, Lam.pb, Lam.pc, i64_w, i32_w]
      rfl
     refine take_ (i := 10) (N := some 36) (v := ?_) (a' := ?_) #[true, true, true, true, true, true, true, true, true, true, true, false, false] rfl rfl (by kernel_rfl) (fun _ _ _ h => h) (Or.inl ⟨by rfl, ?_⟩) hHeld ?_ ?_
     rotate_left
     ·rintro w' s0
      have s1 := (blk_cell s0 q).trans HQ1.out
      go_simp
      with_reducible rfl
     rotate_left
     ·simp only [Act.put, Lam.pa, Lam.pb, Lam.pc, i64_w, i32_w]
      rfl
     refine pure_ (i := 11) (N := some 37) (v := ?_) (a' := ?_) #[true, true, true, true, true, true, true, true, true, true, true, true, false] rfl rfl (by kernel_rfl) (fun _ _ _ h => h) (Or.inl ⟨by rfl, ?_⟩) ?_ ?_
     rotate_left
     ·intro w'
      go_simp
      with_reducible rfl
     rotate_left
     ·simp only [Act.put, Lam.pa, Lam.pb, Lam.pc, i64_w, i32_w]
      rfl
     obtain ⟨w1, hrun, hs1, hg1⟩ := S8.put (t := 97) Try.underlying3 Try.underlying4 Try.underlying97 (by have := HF.out.2.2.1; unfold maxLen; omega) (q := Go.bits .xor .i64 ua ub) (by rw [HEX.out]; exact WalkArith.wf_i64 (by have := HX5.out; omega))
     rw [HEX.out, HXR.out] at hs1
     refine last_ (i := 12) (N := none) #[true, true, true, true, true, true, true, true, true, true, true, true, true] rfl rfl (by kernel_rfl) (by decide) (fun K hK => ?_)
     refine skip_ (w1 := w1) (by rfl) rfl (by simp [execOp, Act.eval, hrun, Result.andThen]) ?_
     refine hK.out _ _ ?_
     clear hK K
     refine done_ (by kernel_rfl) ?_
     have M9 : Kd.R (Kd.int .i64) 3 w1 w.heap.size (fun _ => True) (.slice (some ⟨gq, 0, none⟩) ms.length cm) ms := Kd.R_mono (Kd.R_move (w1 := w1) (Kd.R_bound M8) (fun k hk => hg1.block k hk.2.2.1 (fun h => by injection h with h; obtain ⟨q_, _, cells_, hcells_⟩ := hk.2.2.2; exact S8.not_cells hcells_ h))) (fun _ _ => trivial)
     have O9 : Kd.R (Kd.int .i64) 3 w1 w.heap.size (fun _ => True) (.slice (some ⟨go, 0, none⟩) out.length co) out := Kd.R_mono (Kd.R_move (w1 := w1) (Kd.R_bound O8) (fun k hk => hg1.block k hk.2.2.1 (fun h => by injection h with h; obtain ⟨q_, _, cells_, hcells_⟩ := hk.2.2.2; exact S8.not_cells hcells_ h))) (fun _ _ => trivial)
     have X9 := (hg1.block g2 (blk_lt X8) (fun h => by injection h with h; exact S8.not_cells X8 h)).trans X8
     have B9 : Below w.heap.size w w1 := B8.grown hg1 B8.size (fun j hj => by injection hj with hj; rw [← hj]; exact GM.out)
     have HKK := Aside0.mk hlk
     have HGG2 := Aside0.mk hgg2
     clear hgg2 hkk
     have hwk : wrap64 ((kk : Int) + 1) = ((kk + 1 : Nat) : Int) := PK.w1 hlk (by have := HF.out.2.2.1; omega)
     clear S8 M8 O8 X8 B8 q8 hHeld hrun hg1
     have HS1 := Aside0.mk hs1
     have HM9 := Aside0.mk M9
     have HO9 := Aside0.mk O9
     have HX9 := Aside0.mk X9
     have HB9 := Aside0.mk B9
     clear hs1 M9 O9 X9 B9 hlk
     generalize Go.bits .xor .i64 ua ub = z37
     rw [hws]
     clear hws hi0 hi1
     go_wp2
     go_roundg (ms.length - (kk + 1))
     case measure => have := HKK.out; have := HGG2.out; omega
     case rel => exact ⟨kk + 1, by have := HKK.out; omega, Nat.le_refl _, by first | rfl | (simp [*]; done), HS1, HM9, HO9, HX9, HB9⟩
    ·obtain rfl : kk = ms.length := by omega
     have hs := HS.out
     rw [List.take_length] at hs
     have HS2 := Aside0.mk hs
     have hlkz : ¬ (ms.length : Int) < (ms.length : Int) := by omega
     clear hs HS HM
     clear hlk hgg2 hkk
     go_wp2
     go_loopg [10] (ms.length + 2) (fun gg v10 w' => ∃ h : Nat, ms.length + 1 - h ≤ gg ∧ v10 = .int .i64 (h : Int) ∧ Aside0 (∀ j : Nat, j < h → (j : Int) ∈ ms.map (impl_rule_values.xr out (n + 1))) ∧ Aside0 (Fmap.SetIs Try.prog 3 4 w' gm ms.length (ms.map (impl_rule_values.xr out (n + 1)))) ∧ Aside0 (Kd.R (Kd.int .i64) 3 w' w.heap.size (fun _ => True) u5 out) ∧ Aside0 (w'.heap[g2]? = some (.cells #[.int .i64 a0_0, .bool a0_1] 69 (0, 0))) ∧ Aside0 (Below w.heap.size w w'))
     case atStart => exact ⟨0, by omega, rfl, ⟨fun j hj => absurd hj (Nat.not_lt_zero _)⟩, HS2, HO, X2, HB⟩
     case round =>
      clear HS2 HO X2 HB hlkz
      obtain ⟨h, hgg3, rfl, HIN, HS, HO, X2, HB⟩ := hrel
      have hhl : h ≤ ms.length := by have h1 := Chomp.le_len h _ HIN.out; rwa [List.length_map] at h1
      have HHL := Aside0.mk hhl
      have HGG3 := Aside0.mk hgg3
      have hwf := Aside0.mk (show (Lit.int .i64 (h : Int)).wf = true from WalkArith.wf_i64 (by have := HF.out.2.2.1; omega))
      have hwh : wrap64 ((h : Int) + 1) = ((h + 1 : Nat) : Int) := PK.w1 (show h < 1000 by have := HF.out.2.2.1; omega) (by omega)
      clear hhl hgg3
      by_cases hin : (h : Int) ∈ ms.map (impl_rule_values.xr out (n + 1))
      ·have hd : decide ((h : Int) ∈ ms.map (impl_rule_values.xr out (n + 1))) = true := decide_eq_true hin
       have HM := Aside0.mk hin
       clear hin
       generalize hq : ms.map (impl_rule_values.xr out (n + 1)) = SS at HIN HS hd HM ⊢
       have HQ := Aside0.mk hq
       have HD := Aside0.mk hd
       clear hq hd
       go_wp2_with (first
        | (at_lookup; refine Fmap.wp_ask rfl (.tmp 39) (.tmp 40) 97 rfl Try.underlying3 Try.underlying4 Try.underlying97 (fun w => Try.zeroValue4 w) rfl HS.out rfl hwf.out ?_; rw [HD.out]; simp only [Act.put, Lam.pa, Lam.pb, Lam.pc]))
       go_roundg (ms.length + 1 - (h + 1))
       case measure => have := HGG3.out; have := HHL.out; omega
       case rel =>
        have hq := HQ.out
        subst hq
        exact ⟨h + 1, Nat.le_refl _, by first | rfl | (simp [*]; done), ⟨fun j hj => by
         by_cases e : j = h
         ·rw [e]; exact HM.out
         ·exact HIN.out j (by omega)⟩, HS, HO, X2, HB⟩
      ·have hd : decide ((h : Int) ∈ ms.map (impl_rule_values.xr out (n + 1))) = false := decide_eq_false hin
       have HM := Aside0.mk (show h = Chomp.mex (ms.map (impl_rule_values.xr out (n + 1))) from Chomp.mex_is hin HIN.out)
       clear hin HIN
       generalize hq : ms.map (impl_rule_values.xr out (n + 1)) = SS at HS hd HM ⊢
       have HQ := Aside0.mk hq
       have HD := Aside0.mk hd
       clear hq hd
       go_wp2_with (first
        | (at_lookup; refine Fmap.wp_ask rfl (.tmp 39) (.tmp 40) 97 rfl Try.underlying3 Try.underlying4 Try.underlying97 (fun w => Try.zeroValue4 w) rfl HS.out rfl hwf.out ?_; rw [HD.out]; simp only [Act.put, Lam.pa, Lam.pb, Lam.pc])
        | ((with_reducible refine gate_builtin (b := .append) (xs := #[.tmp 44, .tmp 46]) rfl ?_); at_builtin; refine Kd.R_append (Kd.int .i64) (w0 := w) w.heap.size rfl (.tmp 44) (.tmp 46) 26 3 (.int .i64 0) 8 rfl Try.underlying26 info3 rfl (by decide) (by omega) u5 out (h : Int) [.int .i64 (h : Int)] (fun _ => True) (fun _ => False) rfl rfl ?aP (fun _ hk => hk.elim) ?aF ?aO ?aB ?aS ?aL ?_; (case aP => exact rfl); (case aB => exact HB.out); (case aF => exact (fun _ _ => trivial)); (case aO => exact HO.out); (case aS => exact HB.out.size); (case aL => have := HF.out.1; have := HF.out.2.1; omega); intro v47 w47 ho hb hg hat; have X7 := Aside0.mk (blk_grown (g := g2) (o := .cells #[.int .i64 a0_0, .bool a0_1] 69 (0, 0)) X2.out hg (Kd.R_ne HO.out X2.out (by decide))); have HO7 := Aside0.mk ho; have HB7 := Aside0.mk hb; clear ho hb hg hat))
       go_roundg (N + 1 - (n + 1))
       case measure => have := HGG.out; have := HLT.out; omega
       case rel =>
        have hq := HQ.out
        subst hq
        exact ⟨n + 1, o2, HLT.out, Nat.le_refl _, by first | rfl | (have h1 := HN.out; have h2 := HLT.out; simp; exact PK.wrap_in (by omega) (by omega)), HV2, ⟨by rw [HE.out, ← HM.out]; exact HO7.out⟩, X7, HB7⟩
  ·obtain rfl : n = N := by omega
   have hltz : ¬ ((n + 1 : Nat) : Int) ≤ (n : Int) := by omega
   have hr := Option.some.inj (HVn.out.symm.trans HV.out)
   go_wp2
   go_ret
   exact ⟨_, rfl, by rw [← hr]; exact HO.out, HB.out⟩

/-! ### impl_StripValue: function 9 -/
def impl_StripValue.f (k : Nat) (a0 : Int) (a1 : Int) (a2 : Bool) : Option (Int × Bool) := (impl_isStrip.f a0).bind fun t159 => (if t159 = true then ((impl_isStrip.f a1).bind fun t160 => (if t160 = true then ((impl_rule_values.f k a1 a2 a0).bind fun t161 => (if 0 ≤ a0 then (if a0 < (t161.length : Int) then (some (rd t161 a0, true)) else (none)) else (none))) else (some (0, false)))) else (some (0, false)))
theorem impl_StripValue.mono : ∀ a0 a1 a2 k, LeO (impl_StripValue.f k a0 a1 a2) (impl_StripValue.f (k + 1) a0 a1 a2) := by
 intro a0 a1 a2 k
 unfold impl_StripValue.f
 repeat' first
   | (with_reducible exact impl_rule_values.mono _ _ _ _)
   | (with_reducible exact LeO.refl _)
   | (with_reducible exact LeO.none _)
   | (with_reducible refine LeO.ite ?_ ?_)
   | (with_reducible refine LeO.bind ?_ (fun _ => ?_))
   | exact impl_rule_values.mono _ _ _ _
   | exact LeO.none _
   | refine LeO.ite ?_ ?_
   | refine LeO.bind ?_ (fun _ => ?_)
set_option maxHeartbeats 8000000 in
set_option maxRecDepth 100000 in
theorem impl_StripValue.calls (k : Nat) (a0 : Int) (a1 : Int) (a2 : Bool) (r1 : Int) (r2 : Bool) (w : World) (h : impl_StripValue.f k a0 a1 a2 = some (r1, r2)) :
  Calls Try.prog 9 #[.int .i64 a0, .int .i64 a1, .bool a2] w fun e w' => e = .returned (.tuple #[.int .i64 r1, .bool r2]) ∧ Below w.heap.size w w' := by
 have hu69 := Try.underlying69
 have HB := Aside0.mk (Below.refl w.heap.size w)
 have H : ((impl_isStrip.f a0).bind fun t159 => (if t159 = true then ((impl_isStrip.f a1).bind fun t160 => (if t160 = true then ((impl_rule_values.f k a1 a2 a0).bind fun t161 => (if 0 ≤ a0 then (if a0 < (t161.length : Int) then (some (rd t161 a0, true)) else (none)) else (none))) else (some (0, false)))) else (some (0, false)))) = some (r1, r2) := h
 clear h
 replace H := Option.bind_eq_some_iff.mp H
 obtain ⟨t159, A40, H⟩ := H
 (try dsimp only at H)
 have A4 := Aside0.mk A40
 clear A40
 by_cases c5 : t159 = true
 ·subst c5
  rw [if_pos rfl] at H
  replace H := Option.bind_eq_some_iff.mp H
  obtain ⟨t160, A60, H⟩ := H
  (try dsimp only at H)
  have A6 := Aside0.mk A60
  clear A60
  by_cases c7 : t160 = true
  ·subst c7
   rw [if_pos rfl] at H
   replace H := Option.bind_eq_some_iff.mp H
   obtain ⟨t161, A80, H⟩ := H
   (try dsimp only at H)
   have A8 := Aside0.mk A80
   clear A80
   by_cases c9 : 0 ≤ a0
   ·rw [if_pos c9] at H
    have c9b0 : decide (0 ≤ a0) = true := decide_eq_true c9
    clear c9
    by_cases c10 : a0 < (t161.length : Int)
    ·rw [if_pos c10] at H
     have c10b0 : decide (a0 < (t161.length : Int)) = true := decide_eq_true c10
     clear c10
     simp only [Option.some.injEq, Prod.mk.injEq] at H
     obtain ⟨rfl, rfl⟩ := H
     go_enter Try.func9, Try.ntmps9
     go_wp2_with (first | ((with_reducible refine gate_callee (f := 52) rfl ?_); refine goesL_ (some 9) rfl rfl Try.func52 (by kernel_rfl) rfl #[.int .i64 a0] rfl (by (try simp only [List.map_toArray, List.map_cons, List.map_nil]); first | done | rfl | (simp only [List.length_drop, List.length_take]; rfl)) ?_; (with_reducible refine (impl_isStrip.calls a0 true _ A4.out).mono ?_); rintro e w' ⟨rfl, ⟨nd, rfl⟩⟩; refine ⟨_, rfl, ?_⟩) | (go_at_call 52; (with_reducible refine (impl_isStrip.calls a1 true _ A6.out).mono ?_); rintro e w' ⟨rfl, ⟨nd, rfl⟩⟩) | ((with_reducible refine gate_callee (f := 56) rfl ?_); refine goesL_ (some 20) rfl rfl Try.func56 (by kernel_rfl) rfl #[.agg #[.int .i64 a1, .bool a2], .int .i64 a0] rfl (by (try simp only [List.map_toArray, List.map_cons, List.map_nil]); first | done | rfl | (simp only [List.length_drop, List.length_take]; rfl)) ?_; (with_reducible refine (impl_rule_values.calls k a1 a2 a0 t161 _ A8.out).mono ?_); rintro e w11 ⟨v162, rfl, ho0, hb⟩; refine ⟨_, rfl, ?_⟩; have n0_ := Aside0.mk (Kd.R_lower ho0 (below_size (Lam.al))); have n1_ := Aside0.mk (below_step (Lam.al) hb); clear HB; have HO163 := n0_; have HB := n1_; clear n0_ n1_; (try clear hb); (try clear hb2); (try clear hk); (try clear hi); (try clear ho0); obtain ⟨Ao12, co12, eo12⟩ := Kd.R_slice HO163.out; subst eo12; have p164 : 0 ≤ (a0 : Int) := of_decide_eq_true (by first | (with_reducible assumption) | assumption); have q164 : a0 < (t161.length : Int) := of_decide_eq_true (by first | (with_reducible assumption) | assumption); obtain ⟨ad164, e164, hx164_0⟩ := Kd.at_int (Kd.R_reads' HO163.out).2.2 a0 p164 q164; cases e164; replace p164 := eq_true p164; replace q164 := eq_true q164))
     go_ret2
     exact ⟨by first | rfl | (simp [errW_none, errW_some] <;> rfl) | (simp [*, errW_none, errW_some] <;> rfl), Lam.al⟩
    ·rw [if_neg c10] at H
     exact absurd H (by simp)
   ·rw [if_neg c9] at H
    exact absurd H (by simp)
  ·replace c7 := Bool.eq_false_iff.mpr c7
   subst c7
   have H1 : (some (0, false)) = some (r1, r2) := by rw [if_neg (show ¬ (false = true) by decide)] at H; exact H
   clear H
   have H := H1
   clear H1
   simp only [Option.some.injEq, Prod.mk.injEq] at H
   obtain ⟨rfl, rfl⟩ := H
   go_enter Try.func9, Try.ntmps9
   go_wp2_with (first | ((with_reducible refine gate_callee (f := 52) rfl ?_); refine goesL_ (some 9) rfl rfl Try.func52 (by kernel_rfl) rfl #[.int .i64 a0] rfl (by (try simp only [List.map_toArray, List.map_cons, List.map_nil]); first | done | rfl | (simp only [List.length_drop, List.length_take]; rfl)) ?_; (with_reducible refine (impl_isStrip.calls a0 true _ A4.out).mono ?_); rintro e w' ⟨rfl, ⟨nd, rfl⟩⟩; refine ⟨_, rfl, ?_⟩) | (go_at_call 52; (with_reducible refine (impl_isStrip.calls a1 false _ A6.out).mono ?_); rintro e w' ⟨rfl, ⟨nd, rfl⟩⟩))
   go_ret2
   exact ⟨by first | rfl | (simp [errW_none, errW_some] <;> rfl) | (simp [*, errW_none, errW_some] <;> rfl), Lam.al⟩
 ·replace c5 := Bool.eq_false_iff.mpr c5
  subst c5
  have H1 : (some (0, false)) = some (r1, r2) := by rw [if_neg (show ¬ (false = true) by decide)] at H; exact H
  clear H
  have H := H1
  clear H1
  simp only [Option.some.injEq, Prod.mk.injEq] at H
  obtain ⟨rfl, rfl⟩ := H
  go_enter Try.func9, Try.ntmps9
  go_wp2_with (first | ((with_reducible refine gate_callee (f := 52) rfl ?_); refine goesL_ (some 9) rfl rfl Try.func52 (by kernel_rfl) rfl #[.int .i64 a0] rfl (by (try simp only [List.map_toArray, List.map_cons, List.map_nil]); first | done | rfl | (simp only [List.length_drop, List.length_take]; rfl)) ?_; (with_reducible refine (impl_isStrip.calls a0 false _ A4.out).mono ?_); rintro e w' ⟨rfl, ⟨nd, rfl⟩⟩; refine ⟨_, rfl, ?_⟩))
  go_ret2
  exact ⟨by first | rfl | (simp [errW_none, errW_some] <;> rfl) | (simp [*, errW_none, errW_some] <;> rfl), Lam.al⟩

/-! ### spec_l1Has: function 98 -/
def spec_l1Has.l0 : Nat → Int → List Int → Int → Int → Option (Bool)
 | 0, _, _, _, _ => none
 | k + 1, x1, x7, x8, x9 => if x9 < x8 then (if 0 ≤ x9 then (if x9 < (x7.length : Int) then (if (rd x7 x9) = x1 then (some true) else (spec_l1Has.l0 k x1 x7 x8 (wrap64 (x9 + 1)))) else (none)) else (none)) else (some false)
def spec_l1Has.f (k : Nat) (l0 : List Int) (a1 : Int) : Option (Bool) := spec_l1Has.l0 k a1 l0 (l0.length : Int) 0
theorem spec_l1Has.mono_l : ∀ k, (∀ y0 y1 y2 y3, LeO (spec_l1Has.l0 k y0 y1 y2 y3) (spec_l1Has.l0 (k + 1) y0 y1 y2 y3))
 | 0 => fun _ _ _ _ r h => by simp [spec_l1Has.l0] at h
 | k + 1 => by
  have ih0 := spec_l1Has.mono_l k
  ·intro y0 y1 y2 y3
   unfold spec_l1Has.l0
   repeat' first
   | (with_reducible exact ih0 _ _ _ _)
   | (with_reducible exact LeO.refl _)
   | (with_reducible exact LeO.none _)
   | (with_reducible refine LeO.ite ?_ ?_)
   | (with_reducible refine LeO.bind ?_ (fun _ => ?_))
   | exact ih0 _ _ _ _
   | exact LeO.none _
   | refine LeO.ite ?_ ?_
   | refine LeO.bind ?_ (fun _ => ?_)
theorem spec_l1Has.mono : ∀ a0 a1 k, LeO (spec_l1Has.f k a0 a1) (spec_l1Has.f (k + 1) a0 a1) := by
 intro a0 a1 k
 have ih0 := spec_l1Has.mono_l k
 unfold spec_l1Has.f
 repeat' first
   | (with_reducible exact ih0 _ _ _ _)
   | (with_reducible exact LeO.refl _)
   | (with_reducible exact LeO.none _)
   | (with_reducible refine LeO.ite ?_ ?_)
   | (with_reducible refine LeO.bind ?_ (fun _ => ?_))
   | exact ih0 _ _ _ _
   | exact LeO.none _
   | refine LeO.ite ?_ ?_
   | refine LeO.bind ?_ (fun _ => ?_)
set_option maxHeartbeats 8000000 in
set_option maxRecDepth 100000 in
theorem spec_l1Has.calls (k : Nat) (A0 : Option Addr) (c0 : Nat) (l0 : List Int) (a1 : Int) (r : Bool) (w : World) (hr0 : Kd.C (Kd.int .i64) w A0 l0.length l0) (hc0 : l0.length ≤ c0) (h : spec_l1Has.f k l0 a1 = some r) :
  Calls Try.prog 98 #[.slice A0 l0.length c0, .int .i64 a1] w fun e w' => e = .returned (.bool r) ∧ Drawn0 w w' := by
 have HR0 := Aside0.mk hr0
 have HC0 := Aside0.mk hc0
 clear hr0 hc0
 have H : (spec_l1Has.l0 k a1 l0 (l0.length : Int) 0) = some r := h
 clear h
 have H' := Aside0.mk H
 clear H
 go_enter Try.func98, Try.ntmps98
 go_wp2
 go_loopg [9] k (fun kq v9 w' => ∃ (x9_1 : Int), v9 = .int .i64 x9_1 ∧ Aside0 (spec_l1Has.l0 kq a1 l0 (l0.length : Int) x9_1 = some r) ∧ Aside0 (kq ≤ k) ∧ Drawn0 w w')
 case atStart => exact ⟨(0), (by first | rfl | (simp; done) | (simp [*]; done)), H', ⟨Nat.le_refl _⟩, by repeat (first | exact Drawn0.refl _ | apply Drawn0.step)⟩
 case round =>
  clear H'
  try clear p2
  obtain ⟨x9_1, rfl, HA, HK1, ⟨m1, rfl⟩⟩ := hrel
  cases gk with
  | zero => exact absurd HA.out (by simp [spec_l1Has.l0])
  | succ k1 =>
   have H := HA.out
   clear HA
   simp only [spec_l1Has.l0] at H
   by_cases c3 : x9_1 < (l0.length : Int)
   ·rw [if_pos c3] at H
    have c3b0 : decide (x9_1 < (l0.length : Int)) = true := decide_eq_true c3
    clear c3
    by_cases c4 : 0 ≤ x9_1
    ·rw [if_pos c4] at H
     have c4b0 : decide (0 ≤ x9_1) = true := decide_eq_true c4
     clear c4
     by_cases c5 : x9_1 < (l0.length : Int)
     ·rw [if_pos c5] at H
      have c5b0 : decide (x9_1 < (l0.length : Int)) = true := decide_eq_true c5
      clear c5
      by_cases c6 : (rd l0 x9_1) = a1
      ·rw [if_pos c6] at H
       have c6b0 : ((rd l0 x9_1) == a1) = true := beq_iff_eq.mpr c6
       have c6b1 : ((rd l0 x9_1) != a1) = false := bne_eq_false_iff_eq.mpr c6
       clear c6
       obtain rfl := Option.some.inj H
       have p165 : 0 ≤ (x9_1 : Int) := of_decide_eq_true (by first | (with_reducible assumption) | assumption)
       have q165 : x9_1 < (l0.length : Int) := of_decide_eq_true (by first | (with_reducible assumption) | assumption)
       obtain ⟨ad165, e165, hx165_0⟩ := Kd.at_int HR0.out x9_1 p165 q165
       cases e165
       replace p165 := eq_true p165
       replace q165 := eq_true q165
       go_wp2
       go_ret
       exact ⟨by first | rfl | (simp; done) | (simp [*]; done), by repeat (first | exact Drawn0.refl _ | apply Drawn0.step)⟩
      ·rw [if_neg c6] at H
       have c6b0 : ((rd l0 x9_1) == a1) = false := beq_eq_false_iff_ne.mpr c6
       have c6b1 : ((rd l0 x9_1) != a1) = true := bne_iff_ne.mpr c6
       have H' := Aside0.mk H
       clear H
       have p165 : 0 ≤ (x9_1 : Int) := of_decide_eq_true (by first | (with_reducible assumption) | assumption)
       have q165 : x9_1 < (l0.length : Int) := of_decide_eq_true (by first | (with_reducible assumption) | assumption)
       obtain ⟨ad165, e165, hx165_0⟩ := Kd.at_int HR0.out x9_1 p165 q165
       cases e165
       replace p165 := eq_true p165
       replace q165 := eq_true q165
       go_wp2
       go_roundg k1
       case measure => have := HK1.out; omega
       case rel => exact ⟨(wrap64 (x9_1 + 1)), (by first | rfl | (simp; done) | (simp [*]; done)), H', ⟨by have := HK1.out; omega⟩, by repeat (first | exact Drawn0.refl _ | apply Drawn0.step)⟩
     ·rw [if_neg c5] at H
      exact absurd H (by simp)
    ·rw [if_neg c4] at H
     exact absurd H (by simp)
   ·rw [if_neg c3] at H
    have c3b0 : decide (x9_1 < (l0.length : Int)) = false := decide_eq_false c3
    clear c3
    obtain rfl := Option.some.inj H
    go_wp2
    go_ret
    exact ⟨by first | rfl | (simp; done) | (simp [*]; done), by repeat (first | exact Drawn0.refl _ | apply Drawn0.step)⟩

end Go.Proofs.Ytejnbnppiipdlaa.PFnBreaksStrips
