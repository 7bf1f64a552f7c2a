-- Made by a program of this session (wip/xprint.py) out of the translation.
import Derived.Test.YtejnbnppiipdlaaPFnBreaksStripsx0
import Derived.Test.YtejnbnppiipdlaaPFnBreaksStripsx1
import Derived.Test.YtejnbnppiipdlaaPFnBreaksStripsx3
namespace Go.Proofs.Ytejnbnppiipdlaa.PFnBreaksStrips
open Go.RowKit Go.Proofs.YtejnbnppiipdlaaW.PrintWords Go.Proofs.YtejnbnppiipdlaaW.PrintLast Go.Proofs.YtejnbnppiipdlaaW.PrintMore
attribute [local go_sem] max2_int min2_int max_two min_two max_three min_three max_four min_four   -- for this text's walks alone
set_option linter.unusedVariables false
set_option linter.unusedSimpArgs false

/-! ### spec_LostStrips: function 12 -/
def spec_LostStrips.l0 : Nat → List Int → List Int → Int → Int → Option (List Int × Bool)
 | 0, _, _, _, _ => none
 | k + 1, x8, x18, x19, x20 => if x20 < x19 then (if 0 ≤ x20 then (if x20 < (x18.length : Int) then (if x20 > 0 then (if (rd x18 x20) = 0 then (if x8.length < 17592186044416 then (spec_LostStrips.l0 k (x8 ++ [x20]) x18 x19 (wrap64 (x20 + 1))) else (none)) else (spec_LostStrips.l0 k x8 x18 x19 (wrap64 (x20 + 1)))) else (spec_LostStrips.l0 k x8 x18 x19 (wrap64 (x20 + 1)))) else (none)) else (none)) else (some (x8, true))
def spec_LostStrips.f (k : Nat) (a0 : Int) (a1 : Int) (a2 : Bool) : Option (List Int × Bool) := (spec_laStrip.f a0 a1).bind fun t196 => (if t196 = true then ((spec_laValues.f k a0 a1 a2).bind fun t197 => (spec_LostStrips.l0 k ([] : List Int) t197 (t197.length : Int) 0)) else (some (([] : List Int), false)))
theorem spec_LostStrips.mono_l : ∀ k, (∀ y0 y1 y2 y3, LeO (spec_LostStrips.l0 k y0 y1 y2 y3) (spec_LostStrips.l0 (k + 1) y0 y1 y2 y3))
 | 0 => fun _ _ _ _ r h => by simp [spec_LostStrips.l0] at h
 | k + 1 => by
  have ih0 := spec_LostStrips.mono_l k
  ·intro y0 y1 y2 y3
   unfold spec_LostStrips.l0
   repeat' first
   | (with_reducible exact ih0 _ _ _ _)
   | (with_reducible exact spec_laValues.mono _ _ _ _)
   | (with_reducible exact LeO.refl _)
   | (with_reducible exact LeO.none _)
   | (with_reducible refine LeO.ite ?_ ?_)
   | (with_reducible refine LeO.bind ?_ (fun _ => ?_))
   | exact ih0 _ _ _ _
   | exact spec_laValues.mono _ _ _ _
   | exact LeO.none _
   | refine LeO.ite ?_ ?_
   | refine LeO.bind ?_ (fun _ => ?_)
theorem spec_LostStrips.mono : ∀ a0 a1 a2 k, LeO (spec_LostStrips.f k a0 a1 a2) (spec_LostStrips.f (k + 1) a0 a1 a2) := by
 intro a0 a1 a2 k
 have ih0 := spec_LostStrips.mono_l k
 unfold spec_LostStrips.f
 repeat' first
   | (with_reducible exact ih0 _ _ _ _)
   | (with_reducible exact spec_laValues.mono _ _ _ _)
   | (with_reducible exact LeO.refl _)
   | (with_reducible exact LeO.none _)
   | (with_reducible refine LeO.ite ?_ ?_)
   | (with_reducible refine LeO.bind ?_ (fun _ => ?_))
   | exact ih0 _ _ _ _
   | exact spec_laValues.mono _ _ _ _
   | exact LeO.none _
   | refine LeO.ite ?_ ?_
   | refine LeO.bind ?_ (fun _ => ?_)
set_option maxHeartbeats 8000000 in
set_option maxRecDepth 100000 in
theorem spec_LostStrips.calls (k : Nat) (a0 : Int) (a1 : Int) (a2 : Bool) (r1 : List Int) (r2 : Bool) (w : World) (h : spec_LostStrips.f k a0 a1 a2 = some (r1, r2)) :
  Calls Try.prog 12 #[.int .i64 a0, .int .i64 a1, .bool a2] w fun e w' => ∃ v0_ : Value, e = .returned (.tuple #[v0_, .bool r2]) ∧ Kd.R (Kd.int .i64) 3 w' w.heap.size (fun _ => True) v0_ r1 ∧ Below w.heap.size w w' := by
 have HB := Aside0.mk (Below.refl w.heap.size w)
 have H : ((spec_laStrip.f a0 a1).bind fun t196 => (if t196 = true then ((spec_laValues.f k a0 a1 a2).bind fun t197 => (spec_LostStrips.l0 k ([] : List Int) t197 (t197.length : Int) 0)) else (some (([] : List Int), false)))) = some (r1, r2) := h
 clear h
 replace H := Option.bind_eq_some_iff.mp H
 obtain ⟨t196, A40, H⟩ := H
 (try dsimp only at H)
 have A4 := Aside0.mk A40
 clear A40
 by_cases c5 : t196 = true
 ·subst c5
  rw [if_pos rfl] at H
  replace H := Option.bind_eq_some_iff.mp H
  obtain ⟨t197, A60, H⟩ := H
  replace H : (spec_LostStrips.l0 k ([] : List Int) t197 (t197.length : Int) 0) = some (r1, r2) := H
  have A6 := Aside0.mk A60
  clear A60
  have H' := Aside0.mk H
  clear H
  go_enter Try.func12, Try.ntmps12
  go_wp2_with (first | ((with_reducible refine gate_callee (f := 54) rfl ?_); refine goesL_ (some 13) rfl rfl Try.func54 (by kernel_rfl) rfl #[.int .i64 a0, .int .i64 a1] rfl (by (try simp only [List.map_toArray, List.map_cons, List.map_nil]); first | done | rfl | (simp only [List.length_drop, List.length_take]; rfl)) ?_; (with_reducible refine (spec_laStrip.calls a0 a1 true _ A4.out).mono ?_); rintro e w' ⟨rfl, ⟨nd, rfl⟩⟩; refine ⟨_, rfl, ?_⟩) | ((with_reducible refine gate_callee (f := 57) rfl ?_); refine goesL_ (some 18) rfl rfl Try.func57 (by kernel_rfl) rfl #[.int .i64 a0, .int .i64 a1, .bool a2] rfl (by (try simp only [List.map_toArray, List.map_cons, List.map_nil]); first | done | rfl | (simp only [List.length_drop, List.length_take]; rfl)) ?_; (with_reducible refine (spec_laValues.calls k a0 a1 a2 t197 _ A6.out).mono ?_); rintro e w7 ⟨v198, rfl, ho0, hb⟩; refine ⟨_, rfl, ?_⟩; have n0_ := Aside0.mk (Kd.R_lower ho0 (below_size (Lam.al))); have n1_ := Aside0.mk (below_step (Lam.al) hb); clear HB; have HO199 := n0_; have HB := n1_; clear n0_ n1_; (try clear hb); (try clear hb2); (try clear hk); (try clear hi); (try clear ho0); obtain ⟨Ao8, co8, eo8⟩ := Kd.R_slice HO199.out; subst eo8))
  go_loopg [8, 20] k (fun kq v8 v20 w' => ∃ (x8_1 : List Int) (x20_1 : Int), v20 = .int .i64 x20_1 ∧ Aside0 (spec_LostStrips.l0 kq x8_1 t197 (t197.length : Int) x20_1 = some (r1, r2)) ∧ Aside0 (kq ≤ k) ∧ Aside0 (Kd.R (Kd.int .i64) 3 w' w.heap.size (fun k_ => some k_ ≠ ((.slice Ao8 t197.length co8) : Value).ownBlock) v8 x8_1) ∧ Aside0 (Kd.R (Kd.int .i64) 3 w' w.heap.size (fun k_ => some k_ ≠ (v8 : Value).ownBlock) (.slice Ao8 t197.length co8) t197) ∧ Aside0 (Below w.heap.size w w'))
  case atStart => exact ⟨(([] : List Int)), (0), (by first | rfl | (simp; done) | (simp [*]; done)), H', ⟨Nat.le_refl _⟩, ⟨by first | exact Kd.R_nil _ _ _ _ _ | exact Kd.N_nil _ _ _ _ _ | exact Kd.V_nil _ _ _ _ _ | exact Kd.Q_nil _ _ _ _ _ | exact Kd.S_nil _ _ _ _ _⟩, ⟨by (with_reducible repeat (first | apply Kd.R_alloc | apply Kd.R_drewN | apply Kd.R_drew)); exact Kd.R_mono HO199.out (fun _ hk => (by simp [Value.ownBlock]))⟩, ⟨Lam.al⟩⟩
  case round =>
   clear H'
   try clear c1
   try clear p2
   try clear c5
   obtain ⟨x8_1, x20_1, rfl, HA, HK1, HO_8, HO_18, HB⟩ := hrel
   cases gk with
   | zero => exact absurd HA.out (by simp [spec_LostStrips.l0])
   | succ k1 =>
    have H := HA.out
    clear HA
    simp only [spec_LostStrips.l0] at H
    by_cases c9 : x20_1 < (t197.length : Int)
    ·rw [if_pos c9] at H
     have c9b0 : decide (x20_1 < (t197.length : Int)) = true := decide_eq_true c9
     clear c9
     by_cases c10 : 0 ≤ x20_1
     ·rw [if_pos c10] at H
      have c10b0 : decide (0 ≤ x20_1) = true := decide_eq_true c10
      clear c10
      by_cases c11 : x20_1 < (t197.length : Int)
      ·rw [if_pos c11] at H
       have c11b0 : decide (x20_1 < (t197.length : Int)) = true := decide_eq_true c11
       clear c11
       by_cases c12 : x20_1 > 0
       ·rw [if_pos c12] at H
        have c12b0 : decide (0 < x20_1) = true := decide_eq_true c12
        clear c12
        by_cases c13 : (rd t197 x20_1) = 0
        ·rw [if_pos c13] at H
         have c13b0 : ((rd t197 x20_1) == 0) = true := beq_iff_eq.mpr c13
         have c13b1 : ((rd t197 x20_1) != 0) = false := bne_eq_false_iff_eq.mpr c13
         clear c13
         by_cases c14 : x8_1.length < 17592186044416
         ·rw [if_pos c14] at H
          have LMc14 := Aside0.mk c14
          clear c14
          obtain ⟨y201, hy201⟩ : ∃ y_ : List Int, y_ = (x8_1 ++ [x20_1]) := ⟨_, rfl⟩
          replace H : (spec_LostStrips.l0 k1 y201 t197 (t197.length : Int) (wrap64 (x20_1 + 1))) = some (r1, r2) := by first | (rw [hy201]; with_reducible exact H) | (have H2_ := (Option.bind_some _ _).symm.trans H; rw [hy201]; with_reducible exact H2_) | (have H2_ := (Option.bind_some _ _).symm.trans H; with_reducible exact H2_) | with_reducible exact H | (rw [hy201]; exact H) | exact H
          have Ny201 := Aside0.mk hy201
          clear hy201
          have H' := Aside0.mk H
          clear H
          have p200 : 0 ≤ (x20_1 : Int) := of_decide_eq_true (by first | (with_reducible assumption) | assumption)
          have q200 : x20_1 < (t197.length : Int) := of_decide_eq_true (by first | (with_reducible assumption) | assumption)
          obtain ⟨ad200, e200, hx200_0⟩ := Kd.at_int (Kd.R_reads' HO_18.out).2.2 x20_1 p200 q200
          cases e200
          replace p200 := eq_true p200
          replace q200 := eq_true q200
          go_wp2_with (first | ((with_reducible refine gate_builtin (b := .append) (xs := #[.tmp 31, .tmp 33]) rfl ?_); at_builtin; refine Kd.R_append (Kd.int .i64) (w0 := w) w.heap.size rfl (.tmp 31) (.tmp 33) 26 3 (.int .i64 0) 8 rfl Try.underlying26 info3 rfl (by decide) (by omega) u8 x8_1 x20_1 [.int .i64 x20_1] (fun k_ => some k_ ≠ (.slice (some ad200) t197.length co8 : Value).ownBlock) (fun _ => False) rfl rfl ?aP (fun _ hk => hk.elim) ?aF ?aO ?aB ?aS ?aL ?_; (case aP => exact rfl); (case aB => exact (Lam.al)); (case aF => exact (fun k_ hk => Kd.fresh' (Kd.R_lt (Lam.rq HO_18.out)) k_ hk)); (case aO => exact (Lam.rq HO_8.out)); (case aS => exact (below_size (Lam.al))); (case aL => have := LMc14.out; omega); intro v202 w15 ho hb hg hat; rw [← Ny201.out] at ho; have n0_ := Aside0.mk (Kd.R_after (ok := (fun _ => True)) (by (with_reducible repeat (first | apply Kd.R_alloc | apply Kd.R_drewN | apply Kd.R_drew)); exact Kd.R_mono HO_18.out (fun _ hk => ⟨trivial, hk⟩)) hg hat); have n1_ := Aside0.mk (hb); have n2_ := Aside0.mk (ho); clear HO_18; clear HB; clear HO_8; have HO_18 := n0_; have HB := n1_; have HO203 := n2_; clear n0_ n1_ n2_; clear ho hb hg hat))
          go_roundg k1
          case measure => have := HK1.out; omega
          case rel => exact ⟨(y201), (wrap64 (x20_1 + 1)), (by first | rfl | (simp; done) | (simp [*]; done)), H', ⟨by have := HK1.out; omega⟩, ⟨Lam.rq HO203.out⟩, ⟨by (with_reducible repeat (first | apply Kd.R_alloc | apply Kd.R_drewN | apply Kd.R_drew)); exact Kd.R_mono HO_18.out (fun _ hk => hk.2)⟩, ⟨Lam.al⟩⟩
         ·rw [if_neg c14] at H
          exact absurd H (by simp)
        ·rw [if_neg c13] at H
         have c13b0 : ((rd t197 x20_1) == 0) = false := beq_eq_false_iff_ne.mpr c13
         have c13b1 : ((rd t197 x20_1) != 0) = true := bne_iff_ne.mpr c13
         have H' := Aside0.mk H
         clear H
         have p200 : 0 ≤ (x20_1 : Int) := of_decide_eq_true (by first | (with_reducible assumption) | assumption)
         have q200 : x20_1 < (t197.length : Int) := of_decide_eq_true (by first | (with_reducible assumption) | assumption)
         obtain ⟨ad200, e200, hx200_0⟩ := Kd.at_int (Kd.R_reads' HO_18.out).2.2 x20_1 p200 q200
         cases e200
         replace p200 := eq_true p200
         replace q200 := eq_true q200
         go_wp2
         go_roundg k1
         case measure => have := HK1.out; omega
         case rel => exact ⟨(x8_1), (wrap64 (x20_1 + 1)), (by first | rfl | (simp; done) | (simp [*]; done)), H', ⟨by have := HK1.out; omega⟩, ⟨Lam.rq HO_8.out⟩, ⟨Lam.rq HO_18.out⟩, ⟨Lam.al⟩⟩
       ·rw [if_neg c12] at H
        have c12b0 : decide (0 < x20_1) = false := decide_eq_false c12
        clear c12
        have H' := Aside0.mk H
        clear H
        have p200 : 0 ≤ (x20_1 : Int) := of_decide_eq_true (by first | (with_reducible assumption) | assumption)
        have q200 : x20_1 < (t197.length : Int) := of_decide_eq_true (by first | (with_reducible assumption) | assumption)
        obtain ⟨ad200, e200, hx200_0⟩ := Kd.at_int (Kd.R_reads' HO_18.out).2.2 x20_1 p200 q200
        cases e200
        replace p200 := eq_true p200
        replace q200 := eq_true q200
        go_wp2
        go_roundg k1
        case measure => have := HK1.out; omega
        case rel => exact ⟨(x8_1), (wrap64 (x20_1 + 1)), (by first | rfl | (simp; done) | (simp [*]; done)), H', ⟨by have := HK1.out; omega⟩, ⟨Lam.rq HO_8.out⟩, ⟨Lam.rq HO_18.out⟩, ⟨Lam.al⟩⟩
      ·rw [if_neg c11] at H
       exact absurd H (by simp)
     ·rw [if_neg c10] at H
      exact absurd H (by simp)
    ·rw [if_neg c9] at H
     have c9b0 : decide (x20_1 < (t197.length : Int)) = false := decide_eq_false c9
     clear c9
     simp only [Option.some.injEq, Prod.mk.injEq] at H
     obtain ⟨rfl, rfl⟩ := H
     go_wp2
     go_ret2
     exact ⟨_, by first | rfl | (simp [errW_none, errW_some] <;> rfl) | (simp [*, errW_none, errW_some] <;> rfl), by (with_reducible repeat (first | apply Kd.R_alloc | apply Kd.R_drewN | apply Kd.R_drew)); exact Kd.R_mono HO_8.out (fun _ hk => trivial), Lam.al⟩
 ·replace c5 := Bool.eq_false_iff.mpr c5
  subst c5
  have H1 : (some (([] : List Int), false)) = some (r1, r2) := by rw [if_neg (show ¬ (false = true) by decide)] at H; exact H
  clear H
  have H := H1
  clear H1
  simp only [Option.some.injEq, Prod.mk.injEq] at H
  obtain ⟨rfl, rfl⟩ := H
  go_enter Try.func12, Try.ntmps12
  go_wp2_with (first | ((with_reducible refine gate_callee (f := 54) rfl ?_); refine goesL_ (some 13) rfl rfl Try.func54 (by kernel_rfl) rfl #[.int .i64 a0, .int .i64 a1] rfl (by (try simp only [List.map_toArray, List.map_cons, List.map_nil]); first | done | rfl | (simp only [List.length_drop, List.length_take]; rfl)) ?_; (with_reducible refine (spec_laStrip.calls a0 a1 false _ A4.out).mono ?_); rintro e w' ⟨rfl, ⟨nd, rfl⟩⟩; refine ⟨_, rfl, ?_⟩))
  go_ret2
  exact ⟨_, by first | rfl | (simp [errW_none, errW_some] <;> rfl) | (simp [*, errW_none, errW_some] <;> rfl), by first | exact Kd.R_nil _ _ _ _ _ | exact Kd.N_nil _ _ _ _ _ | exact Kd.V_nil _ _ _ _ _ | exact Kd.Q_nil _ _ _ _ _ | exact Kd.S_nil _ _ _ _ _, Lam.al⟩

/-! ### impl_play: function 58 -/
def impl_play.own (out : List Int) (n : Nat) (m : Int) : Int := 1 + out.getD m.toNat 0 + out.getD (n - m.toNat) 0
def impl_play.bst (b : Int → Int → Bool) : List Int → Int
 | [] => 0
 | x :: r => r.foldl (fun a y => if b y a then y else a) x
theorem impl_play.bst_snoc (b : Int → Int → Bool) (l : List Int) (y : Int) : impl_play.bst b (l ++ [y]) = if l.length = 0 then y else if b y (impl_play.bst b l) then y else impl_play.bst b l := by
 cases l with
 | nil => rfl
 | cons x r =>
  rw [if_neg (by simp)]
  show (r ++ [y]).foldl _ x = _
  rw [List.foldl_append]; rfl
def impl_play.Fit (out ms : List Int) (n : Nat) : Prop := out.length = n ∧ n ≤ 60 ∧ ms.length ≤ 60 ∧ (∀ m ∈ ms, 0 < m ∧ m < (n : Int)) ∧ ∀ x ∈ out, 0 ≤ x ∧ x < 1000
instance impl_play.decFit (out ms : List Int) (n : Nat) : Decidable (impl_play.Fit out ms n) := by unfold impl_play.Fit; infer_instance
def impl_play.nx (k : Nat) (b : Int → Int → Bool) (least : Int) (unlike : Bool) (out : List Int) (n : Nat) : Option (List Int) :=
 (impl_rule_moves.f k least unlike (n : Int)).bind fun ms => if impl_play.Fit out ms n then some (out ++ [impl_play.bst b (ms.map (impl_play.own out n))]) else none
def impl_play.vals (k : Nat) (b : Int → Int → Bool) (least : Int) (unlike : Bool) : Nat → Option (List Int)
 | 0 => some [0]
 | n + 1 => (impl_play.vals k b least unlike n).bind fun out => impl_play.nx k b least unlike out (n + 1)
theorem impl_play.down {k : Nat} {b : Int → Int → Bool} {least : Int} {unlike : Bool} : ∀ {N n : Nat} {r : List Int}, impl_play.vals k b least unlike N = some r → n ≤ N → ∃ o, impl_play.vals k b least unlike n = some o := by
 intro N
 induction N with
 | zero =>
  intro n r h hn
  obtain rfl : n = 0 := by omega
  exact ⟨r, h⟩
 | succ N ih =>
  intro n r h hn
  by_cases c : n = N + 1
  ·rw [c]; exact ⟨r, h⟩
  ·simp only [impl_play.vals] at h
   obtain ⟨o, h1, _⟩ := Option.bind_eq_some_iff.1 h
   exact ih h1 (by omega)
theorem impl_play.next {k : Nat} {b : Int → Int → Bool} {least : Int} {unlike : Bool} {n : Nat} {out o2 : List Int} (h : impl_play.vals k b least unlike n = some out) (h2 : impl_play.vals k b least unlike (n + 1) = some o2) :
  ∃ ms, impl_rule_moves.f k least unlike ((n + 1 : Nat) : Int) = some ms ∧ impl_play.Fit out ms (n + 1) ∧ o2 = out ++ [impl_play.bst b (ms.map (impl_play.own out (n + 1)))] := by
 simp only [impl_play.vals, h, Option.bind_some, impl_play.nx] at h2
 obtain ⟨ms, h3, h4⟩ := Option.bind_eq_some_iff.1 h2
 refine ⟨ms, h3, ?_⟩
 by_cases c : impl_play.Fit out ms (n + 1)
 ·rw [if_pos c] at h4
  exact ⟨c, (Option.some.inj h4).symm⟩
 ·rw [if_neg c] at h4; cases h4
theorem impl_play.len {k : Nat} {b : Int → Int → Bool} {least : Int} {unlike : Bool} : ∀ {n : Nat} {r : List Int}, impl_play.vals k b least unlike n = some r → r.length = n + 1 := by
 intro n
 induction n with
 | zero => intro r h; simp only [impl_play.vals, Option.some.injEq] at h; rw [← h]; rfl
 | succ n ih =>
  intro r h
  obtain ⟨o, ho⟩ := impl_play.down h (show n ≤ n + 1 by omega)
  obtain ⟨ms, _, _, e⟩ := impl_play.next ho h
  rw [e, List.length_append, ih ho]; rfl
theorem impl_play.take_step {b : Int → Int → Bool} {out ms : List Int} {n kk : Nat} (h : kk < ms.length) : impl_play.bst b ((ms.take (kk + 1)).map (impl_play.own out n)) = if kk = 0 then impl_play.own out n ms[kk] else if b (impl_play.own out n ms[kk]) (impl_play.bst b ((ms.take kk).map (impl_play.own out n))) then impl_play.own out n ms[kk] else impl_play.bst b ((ms.take kk).map (impl_play.own out n)) := by
 have e : (ms.take (kk + 1)).map (impl_play.own out n) = (ms.take kk).map (impl_play.own out n) ++ [impl_play.own out n ms[kk]] := by
  rw [List.take_add_one, List.getElem?_eq_getElem h, List.map_append]; rfl
 rw [e, impl_play.bst_snoc]
 have hl : ((ms.take kk).map (impl_play.own out n)).length = kk := by rw [List.length_map, List.length_take]; omega
 rw [hl]
def impl_play.pf (k : Nat) (b : Int → Int → Bool) (long least : Int) (unlike : Bool) : Option (Int × Bool) :=
 (impl_isStrip.f long).bind fun c1 => if c1 then (impl_isStrip.f least).bind fun c2 => if c2 then (if 0 ≤ long ∧ long ≤ 60 then (impl_play.vals k b least unlike long.toNat).bind fun out => some (out.getD long.toNat 0, true) else none) else some (0, false) else some (0, false)
theorem impl_play.pf_mono (b : Int → Int → Bool) (a0 a1 : Int) (a2 : Bool) (k : Nat) : LeO (impl_play.pf k b a0 a1 a2) (impl_play.pf (k + 1) b a0 a1 a2) := by
 unfold impl_play.pf
 refine LeO.bind (LeO.refl _) (fun c1 => LeO.ite (LeO.bind (LeO.refl _) (fun c2 => LeO.ite (LeO.ite (LeO.bind ?_ (fun _ => LeO.refl _)) (LeO.refl _)) (LeO.refl _))) (LeO.refl _))
 induction a0.toNat with
 | zero => exact LeO.refl _
 | succ n ih =>
  refine LeO.bind ih (fun out => ?_)
  exact LeO.bind (impl_rule_moves.mono _ _ _ _) (fun _ => LeO.refl _)
set_option maxHeartbeats 8000000 in
set_option maxRecDepth 100000 in
theorem impl_play.run (k gf : Nat) (b : Int → Int → Bool) (eg : ∀ args w, (callFunc gf args).run Try.prog w = .ok (.enter gf args) w) (hp : ∀ W x y, Calls Try.prog gf #[.int .i64 x, .int .i64 y] W fun e w' => e = .returned (.bool (b x y)) ∧ Below W.heap.size W w')
  (long least : Int) (unlike : Bool) (r1 : Int) (r2 : Bool) (w : World) (h : impl_play.pf k b long least unlike = some (r1, r2)) :
  Calls Try.prog 58 #[.int .i64 long, .int .i64 least, .bool unlike, .func (.func gf) #[] #[]] w fun e w' => e = .returned (.tuple #[.int .i64 r1, .bool r2]) ∧ Below w.heap.size w w' := by
 unfold impl_play.pf at h
 have hx := Option.bind_eq_some_iff.1 h
 clear h
 obtain ⟨c1, h1, h⟩ := hx
 have HS1 := Aside0.mk (fun W => impl_isStrip.calls long c1 W h1)
 have HB := Aside0.mk (Below.refl w.heap.size w)
 have HP := Aside0.mk hp
 have hu := Try.underlying26
 clear hp h1
 cases c1 with
 | false =>
  simp only [Bool.false_eq_true, if_false, Option.some.injEq, Prod.mk.injEq] at h
  obtain ⟨rfl, rfl⟩ := h
  go_enter Try.func58, Try.ntmps58
  go_wp2_with (go_at_call 52; refine (HS1.out _).mono ?_; rintro e w1 ⟨rfl, hd⟩; have HD := Aside0.mk hd; clear hd)
  go_ret2
  exact ⟨rfl, by first | exact HD.out | exact HD.out.below⟩
 | true =>
  simp only [if_true] at h
  have hx := Option.bind_eq_some_iff.1 h
  clear h
  obtain ⟨c2, h2, h⟩ := hx
  have HS2 := Aside0.mk (fun W => impl_isStrip.calls least c2 W h2)
  clear h2
  cases c2 with
  | false =>
   simp only [Bool.false_eq_true, if_false, Option.some.injEq, Prod.mk.injEq] at h
   obtain ⟨rfl, rfl⟩ := h
   have T1 := Aside0.mk True.intro
   go_enter Try.func58, Try.ntmps58
   go_wp2_with (first
    | (go_at_call 52; have tok_ := T1; clear tok_ T1; refine (HS1.out _).mono ?_; rintro e w1 ⟨rfl, hd⟩; have HD := Aside0.mk (show Below w.heap.size w w1 by first | exact hd | exact hd.below); clear hd)
    | (go_at_call 52; refine (HS2.out _).mono ?_; rintro e w2 ⟨rfl, hd⟩; have HD2 := Aside0.mk (below_step HD.out (show Below w1.heap.size w1 w2 by first | exact hd | exact hd.below)); clear hd))
   go_ret2
   exact ⟨rfl, HD2.out⟩
  | true =>
   simp only [if_true] at h
   have hc : 0 ≤ long ∧ long ≤ 60 := by
    by_cases hc : 0 ≤ long ∧ long ≤ 60
    ·exact hc
    ·rw [if_neg hc] at h; cases h
   rw [if_pos hc] at h
   obtain ⟨N, rfl⟩ : ∃ N : Nat, long = (N : Int) := ⟨long.toNat, by omega⟩
   rw [Int.toNat_natCast] at h
   have hx := Option.bind_eq_some_iff.1 h
   clear h
   obtain ⟨rr, hV, h⟩ := hx
   simp only [Option.some.injEq, Prod.mk.injEq] at h
   obtain ⟨rfl, rfl⟩ := h
   have HV := Aside0.mk hV
   have HN := Aside0.mk (show N ≤ 60 by omega)
   have T1 := Aside0.mk True.intro
   clear hV hc
   go_enter Try.func58, Try.ntmps58
   go_wp2_with (first
    | (go_at_call 52; have tok_ := T1; clear tok_ T1; refine (HS1.out _).mono ?_; rintro e w1 ⟨rfl, hd⟩; have HD := Aside0.mk (show Below w.heap.size w w1 by first | exact hd | exact hd.below); clear hd)
    | (go_at_call 52; refine (HS2.out _).mono ?_; rintro e w2 ⟨rfl, hd⟩; have HD2 := Aside0.mk (below_step HD.out (show Below w1.heap.size w1 w2 by first | exact hd | exact hd.below)); clear hd)
    | ((with_reducible refine gate_dst (N := 28) rfl ?_); refine Kd.R_lit (Kd.int .i64) _ 3 ?hg (N := 28) ?hd (xs := ([0] : List Int)) (inner := [.int .i64 0]) (ok := fun _ => True) (okp := fun _ => True) ?hr ?hp (fun _ hk => hk) trivial (Below.refl _ _) (Nat.le_refl _) (by simp) ?_; (case hd => rfl); (case hg => rfl); (case hr => first | (go_simp; done) | (go_simp; rfl)); (case hp => exact (Reps.one (show Kd.M (Kd.int .i64) _ _ _ 0 [.int .i64 0] from rfl) (Reps.none _ _))); intro v28 w28 ho hb hg_ hnew_; have HO := Aside0.mk (Kd.R_lower ho HD2.out.size); have HB3 := Aside0.mk (below_step HD2.out hb); clear ho hb hg_ hnew_)
    | ((with_reducible refine gate_dst (N := 10) rfl ?_); refine box_event ?hg (N := 10) ?hd (cs := #[.int .i64 0, .bool false]) (t := 69) ?hr ?_; (case hd => rfl); (case hg => rfl); (case hr => first | (go_simp; done) | (go_simp; rfl)); intro g10 hg w10 hbox hb; have G10 := Aside0.mk (show w.heap.size ≤ g10 by rw [hg]; exact HB3.out.size); have X10 := Aside0.mk hbox; have HB4 := Aside0.mk (below_step HB3.out hb); have HO4 := Aside0.mk (Kd.R_below HO.out hb); have hcz10_0 : w10.cell? ⟨g10, 0, none⟩ = some (.int .i64 0) := (blk_cell X10.out 0).trans rfl; have hcz10_1 : w10.cell? ⟨g10, 1, none⟩ = some (.bool false) := (blk_cell X10.out 1).trans rfl; have hfz10_0 := blk_frozen X10.out 0; have hfz10_1 := blk_frozen X10.out 1; clear hg hbox hb))
   have XS := Aside0.mk (blk_put (cs := #[.int .i64 least, .bool false]) (blk_put (cs := #[.int .i64 0, .bool false]) X10.out 0 (.int .i64 least) rfl) 1 (.bool unlike) rfl)
   have OS := Aside0.mk (Kd.R_mono (ok' := fun _ => True) (Kd.R_far (p := ⟨g10, 1, none⟩) (Kd.R_far (p := ⟨g10, 0, none⟩) (Kd.R_types HO4.out X10.out (by decide)) (fun _ hk => hk.2) (.int .i64 least)) (fun _ hk => hk.2) (.bool unlike)) (fun _ _ => trivial))
   have BS := Aside0.mk (below_set (j := 1) (v := .bool unlike) (below_set (j := 0) (v := .int .i64 least) HB4.out G10.out) G10.out)
   go_loopg [11, 12] (N + 1) (fun gg v11 v12 w' => ∃ (n : Nat) (out : List Int), n ≤ N ∧ N + 1 - n ≤ gg ∧ v12 = .int .i64 ((n + 1 : Nat) : Int) ∧ Aside0 (impl_play.vals k b least unlike n = some out) ∧ Aside0 (Kd.R (Kd.int .i64) 3 w' w.heap.size (fun _ => True) v11 out) ∧ Aside0 (w'.heap[g10]? = some (.cells #[.int .i64 least, .bool unlike] 69 (0, 0))) ∧ Aside0 (Below w.heap.size w w'))
   case atStart => exact ⟨0, [0], Nat.zero_le _, by omega, rfl, ⟨rfl⟩, OS, XS, BS⟩
   case round =>
    clear XS OS BS HO4 X10 HB4 HB3 HB HD HD2 HO hcz10_0 hcz10_1 hfz10_0 hfz10_1
    obtain ⟨n, out, hn, hgg, rfl, HVn, HO, X2, HB⟩ := hrel
    by_cases hlt : n + 1 ≤ N
    ·have hltz : ((n + 1 : Nat) : Int) ≤ (N : Int) := by omega
     obtain ⟨o2, ho2⟩ := impl_play.down HV.out hlt
     obtain ⟨ms, hms, hfit, hoe⟩ := impl_play.next HVn.out ho2
     have HV2 := Aside0.mk ho2
     have HMV := Aside0.mk (fun W => impl_rule_moves.calls k least unlike ((n + 1 : Nat) : Int) ms W hms)
     have HF := Aside0.mk hfit
     have HE := Aside0.mk hoe
     have HLT := Aside0.mk hlt
     have HGG := Aside0.mk hgg
     have hw1 : wrap64 (((n + 1 : Nat) : Int) + 1) = ((n + 1 + 1 : Nat) : Int) := PK.w1 (show n + 1 < 100 by have := HN.out; omega) (by omega)
     have hcz0 : wr.cell? ⟨g10, 0, none⟩ = some (.int .i64 least) := (blk_cell X2.out 0).trans rfl
     have hcz1 : wr.cell? ⟨g10, 1, none⟩ = some (.bool unlike) := (blk_cell X2.out 1).trans rfl
     clear ho2 hms hfit hoe hn hgg
     go_wp2_with (go_at_call 53; go_loud (refine (HMV.out _).mono ?_; rintro e w20 ⟨vm, rfl, ho, hb⟩); have HM4 := Aside0.mk (Kd.R_lower ho HB.out.size); have HO4 := Aside0.mk (Kd.R_below HO.out hb); have X4 := Aside0.mk (blk_below X2.out hb); have HB4 := Aside0.mk (below_step HB.out hb); obtain ⟨Am, cm, em⟩ := Kd.R_slice ho; subst em; clear ho hb hcz0 hcz1)
     go_loopg [13, 38] ms.length (fun gg v13 v38 w' => ∃ kk : Nat, kk ≤ ms.length ∧ ms.length - kk ≤ gg ∧ v38 = .int .i64 (kk : Int) ∧ v13 = .int .i64 (impl_play.bst b ((ms.take kk).map (impl_play.own out (n + 1)))) ∧ Aside0 (Kd.R (Kd.int .i64) 3 w' w.heap.size (fun _ => True) (.slice Am ms.length cm) ms) ∧ Aside0 (Kd.R (Kd.int .i64) 3 w' w.heap.size (fun _ => True) u11 out) ∧ Aside0 (w'.heap[g10]? = some (.cells #[.int .i64 least, .bool unlike] 69 (0, 0))) ∧ Aside0 (Below w.heap.size w w'))
     case atStart => exact ⟨0, Nat.zero_le _, by omega, rfl, rfl, HM4, HO4, X4, HB4⟩
     case round =>
      clear HM4 HO4 X4 HB4 HO X2 HB
      obtain ⟨kk, hkk, hgg2, rfl, rfl, HM, HO, X2, HB⟩ := hrel
      by_cases hlk : kk < ms.length
      ·have hlkz : (kk : Int) < (ms.length : Int) := by omega
       obtain ⟨f1, f2, f3, f4, f5⟩ := HF.out
       have g4 := f4 _ (Lam.getD_mem hlk (0 : Int))
       obtain ⟨mm, hmm⟩ : ∃ mm : Nat, ms.getD kk 0 = (mm : Int) := ⟨(ms.getD kk 0).toNat, by omega⟩
       have hxr := impl_play.take_step (b := b) (out := out) (n := n + 1) hlk
       have hgm : ms[kk] = (mm : Int) := by rw [← hmm, List.getD_eq_getElem?_getD, List.getElem?_eq_getElem hlk]; rfl
       rw [hgm] at hxr
       rw [hmm] at g4
       have HMM := Aside0.mk (show 0 < mm ∧ mm < n + 1 by omega)
       rcases Del.row_formR HM.out with ⟨_, h2⟩ | ⟨gq, cq, hv⟩
       ·rw [h2] at hlk; simp at hlk
       injection hv with hA hn2 hc2
       clear hn2
       subst hA; subst hc2
       obtain ⟨_, _, hbq, curq, hgq, hnq, _, hMq⟩ := Del.row_ofR rfl HM.out (0 : Int)
       rcases Del.row_formR HO.out with ⟨_, h2⟩ | ⟨go, co, hvo⟩
       ·rw [h2] at f1; simp at f1
       subst hvo
       obtain ⟨_, _, hbo, curo, hgo, hno, _, hMo⟩ := Del.row_ofR rfl HO.out (0 : Int)
       have hx0 : wr.cell? ⟨gq, kk, none⟩ = some (.int .i64 (mm : Int)) := (blk_cell hgq kk).trans (by have h9 : [curq[kk]!] = [Value.int .i64 (ms.getD kk 0)] := hMq kk hlk; injection h9 with h9; rw [Del.arr_at (by omega), h9, hmm])
       have HQ0 := Aside0.mk (show curo[mm]? = some (.int .i64 (out.getD mm 0)) by have h9 : [curo[mm]!] = [Value.int .i64 (out.getD mm 0)] := hMo mm (by omega); injection h9 with h9; rw [Del.arr_at (by omega), h9])
       obtain ⟨q, hq⟩ : ∃ q : Nat, n + 1 - mm = q := ⟨_, rfl⟩
       have HQ1 := Aside0.mk (show curo[q]? = some (.int .i64 (out.getD q 0)) by have h9 : [curo[q]!] = [Value.int .i64 (out.getD q 0)] := hMo q (by omega); injection h9 with h9; rw [Del.arr_at (by omega), h9])
       have ga := f5 _ (Lam.getD_mem (show mm < out.length by omega) (0 : Int))
       have gb := f5 _ (Lam.getD_mem (show q < out.length by omega) (0 : Int))
       obtain ⟨ua, hua⟩ : ∃ ua, out.getD mm 0 = ua := ⟨_, rfl⟩
       obtain ⟨ub, hub⟩ : ∃ ub, out.getD q 0 = ub := ⟨_, rfl⟩
       rw [hua] at HQ0 ga
       rw [hub] at HQ1 gb
       obtain ⟨s1, hs1⟩ : ∃ s1, 1 + ua = s1 := ⟨_, rfl⟩
       obtain ⟨ov, hov⟩ : ∃ ov, s1 + ub = ov := ⟨_, rfl⟩
       have heo : impl_play.own out (n + 1) (mm : Int) = ov := by unfold impl_play.own; rw [Int.toNat_natCast, hq, hua, hub, ← hov, ← hs1]
       rw [heo] at hxr
       obtain ⟨acc, hacc⟩ : ∃ acc, impl_play.bst b ((ms.take kk).map (impl_play.own out (n + 1))) = acc := ⟨_, rfl⟩
       rw [hacc] at hxr ⊢
       have HXR := Aside0.mk hxr
       have hi0 : (mm : Int) < (out.length : Int) := by omega
       have hi1 : (q : Int) < (out.length : Int) := by omega
       have hws : wrap64 ((n : Int) + 1 - (mm : Int)) = (q : Int) := by have := HN.out; rw [PK.wrap_in (by omega) (by omega)]; omega
       have hw47 : wrap64 (1 + ua) = s1 := by rw [PK.wrap_in (by omega) (by omega)]; exact hs1
       have hw54 : wrap64 (s1 + ub) = ov := by rw [PK.wrap_in (by omega) (by omega)]; exact hov
       clear hq hua hub hs1 hov heo hacc f1 f2 f3 f4 f5 g4 ga gb hmm hxr hgm hMq hMo hbq hbo hnq hno
       go_wp2
       have M8 := Kd.R_drew HM.out
       have O8 := Kd.R_drew HO.out
       have X8 : wr.drew.heap[g10]? = some (.cells #[.int .i64 least, .bool unlike] 69 (0, 0)) := X2.out
       have B8 := below_drew HB.out
       have q8 : wr.drew.heap[go]? = some (.cells curo 3 (0, 0)) := hgo
       refine start_ (n := 13) (S := fun w' => w'.heap[go]? = some (.cells curo 3 (0, 0))) (ds := []) #[false, false, false, false, false, false, false, false, false, false, false, false, false] (by kernel_rfl) rfl rfl q8 (fun hHeld => ?_)
       generalize wr.drew = we at M8 O8 X8 B8 q8 hHeld ⊢
       clear HM HO X2 HB hgq hgo hx0
       refine pure_ (i := 0) (N := some 43) (v := ?_) (a' := ?_) #[true, false, false, false, false, false, false, false, false, false, false, false, false] rfl rfl (by kernel_rfl) (fun _ _ _ h => h) (Or.inl ⟨by rfl, ?_⟩) ?_ ?_
       rotate_left
       ·intro w'
        go_simp
        with_reducible rfl
       rotate_left
       ·simp only [Act.put, Lam.pa, Lam.pb, Lam.pc, i64_w, i32_w]
        rfl
       refine pure_ (i := 1) (N := some 44) (v := ?_) (a' := ?_) #[true, true, false, false, false, false, false, false, false, false, false, false, false] rfl rfl (by kernel_rfl) (fun _ _ _ h => h) (Or.inl ⟨by rfl, ?_⟩) ?_ ?_
       rotate_left
       ·intro w'
        go_simp
        with_reducible rfl
       rotate_left
       ·simp only [Act.put, Lam.pa, Lam.pb, Lam.pc, i64_w, i32_w]
        rfl
       refine pure_ (i := 2) (N := some 45) (v := ?_) (a' := ?_) #[true, true, true, false, false, false, false, false, false, false, false, false, false] rfl rfl (by kernel_rfl) (fun _ _ _ h => h) (Or.inl ⟨by rfl, ?_⟩) ?_ ?_
       rotate_left
       ·intro w'
        go_simp
        with_reducible rfl
       rotate_left
       ·simp only [Act.put, Lam.pa, Lam.pb, Lam.pc, i64_w, i32_w]
        rfl
       refine take_ (i := 3) (N := some 46) (v := ?_) (a' := ?_) #[true, true, true, true, false, false, false, false, false, false, false, false, false] rfl rfl (by kernel_rfl) (fun _ _ _ h => h) (Or.inl ⟨by rfl, ?_⟩) hHeld ?_ ?_
       rotate_left
       ·rintro w' s0
        have s1 := (blk_cell s0 mm).trans HQ0.out
        go_simp
        with_reducible rfl
       rotate_left
       ·simp only [Act.put, Lam.pa, Lam.pb, Lam.pc, i64_w, i32_w]
        rfl
       refine pure_ (i := 4) (N := some 47) (v := ?_) (a' := ?_) #[true, true, true, true, true, false, false, false, false, false, false, false, false] rfl rfl (by kernel_rfl) (fun _ _ _ h => h) (Or.inl ⟨by rfl, ?_⟩) ?_ ?_
       rotate_left
       ·intro w'
        go_simp
        with_reducible rfl
       rotate_left
       ·simp only [Act.put, Lam.pa, Lam.pb, Lam.pc, i64_w, i32_w]
        rfl
       refine pure_ (i := 5) (N := some 48) (v := ?_) (a' := ?_) #[true, true, true, true, true, true, false, false, false, false, false, false, false] rfl rfl (by kernel_rfl) (fun _ _ _ h => h) (Or.inl ⟨by rfl, ?_⟩) ?_ ?_
       rotate_left
       ·intro w'
        go_simp
        with_reducible rfl
       rotate_left
       ·simp only [Act.put, Lam.pa, Lam.pb, Lam.pc, i64_w, i32_w]
        rfl
       refine pure_ (i := 6) (N := some 49) (v := ?_) (a' := ?_) #[true, true, true, true, true, true, true, false, false, false, false, false, false] rfl rfl (by kernel_rfl) (fun _ _ _ h => h) (Or.inl ⟨by rfl, ?_⟩) ?_ ?_
       rotate_left
       ·intro w'
        go_simp
        with_reducible rfl
       rotate_left
       ·simp only [Act.put, Lam.pa, Lam.pb, Lam.pc, i64_w, i32_w]
        rfl
       refine pure_ (i := 7) (N := some 50) (v := ?_) (a' := ?_) #[true, true, true, true, true, true, true, true, false, false, false, false, false] rfl rfl (by kernel_rfl) (fun _ _ _ h => h) (Or.inl ⟨by rfl, ?_⟩) ?_ ?_
       rotate_left
       ·intro w'
        go_simp
        with_reducible rfl
       rotate_left
       ·simp only [Act.put, Lam.pa, Lam.pb, Lam.pc, i64_w, i32_w]
        rfl
       refine pure_ (i := 8) (N := some 51) (v := ?_) (a' := ?_) #[true, true, true, true, true, true, true, true, true, false, false, false, false] rfl rfl (by kernel_rfl) (fun _ _ _ h => h) (Or.inl ⟨by rfl, ?_⟩) ?_ ?_
       rotate_left
       ·intro w'
        go_simp
        with_reducible rfl
       rotate_left
       ·simp only [Act.put, Lam.pa, Lam.pb, Lam.pc, i64_w, i32_w]
        rfl
       refine pure_ (i := 9) (N := some 52) (v := ?_) (a' := ?_) #[true, true, true, true, true, true, true, true, true, true, false, false, false] rfl rfl (by kernel_rfl) (fun _ _ _ h => h) (Or.inl ⟨by rfl, ?_⟩) ?_ ?_
       rotate_left
       ·intro w'
        go_simp
        with_reducible rfl
       rotate_left
       ·simp only [Act.put, Lam.pa, Lam.pb, Lam.pc, i64_w, i32_w]
        rfl
       refine take_ (i := 10) (N := some 53) (v := ?_) (a' := ?_) #[true, true, true, true, true, true, true, true, true, true, true, false, false] rfl rfl (by kernel_rfl) (fun _ _ _ h => h) (Or.inl ⟨by rfl, ?_⟩) hHeld ?_ ?_
       rotate_left
       ·rintro w' s0
        have s2 := (blk_cell s0 q).trans HQ1.out
        go_simp
        with_reducible rfl
       rotate_left
       ·simp only [Act.put, Lam.pa, Lam.pb, Lam.pc, i64_w, i32_w]
        rfl
       refine pure_ (i := 11) (N := some 54) (v := ?_) (a' := ?_) #[true, true, true, true, true, true, true, true, true, true, true, true, false] rfl rfl (by kernel_rfl) (fun _ _ _ h => h) (Or.inl ⟨by rfl, ?_⟩) ?_ ?_
       rotate_left
       ·intro w'
        go_simp
        with_reducible rfl
       rotate_left
       ·simp only [Act.put, Lam.pa, Lam.pb, Lam.pc, i64_w, i32_w]
        rfl
       refine pure_ (i := 12) (N := some 16) (v := ?_) (a' := ?_) #[true, true, true, true, true, true, true, true, true, true, true, true, true] rfl rfl (by kernel_rfl) (fun _ _ _ h => h) (Or.inl ⟨by rfl, ?_⟩) ?_ ?_
       rotate_left
       ·intro w'
        go_simp
        with_reducible rfl
       rotate_left
       ·simp only [Act.put, Lam.pa, Lam.pb, Lam.pc, i64_w, i32_w]
        rfl
       refine done_ (by kernel_rfl) ?_
       have HM := Aside0.mk M8
       have HO := Aside0.mk O8
       have X2 := Aside0.mk X8
       have HB := Aside0.mk B8
       have HKK := Aside0.mk hlk
       have HGG2 := Aside0.mk hgg2
       have hwk : wrap64 ((kk : Int) + 1) = ((kk + 1 : Nat) : Int) := PK.w1 hlk (by have := HF.out.2.2.1; omega)
       clear M8 O8 X8 B8 q8 hHeld hgg2 hkk hws hw47 hw54 hi0 hi1 hlk hlkz
       by_cases hk0 : kk = 0
       ·subst hk0
        go_wp2
        go_roundg (ms.length - (0 + 1))
        case measure => have := HKK.out; have := HGG2.out; omega
        case rel => exact ⟨0 + 1, by have := HKK.out; omega, Nat.le_refl _, by first | rfl | (simp [*]; done), by rw [HXR.out]; rfl, HM, HO, X2, HB⟩
       ·have hk1 : ((kk : Int) == 0) = false := beq_eq_false_iff_ne.2 (by omega)
        have HK0 := Aside0.mk hk0
        have HPO := Aside0.mk (fun W => HP.out W ov acc)
        clear hk0
        cases hq : b ov acc with
        | true =>
         rw [hq] at HPO
         have HQ := Aside0.mk hq
         clear hq
         go_wp2_with (go_at_fn gf; refine (HPO.out _).mono ?_; rintro e w' ⟨rfl, hb'⟩; have n0_ := Aside0.mk (Kd.R_below HM.out hb'); have n1_ := Aside0.mk (Kd.R_below HO.out hb'); have n2_ := Aside0.mk (blk_below X2.out hb'); have n3_ := Aside0.mk (below_step HB.out hb'); clear HM HO X2 HB hb'; have HM := n0_; have HO := n1_; have X2 := n2_; have HB := n3_; clear n0_ n1_ n2_ n3_)
         go_roundg (ms.length - (kk + 1))
         case measure => have := HKK.out; have := HGG2.out; omega
         case rel => exact ⟨kk + 1, by have := HKK.out; omega, Nat.le_refl _, by first | rfl | (simp [*]; done), by rw [HXR.out, if_neg HK0.out, if_pos HQ.out], HM, HO, X2, HB⟩
        | false =>
         rw [hq] at HPO
         have HQ := Aside0.mk hq
         clear hq
         go_wp2_with (go_at_fn gf; refine (HPO.out _).mono ?_; rintro e w' ⟨rfl, hb'⟩; have n0_ := Aside0.mk (Kd.R_below HM.out hb'); have n1_ := Aside0.mk (Kd.R_below HO.out hb'); have n2_ := Aside0.mk (blk_below X2.out hb'); have n3_ := Aside0.mk (below_step HB.out hb'); clear HM HO X2 HB hb'; have HM := n0_; have HO := n1_; have X2 := n2_; have HB := n3_; clear n0_ n1_ n2_ n3_)
         go_roundg (ms.length - (kk + 1))
         case measure => have := HKK.out; have := HGG2.out; omega
         case rel => exact ⟨kk + 1, by have := HKK.out; omega, Nat.le_refl _, by first | rfl | (simp [*]; done), by rw [HXR.out, if_neg HK0.out, if_neg (by rw [HQ.out]; exact Bool.false_ne_true)], HM, HO, X2, HB⟩
      ·obtain rfl : kk = ms.length := by omega
       have hlkz : ¬ (ms.length : Int) < (ms.length : Int) := by omega
       rw [List.take_length]
       obtain ⟨bb, hbb⟩ : ∃ bb, impl_play.bst b (ms.map (impl_play.own out (n + 1))) = bb := ⟨_, rfl⟩
       rw [hbb]
       have HBB := Aside0.mk hbb
       clear hbb hlk hgg2 hkk HM
       go_wp2_with ((with_reducible refine gate_builtin (b := .append) (xs := #[.tmp 65, .tmp 67]) rfl ?_); at_builtin; refine Kd.R_append (Kd.int .i64) (w0 := w) w.heap.size rfl (.tmp 65) (.tmp 67) 26 3 (.int .i64 0) 8 rfl Try.underlying26 info3 rfl (by decide) (by omega) u11 out bb [.int .i64 bb] (fun _ => True) (fun _ => False) rfl rfl ?aP (fun _ hk => hk.elim) ?aF ?aO ?aB ?aS ?aL ?_; (case aP => exact rfl); (case aB => exact HB.out); (case aF => exact (fun _ _ => trivial)); (case aO => exact HO.out); (case aS => exact HB.out.size); (case aL => have := HF.out.1; have := HF.out.2.1; omega); intro v68 w68 ho hb hg hat; have X7 := Aside0.mk (blk_grown (g := g10) (o := .cells #[.int .i64 least, .bool unlike] 69 (0, 0)) X2.out hg (Kd.R_ne HO.out X2.out (by decide))); have HO7 := Aside0.mk ho; have HB7 := Aside0.mk hb; clear ho hb hg hat)
       go_roundg (N + 1 - (n + 1))
       case measure => have := HGG.out; have := HLT.out; omega
       case rel => exact ⟨n + 1, o2, HLT.out, Nat.le_refl _, by first | rfl | (have h1 := HN.out; have h2 := HLT.out; simp; exact PK.wrap_in (by omega) (by omega)), HV2, ⟨by rw [HE.out, HBB.out]; exact HO7.out⟩, X7, HB7⟩
    ·obtain rfl : n = N := by omega
     have hltz : ¬ ((n + 1 : Nat) : Int) ≤ (n : Int) := by omega
     obtain rfl := Option.some.inj (HVn.out.symm.trans HV.out)
     have hlen := impl_play.len HVn.out
     rcases Del.row_formR HO.out with ⟨_, h2⟩ | ⟨go, co, hvo⟩
     ·rw [h2] at hlen; simp at hlen
     subst hvo
     obtain ⟨_, _, hbo, curo, hgo, hno, _, hMo⟩ := Del.row_ofR rfl HO.out (0 : Int)
     have hx0 : wr.cell? ⟨go, n, none⟩ = some (.int .i64 (out.getD n 0)) := (blk_cell hgo n).trans (by have h9 : [curo[n]!] = [Value.int .i64 (out.getD n 0)] := hMo n (by omega); injection h9 with h9; rw [Del.arr_at (by omega), h9])
     have hi0 : (n : Int) < (out.length : Int) := by omega
     obtain ⟨ua, hua⟩ : ∃ ua, out.getD n 0 = ua := ⟨_, rfl⟩
     rw [hua] at hx0
     have HUA := Aside0.mk hua
     clear hua hMo hno hbo hlen hgo
     go_wp2
     go_ret2
     have hua := HUA.out
     subst hua
     exact ⟨by first | rfl | simp, HB.out⟩

/-! ### impl_LongestStripPlay: function 13 -/
def impl_LongestStripPlay.f (k : Nat) (a0 : Int) (a1 : Int) (a2 : Bool) : Option (Int × Bool) := impl_play.pf k (fun a b => decide (a > b)) a0 a1 a2
theorem impl_LongestStripPlay.mono : ∀ a0 a1 a2 k, LeO (impl_LongestStripPlay.f k a0 a1 a2) (impl_LongestStripPlay.f (k + 1) a0 a1 a2) := fun a0 a1 a2 k => impl_play.pf_mono _ a0 a1 a2 k
set_option maxHeartbeats 4000000 in
theorem impl_LongestStripPlay.lam (x y : Int) (W : World) : Calls Try.prog 59 #[.int .i64 x, .int .i64 y] W fun e w' => e = .returned (.bool (decide (x > y))) ∧ Below W.heap.size W w' := by
 have HD := Aside0.mk (Below.refl W.heap.size W)
 go_enter Try.func59, Try.ntmps59
 go_wp2
 go_ret
 exact ⟨rfl, HD.out⟩
set_option maxHeartbeats 8000000 in
set_option maxRecDepth 100000 in
theorem impl_LongestStripPlay.calls (k : Nat) (a0 : Int) (a1 : Int) (a2 : Bool) (r1 : Int) (r2 : Bool) (w : World) (h : impl_LongestStripPlay.f k a0 a1 a2 = some (r1, r2)) :
  Calls Try.prog 13 #[.int .i64 a0, .int .i64 a1, .bool a2] w fun e w' => e = .returned (.tuple #[.int .i64 r1, .bool r2]) ∧ Below w.heap.size w w' := by
 have eg := enters_of Try.func59 (by kernel_rfl) rfl
 have HR := Aside0.mk (fun W => impl_play.run k _ _ eg (fun W x y => impl_LongestStripPlay.lam x y W) a0 a1 a2 r1 r2 W h)
 clear h eg
 go_enter Try.func13, Try.ntmps13
 go_wp2_with (go_at_call 58; refine (HR.out _).mono ?_; rintro e w1 ⟨rfl, hd⟩)
 go_ret2
 exact ⟨rfl, hd⟩

end Go.Proofs.Ytejnbnppiipdlaa.PFnBreaksStrips
