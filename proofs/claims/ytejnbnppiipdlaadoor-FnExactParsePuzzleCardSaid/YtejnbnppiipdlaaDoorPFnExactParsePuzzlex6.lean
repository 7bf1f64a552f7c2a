-- Made by a program of this session (wip/xprint.py) out of the translation.
import Derived.Test.YtejnbnppiipdlaaDoorEnv
import Derived.Test.YtejnbnppiipdlaaDoorPFnExactParsePuzzlex0
import Derived.Test.YtejnbnppiipdlaaDoorPFnExactParsePuzzlex5
namespace Go.Proofs.YtejnbnppiipdlaaDoor.PFnExactParsePuzzle
open Go.RowKit Go.Proofs.YtejnbnppiipdlaaDoorW.PrintWords Go.Proofs.YtejnbnppiipdlaaDoorW.PrintLast Go.Proofs.YtejnbnppiipdlaaDoorW.PrintMore
attribute [local go_sem] Lam.yl_undef max2_int min2_int max_two min_two max_three min_three max_four min_four   -- for this text's walks alone
set_option linter.unusedVariables false
set_option linter.unusedSimpArgs false

/-! ### strconv_Itoa: function 39 -/
def strconv_Itoa.lay_ren : Go.Shelf.Ren := ⟨fun | 171 => 39 | 243 => 54 | 246 => 68 | 283 => 77 | 284 => 78 | 285 => 79 | 286 => 80 | 129 => 88 | 317 => 87 | 318 => 89 | 319 => 90 | 320 => 91 | 337 => 94 | 338 => 95 | n => n, fun | 3 => 3 | 9 => 9 | 2 => 2 | 4 => 4 | 171 => 103 | 0 => 0 | 53 => 104 | 37 => 83 | 5 => 5 | 173 => 107 | 212 => 119 | 51 => 120 | 20 => 20 | 213 => 121 | 46 => 91 | 232 => 128 | 233 => 129 | n => n, fun | 17 => 3 | 18 => 4 | 19 => 5 | n => n⟩
theorem strconv_Itoa.lay : Go.Proofs.Lays.n171 Tryd.prog strconv_Itoa.lay_ren := {
 mixed := by kernel_rfl
 f129 := Tryd.func88.trans (congrArg some (by kernel_rfl))
 f171 := Tryd.func39.trans (congrArg some (by kernel_rfl))
 f243 := Tryd.func54.trans (congrArg some (by kernel_rfl))
 f246 := Tryd.func68.trans (congrArg some (by kernel_rfl))
 f283 := Tryd.func77.trans (congrArg some (by kernel_rfl))
 f284 := Tryd.func78.trans (congrArg some (by kernel_rfl))
 f285 := Tryd.func79.trans (congrArg some (by kernel_rfl))
 f286 := Tryd.func80.trans (congrArg some (by kernel_rfl))
 f317 := Tryd.func87.trans (congrArg some (by kernel_rfl))
 f318 := Tryd.func89.trans (congrArg some (by kernel_rfl))
 f319 := Tryd.func90.trans (congrArg some (by kernel_rfl))
 f320 := Tryd.func91.trans (congrArg some (by kernel_rfl))
 f337 := Tryd.func94.trans (congrArg some (by kernel_rfl))
 f338 := Tryd.func95.trans (congrArg some (by kernel_rfl))
 t0 := Tryd.underlying0
 a0 := Tryd.isAgg0
 z0 := Tryd.sizeOf0
 v0 := Tryd.zeroValue0
 t2 := Tryd.underlying2
 a2 := Tryd.isAgg2
 z2 := Tryd.sizeOf2
 v2 := Tryd.zeroValue2
 t3 := Tryd.underlying3
 a3 := Tryd.isAgg3
 z3 := Tryd.sizeOf3
 v3 := Tryd.zeroValue3
 t4 := Tryd.underlying4
 a4 := Tryd.isAgg4
 z4 := Tryd.sizeOf4
 v4 := Tryd.zeroValue4
 t5 := Tryd.underlying5
 a5 := Tryd.isAgg5
 z5 := Tryd.sizeOf5
 v5 := Tryd.zeroValue5
 t9 := Tryd.underlying9
 a9 := Tryd.isAgg9
 z9 := Tryd.sizeOf9
 v9 := Tryd.zeroValue9
 t20 := Tryd.underlying20
 a20 := Tryd.isAgg20
 z20 := Tryd.sizeOf20
 v20 := Tryd.zeroValue20
 t37 := Tryd.underlying83
 a37 := Tryd.isAgg83
 z37 := Tryd.sizeOf83
 v37 := Tryd.zeroValue83
 t46 := Tryd.underlying91
 a46 := Tryd.isAgg91
 z46 := Tryd.sizeOf91
 v46 := Tryd.zeroValue91
 t51 := Tryd.underlying120
 a51 := Tryd.isAgg120
 z51 := Tryd.sizeOf120
 v51 := Tryd.zeroValue120
 t53 := Tryd.underlying104
 a53 := Tryd.isAgg104
 z53 := Tryd.sizeOf104
 v53 := Tryd.zeroValue104
 t171 := Tryd.underlying103
 a171 := Tryd.isAgg103
 z171 := Tryd.sizeOf103
 v171 := Tryd.zeroValue103
 t173 := Tryd.underlying107
 a173 := Tryd.isAgg107
 z173 := Tryd.sizeOf107
 v173 := Tryd.zeroValue107
 t212 := Tryd.underlying119
 a212 := Tryd.isAgg119
 z212 := Tryd.sizeOf119
 v212 := Tryd.zeroValue119
 t213 := Tryd.underlying121
 a213 := Tryd.isAgg121
 z213 := Tryd.sizeOf121
 t232 := Tryd.underlying128
 a232 := Tryd.isAgg128
 z232 := Tryd.sizeOf128
 v232 := Tryd.zeroValue128
 t233 := Tryd.underlying129
 a233 := Tryd.isAgg129
 z233 := Tryd.sizeOf129
 v233 := Tryd.zeroValue129
 g17 := by kernel_rfl
 g18 := by kernel_rfl
 g19 := by kernel_rfl }
def strconv_Itoa.text (n : Int) : ByteArray := ⟨(Lib.decDigits n.toNat).toArray⟩
def strconv_Itoa.f (a0 : Int) : Option (ByteArray) := if 0 ≤ a0 then if a0 < 100 then some (strconv_Itoa.text a0) else none else none
theorem strconv_Itoa.calls (a0 : Int) (r : ByteArray) (w : World) (h : strconv_Itoa.f a0 = some r) :
  Calls Tryd.prog 39 #[.int .i64 a0] w fun e w' => e = .returned (.string r) ∧ Drawn0 w w' := by
 unfold strconv_Itoa.f at h
 by_cases h0 : 0 ≤ a0
 ·by_cases h1 : a0 < 100
  ·rw [if_pos h0, if_pos h1] at h
   obtain rfl := Option.some.inj h
   have := Any.strconv_Itoa_small strconv_Itoa.lay a0.toNat (by omega) w
   rw [Int.toNat_of_nonneg h0] at this
   refine this.mono ?_
   rintro e w' ⟨rfl, rfl⟩
   exact ⟨rfl, Drawn0.refl _⟩
  ·rw [if_pos h0, if_neg h1] at h; cases h
 ·rw [if_neg h0] at h; cases h

/-! ### impl_joined: function 46 -/
def impl_joined.l0 : Nat → ByteArray → List ByteArray → List Int → Int → Int → Option (ByteArray)
 | 0, _, _, _, _, _ => none
 | k + 1, x1, x5, x9, x10, x11 => if x11 < x10 then (if 0 ≤ x11 then (if x11 < (x9.length : Int) then ((strconv_Itoa.f (rd x9 x11)).bind fun t172 => (if x5.length < 8796093022208 then (impl_joined.l0 k x1 (x5 ++ [t172]) x9 x10 (wrap64 (x11 + 1))) else (none))) else (none)) else (none)) else ((strings_Join.f x5 x1).bind fun t176 => (some t176))
def impl_joined.f (k : Nat) (l0 : List Int) (a1 : ByteArray) : Option (ByteArray) := impl_joined.l0 k a1 (([] : List ByteArray)) l0 (l0.length : Int) 0
theorem impl_joined.mono_l : ∀ k, (∀ y0 y1 y2 y3 y4, LeO (impl_joined.l0 k y0 y1 y2 y3 y4) (impl_joined.l0 (k + 1) y0 y1 y2 y3 y4))
 | 0 => fun _ _ _ _ _ r h => by simp [impl_joined.l0] at h
 | k + 1 => by
  have ih0 := impl_joined.mono_l k
  ·intro y0 y1 y2 y3 y4
   unfold impl_joined.l0
   repeat' first
   | (with_reducible exact ih0 _ _ _ _ _)
   | (with_reducible exact LeO.refl _)
   | (with_reducible exact LeO.none _)
   | (with_reducible refine LeO.ite ?_ ?_)
   | (with_reducible refine LeO.bind ?_ (fun _ => ?_))
   | exact ih0 _ _ _ _ _
   | exact LeO.none _
   | refine LeO.ite ?_ ?_
   | refine LeO.bind ?_ (fun _ => ?_)
theorem impl_joined.mono : ∀ a0 a1 k, LeO (impl_joined.f k a0 a1) (impl_joined.f (k + 1) a0 a1) := by
 intro a0 a1 k
 have ih0 := impl_joined.mono_l k
 unfold impl_joined.f
 repeat' first
   | (with_reducible exact ih0 _ _ _ _ _)
   | (with_reducible exact LeO.refl _)
   | (with_reducible exact LeO.none _)
   | (with_reducible refine LeO.ite ?_ ?_)
   | (with_reducible refine LeO.bind ?_ (fun _ => ?_))
   | exact ih0 _ _ _ _ _
   | exact LeO.none _
   | refine LeO.ite ?_ ?_
   | refine LeO.bind ?_ (fun _ => ?_)
set_option maxHeartbeats 8000000 in
set_option maxRecDepth 100000 in
theorem impl_joined.calls (k : Nat) (A0 : Option Addr) (c0 : Nat) (l0 : List Int) (a1 : ByteArray) (r : ByteArray) (w : World) (hr0 : Kd.C (Kd.int .i64) w A0 l0.length l0) (hc0 : l0.length ≤ c0) (h : impl_joined.f k l0 a1 = some r) :
  Calls Tryd.prog 46 #[.slice A0 l0.length c0, .string a1] w fun e w' => e = .returned (.string r) ∧ Below w.heap.size w w' := by
 have HR0 := Aside0.mk hr0
 have HC0 := Aside0.mk hc0
 clear hr0 hc0
 have HB := Aside0.mk (Below.refl w.heap.size w)
 have H : (impl_joined.l0 k a1 (([] : List ByteArray)) l0 (l0.length : Int) 0) = some r := h
 clear h
 obtain ⟨y168, hy168⟩ : ∃ y_ : List ByteArray, y_ = (([] : List ByteArray)) := ⟨_, rfl⟩
 replace H : (impl_joined.l0 k a1 y168 l0 (l0.length : Int) 0) = some r := by first | (rw [hy168]; with_reducible exact H) | (have H2_ := (Option.bind_some _ _).symm.trans H; rw [hy168]; with_reducible exact H2_) | (have H2_ := (Option.bind_some _ _).symm.trans H; with_reducible exact H2_) | with_reducible exact H | (rw [hy168]; exact H) | exact H
 have Ny168 := Aside0.mk hy168
 clear hy168
 have H' := Aside0.mk H
 clear H
 go_enter Tryd.func46, Tryd.ntmps46
 go_wp2_with (first | ((with_reducible refine gate_dst (N := 8) rfl ?_); refine Kd.R_lit Kd.string _ 9 ?hg (N := 8) ?hd (xs := ([] : List ByteArray)) (inner := []) (ok := fun _ => True) (okp := fun _ => True) ?hr ?hp (fun _ hk => hk) trivial (Below.refl _ _) (Nat.le_refl _) (by simp) ?_; (case hd => rfl); (case hg => rfl); (case hr => first | (go_simp; done) | (go_simp; rfl)); (case hp => exact (Reps.none _ _)); intro v169 w3 ho4 hb hg_ hnew_; clear hg_ hnew_; (first | rw [← Ny168.out] at ho4 | (simp only [Int.reduceToNat] at ho4; rw [← Ny168.out] at ho4)); have n0_ := Aside0.mk (Kd.R_lower ho4 (below_size (Lam.al))); have n1_ := Aside0.mk (below_step (Lam.al) hb); clear HB; have HO170 := n0_; have HB := n1_; clear n0_ n1_; clear hb ho4))
 go_loopg [5, 11] k (fun kq v5 v11 w' => ∃ (x5_1 : List ByteArray) (x11_1 : Int), v11 = .int .i64 x11_1 ∧ Aside0 (impl_joined.l0 kq a1 x5_1 l0 (l0.length : Int) x11_1 = some r) ∧ Aside0 (kq ≤ k) ∧ Aside0 (Kd.R Kd.string 9 w' w.heap.size (fun _ => True) v5 x5_1) ∧ Aside0 (Below w.heap.size w w'))
 case atStart => exact ⟨(y168), (0), (by first | rfl | (simp; done) | (simp [*]; done)), H', ⟨Nat.le_refl _⟩, ⟨Lam.rq HO170.out⟩, ⟨Lam.al⟩⟩
 case round =>
  clear H'
  try clear p2
  try clear c4
  obtain ⟨x5_1, x11_1, rfl, HA, HK1, HO_5, HB⟩ := hrel
  cases gk with
  | zero => exact absurd HA.out (by simp [impl_joined.l0])
  | succ k1 =>
   have H := HA.out
   clear HA
   simp only [impl_joined.l0] at H
   by_cases c5 : x11_1 < (l0.length : Int)
   ·rw [if_pos c5] at H
    have c5b0 : decide (x11_1 < (l0.length : Int)) = true := decide_eq_true c5
    clear c5
    by_cases c6 : 0 ≤ x11_1
    ·rw [if_pos c6] at H
     have c6b0 : decide (0 ≤ x11_1) = true := decide_eq_true c6
     clear c6
     by_cases c7 : x11_1 < (l0.length : Int)
     ·rw [if_pos c7] at H
      have c7b0 : decide (x11_1 < (l0.length : Int)) = true := decide_eq_true c7
      clear c7
      replace H := Option.bind_eq_some_iff.mp H
      obtain ⟨t172, A80, H⟩ := H
      (try dsimp only at H)
      have A8 := Aside0.mk A80
      clear A80
      by_cases c9 : x5_1.length < 8796093022208
      ·rw [if_pos c9] at H
       have LMc9 := Aside0.mk c9
       clear c9
       obtain ⟨y173, hy173⟩ : ∃ y_ : List ByteArray, y_ = (x5_1 ++ [t172]) := ⟨_, rfl⟩
       replace H : (impl_joined.l0 k1 a1 y173 l0 (l0.length : Int) (wrap64 (x11_1 + 1))) = some r := by first | (rw [hy173]; with_reducible exact H) | (have H2_ := (Option.bind_some _ _).symm.trans H; rw [hy173]; with_reducible exact H2_) | (have H2_ := (Option.bind_some _ _).symm.trans H; with_reducible exact H2_) | with_reducible exact H | (rw [hy173]; exact H) | exact H
       have Ny173 := Aside0.mk hy173
       clear hy173
       have H' := Aside0.mk H
       clear H
       have p171 : 0 ≤ (x11_1 : Int) := of_decide_eq_true (by first | (with_reducible assumption) | assumption)
       have q171 : x11_1 < (l0.length : Int) := of_decide_eq_true (by first | (with_reducible assumption) | assumption)
       obtain ⟨ad171, e171, hx171_0⟩ := Kd.at_int HR0.out x11_1 p171 q171
       cases e171
       replace hx171_0 := (HB.out.cell (World.block_lt_of_cell? w _ hx171_0)).trans hx171_0
       replace p171 := eq_true p171
       replace q171 := eq_true q171
       go_wp2_with (first | ((with_reducible refine gate_callee (f := 39) rfl ?_); refine goesL_ (some 17) rfl rfl Tryd.func39 (by kernel_rfl) rfl #[.int .i64 (rd l0 x11_1)] rfl (by (try simp only [List.map_toArray, List.map_cons, List.map_nil]); first | done | rfl | (simp only [List.length_drop, List.length_take]; rfl)) ?_; (with_reducible refine (strconv_Itoa.calls (rd l0 x11_1) t172 _ A8.out).mono ?_); rintro e w' ⟨rfl, ⟨nd, rfl⟩⟩; refine ⟨_, rfl, ?_⟩) | ((with_reducible refine gate_builtin (b := .append) (xs := #[.tmp 15, .tmp 18]) rfl ?_); at_builtin; refine Kd.R_append Kd.string (w0 := w) w.heap.size rfl (.tmp 15) (.tmp 18) 52 9 (.string ⟨#[]⟩) 16 rfl Tryd.underlying52 info9 rfl (by decide) (by omega) u5 x5_1 t172 [.string t172] (fun _ => True) (fun _ => False) rfl rfl ?aP (fun _ hk => hk.elim) ?aF ?aO ?aB ?aS ?aL ?_; (case aP => exact rfl); (case aB => exact (Lam.al)); (case aF => exact (fun _ _ => trivial)); (case aO => exact (Lam.rq HO_5.out)); (case aS => exact (below_size (Lam.al))); (case aL => have := LMc9.out; omega); intro v174 w10 ho hb hg hat; rw [← Ny173.out] at ho; have n0_ := Aside0.mk (hb); have n1_ := Aside0.mk (ho); clear HB; clear HO_5; have HB := n0_; have HO175 := n1_; clear n0_ n1_; clear ho hb hg hat))
       go_roundg k1
       case measure => have := HK1.out; omega
       case rel => exact ⟨(y173), (wrap64 (x11_1 + 1)), (by first | rfl | (simp; done) | (simp [*]; done)), H', ⟨by have := HK1.out; omega⟩, ⟨Lam.rq HO175.out⟩, ⟨Lam.al⟩⟩
      ·rw [if_neg c9] at H
       exact absurd H (by simp)
     ·rw [if_neg c7] at H
      exact absurd H (by simp)
    ·rw [if_neg c6] at H
     exact absurd H (by simp)
   ·rw [if_neg c5] at H
    have c5b0 : decide (x11_1 < (l0.length : Int)) = false := decide_eq_false c5
    clear c5
    replace H := Option.bind_eq_some_iff.mp H
    obtain ⟨t176, A110, H⟩ := H
    replace H : (some t176) = some r := H
    have A11 := Aside0.mk A110
    clear A110
    obtain rfl := Option.some.inj H
    obtain ⟨Ao12, co12, eo12⟩ := Kd.R_slice HO_5.out
    subst eo12
    go_wp2_with (first | ((with_reducible refine gate_callee (f := 40) rfl ?_); refine goesL_ (some 23) rfl rfl Tryd.func40 (by kernel_rfl) rfl #[.slice Ao12 x5_1.length co12, .string a1] rfl (by (try simp only [List.map_toArray, List.map_cons, List.map_nil]); first | done | rfl | (simp only [List.length_drop, List.length_take]; rfl)) ?_; (with_reducible refine (strings_Join.calls _ _ x5_1 a1 t176 _ ?side1 ?side2 A11.out).mono ?_); (case side1 => repeat (first | exact (Kd.R_reads' HO_5.out).2.2 | (with_reducible refine Kd.C_alloc ?_ _) | (with_reducible refine Kd.C_drewN ?_ _) | (with_reducible refine Kd.C_drew ?_))); (case side2 => exact (Kd.R_reads' HO_5.out).2.1); rintro e w13 ⟨rfl, hb⟩; refine ⟨_, rfl, ?_⟩; have n0_ := Aside0.mk (Kd.R_below (Lam.rq HO_5.out) hb); have n1_ := Aside0.mk (below_step (Lam.al) hb); clear HO_5; clear HB; have HO_5 := n0_; have HB := n1_; clear n0_ n1_; (try clear hb); (try clear hb2); (try clear hk); (try clear hi)))
    go_ret
    exact ⟨by first | rfl | (simp [errW_none, errW_some] <;> rfl) | (simp [*, errW_none, errW_some] <;> rfl), Lam.al⟩

/-! ### impl_puzzleText: function 23 -/
def impl_puzzleText.l0 : Nat → List ByteArray → List (S47) → Int → Int → Option (ByteArray)
 | 0, _, _, _, _ => none
 | k + 1, x3, x8, x9, x10 => if x10 < x9 then (if 0 ≤ x10 then (if x10 < (x8.length : Int) then ((impl_joined.f k (([(rd_T47 x8 x10).f0, (rd_T47 x8 x10).f1, (rd_T47 x8 x10).f2] : List Int)) (⟨#[46]⟩ : ByteArray)).bind fun t186 => (if x3.length < 8796093022208 then (impl_puzzleText.l0 k (x3 ++ [t186]) x8 x9 (wrap64 (x10 + 1))) else (none))) else (none)) else (none)) else ((strings_Join.f x3 (⟨#[44]⟩ : ByteArray)).bind fun t190 => (some t190))
def impl_puzzleText.f (k : Nat) (l0_0 : List (S47)) : Option (ByteArray) := impl_puzzleText.l0 k (([] : List ByteArray)) l0_0 (l0_0.length : Int) 0
theorem impl_puzzleText.mono_l : ∀ k, (∀ y0 y1 y2 y3, LeO (impl_puzzleText.l0 k y0 y1 y2 y3) (impl_puzzleText.l0 (k + 1) y0 y1 y2 y3))
 | 0 => fun _ _ _ _ r h => by simp [impl_puzzleText.l0] at h
 | k + 1 => by
  have ih0 := impl_puzzleText.mono_l k
  ·intro y0 y1 y2 y3
   unfold impl_puzzleText.l0
   repeat' first
   | (with_reducible exact ih0 _ _ _ _)
   | (with_reducible exact impl_joined.mono _ _ _)
   | (with_reducible exact LeO.refl _)
   | (with_reducible exact LeO.none _)
   | (with_reducible refine LeO.ite ?_ ?_)
   | (with_reducible refine LeO.bind ?_ (fun _ => ?_))
   | exact ih0 _ _ _ _
   | exact impl_joined.mono _ _ _
   | exact LeO.none _
   | refine LeO.ite ?_ ?_
   | refine LeO.bind ?_ (fun _ => ?_)
theorem impl_puzzleText.mono : ∀ a0 k, LeO (impl_puzzleText.f k a0) (impl_puzzleText.f (k + 1) a0) := by
 intro a0 k
 have ih0 := impl_puzzleText.mono_l k
 unfold impl_puzzleText.f
 repeat' first
   | (with_reducible exact ih0 _ _ _ _)
   | (with_reducible exact impl_joined.mono _ _ _)
   | (with_reducible exact LeO.refl _)
   | (with_reducible exact LeO.none _)
   | (with_reducible refine LeO.ite ?_ ?_)
   | (with_reducible refine LeO.bind ?_ (fun _ => ?_))
   | exact ih0 _ _ _ _
   | exact impl_joined.mono _ _ _
   | exact LeO.none _
   | refine LeO.ite ?_ ?_
   | refine LeO.bind ?_ (fun _ => ?_)
set_option maxHeartbeats 8000000 in
set_option maxRecDepth 100000 in
theorem impl_puzzleText.calls (k : Nat) (A0_0 : Option Addr) (c0_0 : Nat) (l0_0 : List (S47)) (r : ByteArray) (w : World) (hr0_0 : Kd.C k47 w A0_0 l0_0.length l0_0) (hc0_0 : l0_0.length ≤ c0_0) (h : impl_puzzleText.f k l0_0 = some r) :
  Calls Tryd.prog 23 #[.agg #[.slice A0_0 l0_0.length c0_0]] w fun e w' => e = .returned (.string r) ∧ Below w.heap.size w w' := by
 have hu30 := Tryd.underlying30
 have hu47 := Tryd.underlying47
 have HR0_0 := Aside0.mk hr0_0
 have HC0_0 := Aside0.mk hc0_0
 clear hr0_0 hc0_0
 have HB := Aside0.mk (Below.refl w.heap.size w)
 have H : (impl_puzzleText.l0 k (([] : List ByteArray)) l0_0 (l0_0.length : Int) 0) = some r := h
 clear h
 obtain ⟨y178, hy178⟩ : ∃ y_ : List ByteArray, y_ = (([] : List ByteArray)) := ⟨_, rfl⟩
 replace H : (impl_puzzleText.l0 k y178 l0_0 (l0_0.length : Int) 0) = some r := by first | (rw [hy178]; with_reducible exact H) | (have H2_ := (Option.bind_some _ _).symm.trans H; rw [hy178]; with_reducible exact H2_) | (have H2_ := (Option.bind_some _ _).symm.trans H; with_reducible exact H2_) | with_reducible exact H | (rw [hy178]; exact H) | exact H
 have Ny178 := Aside0.mk hy178
 clear hy178
 have H' := Aside0.mk H
 clear H
 go_enter Tryd.func23, Tryd.ntmps23
 go_wp2_with (first | ((with_reducible refine gate_dst (N := 1) rfl ?_); refine box_event ?hg (N := 1) ?hd (cs := #[.slice A0_0 l0_0.length c0_0]) (t := 30) ?hr ?_; (case hd => rfl); (case hg => rfl); (case hr => first | (go_simp; done) | (go_simp; rfl)); intro gb177 hg w2 hbox hb; have n0_ := Aside0.mk (below_step (Lam.al) hb); have n1_ := Aside0.mk (hbox); have n2_ := Aside0.mk ((by rw [hg]; exact (below_size (Lam.al)) : w.heap.size ≤ gb177)); have n3_ := Aside0.mk ((by rw [hg]; exact (below_size (Lam.al)) : w.heap.size ≤ gb177)); clear HB; have HB := n0_; have BK177 := n1_; have GW177 := n2_; have GE177 := n3_; clear n0_ n1_ n2_ n3_; clear hb hbox hg) | ((with_reducible refine gate_dst (N := 6) rfl ?_); refine Kd.R_lit Kd.string _ 9 ?hg (N := 6) ?hd (xs := ([] : List ByteArray)) (inner := []) (ok := fun _ => True) (okp := fun _ => True) ?hr ?hp (fun _ hk => hk) trivial (Below.refl _ _) (Nat.le_refl _) (by simp) ?_; (case hd => rfl); (case hg => rfl); (case hr => first | (go_simp; done) | (go_simp; rfl)); (case hp => exact (Reps.none _ _)); intro v179 w3 ho4 hb hg_ hnew_; clear hg_ hnew_; (first | rw [← Ny178.out] at ho4 | (simp only [Int.reduceToNat] at ho4; rw [← Ny178.out] at ho4)); have n0_ := Aside0.mk (Kd.R_lower ho4 (below_size (Lam.al))); have n1_ := Aside0.mk (blk_below (g := gb177) (o := .cells #[.slice A0_0 l0_0.length c0_0] 30 (0, 0)) (Lam.bq BK177.out) hb); have n2_ := Aside0.mk (below_step (Lam.al) hb); clear BK177; clear HB; have HO180 := n0_; have BK177 := n1_; have HB := n2_; clear n0_ n1_ n2_; clear hb ho4; have hcz5_0 : w3.cell? ⟨gb177, 0, none⟩ = some (.slice A0_0 l0_0.length c0_0) := (blk_cell BK177.out 0).trans rfl; have hfz5_0 := blk_frozen BK177.out 0))
 go_loopg [3, 10] k (fun kq v3 v10 w' => ∃ (x3_1 : List ByteArray) (x10_1 : Int), v10 = .int .i64 x10_1 ∧ Aside0 (impl_puzzleText.l0 kq x3_1 l0_0 (l0_0.length : Int) x10_1 = some r) ∧ Aside0 (kq ≤ k) ∧ Aside0 (Kd.R Kd.string 9 w' w.heap.size (fun _ => True) v3 x3_1) ∧ Aside0 (w'.heap[gb177]? = some (.cells #[(.slice A0_0 l0_0.length c0_0)] 30 (0, 0))) ∧ Aside0 (Below w.heap.size w w'))
 case atStart => exact ⟨(y178), (0), (by first | rfl | (simp; done) | (simp [*]; done)), H', ⟨Nat.le_refl _⟩, ⟨Lam.rq HO180.out⟩, ⟨Lam.bq BK177.out⟩, ⟨Lam.al⟩⟩
 case round =>
  clear H'
  try clear c2
  try clear p2
  try clear hcz5_0
  try clear hfz5_0
  obtain ⟨x3_1, x10_1, rfl, HA, HK1, HO_3, BK177, HB⟩ := hrel
  cases gk with
  | zero => exact absurd HA.out (by simp [impl_puzzleText.l0])
  | succ k1 =>
   have H := HA.out
   clear HA
   simp only [impl_puzzleText.l0] at H
   by_cases c6 : x10_1 < (l0_0.length : Int)
   ·rw [if_pos c6] at H
    have c6b0 : decide (x10_1 < (l0_0.length : Int)) = true := decide_eq_true c6
    clear c6
    by_cases c7 : 0 ≤ x10_1
    ·rw [if_pos c7] at H
     have c7b0 : decide (0 ≤ x10_1) = true := decide_eq_true c7
     clear c7
     by_cases c8 : x10_1 < (l0_0.length : Int)
     ·rw [if_pos c8] at H
      have c8b0 : decide (x10_1 < (l0_0.length : Int)) = true := decide_eq_true c8
      clear c8
      obtain ⟨y183, hy183⟩ : ∃ y_ : List Int, y_ = (([(rd_T47 l0_0 x10_1).f0, (rd_T47 l0_0 x10_1).f1, (rd_T47 l0_0 x10_1).f2] : List Int)) := ⟨_, rfl⟩
      replace H : ((impl_joined.f k1 y183 (⟨#[46]⟩ : ByteArray)).bind fun t186 => (if x3_1.length < 8796093022208 then (impl_puzzleText.l0 k1 (x3_1 ++ [t186]) l0_0 (l0_0.length : Int) (wrap64 (x10_1 + 1))) else (none))) = some r := by first | (rw [hy183]; with_reducible exact H) | (have H2_ := (Option.bind_some _ _).symm.trans H; rw [hy183]; with_reducible exact H2_) | (have H2_ := (Option.bind_some _ _).symm.trans H; with_reducible exact H2_) | with_reducible exact H | (rw [hy183]; exact H) | exact H
      have Ny183 := Aside0.mk hy183
      clear hy183
      replace H := Option.bind_eq_some_iff.mp H
      obtain ⟨t186, A90, H⟩ := H
      (try dsimp only at H)
      have A9 := Aside0.mk A90
      clear A90
      by_cases c10 : x3_1.length < 8796093022208
      ·rw [if_pos c10] at H
       have LMc10 := Aside0.mk c10
       clear c10
       obtain ⟨y187, hy187⟩ : ∃ y_ : List ByteArray, y_ = (x3_1 ++ [t186]) := ⟨_, rfl⟩
       replace H : (impl_puzzleText.l0 k1 y187 l0_0 (l0_0.length : Int) (wrap64 (x10_1 + 1))) = some r := by first | (rw [hy187]; with_reducible exact H) | (have H2_ := (Option.bind_some _ _).symm.trans H; rw [hy187]; with_reducible exact H2_) | (have H2_ := (Option.bind_some _ _).symm.trans H; with_reducible exact H2_) | with_reducible exact H | (rw [hy187]; exact H) | exact H
       have Ny187 := Aside0.mk hy187
       clear hy187
       have H' := Aside0.mk H
       clear H
       have p181 : 0 ≤ (x10_1 : Int) := of_decide_eq_true (by first | (with_reducible assumption) | assumption)
       have q181 : x10_1 < (l0_0.length : Int) := of_decide_eq_true (by first | (with_reducible assumption) | assumption)
       obtain ⟨ad181, e181, hx181_0, hx181_1, hx181_2⟩ := at_T47 HR0_0.out x10_1 p181 q181
       cases e181
       replace hx181_0 := (HB.out.cell (World.block_lt_of_cell? w _ hx181_0)).trans hx181_0
       replace hx181_1 := (HB.out.cell (World.block_lt_of_cell? w _ hx181_1)).trans hx181_1
       replace hx181_2 := (HB.out.cell (World.block_lt_of_cell? w _ hx181_2)).trans hx181_2
       replace p181 := eq_true p181
       replace q181 := eq_true q181
       go_wp2_with (first | ((with_reducible refine gate_dst (N := 5) rfl ?_); refine box_event ?hg (N := 5) ?hd (cs := #[.int .i64 0, .int .i64 0, .int .i64 0]) (t := 47) ?hr ?_; (case hd => rfl); (case hg => rfl); (case hr => first | (go_simp; done) | (go_simp; rfl)); intro gb182 hg w11 hbox hb; have n0_ := Aside0.mk (Kd.R_below (Lam.rq HO_3.out) hb); have n1_ := Aside0.mk (blk_below (g := gb177) (o := .cells #[.slice (some ad181) l0_0.length c0_0] 30 (0, 0)) (Lam.bq BK177.out) hb); have n2_ := Aside0.mk (below_step (Lam.al) hb); have n3_ := Aside0.mk (hbox); have n4_ := Aside0.mk ((by rw [hg]; exact (below_size (Lam.al)) : w.heap.size ≤ gb182)); have n5_ := Aside0.mk ((by rw [hg]; exact (below_size (Lam.al)) : w.heap.size ≤ gb182)); have n6_ := Aside0.mk ((by rw [hg]; exact Nat.ne_of_lt (blk_lt (g := gb177) (o := .cells #[.slice (some ad181) l0_0.length c0_0] 30 (0, 0)) (Lam.bq BK177.out)) : gb177 ≠ gb182)); have n7_ := Aside0.mk ((by rw [hg]; exact Nat.ne_of_gt (blk_lt (g := gb177) (o := .cells #[.slice (some ad181) l0_0.length c0_0] 30 (0, 0)) (Lam.bq BK177.out)) : gb182 ≠ gb177)); clear HO_3; clear BK177; clear HB; have HO_3 := n0_; have BK177 := n1_; have HB := n2_; have BK182 := n3_; have GW182 := n4_; have GE182 := n5_; have NB177_182 := n6_; have NB182_177 := n7_; clear n0_ n1_ n2_ n3_ n4_ n5_ n6_ n7_; clear hb hbox hg; have hnb12 := NB182_177.out; have hnc12 := NB177_182.out; have hcz13_0 : w11.cell? ⟨gb182, 0, none⟩ = some (.int .i64 0) := (blk_cell BK182.out 0).trans rfl; have hcz13_1 : w11.cell? ⟨gb182, 1, none⟩ = some (.int .i64 0) := (blk_cell BK182.out 1).trans rfl; have hcz13_2 : w11.cell? ⟨gb182, 2, none⟩ = some (.int .i64 0) := (blk_cell BK182.out 2).trans rfl; have hfz13_0 := blk_frozen BK182.out 0; have hfz13_1 := blk_frozen BK182.out 1; have hfz13_2 := blk_frozen BK182.out 2) | ((with_reducible refine gate_dst (N := 21) rfl ?_); refine Kd.R_lit (Kd.int .i64) _ 3 ?hg (N := 21) ?hd (xs := ([(rd_T47 l0_0 x10_1).f0, (rd_T47 l0_0 x10_1).f1, (rd_T47 l0_0 x10_1).f2] : List Int)) (inner := [.int .i64 ((rd_T47 l0_0 x10_1).f0), .int .i64 ((rd_T47 l0_0 x10_1).f1), .int .i64 ((rd_T47 l0_0 x10_1).f2)]) (ok := fun _ => True) (okp := fun _ => True) ?hr ?hp (fun _ hk => hk) trivial (Below.refl _ _) (Nat.le_refl _) (by simp) ?_; (case hd => rfl); (case hg => rfl); (case hr => first | (go_simp; done) | (go_simp; rfl)); (case hp => exact (Reps.one (show Kd.M (Kd.int .i64) _ _ _ ((rd_T47 l0_0 x10_1).f0) [.int .i64 ((rd_T47 l0_0 x10_1).f0)] from rfl) (Reps.one (show Kd.M (Kd.int .i64) _ _ _ ((rd_T47 l0_0 x10_1).f1) [.int .i64 ((rd_T47 l0_0 x10_1).f1)] from rfl) (Reps.one (show Kd.M (Kd.int .i64) _ _ _ ((rd_T47 l0_0 x10_1).f2) [.int .i64 ((rd_T47 l0_0 x10_1).f2)] from rfl) (Reps.none _ _))))); intro v184 w14 ho15 hb hg_ hnew_; clear hg_ hnew_; (first | rw [← Ny183.out] at ho15 | (simp only [Int.reduceToNat] at ho15; rw [← Ny183.out] at ho15)); have n0_ := Aside0.mk (Kd.R_below (by (with_reducible repeat (first | apply Kd.R_alloc | apply Kd.R_drewN | apply Kd.R_drew)); exact (Kd.R_mono (Kd.R_far (p := ⟨gb182, 2, none⟩) (Kd.R_far (p := ⟨gb182, 1, none⟩) (Kd.R_far (p := ⟨gb182, 0, none⟩) (Kd.R_types HO_3.out BK182.out (by decide)) (fun _ hk => hk.2) (.int .i64 ((rd_T47 l0_0 x10_1).f0))) (fun _ hk => hk.2) (.int .i64 ((rd_T47 l0_0 x10_1).f1))) (fun _ hk => hk.2) (.int .i64 ((rd_T47 l0_0 x10_1).f2))) (fun _ h_ => h_.1))) hb); have n1_ := Aside0.mk (Kd.R_lower ho15 (below_size (Lam.al))); have n2_ := Aside0.mk (blk_below (g := gb177) (o := .cells #[.slice (some ad181) l0_0.length c0_0] 30 (0, 0)) (by (with_reducible repeat (first | refine blk_drewN ?_ _ | refine blk_drew ?_ | refine blk_alloc ?_ _)); refine blk_far ?_ NB177_182.out _; (with_reducible repeat (first | refine blk_drewN ?_ _ | refine blk_drew ?_ | refine blk_alloc ?_ _)); refine blk_far ?_ NB177_182.out _; (with_reducible repeat (first | refine blk_drewN ?_ _ | refine blk_drew ?_ | refine blk_alloc ?_ _)); refine blk_far ?_ NB177_182.out _; (with_reducible repeat (first | refine blk_drewN ?_ _ | refine blk_drew ?_ | refine blk_alloc ?_ _)); exact BK177.out) hb); have n3_ := Aside0.mk (blk_below (g := gb182) (o := .cells #[.int .i64 ((rd_T47 l0_0 x10_1).f0), .int .i64 ((rd_T47 l0_0 x10_1).f1), .int .i64 ((rd_T47 l0_0 x10_1).f2)] 47 (0, 0)) (by (with_reducible repeat (first | refine blk_drewN ?_ _ | refine blk_drew ?_ | refine blk_alloc ?_ _)); refine blk_put (cs := #[.int .i64 ((rd_T47 l0_0 x10_1).f0), .int .i64 ((rd_T47 l0_0 x10_1).f1), .int .i64 0]) ?_ 2 _ rfl; (with_reducible repeat (first | refine blk_drewN ?_ _ | refine blk_drew ?_ | refine blk_alloc ?_ _)); refine blk_put (cs := #[.int .i64 ((rd_T47 l0_0 x10_1).f0), .int .i64 0, .int .i64 0]) ?_ 1 _ rfl; (with_reducible repeat (first | refine blk_drewN ?_ _ | refine blk_drew ?_ | refine blk_alloc ?_ _)); refine blk_put (cs := #[.int .i64 0, .int .i64 0, .int .i64 0]) ?_ 0 _ rfl; (with_reducible repeat (first | refine blk_drewN ?_ _ | refine blk_drew ?_ | refine blk_alloc ?_ _)); exact BK182.out) hb); have n4_ := Aside0.mk (below_step (Lam.al) hb); clear HO_3; clear BK177; clear BK182; clear HB; have HO_3 := n0_; have HO185 := n1_; have BK177 := n2_; have BK182 := n3_; have HB := n4_; clear n0_ n1_ n2_ n3_ n4_; clear hb ho15; obtain ⟨Ao16, co16, eo16⟩ := Kd.R_slice HO185.out; subst eo16) | ((with_reducible refine gate_callee (f := 46) rfl ?_); refine goesL_ (some 22) rfl rfl Tryd.func46 (by kernel_rfl) rfl #[.slice Ao16 y183.length co16, .string (⟨#[46]⟩ : ByteArray)] rfl (by (try simp only [List.map_toArray, List.map_cons, List.map_nil]); first | done | rfl | (simp only [List.length_drop, List.length_take]; rfl)) ?_; (with_reducible refine (impl_joined.calls k1 _ _ y183 (⟨#[46]⟩ : ByteArray) t186 _ ?side1 ?side2 A9.out).mono ?_); (case side1 => repeat (first | exact (Kd.R_reads' HO185.out).2.2 | (with_reducible refine Kd.C_alloc ?_ _) | (with_reducible refine Kd.C_drewN ?_ _) | (with_reducible refine Kd.C_drew ?_))); (case side2 => exact (Kd.R_reads' HO185.out).2.1); rintro e w17 ⟨rfl, hb⟩; refine ⟨_, rfl, ?_⟩; have n0_ := Aside0.mk (Kd.R_below (Lam.rq HO_3.out) hb); have n1_ := Aside0.mk (Kd.R_below (Lam.rq HO185.out) hb); have n2_ := Aside0.mk (blk_below (g := gb177) (o := .cells #[.slice (some ad181) l0_0.length c0_0] 30 (0, 0)) (Lam.bq BK177.out) hb); have n3_ := Aside0.mk (blk_below (g := gb182) (o := .cells #[.int .i64 ((rd_T47 l0_0 x10_1).f0), .int .i64 ((rd_T47 l0_0 x10_1).f1), .int .i64 ((rd_T47 l0_0 x10_1).f2)] 47 (0, 0)) (Lam.bq BK182.out) hb); have n4_ := Aside0.mk (below_step (Lam.al) hb); clear HO_3; clear HO185; clear BK177; clear BK182; clear HB; have HO_3 := n0_; have HO185 := n1_; have BK177 := n2_; have BK182 := n3_; have HB := n4_; clear n0_ n1_ n2_ n3_ n4_; (try clear hb); (try clear hb2); (try clear hk); (try clear hi)) | ((with_reducible refine gate_builtin (b := .append) (xs := #[.tmp 14, .tmp 23]) rfl ?_); at_builtin; refine Kd.R_append Kd.string (w0 := w) w.heap.size rfl (.tmp 14) (.tmp 23) 52 9 (.string ⟨#[]⟩) 16 rfl Tryd.underlying52 info9 rfl (by decide) (by omega) u3 x3_1 t186 [.string t186] (fun _ => True) (fun _ => False) rfl rfl ?aP (fun _ hk => hk.elim) ?aF ?aO ?aB ?aS ?aL ?_; (case aP => exact rfl); (case aB => exact (Lam.al)); (case aF => exact (fun _ _ => trivial)); (case aO => exact (Lam.rq HO_3.out)); (case aS => exact (below_size (Lam.al))); (case aL => have := LMc10.out; omega); intro v188 w18 ho hb hg hat; rw [← Ny187.out] at ho; have n0_ := Aside0.mk (blk_grown (g := gb177) (o := .cells #[.slice (some ad181) l0_0.length c0_0] 30 (0, 0)) (Lam.bq BK177.out) hg (Kd.R_ne HO_3.out BK177.out (by decide))); have n1_ := Aside0.mk (blk_grown (g := gb182) (o := .cells #[.int .i64 ((rd_T47 l0_0 x10_1).f0), .int .i64 ((rd_T47 l0_0 x10_1).f1), .int .i64 ((rd_T47 l0_0 x10_1).f2)] 47 (0, 0)) (Lam.bq BK182.out) hg (Kd.R_ne HO_3.out BK182.out (by decide))); have n2_ := Aside0.mk (Kd.R_over' (Lam.rq HO185.out) (Kd.R_typed (Lam.rq HO_3.out)) (by decide) hg); have n3_ := Aside0.mk (hb); have n4_ := Aside0.mk (ho); clear BK177; clear BK182; clear HO185; clear HB; clear HO_3; have BK177 := n0_; have BK182 := n1_; have HO185 := n2_; have HB := n3_; have HO189 := n4_; clear n0_ n1_ n2_ n3_ n4_; clear ho hb hg hat))
       go_roundg k1
       case measure => have := HK1.out; omega
       case rel => exact ⟨(y187), (wrap64 (x10_1 + 1)), (by first | rfl | (simp; done) | (simp [*]; done)), H', ⟨by have := HK1.out; omega⟩, ⟨Lam.rq HO189.out⟩, ⟨Lam.bq BK177.out⟩, ⟨Lam.al⟩⟩
      ·rw [if_neg c10] at H
       exact absurd H (by simp)
     ·rw [if_neg c8] at H
      exact absurd H (by simp)
    ·rw [if_neg c7] at H
     exact absurd H (by simp)
   ·rw [if_neg c6] at H
    have c6b0 : decide (x10_1 < (l0_0.length : Int)) = false := decide_eq_false c6
    clear c6
    replace H := Option.bind_eq_some_iff.mp H
    obtain ⟨t190, A190, H⟩ := H
    replace H : (some t190) = some r := H
    have A19 := Aside0.mk A190
    clear A190
    obtain rfl := Option.some.inj H
    obtain ⟨Ao20, co20, eo20⟩ := Kd.R_slice HO_3.out
    subst eo20
    go_wp2_with (first | ((with_reducible refine gate_callee (f := 40) rfl ?_); refine goesL_ (some 27) rfl rfl Tryd.func40 (by kernel_rfl) rfl #[.slice Ao20 x3_1.length co20, .string (⟨#[44]⟩ : ByteArray)] rfl (by (try simp only [List.map_toArray, List.map_cons, List.map_nil]); first | done | rfl | (simp only [List.length_drop, List.length_take]; rfl)) ?_; (with_reducible refine (strings_Join.calls _ _ x3_1 (⟨#[44]⟩ : ByteArray) t190 _ ?side1 ?side2 A19.out).mono ?_); (case side1 => repeat (first | exact (Kd.R_reads' HO_3.out).2.2 | (with_reducible refine Kd.C_alloc ?_ _) | (with_reducible refine Kd.C_drewN ?_ _) | (with_reducible refine Kd.C_drew ?_))); (case side2 => exact (Kd.R_reads' HO_3.out).2.1); rintro e w21 ⟨rfl, hb⟩; refine ⟨_, rfl, ?_⟩; have n0_ := Aside0.mk (Kd.R_below (Lam.rq HO_3.out) hb); have n1_ := Aside0.mk (blk_below (g := gb177) (o := .cells #[.slice A0_0 l0_0.length c0_0] 30 (0, 0)) (Lam.bq BK177.out) hb); have n2_ := Aside0.mk (below_step (Lam.al) hb); clear HO_3; clear BK177; clear HB; have HO_3 := n0_; have BK177 := n1_; have HB := n2_; clear n0_ n1_ n2_; (try clear hb); (try clear hb2); (try clear hk); (try clear hi)))
    go_ret
    exact ⟨by first | rfl | (simp [errW_none, errW_some] <;> rfl) | (simp [*, errW_none, errW_some] <;> rfl), Lam.al⟩

/-! ### impl_ParsePuzzle: function 11 -/
section
attribute [local go_sem] Oper.semAt_some
def impl_ParsePuzzle.ck.Kp2 (n B : Nat) (W W' : World) : Prop := ∀ k, (k < n ∨ k = B ∨ k = B + 1) → W'.heap[k]? = W.heap[k]?
theorem impl_ParsePuzzle.ck.Kp2.cell {n B : Nat} {W W' : World} (h : impl_ParsePuzzle.ck.Kp2 n B W W') {a : Addr} (ha : a.block < n ∨ a.block = B ∨ a.block = B + 1) : W'.cell? a = W.cell? a := by
 have h2 := h _ ha
 unfold World.cell?
 rw [h2]
/-- The piece of round k: q elements from place q * k on. -/
abbrev impl_ParsePuzzle.ck.encs (q : Nat) (ad : Addr) {m : Nat} (x : Fin m) : Array Value := #[.slice (some (ad.add (q * x.val))) q q]
set_option maxRecDepth 100000 in
set_option maxHeartbeats 4000000 in
theorem impl_ParsePuzzle.ck.ck1_in (F : Fence) (n : Nat) (h34 : F.fn 34) (hro : F.round = none) (hn : 1 ≤ n) (l Bs n₀ q m len cap : Nat) (A : Option Addr) (ad : Addr) (hA : 0 < m → A = some ad) (hq : 1 ≤ q) (hlen0 : q * m = len) (hcap : len ≤ cap) (hreach : (cap : Int) ≤ 9223372036854775807) (hq2 : (q : Int) ≤ 4611686018427387904) (J Jx : List (Fin m) → World → Prop)
  (hY : ∀ pre x W, J pre W → pre.length < m → YieldAt F (n - 1) Tryd.prog l (impl_ParsePuzzle.ck.encs q ad x) W fun e W' =>
   (e = .returned (.bool true) ∧ J (pre ++ [x]) W' ∧ impl_ParsePuzzle.ck.Kp2 n₀ Bs W W') ∨ (e = .returned (.bool false) ∧ Jx (pre ++ [x]) W'))
  (hD : ∀ pre W, J pre W → J pre W.drew) (W : World) (hBs : W.cell? ⟨Bs, 0, none⟩ = some (.slice A len cap)) (hBn : W.cell? ⟨Bs + 1, 0, none⟩ = some (.int .i64 q)) (h0 : J [] W) :
  CallsIn F n Tryd.prog 34 #[.func (.yield l) #[] #[], .pointer (some ⟨Bs, 0, none⟩), .pointer (some ⟨Bs + 1, 0, none⟩)] W fun e W' => (∃ v, e = .returned v) ∧
   ((∃ ys, ys = Rf.upto m m ∧ J ys W') ∨ (∃ pre, (∃ k, k ≤ m ∧ pre = Rf.upto m k) ∧ Jx pre W')) := by
 refine callsIn_of_wp Tryd.func34 rfl h34 ?_ hro
 simp only [Tryd.ntmps34, List.size_toArray, List.length_cons, List.length_nil, Nat.reduceAdd, Nat.reduceSub, Array.replicate_succ, Array.replicate_zero, List.push_toArray, List.append_toArray, List.nil_append, List.cons_append]
 have hlen := Aside0.mk hlen0
 clear hlen0
 gi_wp2
 gi_loopw [4] (fun i wr => ∃ k : Nat, k ≤ m ∧ i = .int .i64 ((q * k : Nat) : Int) ∧ J (Rf.upto m k) wr ∧ impl_ParsePuzzle.ck.Kp2 n₀ Bs W wr)
  (fun i _ => ((len : Int) - intOf i).toNat)
 case atStart => exact ⟨0, Nat.zero_le _, by simp, h0, fun _ _ => rfl⟩
 case round =>
  obtain ⟨k, hk, rfl, hJs, hnx⟩ := hrel
  have hBs' := (hnx.cell (a := ⟨Bs, 0, none⟩) (.inr (.inl rfl))).trans hBs
  have hBn' := (hnx.cell (a := ⟨Bs + 1, 0, none⟩) (.inr (.inr rfl))).trans hBn
  obtain ⟨i, hi⟩ : ∃ i, q * k = i := ⟨_, rfl⟩
  by_cases hlt : k < m
  ·obtain rfl := hA (by omega)
   have hmul : i + q ≤ len := by rw [← hlen.out, ← hi, ← Nat.mul_succ]; exact Nat.mul_le_mul_left q hlt
   have HI := Aside0.mk hi
   rw [hi]
   clear hi
   have hlt2 : decide ((i : Int) < (len : Int)) = true := decide_eq_true (by omega)
   have b0 : (0 : Int) ≤ (i : Int) := by omega
   have b1 : (i : Int) ≤ (len : Int) := by omega
   have b2 : (i : Int) ≤ (cap : Int) := by omega
   have b3 : ¬ (len - i < q) := by omega
   have b4 : ¬ (cap = i) := by omega
   have b5 : i ≤ len := by omega
   have b6 : ((i : Int) + (q : Int)) ≤ (cap : Int) := by omega
   have b7 : (i : Int) ≤ (i : Int) + (q : Int) := by omega
   have b8 : (0 : Int) ≤ (i : Int) + (q : Int) := by omega
   have hBs2 : wr.drew.cell? ⟨Bs, 0, none⟩ = some (.slice (some ad) len cap) := hBs'
   obtain ⟨fn, tmps, assign, body, hy, hR⟩ := hY _ ⟨k, hlt⟩ wr.drew (hD _ _ hJs) (by rw [Rf.upto_length hk]; exact hlt)
   have HK := Aside0.mk (show impl_ParsePuzzle.ck.Kp2 n₀ Bs wr wr.drew from fun _ _ => rfl)
   dsimp only [impl_ParsePuzzle.ck.encs] at hy
   rw [HI.out] at hy
   have HR := Aside0.mk hR
   gi_wp2
   gi_region
   all_goals
    gi_wp2
    refine HR.out.mono ?_
    rintro e W3 (⟨rfl, hJ3, hk3⟩ | ⟨rfl, hJx3⟩)
    ·have hBn3 := (hk3.cell (a := ⟨Bs + 1, 0, none⟩) (.inr (.inr rfl))).trans ((HK.out.cell (a := ⟨Bs + 1, 0, none⟩) (.inr (.inr rfl))).trans hBn')
     gi_wp2
     go_roundw
     case rel => exact ⟨k + 1, by omega, by rw [Nat.mul_succ, HI.out, Int.natCast_add], by rw [Rf.upto_succ hlt]; exact hJ3, fun q hq => (hk3 q hq).trans ((HK.out q hq).trans (hnx q hq))⟩
     case measure => simp [intOf]; omega
    ·gi_wp2
     refine bodyPost_ret (results_none rfl _ _ _) rfl ?_
     exact ⟨⟨_, rfl⟩, .inr ⟨_, ⟨k + 1, by omega, (Rf.upto_succ hlt).symm⟩, hJx3⟩⟩
  ·obtain rfl : k = m := by omega
   rw [hlen.out] at hi
   subst hi
   rw [hlen.out]
   have hlt2 : decide ((len : Int) < (len : Int)) = false := decide_eq_false (by omega)
   gi_wp2
   go_end0
   exact ⟨⟨_, rfl⟩, .inl ⟨_, rfl, hJs⟩⟩
set_option maxHeartbeats 2000000 in
theorem impl_ParsePuzzle.ck.chunk_in (F : Fence) (n : Nat) (h17 : F.fn 17) (hro : F.round = none) (ad : Option Addr) (len cap q : Nat) (hq : 1 ≤ q) (w : World) :
  CallsIn F n Tryd.prog 17 #[.slice ad len cap, .int .i64 (q : Int)] w fun e w' => e = .returned (.func (.func 34) #[] #[.pointer (some ⟨w.heap.size, 0, none⟩), .pointer (some ⟨w.heap.size + 1, 0, none⟩)]) ∧ w' = (w.alloc (.cells #[.slice ad len cap] 35)).alloc (.cells #[.int .i64 (q : Int)] 3) := by
 have hq1 : ¬ ((q : Int) < 1) := by omega
 refine callsIn_of_wp Tryd.func17 rfl h17 ?_ hro
 simp only [Tryd.ntmps17, List.size_toArray, List.length_cons, List.length_nil, Nat.reduceAdd, Nat.reduceSub, Array.replicate_succ, Array.replicate_zero, List.push_toArray, List.append_toArray, List.nil_append, List.cons_append]
 gi_wp2
 go_ret
 exact ⟨rfl, rfl⟩
theorem impl_ParsePuzzle.ck.stops (F : Fence) (n : Nat) (h34 : F.fn 34) (hro : F.round = none) (hn : 1 ≤ n) (Bs n₀ q m len cap : Nat) (A : Option Addr) (ad : Addr) (hA : 0 < m → A = some ad) (hq : 1 ≤ q) (hlen : q * m = len) (hcap : len ≤ cap) (hreach : (cap : Int) ≤ 9223372036854775807) (hq2 : (q : Int) ≤ 4611686018427387904)
  (w : World) (hBw : Bs + 1 < w.heap.size) (hnw : n₀ ≤ w.heap.size) (hBs : w.cell? ⟨Bs, 0, none⟩ = some (.slice A len cap)) (hBn : w.cell? ⟨Bs + 1, 0, none⟩ = some (.int .i64 q)) :
  SeqStopsK F n Tryd.prog 34 #[.pointer (some ⟨Bs, 0, none⟩), .pointer (some ⟨Bs + 1, 0, none⟩)] (impl_ParsePuzzle.ck.encs q ad (m := m)) (impl_ParsePuzzle.ck.Kp2 n₀ Bs) (fun ys => ys = Rf.upto m m) (fun pre => ∃ k, k ≤ m ∧ pre = Rf.upto m k) m w := fun l J Jx W hW hJ _ hY h0 => by
 have hwW : impl_ParsePuzzle.ck.Kp2 n₀ Bs w W := fun k hk => hW.block k (by rcases hk with h | h | h <;> omega)
 exact impl_ParsePuzzle.ck.ck1_in F n h34 hro hn l Bs n₀ q m len cap A ad hA hq hlen hcap hreach hq2 J Jx hY (fun pre W1 h1 => hJ pre W1 W1.drew none h1 ⟨rfl, rfl, rfl, Nat.le_refl _, fun _ _ _ => rfl⟩ (fun r h => by cases h)) W ((hwW.cell (a := ⟨Bs, 0, none⟩) (.inr (.inl rfl))).trans hBs) ((hwW.cell (a := ⟨Bs + 1, 0, none⟩) (.inr (.inr rfl))).trans hBn) h0
end
def impl_ParsePuzzle.pairs : List Int → List S47
 | a :: b :: c :: l => ⟨a, b, c⟩ :: impl_ParsePuzzle.pairs l
 | _ => []
def impl_ParsePuzzle.f (k : Nat) (a0 : ByteArray) : Option ((List (S47)) × Bool) := (impl_numbers.f a0 ⟨#[46, 44]⟩ 20).bind fun t => if 4294967296 < t.1.length then none else if t.2 = true ∧ t.1.length % 3 = 0 then (impl_IsPuzzle.f (impl_ParsePuzzle.pairs t.1)).bind fun u => if u = true then (impl_puzzleText.f k (impl_ParsePuzzle.pairs t.1)).bind fun x => if x = a0 then some (impl_ParsePuzzle.pairs t.1, true) else some ([], false) else some ([], false) else some ([], false)
theorem impl_ParsePuzzle.mono (k : Nat) (s : ByteArray) : LeO (impl_ParsePuzzle.f k s) (impl_ParsePuzzle.f (k + 1) s) := by
 unfold impl_ParsePuzzle.f
 refine LeO.bind (LeO.refl _) (fun t => ?_)
 split
 ·exact LeO.refl _
 ·split
  ·refine LeO.bind (LeO.refl _) (fun u => ?_)
   split
   ·exact LeO.bind (impl_puzzleText.mono _ _) (fun _ => LeO.refl _)
   ·exact LeO.refl _
  ·exact LeO.refl _
section
attribute [local go_sem] Oper.semAt_some
theorem impl_ParsePuzzle.toList_inj {a b : ByteArray} (h : a.toList = b.toList) : a = b := by
 rw [Lib.toList_data, Lib.toList_data] at h
 obtain ⟨⟨x⟩⟩ := a
 obtain ⟨⟨y⟩⟩ := b
 simp only at h
 rw [h]
theorem impl_ParsePuzzle.cap_le {α : Type} {d : Kd α} {e base n c : Nat} {ok : Nat → Prop} {W : World} {A : Option Addr} {xs : List α} (h : d.R e W base ok (.slice A n c) xs) : c ≤ maxLen := by
 obtain ⟨inner, ho⟩ := Kd.R_own h
 rcases ho.2 with ⟨hv, _⟩ | ⟨g, cap, cur, hv, hb, hh, h1, hcm, _⟩
 ·injection hv with _ _ hc
  subst hc; exact Nat.zero_le _
 ·injection hv with _ _ hc
  subst hc; exact hcm
def impl_ParsePuzzle.Inv (w1 : World) (zs : List Int) (m c1 : Nat) (A1 : Option Addr) (pre : List (Fin m)) (W : World) : Prop :=
 (∃ v out, Boxed W w1.heap.size 30 v ∧ Kd.R k47 47 W w1.heap.size (fun _ => True) v out ∧ out.length = pre.length ∧ (pre = Rf.upto m pre.length → out = impl_ParsePuzzle.pairs (zs.take (3 * pre.length)))) ∧ Boxed W (w1.heap.size + 1) 35 (.slice A1 zs.length c1) ∧ Boxed W (w1.heap.size + 1 + 1) 3 (.int .i64 3) ∧ Below w1.heap.size w1 W
theorem impl_ParsePuzzle.pairs_take : ∀ (zs : List Int) (n : Nat), 3 * n + 3 ≤ zs.length → impl_ParsePuzzle.pairs (zs.take (3 * (n + 1))) = impl_ParsePuzzle.pairs (zs.take (3 * n)) ++ [⟨zs.getD (3 * n) 0, zs.getD (3 * n + 1) 0, zs.getD (3 * n + 2) 0⟩]
 | [], _, h => by simp at h
 | [_], _, h => by simp at h
 | [_, _], _, h => by simp at h
 | a :: b :: c :: l, 0, _ => by simp [impl_ParsePuzzle.pairs]
 | a :: b :: c :: l, n + 1, h => by
  have := impl_ParsePuzzle.pairs_take l n (by simp at h; omega)
  rw [show 3 * (n + 1 + 1) = 3 * (n + 1) + 1 + 1 + 1 by omega, show 3 * (n + 1) = 3 * n + 1 + 1 + 1 by omega, List.take_succ_cons, List.take_succ_cons, List.take_succ_cons, List.take_succ_cons, List.take_succ_cons, List.take_succ_cons, impl_ParsePuzzle.pairs, impl_ParsePuzzle.pairs, show 3 * n + 1 + 1 + 1 = 3 * (n + 1) by omega, this]
  simp [show 3 * (n + 1) = 3 * n + 1 + 1 + 1 by omega]
theorem impl_ParsePuzzle.r_own {α : Type} {d : Kd α} {e base : Nat} {v : Value} {A B : World} {row : Option Nat} {xs : List α} (h : d.R e A base (fun _ => True) v xs) (hg : A.grownBy B row) (hr : ∀ r, row = some r → ∃ o : Obj, A.heap[r]? = some o ∧ o.isCells = false) : d.R e B base (fun _ => True) v xs :=
 Kd.R_mono (Kd.R_move (Kd.R_bound h) (fun k hk => by
  obtain ⟨_, _, hlt, q, _, cs, hc⟩ := hk
  refine hg.block k hlt (fun e => ?_)
  obtain ⟨o, ho, hn⟩ := hr k e.symm
  rw [hc] at ho
  cases ho
  cases hn)) (fun _ _ => trivial)
theorem impl_ParsePuzzle.inv_own {w1 : World} {zs : List Int} {m c1 : Nat} {A1 : Option Addr} {pre : List (Fin m)} {A B : World} {row : Option Nat} (hs : impl_ParsePuzzle.Inv w1 zs m c1 A1 pre A) (hg : A.grownBy B row) (hr : ∀ r, row = some r → w1.heap.size ≤ r ∧ ∃ o : Obj, A.heap[r]? = some o ∧ o.isCells = false) : impl_ParsePuzzle.Inv w1 zs m c1 A1 pre B := by
 obtain ⟨⟨v, out, h1, h2, h3, h4⟩, h5, h6, h7⟩ := hs
 have hr2 : ∀ r, row = some r → ∃ o : Obj, A.heap[r]? = some o ∧ o.isCells = false := fun r e => (hr r e).2
 exact ⟨⟨v, out, Rf.bk h1 hg hr2, impl_ParsePuzzle.r_own h2 hg hr2, h3, h4⟩, Rf.bk h5 hg hr2, Rf.bk h6 hg hr2, h7.grown hg h7.size (fun k e => (hr k e).1)⟩
set_option maxRecDepth 100000 in
set_option maxHeartbeats 4000000 in
theorem impl_ParsePuzzle.calls0 (k : Nat) (s : ByteArray) (r1 : List S47) (r2 : Bool) (w : World) (henv : Env.Is w) (h : impl_ParsePuzzle.f k s = some (r1, r2)) :
  Calls Tryd.prog 11 #[.string s] w fun e w' => ∃ v0_ : Value, e = .returned (.tuple #[.agg #[v0_], .bool r2]) ∧ Kd.R k47 47 w' w.heap.size (fun _ => True) v0_ r1 ∧ Below w.heap.size w w' := by
 unfold impl_ParsePuzzle.f at h
 have hx := Option.bind_eq_some_iff.1 h
 clear h
 obtain ⟨⟨zs, ok⟩, hn, h⟩ := hx
 dsimp only at h
 have HE := Aside0.mk henv
 have HN := Aside0.mk (impl_numbers.calls s ⟨#[46, 44]⟩ 20 zs ok (w.alloc (.cells #[.slice none 0 0] 30)) (henv.below (below_alloc (Below.refl _ _) _)) hn)
 clear hn henv
 by_cases hL : 4294967296 < zs.length
 ·rw [if_pos hL] at h
  cases h
 rw [if_neg hL] at h
 by_cases hgd : ok = true ∧ zs.length % 3 = 0
 ·rw [if_pos hgd] at h
  obtain ⟨hok, hev⟩ := hgd
  subst hok
  obtain ⟨m, hm⟩ : ∃ m, 3 * m = zs.length := ⟨zs.length / 3, by omega⟩
  have hev2 : (Int.tmod (zs.length : Int) 3 != 0) = false := by rw [← hm]; simp
  have H := Aside0.mk h
  clear h hev
  refine (callsIn_wide (n := 3)).1 ?_
  refine callsIn_of_wp_marks Tryd.func11 rfl trivial ?_ rfl
  simp only [Tryd.ntmps11, List.size_toArray, List.length_cons, List.length_nil, Nat.reduceAdd, Nat.reduceSub, Array.replicate_succ, Array.replicate_zero, List.push_toArray, List.append_toArray, List.nil_append, List.cons_append]
  gi_wp2_with (refine ⟨trivial, ?_⟩; gi_at_call 16; refine (callsIn_wide.2 HN.out).mono ?_; rintro e w1 ⟨v1, rfl, ho, hb⟩; obtain ⟨A1, c1, e1⟩ := Kd.R_slice ho; subst e1; have HL := Aside0.mk (Kd.R_lower (base' := w.heap.size) ho (by simp)); have HX := Aside0.mk (Rf.boxed_below (Boxed.new w 30 (.slice none 0 0)) hb); have HB1 := Aside0.mk ((below_alloc (Below.refl w.heap.size w) (.cells #[.slice none 0 0] 30)).trans (hb.mono (by simp))); have HXl := Aside0.mk (Nat.lt_of_lt_of_le (show w.heap.size < (w.alloc (.cells #[.slice none 0 0] 30)).heap.size by simp) hb.size); clear ho hb HN)
  gi_wp2_with (refine ⟨trivial, ?_⟩; gi_at_call 17; refine (impl_ParsePuzzle.ck.chunk_in _ _ trivial rfl _ _ _ 3 (by omega) _).mono ?_; rintro e w' ⟨rfl, rfl⟩)
  have hG := Boxed.new w1 30 (.slice none 0 0)
  have hS := Boxed.new (w1.alloc (.cells #[.slice none 0 0] 30)) 35 (.slice A1 zs.length c1)
  have hN := Boxed.new ((w1.alloc (.cells #[.slice none 0 0] 30)).alloc (.cells #[.slice A1 zs.length c1] 35)) 3 (.int .i64 3)
  have hG2 := (hG.alloc (.cells #[.slice A1 zs.length c1] 35)).alloc (.cells #[.int .i64 3] 3)
  have hS2 := hS.alloc (.cells #[.int .i64 3] 3)
  have hR2 := Kd.R_nil k47 47 (((w1.alloc (.cells #[.slice none 0 0] 30)).alloc (.cells #[.slice A1 zs.length c1] 35)).alloc (.cells #[.int .i64 3] 3)) w1.heap.size (fun _ => True)
  have hO2 := below_alloc (below_alloc (below_alloc (Below.refl w1.heap.size w1) (.cells #[.slice none 0 0] 30)) (.cells #[.slice A1 zs.length c1] 35)) (.cells #[.int .i64 3] 3)
  simp only [World.size_alloc] at hG2 hS2 hN
  have hsz : (((w1.alloc (.cells #[.slice none 0 0] 30)).alloc (.cells #[.slice A1 zs.length c1] 35)).alloc (.cells #[.int .i64 3] 3)).heap.size = w1.heap.size + 1 + 1 + 1 := by simp only [World.size_alloc]
  have HB1s := Aside0.mk HB1.out.size
  clear hG hS
  generalize (((w1.alloc (.cells #[.slice none 0 0] 30)).alloc (.cells #[.slice A1 zs.length c1] 35)).alloc (.cells #[.int .i64 3] 3)) = wl at hG2 hS2 hN hR2 hO2 hsz ⊢
  obtain ⟨ad, had⟩ : ∃ ad, 0 < m → A1 = some ad := by
   by_cases hm0 : 0 < m
   ·obtain ⟨ad, e, _⟩ := Kd.at_int (Kd.R_reads' HL.out).2.2 0 (by omega) (by omega)
    exact ⟨ad, fun _ => e⟩
   ·exact ⟨⟨0, 0, none⟩, fun h => absurd h hm0⟩
  have hcc := (Kd.R_reads' HL.out).2.1
  have hcap : (c1 : Int) ≤ 9223372036854775807 := by
   have := impl_ParsePuzzle.cap_le HL.out
   unfold maxLen at this
   omega
  have hsz0 := HB1s.out
  refine wpIn_rangeFunc_ownG rfl (by omega) (gf := 34) (lb := #[.pointer (some ⟨w1.heap.size + 1, 0, none⟩), .pointer (some ⟨w1.heap.size + 1 + 1, 0, none⟩)]) rfl trivial (enters_of Tryd.func34 (by kernel_rfl) rfl)
   (impl_ParsePuzzle.ck.stops Fence.wide _ trivial rfl (by omega) (w1.heap.size + 1) w1.heap.size 3 m zs.length c1 A1 ad had (by omega) hm hcc hcap (by omega) wl (by omega) (by omega) hS2.cell hN.cell)
   (fun h k q hq => (k q hq).trans (h q hq)) (fun W l o o' hl h _ _ q hq => World.putObj_heap_other (by rcases hq with hq | hq | hq <;> omega)) (Below.refl _ _) (fun _ => rfl)
   (fun pre W => impl_ParsePuzzle.Inv w1 zs m c1 A1 pre W)
   (fun c pre W => False)
   (fun s A B row hs hg hr => impl_ParsePuzzle.inv_own hs hg (fun r e => ⟨by have := (hr r e).1; omega, (hr r e).2⟩))
   (fun c s A B row hs hg hr => hs.elim)
   ⟨⟨_, [], hG2, hR2, rfl, fun _ => rfl⟩, hS2, hN, hO2⟩
   (fun x => { tmps := #[.string s, undef, .pointer (some ⟨w.heap.size, 0, none⟩), .bool false, .slice A1 zs.length c1, .bool true, .pointer (some ⟨w1.heap.size, 0, none⟩), .slice (some (ad.add (3 * x.val))) 3 3, .tuple #[.slice A1 zs.length c1, .bool true], .string s, .tuple #[.slice A1 zs.length c1, .bool true], .slice A1 zs.length c1, .bool true, .bool true, .bool false, .bool false, .slice A1 zs.length c1, .int .i64 (zs.length : Int), .int .i64 ((zs.length : Int) % 3), .bool false, .bool false, undef, .agg #[.slice none 0 0], .slice A1 zs.length c1, .func (.func 34) #[] #[.pointer (some ⟨w1.heap.size + 1, 0, none⟩), .pointer (some ⟨w1.heap.size + 1 + 1, 0, none⟩)], .slice (some (ad.add (3 * x.val))) 3 3, undef, undef, undef, undef, undef, undef, undef, undef, undef, undef, undef, undef, undef, undef, undef, undef, undef, undef, undef, undef, undef, undef, undef, undef, undef, undef], defers := [] }) ?assign ?body ?done ?stop
  case assign =>
   intro l x W K hK
   gi_wp2
   exact hK
  case body =>
   rintro l pre x W ⟨⟨v, out, hbG, hRo, hlo, heq⟩, hbS, hbN, hB⟩ hlen
   obtain ⟨x, hx⟩ := x
   have hA1 := had (by omega)
   subst hA1
   obtain ⟨_, e0, hx0⟩ := Kd.at_int (Kd.R_reads' HL.out).2.2 (3 * x : Nat) (by omega) (by omega)
   obtain ⟨_, e1, hx1⟩ := Kd.at_int (Kd.R_reads' HL.out).2.2 (3 * x + 1 : Nat) (by omega) (by omega)
   obtain ⟨_, e2, hx2⟩ := Kd.at_int (Kd.R_reads' HL.out).2.2 (3 * x + 2 : Nat) (by omega) (by omega)
   cases e0
   cases e1
   cases e2
   clear hG2 hN hR2 hO2 hS2 had H HE hev2
   have hlt : ad.block < w1.heap.size := Kd.R_lt HL.out ad.block rfl
   rw [Int.toNat_natCast] at hx0 hx1 hx2
   rw [add_field _ _ 1 (by omega)] at hx1
   rw [add_field _ _ 2 (by omega)] at hx2
   generalize hz0 : rd zs ((3 * x : Nat) : Int) = z0 at hx0
   generalize hz1 : rd zs ((3 * x + 1 : Nat) : Int) = z1 at hx1
   generalize hz2 : rd zs ((3 * x + 2 : Nat) : Int) = z2 at hx2
   have hrd : ∀ X : World, Below w1.heap.size w1 X → X.cell? (ad.add (3 * x)) = some (.int .i64 z0) ∧ X.cell? ⟨(ad.add (3 * x)).block, (ad.add (3 * x)).off + 1, none⟩ = some (.int .i64 z1) ∧ X.cell? ⟨(ad.add (3 * x)).block, (ad.add (3 * x)).off + 2, none⟩ = some (.int .i64 z2) := fun X hX => by
    have hW : ∀ p : Addr, p.block = ad.block → X.cell? p = w1.cell? p := fun p hp => by unfold World.cell?; rw [hp, hX.block _ hlt]
    have hbk : (ad.add (3 * x)).block = ad.block := by unfold Addr.add; split <;> rfl
    exact ⟨(hW (ad.add (3 * x)) hbk).trans hx0, (hW ⟨(ad.add (3 * x)).block, (ad.add (3 * x)).off + 1, none⟩ hbk).trans hx1, (hW ⟨(ad.add (3 * x)).block, (ad.add (3 * x)).off + 2, none⟩ hbk).trans hx2⟩
   clear hx0 hx1 hx2
   have hcG := hbG.cell
   gi_wp2
   refine InRound.start_in (n := 16) (S := fun w' => w'.cell? ⟨w1.heap.size, 0, none⟩ = some v ∧ w'.cell? (ad.add (3 * x)) = some (.int .i64 z0) ∧ w'.cell? ⟨(ad.add (3 * x)).block, (ad.add (3 * x)).off + 1, none⟩ = some (.int .i64 z1) ∧ w'.cell? ⟨(ad.add (3 * x)).block, (ad.add (3 * x)).off + 2, none⟩ = some (.int .i64 z2)) (ds := [15]) #[false, false, false, false, false, false, false, false, false, false, false, false, false, false, false, false] (by kernel_rfl) (by kernel_rfl) (by rintro ⟨_, _, h⟩; exact h) rfl rfl ⟨hcG, hrd _ (below_drew1 hB)⟩ (fun hHeld => ?_)
   have G := Aside0.mk (blk_drew hbG)
   have S5 := Aside0.mk (blk_drew hbS)
   have N5 := Aside0.mk (blk_drew hbN)
   have HP := Aside0.mk (Kd.R_drew hRo)
   have B := Aside0.mk (below_drew1 hB)
   have KF : Aside0 (KeepsFrom wl.heap.size W W.drew) := ⟨(KeepsOthers.drew W).from _⟩
   have KP : Aside0 (impl_ParsePuzzle.ck.Kp2 w1.heap.size (w1.heap.size + 1) W W.drew) := ⟨fun _ _ => rfl⟩
   clear hbG hbS hbN hRo hB hcG
   generalize W.drew = wd at G S5 N5 HP B KF KP hHeld ⊢
   refine pure_ (i := 0) (N := some 26) (v := ?_) (a' := ?_) #[true, false, false, false, false, false, false, false, false, false, false, false, false, false, false, false] rfl rfl (by kernel_rfl) (fun _ _ _ h => h) (Or.inl ⟨by rfl, ?_⟩) ?_ ?_
   rotate_left
   ·intro w'
    go_simp
    with_reducible rfl
   rotate_left
   ·simp only [Act.put, Lam.pa, Lam.pb, Lam.pc, i64_w, i32_w]
    rfl
   refine take_ (i := 1) (N := some 27) (v := ?_) (a' := ?_) #[true, true, false, false, false, false, false, false, false, false, false, false, false, false, false, false] rfl rfl (by kernel_rfl) (fun _ _ _ h => h) (Or.inl ⟨by rfl, ?_⟩) hHeld ?_ ?_
   rotate_left
   ·rintro w' s0
    obtain ⟨s0, s1, s2, s3⟩ := s0
    go_simp
    with_reducible rfl
   rotate_left
   ·simp only [Act.put, Lam.pa, Lam.pb, Lam.pc, i64_w, i32_w]
    rfl
   refine pure_ (i := 2) (N := some 28) (v := ?_) (a' := ?_) #[true, true, true, false, false, false, false, false, false, false, false, false, false, false, false, false] rfl rfl (by kernel_rfl) (fun _ _ _ h => h) (Or.inl ⟨by rfl, ?_⟩) ?_ ?_
   rotate_left
   ·intro w'
    go_simp
    with_reducible rfl
   rotate_left
   ·simp only [Act.put, Lam.pa, Lam.pb, Lam.pc, i64_w, i32_w]
    rfl
   refine pure_ (i := 3) (N := some 29) (v := ?_) (a' := ?_) #[true, true, true, true, false, false, false, false, false, false, false, false, false, false, false, false] rfl rfl (by kernel_rfl) (fun _ _ _ h => h) (Or.inl ⟨by rfl, ?_⟩) ?_ ?_
   rotate_left
   ·intro w'
    go_simp
    with_reducible rfl
   rotate_left
   ·simp only [Act.put, Lam.pa, Lam.pb, Lam.pc, i64_w, i32_w]
    rfl
   refine take_ (i := 4) (N := some 30) (v := ?_) (a' := ?_) #[true, true, true, true, true, false, false, false, false, false, false, false, false, false, false, false] rfl rfl (by kernel_rfl) (fun _ _ _ h => h) (Or.inl ⟨by rfl, ?_⟩) hHeld ?_ ?_
   rotate_left
   ·rintro w' s0
    obtain ⟨s0, s1, s2, s3⟩ := s0
    go_simp
    with_reducible rfl
   rotate_left
   ·simp only [Act.put, Lam.pa, Lam.pb, Lam.pc, i64_w, i32_w]
    rfl
   refine pure_ (i := 5) (N := some 31) (v := ?_) (a' := ?_) #[true, true, true, true, true, true, false, false, false, false, false, false, false, false, false, false] rfl rfl (by kernel_rfl) (fun _ _ _ h => h) (Or.inl ⟨by rfl, ?_⟩) ?_ ?_
   rotate_left
   ·intro w'
    go_simp
    with_reducible rfl
   rotate_left
   ·simp only [Act.put, Lam.pa, Lam.pb, Lam.pc, i64_w, i32_w]
    rfl
   refine pure_ (i := 6) (N := some 32) (v := ?_) (a' := ?_) #[true, true, true, true, true, true, true, false, false, false, false, false, false, false, false, false] rfl rfl (by kernel_rfl) (fun _ _ _ h => h) (Or.inl ⟨by rfl, ?_⟩) ?_ ?_
   rotate_left
   ·intro w'
    go_simp
    with_reducible rfl
   rotate_left
   ·simp only [Act.put, Lam.pa, Lam.pb, Lam.pc, i64_w, i32_w]
    rfl
   refine take_ (i := 7) (N := some 33) (v := ?_) (a' := ?_) #[true, true, true, true, true, true, true, true, false, false, false, false, false, false, false, false] rfl rfl (by kernel_rfl) (fun _ _ _ h => h) (Or.inl ⟨by rfl, ?_⟩) hHeld ?_ ?_
   rotate_left
   ·rintro w' s0
    obtain ⟨s0, s1, s2, s3⟩ := s0
    go_simp
    with_reducible rfl
   rotate_left
   ·simp only [Act.put, Lam.pa, Lam.pb, Lam.pc, i64_w, i32_w]
    rfl
   refine pure_ (i := 8) (N := some 34) (v := ?_) (a' := ?_) #[true, true, true, true, true, true, true, true, true, false, false, false, false, false, false, false] rfl rfl (by kernel_rfl) (fun _ _ _ h => h) (Or.inl ⟨by rfl, ?_⟩) ?_ ?_
   rotate_left
   ·intro w'
    go_simp
    with_reducible rfl
   rotate_left
   ·simp only [Act.put, Lam.pa, Lam.pb, Lam.pc, i64_w, i32_w]
    rfl
   refine pure_ (i := 9) (N := some 35) (v := ?_) (a' := ?_) #[true, true, true, true, true, true, true, true, true, true, false, false, false, false, false, false] rfl rfl (by kernel_rfl) (fun _ _ _ h => h) (Or.inl ⟨by rfl, ?_⟩) ?_ ?_
   rotate_left
   ·intro w'
    go_simp
    with_reducible rfl
   rotate_left
   ·simp only [Act.put, Lam.pa, Lam.pb, Lam.pc, i64_w, i32_w]
    rfl
   refine take_ (i := 10) (N := some 36) (v := ?_) (a' := ?_) #[true, true, true, true, true, true, true, true, true, true, true, false, false, false, false, false] rfl rfl (by kernel_rfl) (fun _ _ _ h => h) (Or.inl ⟨by rfl, ?_⟩) hHeld ?_ ?_
   rotate_left
   ·rintro w' s0
    obtain ⟨s0, s1, s2, s3⟩ := s0
    go_simp
    with_reducible rfl
   rotate_left
   ·simp only [Act.put, Lam.pa, Lam.pb, Lam.pc, i64_w, i32_w]
    rfl
   refine pure_ (i := 11) (N := some 37) (v := ?_) (a' := ?_) #[true, true, true, true, true, true, true, true, true, true, true, true, false, false, false, false] rfl rfl (by kernel_rfl) (fun _ _ _ h => h) (Or.inl ⟨by rfl, ?_⟩) ?_ ?_
   rotate_left
   ·intro w'
    go_simp
    with_reducible rfl
   rotate_left
   ·simp only [Act.put, Lam.pa, Lam.pb, Lam.pc, i64_w, i32_w]
    rfl
   refine one_ (i := 12) (N := some 38) #[true, true, true, true, true, true, true, true, true, true, true, true, true, false, false, false] rfl rfl (by kernel_rfl) (by decide) (fun K hK => ?_)
   refine value_ (w1 := ?_) (v := ?_) (by rfl) rfl ?_ ?_
   rotate_left 2
   ·go_simp
    constructor
    ·rfl
    ·rfl
   refine hK.out _ _ ⟨(blk_cell (blk_alloc G.out _) 0).trans rfl, hrd _ (below_alloc B.out _)⟩ (fun hHeld => ?_)
   clear hK K
   refine norm_ (a' := ?_) ?_ ?_
   rotate_left
   ·show Act.put _ (some 38) _ = _
    simp only [Act.put, Lam.pa, Lam.pb, Lam.pc, i64_w, i32_w]
    rfl
   refine one_ (i := 13) (N := some 39) #[true, true, true, true, true, true, true, true, true, true, true, true, true, true, false, false] rfl rfl (by kernel_rfl) (by decide) (fun K hK => ?_)
   refine Kd.R_append_step k47 (w0 := w1) w1.heap.size (by rfl) (.tmp 27) (.tmp 38) 28 47 (.agg #[(.int .i64 0), (.int .i64 0), (.int .i64 0)]) 24 rfl Tryd.underlying28 info47 rfl (by decide) (by omega) v out (⟨z0, z1, z2⟩ : S47) [.int .i64 z0, .int .i64 z1, .int .i64 z2] (fun _ => True) (fun _ => False) rfl rfl ?aP (fun _ hk => hk.elim) ?aF ?aO ?aB ?aS ?aL ?_
   (case aP => exact k47_mkM _ _ _ (⟨z0, z1, z2⟩ : S47))
   (case aB => exact B.out)
   (case aF => exact (fun _ _ => trivial))
   (case aO => exact HP.out)
   (case aS => exact B.out.size)
   (case aL => rw [hlo]; omega)
   intro v1 w26 ho hb hg hat
   have n0 := Aside0.mk (blk_grown G.out hg (Kd.R_ne HP.out G.out (by decide)))
   have n1 := Aside0.mk (blk_grown S5.out hg (Kd.R_ne HP.out S5.out (by decide)))
   have n2 := Aside0.mk (blk_grown N5.out hg (Kd.R_ne HP.out N5.out (by decide)))
   have n3 : Aside0 (KeepsFrom wl.heap.size W w26) := ⟨KF.out.trans ((KeepsOthers.of_grownBy hg (fun j o e hj => by
    obtain ⟨cs, hc⟩ := Kd.R_typed HP.out j e
    rw [hc] at hj
    cases hj
    rfl)).from _)⟩
   have n4 : Aside0 (impl_ParsePuzzle.ck.Kp2 w1.heap.size (w1.heap.size + 1) W w26) := ⟨fun q hq => by
    refine Eq.trans ?_ (KP.out q hq)
    rcases hq with hq | hq | hq
    ·exact hg.block q (by have := B.out.size; omega) (fun e => by have := Kd.R_base HP.out q e.symm; omega)
    ·subst hq
     exact hg.block _ (blk_lt S5.out) (Kd.R_ne HP.out S5.out (by decide))
    ·subst hq
     exact hg.block _ (blk_lt N5.out) (Kd.R_ne HP.out N5.out (by decide))⟩
   have n5 := Aside0.mk ho
   have n6 := Aside0.mk hb
   clear G S5 N5 KF KP HP B ho hb hg hat
   obtain ⟨Ao, co, eo⟩ := Kd.R_slice n5.out
   generalize hnn : (out ++ [(⟨z0, z1, z2⟩ : S47)]).length = nn at eo
   subst eo
   refine hK.out _ _ ⟨(blk_cell n0.out 0).trans rfl, hrd _ n6.out⟩ (fun hHeld => ?_)
   clear hK K
   refine norm_ (a' := ?_) ?_ ?_
   rotate_left
   ·show Act.put _ (some 39) _ = _
    simp only [Act.put, Lam.pa, Lam.pb, Lam.pc, i64_w, i32_w]
    rfl
   have hsG : w26.cell? ⟨w1.heap.size, 0, none⟩ = some v := (blk_cell n0.out 0).trans rfl
   refine pure_ (i := 14) (N := some 40) (v := ?_) (a' := ?_) #[true, true, true, true, true, true, true, true, true, true, true, true, true, true, true, false] rfl rfl (by kernel_rfl) (fun _ _ _ h => h) (Or.inl ⟨by rfl, ?_⟩) ?_ ?_
   rotate_left
   ·intro w'
    go_simp
    with_reducible rfl
   rotate_left
   ·simp only [Act.put, Lam.pa, Lam.pb, Lam.pc, i64_w, i32_w]
    rfl
   refine last_ (i := 15) (N := none) #[true, true, true, true, true, true, true, true, true, true, true, true, true, true, true, true] rfl rfl (by kernel_rfl) (by decide) (fun K hK => ?_)
   have hfG := blk_frozen n0.out 0
   refine skip_ (w1 := ?_) (by rfl) rfl ?_ ?_
   rotate_left
   ·go_simp
    rfl
   refine hK.out _ _ ?_
   clear hK K
   refine done_ (by kernel_rfl) ?_
   clear hsG hfG
   try gi_wp2
   refine ⟨n3.out.trans ((KeepsOthers.setCell w26 _ _).from _), fun q hq => (Below.heap_setCell _ _ _ q (by rcases hq with hq | hq | hq <;> simp <;> omega)).trans (n4.out q hq), ⟨_, out ++ [⟨z0, z1, z2⟩], blk_put (cs := #[v]) n0.out 0 _ rfl, Kd.R_mono (Kd.R_far (p := ⟨w1.heap.size, 0, none⟩) (Kd.R_types n5.out n0.out (by decide)) (fun _ hk => hk.2) _) (fun _ _ => trivial), by simp [hlo], fun hp => ?_⟩, blk_far n1.out (by show w1.heap.size + 1 ≠ w1.heap.size; omega) _, blk_far n2.out (by show w1.heap.size + 1 + 1 ≠ w1.heap.size; omega) _, n6.out.setCell (p := ⟨w1.heap.size, 0, none⟩) (by simp) _⟩
   obtain ⟨hp1, hp2⟩ := Rf.upto_snoc hp
   dsimp only at hp2
   subst hp2
   rw [heq hp1, List.length_append, List.length_singleton, impl_ParsePuzzle.pairs_take zs pre.length (by omega), ← hz0, ← hz1, ← hz2]
   rfl
  case done =>
   rintro D ys W hD rfl ⟨⟨v, out, hbG, hRo, hlo, heq⟩, hbS, hbN, hB⟩ hK
   have hlen : (Rf.upto m m).length = m := Rf.upto_length (Nat.le_refl _)
   have hout : out = impl_ParsePuzzle.pairs zs := by
    rw [heq (by rw [hlen]), hlen, hm, List.take_length]
   subst hout
   obtain ⟨Ao, co, eo⟩ := Kd.R_slice hRo
   generalize hnn : (impl_ParsePuzzle.pairs zs).length = nn at eo
   subst eo
   have hcG := hbG.cell
   have hx := Option.bind_eq_some_iff.1 H.out
   obtain ⟨u, hu, H2⟩ := hx
   clear heq H hlo hlen hG2 hS2 hN hR2 hO2
   have HRo := Aside0.mk hRo
   have HD := Aside0.mk (show w1.heap.size ≤ D by omega)
   have hAS := impl_IsPuzzle.calls Ao co (impl_ParsePuzzle.pairs zs) u W (Kd.R_reads' (hnn ▸ hRo)).2.2 (Kd.R_reads' (hnn ▸ hRo)).2.1 hu
   rw [hnn] at hAS
   have HAS := Aside0.mk hAS
   have HNN := Aside0.mk hnn
   have HBB := Aside0.mk hB
   have HBG := Aside0.mk hbG
   have HKK := Aside0.mk hK
   have HXW : Aside0 (Boxed W w.heap.size 30 (.slice none 0 0)) := ⟨(hB.block _ HXl.out).trans HX.out⟩
   clear hRo hnn hAS hu hbS hbN had hB hbG hK hcap hcc hD hsz HL
   cases u with
   | false =>
    rw [if_neg (by simp)] at H2
    cases H2
    gi_wp2_with (refine ⟨trivial, ?_⟩; gi_at_call 22; refine (callsIn_wide.2 HAS.out).mono ?_; rintro e wa ⟨rfl, hba⟩; have hcX := (Rf.boxed_below HXW.out hba).cell; have hfX := (Rf.boxed_below HXW.out hba).frozen)
    have hKa : wa.heap[D]? = some (Obj.deferred (some [])) := (hba.block D (by have := (Array.getElem?_eq_some_iff.1 HKK.out).1; omega)).trans HKK.out
    have hBa := (HB1.out.trans (HBB.out.mono hsz0)).trans (hba.mono (Nat.le_trans hsz0 HBB.out.size))
    refine ⟨trivial, ?_⟩
    gi_wp2
    have hK2 := (KeepsOthers.setCell wa ⟨w.heap.size, 0, none⟩ (.slice none 0 0)).same D _ hKa rfl
    have hc5 := cell_kept (World.cell?_setCell_same' wa ⟨w.heap.size, 0, none⟩ (.slice none 0 0) (by rw [hcX]; rfl)) (grownBy_putObj' _ D (.deferred none)) (fun r e => by cases e; exact ⟨_, hK2, rfl⟩)
    refine ⟨by simp, .inl ⟨_, _, rfl, run_takeDeferred hK2, ?_⟩⟩
    exact ⟨.tuple #[.agg #[.slice none 0 0], .bool false], by simp [results, Tryd.f11, go_sem, hc5], .slice none 0 0, rfl, Kd.R_nil _ _ _ _ _, (hBa.setCell (p := ⟨w.heap.size, 0, none⟩) (Nat.le_refl _) _).trans (belowK_b (w := w) (Nat.le_refl _) _ D _ _ (Nat.le_trans hsz0 HD.out) hK2 rfl rfl)⟩
   | true =>
    rw [if_pos rfl] at H2
    obtain ⟨t, ht, H3⟩ := Option.bind_eq_some_iff.1 H2
    clear H2
    have HT := Aside0.mk ht
    have H3 := Aside0.mk H3
    clear ht
    gi_wp2_with (refine ⟨trivial, ?_⟩; gi_at_call 22; refine (callsIn_wide.2 HAS.out).mono ?_; rintro e wa ⟨rfl, hba⟩; have hcA := (Rf.boxed_below HBG.out hba).cell)
    have HRa := Aside0.mk (Kd.R_step (w1 := wa) HRo.out (fun k _ hlt => hba.block k hlt))
    have HSa := (impl_puzzleText.calls k Ao co (impl_ParsePuzzle.pairs zs) t wa (Kd.R_reads' (HNN.out.symm ▸ HRa.out)).2.2 (Kd.R_reads' (HNN.out.symm ▸ HRa.out)).2.1 HT.out)
    rw [HNN.out] at HSa
    have HST := Aside0.mk HSa
    clear HSa
    have hBa := Aside0.mk ((HB1.out.trans (HBB.out.mono hsz0)).trans (hba.mono (Nat.le_trans hsz0 HBB.out.size)))
    have hKa := Aside0.mk ((hba.block D (by have := (Array.getElem?_eq_some_iff.1 HKK.out).1; omega)).trans HKK.out)
    have hGa := Aside0.mk (Rf.boxed_below HBG.out hba)
    have hXa := Aside0.mk (Rf.boxed_below HXW.out hba)
    have hla := Aside0.mk (Nat.le_trans HBB.out.size hba.size)
    clear hcG hcA hba HKK HBB HBG HAS HRo
    by_cases hts : t = s
    ·subst hts
     have h4 := H3.out
     rw [if_pos rfl] at h4
     obtain ⟨rfl, rfl⟩ := Prod.mk.inj (Option.some.inj h4)
     clear h4 H3
     gi_wp2_with (refine ⟨trivial, ?_⟩; gi_at_call 23; refine (callsIn_wide.2 HST.out).mono ?_; rintro e wb ⟨rfl, hbb⟩; have hcB := (Rf.boxed_below hGa.out hbb).cell; have hcX := (Rf.boxed_below hXa.out hbb).cell; have hfX := (Rf.boxed_below hXa.out hbb).frozen)
     have hKb : wb.heap[D]? = some (Obj.deferred (some [])) := (hbb.block D (by have := (Array.getElem?_eq_some_iff.1 hKa.out).1; omega)).trans hKa.out
     have hBb := hBa.out.trans (hbb.mono (Nat.le_trans hsz0 hla.out))
     have hRb := Kd.R_step (w1 := wb) HRa.out (fun k _ hlt => hbb.block k hlt)
     have hK2 := (KeepsOthers.setCell wb ⟨w.heap.size, 0, none⟩ (.slice Ao nn co)).same D _ hKb rfl
     have hc5 := cell_kept (World.cell?_setCell_same' wb ⟨w.heap.size, 0, none⟩ (.slice Ao nn co) (by rw [hcX]; rfl)) (grownBy_putObj' _ D (.deferred none)) (fun r e => by cases e; exact ⟨_, hK2, rfl⟩)
     refine ⟨by simp, .inl ⟨_, _, rfl, run_takeDeferred hK2, ?_⟩⟩
     exact ⟨.tuple #[.agg #[.slice Ao nn co], .bool true], by simp [results, Tryd.f11, go_sem, hc5], .slice Ao nn co, rfl, Kd.R_lower (impl_ParsePuzzle.r_own (Kd.R_mono (Kd.R_far (p := ⟨w.heap.size, 0, none⟩) (Kd.R_mono (Kd.R_bound hRb) (fun k hk => hk.2.1)) (fun k hk => by have := HXl.out; show k ≠ w.heap.size; omega) _) (fun _ _ => trivial)) (grownBy_putObj' _ D (.deferred none)) (fun r e => by cases e; exact ⟨_, hK2, rfl⟩)) hsz0, (hBb.setCell (p := ⟨w.heap.size, 0, none⟩) (Nat.le_refl _) _).trans (belowK_b (w := w) (Nat.le_refl _) _ D _ _ (Nat.le_trans hsz0 HD.out) hK2 rfl rfl)⟩
    ·have h4 := H3.out
     rw [if_neg hts] at h4
     obtain ⟨rfl, rfl⟩ := Prod.mk.inj (Option.some.inj h4)
     clear h4 H3
     have hbq : (t.toList == s.toList) = false := beq_eq_false_iff_ne.2 (fun h => hts (impl_ParsePuzzle.toList_inj h))
     gi_wp2_with (refine ⟨trivial, ?_⟩; gi_at_call 23; refine (callsIn_wide.2 HST.out).mono ?_; rintro e wb ⟨rfl, hbb⟩; have hcB := (Rf.boxed_below hGa.out hbb).cell; have hcX := (Rf.boxed_below hXa.out hbb).cell; have hfX := (Rf.boxed_below hXa.out hbb).frozen)
     have hKb : wb.heap[D]? = some (Obj.deferred (some [])) := (hbb.block D (by have := (Array.getElem?_eq_some_iff.1 hKa.out).1; omega)).trans hKa.out
     have hBb := hBa.out.trans (hbb.mono (Nat.le_trans hsz0 hla.out))
     have hK2 := (KeepsOthers.setCell wb ⟨w.heap.size, 0, none⟩ (.slice none 0 0)).same D _ hKb rfl
     have hc5 := cell_kept (World.cell?_setCell_same' wb ⟨w.heap.size, 0, none⟩ (.slice none 0 0) (by rw [hcX]; rfl)) (grownBy_putObj' _ D (.deferred none)) (fun r e => by cases e; exact ⟨_, hK2, rfl⟩)
     refine ⟨by simp, .inl ⟨_, _, rfl, run_takeDeferred hK2, ?_⟩⟩
     exact ⟨.tuple #[.agg #[.slice none 0 0], .bool false], by simp [results, Tryd.f11, go_sem, hc5], .slice none 0 0, rfl, Kd.R_nil _ _ _ _ _, (hBb.setCell (p := ⟨w.heap.size, 0, none⟩) (Nat.le_refl _) _).trans (belowK_b (w := w) (Nat.le_refl _) _ D _ _ (Nat.le_trans hsz0 HD.out) hK2 rfl rfl)⟩
  case stop =>
   rintro D c pre W hD _ hf _
   exact hf.elim
 ·rw [if_neg hgd] at h
  obtain ⟨rfl, rfl⟩ := Prod.mk.inj (Option.some.inj h)
  clear h HE
  refine (callsIn_wide (n := 3)).1 ?_
  refine callsIn_of_wp_marks Tryd.func11 rfl trivial ?_ rfl
  simp only [Tryd.ntmps11, List.size_toArray, List.length_cons, List.length_nil, Nat.reduceAdd, Nat.reduceSub, Array.replicate_succ, Array.replicate_zero, List.push_toArray, List.append_toArray, List.nil_append, List.cons_append]
  cases ok with
  | false =>
   clear hgd
   gi_wp2_with (refine ⟨trivial, ?_⟩; gi_at_call 16; refine (callsIn_wide.2 HN.out).mono ?_; rintro e w1 ⟨v1, rfl, ho, hb⟩; obtain ⟨A1, c1, e1⟩ := Kd.R_slice ho; subst e1; have HX := Rf.boxed_below (Boxed.new w 30 (.slice none 0 0)) hb; have HB1 := Aside0.mk ((below_alloc (Below.refl w.heap.size w) (.cells #[.slice none 0 0] 30)).trans (hb.mono (by simp))); have hcX := HX.cell; have hfX := HX.frozen; clear ho hb HN HX)
   have hc5 := World.cell?_setCell_same' w1 ⟨w.heap.size, 0, none⟩ (.slice none 0 0) (by rw [hcX]; rfl)
   exact ⟨.tuple #[.agg #[.slice none 0 0], .bool false], by simp [results, Tryd.f11, go_sem, hc5], .slice none 0 0, rfl, Kd.R_nil _ _ _ _ _, HB1.out.setCell (p := ⟨w.heap.size, 0, none⟩) (Nat.le_refl _) _⟩
  | true =>
   have hev2 : (Int.tmod (zs.length : Int) 3 != 0) = true := bne_iff_ne.2 (fun h => hgd ⟨rfl, by rw [Int.tmod_eq_emod_of_nonneg (by omega)] at h; omega⟩)
   have hev3 : ((zs.length : Int) % 3 != 0) = true := bne_iff_ne.2 (fun h => hgd ⟨rfl, by omega⟩)
   clear hgd
   gi_wp2_with (refine ⟨trivial, ?_⟩; gi_at_call 16; refine (callsIn_wide.2 HN.out).mono ?_; rintro e w1 ⟨v1, rfl, ho, hb⟩; obtain ⟨A1, c1, e1⟩ := Kd.R_slice ho; subst e1; have HX := Rf.boxed_below (Boxed.new w 30 (.slice none 0 0)) hb; have HB1 := Aside0.mk ((below_alloc (Below.refl w.heap.size w) (.cells #[.slice none 0 0] 30)).trans (hb.mono (by simp))); have hcX := HX.cell; have hfX := HX.frozen; clear ho hb HN HX)
   have hc5 := World.cell?_setCell_same' w1 ⟨w.heap.size, 0, none⟩ (.slice none 0 0) (by rw [hcX]; rfl)
   exact ⟨.tuple #[.agg #[.slice none 0 0], .bool false], by simp [results, Tryd.f11, go_sem, hc5], .slice none 0 0, rfl, Kd.R_nil _ _ _ _ _, HB1.out.setCell (p := ⟨w.heap.size, 0, none⟩) (Nat.le_refl _) _⟩
end
theorem impl_ParsePuzzle.calls (k : Nat) (a0 : ByteArray) (r1 : List (S47)) (r2 : Bool) (w : World) (henv : Env.Is w) (h : impl_ParsePuzzle.f k a0 = some (r1, r2)) :
  Calls Tryd.prog 11 #[.string a0] w fun e w' => ∃ v0_ : Value, e = .returned (.tuple #[.agg #[v0_], .bool r2]) ∧ Kd.R k47 47 w' w.heap.size (fun _ => True) v0_ r1 ∧ Below w.heap.size w w' := by
 exact impl_ParsePuzzle.calls0 k a0 r1 r2 w henv h

/-! ### laws_eqClue: function 47 -/
def laws_eqClue.f (a0_0 : Int) (a0_1 : Int) (a0_2 : Int) (a1_0 : Int) (a1_1 : Int) (a1_2 : Int) : Option (Bool) := if a0_0 = a1_0 then (if a0_1 = a1_1 then (if a0_2 = a1_2 then (some true) else (some false)) else (some false)) else (some false)
set_option maxHeartbeats 8000000 in
set_option maxRecDepth 100000 in
theorem laws_eqClue.calls (a0_0 : Int) (a0_1 : Int) (a0_2 : Int) (a1_0 : Int) (a1_1 : Int) (a1_2 : Int) (r : Bool) (w : World) (h : laws_eqClue.f a0_0 a0_1 a0_2 a1_0 a1_1 a1_2 = some r) :
  Calls Tryd.prog 47 #[.agg #[.int .i64 a0_0, .int .i64 a0_1, .int .i64 a0_2], .agg #[.int .i64 a1_0, .int .i64 a1_1, .int .i64 a1_2]] w fun e w' => e = .returned (.bool r) ∧ Below w.heap.size w w' := by
 have hu47 := Tryd.underlying47
 have HB := Aside0.mk (Below.refl w.heap.size w)
 have H : (if a0_0 = a1_0 then (if a0_1 = a1_1 then (if a0_2 = a1_2 then (some true) else (some false)) else (some false)) else (some false)) = some r := h
 clear h
 by_cases c3 : a0_0 = a1_0
 ·rw [if_pos c3] at H
  have c3b0 : (a0_0 == a1_0) = true := beq_iff_eq.mpr c3
  have c3b1 : (a0_0 != a1_0) = false := bne_eq_false_iff_eq.mpr c3
  clear c3
  by_cases c4 : a0_1 = a1_1
  ·rw [if_pos c4] at H
   have c4b0 : (a0_1 == a1_1) = true := beq_iff_eq.mpr c4
   have c4b1 : (a0_1 != a1_1) = false := bne_eq_false_iff_eq.mpr c4
   clear c4
   by_cases c5 : a0_2 = a1_2
   ·rw [if_pos c5] at H
    have c5b0 : (a0_2 == a1_2) = true := beq_iff_eq.mpr c5
    have c5b1 : (a0_2 != a1_2) = false := bne_eq_false_iff_eq.mpr c5
    clear c5
    obtain rfl := Option.some.inj H
    go_enter Tryd.func47, Tryd.ntmps47
    go_wp2_with (first | ((with_reducible refine gate_dst (N := 2) rfl ?_); refine box_event ?hg (N := 2) ?hd (cs := #[.int .i64 a0_0, .int .i64 a0_1, .int .i64 a0_2]) (t := 47) ?hr ?_; (case hd => rfl); (case hg => rfl); (case hr => first | (go_simp; done) | (go_simp; rfl)); intro gb191 hg w6 hbox hb; have n0_ := Aside0.mk (below_step (Lam.al) hb); have n1_ := Aside0.mk (hbox); have n2_ := Aside0.mk ((by rw [hg]; exact (below_size (Lam.al)) : w.heap.size ≤ gb191)); have n3_ := Aside0.mk ((by rw [hg]; exact (below_size (Lam.al)) : w.heap.size ≤ gb191)); clear HB; have HB := n0_; have BK191 := n1_; have GW191 := n2_; have GE191 := n3_; clear n0_ n1_ n2_ n3_; clear hb hbox hg) | ((with_reducible refine gate_dst (N := 3) rfl ?_); refine box_event ?hg (N := 3) ?hd (cs := #[.int .i64 a1_0, .int .i64 a1_1, .int .i64 a1_2]) (t := 47) ?hr ?_; (case hd => rfl); (case hg => rfl); (case hr => first | (go_simp; done) | (go_simp; rfl)); intro gb192 hg w7 hbox hb; have n0_ := Aside0.mk (blk_below (g := gb191) (o := .cells #[.int .i64 a0_0, .int .i64 a0_1, .int .i64 a0_2] 47 (0, 0)) (Lam.bq BK191.out) hb); have n1_ := Aside0.mk (below_step (Lam.al) hb); have n2_ := Aside0.mk (hbox); have n3_ := Aside0.mk ((by rw [hg]; exact (below_size (Lam.al)) : w.heap.size ≤ gb192)); have n4_ := Aside0.mk ((by rw [hg]; exact (below_size (Lam.al)) : w.heap.size ≤ gb192)); have n5_ := Aside0.mk ((by rw [hg]; exact Nat.ne_of_lt (blk_lt (g := gb191) (o := .cells #[.int .i64 a0_0, .int .i64 a0_1, .int .i64 a0_2] 47 (0, 0)) (Lam.bq BK191.out)) : gb191 ≠ gb192)); have n6_ := Aside0.mk ((by rw [hg]; exact Nat.ne_of_gt (blk_lt (g := gb191) (o := .cells #[.int .i64 a0_0, .int .i64 a0_1, .int .i64 a0_2] 47 (0, 0)) (Lam.bq BK191.out)) : gb192 ≠ gb191)); clear BK191; clear HB; have BK191 := n0_; have HB := n1_; have BK192 := n2_; have GW192 := n3_; have GE192 := n4_; have NB191_192 := n5_; have NB192_191 := n6_; clear n0_ n1_ n2_ n3_ n4_ n5_ n6_; clear hb hbox hg; have hnb8 := NB191_192.out; have hnc8 := NB192_191.out; have hcz9_0 : w7.cell? ⟨gb191, 0, none⟩ = some (.int .i64 a0_0) := (blk_cell BK191.out 0).trans rfl; have hcz9_1 : w7.cell? ⟨gb191, 1, none⟩ = some (.int .i64 a0_1) := (blk_cell BK191.out 1).trans rfl; have hcz9_2 : w7.cell? ⟨gb191, 2, none⟩ = some (.int .i64 a0_2) := (blk_cell BK191.out 2).trans rfl; have hfz9_0 := blk_frozen BK191.out 0; have hfz9_1 := blk_frozen BK191.out 1; have hfz9_2 := blk_frozen BK191.out 2; have hcz10_0 : w7.cell? ⟨gb192, 0, none⟩ = some (.int .i64 a1_0) := (blk_cell BK192.out 0).trans rfl; have hcz10_1 : w7.cell? ⟨gb192, 1, none⟩ = some (.int .i64 a1_1) := (blk_cell BK192.out 1).trans rfl; have hcz10_2 : w7.cell? ⟨gb192, 2, none⟩ = some (.int .i64 a1_2) := (blk_cell BK192.out 2).trans rfl; have hfz10_0 := blk_frozen BK192.out 0; have hfz10_1 := blk_frozen BK192.out 1; have hfz10_2 := blk_frozen BK192.out 2))
    go_ret
    exact ⟨by first | rfl | (simp [errW_none, errW_some] <;> rfl) | (simp [*, errW_none, errW_some] <;> rfl), Lam.al⟩
   ·rw [if_neg c5] at H
    have c5b0 : (a0_2 == a1_2) = false := beq_eq_false_iff_ne.mpr c5
    have c5b1 : (a0_2 != a1_2) = true := bne_iff_ne.mpr c5
    obtain rfl := Option.some.inj H
    go_enter Tryd.func47, Tryd.ntmps47
    go_wp2_with (first | ((with_reducible refine gate_dst (N := 2) rfl ?_); refine box_event ?hg (N := 2) ?hd (cs := #[.int .i64 a0_0, .int .i64 a0_1, .int .i64 a0_2]) (t := 47) ?hr ?_; (case hd => rfl); (case hg => rfl); (case hr => first | (go_simp; done) | (go_simp; rfl)); intro gb191 hg w11 hbox hb; have n0_ := Aside0.mk (below_step (Lam.al) hb); have n1_ := Aside0.mk (hbox); have n2_ := Aside0.mk ((by rw [hg]; exact (below_size (Lam.al)) : w.heap.size ≤ gb191)); have n3_ := Aside0.mk ((by rw [hg]; exact (below_size (Lam.al)) : w.heap.size ≤ gb191)); clear HB; have HB := n0_; have BK191 := n1_; have GW191 := n2_; have GE191 := n3_; clear n0_ n1_ n2_ n3_; clear hb hbox hg) | ((with_reducible refine gate_dst (N := 3) rfl ?_); refine box_event ?hg (N := 3) ?hd (cs := #[.int .i64 a1_0, .int .i64 a1_1, .int .i64 a1_2]) (t := 47) ?hr ?_; (case hd => rfl); (case hg => rfl); (case hr => first | (go_simp; done) | (go_simp; rfl)); intro gb192 hg w12 hbox hb; have n0_ := Aside0.mk (blk_below (g := gb191) (o := .cells #[.int .i64 a0_0, .int .i64 a0_1, .int .i64 a0_2] 47 (0, 0)) (Lam.bq BK191.out) hb); have n1_ := Aside0.mk (below_step (Lam.al) hb); have n2_ := Aside0.mk (hbox); have n3_ := Aside0.mk ((by rw [hg]; exact (below_size (Lam.al)) : w.heap.size ≤ gb192)); have n4_ := Aside0.mk ((by rw [hg]; exact (below_size (Lam.al)) : w.heap.size ≤ gb192)); have n5_ := Aside0.mk ((by rw [hg]; exact Nat.ne_of_lt (blk_lt (g := gb191) (o := .cells #[.int .i64 a0_0, .int .i64 a0_1, .int .i64 a0_2] 47 (0, 0)) (Lam.bq BK191.out)) : gb191 ≠ gb192)); have n6_ := Aside0.mk ((by rw [hg]; exact Nat.ne_of_gt (blk_lt (g := gb191) (o := .cells #[.int .i64 a0_0, .int .i64 a0_1, .int .i64 a0_2] 47 (0, 0)) (Lam.bq BK191.out)) : gb192 ≠ gb191)); clear BK191; clear HB; have BK191 := n0_; have HB := n1_; have BK192 := n2_; have GW192 := n3_; have GE192 := n4_; have NB191_192 := n5_; have NB192_191 := n6_; clear n0_ n1_ n2_ n3_ n4_ n5_ n6_; clear hb hbox hg; have hnb13 := NB191_192.out; have hnc13 := NB192_191.out; have hcz14_0 : w12.cell? ⟨gb191, 0, none⟩ = some (.int .i64 a0_0) := (blk_cell BK191.out 0).trans rfl; have hcz14_1 : w12.cell? ⟨gb191, 1, none⟩ = some (.int .i64 a0_1) := (blk_cell BK191.out 1).trans rfl; have hcz14_2 : w12.cell? ⟨gb191, 2, none⟩ = some (.int .i64 a0_2) := (blk_cell BK191.out 2).trans rfl; have hfz14_0 := blk_frozen BK191.out 0; have hfz14_1 := blk_frozen BK191.out 1; have hfz14_2 := blk_frozen BK191.out 2; have hcz15_0 : w12.cell? ⟨gb192, 0, none⟩ = some (.int .i64 a1_0) := (blk_cell BK192.out 0).trans rfl; have hcz15_1 : w12.cell? ⟨gb192, 1, none⟩ = some (.int .i64 a1_1) := (blk_cell BK192.out 1).trans rfl; have hcz15_2 : w12.cell? ⟨gb192, 2, none⟩ = some (.int .i64 a1_2) := (blk_cell BK192.out 2).trans rfl; have hfz15_0 := blk_frozen BK192.out 0; have hfz15_1 := blk_frozen BK192.out 1; have hfz15_2 := blk_frozen BK192.out 2))
    go_ret
    exact ⟨by first | rfl | (simp [errW_none, errW_some] <;> rfl) | (simp [*, errW_none, errW_some] <;> rfl), Lam.al⟩
  ·rw [if_neg c4] at H
   have c4b0 : (a0_1 == a1_1) = false := beq_eq_false_iff_ne.mpr c4
   have c4b1 : (a0_1 != a1_1) = true := bne_iff_ne.mpr c4
   obtain rfl := Option.some.inj H
   go_enter Tryd.func47, Tryd.ntmps47
   go_wp2_with (first | ((with_reducible refine gate_dst (N := 2) rfl ?_); refine box_event ?hg (N := 2) ?hd (cs := #[.int .i64 a0_0, .int .i64 a0_1, .int .i64 a0_2]) (t := 47) ?hr ?_; (case hd => rfl); (case hg => rfl); (case hr => first | (go_simp; done) | (go_simp; rfl)); intro gb191 hg w16 hbox hb; have n0_ := Aside0.mk (below_step (Lam.al) hb); have n1_ := Aside0.mk (hbox); have n2_ := Aside0.mk ((by rw [hg]; exact (below_size (Lam.al)) : w.heap.size ≤ gb191)); have n3_ := Aside0.mk ((by rw [hg]; exact (below_size (Lam.al)) : w.heap.size ≤ gb191)); clear HB; have HB := n0_; have BK191 := n1_; have GW191 := n2_; have GE191 := n3_; clear n0_ n1_ n2_ n3_; clear hb hbox hg) | ((with_reducible refine gate_dst (N := 3) rfl ?_); refine box_event ?hg (N := 3) ?hd (cs := #[.int .i64 a1_0, .int .i64 a1_1, .int .i64 a1_2]) (t := 47) ?hr ?_; (case hd => rfl); (case hg => rfl); (case hr => first | (go_simp; done) | (go_simp; rfl)); intro gb192 hg w17 hbox hb; have n0_ := Aside0.mk (blk_below (g := gb191) (o := .cells #[.int .i64 a0_0, .int .i64 a0_1, .int .i64 a0_2] 47 (0, 0)) (Lam.bq BK191.out) hb); have n1_ := Aside0.mk (below_step (Lam.al) hb); have n2_ := Aside0.mk (hbox); have n3_ := Aside0.mk ((by rw [hg]; exact (below_size (Lam.al)) : w.heap.size ≤ gb192)); have n4_ := Aside0.mk ((by rw [hg]; exact (below_size (Lam.al)) : w.heap.size ≤ gb192)); have n5_ := Aside0.mk ((by rw [hg]; exact Nat.ne_of_lt (blk_lt (g := gb191) (o := .cells #[.int .i64 a0_0, .int .i64 a0_1, .int .i64 a0_2] 47 (0, 0)) (Lam.bq BK191.out)) : gb191 ≠ gb192)); have n6_ := Aside0.mk ((by rw [hg]; exact Nat.ne_of_gt (blk_lt (g := gb191) (o := .cells #[.int .i64 a0_0, .int .i64 a0_1, .int .i64 a0_2] 47 (0, 0)) (Lam.bq BK191.out)) : gb192 ≠ gb191)); clear BK191; clear HB; have BK191 := n0_; have HB := n1_; have BK192 := n2_; have GW192 := n3_; have GE192 := n4_; have NB191_192 := n5_; have NB192_191 := n6_; clear n0_ n1_ n2_ n3_ n4_ n5_ n6_; clear hb hbox hg; have hnb18 := NB191_192.out; have hnc18 := NB192_191.out; have hcz19_0 : w17.cell? ⟨gb191, 0, none⟩ = some (.int .i64 a0_0) := (blk_cell BK191.out 0).trans rfl; have hcz19_1 : w17.cell? ⟨gb191, 1, none⟩ = some (.int .i64 a0_1) := (blk_cell BK191.out 1).trans rfl; have hcz19_2 : w17.cell? ⟨gb191, 2, none⟩ = some (.int .i64 a0_2) := (blk_cell BK191.out 2).trans rfl; have hfz19_0 := blk_frozen BK191.out 0; have hfz19_1 := blk_frozen BK191.out 1; have hfz19_2 := blk_frozen BK191.out 2; have hcz20_0 : w17.cell? ⟨gb192, 0, none⟩ = some (.int .i64 a1_0) := (blk_cell BK192.out 0).trans rfl; have hcz20_1 : w17.cell? ⟨gb192, 1, none⟩ = some (.int .i64 a1_1) := (blk_cell BK192.out 1).trans rfl; have hcz20_2 : w17.cell? ⟨gb192, 2, none⟩ = some (.int .i64 a1_2) := (blk_cell BK192.out 2).trans rfl; have hfz20_0 := blk_frozen BK192.out 0; have hfz20_1 := blk_frozen BK192.out 1; have hfz20_2 := blk_frozen BK192.out 2))
   go_ret
   exact ⟨by first | rfl | (simp [errW_none, errW_some] <;> rfl) | (simp [*, errW_none, errW_some] <;> rfl), Lam.al⟩
 ·rw [if_neg c3] at H
  have c3b0 : (a0_0 == a1_0) = false := beq_eq_false_iff_ne.mpr c3
  have c3b1 : (a0_0 != a1_0) = true := bne_iff_ne.mpr c3
  obtain rfl := Option.some.inj H
  go_enter Tryd.func47, Tryd.ntmps47
  go_wp2_with (first | ((with_reducible refine gate_dst (N := 2) rfl ?_); refine box_event ?hg (N := 2) ?hd (cs := #[.int .i64 a0_0, .int .i64 a0_1, .int .i64 a0_2]) (t := 47) ?hr ?_; (case hd => rfl); (case hg => rfl); (case hr => first | (go_simp; done) | (go_simp; rfl)); intro gb191 hg w21 hbox hb; have n0_ := Aside0.mk (below_step (Lam.al) hb); have n1_ := Aside0.mk (hbox); have n2_ := Aside0.mk ((by rw [hg]; exact (below_size (Lam.al)) : w.heap.size ≤ gb191)); have n3_ := Aside0.mk ((by rw [hg]; exact (below_size (Lam.al)) : w.heap.size ≤ gb191)); clear HB; have HB := n0_; have BK191 := n1_; have GW191 := n2_; have GE191 := n3_; clear n0_ n1_ n2_ n3_; clear hb hbox hg) | ((with_reducible refine gate_dst (N := 3) rfl ?_); refine box_event ?hg (N := 3) ?hd (cs := #[.int .i64 a1_0, .int .i64 a1_1, .int .i64 a1_2]) (t := 47) ?hr ?_; (case hd => rfl); (case hg => rfl); (case hr => first | (go_simp; done) | (go_simp; rfl)); intro gb192 hg w22 hbox hb; have n0_ := Aside0.mk (blk_below (g := gb191) (o := .cells #[.int .i64 a0_0, .int .i64 a0_1, .int .i64 a0_2] 47 (0, 0)) (Lam.bq BK191.out) hb); have n1_ := Aside0.mk (below_step (Lam.al) hb); have n2_ := Aside0.mk (hbox); have n3_ := Aside0.mk ((by rw [hg]; exact (below_size (Lam.al)) : w.heap.size ≤ gb192)); have n4_ := Aside0.mk ((by rw [hg]; exact (below_size (Lam.al)) : w.heap.size ≤ gb192)); have n5_ := Aside0.mk ((by rw [hg]; exact Nat.ne_of_lt (blk_lt (g := gb191) (o := .cells #[.int .i64 a0_0, .int .i64 a0_1, .int .i64 a0_2] 47 (0, 0)) (Lam.bq BK191.out)) : gb191 ≠ gb192)); have n6_ := Aside0.mk ((by rw [hg]; exact Nat.ne_of_gt (blk_lt (g := gb191) (o := .cells #[.int .i64 a0_0, .int .i64 a0_1, .int .i64 a0_2] 47 (0, 0)) (Lam.bq BK191.out)) : gb192 ≠ gb191)); clear BK191; clear HB; have BK191 := n0_; have HB := n1_; have BK192 := n2_; have GW192 := n3_; have GE192 := n4_; have NB191_192 := n5_; have NB192_191 := n6_; clear n0_ n1_ n2_ n3_ n4_ n5_ n6_; clear hb hbox hg; have hnb23 := NB191_192.out; have hnc23 := NB192_191.out; have hcz24_0 : w22.cell? ⟨gb191, 0, none⟩ = some (.int .i64 a0_0) := (blk_cell BK191.out 0).trans rfl; have hcz24_1 : w22.cell? ⟨gb191, 1, none⟩ = some (.int .i64 a0_1) := (blk_cell BK191.out 1).trans rfl; have hcz24_2 : w22.cell? ⟨gb191, 2, none⟩ = some (.int .i64 a0_2) := (blk_cell BK191.out 2).trans rfl; have hfz24_0 := blk_frozen BK191.out 0; have hfz24_1 := blk_frozen BK191.out 1; have hfz24_2 := blk_frozen BK191.out 2; have hcz25_0 : w22.cell? ⟨gb192, 0, none⟩ = some (.int .i64 a1_0) := (blk_cell BK192.out 0).trans rfl; have hcz25_1 : w22.cell? ⟨gb192, 1, none⟩ = some (.int .i64 a1_1) := (blk_cell BK192.out 1).trans rfl; have hcz25_2 : w22.cell? ⟨gb192, 2, none⟩ = some (.int .i64 a1_2) := (blk_cell BK192.out 2).trans rfl; have hfz25_0 := blk_frozen BK192.out 0; have hfz25_1 := blk_frozen BK192.out 1; have hfz25_2 := blk_frozen BK192.out 2))
  go_ret
  exact ⟨by first | rfl | (simp [errW_none, errW_some] <;> rfl) | (simp [*, errW_none, errW_some] <;> rfl), Lam.al⟩

end Go.Proofs.YtejnbnppiipdlaaDoor.PFnExactParsePuzzle
