-- Made by a program of this session (wip/xprint.py) out of the translation.
import Derived.Test.YtdikeggkfkkajaaDoorPFnExactSolutionsx0
import Derived.Test.YtdikeggkfkkajaaDoorPFnExactSolutionsx6
import Derived.Test.YtdikeggkfkkajaaDoorPFnExactSolutionsx7
import Derived.Test.YtdikeggkfkkajaaDoorPFnExactSolutionsx8
import Derived.Test.YtdikeggkfkkajaaDoorPFnExactSolutionsx9
namespace Go.Proofs.YtdikeggkfkkajaaDoor.PFnExactSolutions
open Go.RowKit Go.Proofs.YtdikeggkfkkajaaDoorW.PrintWords Go.Proofs.YtdikeggkfkkajaaDoorW.PrintLast Go.Proofs.YtdikeggkfkkajaaDoorW.PrintMore
attribute [local go_sem] max2_int min2_int max_two min_two max_three min_three max_four min_four   -- for this text's walks alone
set_option linter.unusedVariables false
set_option linter.unusedSimpArgs false

/-! ### impl_fates_told: function 51 -/
set_option maxHeartbeats 4000000 in
theorem impl_fates_told.lam (a n : Int) (g : Nat) (W : World) (hg : W.heap[g]? = some (.cells #[.int .i64 a] 3 (0, 0))) : Calls Tryd.prog 86 #[.int .i64 n, .pointer (some ⟨g, 0, none⟩)] W fun e w' => e = .returned (.bool (decide (n ≤ a))) ∧ Drawn0 W w' := by
 have HD := Aside0.mk (Drawn0.refl W)
 have hcz : W.cell? ⟨g, 0, none⟩ = some (.int .i64 a) := (blk_cell hg 0).trans rfl
 clear hg
 go_enter Tryd.func86, Tryd.ntmps86
 go_wp2
 go_ret
 exact ⟨rfl, HD.out⟩
theorem impl_fates_told.del (a : Int) (rows : List Int) (A7 : Option Addr) (c7 g6 base : Nat) (w6 w7 : World) (eg : ∀ args w, (callFunc 86 args).run Tryd.prog w = .ok (.enter 86 args) w)
  (HO : Kd.R (Kd.int .i64) 3 w7 w6.heap.size (fun _ => True) (.slice A7 rows.length c7) rows) (X6 : w6.heap[g6]? = some (.cells #[.int .i64 a] 3 (0, 0))) (B7 : Below w6.heap.size w6 w7) :
  Calls Tryd.prog 84 #[.slice A7 rows.length c7, .func (.func 86) #[] #[.pointer (some ⟨g6, 0, none⟩)]] w7 fun e w' => ∃ A8 c8, e = .returned (.slice A8 (rows.filter fun n => !(decide (n ≤ a))).length c8) ∧ Below w6.heap.size w6 w' := by
 refine (slices_DeleteFunc_int_int_84.ownR2 (fun W => Below w6.heap.size w6 W ∧ w7.heap.size ≤ W.heap.size) 86 w6.heap.size #[.pointer (some ⟨g6, 0, none⟩)] (fun j => decide (rows.getD j 0 ≤ a)) (fun k => some k = (Value.slice A7 rows.length c7).ownBlock) rows (.slice A7 rows.length c7) w7 eg (Kd.R_tight rfl HO) ⟨B7, Nat.le_refl _⟩ ?_ ?_ ?_).mono ?_
 ·exact fun W W' h hg => ⟨h.1.grown hg h.1.size (Kd.R_base HO), Nat.le_trans h.2 hg.size⟩
 ·exact fun W _ k hk hne => absurd hk hne
 ·intro j u W hj hW hM
  have hu : [u] = [Value.int .i64 (rows.getD j 0)] := hM
  injection hu with hu
  rw [hu]
  refine (impl_fates_told.lam a _ g6 W (blk_below X6 hW.1)).mono ?_
  rintro e w' ⟨h1, h2⟩
  exact ⟨h1, ⟨below_step hW.1 h2.below, Nat.le_trans hW.2 h2.below.size⟩, fun g hg => h2.below.block g (Nat.lt_of_lt_of_le (Kd.R_lt HO g hg) hW.2)⟩
 ·rintro e w8 ⟨v8, rfl, ⟨hb8, _⟩, ho8, _⟩
  rw [Del.places_filter (0 : Int) (fun n => decide (n ≤ a)) rows] at ho8
  obtain ⟨A8, c8, e8⟩ := Kd.R_slice ho8
  subst e8
  exact ⟨A8, c8, rfl, hb8⟩
theorem impl_fates_told.sumF {r : List Int} (hr : Chomp.Ok r) : ∃ k, impl_sum.f k r = some r.sum := by
 have hb := Chomp.sum_le hr.2.2
 have h6 := hr.2.1
 have key : ∀ (d i k : Nat) (s : Int), i + d = r.length → d < k → s = (r.take i).sum → impl_sum.l0 k s r (r.length : Int) (i : Int) = some r.sum := by
  intro d
  induction d with
  | zero =>
   intro i k s hi hk hs
   obtain ⟨k, rfl⟩ : ∃ q, k = q + 1 := ⟨k - 1, by omega⟩
   obtain rfl : i = r.length := by omega
   simp only [impl_sum.l0]
   rw [if_neg (by omega), hs, List.take_length]
  | succ d ih =>
   intro i k s hi hk hs
   obtain ⟨k, rfl⟩ : ∃ q, k = q + 1 := ⟨k - 1, by omega⟩
   have hlt : i < r.length := by omega
   have ht : r.take (i + 1) = r.take i ++ [r[i]] := by rw [List.take_add_one, List.getElem?_eq_getElem hlt]; rfl
   have hs2 : (r.take (i + 1)).sum = s + r[i] := by rw [ht, List.sum_append, hs]; simp
   have hb2 := Chomp.sum_le (r := r.take (i + 1)) (fun x hx => hr.2.2 x (List.mem_of_mem_take hx))
   rw [List.length_take] at hb2
   have hrd : rd r (i : Int) = r[i] := PK.rd_at hlt
   simp only [impl_sum.l0]
   rw [if_pos (by omega), if_pos (by omega), if_pos (by omega), hrd, PK.w1 hlt (by omega), PK.wrap_in (by omega) (by omega)]
   exact ih (i + 1) k _ (by omega) (by omega) hs2.symm
 refine ⟨r.length + 1, ?_⟩
 unfold impl_sum.f
 have := key r.length 0 (r.length + 1) 0 (by omega) (by omega) (by simp)
 exact this
theorem impl_fates_told.rowF {r : List Int} (hr : Chomp.Ok r) {a : Int} (ha : 0 ≤ a) : impl_row.f r a = some (if a < (r.length : Int) then r.getD a.toNat 0 else 0) := by
 unfold impl_row.f
 by_cases c : a < (r.length : Int)
 ·rw [if_neg (by omega), if_pos ha, if_pos c, if_pos c]; rfl
 ·rw [if_pos (by omega), if_neg c]
set_option maxHeartbeats 8000000 in
set_option maxRecDepth 100000 in
theorem impl_fates_told.rec (kind a : Int) (rows : List Int) (A0 : Option Addr) (c0 b : Nat) (w : World) (hr : Chomp.Ok rows) (hC : Kd.C (Kd.int .i64) w A0 rows.length rows) (hc : rows.length ≤ c0) (hF : impl_fates_of.IsF w b) (ha : 0 ≤ a) :
  Calls Tryd.prog 51 #[.map (some b), .int .i64 kind, .int .i64 a, .slice A0 rows.length c0] w fun e w' => e = .returned (.int .i64 (Chomp.told kind a rows)) ∧ impl_fates_of.IsF w' b ∧ Kq.KQ w w' (fun q => q = b) := by
 have HR := Aside0.mk hr
 have HC := Aside0.mk hC
 have HCC := Aside0.mk hc
 have HF := Aside0.mk hF
 have HB := Aside0.mk (Below.refl w.heap.size w)
 have hfd := impl_fates_of.field0
 have HO := Aside0.mk (impl_fates_of.rec (Chomp.sq rows) rows A0 c0 b)
 by_cases c0_ : kind = 0
 ·subst c0_
  obtain ⟨ks, hs⟩ := impl_fates_told.sumF hr
  have HS := Aside0.mk (fun W (hW : Below w.heap.size w W) => impl_sum.calls ks A0 c0 rows _ W (Kd.C_below hC hW) hc hs)
  clear hr hC hc hF ha hs hfd HO
  have ht : Chomp.told 0 a rows = rows.sum := rfl
  rw [ht]
  go_enter Tryd.func51, Tryd.ntmps51
  go_wp2_with (first
   | ((with_reducible refine gate_dst (N := 6) rfl ?_); refine box_event ?hg (N := 6) ?hd (cs := #[.int .i64 a]) (t := 3) ?hr ?_; (case hd => rfl); (case hg => rfl); (case hr => first | (go_simp; done) | (go_simp; rfl)); intro g6 hg6 w6 hbox6 hb6; have G6 := Aside0.mk hg6; have X6 := Aside0.mk hbox6; have B6 := Aside0.mk hb6; clear hg6 hbox6 hb6; have hcz6_0 : w6.cell? ⟨g6, 0, none⟩ = some (.int .i64 a) := (blk_cell X6.out 0).trans rfl; have hfz6_0 := blk_frozen X6.out 0)
   | (go_at_call 80; go_loud (refine (HS.out _ B6.out).mono ?_; rintro e w7 ⟨rfl, hb⟩); have n0_ := Aside0.mk (below_step B6.out hb.below); clear hb))
  go_ret
  exact ⟨rfl, HF.out.below n0_.out, Kq.KQ.below (Kq.KQ.refl w (fun q => q = b)) n0_.out⟩
 by_cases c1_ : kind = 1
 ·subst c1_
  have hs := impl_fates_told.rowF hr ha
  have HS := Aside0.mk (fun W (hW : Below w.heap.size w W) => impl_row.calls A0 c0 rows a _ W (Kd.C_below hC hW) hc hs)
  clear hr hC hc hF ha hs hfd HO c0_
  have ht : Chomp.told 1 a rows = (if a < (rows.length : Int) then rows.getD a.toNat 0 else 0) := rfl
  rw [ht]
  generalize (if a < (rows.length : Int) then rows.getD a.toNat 0 else 0) = q at HS ⊢
  go_enter Tryd.func51, Tryd.ntmps51
  go_wp2_with (first
   | ((with_reducible refine gate_dst (N := 6) rfl ?_); refine box_event ?hg (N := 6) ?hd (cs := #[.int .i64 a]) (t := 3) ?hr ?_; (case hd => rfl); (case hg => rfl); (case hr => first | (go_simp; done) | (go_simp; rfl)); intro g6 hg6 w6 hbox6 hb6; have G6 := Aside0.mk hg6; have X6 := Aside0.mk hbox6; have B6 := Aside0.mk hb6; clear hg6 hbox6 hb6; have hcz6_0 : w6.cell? ⟨g6, 0, none⟩ = some (.int .i64 a) := (blk_cell X6.out 0).trans rfl; have hfz6_0 := blk_frozen X6.out 0)
   | (go_at_call 81; go_loud (refine (HS.out _ B6.out).mono ?_; rintro e w7 ⟨rfl, hb⟩); have n0_ := Aside0.mk (below_step B6.out hb.below); clear hb))
  go_ret
  exact ⟨rfl, HF.out.below n0_.out, Kq.KQ.below (Kq.KQ.refl w (fun q => q = b)) n0_.out⟩
 by_cases c2_ : kind = 2
 ·subst c2_
  have hbit : ∀ c : Bool, impl_bit.f c = some (if c = true then 1 else 0) := fun c => by cases c <;> rfl
  have HBT := Aside0.mk (fun c W => impl_bit.calls c _ W (hbit c))
  clear hr hC hc hF ha c0_ c1_ hbit
  have ht : Chomp.told 2 a rows = (if decide ((Chomp.H rows : Int) > 0) = true then 1 else 0) := by
   show (if 0 < Chomp.H rows then (1 : Int) else 0) = _
   by_cases c : 0 < Chomp.H rows
   ·rw [if_pos c, if_pos (decide_eq_true (by omega))]
   ·rw [if_neg c, if_neg (by simp; omega)]
  rw [ht]
  go_enter Tryd.func51, Tryd.ntmps51
  go_wp2_with (first
   | ((with_reducible refine gate_dst (N := 6) rfl ?_); refine box_event ?hg (N := 6) ?hd (cs := #[.int .i64 a]) (t := 3) ?hr ?_; (case hd => rfl); (case hg => rfl); (case hr => first | (go_simp; done) | (go_simp; rfl)); intro g6 hg6 w6 hbox6 hb6; have G6 := Aside0.mk hg6; have X6 := Aside0.mk hbox6; have B6 := Aside0.mk hb6; clear hg6 hbox6 hb6; have hcz6_0 : w6.cell? ⟨g6, 0, none⟩ = some (.int .i64 a) := (blk_cell X6.out 0).trans rfl; have hfz6_0 := blk_frozen X6.out 0)
   | (go_at_call 83; go_loud (refine (HO.out w6 HR.out (Nat.le_refl _) (Kd.C_below HC.out B6.out) HCC.out (HF.out.below B6.out)).mono ?_; rintro e w7 ⟨bi, rfl, hf7, hk7⟩); have F7 := Aside0.mk hf7; have K7 := Aside0.mk ((Kq.KQ.below (Kq.KQ.refl w (fun q => q = b)) B6.out).then_ hk7 (fun _ h => .inl h)); clear hf7 hk7)
   | (go_at_call 82; go_loud (refine (HBT.out _ _).mono ?_; rintro e w8 ⟨rfl, hb⟩); have n0_ := Aside0.mk hb.below; clear hb))
  all_goals
   go_ret
   exact ⟨rfl, F7.out.below n0_.out, Kq.KQ.below K7.out n0_.out⟩
 by_cases c3_ : kind = 3
 ·subst c3_
  clear hr hC hc hF ha c0_ c1_ c2_
  have ht : Chomp.told 3 a rows = (Chomp.H rows : Int) := rfl
  rw [ht]
  go_enter Tryd.func51, Tryd.ntmps51
  go_wp2_with (first
   | ((with_reducible refine gate_dst (N := 6) rfl ?_); refine box_event ?hg (N := 6) ?hd (cs := #[.int .i64 a]) (t := 3) ?hr ?_; (case hd => rfl); (case hg => rfl); (case hr => first | (go_simp; done) | (go_simp; rfl)); intro g6 hg6 w6 hbox6 hb6; have G6 := Aside0.mk hg6; have X6 := Aside0.mk hbox6; have B6 := Aside0.mk hb6; clear hg6 hbox6 hb6; have hcz6_0 : w6.cell? ⟨g6, 0, none⟩ = some (.int .i64 a) := (blk_cell X6.out 0).trans rfl; have hfz6_0 := blk_frozen X6.out 0)
   | (go_at_call 83; go_loud (refine (HO.out w6 HR.out (Nat.le_refl _) (Kd.C_below HC.out B6.out) HCC.out (HF.out.below B6.out)).mono ?_; rintro e w7 ⟨bi, rfl, hf7, hk7⟩); have F7 := Aside0.mk hf7; have K7 := Aside0.mk ((Kq.KQ.below (Kq.KQ.refl w (fun q => q = b)) B6.out).then_ hk7 (fun _ h => .inl h)); clear hf7 hk7))
  go_ret
  exact ⟨rfl, F7.out, K7.out⟩
 by_cases c4_ : kind = 4
 ·subst c4_
  have hown : slices_Clone_int_int.f rows = some rows := by unfold slices_Clone_int_int.f; rw [if_pos (by have := hr.2.1; omega)]
  have HCL := Aside0.mk (fun W (hW : Below w.heap.size w W) => slices_Clone_int_int.calls A0 c0 rows rows W (Kd.C_below hC hW) hc hown)
  have eg := enters_of Tryd.func86 (by kernel_rfl) rfl
  have EG := Aside0.mk eg
  clear hr hC hc hF ha c0_ c1_ c2_ c3_ hown hfd HO eg
  have ht : Chomp.told 4 a rows = ((rows.filter fun n => !(decide (n ≤ a))).length : Int) := rfl
  rw [ht]
  go_enter Tryd.func51, Tryd.ntmps51
  go_wp2_with (first
   | ((with_reducible refine gate_dst (N := 6) rfl ?_); refine box_event ?hg (N := 6) ?hd (cs := #[.int .i64 a]) (t := 3) ?hr ?_; (case hd => rfl); (case hg => rfl); (case hr => first | (go_simp; done) | (go_simp; rfl)); intro g6 hg6 w6 hbox6 hb6; have G6 := Aside0.mk hg6; have X6 := Aside0.mk hbox6; have B6 := Aside0.mk hb6; clear hg6 hbox6 hb6; have hcz6_0 : w6.cell? ⟨g6, 0, none⟩ = some (.int .i64 a) := (blk_cell X6.out 0).trans rfl; have hfz6_0 := blk_frozen X6.out 0)
   | (go_at_call 85; go_loud (refine (HCL.out _ B6.out).mono ?_; rintro e w7 ⟨v7, rfl, ho, hb⟩); obtain ⟨A7, c7, e7⟩ := Kd.R_slice ho; subst e7; have HO := Aside0.mk ho; have B7 := Aside0.mk (below_step B6.out hb); have X7 := Aside0.mk (blk_below X6.out hb); have L7 := Aside0.mk (blk_lt X6.out); have BB7 := Aside0.mk hb; clear ho hb hcz6_0 hfz6_0)
   | (go_at_call 84; go_loud (refine (impl_fates_told.del a rows A7 c7 g6 w6.heap.size w6 w7 EG.out HO.out X6.out BB7.out).mono ?_; rintro e w8 ⟨A8, c8, rfl, hb8⟩); have B8 := Aside0.mk hb8; clear hb8))
  go_ret
  exact ⟨rfl, HF.out.below (below_step B6.out B8.out), Kq.KQ.below (Kq.KQ.refl w (fun q => q = b)) (below_step B6.out B8.out)⟩
 have b0 : (kind == 0) = false := beq_eq_false_iff_ne.mpr c0_
 have b1 : (kind == 1) = false := beq_eq_false_iff_ne.mpr c1_
 have b2 : (kind == 2) = false := beq_eq_false_iff_ne.mpr c2_
 have b3 : (kind == 3) = false := beq_eq_false_iff_ne.mpr c3_
 have b4 : (kind == 4) = false := beq_eq_false_iff_ne.mpr c4_
 have ht : Chomp.told kind a rows = (((Chomp.moves rows).filter fun m => !(impl_fates_good.sel rows m)).length : Int) := by
  unfold Chomp.told
  rw [if_neg c0_, if_neg c1_, if_neg c2_, if_neg c3_, if_neg c4_]
  rfl
 rw [ht]
 have HG := Aside0.mk (impl_fates_good.rec rows A0 c0 b)
 clear hr hC hc hF ha hfd HO ht
 go_enter Tryd.func51, Tryd.ntmps51
 go_wp2_with (first
  | ((with_reducible refine gate_dst (N := 6) rfl ?_); refine box_event ?hg (N := 6) ?hd (cs := #[.int .i64 a]) (t := 3) ?hr ?_; (case hd => rfl); (case hg => rfl); (case hr => first | (go_simp; done) | (go_simp; rfl)); intro g6 hg6 w6 hbox6 hb6; have G6 := Aside0.mk hg6; have X6 := Aside0.mk hbox6; have B6 := Aside0.mk hb6; clear hg6 hbox6 hb6; have hcz6_0 : w6.cell? ⟨g6, 0, none⟩ = some (.int .i64 a) := (blk_cell X6.out 0).trans rfl; have hfz6_0 := blk_frozen X6.out 0)
  | (go_at_call 87; go_loud (refine (HG.out w6 HR.out (Kd.C_below HC.out B6.out) HCC.out (HF.out.below B6.out)).mono ?_; rintro e w7 ⟨v7, rfl, hs7, hf7, hk7⟩); have F7 := Aside0.mk hf7; have K7 := Aside0.mk ((Kq.KQ.below (Kq.KQ.refl w (fun q => q = b)) B6.out).then_ hk7 (fun _ h => .inl h)); obtain ⟨A7, c7, e7⟩ := Kd.S_slice hs7; subst e7; clear hs7 hf7 hk7))
 go_ret
 exact ⟨rfl, F7.out, K7.out⟩

/-! ### impl_fates_fits: function 75 -/
set_option maxHeartbeats 8000000 in
set_option maxRecDepth 100000 in
theorem impl_fates_fits.rec (kind a bb : Int) (rows : List Int) (A0 : Option Addr) (c0 b : Nat) (w : World) (hr : Chomp.Ok rows) (hC : Kd.C (Kd.int .i64) w A0 rows.length rows) (hc : rows.length ≤ c0) (hF : impl_fates_of.IsF w b) (ha : 0 ≤ a) :
  Calls Tryd.prog 75 #[.map (some b), .agg #[.int .i64 kind, .int .i64 a, .int .i64 bb], .slice A0 rows.length c0] w fun e w' => e = .returned (.bool (Chomp.told kind a rows == bb)) ∧ impl_fates_of.IsF w' b ∧ Kq.KQ w w' (fun q => q = b) := by
 have HT := Aside0.mk (fun W h1 h2 => impl_fates_told.rec kind a rows A0 c0 b W hr h1 hc h2 ha)
 have HC := Aside0.mk hC
 have HF := Aside0.mk hF
 have BW := Aside0.mk hF.lt
 clear hr hC hc hF ha
 go_enter Tryd.func75, Tryd.ntmps75
 go_wp2_with ((with_reducible refine gate_dst (N := 4) rfl ?_); refine box_event ?hg (N := 4) ?hd (cs := #[.int .i64 kind, .int .i64 a, .int .i64 bb]) (t := 69) ?hr ?_; (case hd => rfl); (case hg => rfl); (case hr => first | (go_simp; done) | (go_simp; rfl)); intro g4 hg4 w4 hbox4 hb4; have G4 := Aside0.mk hg4; have X4 := Aside0.mk hbox4; have B4 := Aside0.mk hb4; clear hg4 hbox4 hb4; have hcz4_0 : w4.cell? ⟨g4, 0, none⟩ = some (.int .i64 kind) := (blk_cell X4.out 0).trans rfl; have hfz4_0 := blk_frozen X4.out 0; have hcz4_1 : w4.cell? ⟨g4, 1, none⟩ = some (.int .i64 a) := (blk_cell X4.out 1).trans rfl; have hfz4_1 := blk_frozen X4.out 1; have hcz4_2 : w4.cell? ⟨g4, 2, none⟩ = some (.int .i64 bb) := (blk_cell X4.out 2).trans rfl; have hfz4_2 := blk_frozen X4.out 2)
 have hS : (w4.drew.heap[g4]? = some (.cells #[.int .i64 kind, .int .i64 a, .int .i64 bb] 69 (0, 0))) := X4.out
 have F8 := (HF.out.below B4.out).kept (w' := w4.drew) rfl
 have C8 : Kd.C (Kd.int .i64) w4.drew A0 rows.length rows := Kd.C_below HC.out (below_drew B4.out)
 have K8 := Kq.KQ.drew (Kq.KQ.below (Kq.KQ.refl w (fun q => q = b)) B4.out)
 have HN : ¬ g4 = b := by have := G4.out; have := BW.out; omega
 clear hcz4_0 hcz4_1 hcz4_2 hfz4_0 hfz4_1 hfz4_2 X4 B4 G4 HF HC
 refine start_ (n := 11) (S := fun w' => (w'.heap[g4]? = some (.cells #[.int .i64 kind, .int .i64 a, .int .i64 bb] 69 (0, 0)))) (ds := []) #[false, false, false, false, false, false, false, false, false, false, false] (by kernel_rfl) rfl rfl hS (fun hHeld => ?_)
 generalize w4.drew = we at hS F8 C8 K8 hHeld ⊢
 refine pure_ (i := 0) (N := some 7) (v := ?_) (a' := ?_) #[true, false, false, false, false, false, false, false, false, false, false] rfl rfl (by kernel_rfl) (fun _ _ _ h => h) (Or.inl ⟨by rfl, ?_⟩) ?_ ?_
 rotate_left
 ·intro w'
  go_simp
  with_reducible rfl
 rotate_left
 ·simp only [Act.put, Lam.pa, Lam.pb, Lam.pc, i64_w, i32_w]
  rfl
 refine pure_ (i := 1) (N := some 8) (v := ?_) (a' := ?_) #[true, true, false, false, false, false, false, false, false, false, false] rfl rfl (by kernel_rfl) (fun _ _ _ h => h) (Or.inl ⟨by rfl, ?_⟩) ?_ ?_
 rotate_left
 ·intro w'
  go_simp
  with_reducible rfl
 rotate_left
 ·simp only [Act.put, Lam.pa, Lam.pb, Lam.pc, i64_w, i32_w]
  rfl
 refine take_ (i := 2) (N := some 9) (v := ?_) (a' := ?_) #[true, true, true, false, false, false, false, false, false, false, false] rfl rfl (by kernel_rfl) (fun _ _ _ h => h) (Or.inl ⟨by rfl, ?_⟩) hHeld ?_ ?_
 rotate_left
 ·rintro w' s0
  have s1 := (blk_cell s0 0).trans rfl
  go_simp
  with_reducible rfl
 rotate_left
 ·simp only [Act.put, Lam.pa, Lam.pb, Lam.pc, i64_w, i32_w]
  rfl
 refine pure_ (i := 3) (N := some 10) (v := ?_) (a' := ?_) #[true, true, true, true, false, false, false, false, false, false, false] rfl rfl (by kernel_rfl) (fun _ _ _ h => h) (Or.inl ⟨by rfl, ?_⟩) ?_ ?_
 rotate_left
 ·intro w'
  go_simp
  with_reducible rfl
 rotate_left
 ·simp only [Act.put, Lam.pa, Lam.pb, Lam.pc, i64_w, i32_w]
  rfl
 refine take_ (i := 4) (N := some 11) (v := ?_) (a' := ?_) #[true, true, true, true, true, false, false, false, false, false, false] rfl rfl (by kernel_rfl) (fun _ _ _ h => h) (Or.inl ⟨by rfl, ?_⟩) hHeld ?_ ?_
 rotate_left
 ·rintro w' s0
  have s1 := (blk_cell s0 1).trans rfl
  go_simp
  with_reducible rfl
 rotate_left
 ·simp only [Act.put, Lam.pa, Lam.pb, Lam.pc, i64_w, i32_w]
  rfl
 refine pure_ (i := 5) (N := some 12) (v := ?_) (a' := ?_) #[true, true, true, true, true, true, false, false, false, false, false] rfl rfl (by kernel_rfl) (fun _ _ _ h => h) (Or.inl ⟨by rfl, ?_⟩) ?_ ?_
 rotate_left
 ·intro w'
  go_simp
  with_reducible rfl
 rotate_left
 ·simp only [Act.put, Lam.pa, Lam.pb, Lam.pc, i64_w, i32_w]
  rfl
 refine pure_ (i := 7) (N := some 14) (v := ?_) (a' := ?_) #[true, true, true, true, true, true, false, true, false, false, false] rfl rfl (by kernel_rfl) (fun _ _ _ h => h) (Or.inl ⟨by rfl, ?_⟩) ?_ ?_
 rotate_left
 ·intro w'
  go_simp
  with_reducible rfl
 rotate_left
 ·simp only [Act.put, Lam.pa, Lam.pb, Lam.pc, i64_w, i32_w]
  rfl
 refine take_ (i := 8) (N := some 15) (v := ?_) (a' := ?_) #[true, true, true, true, true, true, false, true, true, false, false] rfl rfl (by kernel_rfl) (fun _ _ _ h => h) (Or.inl ⟨by rfl, ?_⟩) hHeld ?_ ?_
 rotate_left
 ·rintro w' s0
  have s1 := (blk_cell s0 2).trans rfl
  go_simp
  with_reducible rfl
 rotate_left
 ·simp only [Act.put, Lam.pa, Lam.pb, Lam.pc, i64_w, i32_w]
  rfl
 refine one_ (i := 6) (N := some 13) #[true, true, true, true, true, true, true, true, true, false, false] rfl rfl (by kernel_rfl) (by decide) (fun K hK => ?_)
 refine goes_ Tryd.func51 (by kernel_rfl) rfl #[.map (some b), .int .i64 kind, .int .i64 a, .slice A0 rows.length c0] (by rfl) rfl rfl (by (try simp only [List.map_toArray, List.map_cons, List.map_nil]); first | done | rfl | (simp [Act.eval]; done)) ?_
 refine (HT.out we C8 F8).mono ?_
 rintro e w2 ⟨rfl, F2, k2⟩
 refine ⟨_, rfl, ?_⟩
 refine hK.out _ _ (Kq.blk_kq hHeld k2 HN) (fun hHeld => ?_)
 clear hK K
 refine norm_ (a' := ?_) ?_ ?_
 rotate_left
 ·show Act.put _ (some 13) _ = _
  simp only [Act.put, Lam.pa, Lam.pb, Lam.pc, i64_w, i32_w]
  rfl
 refine pure_ (i := 9) (N := some 16) (v := ?_) (a' := ?_) #[true, true, true, true, true, true, true, true, true, true, false] rfl rfl (by kernel_rfl) (fun _ _ _ h => h) (Or.inl ⟨by rfl, ?_⟩) ?_ ?_
 rotate_left
 ·intro w'
  go_simp
  with_reducible rfl
 rotate_left
 ·simp only [Act.put, Lam.pa, Lam.pb, Lam.pc, i64_w, i32_w]
  rfl
 refine pure_ (i := 10) (N := some 6) (v := ?_) (a' := ?_) #[true, true, true, true, true, true, true, true, true, true, true] rfl rfl (by kernel_rfl) (fun _ _ _ h => h) (Or.inl ⟨by rfl, ?_⟩) ?_ ?_
 rotate_left
 ·intro w'
  go_simp
  with_reducible rfl
 rotate_left
 ·simp only [Act.put, Lam.pa, Lam.pb, Lam.pc, i64_w, i32_w]
  rfl
 refine done_ (by kernel_rfl) ?_
 have KF := Aside0.mk (K8.then_ k2 (fun _ h => .inl h))
 have FF := Aside0.mk F2
 clear hHeld hS F8 C8 K8 F2 k2
 go_wp2
 go_ret
 exact ⟨rfl, FF.out, KF.out⟩

/-! ### impl_solutions: function 39 -/
def impl_solutions.fit (c : S69) (r : List Int) : Bool := Chomp.told c.f0 c.f1 r == c.f2
def impl_solutions.bad (l : List S69) (r : List Int) : Bool := l.any fun c => !(impl_solutions.fit c r)
def impl_solutions.all (l : List S69) : List (List Int) := (All.all 5 4).filter fun r => !(impl_solutions.bad l r)
set_option maxHeartbeats 4000000 in
set_option maxRecDepth 100000 in
theorem impl_solutions.lam2 (x : S69) (rows : List Int) (A0 : Option Addr) (c0 b g3 gr : Nat) (W : World) (hr : Chomp.Ok rows) (hC : Kd.C (Kd.int .i64) W A0 rows.length rows) (hc : rows.length ≤ c0) (hF : impl_fates_of.IsF W b) (ha : 0 ≤ x.f1)
  (h3 : W.heap[g3]? = some (.cells #[.map (some b)] 73 (0, 0))) (hg : W.heap[gr]? = some (.cells #[.slice A0 rows.length c0] 38 (0, 0))) :
  Calls Tryd.prog 74 #[.agg #[.int .i64 x.f0, .int .i64 x.f1, .int .i64 x.f2], .pointer (some ⟨g3, 0, none⟩), .pointer (some ⟨gr, 0, none⟩)] W fun e w' => e = .returned (.bool (!(impl_solutions.fit x rows))) ∧ impl_fates_of.IsF w' b ∧ Kq.KQ W w' (fun q => q = b) := by
 have HT := Aside0.mk (fun w (hb : Below W.heap.size W w) => impl_fates_fits.rec x.f0 x.f1 x.f2 rows A0 c0 b w hr (Kd.C_below hC hb) hc (hF.below hb) ha)
 have H3 := Aside0.mk h3
 have HG := Aside0.mk hg
 clear hr hC hc hF ha h3 hg
 unfold impl_solutions.fit
 obtain ⟨xa, xb, xc⟩ := x
 dsimp only at HT ⊢
 generalize (Chomp.told xa xb rows == xc) = q at HT ⊢
 go_enter Tryd.func74, Tryd.ntmps74
 go_wp2_with (first
  | (((with_reducible refine gate_dst (N := 3) rfl ?_); refine box_event ?hg (N := 3) ?hd (cs := #[.int .i64 xa, .int .i64 xb, .int .i64 xc]) (t := 69) ?hr ?_; (case hd => rfl); (case hg => rfl); (case hr => first | (go_simp; done) | (go_simp; rfl)); intro g5 hg5 w5 hbox5 hb5; have G5 := Aside0.mk hg5; have X5 := Aside0.mk hbox5; have B5 := Aside0.mk hb5; clear hg5 hbox5 hb5; have hcz5_0 : w5.cell? ⟨g5, 0, none⟩ = some (.int .i64 xa) := (blk_cell X5.out 0).trans rfl; have hfz5_0 := blk_frozen X5.out 0; have hcz5_1 : w5.cell? ⟨g5, 1, none⟩ = some (.int .i64 xb) := (blk_cell X5.out 1).trans rfl; have hfz5_1 := blk_frozen X5.out 1; have hcz5_2 : w5.cell? ⟨g5, 2, none⟩ = some (.int .i64 xc) := (blk_cell X5.out 2).trans rfl; have hfz5_2 := blk_frozen X5.out 2); have hcz3 : w5.cell? ⟨g3, 0, none⟩ = some (.map (some b)) := (blk_cell (blk_below H3.out B5.out) 0).trans rfl; have hczr : w5.cell? ⟨gr, 0, none⟩ = some (.slice A0 rows.length c0) := (blk_cell (blk_below HG.out B5.out) 0).trans rfl)
  | (go_at_call 75; go_loud (refine (HT.out _ B5.out).mono ?_; rintro e w8 ⟨rfl, hf8, hk8⟩); have F8 := Aside0.mk hf8; have K8 := Aside0.mk ((Kq.KQ.below (Kq.KQ.refl W (fun q => q = b)) B5.out).then_ hk8 (fun _ h => .inl h)); clear hf8 hk8))
 go_ret
 exact ⟨rfl, F8.out, K8.out⟩
set_option maxHeartbeats 4000000 in
set_option maxRecDepth 100000 in
theorem impl_solutions.lam1 (l0 : List S69) (A1 : Option Addr) (c1 : Nat) (rows : List Int) (A0 : Option Addr) (c0 b g1 g3 : Nat) (W : World) (hr : Chomp.Ok rows) (hC : Kd.C (Kd.int .i64) W A0 rows.length rows) (hc : rows.length ≤ c0) (hF : impl_fates_of.IsF W b)
  (hl : (l0.length : Int) ≤ 9223372036854775807) (hcl : ∀ W', Kq.KQ W W' (fun q => q = b) → Kd.C k69 W' A1 l0.length l0) (hpos : ∀ c ∈ l0, 0 ≤ c.f1)
  (h1 : W.heap[g1]? = some (.cells #[.slice A1 l0.length c1] 29 (0, 0))) (h3 : W.heap[g3]? = some (.cells #[.map (some b)] 73 (0, 0))) (eg : ∀ args w, (callFunc 74 args).run Tryd.prog w = .ok (.enter 74 args) w) :
  Calls Tryd.prog 73 #[.slice A0 rows.length c0, .pointer (some ⟨g1, 0, none⟩), .pointer (some ⟨g3, 0, none⟩)] W fun e w' => e = .returned (.bool (impl_solutions.bad l0 rows)) ∧ impl_fates_of.IsF w' b ∧ Kq.KQ W w' (fun q => q = b) := by
 have HR := Aside0.mk hr
 have HC := Aside0.mk hC
 have HCC := Aside0.mk hc
 have HF := Aside0.mk hF
 have HL := Aside0.mk hl
 have HCL := Aside0.mk hcl
 have HP := Aside0.mk hpos
 have H1 := Aside0.mk h1
 have H3 := Aside0.mk h3
 have EG := Aside0.mk eg
 clear hr hC hc hF hcl hpos h1 h3 eg
 go_enter Tryd.func73, Tryd.ntmps73
 go_wp2_with (first
  | (((with_reducible refine gate_dst (N := 3) rfl ?_); refine box_event ?hg (N := 3) ?hd (cs := #[.slice A0 rows.length c0]) (t := 38) ?hr ?_; (case hd => rfl); (case hg => rfl); (case hr => first | (go_simp; done) | (go_simp; rfl)); intro g5 hg5 w5 hbox5 hb5; have G5 := Aside0.mk hg5; have X5 := Aside0.mk hbox5; have B5 := Aside0.mk hb5; clear hg5 hbox5 hb5; have hcz5_0 : w5.cell? ⟨g5, 0, none⟩ = some (.slice A0 rows.length c0) := (blk_cell X5.out 0).trans rfl; have hfz5_0 := blk_frozen X5.out 0); have hcz1 : w5.cell? ⟨g1, 0, none⟩ = some (.slice A1 l0.length c1) := (blk_cell (blk_below H1.out B5.out) 0).trans rfl)
  | (go_at_call 68; go_loud (refine (impl_Clue_68.callsI A1 c1 l0 74 #[.pointer (some ⟨g3, 0, none⟩), .pointer (some ⟨g5, 0, none⟩)] (fun c => !(impl_solutions.fit c rows)) (fun w => impl_fates_of.IsF w b ∧ Kq.KQ w5 w (fun q => q = b)) w5 EG.out HL.out (fun w h => HCL.out w ((Kq.KQ.below (Kq.KQ.refl W (fun q => q = b)) B5.out).then_ h.2 (fun _ h => .inl h))) ⟨HF.out.below B5.out, Kq.KQ.refl _ _⟩ (fun w x hx h => (impl_solutions.lam2 x rows A0 c0 b g3 g5 w HR.out (Fmap.C_kq_map (Kd.C_below HC.out B5.out) (HF.out.below B5.out) h.2) HCC.out h.1 (HP.out x hx) (Kq.blk_kq (blk_below H3.out B5.out) h.2 (fun e => (HF.out.not_cells H3.out) e)) (Kq.blk_kq X5.out h.2 (fun e => ((HF.out.below B5.out).not_cells X5.out) e))).mono (fun e w' hh => ⟨hh.1, hh.2.1, h.2.then_ hh.2.2 (fun _ h => .inl h)⟩))).mono ?_; rintro e w8 ⟨rfl, hf8, hk8⟩); have F8 := Aside0.mk hf8; have K8 := Aside0.mk ((Kq.KQ.below (Kq.KQ.refl W (fun q => q = b)) B5.out).then_ hk8 (fun _ h => .inl h)); clear hf8 hk8))
 go_ret
 exact ⟨rfl, F8.out, K8.out⟩
theorem impl_solutions.del (l0 : List S69) (A1 : Option Addr) (c1 b g1 g3 base : Nat) (L : List (List Int)) (v : Value) (w : World) (hl : (l0.length : Int) ≤ 9223372036854775807)
  (hcl : ∀ W, Kq.KQ w W (fun q => q = b ∨ some q = v.ownBlock) → Kd.C k69 W A1 l0.length l0) (hpos : ∀ c ∈ l0, 0 ≤ c.f1) (hF : impl_fates_of.IsF w b)
  (h1 : w.heap[g1]? = some (.cells #[.slice A1 l0.length c1] 29 (0, 0))) (h3 : w.heap[g3]? = some (.cells #[.map (some b)] 73 (0, 0))) (o1 : g1 < base) (o3 : g3 < base) (ob : b < base)
  (HS : Kd.S (Kd.slice 3 (Kd.int .i64)) 38 w base (fun k => base ≤ k) v L) (hok : ∀ r ∈ L, Chomp.Ok r)
  (eg : ∀ args w, (callFunc 73 args).run Tryd.prog w = .ok (.enter 73 args) w) (eg2 : ∀ args w, (callFunc 74 args).run Tryd.prog w = .ok (.enter 74 args) w) :
  Calls Tryd.prog 71 #[v, .func (.func 73) #[] #[.pointer (some ⟨g1, 0, none⟩), .pointer (some ⟨g3, 0, none⟩)]] w fun e w' => ∃ v' : Value, e = .returned v' ∧ Kd.S (Kd.slice 3 (Kd.int .i64)) 38 w' base (fun _ => True) v' (L.filter fun r => !(impl_solutions.bad l0 r)) ∧ Kq.KQ w w' (fun q => q = b ∨ some q = v.ownBlock) := by
 have hown : ∀ k, v.ownBlock = some k → base ≤ k := Kd.S_base HS
 have hbo : some b ≠ v.ownBlock := fun e => by have := hown b e.symm; omega
 have hne : ∀ g, g < base → ¬ g = b → ¬ (g = b ∨ some g = v.ownBlock) := fun g h1 h2 h => by
  rcases h with h | h
  ·exact h2 h
  ·have := hown g h.symm; omega
 refine (slices_DeleteFunc_int_int_71.ownS2 (fun W => impl_fates_of.IsF W b ∧ Kq.KQ w W (fun q => q = b ∨ some q = v.ownBlock)) 73 base #[.pointer (some ⟨g1, 0, none⟩), .pointer (some ⟨g3, 0, none⟩)] (fun j => impl_solutions.bad l0 (L.getD j [])) (fun k => base ≤ k) L v w eg HS ⟨hF, Kq.KQ.refl _ _⟩ ?_ ?_ ?_).mono ?_
 ·exact fun W W' h hg => ⟨h.1.kept (hg.block b h.1.lt hbo), h.2.then_ (Fmap.kq_of_grown hg) (fun q hq => .inl (.inr hq))⟩
 ·exact fun W h k hk hne2 hlt => h.2.k.2 k hlt (by
   rintro (e | e)
   ·omega
   ·exact hne2 e)
 ·intro j u W hj hW hM
  obtain ⟨vm, hu, hRm⟩ := hM
  have hmem := Lam.getD_mem hj ([] : List Int)
  injection hu with hu
  subst hu
  generalize L.getD j [] = rows at hRm hmem ⊢
  obtain ⟨A0, c0, rfl⟩ := Kd.R_slice hRm
  have hRW := Kq.R_kq hRm hW.2 (fun k hk => by
   rintro (e | e)
   ·have := hk.1; omega
   ·exact hk.2 e)
  obtain ⟨_, r1, r2⟩ := Kd.R_reads' hRW
  refine (impl_solutions.lam1 l0 A1 c1 rows A0 c0 b g1 g3 W (hok rows hmem) r2 r1 hW.1 hl (fun W' hk => hcl W' (hW.2.then_ hk (fun q hq => .inl (.inl hq)))) hpos (Kq.blk_kq h1 hW.2 (hne g1 o1 (hF.not_cells h1))) (Kq.blk_kq h3 hW.2 (hne g3 o3 (hF.not_cells h3))) eg2).mono ?_
  rintro e w' ⟨rfl, h6, h7⟩
  exact ⟨rfl, ⟨h6, hW.2.then_ h7 (fun q hq => .inl (.inl hq))⟩, fun g hg => h7.k.2 g (Nat.lt_of_lt_of_le (Kd.S_lt HS g hg) hW.2.size) (show ¬ g = b from fun e => hbo (by rw [← e, hg]))⟩
 ·rintro e w' ⟨v', rfl, h6, h7, _⟩
  refine ⟨v', rfl, ?_, h6.2⟩
  rw [Del.places_filter ([] : List Int) (fun m => impl_solutions.bad l0 m) L] at h7
  exact Kd.S_mono h7 (fun _ _ => trivial)
def impl_solutions.f (l0 : List (S69)) : Option ((List (List Int))) := if l0.all (fun c => decide (0 ≤ c.f1)) then some (impl_solutions.all l0) else none
set_option maxHeartbeats 8000000 in
set_option maxRecDepth 100000 in
theorem impl_solutions.calls (A0 : Option Addr) (c0 : Nat) (l0 : List (S69)) (r : List (List Int)) (w : World) (hr0 : Kd.C k69 w A0 l0.length l0) (hc0 : l0.length ≤ c0) (h : impl_solutions.f l0 = some r) :
  Calls Tryd.prog 39 #[.slice A0 l0.length c0] w fun e w' => ∃ v0_ : Value, e = .returned (v0_) ∧ Kd.S (Kd.slice 3 (Kd.int .i64)) 38 w' w.heap.size (fun _ => True) v0_ r ∧ Below w.heap.size w w' := by
 have hcond : l0.all (fun c => decide (0 ≤ c.f1)) = true := by
  by_cases hc : l0.all (fun c => decide (0 ≤ c.f1)) = true
  ·exact hc
  ·simp only [impl_solutions.f, if_neg hc] at h; cases h
 simp only [impl_solutions.f, if_pos hcond] at h
 obtain rfl := Option.some.inj h
 have hpos : ∀ c ∈ l0, 0 ≤ c.f1 := fun c hc => by simpa using List.all_eq_true.1 hcond c hc
 have hch : impl_chomps.f 5 4 = some (All.all 5 4) := by
  unfold impl_chomps.f
  rw [if_pos (by omega)]
  exact All.look_all 5 4 (by decide)
 have HCH := Aside0.mk (fun W => impl_chomps.calls 5 4 _ W hch)
 have HC := Aside0.mk hr0
 have HP := Aside0.mk hpos
 have HL := Aside0.mk (show (l0.length : Int) ≤ 9223372036854775807 by have := hr0.2.1; omega)
 have eg := enters_of Tryd.func73 (by kernel_rfl) rfl
 have eg2 := enters_of Tryd.func74 (by kernel_rfl) rfl
 have EG := Aside0.mk eg
 have EG2 := Aside0.mk eg2
 have HB := Aside0.mk (Below.refl w.heap.size w)
 clear hr0 hc0 h hcond hpos hch eg eg2
 go_enter Tryd.func39, Tryd.ntmps39
 go_wp2_with (first
  | (((with_reducible refine gate_dst (N := 1) rfl ?_); refine box_event ?hg (N := 1) ?hd (cs := #[.slice A0 l0.length c0]) (t := 29) ?hr ?_; (case hd => rfl); (case hg => rfl); (case hr => first | (go_simp; done) | (go_simp; rfl)); intro g1 hg1 w1 hbox1 hb1; have G1 := Aside0.mk hg1; have X1 := Aside0.mk hbox1; have B1 := Aside0.mk hb1; clear hg1 hbox1 hb1; have hcz1_0 : w1.cell? ⟨g1, 0, none⟩ = some (.slice A0 l0.length c0) := (blk_cell X1.out 0).trans rfl; have hfz1_0 := blk_frozen X1.out 0); clear hcz1_0 hfz1_0)
  | ((with_reducible refine gate_dst (N := 4) rfl ?_); refine Fmap.wp_makeM rfl rfl 73 rfl Tryd.prog 9 impl_fates_of.anyEl impl_fates_of.Q ?_; intro gm wm hgm hset hbm; have GM := Aside0.mk hgm; have BM := Aside0.mk (below_step B1.out hbm); have F4 := Aside0.mk hset; have Y1 := Aside0.mk (blk_below X1.out hbm); clear hgm hset hbm)
  | ((with_reducible refine gate_dst (N := 3) rfl ?_); refine box_event ?hg (N := 3) ?hd (cs := #[.map none]) (t := 73) ?hr ?_; (case hd => rfl); (case hg => rfl); (case hr => first | (go_simp; done) | (go_simp; rfl)); intro g3 hg3 w3 hbox3 hb3; have G3 := Aside0.mk hg3; have X3 := Aside0.mk hbox3; have B3 := Aside0.mk hb3; have hcz3_0 : w3.cell? ⟨g3, 0, none⟩ = some (.map none) := (blk_cell X3.out 0).trans rfl; have hfz3_0 := blk_frozen X3.out 0; clear hg3 hbox3 hb3)
  | (go_at_call 72; go_loud (refine (HCH.out _).mono ?_; rintro e w5 ⟨v5, rfl, ho, hb⟩; have Z3 := Aside0.mk (blk_below (blk_put (cs := #[.map none]) X3.out 0 (.map (some gm)) rfl) hb); have NE := Aside0.mk ((F4.out.below B3.out).not_cells X3.out); have B35 := Aside0.mk (below_set (g := g3) (j := 0) (v := .map (some gm)) (below_step BM.out B3.out) (by rw [G3.out]; exact BM.out.size)); have Z1 := Aside0.mk (blk_below (blk_far (blk_below Y1.out B3.out) (p := ⟨g3, 0, none⟩) (show g1 ≠ g3 from fun e => by have h1 := blk_lt Y1.out; have h2 := G3.out; omega) (.map (some gm))) hb); have F5 := Aside0.mk (((F4.out.below B3.out).set (p := ⟨g3, 0, none⟩) (show gm ≠ g3 from fun e => NE.out e.symm) (.map (some gm))).below hb); have B5 := Aside0.mk (below_step B35.out hb); have SO := Aside0.mk ho; clear ho hb))
  | (go_at_call 71; go_loud (refine (impl_solutions.del l0 A0 c0 gm g1 g3 (w3.setCell ⟨g3, 0, none⟩ (.map (some gm))).heap.size (All.all 5 4) v5 w5 HL.out (fun W hk => Kd.C_below HC.out (Kq.KQ.to_below B5.out hk (fun q hq => by
     rcases hq with hq | hq
     ·rw [hq, GM.out]; exact B1.out.size
     ·exact Nat.le_trans B35.out.size (Kd.S_base SO.out q hq.symm)))) HP.out F5.out Z1.out Z3.out (Nat.lt_of_lt_of_le (blk_lt Y1.out) (Nat.le_trans B3.out.size (by simp [World.setCell]))) (by have := blk_lt X3.out; simpa [World.setCell] using this) (Nat.lt_of_lt_of_le F4.out.lt (Nat.le_trans B3.out.size (by simp [World.setCell]))) (Kd.S_mono (Kd.S_bound SO.out) (fun k hk => hk.2.1)) (fun r hr => All.ok_all hr (by decide) (by decide)) EG.out EG2.out).mono ?_; rintro e w9 ⟨v9, rfl, hs9, hk9⟩)))
 go_ret
 exact ⟨_, rfl, Kd.S_lower hs9 B35.out.size, Kq.KQ.to_below B5.out hk9 (fun q hq => by
  rcases hq with hq | hq
  ·rw [hq, GM.out]; exact B1.out.size
  ·exact Nat.le_trans B35.out.size (Kd.S_base SO.out q hq.symm))⟩

/-! ### impl_Solutions: function 11 -/
def impl_Solutions.f (l0_0 : List (S69)) : Option ((List (List Int)) × Bool) := (impl_IsPuzzle.f l0_0).bind fun t216 => (if t216 = true then ((impl_solutions.f l0_0).bind fun t217 => (some (t217, true))) else (some (([] : List (List Int)), false)))
set_option maxHeartbeats 8000000 in
set_option maxRecDepth 100000 in
theorem impl_Solutions.calls (A0_0 : Option Addr) (c0_0 : Nat) (l0_0 : List (S69)) (r1 : List (List Int)) (r2 : Bool) (w : World) (hr0_0 : Kd.C k69 w A0_0 l0_0.length l0_0) (hc0_0 : l0_0.length ≤ c0_0) (h : impl_Solutions.f l0_0 = some (r1, r2)) :
  Calls Tryd.prog 11 #[.agg #[.slice A0_0 l0_0.length c0_0]] w fun e w' => ∃ v0_ : Value, e = .returned (.tuple #[v0_, .bool r2]) ∧ Kd.S (Kd.slice 3 (Kd.int .i64)) 38 w' w.heap.size (fun _ => True) v0_ r1 ∧ Below w.heap.size w w' := by
 have hu31 := Tryd.underlying31
 have HR0_0 := Aside0.mk hr0_0
 have HC0_0 := Aside0.mk hc0_0
 clear hr0_0 hc0_0
 have HB := Aside0.mk (Below.refl w.heap.size w)
 have H : ((impl_IsPuzzle.f l0_0).bind fun t216 => (if t216 = true then ((impl_solutions.f l0_0).bind fun t217 => (some (t217, true))) else (some (([] : List (List Int)), false)))) = some (r1, r2) := h
 clear h
 replace H := Option.bind_eq_some_iff.mp H
 obtain ⟨t216, A20, H⟩ := H
 replace H : (if t216 = true then ((impl_solutions.f l0_0).bind fun t217 => (some (t217, true))) else (some (([] : List (List Int)), false))) = some (r1, r2) := H
 have A2 := Aside0.mk A20
 clear A20
 by_cases c3 : t216 = true
 ·subst c3
  have H1 : ((impl_solutions.f l0_0).bind fun t217 => (some (t217, true))) = some (r1, r2) := by rw [if_pos rfl] at H; exact H
  clear H
  have H := H1
  clear H1
  replace H := Option.bind_eq_some_iff.mp H
  obtain ⟨t217, A40, H⟩ := H
  replace H : (some (t217, true)) = some (r1, r2) := H
  have A4 := Aside0.mk A40
  clear A40
  simp only [Option.some.injEq, Prod.mk.injEq] at H
  obtain ⟨rfl, rfl⟩ := H
  go_enter Tryd.func11, Tryd.ntmps11
  go_wp2_with (first | ((with_reducible refine gate_dst (N := 1) rfl ?_); refine box_event ?hg (N := 1) ?hd (cs := #[.slice A0_0 l0_0.length c0_0]) (t := 31) ?hr ?_; (case hd => rfl); (case hg => rfl); (case hr => first | (go_simp; done) | (go_simp; rfl)); intro gb215 hg w5 hbox hb; have n0_ := Aside0.mk (below_step (Lam.al) hb); have n1_ := Aside0.mk (hbox); have n2_ := Aside0.mk ((by rw [hg]; exact (below_size (Lam.al)) : w.heap.size ≤ gb215)); have n3_ := Aside0.mk ((by rw [hg]; exact (below_size (Lam.al)) : w.heap.size ≤ gb215)); clear HB; have HB := n0_; have BK215 := n1_; have GW215 := n2_; have GE215 := n3_; clear n0_ n1_ n2_ n3_; clear hb hbox hg; have hcz6_0 : w5.cell? ⟨gb215, 0, none⟩ = some (.slice A0_0 l0_0.length c0_0) := (blk_cell BK215.out 0).trans rfl; have hfz6_0 := blk_frozen BK215.out 0) | ((with_reducible refine gate_callee (f := 38) rfl ?_); refine goesL_ (some 5) rfl rfl Tryd.func38 (by kernel_rfl) rfl #[.agg #[.slice A0_0 l0_0.length c0_0]] rfl (by (try simp only [List.map_toArray, List.map_cons, List.map_nil]); first | done | rfl | (simp only [List.length_drop, List.length_take]; rfl)) ?_; (with_reducible refine (impl_IsPuzzle.calls _ _ l0_0 true _ ?side1 ?side2 A2.out).mono ?_); (case side1 => repeat (first | exact (Kd.C_below HR0_0.out HB.out) | (with_reducible refine Kd.C_alloc ?_ _) | (with_reducible refine Kd.C_drewN ?_ _) | (with_reducible refine Kd.C_drew ?_))); (case side2 => exact HC0_0.out); rintro e w7 ⟨rfl, hb⟩; refine ⟨_, rfl, ?_⟩; have n0_ := Aside0.mk (blk_below (g := gb215) (o := .cells #[.slice A0_0 l0_0.length c0_0] 31 (0, 0)) (Lam.bq BK215.out) hb); have n1_ := Aside0.mk (below_step (Lam.al) hb); clear BK215; clear HB; have BK215 := n0_; have HB := n1_; clear n0_ n1_; (try clear hb); (try clear hb2); (try clear hk); (try clear hi); have hcz8_0 : w7.cell? ⟨gb215, 0, none⟩ = some (.slice A0_0 l0_0.length c0_0) := (blk_cell BK215.out 0).trans rfl; have hfz8_0 := blk_frozen BK215.out 0) | ((with_reducible refine gate_callee (f := 39) rfl ?_); refine goesL_ (some 9) rfl rfl Tryd.func39 (by kernel_rfl) rfl #[.slice A0_0 l0_0.length c0_0] rfl (by (try simp only [List.map_toArray, List.map_cons, List.map_nil]); first | done | rfl | (simp only [List.length_drop, List.length_take]; rfl)) ?_; (with_reducible refine (impl_solutions.calls _ _ l0_0 t217 _ ?side1 ?side2 A4.out).mono ?_); (case side1 => repeat (first | exact (Kd.C_below HR0_0.out HB.out) | (with_reducible refine Kd.C_alloc ?_ _) | (with_reducible refine Kd.C_drewN ?_ _) | (with_reducible refine Kd.C_drew ?_))); (case side2 => exact HC0_0.out); rintro e w9 ⟨v218, rfl, ho0, hb⟩; refine ⟨_, rfl, ?_⟩; have n0_ := Aside0.mk (Kd.S_lower ho0 (below_size (Lam.al))); have n1_ := Aside0.mk (blk_below (g := gb215) (o := .cells #[.slice A0_0 l0_0.length c0_0] 31 (0, 0)) (Lam.bq BK215.out) hb); have n2_ := Aside0.mk (below_step (Lam.al) hb); clear BK215; clear HB; have HO219 := n0_; have BK215 := n1_; have HB := n2_; clear n0_ n1_ n2_; (try clear hb); (try clear hb2); (try clear hk); (try clear hi); (try clear ho0)))
  go_ret2
  exact ⟨_, by first | rfl | (simp [errW_none, errW_some] <;> rfl) | (simp [*, errW_none, errW_some] <;> rfl), by (with_reducible repeat (first | apply Kd.S_alloc | apply Kd.S_drewN | apply Kd.S_drew)); exact HO219.out, Lam.al⟩
 ·replace c3 := Bool.eq_false_iff.mpr c3
  subst c3
  have H1 : (some (([] : List (List Int)), false)) = some (r1, r2) := by rw [if_neg (show ¬ (false = true) by decide)] at H; exact H
  clear H
  have H := H1
  clear H1
  simp only [Option.some.injEq, Prod.mk.injEq] at H
  obtain ⟨rfl, rfl⟩ := H
  go_enter Tryd.func11, Tryd.ntmps11
  go_wp2_with (first | ((with_reducible refine gate_dst (N := 1) rfl ?_); refine box_event ?hg (N := 1) ?hd (cs := #[.slice A0_0 l0_0.length c0_0]) (t := 31) ?hr ?_; (case hd => rfl); (case hg => rfl); (case hr => first | (go_simp; done) | (go_simp; rfl)); intro gb215 hg w10 hbox hb; have n0_ := Aside0.mk (below_step (Lam.al) hb); have n1_ := Aside0.mk (hbox); have n2_ := Aside0.mk ((by rw [hg]; exact (below_size (Lam.al)) : w.heap.size ≤ gb215)); have n3_ := Aside0.mk ((by rw [hg]; exact (below_size (Lam.al)) : w.heap.size ≤ gb215)); clear HB; have HB := n0_; have BK215 := n1_; have GW215 := n2_; have GE215 := n3_; clear n0_ n1_ n2_ n3_; clear hb hbox hg; have hcz11_0 : w10.cell? ⟨gb215, 0, none⟩ = some (.slice A0_0 l0_0.length c0_0) := (blk_cell BK215.out 0).trans rfl; have hfz11_0 := blk_frozen BK215.out 0) | ((with_reducible refine gate_callee (f := 38) rfl ?_); refine goesL_ (some 5) rfl rfl Tryd.func38 (by kernel_rfl) rfl #[.agg #[.slice A0_0 l0_0.length c0_0]] rfl (by (try simp only [List.map_toArray, List.map_cons, List.map_nil]); first | done | rfl | (simp only [List.length_drop, List.length_take]; rfl)) ?_; (with_reducible refine (impl_IsPuzzle.calls _ _ l0_0 false _ ?side1 ?side2 A2.out).mono ?_); (case side1 => repeat (first | exact (Kd.C_below HR0_0.out HB.out) | (with_reducible refine Kd.C_alloc ?_ _) | (with_reducible refine Kd.C_drewN ?_ _) | (with_reducible refine Kd.C_drew ?_))); (case side2 => exact HC0_0.out); rintro e w12 ⟨rfl, hb⟩; refine ⟨_, rfl, ?_⟩; have n0_ := Aside0.mk (blk_below (g := gb215) (o := .cells #[.slice A0_0 l0_0.length c0_0] 31 (0, 0)) (Lam.bq BK215.out) hb); have n1_ := Aside0.mk (below_step (Lam.al) hb); clear BK215; clear HB; have BK215 := n0_; have HB := n1_; clear n0_ n1_; (try clear hb); (try clear hb2); (try clear hk); (try clear hi)))
  go_ret2
  exact ⟨_, by first | rfl | (simp [errW_none, errW_some] <;> rfl) | (simp [*, errW_none, errW_some] <;> rfl), by first | exact Kd.S_nil _ _ _ _ _ | exact Kd.N_nil _ _ _ _ _ | exact Kd.V_nil _ _ _ _ _ | exact Kd.Q_nil _ _ _ _ _ | exact Kd.R_nil _ _ _ _ _, Lam.al⟩

/-! ### laws_eqIntS: function 20 -/
def laws_eqIntS.l0 : Nat → List Int → List Int → Int → Option (Bool)
 | 0, _, _, _ => none
 | k + 1, x0, x1, x5 => if x5 < (x0.length : Int) then (if 0 ≤ x5 then (if x5 < (x1.length : Int) then (if (rd x0 x5) = (rd x1 x5) then (laws_eqIntS.l0 k x0 x1 (wrap64 (x5 + 1))) else (some false)) else (none)) else (none)) else (some true)
def laws_eqIntS.f (k : Nat) (l0 : List Int) (l1 : List Int) : Option (Bool) := if (l0.length : Int) = (l1.length : Int) then (laws_eqIntS.l0 k l0 l1 0) else (some false)
theorem laws_eqIntS.mono_l : ∀ k, (∀ y0 y1 y2, LeO (laws_eqIntS.l0 k y0 y1 y2) (laws_eqIntS.l0 (k + 1) y0 y1 y2))
 | 0 => fun _ _ _ r h => by simp [laws_eqIntS.l0] at h
 | k + 1 => by
  have ih0 := laws_eqIntS.mono_l k
  ·intro y0 y1 y2
   unfold laws_eqIntS.l0
   repeat' first
   | (with_reducible exact ih0 _ _ _)
   | (with_reducible exact LeO.refl _)
   | (with_reducible exact LeO.none _)
   | (with_reducible refine LeO.ite ?_ ?_)
   | (with_reducible refine LeO.bind ?_ (fun _ => ?_))
   | exact ih0 _ _ _
   | exact LeO.none _
   | refine LeO.ite ?_ ?_
   | refine LeO.bind ?_ (fun _ => ?_)
theorem laws_eqIntS.mono : ∀ a0 a1 k, LeO (laws_eqIntS.f k a0 a1) (laws_eqIntS.f (k + 1) a0 a1) := by
 intro a0 a1 k
 have ih0 := laws_eqIntS.mono_l k
 unfold laws_eqIntS.f
 repeat' first
   | (with_reducible exact ih0 _ _ _)
   | (with_reducible exact LeO.refl _)
   | (with_reducible exact LeO.none _)
   | (with_reducible refine LeO.ite ?_ ?_)
   | (with_reducible refine LeO.bind ?_ (fun _ => ?_))
   | exact ih0 _ _ _
   | exact LeO.none _
   | refine LeO.ite ?_ ?_
   | refine LeO.bind ?_ (fun _ => ?_)
set_option maxHeartbeats 8000000 in
set_option maxRecDepth 100000 in
theorem laws_eqIntS.calls (k : Nat) (A0 : Option Addr) (c0 : Nat) (l0 : List Int) (A1 : Option Addr) (c1 : Nat) (l1 : List Int) (r : Bool) (w : World) (hr0 : Kd.C (Kd.int .i64) w A0 l0.length l0) (hc0 : l0.length ≤ c0) (hr1 : Kd.C (Kd.int .i64) w A1 l1.length l1) (hc1 : l1.length ≤ c1) (h : laws_eqIntS.f k l0 l1 = some r) :
  Calls Tryd.prog 20 #[.slice A0 l0.length c0, .slice A1 l1.length c1] w fun e w' => e = .returned (.bool r) ∧ Drawn0 w w' := by
 have HR0 := Aside0.mk hr0
 have HC0 := Aside0.mk hc0
 clear hr0 hc0
 have HR1 := Aside0.mk hr1
 have HC1 := Aside0.mk hc1
 clear hr1 hc1
 have H : (if (l0.length : Int) = (l1.length : Int) then (laws_eqIntS.l0 k l0 l1 0) else (some false)) = some r := h
 clear h
 by_cases c3 : (l0.length : Int) = (l1.length : Int)
 ·rw [if_pos c3] at H
  have c3b0 : ((l0.length : Int) == (l1.length : Int)) = true := beq_iff_eq.mpr c3
  have c3b1 : ((l0.length : Int) != (l1.length : Int)) = false := bne_eq_false_iff_eq.mpr c3
  have c3b2 : (l0.length == l1.length) = true := by first | simpa using c3 | (simp at c3 ⊢; omega)
  clear c3
  have H' := Aside0.mk H
  clear H
  go_enter Tryd.func20, Tryd.ntmps20
  go_wp2
  repeat (go_quiet (fail); try go_wp2)
  go_loopg [5] k (fun kq v5 w' => ∃ (x5_1 : Int), v5 = .int .i64 x5_1 ∧ Aside0 (laws_eqIntS.l0 kq l0 l1 x5_1 = some r) ∧ Aside0 (kq ≤ k) ∧ Drawn0 w w')
  case atStart => exact ⟨(0), (by first | rfl | (simp; done) | (simp [*]; done)), H', ⟨Nat.le_refl _⟩, by repeat (first | exact Drawn0.refl _ | apply Drawn0.step)⟩
  case round =>
   clear H'
   try clear c1
   try clear c2
   try clear p2
   try clear c3
   try clear c3b0
   try clear c3b1
   try clear c3b2
   obtain ⟨x5_1, rfl, HA, HK1, ⟨m1, rfl⟩⟩ := hrel
   cases gk with
   | zero => exact absurd HA.out (by simp [laws_eqIntS.l0])
   | succ k1 =>
    have H := HA.out
    clear HA
    simp only [laws_eqIntS.l0] at H
    by_cases c4 : x5_1 < (l0.length : Int)
    ·rw [if_pos c4] at H
     have c4b0 : decide (x5_1 < (l0.length : Int)) = true := decide_eq_true c4
     clear c4
     by_cases c5 : 0 ≤ x5_1
     ·rw [if_pos c5] at H
      have c5b0 : decide (0 ≤ x5_1) = true := decide_eq_true c5
      clear c5
      by_cases c6 : x5_1 < (l1.length : Int)
      ·rw [if_pos c6] at H
       have c6b0 : decide (x5_1 < (l1.length : Int)) = true := decide_eq_true c6
       clear c6
       by_cases c7 : (rd l0 x5_1) = (rd l1 x5_1)
       ·rw [if_pos c7] at H
        have c7b0 : ((rd l0 x5_1) == (rd l1 x5_1)) = true := beq_iff_eq.mpr c7
        have c7b1 : ((rd l0 x5_1) != (rd l1 x5_1)) = false := bne_eq_false_iff_eq.mpr c7
        clear c7
        have H' := Aside0.mk H
        clear H
        have p220 : 0 ≤ (x5_1 : Int) := of_decide_eq_true (by first | (with_reducible assumption) | assumption)
        have q220 : x5_1 < (l0.length : Int) := of_decide_eq_true (by first | (with_reducible assumption) | assumption)
        obtain ⟨ad220, e220, hx220_0⟩ := Kd.at_int HR0.out x5_1 p220 q220
        cases e220
        replace p220 := eq_true p220
        replace q220 := eq_true q220
        have p221 : 0 ≤ (x5_1 : Int) := of_decide_eq_true (by first | (with_reducible assumption) | assumption)
        have q221 : x5_1 < (l1.length : Int) := of_decide_eq_true (by first | (with_reducible assumption) | assumption)
        obtain ⟨ad221, e221, hx221_0⟩ := Kd.at_int HR1.out x5_1 p221 q221
        cases e221
        replace p221 := eq_true p221
        replace q221 := eq_true q221
        go_wp2
        repeat (go_quiet (fail); try go_wp2)
        go_roundg k1
        case measure => have := HK1.out; omega
        case rel => exact ⟨(wrap64 (x5_1 + 1)), (by first | rfl | (simp; done) | (simp [*]; done)), H', ⟨by have := HK1.out; omega⟩, by repeat (first | exact Drawn0.refl _ | apply Drawn0.step)⟩
       ·rw [if_neg c7] at H
        have c7b0 : ((rd l0 x5_1) == (rd l1 x5_1)) = false := beq_eq_false_iff_ne.mpr c7
        have c7b1 : ((rd l0 x5_1) != (rd l1 x5_1)) = true := bne_iff_ne.mpr c7
        obtain rfl := Option.some.inj H
        have p220 : 0 ≤ (x5_1 : Int) := of_decide_eq_true (by first | (with_reducible assumption) | assumption)
        have q220 : x5_1 < (l0.length : Int) := of_decide_eq_true (by first | (with_reducible assumption) | assumption)
        obtain ⟨ad220, e220, hx220_0⟩ := Kd.at_int HR0.out x5_1 p220 q220
        cases e220
        replace p220 := eq_true p220
        replace q220 := eq_true q220
        have p221 : 0 ≤ (x5_1 : Int) := of_decide_eq_true (by first | (with_reducible assumption) | assumption)
        have q221 : x5_1 < (l1.length : Int) := of_decide_eq_true (by first | (with_reducible assumption) | assumption)
        obtain ⟨ad221, e221, hx221_0⟩ := Kd.at_int HR1.out x5_1 p221 q221
        cases e221
        replace p221 := eq_true p221
        replace q221 := eq_true q221
        go_wp2
        repeat (go_quiet (fail); try go_wp2)
        go_ret
        exact ⟨by first | rfl | (simp; done) | (simp [*]; done), by repeat (first | exact Drawn0.refl _ | apply Drawn0.step)⟩
      ·rw [if_neg c6] at H
       exact absurd H (by simp)
     ·rw [if_neg c5] at H
      exact absurd H (by simp)
    ·rw [if_neg c4] at H
     have c4b0 : decide (x5_1 < (l0.length : Int)) = false := decide_eq_false c4
     clear c4
     obtain rfl := Option.some.inj H
     go_wp2
     repeat (go_quiet (fail); try go_wp2)
     go_ret
     exact ⟨by first | rfl | (simp; done) | (simp [*]; done), by repeat (first | exact Drawn0.refl _ | apply Drawn0.step)⟩
 ·rw [if_neg c3] at H
  have c3b0 : ((l0.length : Int) == (l1.length : Int)) = false := beq_eq_false_iff_ne.mpr c3
  have c3b1 : ((l0.length : Int) != (l1.length : Int)) = true := bne_iff_ne.mpr c3
  have c3b2 : (l0.length == l1.length) = false := by first | simpa using c3 | (simp at c3 ⊢; omega)
  obtain rfl := Option.some.inj H
  go_enter Tryd.func20, Tryd.ntmps20
  go_wp2
  repeat (go_quiet (fail); try go_wp2)
  go_ret
  exact ⟨by first | rfl | (simp; done) | (simp [*]; done), by repeat (first | exact Drawn0.refl _ | apply Drawn0.step)⟩

/-! ### laws_eqIntSS: function 12 -/
def laws_eqIntSS.l0 : Nat → List (List Int) → List (List Int) → Int → Option (Bool)
 | 0, _, _, _ => none
 | k + 1, x0, x1, x5 => if x5 < (x0.length : Int) then (if 0 ≤ x5 then (if x5 < (x1.length : Int) then ((laws_eqIntS.f k (rd_L3 x0 x5) (rd_L3 x1 x5)).bind fun t224 => (if t224 = true then (laws_eqIntSS.l0 k x0 x1 (wrap64 (x5 + 1))) else (some false))) else (none)) else (none)) else (some true)
def laws_eqIntSS.f (k : Nat) (l0 : List (List Int)) (l1 : List (List Int)) : Option (Bool) := if (l0.length : Int) = (l1.length : Int) then (laws_eqIntSS.l0 k l0 l1 0) else (some false)
theorem laws_eqIntSS.mono_l : ∀ k, (∀ y0 y1 y2, LeO (laws_eqIntSS.l0 k y0 y1 y2) (laws_eqIntSS.l0 (k + 1) y0 y1 y2))
 | 0 => fun _ _ _ r h => by simp [laws_eqIntSS.l0] at h
 | k + 1 => by
  have ih0 := laws_eqIntSS.mono_l k
  ·intro y0 y1 y2
   unfold laws_eqIntSS.l0
   repeat' first
   | (with_reducible exact ih0 _ _ _)
   | (with_reducible exact laws_eqIntS.mono _ _ _)
   | (with_reducible exact LeO.refl _)
   | (with_reducible exact LeO.none _)
   | (with_reducible refine LeO.ite ?_ ?_)
   | (with_reducible refine LeO.bind ?_ (fun _ => ?_))
   | exact ih0 _ _ _
   | exact laws_eqIntS.mono _ _ _
   | exact LeO.none _
   | refine LeO.ite ?_ ?_
   | refine LeO.bind ?_ (fun _ => ?_)
theorem laws_eqIntSS.mono : ∀ a0 a1 k, LeO (laws_eqIntSS.f k a0 a1) (laws_eqIntSS.f (k + 1) a0 a1) := by
 intro a0 a1 k
 have ih0 := laws_eqIntSS.mono_l k
 unfold laws_eqIntSS.f
 repeat' first
   | (with_reducible exact ih0 _ _ _)
   | (with_reducible exact laws_eqIntS.mono _ _ _)
   | (with_reducible exact LeO.refl _)
   | (with_reducible exact LeO.none _)
   | (with_reducible refine LeO.ite ?_ ?_)
   | (with_reducible refine LeO.bind ?_ (fun _ => ?_))
   | exact ih0 _ _ _
   | exact laws_eqIntS.mono _ _ _
   | exact LeO.none _
   | refine LeO.ite ?_ ?_
   | refine LeO.bind ?_ (fun _ => ?_)
set_option maxHeartbeats 8000000 in
set_option maxRecDepth 100000 in
theorem laws_eqIntSS.calls (k : Nat) (A0 : Option Addr) (c0 : Nat) (l0 : List (List Int)) (A1 : Option Addr) (c1 : Nat) (l1 : List (List Int)) (r : Bool) (w : World) (hr0 : Kd.C (Kd.slice 3 (Kd.int .i64)) w A0 l0.length l0) (hc0 : l0.length ≤ c0) (hr1 : Kd.C (Kd.slice 3 (Kd.int .i64)) w A1 l1.length l1) (hc1 : l1.length ≤ c1) (h : laws_eqIntSS.f k l0 l1 = some r) :
  Calls Tryd.prog 12 #[.slice A0 l0.length c0, .slice A1 l1.length c1] w fun e w' => e = .returned (.bool r) ∧ Drawn0 w w' := by
 have HR0 := Aside0.mk hr0
 have HC0 := Aside0.mk hc0
 clear hr0 hc0
 have HR1 := Aside0.mk hr1
 have HC1 := Aside0.mk hc1
 clear hr1 hc1
 have H : (if (l0.length : Int) = (l1.length : Int) then (laws_eqIntSS.l0 k l0 l1 0) else (some false)) = some r := h
 clear h
 by_cases c3 : (l0.length : Int) = (l1.length : Int)
 ·rw [if_pos c3] at H
  have c3b0 : ((l0.length : Int) == (l1.length : Int)) = true := beq_iff_eq.mpr c3
  have c3b1 : ((l0.length : Int) != (l1.length : Int)) = false := bne_eq_false_iff_eq.mpr c3
  have c3b2 : (l0.length == l1.length) = true := by first | simpa using c3 | (simp at c3 ⊢; omega)
  clear c3
  have H' := Aside0.mk H
  clear H
  go_enter Tryd.func12, Tryd.ntmps12
  go_wp2
  repeat (go_quiet (fail); try go_wp2)
  go_loopg [5] k (fun kq v5 w' => ∃ (x5_1 : Int), v5 = .int .i64 x5_1 ∧ Aside0 (laws_eqIntSS.l0 kq l0 l1 x5_1 = some r) ∧ Aside0 (kq ≤ k) ∧ Drawn0 w w')
  case atStart => exact ⟨(0), (by first | rfl | (simp; done) | (simp [*]; done)), H', ⟨Nat.le_refl _⟩, by repeat (first | exact Drawn0.refl _ | apply Drawn0.step)⟩
  case round =>
   clear H'
   try clear c1
   try clear p2
   try clear c3
   try clear c3b0
   try clear c3b1
   try clear c3b2
   obtain ⟨x5_1, rfl, HA, HK1, ⟨m1, rfl⟩⟩ := hrel
   cases gk with
   | zero => exact absurd HA.out (by simp [laws_eqIntSS.l0])
   | succ k1 =>
    have H := HA.out
    clear HA
    simp only [laws_eqIntSS.l0] at H
    by_cases c4 : x5_1 < (l0.length : Int)
    ·rw [if_pos c4] at H
     have c4b0 : decide (x5_1 < (l0.length : Int)) = true := decide_eq_true c4
     clear c4
     by_cases c5 : 0 ≤ x5_1
     ·rw [if_pos c5] at H
      have c5b0 : decide (0 ≤ x5_1) = true := decide_eq_true c5
      clear c5
      by_cases c6 : x5_1 < (l1.length : Int)
      ·rw [if_pos c6] at H
       have c6b0 : decide (x5_1 < (l1.length : Int)) = true := decide_eq_true c6
       clear c6
       replace H := Option.bind_eq_some_iff.mp H
       obtain ⟨t224, A70, H⟩ := H
       replace H : (if t224 = true then (laws_eqIntSS.l0 k1 l0 l1 (wrap64 (x5_1 + 1))) else (some false)) = some r := H
       have A7 := Aside0.mk A70
       clear A70
       by_cases c8 : t224 = true
       ·subst c8
        have H1 : (laws_eqIntSS.l0 k1 l0 l1 (wrap64 (x5_1 + 1))) = some r := by rw [if_pos rfl] at H; exact H
        clear H
        have H := H1
        clear H1
        have H' := Aside0.mk H
        clear H
        have p222 : 0 ≤ (x5_1 : Int) := of_decide_eq_true (by first | (with_reducible assumption) | assumption)
        have q222 : x5_1 < (l0.length : Int) := of_decide_eq_true (by first | (with_reducible assumption) | assumption)
        obtain ⟨ad222, A222_0, c222_0, e222, hx222_0, hl222_0, hi222_0⟩ := at_L3 HR0.out x5_1 p222 q222
        cases e222
        have HR222_0 := Aside0.mk hi222_0
        have HC222_0 := Aside0.mk hl222_0
        clear hi222_0 hl222_0
        replace p222 := eq_true p222
        replace q222 := eq_true q222
        have p223 : 0 ≤ (x5_1 : Int) := of_decide_eq_true (by first | (with_reducible assumption) | assumption)
        have q223 : x5_1 < (l1.length : Int) := of_decide_eq_true (by first | (with_reducible assumption) | assumption)
        obtain ⟨ad223, A223_0, c223_0, e223, hx223_0, hl223_0, hi223_0⟩ := at_L3 HR1.out x5_1 p223 q223
        cases e223
        have HR223_0 := Aside0.mk hi223_0
        have HC223_0 := Aside0.mk hl223_0
        clear hi223_0 hl223_0
        replace p223 := eq_true p223
        replace q223 := eq_true q223
        go_wp2_with (first | (go_at_call 20; (with_reducible refine (laws_eqIntS.calls k1 _ _ (rd_L3 l0 x5_1) _ _ (rd_L3 l1 x5_1) true _ ?side1 ?side2 ?side3 ?side4 A7.out).mono ?_); (case side1 => repeat (first | exact HR222_0.out | (with_reducible refine Kd.C_alloc ?_ _) | (with_reducible refine Kd.C_drewN ?_ _) | (with_reducible refine Kd.C_drew ?_))); (case side2 => exact HC222_0.out); (case side3 => repeat (first | exact HR223_0.out | (with_reducible refine Kd.C_alloc ?_ _) | (with_reducible refine Kd.C_drewN ?_ _) | (with_reducible refine Kd.C_drew ?_))); (case side4 => exact HC223_0.out); rintro e w' ⟨rfl, ⟨nd, rfl⟩⟩; (try first | exact ⟨rfl, _, World.drewN_drewN _ _ _⟩ | exact ⟨rfl, _, Eq.trans (World.drewN_drewN _ _ _) (congrArg (World.drewN _) (Nat.add_assoc _ _ _))⟩)))
        repeat (go_quiet (first | (go_at_call 20; (with_reducible refine (laws_eqIntS.calls k1 _ _ (rd_L3 l0 x5_1) _ _ (rd_L3 l1 x5_1) true _ ?side1 ?side2 ?side3 ?side4 A7.out).mono ?_); (case side1 => repeat (first | exact HR222_0.out | (with_reducible refine Kd.C_alloc ?_ _) | (with_reducible refine Kd.C_drewN ?_ _) | (with_reducible refine Kd.C_drew ?_))); (case side2 => exact HC222_0.out); (case side3 => repeat (first | exact HR223_0.out | (with_reducible refine Kd.C_alloc ?_ _) | (with_reducible refine Kd.C_drewN ?_ _) | (with_reducible refine Kd.C_drew ?_))); (case side4 => exact HC223_0.out); rintro e w' ⟨rfl, ⟨nd, rfl⟩⟩; (try first | exact ⟨rfl, _, World.drewN_drewN _ _ _⟩ | exact ⟨rfl, _, Eq.trans (World.drewN_drewN _ _ _) (congrArg (World.drewN _) (Nat.add_assoc _ _ _))⟩))); try go_wp2_with (first | (go_at_call 20; (with_reducible refine (laws_eqIntS.calls k1 _ _ (rd_L3 l0 x5_1) _ _ (rd_L3 l1 x5_1) true _ ?side1 ?side2 ?side3 ?side4 A7.out).mono ?_); (case side1 => repeat (first | exact HR222_0.out | (with_reducible refine Kd.C_alloc ?_ _) | (with_reducible refine Kd.C_drewN ?_ _) | (with_reducible refine Kd.C_drew ?_))); (case side2 => exact HC222_0.out); (case side3 => repeat (first | exact HR223_0.out | (with_reducible refine Kd.C_alloc ?_ _) | (with_reducible refine Kd.C_drewN ?_ _) | (with_reducible refine Kd.C_drew ?_))); (case side4 => exact HC223_0.out); rintro e w' ⟨rfl, ⟨nd, rfl⟩⟩; (try first | exact ⟨rfl, _, World.drewN_drewN _ _ _⟩ | exact ⟨rfl, _, Eq.trans (World.drewN_drewN _ _ _) (congrArg (World.drewN _) (Nat.add_assoc _ _ _))⟩))))
        go_roundg k1
        case measure => have := HK1.out; omega
        case rel => exact ⟨(wrap64 (x5_1 + 1)), (by first | rfl | (simp; done) | (simp [*]; done)), H', ⟨by have := HK1.out; omega⟩, by repeat (first | exact Drawn0.refl _ | apply Drawn0.step)⟩
       ·replace c8 := Bool.eq_false_iff.mpr c8
        subst c8
        have H1 : (some false) = some r := by rw [if_neg (show ¬ (false = true) by decide)] at H; exact H
        clear H
        have H := H1
        clear H1
        obtain rfl := Option.some.inj H
        have p222 : 0 ≤ (x5_1 : Int) := of_decide_eq_true (by first | (with_reducible assumption) | assumption)
        have q222 : x5_1 < (l0.length : Int) := of_decide_eq_true (by first | (with_reducible assumption) | assumption)
        obtain ⟨ad222, A222_0, c222_0, e222, hx222_0, hl222_0, hi222_0⟩ := at_L3 HR0.out x5_1 p222 q222
        cases e222
        have HR222_0 := Aside0.mk hi222_0
        have HC222_0 := Aside0.mk hl222_0
        clear hi222_0 hl222_0
        replace p222 := eq_true p222
        replace q222 := eq_true q222
        have p223 : 0 ≤ (x5_1 : Int) := of_decide_eq_true (by first | (with_reducible assumption) | assumption)
        have q223 : x5_1 < (l1.length : Int) := of_decide_eq_true (by first | (with_reducible assumption) | assumption)
        obtain ⟨ad223, A223_0, c223_0, e223, hx223_0, hl223_0, hi223_0⟩ := at_L3 HR1.out x5_1 p223 q223
        cases e223
        have HR223_0 := Aside0.mk hi223_0
        have HC223_0 := Aside0.mk hl223_0
        clear hi223_0 hl223_0
        replace p223 := eq_true p223
        replace q223 := eq_true q223
        go_wp2_with (first | (go_at_call 20; (with_reducible refine (laws_eqIntS.calls k1 _ _ (rd_L3 l0 x5_1) _ _ (rd_L3 l1 x5_1) false _ ?side1 ?side2 ?side3 ?side4 A7.out).mono ?_); (case side1 => repeat (first | exact HR222_0.out | (with_reducible refine Kd.C_alloc ?_ _) | (with_reducible refine Kd.C_drewN ?_ _) | (with_reducible refine Kd.C_drew ?_))); (case side2 => exact HC222_0.out); (case side3 => repeat (first | exact HR223_0.out | (with_reducible refine Kd.C_alloc ?_ _) | (with_reducible refine Kd.C_drewN ?_ _) | (with_reducible refine Kd.C_drew ?_))); (case side4 => exact HC223_0.out); rintro e w' ⟨rfl, ⟨nd, rfl⟩⟩; (try first | exact ⟨rfl, _, World.drewN_drewN _ _ _⟩ | exact ⟨rfl, _, Eq.trans (World.drewN_drewN _ _ _) (congrArg (World.drewN _) (Nat.add_assoc _ _ _))⟩)))
        repeat (go_quiet (first | (go_at_call 20; (with_reducible refine (laws_eqIntS.calls k1 _ _ (rd_L3 l0 x5_1) _ _ (rd_L3 l1 x5_1) false _ ?side1 ?side2 ?side3 ?side4 A7.out).mono ?_); (case side1 => repeat (first | exact HR222_0.out | (with_reducible refine Kd.C_alloc ?_ _) | (with_reducible refine Kd.C_drewN ?_ _) | (with_reducible refine Kd.C_drew ?_))); (case side2 => exact HC222_0.out); (case side3 => repeat (first | exact HR223_0.out | (with_reducible refine Kd.C_alloc ?_ _) | (with_reducible refine Kd.C_drewN ?_ _) | (with_reducible refine Kd.C_drew ?_))); (case side4 => exact HC223_0.out); rintro e w' ⟨rfl, ⟨nd, rfl⟩⟩; (try first | exact ⟨rfl, _, World.drewN_drewN _ _ _⟩ | exact ⟨rfl, _, Eq.trans (World.drewN_drewN _ _ _) (congrArg (World.drewN _) (Nat.add_assoc _ _ _))⟩))); try go_wp2_with (first | (go_at_call 20; (with_reducible refine (laws_eqIntS.calls k1 _ _ (rd_L3 l0 x5_1) _ _ (rd_L3 l1 x5_1) false _ ?side1 ?side2 ?side3 ?side4 A7.out).mono ?_); (case side1 => repeat (first | exact HR222_0.out | (with_reducible refine Kd.C_alloc ?_ _) | (with_reducible refine Kd.C_drewN ?_ _) | (with_reducible refine Kd.C_drew ?_))); (case side2 => exact HC222_0.out); (case side3 => repeat (first | exact HR223_0.out | (with_reducible refine Kd.C_alloc ?_ _) | (with_reducible refine Kd.C_drewN ?_ _) | (with_reducible refine Kd.C_drew ?_))); (case side4 => exact HC223_0.out); rintro e w' ⟨rfl, ⟨nd, rfl⟩⟩; (try first | exact ⟨rfl, _, World.drewN_drewN _ _ _⟩ | exact ⟨rfl, _, Eq.trans (World.drewN_drewN _ _ _) (congrArg (World.drewN _) (Nat.add_assoc _ _ _))⟩))))
        go_ret
        exact ⟨by first | rfl | (simp; done) | (simp [*]; done), by repeat (first | exact Drawn0.refl _ | apply Drawn0.step)⟩
      ·rw [if_neg c6] at H
       exact absurd H (by simp)
     ·rw [if_neg c5] at H
      exact absurd H (by simp)
    ·rw [if_neg c4] at H
     have c4b0 : decide (x5_1 < (l0.length : Int)) = false := decide_eq_false c4
     clear c4
     obtain rfl := Option.some.inj H
     go_wp2
     repeat (go_quiet (fail); try go_wp2)
     go_ret
     exact ⟨by first | rfl | (simp; done) | (simp [*]; done), by repeat (first | exact Drawn0.refl _ | apply Drawn0.step)⟩
 ·rw [if_neg c3] at H
  have c3b0 : ((l0.length : Int) == (l1.length : Int)) = false := beq_eq_false_iff_ne.mpr c3
  have c3b1 : ((l0.length : Int) != (l1.length : Int)) = true := bne_iff_ne.mpr c3
  have c3b2 : (l0.length == l1.length) = false := by first | simpa using c3 | (simp at c3 ⊢; omega)
  obtain rfl := Option.some.inj H
  go_enter Tryd.func12, Tryd.ntmps12
  go_wp2
  repeat (go_quiet (fail); try go_wp2)
  go_ret
  exact ⟨by first | rfl | (simp; done) | (simp [*]; done), by repeat (first | exact Drawn0.refl _ | apply Drawn0.step)⟩

/-! ### laws_eqClue: function 76 -/
def laws_eqClue.f (a0_0 : Int) (a0_1 : Int) (a0_2 : Int) (a1_0 : Int) (a1_1 : Int) (a1_2 : Int) : Option (Bool) := if a0_0 = a1_0 then (if a0_1 = a1_1 then (if a0_2 = a1_2 then (some true) else (some false)) else (some false)) else (some false)
set_option maxHeartbeats 8000000 in
set_option maxRecDepth 100000 in
theorem laws_eqClue.calls (a0_0 : Int) (a0_1 : Int) (a0_2 : Int) (a1_0 : Int) (a1_1 : Int) (a1_2 : Int) (r : Bool) (w : World) (h : laws_eqClue.f a0_0 a0_1 a0_2 a1_0 a1_1 a1_2 = some r) :
  Calls Tryd.prog 76 #[.agg #[.int .i64 a0_0, .int .i64 a0_1, .int .i64 a0_2], .agg #[.int .i64 a1_0, .int .i64 a1_1, .int .i64 a1_2]] w fun e w' => e = .returned (.bool r) ∧ Below w.heap.size w w' := by
 have hu69 := Tryd.underlying69
 have HB := Aside0.mk (Below.refl w.heap.size w)
 have H : (if a0_0 = a1_0 then (if a0_1 = a1_1 then (if a0_2 = a1_2 then (some true) else (some false)) else (some false)) else (some false)) = some r := h
 clear h
 by_cases c3 : a0_0 = a1_0
 ·rw [if_pos c3] at H
  have c3b0 : (a0_0 == a1_0) = true := beq_iff_eq.mpr c3
  have c3b1 : (a0_0 != a1_0) = false := bne_eq_false_iff_eq.mpr c3
  clear c3
  by_cases c4 : a0_1 = a1_1
  ·rw [if_pos c4] at H
   have c4b0 : (a0_1 == a1_1) = true := beq_iff_eq.mpr c4
   have c4b1 : (a0_1 != a1_1) = false := bne_eq_false_iff_eq.mpr c4
   clear c4
   by_cases c5 : a0_2 = a1_2
   ·rw [if_pos c5] at H
    have c5b0 : (a0_2 == a1_2) = true := beq_iff_eq.mpr c5
    have c5b1 : (a0_2 != a1_2) = false := bne_eq_false_iff_eq.mpr c5
    clear c5
    obtain rfl := Option.some.inj H
    go_enter Tryd.func76, Tryd.ntmps76
    go_wp2_with (first | ((with_reducible refine gate_dst (N := 2) rfl ?_); refine box_event ?hg (N := 2) ?hd (cs := #[.int .i64 a0_0, .int .i64 a0_1, .int .i64 a0_2]) (t := 69) ?hr ?_; (case hd => rfl); (case hg => rfl); (case hr => first | (go_simp; done) | (go_simp; rfl)); intro gb225 hg w6 hbox hb; have n0_ := Aside0.mk (below_step (Lam.al) hb); have n1_ := Aside0.mk (hbox); have n2_ := Aside0.mk ((by rw [hg]; exact (below_size (Lam.al)) : w.heap.size ≤ gb225)); have n3_ := Aside0.mk ((by rw [hg]; exact (below_size (Lam.al)) : w.heap.size ≤ gb225)); clear HB; have HB := n0_; have BK225 := n1_; have GW225 := n2_; have GE225 := n3_; clear n0_ n1_ n2_ n3_; clear hb hbox hg) | ((with_reducible refine gate_dst (N := 3) rfl ?_); refine box_event ?hg (N := 3) ?hd (cs := #[.int .i64 a1_0, .int .i64 a1_1, .int .i64 a1_2]) (t := 69) ?hr ?_; (case hd => rfl); (case hg => rfl); (case hr => first | (go_simp; done) | (go_simp; rfl)); intro gb226 hg w7 hbox hb; have n0_ := Aside0.mk (blk_below (g := gb225) (o := .cells #[.int .i64 a0_0, .int .i64 a0_1, .int .i64 a0_2] 69 (0, 0)) (Lam.bq BK225.out) hb); have n1_ := Aside0.mk (below_step (Lam.al) hb); have n2_ := Aside0.mk (hbox); have n3_ := Aside0.mk ((by rw [hg]; exact (below_size (Lam.al)) : w.heap.size ≤ gb226)); have n4_ := Aside0.mk ((by rw [hg]; exact (below_size (Lam.al)) : w.heap.size ≤ gb226)); have n5_ := Aside0.mk ((by rw [hg]; exact Nat.ne_of_lt (blk_lt (g := gb225) (o := .cells #[.int .i64 a0_0, .int .i64 a0_1, .int .i64 a0_2] 69 (0, 0)) (Lam.bq BK225.out)) : gb225 ≠ gb226)); have n6_ := Aside0.mk ((by rw [hg]; exact Nat.ne_of_gt (blk_lt (g := gb225) (o := .cells #[.int .i64 a0_0, .int .i64 a0_1, .int .i64 a0_2] 69 (0, 0)) (Lam.bq BK225.out)) : gb226 ≠ gb225)); clear BK225; clear HB; have BK225 := n0_; have HB := n1_; have BK226 := n2_; have GW226 := n3_; have GE226 := n4_; have NB225_226 := n5_; have NB226_225 := n6_; clear n0_ n1_ n2_ n3_ n4_ n5_ n6_; clear hb hbox hg; have hnb8 := NB225_226.out; have hnc8 := NB226_225.out; have hcz9_0 : w7.cell? ⟨gb225, 0, none⟩ = some (.int .i64 a0_0) := (blk_cell BK225.out 0).trans rfl; have hcz9_1 : w7.cell? ⟨gb225, 1, none⟩ = some (.int .i64 a0_1) := (blk_cell BK225.out 1).trans rfl; have hcz9_2 : w7.cell? ⟨gb225, 2, none⟩ = some (.int .i64 a0_2) := (blk_cell BK225.out 2).trans rfl; have hfz9_0 := blk_frozen BK225.out 0; have hfz9_1 := blk_frozen BK225.out 1; have hfz9_2 := blk_frozen BK225.out 2; have hcz10_0 : w7.cell? ⟨gb226, 0, none⟩ = some (.int .i64 a1_0) := (blk_cell BK226.out 0).trans rfl; have hcz10_1 : w7.cell? ⟨gb226, 1, none⟩ = some (.int .i64 a1_1) := (blk_cell BK226.out 1).trans rfl; have hcz10_2 : w7.cell? ⟨gb226, 2, none⟩ = some (.int .i64 a1_2) := (blk_cell BK226.out 2).trans rfl; have hfz10_0 := blk_frozen BK226.out 0; have hfz10_1 := blk_frozen BK226.out 1; have hfz10_2 := blk_frozen BK226.out 2))
    go_ret
    exact ⟨by first | rfl | (simp [errW_none, errW_some] <;> rfl) | (simp [*, errW_none, errW_some] <;> rfl), Lam.al⟩
   ·rw [if_neg c5] at H
    have c5b0 : (a0_2 == a1_2) = false := beq_eq_false_iff_ne.mpr c5
    have c5b1 : (a0_2 != a1_2) = true := bne_iff_ne.mpr c5
    obtain rfl := Option.some.inj H
    go_enter Tryd.func76, Tryd.ntmps76
    go_wp2_with (first | ((with_reducible refine gate_dst (N := 2) rfl ?_); refine box_event ?hg (N := 2) ?hd (cs := #[.int .i64 a0_0, .int .i64 a0_1, .int .i64 a0_2]) (t := 69) ?hr ?_; (case hd => rfl); (case hg => rfl); (case hr => first | (go_simp; done) | (go_simp; rfl)); intro gb225 hg w11 hbox hb; have n0_ := Aside0.mk (below_step (Lam.al) hb); have n1_ := Aside0.mk (hbox); have n2_ := Aside0.mk ((by rw [hg]; exact (below_size (Lam.al)) : w.heap.size ≤ gb225)); have n3_ := Aside0.mk ((by rw [hg]; exact (below_size (Lam.al)) : w.heap.size ≤ gb225)); clear HB; have HB := n0_; have BK225 := n1_; have GW225 := n2_; have GE225 := n3_; clear n0_ n1_ n2_ n3_; clear hb hbox hg) | ((with_reducible refine gate_dst (N := 3) rfl ?_); refine box_event ?hg (N := 3) ?hd (cs := #[.int .i64 a1_0, .int .i64 a1_1, .int .i64 a1_2]) (t := 69) ?hr ?_; (case hd => rfl); (case hg => rfl); (case hr => first | (go_simp; done) | (go_simp; rfl)); intro gb226 hg w12 hbox hb; have n0_ := Aside0.mk (blk_below (g := gb225) (o := .cells #[.int .i64 a0_0, .int .i64 a0_1, .int .i64 a0_2] 69 (0, 0)) (Lam.bq BK225.out) hb); have n1_ := Aside0.mk (below_step (Lam.al) hb); have n2_ := Aside0.mk (hbox); have n3_ := Aside0.mk ((by rw [hg]; exact (below_size (Lam.al)) : w.heap.size ≤ gb226)); have n4_ := Aside0.mk ((by rw [hg]; exact (below_size (Lam.al)) : w.heap.size ≤ gb226)); have n5_ := Aside0.mk ((by rw [hg]; exact Nat.ne_of_lt (blk_lt (g := gb225) (o := .cells #[.int .i64 a0_0, .int .i64 a0_1, .int .i64 a0_2] 69 (0, 0)) (Lam.bq BK225.out)) : gb225 ≠ gb226)); have n6_ := Aside0.mk ((by rw [hg]; exact Nat.ne_of_gt (blk_lt (g := gb225) (o := .cells #[.int .i64 a0_0, .int .i64 a0_1, .int .i64 a0_2] 69 (0, 0)) (Lam.bq BK225.out)) : gb226 ≠ gb225)); clear BK225; clear HB; have BK225 := n0_; have HB := n1_; have BK226 := n2_; have GW226 := n3_; have GE226 := n4_; have NB225_226 := n5_; have NB226_225 := n6_; clear n0_ n1_ n2_ n3_ n4_ n5_ n6_; clear hb hbox hg; have hnb13 := NB225_226.out; have hnc13 := NB226_225.out; have hcz14_0 : w12.cell? ⟨gb225, 0, none⟩ = some (.int .i64 a0_0) := (blk_cell BK225.out 0).trans rfl; have hcz14_1 : w12.cell? ⟨gb225, 1, none⟩ = some (.int .i64 a0_1) := (blk_cell BK225.out 1).trans rfl; have hcz14_2 : w12.cell? ⟨gb225, 2, none⟩ = some (.int .i64 a0_2) := (blk_cell BK225.out 2).trans rfl; have hfz14_0 := blk_frozen BK225.out 0; have hfz14_1 := blk_frozen BK225.out 1; have hfz14_2 := blk_frozen BK225.out 2; have hcz15_0 : w12.cell? ⟨gb226, 0, none⟩ = some (.int .i64 a1_0) := (blk_cell BK226.out 0).trans rfl; have hcz15_1 : w12.cell? ⟨gb226, 1, none⟩ = some (.int .i64 a1_1) := (blk_cell BK226.out 1).trans rfl; have hcz15_2 : w12.cell? ⟨gb226, 2, none⟩ = some (.int .i64 a1_2) := (blk_cell BK226.out 2).trans rfl; have hfz15_0 := blk_frozen BK226.out 0; have hfz15_1 := blk_frozen BK226.out 1; have hfz15_2 := blk_frozen BK226.out 2))
    go_ret
    exact ⟨by first | rfl | (simp [errW_none, errW_some] <;> rfl) | (simp [*, errW_none, errW_some] <;> rfl), Lam.al⟩
  ·rw [if_neg c4] at H
   have c4b0 : (a0_1 == a1_1) = false := beq_eq_false_iff_ne.mpr c4
   have c4b1 : (a0_1 != a1_1) = true := bne_iff_ne.mpr c4
   obtain rfl := Option.some.inj H
   go_enter Tryd.func76, Tryd.ntmps76
   go_wp2_with (first | ((with_reducible refine gate_dst (N := 2) rfl ?_); refine box_event ?hg (N := 2) ?hd (cs := #[.int .i64 a0_0, .int .i64 a0_1, .int .i64 a0_2]) (t := 69) ?hr ?_; (case hd => rfl); (case hg => rfl); (case hr => first | (go_simp; done) | (go_simp; rfl)); intro gb225 hg w16 hbox hb; have n0_ := Aside0.mk (below_step (Lam.al) hb); have n1_ := Aside0.mk (hbox); have n2_ := Aside0.mk ((by rw [hg]; exact (below_size (Lam.al)) : w.heap.size ≤ gb225)); have n3_ := Aside0.mk ((by rw [hg]; exact (below_size (Lam.al)) : w.heap.size ≤ gb225)); clear HB; have HB := n0_; have BK225 := n1_; have GW225 := n2_; have GE225 := n3_; clear n0_ n1_ n2_ n3_; clear hb hbox hg) | ((with_reducible refine gate_dst (N := 3) rfl ?_); refine box_event ?hg (N := 3) ?hd (cs := #[.int .i64 a1_0, .int .i64 a1_1, .int .i64 a1_2]) (t := 69) ?hr ?_; (case hd => rfl); (case hg => rfl); (case hr => first | (go_simp; done) | (go_simp; rfl)); intro gb226 hg w17 hbox hb; have n0_ := Aside0.mk (blk_below (g := gb225) (o := .cells #[.int .i64 a0_0, .int .i64 a0_1, .int .i64 a0_2] 69 (0, 0)) (Lam.bq BK225.out) hb); have n1_ := Aside0.mk (below_step (Lam.al) hb); have n2_ := Aside0.mk (hbox); have n3_ := Aside0.mk ((by rw [hg]; exact (below_size (Lam.al)) : w.heap.size ≤ gb226)); have n4_ := Aside0.mk ((by rw [hg]; exact (below_size (Lam.al)) : w.heap.size ≤ gb226)); have n5_ := Aside0.mk ((by rw [hg]; exact Nat.ne_of_lt (blk_lt (g := gb225) (o := .cells #[.int .i64 a0_0, .int .i64 a0_1, .int .i64 a0_2] 69 (0, 0)) (Lam.bq BK225.out)) : gb225 ≠ gb226)); have n6_ := Aside0.mk ((by rw [hg]; exact Nat.ne_of_gt (blk_lt (g := gb225) (o := .cells #[.int .i64 a0_0, .int .i64 a0_1, .int .i64 a0_2] 69 (0, 0)) (Lam.bq BK225.out)) : gb226 ≠ gb225)); clear BK225; clear HB; have BK225 := n0_; have HB := n1_; have BK226 := n2_; have GW226 := n3_; have GE226 := n4_; have NB225_226 := n5_; have NB226_225 := n6_; clear n0_ n1_ n2_ n3_ n4_ n5_ n6_; clear hb hbox hg; have hnb18 := NB225_226.out; have hnc18 := NB226_225.out; have hcz19_0 : w17.cell? ⟨gb225, 0, none⟩ = some (.int .i64 a0_0) := (blk_cell BK225.out 0).trans rfl; have hcz19_1 : w17.cell? ⟨gb225, 1, none⟩ = some (.int .i64 a0_1) := (blk_cell BK225.out 1).trans rfl; have hcz19_2 : w17.cell? ⟨gb225, 2, none⟩ = some (.int .i64 a0_2) := (blk_cell BK225.out 2).trans rfl; have hfz19_0 := blk_frozen BK225.out 0; have hfz19_1 := blk_frozen BK225.out 1; have hfz19_2 := blk_frozen BK225.out 2; have hcz20_0 : w17.cell? ⟨gb226, 0, none⟩ = some (.int .i64 a1_0) := (blk_cell BK226.out 0).trans rfl; have hcz20_1 : w17.cell? ⟨gb226, 1, none⟩ = some (.int .i64 a1_1) := (blk_cell BK226.out 1).trans rfl; have hcz20_2 : w17.cell? ⟨gb226, 2, none⟩ = some (.int .i64 a1_2) := (blk_cell BK226.out 2).trans rfl; have hfz20_0 := blk_frozen BK226.out 0; have hfz20_1 := blk_frozen BK226.out 1; have hfz20_2 := blk_frozen BK226.out 2))
   go_ret
   exact ⟨by first | rfl | (simp [errW_none, errW_some] <;> rfl) | (simp [*, errW_none, errW_some] <;> rfl), Lam.al⟩
 ·rw [if_neg c3] at H
  have c3b0 : (a0_0 == a1_0) = false := beq_eq_false_iff_ne.mpr c3
  have c3b1 : (a0_0 != a1_0) = true := bne_iff_ne.mpr c3
  obtain rfl := Option.some.inj H
  go_enter Tryd.func76, Tryd.ntmps76
  go_wp2_with (first | ((with_reducible refine gate_dst (N := 2) rfl ?_); refine box_event ?hg (N := 2) ?hd (cs := #[.int .i64 a0_0, .int .i64 a0_1, .int .i64 a0_2]) (t := 69) ?hr ?_; (case hd => rfl); (case hg => rfl); (case hr => first | (go_simp; done) | (go_simp; rfl)); intro gb225 hg w21 hbox hb; have n0_ := Aside0.mk (below_step (Lam.al) hb); have n1_ := Aside0.mk (hbox); have n2_ := Aside0.mk ((by rw [hg]; exact (below_size (Lam.al)) : w.heap.size ≤ gb225)); have n3_ := Aside0.mk ((by rw [hg]; exact (below_size (Lam.al)) : w.heap.size ≤ gb225)); clear HB; have HB := n0_; have BK225 := n1_; have GW225 := n2_; have GE225 := n3_; clear n0_ n1_ n2_ n3_; clear hb hbox hg) | ((with_reducible refine gate_dst (N := 3) rfl ?_); refine box_event ?hg (N := 3) ?hd (cs := #[.int .i64 a1_0, .int .i64 a1_1, .int .i64 a1_2]) (t := 69) ?hr ?_; (case hd => rfl); (case hg => rfl); (case hr => first | (go_simp; done) | (go_simp; rfl)); intro gb226 hg w22 hbox hb; have n0_ := Aside0.mk (blk_below (g := gb225) (o := .cells #[.int .i64 a0_0, .int .i64 a0_1, .int .i64 a0_2] 69 (0, 0)) (Lam.bq BK225.out) hb); have n1_ := Aside0.mk (below_step (Lam.al) hb); have n2_ := Aside0.mk (hbox); have n3_ := Aside0.mk ((by rw [hg]; exact (below_size (Lam.al)) : w.heap.size ≤ gb226)); have n4_ := Aside0.mk ((by rw [hg]; exact (below_size (Lam.al)) : w.heap.size ≤ gb226)); have n5_ := Aside0.mk ((by rw [hg]; exact Nat.ne_of_lt (blk_lt (g := gb225) (o := .cells #[.int .i64 a0_0, .int .i64 a0_1, .int .i64 a0_2] 69 (0, 0)) (Lam.bq BK225.out)) : gb225 ≠ gb226)); have n6_ := Aside0.mk ((by rw [hg]; exact Nat.ne_of_gt (blk_lt (g := gb225) (o := .cells #[.int .i64 a0_0, .int .i64 a0_1, .int .i64 a0_2] 69 (0, 0)) (Lam.bq BK225.out)) : gb226 ≠ gb225)); clear BK225; clear HB; have BK225 := n0_; have HB := n1_; have BK226 := n2_; have GW226 := n3_; have GE226 := n4_; have NB225_226 := n5_; have NB226_225 := n6_; clear n0_ n1_ n2_ n3_ n4_ n5_ n6_; clear hb hbox hg; have hnb23 := NB225_226.out; have hnc23 := NB226_225.out; have hcz24_0 : w22.cell? ⟨gb225, 0, none⟩ = some (.int .i64 a0_0) := (blk_cell BK225.out 0).trans rfl; have hcz24_1 : w22.cell? ⟨gb225, 1, none⟩ = some (.int .i64 a0_1) := (blk_cell BK225.out 1).trans rfl; have hcz24_2 : w22.cell? ⟨gb225, 2, none⟩ = some (.int .i64 a0_2) := (blk_cell BK225.out 2).trans rfl; have hfz24_0 := blk_frozen BK225.out 0; have hfz24_1 := blk_frozen BK225.out 1; have hfz24_2 := blk_frozen BK225.out 2; have hcz25_0 : w22.cell? ⟨gb226, 0, none⟩ = some (.int .i64 a1_0) := (blk_cell BK226.out 0).trans rfl; have hcz25_1 : w22.cell? ⟨gb226, 1, none⟩ = some (.int .i64 a1_1) := (blk_cell BK226.out 1).trans rfl; have hcz25_2 : w22.cell? ⟨gb226, 2, none⟩ = some (.int .i64 a1_2) := (blk_cell BK226.out 2).trans rfl; have hfz25_0 := blk_frozen BK226.out 0; have hfz25_1 := blk_frozen BK226.out 1; have hfz25_2 := blk_frozen BK226.out 2))
  go_ret
  exact ⟨by first | rfl | (simp [errW_none, errW_some] <;> rfl) | (simp [*, errW_none, errW_some] <;> rfl), Lam.al⟩

end Go.Proofs.YtdikeggkfkkajaaDoor.PFnExactSolutions
