-- Made by a program of this session (wip/xprint.py) out of the translation.
import Derived.Test.YthlebenfnlllhaaPFnExactLongestNestx0
import Derived.Test.YthlebenfnlllhaaPFnExactLongestNestx1
namespace Go.Proofs.Ythlebenfnlllhaa.PFnExactLongestNest
open Go.RowKit Go.Proofs.YthlebenfnlllhaaW.PrintWords Go.Proofs.YthlebenfnlllhaaW.PrintLast Go.Proofs.YthlebenfnlllhaaW.PrintMore
attribute [local go_sem] max2_int min2_int max_two min_two max_three min_three max_four min_four   -- for this text's walks alone
set_option linter.unusedVariables false
set_option linter.unusedSimpArgs false

/-! ### spec_LongestNest: function 25 -/
def spec_LongestNest.into (a b : S26) : Option Bool := spec_wrInto.f a.f0 a.f1 a.f2 b.f0 b.f1 b.f2
set_option maxHeartbeats 8000000 in
set_option maxRecDepth 100000 in
theorem spec_LongestNest.rec : ∀ (k : Nat) (A0 : Option Addr) (c0 : Nat) (l0 : List S26) (bg acc r : List Int) (vb vt : Value) (gl base : Nat) (w : World),
    (∀ W', Kq.KQ w W' (fun q => q = gl) → Kd.C k26 W' A0 l0.length l0) → bg.length + k ≤ 1000 → l0.length ≤ c0 → base ≤ w.heap.size →
    Kd.R (Kd.int .i64) 3 w base (fun q => q ≠ gl) vb bg → w.heap[gl]? = some (.cells #[vt] 48 (0, 0)) → Kd.R (Kd.int .i64) 3 w base (fun q => q ≠ gl) vt acc →
    Nest.nest spec_LongestNest.into z26 l0 k bg acc = some r →
    Calls Try.prog 67 #[.slice A0 l0.length c0, vb, .pointer (some ⟨gl, 0, none⟩)] w fun e w' => e = .returned (.tuple #[]) ∧ ∃ vt' : Value, w'.heap[gl]? = some (.cells #[vt'] 48 (0, 0)) ∧ Kd.R (Kd.int .i64) 3 w' base (fun q => q ≠ gl) vt' r ∧ Kq.KQ w w' (fun q => q = gl) := by
  intro k
  induction k with
  | zero => intro _ _ _ _ _ _ _ _ _ _ _ _ _ _ _ _ _ _ h; simp [Nest.nest] at h
  | succ k ih =>
    intro A0 c0 l0 bg acc r vb vt gl base w hC hk hc hbase hb hx ht h
    have hu48 := Try.underlying48
    have hu26 := Try.underlying26
    have IH := Aside0.mk ih
    have hl64 : (l0.length : Int) ≤ 9223372036854775807 := by have := (hC w (Kq.KQ.refl _ _)).2.1; omega
    obtain ⟨Ab, cb, rfl⟩ := Kd.R_slice hb
    obtain ⟨At, ct, rfl⟩ := Kd.R_slice ht
    have hgo : Nest.go (Nest.nest spec_LongestNest.into z26 l0 k) (Nest.ok spec_LongestNest.into z26 l0 bg) bg l0.length 0 (if acc.length < bg.length then bg else acc) = some r := h
    obtain ⟨nb, hnb⟩ : ∃ nb : Nat, bg.length = nb := ⟨_, rfl⟩
    rw [hnb] at hb hgo ⊢
    have HN := Aside0.mk hnb
    have HK := Aside0.mk (Kq.KQ.refl w (fun q => q = gl))
    have HC := Aside0.mk hC
    have HX := Aside0.mk hx
    have hcell : w.cell? ⟨gl, 0, none⟩ = some (.slice At acc.length ct) := (blk_cell hx 0).trans rfl
    have hfroz := blk_frozen hx 0
    have HRb := Aside0.mk hb
    have HRt := Aside0.mk ht
    have HS := Aside0.mk hbase
    have HL := Aside0.mk hk
    have HB0 := Aside0.mk (blk_lt hx)
    have HC0 := Aside0.mk hc
    clear hC hx hb ht h hbase hk hnb ih hc
    by_cases c : acc.length < nb
    · have c1 : decide ((acc.length : Int) < (nb : Int)) = true := decide_eq_true (by omega)
      have c2 : decide (acc.length < nb) = true := decide_eq_true c
      rw [if_pos c] at hgo
      have HG := Aside0.mk hgo
      clear hgo c
      go_enter Try.func67, Try.ntmps67
      go_wp2
      have X1 := Aside0.mk (blk_put (cs := #[.slice At acc.length ct]) HX.out 0 (.slice Ab nb cb) rfl)
      have K1 := Aside0.mk (Kq.KQ.setCell HK.out (p := ⟨gl, 0, none⟩) (.inl rfl) (.slice Ab nb cb))
      have R1 := Aside0.mk (Kq.R_kq HRb.out K1.out (fun _ h => h))
      clear hcell hfroz HX HK HRt
      go_loopg [20] l0.length (fun gg v20 w' => ∃ (kk : Nat) (acc1 : List Int) (vt1 : Value), kk ≤ l0.length ∧ l0.length - kk ≤ gg ∧ v20 = .int .i64 kk ∧ Aside0 (Nest.go (Nest.nest spec_LongestNest.into z26 l0 k) (Nest.ok spec_LongestNest.into z26 l0 bg) bg (l0.length - kk) kk acc1 = some r) ∧ Aside0 (w'.heap[gl]? = some (.cells #[vt1] 48 (0, 0))) ∧ Aside0 (Kd.R (Kd.int .i64) 3 w' base (fun q => q ≠ gl) vt1 acc1) ∧ Aside0 (Kq.KQ w w' (fun q => q = gl)))
      case atStart => exact ⟨0, bg, _, Nat.zero_le _, by omega, rfl, ⟨HG.out⟩, X1, R1, K1⟩
      case round =>
        clear X1 K1 R1 HG c1 c2
        obtain ⟨kk, acc1, vt1, hkk, hgg, rfl, HG, HX, HRt, HK⟩ := hrel
        by_cases hlt : kk < l0.length
        · have hltz : (kk : Int) < (l0.length : Int) := by omega
          obtain ⟨m, hm⟩ : ∃ m, l0.length - kk = m + 1 := ⟨l0.length - kk - 1, by omega⟩
          have H := HG.out
          rw [hm] at H
          simp only [Nest.go] at H
          obtain ⟨b, hb_, H⟩ := Option.bind_eq_some_iff.mp H
          clear HG
          have p0 : (0 : Int) ≤ (kk : Int) := by omega
          have HCw := HC.out wr HK.out
          obtain ⟨ad, e_, hx0, hx1, hx2⟩ := at_T26 HCw (kk : Int) p0 hltz
          have hadl := World.block_lt_of_cell? _ _ hx0
          cases e_
          rw [Int.toNat_natCast] at hx0 hx1 hx2 hadl
          replace p0 := eq_true p0
          have q0 := eq_true hltz
          go_wp2_with (first
            | ((with_reducible refine gate_dst (N := 7) rfl ?_); refine box_event ?hg (N := 7) ?hd (cs := #[.int .i64 0, .int .i64 0, .int .i64 0]) (t := 26) ?hr ?_; (case hd => rfl); (case hg => rfl); (case hr => first | (go_simp; done) | (go_simp; rfl)); intro g7 hg w7 hbox hb; have n0_ := Aside0.mk (Kq.KQ.below (by repeat (first | (with_reducible first | exact HK.out | refine Kq.KQ.alloc ?_ _ | refine Kq.KQ.drewN ?_ _ | refine Kq.KQ.drew ?_) | exact HK.out)) hb); have n1_ := Aside0.mk ((by rw [hg]; exact ((by repeat (first | (with_reducible first | exact HK.out | refine Kq.KQ.alloc ?_ _ | refine Kq.KQ.drewN ?_ _ | refine Kq.KQ.drew ?_) | exact HK.out)) : Kq.KQ w _ _).size) : w.heap.size ≤ g7); have n2_ := Aside0.mk ((by rw [hg]; exact Nat.ne_of_lt (blk_lt (g := gl) (by (with_reducible repeat (first | refine blk_drewN ?_ _ | refine blk_drew ?_ | refine blk_alloc ?_ _)); exact HX.out))) : gl ≠ g7); have n3_ := Aside0.mk (blk_below (g := gl) (by (with_reducible repeat (first | refine blk_drewN ?_ _ | refine blk_drew ?_ | refine blk_alloc ?_ _)); exact HX.out) hb); have n4_ := Aside0.mk (Kd.R_below (by (with_reducible repeat (first | apply Kd.R_alloc | apply Kd.R_drewN | apply Kd.R_drew)); exact HRt.out) hb); clear HK HX HRt; have HK := n0_; have G7 := n1_; have NB := n2_; have HX := n3_; have HRt := n4_; clear n0_ n1_ n2_ n3_ n4_; have B7 := Aside0.mk hbox; have hcz0 : w7.cell? ⟨g7, 0, none⟩ = some (.int .i64 0) := (blk_cell hbox 0).trans rfl; have hcz1 : w7.cell? ⟨g7, 1, none⟩ = some (.int .i64 0) := (blk_cell hbox 1).trans rfl; have hcz2 : w7.cell? ⟨g7, 2, none⟩ = some (.int .i64 0) := (blk_cell hbox 2).trans rfl; have hfz0 := blk_frozen hbox 0; have hfz1 := blk_frozen hbox 1; have hfz2 := blk_frozen hbox 2; clear hb hbox hg))
          have HX8 : ((((w7.setCell ⟨g7, 0, none⟩ (.int .i64 ((rd_T26 l0 (kk : Int)).f0))).setCell ⟨g7, 1, none⟩ (.int .i64 ((rd_T26 l0 (kk : Int)).f1))).setCell ⟨g7, 2, none⟩ (.int .i64 ((rd_T26 l0 (kk : Int)).f2)))).heap[gl]? = some (.cells #[vt1] 48 (0, 0)) := by
            refine blk_far ?_ NB.out _
            refine blk_far ?_ NB.out _
            refine blk_far ?_ NB.out _
            exact HX.out
          have B8 : ((((w7.setCell ⟨g7, 0, none⟩ (.int .i64 ((rd_T26 l0 (kk : Int)).f0))).setCell ⟨g7, 1, none⟩ (.int .i64 ((rd_T26 l0 (kk : Int)).f1))).setCell ⟨g7, 2, none⟩ (.int .i64 ((rd_T26 l0 (kk : Int)).f2)))).heap[g7]? = some (.cells #[(.int .i64 ((rd_T26 l0 (kk : Int)).f0)), (.int .i64 ((rd_T26 l0 (kk : Int)).f1)), (.int .i64 ((rd_T26 l0 (kk : Int)).f2))] 26 (0, 0)) := by
            refine blk_put (cs := #[(.int .i64 ((rd_T26 l0 (kk : Int)).f0)), (.int .i64 ((rd_T26 l0 (kk : Int)).f1)), .int .i64 0]) ?_ 2 _ rfl
            refine blk_put (cs := #[(.int .i64 ((rd_T26 l0 (kk : Int)).f0)), .int .i64 0, .int .i64 0]) ?_ 1 _ rfl
            refine blk_put (cs := #[.int .i64 0, .int .i64 0, .int .i64 0]) ?_ 0 _ rfl
            exact B7.out
          have K8 : Kq.KQ w ((((w7.setCell ⟨g7, 0, none⟩ (.int .i64 ((rd_T26 l0 (kk : Int)).f0))).setCell ⟨g7, 1, none⟩ (.int .i64 ((rd_T26 l0 (kk : Int)).f1))).setCell ⟨g7, 2, none⟩ (.int .i64 ((rd_T26 l0 (kk : Int)).f2)))) (fun q => q = gl) := by
            refine Kq.KQ.setCell ?_ (.inr G7.out) _
            refine Kq.KQ.setCell ?_ (.inr G7.out) _
            refine Kq.KQ.setCell ?_ (.inr G7.out) _
            exact HK.out
          have R8 : Kd.R (Kd.int .i64) 3 ((((w7.setCell ⟨g7, 0, none⟩ (.int .i64 ((rd_T26 l0 (kk : Int)).f0))).setCell ⟨g7, 1, none⟩ (.int .i64 ((rd_T26 l0 (kk : Int)).f1))).setCell ⟨g7, 2, none⟩ (.int .i64 ((rd_T26 l0 (kk : Int)).f2)))) base (fun q => q ≠ gl) vt1 acc1 := by
            refine Kd.R_set ?_ (show (((w7.setCell ⟨g7, 0, none⟩ (.int .i64 ((rd_T26 l0 (kk : Int)).f0))).setCell ⟨g7, 1, none⟩ (.int .i64 ((rd_T26 l0 (kk : Int)).f1)))).heap[g7]? = some (.cells #[(.int .i64 ((rd_T26 l0 (kk : Int)).f0)), (.int .i64 ((rd_T26 l0 (kk : Int)).f1)), .int .i64 0] 26 (0, 0)) from ?_) (by decide) _ _
            · refine Kd.R_set ?_ (show ((w7.setCell ⟨g7, 0, none⟩ (.int .i64 ((rd_T26 l0 (kk : Int)).f0)))).heap[g7]? = some (.cells #[(.int .i64 ((rd_T26 l0 (kk : Int)).f0)), .int .i64 0, .int .i64 0] 26 (0, 0)) from ?_) (by decide) _ _
              · exact Kd.R_set HRt.out B7.out (by decide) _ _
              · exact blk_put (cs := #[.int .i64 0, .int .i64 0, .int .i64 0]) B7.out 0 _ rfl
            · refine blk_put (cs := #[(.int .i64 ((rd_T26 l0 (kk : Int)).f0)), .int .i64 0, .int .i64 0]) ?_ 1 _ rfl
              exact blk_put (cs := #[.int .i64 0, .int .i64 0, .int .i64 0]) B7.out 0 _ rfl
          generalize (((w7.setCell ⟨g7, 0, none⟩ (.int .i64 ((rd_T26 l0 (kk : Int)).f0))).setCell ⟨g7, 1, none⟩ (.int .i64 ((rd_T26 l0 (kk : Int)).f1))).setCell ⟨g7, 2, none⟩ (.int .i64 ((rd_T26 l0 (kk : Int)).f2))) = w8 at HX8 B8 K8 R8 ⊢
          clear HX B7 HK HRt hcz0 hcz1 hcz2 hfz0 hfz1 hfz2 hx0 hx1 hx2 hadl
          replace HX8 : w8.drew.heap[gl]? = some (.cells #[vt1] 48 (0, 0)) := HX8
          replace B8 : w8.drew.heap[g7]? = some (.cells #[(.int .i64 ((rd_T26 l0 (kk : Int)).f0)), (.int .i64 ((rd_T26 l0 (kk : Int)).f1)), (.int .i64 ((rd_T26 l0 (kk : Int)).f2))] 26 (0, 0)) := B8
          replace K8 : Kq.KQ w w8.drew (fun q => q = gl) := Kq.KQ.drew K8
          replace R8 := Kd.R_drew R8
          have hz0_ : w8.drew.cell? ⟨g7, 0, none⟩ = some (.int .i64 ((rd_T26 l0 (kk : Int)).f0)) := (blk_cell B8 0).trans rfl
          have hz1_ : w8.drew.cell? ⟨g7, 1, none⟩ = some (.int .i64 ((rd_T26 l0 (kk : Int)).f1)) := (blk_cell B8 1).trans rfl
          have hz2_ : w8.drew.cell? ⟨g7, 2, none⟩ = some (.int .i64 ((rd_T26 l0 (kk : Int)).f2)) := (blk_cell B8 2).trans rfl
          clear HCw
          by_cases hz : nb = 0
          · have hz1 : decide ((nb : Int) = 0) = true := decide_eq_true (by omega)
            have hz2 : decide (nb = 0) = true := decide_eq_true hz
            subst hz
            obtain rfl : true = b := by
              simp only [Nest.ok, if_pos HN.out] at hb_
              exact Option.some.inj hb_
            refine start_ (n := 16) (S := fun w' => True) (ds := []) #[false, false, false, false, false, false, false, false, false, false, false, false, false, false, false, false] (by kernel_rfl) rfl rfl trivial (fun hHeld => ?_)
            generalize w8.drew = wd at HX8 B8 K8 R8 hz0_ hz1_ hz2_ hHeld ⊢
            refine pure_ (i := 0) (N := (some 25)) (v := ?_) (a' := ?_) #[true, false, false, false, false, false, false, false, false, false, false, false, false, false, false, false] rfl rfl (by kernel_rfl) (fun _ _ _ h => h) (Or.inl ⟨by rfl, ?_⟩) ?_ ?_
            rotate_left
            · intro w'
              go_simp
              with_reducible rfl
            rotate_left
            · simp only [Act.put, List.setIfInBounds_toArray, List.set_cons_zero, List.set_cons_succ, i64_w, i32_w]
              rfl
            refine pure_ (i := 1) (N := (some 26)) (v := ?_) (a' := ?_) #[true, true, false, false, false, false, false, false, false, false, false, false, false, false, false, false] rfl rfl (by kernel_rfl) (fun _ _ _ h => h) (Or.inl ⟨by rfl, ?_⟩) ?_ ?_
            rotate_left
            · intro w'
              go_simp
              with_reducible rfl
            rotate_left
            · simp only [Act.put, List.setIfInBounds_toArray, List.set_cons_zero, List.set_cons_succ, i64_w, i32_w]
              rfl
            refine pure_ (i := 2) (N := (some 27)) (v := ?_) (a' := ?_) #[true, true, true, false, false, false, false, false, false, false, false, false, false, false, false, false] rfl rfl (by kernel_rfl) (fun _ _ _ h => h) (Or.inl ⟨by rfl, ?_⟩) ?_ ?_
            rotate_left
            · intro w'
              go_simp
              with_reducible rfl
            rotate_left
            · simp only [Act.put, List.setIfInBounds_toArray, List.set_cons_zero, List.set_cons_succ, i64_w, i32_w]
              rfl
            refine pure_ (i := 3) (N := (some 28)) (v := ?_) (a' := ?_) #[true, true, true, true, false, false, false, false, false, false, false, false, false, false, false, false] rfl rfl (by kernel_rfl) (fun _ _ _ h => h) (Or.inl ⟨by rfl, ?_⟩) ?_ ?_
            rotate_left
            · intro w'
              go_simp
              with_reducible rfl
            rotate_left
            · simp only [Act.put, List.setIfInBounds_toArray, List.set_cons_zero, List.set_cons_succ, i64_w, i32_w]
              rfl
            refine pure_ (i := 4) (N := (some 29)) (v := undef) (a' := ?_) #[true, true, true, true, true, false, false, false, false, false, false, false, false, false, false, false] rfl rfl (by kernel_rfl) (fun _ _ _ h => h) (Or.inr ⟨by rfl, rfl⟩) ?_ ?_
            rotate_left
            · simp only [Act.put, List.setIfInBounds_toArray, List.set_cons_zero, List.set_cons_succ, i64_w, i32_w]
              rfl
            refine pure_ (i := 5) (N := (some 30)) (v := undef) (a' := ?_) #[true, true, true, true, true, true, false, false, false, false, false, false, false, false, false, false] rfl rfl (by kernel_rfl) (fun _ _ _ h => h) (Or.inr ⟨by rfl, rfl⟩) ?_ ?_
            rotate_left
            · simp only [Act.put, List.setIfInBounds_toArray, List.set_cons_zero, List.set_cons_succ, i64_w, i32_w]
              rfl
            refine pure_ (i := 6) (N := (some 31)) (v := undef) (a' := ?_) #[true, true, true, true, true, true, true, false, false, false, false, false, false, false, false, false] rfl rfl (by kernel_rfl) (fun _ _ _ h => h) (Or.inr ⟨by rfl, rfl⟩) ?_ ?_
            rotate_left
            · simp only [Act.put, List.setIfInBounds_toArray, List.set_cons_zero, List.set_cons_succ, i64_w, i32_w]
              rfl
            refine pure_ (i := 7) (N := (some 32)) (v := undef) (a' := ?_) #[true, true, true, true, true, true, true, true, false, false, false, false, false, false, false, false] rfl rfl (by kernel_rfl) (fun _ _ _ h => h) (Or.inr ⟨by rfl, rfl⟩) ?_ ?_
            rotate_left
            · simp only [Act.put, List.setIfInBounds_toArray, List.set_cons_zero, List.set_cons_succ, i64_w, i32_w]
              rfl
            refine pure_ (i := 8) (N := (some 33)) (v := undef) (a' := ?_) #[true, true, true, true, true, true, true, true, true, false, false, false, false, false, false, false] rfl rfl (by kernel_rfl) (fun _ _ _ h => h) (Or.inr ⟨by rfl, rfl⟩) ?_ ?_
            rotate_left
            · simp only [Act.put, List.setIfInBounds_toArray, List.set_cons_zero, List.set_cons_succ, i64_w, i32_w]
              rfl
            refine pure_ (i := 9) (N := (some 34)) (v := undef) (a' := ?_) #[true, true, true, true, true, true, true, true, true, true, false, false, false, false, false, false] rfl rfl (by kernel_rfl) (fun _ _ _ h => h) (Or.inr ⟨by rfl, rfl⟩) ?_ ?_
            rotate_left
            · simp only [Act.put, List.setIfInBounds_toArray, List.set_cons_zero, List.set_cons_succ, i64_w, i32_w]
              rfl
            refine pure_ (i := 10) (N := (some 35)) (v := undef) (a' := ?_) #[true, true, true, true, true, true, true, true, true, true, true, false, false, false, false, false] rfl rfl (by kernel_rfl) (fun _ _ _ h => h) (Or.inr ⟨by rfl, rfl⟩) ?_ ?_
            rotate_left
            · simp only [Act.put, List.setIfInBounds_toArray, List.set_cons_zero, List.set_cons_succ, i64_w, i32_w]
              rfl
            refine pure_ (i := 11) (N := (some 36)) (v := undef) (a' := ?_) #[true, true, true, true, true, true, true, true, true, true, true, true, false, false, false, false] rfl rfl (by kernel_rfl) (fun _ _ _ h => h) (Or.inr ⟨by rfl, rfl⟩) ?_ ?_
            rotate_left
            · simp only [Act.put, List.setIfInBounds_toArray, List.set_cons_zero, List.set_cons_succ, i64_w, i32_w]
              rfl
            refine pure_ (i := 12) (N := (some 37)) (v := undef) (a' := ?_) #[true, true, true, true, true, true, true, true, true, true, true, true, true, false, false, false] rfl rfl (by kernel_rfl) (fun _ _ _ h => h) (Or.inr ⟨by rfl, rfl⟩) ?_ ?_
            rotate_left
            · simp only [Act.put, List.setIfInBounds_toArray, List.set_cons_zero, List.set_cons_succ, i64_w, i32_w]
              rfl
            refine pure_ (i := 13) (N := (some 38)) (v := undef) (a' := ?_) #[true, true, true, true, true, true, true, true, true, true, true, true, true, true, false, false] rfl rfl (by kernel_rfl) (fun _ _ _ h => h) (Or.inr ⟨by rfl, rfl⟩) ?_ ?_
            rotate_left
            · simp only [Act.put, List.setIfInBounds_toArray, List.set_cons_zero, List.set_cons_succ, i64_w, i32_w]
              rfl
            refine pure_ (i := 14) (N := (some 39)) (v := undef) (a' := ?_) #[true, true, true, true, true, true, true, true, true, true, true, true, true, true, true, false] rfl rfl (by kernel_rfl) (fun _ _ _ h => h) (Or.inr ⟨by rfl, rfl⟩) ?_ ?_
            rotate_left
            · simp only [Act.put, List.setIfInBounds_toArray, List.set_cons_zero, List.set_cons_succ, i64_w, i32_w]
              rfl
            refine pure_ (i := 15) (N := (some 40)) (v := ?_) (a' := ?_) #[true, true, true, true, true, true, true, true, true, true, true, true, true, true, true, true] rfl rfl (by kernel_rfl) (fun _ _ _ h => h) (Or.inl ⟨by rfl, ?_⟩) ?_ ?_
            rotate_left
            · intro w'
              go_simp
              with_reducible rfl
            rotate_left
            · simp only [Act.put, List.setIfInBounds_toArray, List.set_cons_zero, List.set_cons_succ, i64_w, i32_w]
              rfl
            refine done_ (by kernel_rfl) ?_
            clear hHeld
            clear B8 hz0_ hz1_ hz2_
            have hown : spec_l1Own.f bg = some bg := by have := HL.out; unfold spec_l1Own.f; rw [Option.bind_some, List.length_nil, if_pos (by have := HN.out; omega), List.nil_append]
            have HX := Aside0.mk HX8
            have HK := Aside0.mk K8
            have HRt := Aside0.mk R8
            have hcall := fun W (hW : Kq.KQ w W (fun q => q = gl)) => spec_l1Own.calls _ cb bg bg W (Kd.R_reads' (Kq.R_kq HRb.out hW (fun _ h => h))).2.2 (by have := (Kd.R_reads' HRb.out).2.1; have := HN.out; omega) hown
            simp only [HN.out] at hcall
            clear HX8 K8 R8 hown
            simp only [if_pos] at H
            obtain ⟨t, ht_, H⟩ := Option.bind_eq_some_iff.mp H
            have HT := Aside0.mk ht_
            have HG := Aside0.mk H
            clear ht_ H
            go_wp2_with (first
              | (go_at_call 97; (with_reducible refine (hcall _ (HK.out)).mono ?_); rintro e wo ⟨vo, rfl, ho, hb⟩; have HO := Aside0.mk ho; have HB := Aside0.mk hb; clear ho hb)
              | ((with_reducible refine gate_builtin (b := .append) (xs := #[.tmp 43, .tmp 45]) rfl ?_); at_builtin; refine Kd.R_append (Kd.int .i64) (w0 := wd) (wd).heap.size rfl (.tmp 43) (.tmp 45) 48 3 (.int .i64 0) 8 rfl Try.underlying48 info3 rfl (by decide) (by omega) vo bg (kk : Int) [.int .i64 (kk : Int)] (fun _ => True) (fun _ => False) rfl rfl ?aP (fun _ hk => hk.elim) ?aF ?aO ?aB ?aS ?aL ?_; (case aP => exact rfl); (case aF => exact (fun _ _ => trivial)); (case aO => exact HO.out); (case aB => exact HB.out); (case aS => exact HB.out.size); (case aL => have := HL.out; have := HN.out; omega); intro v1 w1 ho hb hg hat; have n0_ := Aside0.mk (Kq.KQ.below HK.out hb); have n1_ := Aside0.mk (blk_below HX.out hb); have n2_ := Aside0.mk (Kd.R_below HRt.out hb); have n3_ := Aside0.mk (Kd.R_lower (Kd.R_mono (Kd.R_bound ho) (fun q hq => (by have h1 := hq.2.1; have h2 := HB0.out; have h3 := HK.out.size; omega : q ≠ gl))) (Nat.le_trans HS.out HK.out.size)); clear hb hg hat ho HK HX HRt HO HB; have HK := n0_; have HX := n1_; have HRt := n2_; have HRn := n3_; clear n0_ n1_ n2_ n3_)
              | (go_at_call 67; go_loud (refine (IH.out (some ad) c0 l0 (bg ++ [(kk : Int)]) acc1 t v1 vt1 gl base _ (fun W' hW' => HC.out W' (HK.out.then_ hW' (fun _ h => .inl h))) (by have := HL.out; have := HN.out; simp only [List.length_append, List.length_singleton]; omega) HC0.out (Nat.le_trans HS.out HK.out.size) HRn.out HX.out HRt.out HT.out).mono ?_; rintro e w2 ⟨rfl, vt2, hx2, hr2, hk2⟩; have n0_ := Aside0.mk (HK.out.then_ hk2 (fun _ h => .inl h)); have n1_ := Aside0.mk hx2; have n2_ := Aside0.mk hr2; clear hx2 hr2 hk2 HK HX HRt HRn hcall; have HK := n0_; have HX := n1_; have HRt := n2_; clear n0_ n1_ n2_)))
            go_roundg (l0.length - (kk + 1))
            case measure => omega
            case rel => exact ⟨kk + 1, t, vt2, by omega, by omega, by go_num, ⟨by rw [show l0.length - (kk + 1) = m by omega]; exact HG.out⟩, HX, HRt, HK⟩
          · have hz1 : decide ((nb : Int) = 0) = false := decide_eq_false (by omega)
            obtain ⟨n, rfl⟩ : ∃ n, nb = n + 1 := ⟨nb - 1, by omega⟩
            have hwr2 : wrap64 ((n : Int)) = (n : Int) := by have := HL.out; have := HN.out; unfold wrap64; omega
            have hwr : IntKind.i64.wrap ((n : Int)) = (n : Int) := by rw [i64_w]; exact hwr2
            have hz3 : ((n : Int) + 1 == 0) = false := beq_eq_false_iff_ne.mpr (by omega)
            have hwr3 : ((n : Int) < (n : Int) + 1) = True := eq_true (by omega)
            have hwr4 : (0 ≤ (n : Int)) = True := eq_true (by omega)
            have hRw := Kq.R_kq HRb.out K8 (fun _ h => h)
            obtain ⟨gb, cb', eb, _, hgbl, _⟩ := Kd.R_form hRw (by have := HN.out; omega)
            injection eb with eb1 eb2 eb3
            subst eb1
            subst eb3
            obtain ⟨ce, _, hM, hcc, _⟩ := Kd.R_elem hRw 0 (n : Int) (by omega) (by omega)
            obtain ⟨y, hyd⟩ : ∃ y, y = bg.getD n 0 := ⟨_, rfl⟩
            rw [Int.toNat_natCast, ← hyd] at hM
            obtain rfl : ce = [.int .i64 y] := hM
            have hy0 : w8.drew.cell? ⟨gb, n, none⟩ = some (.int .i64 y) := by have := hcc 0 _ rfl; rwa [show ((n : Int).toNat * (Kd.int .i64).sz + 0) = n from by show n * 1 + 0 = n; omega] at this
            clear hcc eb2
            simp only [Nest.ok, HN.out, if_neg (Nat.succ_ne_zero n), Nat.add_sub_cancel, ← hyd] at hb_
            by_cases hl : 0 ≤ y ∧ y < (l0.length : Int)
            · rw [if_pos hl] at hb_
              have hyl0 := hl.1
              have hyl1 := hl.2
              obtain ⟨ad', e_, hl0, hl1, hl2⟩ := at_T26 (HC.out w8.drew K8) y hyl0 hyl1
              cases e_
              clear hl
              replace hyl0 := eq_true hyl0
              replace hyl1 := eq_true hyl1
              replace hb_ : spec_wrInto.f (rd_T26 l0 y).f0 (rd_T26 l0 y).f1 (rd_T26 l0 y).f2 (rd_T26 l0 (kk : Int)).f0 (rd_T26 l0 (kk : Int)).f1 (rd_T26 l0 (kk : Int)).f2 = some b := hb_
              have HY := Aside0.mk hyd
              clear hRw hyd
              refine start_ (n := 16) (S := fun w' => w'.cell? ⟨gb, n, none⟩ = some (.int .i64 y) ∧ w'.cell? (ad.add (y.toNat * 3)) = some (.int .i64 ((rd_T26 l0 y).f0)) ∧ w'.cell? ⟨(ad.add (y.toNat * 3)).block, (ad.add (y.toNat * 3)).off + 1, none⟩ = some (.int .i64 ((rd_T26 l0 y).f1)) ∧ w'.cell? ⟨(ad.add (y.toNat * 3)).block, (ad.add (y.toNat * 3)).off + 2, none⟩ = some (.int .i64 ((rd_T26 l0 y).f2)) ∧ w'.cell? ⟨g7, 0, none⟩ = some (.int .i64 ((rd_T26 l0 (kk : Int)).f0)) ∧ w'.cell? ⟨g7, 1, none⟩ = some (.int .i64 ((rd_T26 l0 (kk : Int)).f1)) ∧ w'.cell? ⟨g7, 2, none⟩ = some (.int .i64 ((rd_T26 l0 (kk : Int)).f2))) (ds := []) #[false, false, false, false, false, false, false, false, false, false, false, false, false, false, false, false] (by kernel_rfl) rfl rfl ⟨hy0, hl0, hl1, hl2, hz0_, hz1_, hz2_⟩ (fun hHeld => ?_)
              generalize w8.drew = wd at HX8 B8 K8 R8 hy0 hl0 hl1 hl2 hz0_ hz1_ hz2_ hHeld ⊢
              refine pure_ (i := 0) (N := (some 25)) (v := ?_) (a' := ?_) #[true, false, false, false, false, false, false, false, false, false, false, false, false, false, false, false] rfl rfl (by kernel_rfl) (fun _ _ _ h => h) (Or.inl ⟨by rfl, ?_⟩) ?_ ?_
              rotate_left
              · intro w'
                go_simp
                with_reducible rfl
              rotate_left
              · simp only [Act.put, List.setIfInBounds_toArray, List.set_cons_zero, List.set_cons_succ, i64_w, i32_w]
                rfl
              refine pure_ (i := 1) (N := (some 26)) (v := ?_) (a' := ?_) #[true, true, false, false, false, false, false, false, false, false, false, false, false, false, false, false] rfl rfl (by kernel_rfl) (fun _ _ _ h => h) (Or.inl ⟨by rfl, ?_⟩) ?_ ?_
              rotate_left
              · intro w'
                go_simp
                with_reducible rfl
              rotate_left
              · simp only [Act.put, List.setIfInBounds_toArray, List.set_cons_zero, List.set_cons_succ, i64_w, i32_w]
                rfl
              refine pure_ (i := 2) (N := (some 27)) (v := ?_) (a' := ?_) #[true, true, true, false, false, false, false, false, false, false, false, false, false, false, false, false] rfl rfl (by kernel_rfl) (fun _ _ _ h => h) (Or.inl ⟨by rfl, ?_⟩) ?_ ?_
              rotate_left
              · intro w'
                go_simp
                with_reducible rfl
              rotate_left
              · simp only [Act.put, List.setIfInBounds_toArray, List.set_cons_zero, List.set_cons_succ, i64_w, i32_w]
                rfl
              refine pure_ (i := 3) (N := (some 28)) (v := ?_) (a' := ?_) #[true, true, true, true, false, false, false, false, false, false, false, false, false, false, false, false] rfl rfl (by kernel_rfl) (fun _ _ _ h => h) (Or.inl ⟨by rfl, ?_⟩) ?_ ?_
              rotate_left
              · intro w'
                go_simp
                with_reducible rfl
              rotate_left
              · simp only [Act.put, List.setIfInBounds_toArray, List.set_cons_zero, List.set_cons_succ, i64_w, i32_w]
                rfl
              refine pure_ (i := 4) (N := (some 29)) (v := ?_) (a' := ?_) #[true, true, true, true, true, false, false, false, false, false, false, false, false, false, false, false] rfl rfl (by kernel_rfl) (fun _ _ _ h => h) (Or.inl ⟨by rfl, ?_⟩) ?_ ?_
              rotate_left
              · intro w'
                go_simp
                with_reducible rfl
              rotate_left
              · simp only [Act.put, List.setIfInBounds_toArray, List.set_cons_zero, List.set_cons_succ, i64_w, i32_w]
                rfl
              refine pure_ (i := 5) (N := (some 30)) (v := ?_) (a' := ?_) #[true, true, true, true, true, true, false, false, false, false, false, false, false, false, false, false] rfl rfl (by kernel_rfl) (fun _ _ _ h => h) (Or.inl ⟨by rfl, ?_⟩) ?_ ?_
              rotate_left
              · intro w'
                go_simp
                with_reducible rfl
              rotate_left
              · simp only [Act.put, List.setIfInBounds_toArray, List.set_cons_zero, List.set_cons_succ, i64_w, i32_w]
                rfl
              refine pure_ (i := 6) (N := (some 31)) (v := ?_) (a' := ?_) #[true, true, true, true, true, true, true, false, false, false, false, false, false, false, false, false] rfl rfl (by kernel_rfl) (fun _ _ _ h => h) (Or.inl ⟨by rfl, ?_⟩) ?_ ?_
              rotate_left
              · intro w'
                go_simp
                with_reducible rfl
              rotate_left
              · simp only [Act.put, List.setIfInBounds_toArray, List.set_cons_zero, List.set_cons_succ, i64_w, i32_w]
                rfl
              refine pure_ (i := 7) (N := (some 32)) (v := ?_) (a' := ?_) #[true, true, true, true, true, true, true, true, false, false, false, false, false, false, false, false] rfl rfl (by kernel_rfl) (fun _ _ _ h => h) (Or.inl ⟨by rfl, ?_⟩) ?_ ?_
              rotate_left
              · intro w'
                go_simp
                with_reducible rfl
              rotate_left
              · simp only [Act.put, List.setIfInBounds_toArray, List.set_cons_zero, List.set_cons_succ, i64_w, i32_w]
                rfl
              refine pure_ (i := 8) (N := (some 33)) (v := ?_) (a' := ?_) #[true, true, true, true, true, true, true, true, true, false, false, false, false, false, false, false] rfl rfl (by kernel_rfl) (fun _ _ _ h => h) (Or.inl ⟨by rfl, ?_⟩) ?_ ?_
              rotate_left
              · intro w'
                go_simp
                with_reducible rfl
              rotate_left
              · simp only [Act.put, List.setIfInBounds_toArray, List.set_cons_zero, List.set_cons_succ, i64_w, i32_w]
                rfl
              refine pure_ (i := 9) (N := (some 34)) (v := ?_) (a' := ?_) #[true, true, true, true, true, true, true, true, true, true, false, false, false, false, false, false] rfl rfl (by kernel_rfl) (fun _ _ _ h => h) (Or.inl ⟨by rfl, ?_⟩) ?_ ?_
              rotate_left
              · intro w'
                go_simp
                with_reducible rfl
              rotate_left
              · simp only [Act.put, List.setIfInBounds_toArray, List.set_cons_zero, List.set_cons_succ, i64_w, i32_w]
                rfl
              refine take_ (i := 10) (N := (some 35)) (v := ?_) (a' := ?_) #[true, true, true, true, true, true, true, true, true, true, true, false, false, false, false, false] rfl rfl (by kernel_rfl) (fun _ _ _ h => h) (Or.inl ⟨by rfl, ?_⟩) hHeld ?_ ?_
              rotate_left
              · rintro w' ⟨s0, s1, s2, s3, s4, s5, s6⟩
                go_simp
                with_reducible rfl
              rotate_left
              · simp only [Act.put, List.setIfInBounds_toArray, List.set_cons_zero, List.set_cons_succ, i64_w, i32_w]
                rfl
              refine pure_ (i := 11) (N := (some 36)) (v := ?_) (a' := ?_) #[true, true, true, true, true, true, true, true, true, true, true, true, false, false, false, false] rfl rfl (by kernel_rfl) (fun _ _ _ h => h) (Or.inl ⟨by rfl, ?_⟩) ?_ ?_
              rotate_left
              · intro w'
                go_simp
                with_reducible rfl
              rotate_left
              · simp only [Act.put, List.setIfInBounds_toArray, List.set_cons_zero, List.set_cons_succ, i64_w, i32_w]
                rfl
              refine take_ (i := 12) (N := (some 37)) (v := ?_) (a' := ?_) #[true, true, true, true, true, true, true, true, true, true, true, true, true, false, false, false] rfl rfl (by kernel_rfl) (fun _ _ _ h => h) (Or.inl ⟨by rfl, ?_⟩) hHeld ?_ ?_
              rotate_left
              · rintro w' ⟨s0, s1, s2, s3, s4, s5, s6⟩
                go_simp
                with_reducible rfl
              rotate_left
              · simp only [Act.put, List.setIfInBounds_toArray, List.set_cons_zero, List.set_cons_succ, i64_w, i32_w]
                rfl
              refine take_ (i := 13) (N := (some 38)) (v := ?_) (a' := ?_) #[true, true, true, true, true, true, true, true, true, true, true, true, true, true, false, false] rfl rfl (by kernel_rfl) (fun _ _ _ h => h) (Or.inl ⟨by rfl, ?_⟩) hHeld ?_ ?_
              rotate_left
              · rintro w' ⟨s0, s1, s2, s3, s4, s5, s6⟩
                go_simp
                with_reducible rfl
              rotate_left
              · simp only [Act.put, List.setIfInBounds_toArray, List.set_cons_zero, List.set_cons_succ, i64_w, i32_w]
                rfl
              refine one_ (i := 14) (N := (some 39)) #[true, true, true, true, true, true, true, true, true, true, true, true, true, true, true, false] rfl rfl (by kernel_rfl) (by decide) (fun K hK => ?_)
              refine goes_ Try.func56 (by kernel_rfl) rfl #[.agg #[(.int .i64 ((rd_T26 l0 y).f0)), (.int .i64 ((rd_T26 l0 y).f1)), (.int .i64 ((rd_T26 l0 y).f2))], .agg #[(.int .i64 ((rd_T26 l0 (kk : Int)).f0)), (.int .i64 ((rd_T26 l0 (kk : Int)).f1)), (.int .i64 ((rd_T26 l0 (kk : Int)).f2))]] (by rfl) rfl rfl (by (try simp only [List.map_toArray, List.map_cons, List.map_nil]); first | done | rfl | (simp only [List.length_drop, List.length_take]; rfl)) ?_
              with_reducible refine (spec_wrInto.calls _ _ _ _ _ _ b _ hb_).mono ?_
              rintro e w10 ⟨rfl, hb⟩
              refine ⟨_, rfl, ?_⟩
              replace hy0 := (hb.cell (World.block_lt_of_cell? wd _ hy0)).trans hy0
              replace hl0 := (hb.cell (World.block_lt_of_cell? wd _ hl0)).trans hl0
              replace hl1 := (hb.cell (World.block_lt_of_cell? wd _ hl1)).trans hl1
              replace hl2 := (hb.cell (World.block_lt_of_cell? wd _ hl2)).trans hl2
              replace hz0_ := (hb.cell (World.block_lt_of_cell? wd _ hz0_)).trans hz0_
              replace hz1_ := (hb.cell (World.block_lt_of_cell? wd _ hz1_)).trans hz1_
              replace hz2_ := (hb.cell (World.block_lt_of_cell? wd _ hz2_)).trans hz2_
              replace HX8 := blk_below HX8 hb
              replace K8 := Kq.KQ.below K8 hb
              replace R8 := Kd.R_below R8 hb
              clear hb
              refine hK.out _ _ ⟨hy0, hl0, hl1, hl2, hz0_, hz1_, hz2_⟩ (fun hHeld => ?_)
              clear hK K
              refine norm_ (a' := ?_) ?_ ?_
              rotate_left
              · show Act.put _ (some 39) _ = _
                simp only [Act.put, List.setIfInBounds_toArray, List.set_cons_zero, List.set_cons_succ, i64_w, i32_w]
                rfl
              refine pure_ (i := 15) (N := (some 40)) (v := ?_) (a' := ?_) #[true, true, true, true, true, true, true, true, true, true, true, true, true, true, true, true] rfl rfl (by kernel_rfl) (fun _ _ _ h => h) (Or.inl ⟨by rfl, ?_⟩) ?_ ?_
              rotate_left
              · intro w'
                go_simp
                with_reducible rfl
              rotate_left
              · simp only [Act.put, List.setIfInBounds_toArray, List.set_cons_zero, List.set_cons_succ, i64_w, i32_w]
                rfl
              refine done_ (by kernel_rfl) ?_
              clear hHeld
              clear hy0 hl0 hl1 hl2 hz0_ hz1_ hz2_ hwr hwr2 hb_ B8
              cases b with
              | true =>
                have hown : spec_l1Own.f bg = some bg := by have := HL.out; unfold spec_l1Own.f; rw [Option.bind_some, List.length_nil, if_pos (by have := HN.out; omega), List.nil_append]
                have HX := Aside0.mk HX8
                have HK := Aside0.mk K8
                have HRt := Aside0.mk R8
                have hcall := fun W (hW : Kq.KQ w W (fun q => q = gl)) => spec_l1Own.calls _ cb bg bg W (Kd.R_reads' (Kq.R_kq HRb.out hW (fun _ h => h))).2.2 (by have := (Kd.R_reads' HRb.out).2.1; have := HN.out; omega) hown
                simp only [HN.out] at hcall
                clear HX8 K8 R8 hown
                simp only [if_pos] at H
                obtain ⟨t, ht_, H⟩ := Option.bind_eq_some_iff.mp H
                have HT := Aside0.mk ht_
                have HG := Aside0.mk H
                clear ht_ H
                go_wp2_with (first
                  | (go_at_call 97; (with_reducible refine (hcall _ (HK.out)).mono ?_); rintro e wo ⟨vo, rfl, ho, hb⟩; have HO := Aside0.mk ho; have HB := Aside0.mk hb; clear ho hb)
                  | ((with_reducible refine gate_builtin (b := .append) (xs := #[.tmp 43, .tmp 45]) rfl ?_); at_builtin; refine Kd.R_append (Kd.int .i64) (w0 := w10) (w10).heap.size rfl (.tmp 43) (.tmp 45) 48 3 (.int .i64 0) 8 rfl Try.underlying48 info3 rfl (by decide) (by omega) vo bg (kk : Int) [.int .i64 (kk : Int)] (fun _ => True) (fun _ => False) rfl rfl ?aP (fun _ hk => hk.elim) ?aF ?aO ?aB ?aS ?aL ?_; (case aP => exact rfl); (case aF => exact (fun _ _ => trivial)); (case aO => exact HO.out); (case aB => exact HB.out); (case aS => exact HB.out.size); (case aL => have := HL.out; have := HN.out; omega); intro v1 w1 ho hb hg hat; have n0_ := Aside0.mk (Kq.KQ.below HK.out hb); have n1_ := Aside0.mk (blk_below HX.out hb); have n2_ := Aside0.mk (Kd.R_below HRt.out hb); have n3_ := Aside0.mk (Kd.R_lower (Kd.R_mono (Kd.R_bound ho) (fun q hq => (by have h1 := hq.2.1; have h2 := HB0.out; have h3 := HK.out.size; omega : q ≠ gl))) (Nat.le_trans HS.out HK.out.size)); clear hb hg hat ho HK HX HRt HO HB; have HK := n0_; have HX := n1_; have HRt := n2_; have HRn := n3_; clear n0_ n1_ n2_ n3_)
                  | (go_at_call 67; go_loud (refine (IH.out (some ad) c0 l0 (bg ++ [(kk : Int)]) acc1 t v1 vt1 gl base _ (fun W' hW' => HC.out W' (HK.out.then_ hW' (fun _ h => .inl h))) (by have := HL.out; have := HN.out; simp only [List.length_append, List.length_singleton]; omega) HC0.out (Nat.le_trans HS.out HK.out.size) HRn.out HX.out HRt.out HT.out).mono ?_; rintro e w2 ⟨rfl, vt2, hx2, hr2, hk2⟩; have n0_ := Aside0.mk (HK.out.then_ hk2 (fun _ h => .inl h)); have n1_ := Aside0.mk hx2; have n2_ := Aside0.mk hr2; clear hx2 hr2 hk2 HK HX HRt HRn hcall; have HK := n0_; have HX := n1_; have HRt := n2_; clear n0_ n1_ n2_)))
                go_roundg (l0.length - (kk + 1))
                case measure => omega
                case rel => exact ⟨kk + 1, t, vt2, by omega, by omega, by go_num, ⟨by rw [show l0.length - (kk + 1) = m by omega]; exact HG.out⟩, HX, HRt, HK⟩
              | false =>
                simp only [Bool.false_eq_true, if_false] at H
                go_wp2
                go_roundg (l0.length - (kk + 1))
                case measure => omega
                case rel => exact ⟨kk + 1, acc1, vt1, by omega, by omega, by go_num, ⟨by rw [show l0.length - (kk + 1) = m by omega]; exact H⟩, ⟨HX8⟩, ⟨R8⟩, ⟨K8⟩⟩
            · rw [if_neg hl] at hb_
              exact absurd hb_ (by simp)
        · obtain rfl : kk = l0.length := by omega
          have hr_ := HG.out
          rw [Nat.sub_self] at hr_
          simp only [Nest.go] at hr_
          obtain rfl := Option.some.inj hr_
          go_wp2
          go_end0
          exact ⟨rfl, _, HX.out, HRt.out, HK.out⟩
    · have c1 : decide ((acc.length : Int) < (nb : Int)) = false := decide_eq_false (by omega)
      have c2 : decide (acc.length < nb) = false := decide_eq_false c
      rw [if_neg c] at hgo
      have HG := Aside0.mk hgo
      clear hgo c
      go_enter Try.func67, Try.ntmps67
      go_wp2
      clear hcell hfroz
      go_loopg [20] l0.length (fun gg v20 w' => ∃ (kk : Nat) (acc1 : List Int) (vt1 : Value), kk ≤ l0.length ∧ l0.length - kk ≤ gg ∧ v20 = .int .i64 kk ∧ Aside0 (Nest.go (Nest.nest spec_LongestNest.into z26 l0 k) (Nest.ok spec_LongestNest.into z26 l0 bg) bg (l0.length - kk) kk acc1 = some r) ∧ Aside0 (w'.heap[gl]? = some (.cells #[vt1] 48 (0, 0))) ∧ Aside0 (Kd.R (Kd.int .i64) 3 w' base (fun q => q ≠ gl) vt1 acc1) ∧ Aside0 (Kq.KQ w w' (fun q => q = gl)))
      case atStart => exact ⟨0, acc, _, Nat.zero_le _, by omega, rfl, ⟨HG.out⟩, HX, HRt, HK⟩
      case round =>
        clear HX HK HRt HG c1 c2
        obtain ⟨kk, acc1, vt1, hkk, hgg, rfl, HG, HX, HRt, HK⟩ := hrel
        by_cases hlt : kk < l0.length
        · have hltz : (kk : Int) < (l0.length : Int) := by omega
          obtain ⟨m, hm⟩ : ∃ m, l0.length - kk = m + 1 := ⟨l0.length - kk - 1, by omega⟩
          have H := HG.out
          rw [hm] at H
          simp only [Nest.go] at H
          obtain ⟨b, hb_, H⟩ := Option.bind_eq_some_iff.mp H
          clear HG
          have p0 : (0 : Int) ≤ (kk : Int) := by omega
          have HCw := HC.out wr HK.out
          obtain ⟨ad, e_, hx0, hx1, hx2⟩ := at_T26 HCw (kk : Int) p0 hltz
          have hadl := World.block_lt_of_cell? _ _ hx0
          cases e_
          rw [Int.toNat_natCast] at hx0 hx1 hx2 hadl
          replace p0 := eq_true p0
          have q0 := eq_true hltz
          go_wp2_with (first
            | ((with_reducible refine gate_dst (N := 7) rfl ?_); refine box_event ?hg (N := 7) ?hd (cs := #[.int .i64 0, .int .i64 0, .int .i64 0]) (t := 26) ?hr ?_; (case hd => rfl); (case hg => rfl); (case hr => first | (go_simp; done) | (go_simp; rfl)); intro g7 hg w7 hbox hb; have n0_ := Aside0.mk (Kq.KQ.below (by repeat (first | (with_reducible first | exact HK.out | refine Kq.KQ.alloc ?_ _ | refine Kq.KQ.drewN ?_ _ | refine Kq.KQ.drew ?_) | exact HK.out)) hb); have n1_ := Aside0.mk ((by rw [hg]; exact ((by repeat (first | (with_reducible first | exact HK.out | refine Kq.KQ.alloc ?_ _ | refine Kq.KQ.drewN ?_ _ | refine Kq.KQ.drew ?_) | exact HK.out)) : Kq.KQ w _ _).size) : w.heap.size ≤ g7); have n2_ := Aside0.mk ((by rw [hg]; exact Nat.ne_of_lt (blk_lt (g := gl) (by (with_reducible repeat (first | refine blk_drewN ?_ _ | refine blk_drew ?_ | refine blk_alloc ?_ _)); exact HX.out))) : gl ≠ g7); have n3_ := Aside0.mk (blk_below (g := gl) (by (with_reducible repeat (first | refine blk_drewN ?_ _ | refine blk_drew ?_ | refine blk_alloc ?_ _)); exact HX.out) hb); have n4_ := Aside0.mk (Kd.R_below (by (with_reducible repeat (first | apply Kd.R_alloc | apply Kd.R_drewN | apply Kd.R_drew)); exact HRt.out) hb); clear HK HX HRt; have HK := n0_; have G7 := n1_; have NB := n2_; have HX := n3_; have HRt := n4_; clear n0_ n1_ n2_ n3_ n4_; have B7 := Aside0.mk hbox; have hcz0 : w7.cell? ⟨g7, 0, none⟩ = some (.int .i64 0) := (blk_cell hbox 0).trans rfl; have hcz1 : w7.cell? ⟨g7, 1, none⟩ = some (.int .i64 0) := (blk_cell hbox 1).trans rfl; have hcz2 : w7.cell? ⟨g7, 2, none⟩ = some (.int .i64 0) := (blk_cell hbox 2).trans rfl; have hfz0 := blk_frozen hbox 0; have hfz1 := blk_frozen hbox 1; have hfz2 := blk_frozen hbox 2; clear hb hbox hg))
          have HX8 : ((((w7.setCell ⟨g7, 0, none⟩ (.int .i64 ((rd_T26 l0 (kk : Int)).f0))).setCell ⟨g7, 1, none⟩ (.int .i64 ((rd_T26 l0 (kk : Int)).f1))).setCell ⟨g7, 2, none⟩ (.int .i64 ((rd_T26 l0 (kk : Int)).f2)))).heap[gl]? = some (.cells #[vt1] 48 (0, 0)) := by
            refine blk_far ?_ NB.out _
            refine blk_far ?_ NB.out _
            refine blk_far ?_ NB.out _
            exact HX.out
          have B8 : ((((w7.setCell ⟨g7, 0, none⟩ (.int .i64 ((rd_T26 l0 (kk : Int)).f0))).setCell ⟨g7, 1, none⟩ (.int .i64 ((rd_T26 l0 (kk : Int)).f1))).setCell ⟨g7, 2, none⟩ (.int .i64 ((rd_T26 l0 (kk : Int)).f2)))).heap[g7]? = some (.cells #[(.int .i64 ((rd_T26 l0 (kk : Int)).f0)), (.int .i64 ((rd_T26 l0 (kk : Int)).f1)), (.int .i64 ((rd_T26 l0 (kk : Int)).f2))] 26 (0, 0)) := by
            refine blk_put (cs := #[(.int .i64 ((rd_T26 l0 (kk : Int)).f0)), (.int .i64 ((rd_T26 l0 (kk : Int)).f1)), .int .i64 0]) ?_ 2 _ rfl
            refine blk_put (cs := #[(.int .i64 ((rd_T26 l0 (kk : Int)).f0)), .int .i64 0, .int .i64 0]) ?_ 1 _ rfl
            refine blk_put (cs := #[.int .i64 0, .int .i64 0, .int .i64 0]) ?_ 0 _ rfl
            exact B7.out
          have K8 : Kq.KQ w ((((w7.setCell ⟨g7, 0, none⟩ (.int .i64 ((rd_T26 l0 (kk : Int)).f0))).setCell ⟨g7, 1, none⟩ (.int .i64 ((rd_T26 l0 (kk : Int)).f1))).setCell ⟨g7, 2, none⟩ (.int .i64 ((rd_T26 l0 (kk : Int)).f2)))) (fun q => q = gl) := by
            refine Kq.KQ.setCell ?_ (.inr G7.out) _
            refine Kq.KQ.setCell ?_ (.inr G7.out) _
            refine Kq.KQ.setCell ?_ (.inr G7.out) _
            exact HK.out
          have R8 : Kd.R (Kd.int .i64) 3 ((((w7.setCell ⟨g7, 0, none⟩ (.int .i64 ((rd_T26 l0 (kk : Int)).f0))).setCell ⟨g7, 1, none⟩ (.int .i64 ((rd_T26 l0 (kk : Int)).f1))).setCell ⟨g7, 2, none⟩ (.int .i64 ((rd_T26 l0 (kk : Int)).f2)))) base (fun q => q ≠ gl) vt1 acc1 := by
            refine Kd.R_set ?_ (show (((w7.setCell ⟨g7, 0, none⟩ (.int .i64 ((rd_T26 l0 (kk : Int)).f0))).setCell ⟨g7, 1, none⟩ (.int .i64 ((rd_T26 l0 (kk : Int)).f1)))).heap[g7]? = some (.cells #[(.int .i64 ((rd_T26 l0 (kk : Int)).f0)), (.int .i64 ((rd_T26 l0 (kk : Int)).f1)), .int .i64 0] 26 (0, 0)) from ?_) (by decide) _ _
            · refine Kd.R_set ?_ (show ((w7.setCell ⟨g7, 0, none⟩ (.int .i64 ((rd_T26 l0 (kk : Int)).f0)))).heap[g7]? = some (.cells #[(.int .i64 ((rd_T26 l0 (kk : Int)).f0)), .int .i64 0, .int .i64 0] 26 (0, 0)) from ?_) (by decide) _ _
              · exact Kd.R_set HRt.out B7.out (by decide) _ _
              · exact blk_put (cs := #[.int .i64 0, .int .i64 0, .int .i64 0]) B7.out 0 _ rfl
            · refine blk_put (cs := #[(.int .i64 ((rd_T26 l0 (kk : Int)).f0)), .int .i64 0, .int .i64 0]) ?_ 1 _ rfl
              exact blk_put (cs := #[.int .i64 0, .int .i64 0, .int .i64 0]) B7.out 0 _ rfl
          generalize (((w7.setCell ⟨g7, 0, none⟩ (.int .i64 ((rd_T26 l0 (kk : Int)).f0))).setCell ⟨g7, 1, none⟩ (.int .i64 ((rd_T26 l0 (kk : Int)).f1))).setCell ⟨g7, 2, none⟩ (.int .i64 ((rd_T26 l0 (kk : Int)).f2))) = w8 at HX8 B8 K8 R8 ⊢
          clear HX B7 HK HRt hcz0 hcz1 hcz2 hfz0 hfz1 hfz2 hx0 hx1 hx2 hadl
          replace HX8 : w8.drew.heap[gl]? = some (.cells #[vt1] 48 (0, 0)) := HX8
          replace B8 : w8.drew.heap[g7]? = some (.cells #[(.int .i64 ((rd_T26 l0 (kk : Int)).f0)), (.int .i64 ((rd_T26 l0 (kk : Int)).f1)), (.int .i64 ((rd_T26 l0 (kk : Int)).f2))] 26 (0, 0)) := B8
          replace K8 : Kq.KQ w w8.drew (fun q => q = gl) := Kq.KQ.drew K8
          replace R8 := Kd.R_drew R8
          have hz0_ : w8.drew.cell? ⟨g7, 0, none⟩ = some (.int .i64 ((rd_T26 l0 (kk : Int)).f0)) := (blk_cell B8 0).trans rfl
          have hz1_ : w8.drew.cell? ⟨g7, 1, none⟩ = some (.int .i64 ((rd_T26 l0 (kk : Int)).f1)) := (blk_cell B8 1).trans rfl
          have hz2_ : w8.drew.cell? ⟨g7, 2, none⟩ = some (.int .i64 ((rd_T26 l0 (kk : Int)).f2)) := (blk_cell B8 2).trans rfl
          clear HCw
          by_cases hz : nb = 0
          · have hz1 : decide ((nb : Int) = 0) = true := decide_eq_true (by omega)
            have hz2 : decide (nb = 0) = true := decide_eq_true hz
            subst hz
            obtain rfl : true = b := by
              simp only [Nest.ok, if_pos HN.out] at hb_
              exact Option.some.inj hb_
            refine start_ (n := 16) (S := fun w' => True) (ds := []) #[false, false, false, false, false, false, false, false, false, false, false, false, false, false, false, false] (by kernel_rfl) rfl rfl trivial (fun hHeld => ?_)
            generalize w8.drew = wd at HX8 B8 K8 R8 hz0_ hz1_ hz2_ hHeld ⊢
            refine pure_ (i := 0) (N := (some 25)) (v := ?_) (a' := ?_) #[true, false, false, false, false, false, false, false, false, false, false, false, false, false, false, false] rfl rfl (by kernel_rfl) (fun _ _ _ h => h) (Or.inl ⟨by rfl, ?_⟩) ?_ ?_
            rotate_left
            · intro w'
              go_simp
              with_reducible rfl
            rotate_left
            · simp only [Act.put, List.setIfInBounds_toArray, List.set_cons_zero, List.set_cons_succ, i64_w, i32_w]
              rfl
            refine pure_ (i := 1) (N := (some 26)) (v := ?_) (a' := ?_) #[true, true, false, false, false, false, false, false, false, false, false, false, false, false, false, false] rfl rfl (by kernel_rfl) (fun _ _ _ h => h) (Or.inl ⟨by rfl, ?_⟩) ?_ ?_
            rotate_left
            · intro w'
              go_simp
              with_reducible rfl
            rotate_left
            · simp only [Act.put, List.setIfInBounds_toArray, List.set_cons_zero, List.set_cons_succ, i64_w, i32_w]
              rfl
            refine pure_ (i := 2) (N := (some 27)) (v := ?_) (a' := ?_) #[true, true, true, false, false, false, false, false, false, false, false, false, false, false, false, false] rfl rfl (by kernel_rfl) (fun _ _ _ h => h) (Or.inl ⟨by rfl, ?_⟩) ?_ ?_
            rotate_left
            · intro w'
              go_simp
              with_reducible rfl
            rotate_left
            · simp only [Act.put, List.setIfInBounds_toArray, List.set_cons_zero, List.set_cons_succ, i64_w, i32_w]
              rfl
            refine pure_ (i := 3) (N := (some 28)) (v := ?_) (a' := ?_) #[true, true, true, true, false, false, false, false, false, false, false, false, false, false, false, false] rfl rfl (by kernel_rfl) (fun _ _ _ h => h) (Or.inl ⟨by rfl, ?_⟩) ?_ ?_
            rotate_left
            · intro w'
              go_simp
              with_reducible rfl
            rotate_left
            · simp only [Act.put, List.setIfInBounds_toArray, List.set_cons_zero, List.set_cons_succ, i64_w, i32_w]
              rfl
            refine pure_ (i := 4) (N := (some 29)) (v := undef) (a' := ?_) #[true, true, true, true, true, false, false, false, false, false, false, false, false, false, false, false] rfl rfl (by kernel_rfl) (fun _ _ _ h => h) (Or.inr ⟨by rfl, rfl⟩) ?_ ?_
            rotate_left
            · simp only [Act.put, List.setIfInBounds_toArray, List.set_cons_zero, List.set_cons_succ, i64_w, i32_w]
              rfl
            refine pure_ (i := 5) (N := (some 30)) (v := undef) (a' := ?_) #[true, true, true, true, true, true, false, false, false, false, false, false, false, false, false, false] rfl rfl (by kernel_rfl) (fun _ _ _ h => h) (Or.inr ⟨by rfl, rfl⟩) ?_ ?_
            rotate_left
            · simp only [Act.put, List.setIfInBounds_toArray, List.set_cons_zero, List.set_cons_succ, i64_w, i32_w]
              rfl
            refine pure_ (i := 6) (N := (some 31)) (v := undef) (a' := ?_) #[true, true, true, true, true, true, true, false, false, false, false, false, false, false, false, false] rfl rfl (by kernel_rfl) (fun _ _ _ h => h) (Or.inr ⟨by rfl, rfl⟩) ?_ ?_
            rotate_left
            · simp only [Act.put, List.setIfInBounds_toArray, List.set_cons_zero, List.set_cons_succ, i64_w, i32_w]
              rfl
            refine pure_ (i := 7) (N := (some 32)) (v := undef) (a' := ?_) #[true, true, true, true, true, true, true, true, false, false, false, false, false, false, false, false] rfl rfl (by kernel_rfl) (fun _ _ _ h => h) (Or.inr ⟨by rfl, rfl⟩) ?_ ?_
            rotate_left
            · simp only [Act.put, List.setIfInBounds_toArray, List.set_cons_zero, List.set_cons_succ, i64_w, i32_w]
              rfl
            refine pure_ (i := 8) (N := (some 33)) (v := undef) (a' := ?_) #[true, true, true, true, true, true, true, true, true, false, false, false, false, false, false, false] rfl rfl (by kernel_rfl) (fun _ _ _ h => h) (Or.inr ⟨by rfl, rfl⟩) ?_ ?_
            rotate_left
            · simp only [Act.put, List.setIfInBounds_toArray, List.set_cons_zero, List.set_cons_succ, i64_w, i32_w]
              rfl
            refine pure_ (i := 9) (N := (some 34)) (v := undef) (a' := ?_) #[true, true, true, true, true, true, true, true, true, true, false, false, false, false, false, false] rfl rfl (by kernel_rfl) (fun _ _ _ h => h) (Or.inr ⟨by rfl, rfl⟩) ?_ ?_
            rotate_left
            · simp only [Act.put, List.setIfInBounds_toArray, List.set_cons_zero, List.set_cons_succ, i64_w, i32_w]
              rfl
            refine pure_ (i := 10) (N := (some 35)) (v := undef) (a' := ?_) #[true, true, true, true, true, true, true, true, true, true, true, false, false, false, false, false] rfl rfl (by kernel_rfl) (fun _ _ _ h => h) (Or.inr ⟨by rfl, rfl⟩) ?_ ?_
            rotate_left
            · simp only [Act.put, List.setIfInBounds_toArray, List.set_cons_zero, List.set_cons_succ, i64_w, i32_w]
              rfl
            refine pure_ (i := 11) (N := (some 36)) (v := undef) (a' := ?_) #[true, true, true, true, true, true, true, true, true, true, true, true, false, false, false, false] rfl rfl (by kernel_rfl) (fun _ _ _ h => h) (Or.inr ⟨by rfl, rfl⟩) ?_ ?_
            rotate_left
            · simp only [Act.put, List.setIfInBounds_toArray, List.set_cons_zero, List.set_cons_succ, i64_w, i32_w]
              rfl
            refine pure_ (i := 12) (N := (some 37)) (v := undef) (a' := ?_) #[true, true, true, true, true, true, true, true, true, true, true, true, true, false, false, false] rfl rfl (by kernel_rfl) (fun _ _ _ h => h) (Or.inr ⟨by rfl, rfl⟩) ?_ ?_
            rotate_left
            · simp only [Act.put, List.setIfInBounds_toArray, List.set_cons_zero, List.set_cons_succ, i64_w, i32_w]
              rfl
            refine pure_ (i := 13) (N := (some 38)) (v := undef) (a' := ?_) #[true, true, true, true, true, true, true, true, true, true, true, true, true, true, false, false] rfl rfl (by kernel_rfl) (fun _ _ _ h => h) (Or.inr ⟨by rfl, rfl⟩) ?_ ?_
            rotate_left
            · simp only [Act.put, List.setIfInBounds_toArray, List.set_cons_zero, List.set_cons_succ, i64_w, i32_w]
              rfl
            refine pure_ (i := 14) (N := (some 39)) (v := undef) (a' := ?_) #[true, true, true, true, true, true, true, true, true, true, true, true, true, true, true, false] rfl rfl (by kernel_rfl) (fun _ _ _ h => h) (Or.inr ⟨by rfl, rfl⟩) ?_ ?_
            rotate_left
            · simp only [Act.put, List.setIfInBounds_toArray, List.set_cons_zero, List.set_cons_succ, i64_w, i32_w]
              rfl
            refine pure_ (i := 15) (N := (some 40)) (v := ?_) (a' := ?_) #[true, true, true, true, true, true, true, true, true, true, true, true, true, true, true, true] rfl rfl (by kernel_rfl) (fun _ _ _ h => h) (Or.inl ⟨by rfl, ?_⟩) ?_ ?_
            rotate_left
            · intro w'
              go_simp
              with_reducible rfl
            rotate_left
            · simp only [Act.put, List.setIfInBounds_toArray, List.set_cons_zero, List.set_cons_succ, i64_w, i32_w]
              rfl
            refine done_ (by kernel_rfl) ?_
            clear hHeld
            clear B8 hz0_ hz1_ hz2_
            have hown : spec_l1Own.f bg = some bg := by have := HL.out; unfold spec_l1Own.f; rw [Option.bind_some, List.length_nil, if_pos (by have := HN.out; omega), List.nil_append]
            have HX := Aside0.mk HX8
            have HK := Aside0.mk K8
            have HRt := Aside0.mk R8
            have hcall := fun W (hW : Kq.KQ w W (fun q => q = gl)) => spec_l1Own.calls _ cb bg bg W (Kd.R_reads' (Kq.R_kq HRb.out hW (fun _ h => h))).2.2 (by have := (Kd.R_reads' HRb.out).2.1; have := HN.out; omega) hown
            simp only [HN.out] at hcall
            clear HX8 K8 R8 hown
            simp only [if_pos] at H
            obtain ⟨t, ht_, H⟩ := Option.bind_eq_some_iff.mp H
            have HT := Aside0.mk ht_
            have HG := Aside0.mk H
            clear ht_ H
            go_wp2_with (first
              | (go_at_call 97; (with_reducible refine (hcall _ (HK.out)).mono ?_); rintro e wo ⟨vo, rfl, ho, hb⟩; have HO := Aside0.mk ho; have HB := Aside0.mk hb; clear ho hb)
              | ((with_reducible refine gate_builtin (b := .append) (xs := #[.tmp 43, .tmp 45]) rfl ?_); at_builtin; refine Kd.R_append (Kd.int .i64) (w0 := wd) (wd).heap.size rfl (.tmp 43) (.tmp 45) 48 3 (.int .i64 0) 8 rfl Try.underlying48 info3 rfl (by decide) (by omega) vo bg (kk : Int) [.int .i64 (kk : Int)] (fun _ => True) (fun _ => False) rfl rfl ?aP (fun _ hk => hk.elim) ?aF ?aO ?aB ?aS ?aL ?_; (case aP => exact rfl); (case aF => exact (fun _ _ => trivial)); (case aO => exact HO.out); (case aB => exact HB.out); (case aS => exact HB.out.size); (case aL => have := HL.out; have := HN.out; omega); intro v1 w1 ho hb hg hat; have n0_ := Aside0.mk (Kq.KQ.below HK.out hb); have n1_ := Aside0.mk (blk_below HX.out hb); have n2_ := Aside0.mk (Kd.R_below HRt.out hb); have n3_ := Aside0.mk (Kd.R_lower (Kd.R_mono (Kd.R_bound ho) (fun q hq => (by have h1 := hq.2.1; have h2 := HB0.out; have h3 := HK.out.size; omega : q ≠ gl))) (Nat.le_trans HS.out HK.out.size)); clear hb hg hat ho HK HX HRt HO HB; have HK := n0_; have HX := n1_; have HRt := n2_; have HRn := n3_; clear n0_ n1_ n2_ n3_)
              | (go_at_call 67; go_loud (refine (IH.out (some ad) c0 l0 (bg ++ [(kk : Int)]) acc1 t v1 vt1 gl base _ (fun W' hW' => HC.out W' (HK.out.then_ hW' (fun _ h => .inl h))) (by have := HL.out; have := HN.out; simp only [List.length_append, List.length_singleton]; omega) HC0.out (Nat.le_trans HS.out HK.out.size) HRn.out HX.out HRt.out HT.out).mono ?_; rintro e w2 ⟨rfl, vt2, hx2, hr2, hk2⟩; have n0_ := Aside0.mk (HK.out.then_ hk2 (fun _ h => .inl h)); have n1_ := Aside0.mk hx2; have n2_ := Aside0.mk hr2; clear hx2 hr2 hk2 HK HX HRt HRn hcall; have HK := n0_; have HX := n1_; have HRt := n2_; clear n0_ n1_ n2_)))
            go_roundg (l0.length - (kk + 1))
            case measure => omega
            case rel => exact ⟨kk + 1, t, vt2, by omega, by omega, by go_num, ⟨by rw [show l0.length - (kk + 1) = m by omega]; exact HG.out⟩, HX, HRt, HK⟩
          · have hz1 : decide ((nb : Int) = 0) = false := decide_eq_false (by omega)
            obtain ⟨n, rfl⟩ : ∃ n, nb = n + 1 := ⟨nb - 1, by omega⟩
            have hwr2 : wrap64 ((n : Int)) = (n : Int) := by have := HL.out; have := HN.out; unfold wrap64; omega
            have hwr : IntKind.i64.wrap ((n : Int)) = (n : Int) := by rw [i64_w]; exact hwr2
            have hz3 : ((n : Int) + 1 == 0) = false := beq_eq_false_iff_ne.mpr (by omega)
            have hwr3 : ((n : Int) < (n : Int) + 1) = True := eq_true (by omega)
            have hwr4 : (0 ≤ (n : Int)) = True := eq_true (by omega)
            have hRw := Kq.R_kq HRb.out K8 (fun _ h => h)
            obtain ⟨gb, cb', eb, _, hgbl, _⟩ := Kd.R_form hRw (by have := HN.out; omega)
            injection eb with eb1 eb2 eb3
            subst eb1
            subst eb3
            obtain ⟨ce, _, hM, hcc, _⟩ := Kd.R_elem hRw 0 (n : Int) (by omega) (by omega)
            obtain ⟨y, hyd⟩ : ∃ y, y = bg.getD n 0 := ⟨_, rfl⟩
            rw [Int.toNat_natCast, ← hyd] at hM
            obtain rfl : ce = [.int .i64 y] := hM
            have hy0 : w8.drew.cell? ⟨gb, n, none⟩ = some (.int .i64 y) := by have := hcc 0 _ rfl; rwa [show ((n : Int).toNat * (Kd.int .i64).sz + 0) = n from by show n * 1 + 0 = n; omega] at this
            clear hcc eb2
            simp only [Nest.ok, HN.out, if_neg (Nat.succ_ne_zero n), Nat.add_sub_cancel, ← hyd] at hb_
            by_cases hl : 0 ≤ y ∧ y < (l0.length : Int)
            · rw [if_pos hl] at hb_
              have hyl0 := hl.1
              have hyl1 := hl.2
              obtain ⟨ad', e_, hl0, hl1, hl2⟩ := at_T26 (HC.out w8.drew K8) y hyl0 hyl1
              cases e_
              clear hl
              replace hyl0 := eq_true hyl0
              replace hyl1 := eq_true hyl1
              replace hb_ : spec_wrInto.f (rd_T26 l0 y).f0 (rd_T26 l0 y).f1 (rd_T26 l0 y).f2 (rd_T26 l0 (kk : Int)).f0 (rd_T26 l0 (kk : Int)).f1 (rd_T26 l0 (kk : Int)).f2 = some b := hb_
              have HY := Aside0.mk hyd
              clear hRw hyd
              refine start_ (n := 16) (S := fun w' => w'.cell? ⟨gb, n, none⟩ = some (.int .i64 y) ∧ w'.cell? (ad.add (y.toNat * 3)) = some (.int .i64 ((rd_T26 l0 y).f0)) ∧ w'.cell? ⟨(ad.add (y.toNat * 3)).block, (ad.add (y.toNat * 3)).off + 1, none⟩ = some (.int .i64 ((rd_T26 l0 y).f1)) ∧ w'.cell? ⟨(ad.add (y.toNat * 3)).block, (ad.add (y.toNat * 3)).off + 2, none⟩ = some (.int .i64 ((rd_T26 l0 y).f2)) ∧ w'.cell? ⟨g7, 0, none⟩ = some (.int .i64 ((rd_T26 l0 (kk : Int)).f0)) ∧ w'.cell? ⟨g7, 1, none⟩ = some (.int .i64 ((rd_T26 l0 (kk : Int)).f1)) ∧ w'.cell? ⟨g7, 2, none⟩ = some (.int .i64 ((rd_T26 l0 (kk : Int)).f2))) (ds := []) #[false, false, false, false, false, false, false, false, false, false, false, false, false, false, false, false] (by kernel_rfl) rfl rfl ⟨hy0, hl0, hl1, hl2, hz0_, hz1_, hz2_⟩ (fun hHeld => ?_)
              generalize w8.drew = wd at HX8 B8 K8 R8 hy0 hl0 hl1 hl2 hz0_ hz1_ hz2_ hHeld ⊢
              refine pure_ (i := 0) (N := (some 25)) (v := ?_) (a' := ?_) #[true, false, false, false, false, false, false, false, false, false, false, false, false, false, false, false] rfl rfl (by kernel_rfl) (fun _ _ _ h => h) (Or.inl ⟨by rfl, ?_⟩) ?_ ?_
              rotate_left
              · intro w'
                go_simp
                with_reducible rfl
              rotate_left
              · simp only [Act.put, List.setIfInBounds_toArray, List.set_cons_zero, List.set_cons_succ, i64_w, i32_w]
                rfl
              refine pure_ (i := 1) (N := (some 26)) (v := ?_) (a' := ?_) #[true, true, false, false, false, false, false, false, false, false, false, false, false, false, false, false] rfl rfl (by kernel_rfl) (fun _ _ _ h => h) (Or.inl ⟨by rfl, ?_⟩) ?_ ?_
              rotate_left
              · intro w'
                go_simp
                with_reducible rfl
              rotate_left
              · simp only [Act.put, List.setIfInBounds_toArray, List.set_cons_zero, List.set_cons_succ, i64_w, i32_w]
                rfl
              refine pure_ (i := 2) (N := (some 27)) (v := ?_) (a' := ?_) #[true, true, true, false, false, false, false, false, false, false, false, false, false, false, false, false] rfl rfl (by kernel_rfl) (fun _ _ _ h => h) (Or.inl ⟨by rfl, ?_⟩) ?_ ?_
              rotate_left
              · intro w'
                go_simp
                with_reducible rfl
              rotate_left
              · simp only [Act.put, List.setIfInBounds_toArray, List.set_cons_zero, List.set_cons_succ, i64_w, i32_w]
                rfl
              refine pure_ (i := 3) (N := (some 28)) (v := ?_) (a' := ?_) #[true, true, true, true, false, false, false, false, false, false, false, false, false, false, false, false] rfl rfl (by kernel_rfl) (fun _ _ _ h => h) (Or.inl ⟨by rfl, ?_⟩) ?_ ?_
              rotate_left
              · intro w'
                go_simp
                with_reducible rfl
              rotate_left
              · simp only [Act.put, List.setIfInBounds_toArray, List.set_cons_zero, List.set_cons_succ, i64_w, i32_w]
                rfl
              refine pure_ (i := 4) (N := (some 29)) (v := ?_) (a' := ?_) #[true, true, true, true, true, false, false, false, false, false, false, false, false, false, false, false] rfl rfl (by kernel_rfl) (fun _ _ _ h => h) (Or.inl ⟨by rfl, ?_⟩) ?_ ?_
              rotate_left
              · intro w'
                go_simp
                with_reducible rfl
              rotate_left
              · simp only [Act.put, List.setIfInBounds_toArray, List.set_cons_zero, List.set_cons_succ, i64_w, i32_w]
                rfl
              refine pure_ (i := 5) (N := (some 30)) (v := ?_) (a' := ?_) #[true, true, true, true, true, true, false, false, false, false, false, false, false, false, false, false] rfl rfl (by kernel_rfl) (fun _ _ _ h => h) (Or.inl ⟨by rfl, ?_⟩) ?_ ?_
              rotate_left
              · intro w'
                go_simp
                with_reducible rfl
              rotate_left
              · simp only [Act.put, List.setIfInBounds_toArray, List.set_cons_zero, List.set_cons_succ, i64_w, i32_w]
                rfl
              refine pure_ (i := 6) (N := (some 31)) (v := ?_) (a' := ?_) #[true, true, true, true, true, true, true, false, false, false, false, false, false, false, false, false] rfl rfl (by kernel_rfl) (fun _ _ _ h => h) (Or.inl ⟨by rfl, ?_⟩) ?_ ?_
              rotate_left
              · intro w'
                go_simp
                with_reducible rfl
              rotate_left
              · simp only [Act.put, List.setIfInBounds_toArray, List.set_cons_zero, List.set_cons_succ, i64_w, i32_w]
                rfl
              refine pure_ (i := 7) (N := (some 32)) (v := ?_) (a' := ?_) #[true, true, true, true, true, true, true, true, false, false, false, false, false, false, false, false] rfl rfl (by kernel_rfl) (fun _ _ _ h => h) (Or.inl ⟨by rfl, ?_⟩) ?_ ?_
              rotate_left
              · intro w'
                go_simp
                with_reducible rfl
              rotate_left
              · simp only [Act.put, List.setIfInBounds_toArray, List.set_cons_zero, List.set_cons_succ, i64_w, i32_w]
                rfl
              refine pure_ (i := 8) (N := (some 33)) (v := ?_) (a' := ?_) #[true, true, true, true, true, true, true, true, true, false, false, false, false, false, false, false] rfl rfl (by kernel_rfl) (fun _ _ _ h => h) (Or.inl ⟨by rfl, ?_⟩) ?_ ?_
              rotate_left
              · intro w'
                go_simp
                with_reducible rfl
              rotate_left
              · simp only [Act.put, List.setIfInBounds_toArray, List.set_cons_zero, List.set_cons_succ, i64_w, i32_w]
                rfl
              refine pure_ (i := 9) (N := (some 34)) (v := ?_) (a' := ?_) #[true, true, true, true, true, true, true, true, true, true, false, false, false, false, false, false] rfl rfl (by kernel_rfl) (fun _ _ _ h => h) (Or.inl ⟨by rfl, ?_⟩) ?_ ?_
              rotate_left
              · intro w'
                go_simp
                with_reducible rfl
              rotate_left
              · simp only [Act.put, List.setIfInBounds_toArray, List.set_cons_zero, List.set_cons_succ, i64_w, i32_w]
                rfl
              refine take_ (i := 10) (N := (some 35)) (v := ?_) (a' := ?_) #[true, true, true, true, true, true, true, true, true, true, true, false, false, false, false, false] rfl rfl (by kernel_rfl) (fun _ _ _ h => h) (Or.inl ⟨by rfl, ?_⟩) hHeld ?_ ?_
              rotate_left
              · rintro w' ⟨s0, s1, s2, s3, s4, s5, s6⟩
                go_simp
                with_reducible rfl
              rotate_left
              · simp only [Act.put, List.setIfInBounds_toArray, List.set_cons_zero, List.set_cons_succ, i64_w, i32_w]
                rfl
              refine pure_ (i := 11) (N := (some 36)) (v := ?_) (a' := ?_) #[true, true, true, true, true, true, true, true, true, true, true, true, false, false, false, false] rfl rfl (by kernel_rfl) (fun _ _ _ h => h) (Or.inl ⟨by rfl, ?_⟩) ?_ ?_
              rotate_left
              · intro w'
                go_simp
                with_reducible rfl
              rotate_left
              · simp only [Act.put, List.setIfInBounds_toArray, List.set_cons_zero, List.set_cons_succ, i64_w, i32_w]
                rfl
              refine take_ (i := 12) (N := (some 37)) (v := ?_) (a' := ?_) #[true, true, true, true, true, true, true, true, true, true, true, true, true, false, false, false] rfl rfl (by kernel_rfl) (fun _ _ _ h => h) (Or.inl ⟨by rfl, ?_⟩) hHeld ?_ ?_
              rotate_left
              · rintro w' ⟨s0, s1, s2, s3, s4, s5, s6⟩
                go_simp
                with_reducible rfl
              rotate_left
              · simp only [Act.put, List.setIfInBounds_toArray, List.set_cons_zero, List.set_cons_succ, i64_w, i32_w]
                rfl
              refine take_ (i := 13) (N := (some 38)) (v := ?_) (a' := ?_) #[true, true, true, true, true, true, true, true, true, true, true, true, true, true, false, false] rfl rfl (by kernel_rfl) (fun _ _ _ h => h) (Or.inl ⟨by rfl, ?_⟩) hHeld ?_ ?_
              rotate_left
              · rintro w' ⟨s0, s1, s2, s3, s4, s5, s6⟩
                go_simp
                with_reducible rfl
              rotate_left
              · simp only [Act.put, List.setIfInBounds_toArray, List.set_cons_zero, List.set_cons_succ, i64_w, i32_w]
                rfl
              refine one_ (i := 14) (N := (some 39)) #[true, true, true, true, true, true, true, true, true, true, true, true, true, true, true, false] rfl rfl (by kernel_rfl) (by decide) (fun K hK => ?_)
              refine goes_ Try.func56 (by kernel_rfl) rfl #[.agg #[(.int .i64 ((rd_T26 l0 y).f0)), (.int .i64 ((rd_T26 l0 y).f1)), (.int .i64 ((rd_T26 l0 y).f2))], .agg #[(.int .i64 ((rd_T26 l0 (kk : Int)).f0)), (.int .i64 ((rd_T26 l0 (kk : Int)).f1)), (.int .i64 ((rd_T26 l0 (kk : Int)).f2))]] (by rfl) rfl rfl (by (try simp only [List.map_toArray, List.map_cons, List.map_nil]); first | done | rfl | (simp only [List.length_drop, List.length_take]; rfl)) ?_
              with_reducible refine (spec_wrInto.calls _ _ _ _ _ _ b _ hb_).mono ?_
              rintro e w10 ⟨rfl, hb⟩
              refine ⟨_, rfl, ?_⟩
              replace hy0 := (hb.cell (World.block_lt_of_cell? wd _ hy0)).trans hy0
              replace hl0 := (hb.cell (World.block_lt_of_cell? wd _ hl0)).trans hl0
              replace hl1 := (hb.cell (World.block_lt_of_cell? wd _ hl1)).trans hl1
              replace hl2 := (hb.cell (World.block_lt_of_cell? wd _ hl2)).trans hl2
              replace hz0_ := (hb.cell (World.block_lt_of_cell? wd _ hz0_)).trans hz0_
              replace hz1_ := (hb.cell (World.block_lt_of_cell? wd _ hz1_)).trans hz1_
              replace hz2_ := (hb.cell (World.block_lt_of_cell? wd _ hz2_)).trans hz2_
              replace HX8 := blk_below HX8 hb
              replace K8 := Kq.KQ.below K8 hb
              replace R8 := Kd.R_below R8 hb
              clear hb
              refine hK.out _ _ ⟨hy0, hl0, hl1, hl2, hz0_, hz1_, hz2_⟩ (fun hHeld => ?_)
              clear hK K
              refine norm_ (a' := ?_) ?_ ?_
              rotate_left
              · show Act.put _ (some 39) _ = _
                simp only [Act.put, List.setIfInBounds_toArray, List.set_cons_zero, List.set_cons_succ, i64_w, i32_w]
                rfl
              refine pure_ (i := 15) (N := (some 40)) (v := ?_) (a' := ?_) #[true, true, true, true, true, true, true, true, true, true, true, true, true, true, true, true] rfl rfl (by kernel_rfl) (fun _ _ _ h => h) (Or.inl ⟨by rfl, ?_⟩) ?_ ?_
              rotate_left
              · intro w'
                go_simp
                with_reducible rfl
              rotate_left
              · simp only [Act.put, List.setIfInBounds_toArray, List.set_cons_zero, List.set_cons_succ, i64_w, i32_w]
                rfl
              refine done_ (by kernel_rfl) ?_
              clear hHeld
              clear hy0 hl0 hl1 hl2 hz0_ hz1_ hz2_ hwr hwr2 hb_ B8
              cases b with
              | true =>
                have hown : spec_l1Own.f bg = some bg := by have := HL.out; unfold spec_l1Own.f; rw [Option.bind_some, List.length_nil, if_pos (by have := HN.out; omega), List.nil_append]
                have HX := Aside0.mk HX8
                have HK := Aside0.mk K8
                have HRt := Aside0.mk R8
                have hcall := fun W (hW : Kq.KQ w W (fun q => q = gl)) => spec_l1Own.calls _ cb bg bg W (Kd.R_reads' (Kq.R_kq HRb.out hW (fun _ h => h))).2.2 (by have := (Kd.R_reads' HRb.out).2.1; have := HN.out; omega) hown
                simp only [HN.out] at hcall
                clear HX8 K8 R8 hown
                simp only [if_pos] at H
                obtain ⟨t, ht_, H⟩ := Option.bind_eq_some_iff.mp H
                have HT := Aside0.mk ht_
                have HG := Aside0.mk H
                clear ht_ H
                go_wp2_with (first
                  | (go_at_call 97; (with_reducible refine (hcall _ (HK.out)).mono ?_); rintro e wo ⟨vo, rfl, ho, hb⟩; have HO := Aside0.mk ho; have HB := Aside0.mk hb; clear ho hb)
                  | ((with_reducible refine gate_builtin (b := .append) (xs := #[.tmp 43, .tmp 45]) rfl ?_); at_builtin; refine Kd.R_append (Kd.int .i64) (w0 := w10) (w10).heap.size rfl (.tmp 43) (.tmp 45) 48 3 (.int .i64 0) 8 rfl Try.underlying48 info3 rfl (by decide) (by omega) vo bg (kk : Int) [.int .i64 (kk : Int)] (fun _ => True) (fun _ => False) rfl rfl ?aP (fun _ hk => hk.elim) ?aF ?aO ?aB ?aS ?aL ?_; (case aP => exact rfl); (case aF => exact (fun _ _ => trivial)); (case aO => exact HO.out); (case aB => exact HB.out); (case aS => exact HB.out.size); (case aL => have := HL.out; have := HN.out; omega); intro v1 w1 ho hb hg hat; have n0_ := Aside0.mk (Kq.KQ.below HK.out hb); have n1_ := Aside0.mk (blk_below HX.out hb); have n2_ := Aside0.mk (Kd.R_below HRt.out hb); have n3_ := Aside0.mk (Kd.R_lower (Kd.R_mono (Kd.R_bound ho) (fun q hq => (by have h1 := hq.2.1; have h2 := HB0.out; have h3 := HK.out.size; omega : q ≠ gl))) (Nat.le_trans HS.out HK.out.size)); clear hb hg hat ho HK HX HRt HO HB; have HK := n0_; have HX := n1_; have HRt := n2_; have HRn := n3_; clear n0_ n1_ n2_ n3_)
                  | (go_at_call 67; go_loud (refine (IH.out (some ad) c0 l0 (bg ++ [(kk : Int)]) acc1 t v1 vt1 gl base _ (fun W' hW' => HC.out W' (HK.out.then_ hW' (fun _ h => .inl h))) (by have := HL.out; have := HN.out; simp only [List.length_append, List.length_singleton]; omega) HC0.out (Nat.le_trans HS.out HK.out.size) HRn.out HX.out HRt.out HT.out).mono ?_; rintro e w2 ⟨rfl, vt2, hx2, hr2, hk2⟩; have n0_ := Aside0.mk (HK.out.then_ hk2 (fun _ h => .inl h)); have n1_ := Aside0.mk hx2; have n2_ := Aside0.mk hr2; clear hx2 hr2 hk2 HK HX HRt HRn hcall; have HK := n0_; have HX := n1_; have HRt := n2_; clear n0_ n1_ n2_)))
                go_roundg (l0.length - (kk + 1))
                case measure => omega
                case rel => exact ⟨kk + 1, t, vt2, by omega, by omega, by go_num, ⟨by rw [show l0.length - (kk + 1) = m by omega]; exact HG.out⟩, HX, HRt, HK⟩
              | false =>
                simp only [Bool.false_eq_true, if_false] at H
                go_wp2
                go_roundg (l0.length - (kk + 1))
                case measure => omega
                case rel => exact ⟨kk + 1, acc1, vt1, by omega, by omega, by go_num, ⟨by rw [show l0.length - (kk + 1) = m by omega]; exact H⟩, ⟨HX8⟩, ⟨R8⟩, ⟨K8⟩⟩
            · rw [if_neg hl] at hb_
              exact absurd hb_ (by simp)
        · obtain rfl : kk = l0.length := by omega
          have hr_ := HG.out
          rw [Nat.sub_self] at hr_
          simp only [Nest.go] at hr_
          obtain rfl := Option.some.inj hr_
          go_wp2
          go_end0
          exact ⟨rfl, _, HX.out, HRt.out, HK.out⟩
theorem spec_LongestNest.heap : Kd.Heap k26 := ⟨fun _ h => h⟩
def spec_LongestNest.good (b : S26) : Bool := (spec_wrGood.f b.f0 b.f1 b.f2).getD false
theorem spec_LongestNest.total (a b c : Int) : spec_wrGood.f a b c = some ((spec_wrGood.f a b c).getD false) := by
  have hw : ∀ x y z, ∃ r, spec_l1In.f x y z = some r := fun x y z => by unfold spec_l1In.f; split <;> exact ⟨_, rfl⟩
  have : ∃ r, spec_wrGood.f a b c = some r := by
    unfold spec_wrGood.f
    repeat' (first
      | exact ⟨_, rfl⟩
      | split
      | (obtain ⟨_, hr⟩ := hw _ _ _; rw [hr, Option.bind_some]; clear hr)
      | rw [Option.bind_some])
  obtain ⟨r, hr⟩ := this
  rw [hr]; rfl
def spec_LongestNest.f (l0 : List (S26)) : Option (List Int × Bool) := if l0.length > 10 then some ([], false) else if l0.all spec_LongestNest.good = true then (Nest.nest spec_LongestNest.into z26 l0 70 [] []).bind fun t => some (t, true) else some ([], false)
set_option maxHeartbeats 8000000 in
set_option maxRecDepth 100000 in
theorem spec_LongestNest.calls (A0 : Option Addr) (c0 : Nat) (l0 : List (S26)) (r1 : List Int) (r2 : Bool) (w : World) (hr0 : Kd.C k26 w A0 l0.length l0) (hc0 : l0.length ≤ c0) (h : spec_LongestNest.f l0 = some (r1, r2)) :
    Calls Try.prog 25 #[.slice A0 l0.length c0] w fun e w' => ∃ v0_ : Value, e = .returned (.tuple #[v0_, .bool r2]) ∧ Kd.R (Kd.int .i64) 3 w' w.heap.size (fun _ => True) v0_ r1 ∧ Below w.heap.size w w' := by
  have hu48 := Try.underlying48
  have hu26 := Try.underlying26
  have HC := Aside0.mk hr0
  have HC0 := Aside0.mk hc0
  clear hr0 hc0
  by_cases c10 : l0.length > 10
  · have c1 : decide (10 < (l0.length : Int)) = true := decide_eq_true (by omega)
    have c2 : decide (10 < l0.length) = true := decide_eq_true c10
    rw [spec_LongestNest.f, if_pos c10] at h
    injection (Option.some.inj h) with h1 h2
    subst h1
    subst h2
    clear h c10
    go_enter Try.func25, Try.ntmps25
    go_wp2
    go_ret2
    exact ⟨_, rfl, Kd.R_nil _ _ _ _ _, Below.refl _ _⟩
  · have c1 : decide (10 < (l0.length : Int)) = false := decide_eq_false (by omega)
    have c2 : decide (10 < l0.length) = false := decide_eq_false c10
    have hl10 : (l0.length : Int) ≤ 10 := by omega
    rw [spec_LongestNest.f, if_neg c10] at h
    have HF := Aside0.mk h
    clear h c10
    go_enter Try.func25, Try.ntmps25
    go_wp2
    go_loopg [12] l0.length (fun gg v12 w' => ∃ kk : Nat, kk ≤ l0.length ∧ l0.length - kk ≤ gg ∧ v12 = .int .i64 kk ∧ Aside0 (∀ j, j < kk → spec_LongestNest.good (l0.getD j z26) = true) ∧ Aside0 (Below w.heap.size w w'))
    case atStart => exact ⟨0, Nat.zero_le _, by omega, rfl, ⟨fun j hj => absurd hj (Nat.not_lt_zero _)⟩, ⟨Below.refl _ _⟩⟩
    case round =>
      clear c1 c2
      obtain ⟨kk, hkk, hgg, rfl, HA, HB⟩ := hrel
      by_cases hlt : kk < l0.length
      · have hltz : (kk : Int) < (l0.length : Int) := by omega
        have p0 : (0 : Int) ≤ (kk : Int) := by omega
        obtain ⟨ad, e_, hx0, hx1, hx2⟩ := at_T26 (Kd.C_below HC.out HB.out) (kk : Int) p0 hltz
        cases e_
        rw [Int.toNat_natCast] at hx0 hx1 hx2
        replace p0 := eq_true p0
        have q0 := eq_true hltz
        have hcall := fun W => spec_wrGood.calls (rd_T26 l0 (kk : Int)).f0 (rd_T26 l0 (kk : Int)).f1 (rd_T26 l0 (kk : Int)).f2 _ W (spec_LongestNest.total _ _ _)
        have hG_ : (spec_wrGood.f (rd_T26 l0 (kk : Int)).f0 (rd_T26 l0 (kk : Int)).f1 (rd_T26 l0 (kk : Int)).f2).getD false = spec_LongestNest.good (l0.getD kk z26) := rfl
        have HG := Aside0.mk hG_
        clear hG_
        generalize (spec_wrGood.f (rd_T26 l0 (kk : Int)).f0 (rd_T26 l0 (kk : Int)).f1 (rd_T26 l0 (kk : Int)).f2).getD false = b at hcall HG
        have HCALL := Aside0.mk hcall
        clear hcall
        cases b with
        | true =>
          go_wp2_with (first
            | ((with_reducible refine gate_dst (N := 5) rfl ?_); refine box_event ?hg (N := 5) ?hd (cs := #[.int .i64 0, .int .i64 0, .int .i64 0]) (t := 26) ?hr ?_; (case hd => rfl); (case hg => rfl); (case hr => first | (go_simp; done) | (go_simp; rfl)); intro g5 hg w5 hbox hb; have n0_ := Aside0.mk (below_step (by repeat (first | (with_reducible first | exact HB.out | apply below_alloc | apply pw_below_drewN | apply below_drew1) | exact HB.out)) hb); have G5 := Aside0.mk ((by rw [hg]; exact below_size (by repeat (first | (with_reducible first | exact HB.out | apply below_alloc | apply pw_below_drewN | apply below_drew1) | exact HB.out))) : w.heap.size ≤ g5); clear HB; have HB := n0_; clear n0_; have hcz0 : w5.cell? ⟨g5, 0, none⟩ = some (.int .i64 0) := (blk_cell hbox 0).trans rfl; have hcz1 : w5.cell? ⟨g5, 1, none⟩ = some (.int .i64 0) := (blk_cell hbox 1).trans rfl; have hcz2 : w5.cell? ⟨g5, 2, none⟩ = some (.int .i64 0) := (blk_cell hbox 2).trans rfl; have hfz0 := blk_frozen hbox 0; have hfz1 := blk_frozen hbox 1; have hfz2 := blk_frozen hbox 2; clear hb hbox hg)
            | (go_at_call 55; refine (HCALL.out _).mono ?_; rintro e w6 ⟨rfl, hb⟩; have n0_ := Aside0.mk (below_step (below_set (below_set (below_set HB.out G5.out) G5.out) G5.out) hb); clear HB HCALL; have HB := n0_; clear n0_ hb))
          go_roundg (l0.length - (kk + 1))
          case measure => omega
          case rel =>
            refine ⟨kk + 1, by omega, by omega, by go_num, ⟨fun j hj => ?_⟩, HB⟩
            by_cases e : j = kk
            · subst e; exact HG.out.symm
            · exact HA.out j (by omega)
        | false =>
          have hno : ¬ l0.all spec_LongestNest.good = true := fun hall => by
            have := List.all_eq_true.1 hall _ (Lam.getD_mem hlt z26)
            rw [← HG.out] at this
            cases this
          have h := HF.out
          rw [if_neg hno] at h
          injection (Option.some.inj h) with h1 h2
          subst h1
          subst h2
          clear h hno
          go_wp2_with (first
            | ((with_reducible refine gate_dst (N := 5) rfl ?_); refine box_event ?hg (N := 5) ?hd (cs := #[.int .i64 0, .int .i64 0, .int .i64 0]) (t := 26) ?hr ?_; (case hd => rfl); (case hg => rfl); (case hr => first | (go_simp; done) | (go_simp; rfl)); intro g5 hg w5 hbox hb; have n0_ := Aside0.mk (below_step (by repeat (first | (with_reducible first | exact HB.out | apply below_alloc | apply pw_below_drewN | apply below_drew1) | exact HB.out)) hb); have G5 := Aside0.mk ((by rw [hg]; exact below_size (by repeat (first | (with_reducible first | exact HB.out | apply below_alloc | apply pw_below_drewN | apply below_drew1) | exact HB.out))) : w.heap.size ≤ g5); clear HB; have HB := n0_; clear n0_; have hcz0 : w5.cell? ⟨g5, 0, none⟩ = some (.int .i64 0) := (blk_cell hbox 0).trans rfl; have hcz1 : w5.cell? ⟨g5, 1, none⟩ = some (.int .i64 0) := (blk_cell hbox 1).trans rfl; have hcz2 : w5.cell? ⟨g5, 2, none⟩ = some (.int .i64 0) := (blk_cell hbox 2).trans rfl; have hfz0 := blk_frozen hbox 0; have hfz1 := blk_frozen hbox 1; have hfz2 := blk_frozen hbox 2; clear hb hbox hg)
            | (go_at_call 55; refine (HCALL.out _).mono ?_; rintro e w6 ⟨rfl, hb⟩; have n0_ := Aside0.mk (below_step (below_set (below_set (below_set HB.out G5.out) G5.out) G5.out) hb); clear HB HCALL; have HB := n0_; clear n0_ hb))
          go_ret2
          exact ⟨_, rfl, Kd.R_nil _ _ _ _ _, HB.out⟩
      · obtain rfl : kk = l0.length := by omega
        have hall : l0.all spec_LongestNest.good = true := List.all_eq_true.2 fun x hx => by
          obtain ⟨j, hj, rfl⟩ := List.getElem_of_mem hx
          have := HA.out j hj
          rwa [List.getD_eq_getElem?_getD, List.getElem?_eq_getElem hj] at this
        have h := HF.out
        rw [if_pos hall] at h
        obtain ⟨t, ht, h⟩ := Option.bind_eq_some_iff.mp h
        injection (Option.some.inj h) with h1 h2
        subst h1
        subst h2
        have HT := Aside0.mk ht
        clear h ht hall
        go_wp2_with (first
          | ((with_reducible refine gate_dst (N := 6) rfl ?_); refine box_event ?hg (N := 6) ?hd (cs := #[.slice none 0 0]) (t := 48) ?hr ?_; (case hd => rfl); (case hg => rfl); (case hr => first | (go_simp; done) | (go_simp; rfl)); intro g6 hg w6 hbox hb; have n0_ := Aside0.mk (below_step (by repeat (first | (with_reducible first | exact HB.out | apply below_alloc | apply pw_below_drewN | apply below_drew1) | exact HB.out)) hb); have G6 := Aside0.mk ((by rw [hg]; exact below_size (by repeat (first | (with_reducible first | exact HB.out | apply below_alloc | apply pw_below_drewN | apply below_drew1) | exact HB.out))) : w.heap.size ≤ g6); clear HB; have HB := n0_; clear n0_; have B6 := Aside0.mk hbox; clear hb hbox hg)
          | (go_at_call 67; go_loud (refine (spec_LongestNest.rec 70 A0 c0 l0 [] [] t (.slice none 0 0) (.slice none 0 0) g6 w.heap.size _ (Kq.C_kq_came spec_LongestNest.heap HC.out HB.out (fun q hq => by rw [hq]; exact G6.out)) (by simp) HC0.out HB.out.size (Kd.R_nil _ _ _ _ _) B6.out (Kd.R_nil _ _ _ _ _) HT.out).mono ?_; rintro e w7 ⟨rfl, vt, hx, hr, hk⟩; have n0_ := Aside0.mk (Kq.KQ.to_below HB.out hk (fun q hq => by rw [hq]; exact G6.out)); have hcv : w7.cell? ⟨g6, 0, none⟩ = some vt := (blk_cell hx 0).trans rfl; have HR := Aside0.mk (Kd.R_mono hr (fun _ _ => trivial)); clear HB hr hk hx; have HB := n0_; clear n0_)))
        go_ret2
        exact ⟨_, rfl, HR.out, HB.out⟩

end Go.Proofs.Ythlebenfnlllhaa.PFnExactLongestNest
