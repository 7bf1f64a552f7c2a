-- Made by a program of this session (wip/xprint.py) out of the translation.
import Derived.Test.YthlebenfnlllhaaPFnExactFirstStackx0
import Derived.Test.YthlebenfnlllhaaPFnExactFirstStackx1
import Derived.Test.YthlebenfnlllhaaPFnExactFirstStackx2
import Derived.Test.YthlebenfnlllhaaPFnExactFirstStackx4
import Derived.Test.YthlebenfnlllhaaPFnExactFirstStackx5
namespace Go.Proofs.Ythlebenfnlllhaa.PFnExactFirstStack
open Go.RowKit Go.Proofs.YthlebenfnlllhaaW.PrintWords Go.Proofs.YthlebenfnlllhaaW.PrintLast Go.Proofs.YthlebenfnlllhaaW.PrintMore
attribute [local go_sem] max2_int min2_int max_two min_two max_three min_three max_four min_four   -- for this text's walks alone
set_option linter.unusedVariables false
set_option linter.unusedSimpArgs false

/-! ### impl_stacks: function 89 -/
abbrev impl_stacks.SS (gl : Nat) (vt : Value) : Nat → Prop := fun q => q = gl ∨ some q = vt.ownBlock
theorem impl_stacks.notS {W : World} {gl base : Nat} {vt : Value} {acc : List (List Int)} {ok : Nat → Prop} {cx cs : Array Value} {q t : Nat} (hx : W.heap[gl]? = some (.cells cx 111 (0, 0))) (ht : Kd.R (Kd.slice 3 (Kd.int .i64)) 48 W base ok vt acc) (hq : W.heap[q]? = some (.cells cs t (0, 0))) (h1 : t ≠ 111) (h2 : t ≠ 48) : ¬ impl_stacks.SS gl vt q := by
  rintro (rfl | h)
  · rw [hx] at hq; cases hq; exact h1 rfl
  · obtain ⟨inner, ho⟩ := Kd.R_own ht
    obtain ⟨cells, hc⟩ := own_typed ho q h.symm
    rw [hc] at hq; cases hq; exact h2 rfl
theorem impl_stacks.keepR {w W : World} {gl base : Nat} {vt vb : Value} {acc : List (List Int)} {bg : List Int} {cx : Array Value} (hx : w.heap[gl]? = some (.cells cx 111 (0, 0))) (ht : Kd.R (Kd.slice 3 (Kd.int .i64)) 48 w base (fun _ => True) vt acc) (hb : Kd.R (Kd.int .i64) 3 w base (fun _ => True) vb bg) (hk : Kq.KQ w W (impl_stacks.SS gl vt)) : Kd.R (Kd.int .i64) 3 W base (fun _ => True) vb bg :=
  Kd.R_mono (Kq.R_kq (Kd.R_bound hb) hk (fun k hk => by
    obtain ⟨_, _, _, q, hq, cells, hc⟩ := hk
    have hq : q = 3 := by simpa [Kd.int, Kd.scalar] using hq
    subst hq
    exact impl_stacks.notS hx ht hc (by decide) (by decide))) (fun _ _ => trivial)
theorem impl_stacks.thenS {w W W2 : World} {gl : Nat} {vt vt1 : Value} (h : Kq.KQ w W (impl_stacks.SS gl vt)) (k : Kq.KQ W W2 (impl_stacks.SS gl vt1)) (hat : vt1.ownBlock = vt.ownBlock ∨ ∃ b, vt1.ownBlock = some b ∧ w.heap.size ≤ b) : Kq.KQ w W2 (impl_stacks.SS gl vt) :=
  h.then_ k (fun q hq => by
    rcases hq with hq | hq
    · exact .inl (.inl hq)
    · rcases hat with hat | ⟨b, hb, hle⟩
      · exact .inl (.inr (by rw [hq, hat]))
      · rw [hb] at hq; cases hq; exact .inr hle)
theorem impl_stacks.atS {w W : World} {v0 v1 v2 : Value} (h : v1.ownBlock = v0.ownBlock ∨ ∃ b, v1.ownBlock = some b ∧ w.heap.size ≤ b) (hs : w.heap.size ≤ W.heap.size) (k : v2.ownBlock = v1.ownBlock ∨ ∃ b, v2.ownBlock = some b ∧ W.heap.size ≤ b) : v2.ownBlock = v0.ownBlock ∨ ∃ b, v2.ownBlock = some b ∧ w.heap.size ≤ b := by
  rcases k with k | ⟨b, hb, hle⟩
  · rw [k]; exact h
  · exact .inr ⟨b, hb, Nat.le_trans hs hle⟩
set_option maxHeartbeats 8000000 in
set_option maxRecDepth 100000 in
theorem impl_stacks.rec : ∀ (k : Nat) (A0 : Option Addr) (c0 : Nat) (l0 : List S98) (bg : List Int) (acc r : List (List Int)) (vb vt : Value) (gl gs ga base : Nat) (w : World),
    (∀ W', Kq.KQ w W' (impl_stacks.SS gl vt) → Kd.C k98 W' A0 l0.length l0) → bg.length + k ≤ 1000 → l0.length ≤ c0 → base ≤ w.heap.size →
    w.heap[gs]? = some (.cells #[.slice A0 l0.length c0] 61 (0, 0)) → w.heap[ga]? = some (.cells #[.func (.func 105) #[] #[.pointer (some ⟨gl, 0, none⟩), .pointer (some ⟨gs, 0, none⟩), .pointer (some ⟨ga, 0, none⟩)]] 96 (0, 0)) →
    Kd.R (Kd.int .i64) 3 w base (fun _ => True) vb bg → w.heap[gl]? = some (.cells #[vt] 111 (0, 0)) → Kd.R (Kd.slice 3 (Kd.int .i64)) 48 w base (fun _ => True) vt acc →
    Rows.nest (fun r => impl_isStack.f l0 r) l0.length k bg acc = some r →
    Calls Try.prog 105 #[vb, .pointer (some ⟨gl, 0, none⟩), .pointer (some ⟨gs, 0, none⟩), .pointer (some ⟨ga, 0, none⟩)] w fun e w' => e = .returned (.tuple #[]) ∧ ∃ vt' : Value, w'.heap[gl]? = some (.cells #[vt'] 111 (0, 0)) ∧ Kd.R (Kd.slice 3 (Kd.int .i64)) 48 w' base (fun _ => True) vt' r ∧ (vt'.ownBlock = vt.ownBlock ∨ ∃ b, vt'.ownBlock = some b ∧ w.heap.size ≤ b) ∧ Kq.KQ w w' (impl_stacks.SS gl vt) := by
  intro k
  induction k with
  | zero => intro _ _ _ _ _ _ _ _ _ _ _ _ _ _ _ _ _ _ _ _ _ _ h; simp [Rows.nest] at h
  | succ k ih =>
    intro A0 c0 l0 bg acc r vb vt gl gs ga base w hC hk hc hbase hgs hga hb hx ht h
    have hu48 := Try.underlying48
    have hu98 := Try.underlying98
    have IH := Aside0.mk ih
    have hl64 : (l0.length : Int) ≤ 9223372036854775807 := by have := (hC w (Kq.KQ.refl _ _)).2.1; omega
    obtain ⟨Ab, cb, rfl⟩ := Kd.R_slice hb
    obtain ⟨At, ct, rfl⟩ := Kd.R_slice ht
    have hacc : acc.length < 1000000000 := by
      rcases Nat.lt_or_ge acc.length 1000000000 with h2 | h2
      · exact h2
      · simp only [Rows.nest] at h; rw [if_neg (by omega)] at h; cases h
    have hgo : Rows.go (Rows.nest (fun r => impl_isStack.f l0 r) l0.length k) (fun r => impl_isStack.f l0 r) bg l0.length 0 (acc ++ [bg]) = some r := by
      simp only [Rows.nest] at h; rw [if_pos hacc] at h; exact h
    have HG := Aside0.mk hgo
    have HCl := Aside0.mk hacc
    have HC := Aside0.mk hC
    have HX := Aside0.mk hx
    have HGS := Aside0.mk hgs
    have HGA := Aside0.mk hga
    have hcell : w.cell? ⟨gl, 0, none⟩ = some (.slice At acc.length ct) := (blk_cell hx 0).trans rfl
    have HRb := Aside0.mk hb
    have HRt := Aside0.mk ht
    have HS := Aside0.mk hbase
    have HL := Aside0.mk hk
    have HC0 := Aside0.mk hc
    have hown : slices_Clone_int_int.f bg = some bg := by unfold slices_Clone_int_int.f; rw [if_pos (by omega)]
    have HCALL := Aside0.mk (fun W (hW : Kq.KQ w W (impl_stacks.SS gl (.slice At acc.length ct))) => slices_Clone_int_int.calls Ab cb bg bg W (Kd.R_reads' (impl_stacks.keepR hx ht hb hW)).2.2 (Kd.R_reads' hb).2.1 hown)
    clear hC hx hb ht h hgo hacc hbase hk ih hc hgs hga hown
    go_enter Try.func105, Try.ntmps105
    go_wp2_with (first
      | ((with_reducible refine gate_builtin (b := .append) (xs := #[.tmp 7, .tmp 9]) rfl ?_); at_builtin; go_loud (refine Kd.R_append (Kd.slice 3 (Kd.int .i64)) (w0 := w) base rfl (.tmp 7) (.tmp 9) 111 48 (.slice none 0 0) 24 rfl Try.underlying111 info48 rfl (by decide) (by omega) (.slice At acc.length ct) acc bg [.slice Ab bg.length cb] (fun _ => True) (fun k => True ∧ some k ≠ (Value.slice At acc.length ct).ownBlock) rfl rfl ?aP (fun _ hk => hk) (fun _ _ => trivial) HRt.out (Below.refl _ _) HS.out ?aL ?_); (case aP => exact ⟨_, rfl, Kd.R_apartR HRb.out HRt.out (by simp [Kd.int, Kd.scalar])⟩); (case aL => have := HCl.out; omega); intro v1 w1 ho1 hb1 hg1 hat1; obtain ⟨A1, c1, e1⟩ := Kd.R_slice ho1; rw [List.length_append, List.length_singleton] at e1; subst e1; have x1 := blk_grown HX.out hg1 (Kd.R_ne HRt.out HX.out (by decide)); have hcl1 : w1.cell? ⟨gl, 0, none⟩ = some (.slice At acc.length ct) := (blk_cell x1 0).trans rfl; have hfl1 := blk_frozen x1 0; have X1 := Aside0.mk (blk_put (cs := #[.slice At acc.length ct]) x1 0 (.slice A1 (acc.length + 1) c1) rfl); have R1 := Aside0.mk (Kd.R_set ho1 x1 (by simp [Kd.slice, Kd.int, Kd.scalar]) 0 (.slice A1 (acc.length + 1) c1)); have T1 := Aside0.mk hat1; have K1 : Aside0 (Kq.KQ w (w1.setCell ⟨gl, 0, none⟩ (.slice A1 (acc.length + 1) c1)) (impl_stacks.SS gl (.slice At acc.length ct))) := ⟨Kq.KQ.setCell ⟨⟨hg1.size, fun k hk hs => hg1.block k hk (fun e => hs (.inr e))⟩, hg1.os, hg1.tape, hg1.output⟩ (.inl (.inl rfl)) _⟩; have hcs2 : (w1.setCell ⟨gl, 0, none⟩ (.slice A1 (acc.length + 1) c1)).cell? ⟨gs, 0, none⟩ = some (.slice A0 l0.length c0) := (blk_cell (Kq.blk_kq HGS.out K1.out (impl_stacks.notS HX.out HRt.out HGS.out (by decide) (by decide))) 0).trans rfl; clear hcell ho1 hb1 hg1 hat1 x1))
    clear hcl1 hfl1 hcs2
    generalize (w1.setCell ⟨gl, 0, none⟩ (.slice A1 (acc.length + 1) c1)) = w2 at X1 R1 T1 K1 ⊢
    go_loopg [13] l0.length (fun gg v w' => ∃ (kk : Nat) (acc1 : List (List Int)) (vt1 : Value), kk ≤ l0.length ∧ l0.length - kk ≤ gg ∧ v = .int .i64 kk ∧ Aside0 (Rows.go (Rows.nest (fun r => impl_isStack.f l0 r) l0.length k) (fun r => impl_isStack.f l0 r) bg (l0.length - kk) kk acc1 = some r) ∧ Aside0 (w'.heap[gl]? = some (.cells #[vt1] 111 (0, 0))) ∧ Aside0 (Kd.R (Kd.slice 3 (Kd.int .i64)) 48 w' base (fun _ => True) vt1 acc1) ∧ Aside0 (vt1.ownBlock = (Value.slice At acc.length ct).ownBlock ∨ ∃ b, vt1.ownBlock = some b ∧ w.heap.size ≤ b) ∧ Aside0 (Kq.KQ w w' (impl_stacks.SS gl (.slice At acc.length ct))))
    case atStart => exact ⟨0, _, _, Nat.zero_le _, by omega, rfl, ⟨HG.out⟩, X1, R1, T1, K1⟩
    case round =>
      clear X1 R1 T1 K1 HG
      obtain ⟨kk, acc1, vt1, hkk, hgg, rfl, HG, HX1, HR1, HT1, HK1⟩ := hrel
      by_cases hlt : kk < l0.length
      · have hltz : (kk : Int) < (l0.length : Int) := by omega
        obtain ⟨m, hm⟩ : ∃ m, l0.length - kk = m + 1 := ⟨l0.length - kk - 1, by omega⟩
        have H := HG.out
        rw [hm] at H
        simp only [Rows.go] at H
        obtain ⟨b, hb_, H⟩ := Option.bind_eq_some_iff.mp H
        have HB_ := Aside0.mk hb_
        clear HG hb_
        cases b with
        | false =>
          simp only [Bool.false_eq_true, if_false] at H
          have HG := Aside0.mk H
          clear H
          go_wp2_with (first
            | (go_at_call 71; go_loud (refine (HCALL.out _ HK1.out).mono ?_; rintro e wc ⟨vo, rfl, ho, hbc⟩); have HO := Aside0.mk ho; have HBc := Aside0.mk hbc; clear ho hbc)
            | ((with_reducible refine gate_builtin (b := .append) (xs := #[.tmp 17, .tmp 19]) rfl ?_); at_builtin; go_loud (refine Kd.R_append (Kd.int .i64) (w0 := wr) wr.heap.size rfl (.tmp 17) (.tmp 19) 48 3 (.int .i64 0) 8 rfl hu48 info3 rfl (by decide) (by omega) vo bg (kk : Int) [.int .i64 (kk : Int)] (fun _ => True) (fun _ => False) rfl rfl ?aP (fun _ hk => hk.elim) (fun _ _ => trivial) HO.out HBc.out HBc.out.size ?aL ?_); (case aP => exact rfl); (case aL => have := HL.out; omega); intro v3 w3 ho3 hb3 hg3 hat3; obtain ⟨A3, c3, e3⟩ := Kd.R_slice ho3; rw [List.length_append, List.length_singleton] at e3; subst e3; have K3 := Aside0.mk (Kq.KQ.below HK1.out hb3); have HO3 := Aside0.mk ho3; have HB3 := Aside0.mk hb3; have hcs3 : w3.cell? ⟨gs, 0, none⟩ = some (.slice A0 l0.length c0) := (blk_cell (Kq.blk_kq HGS.out K3.out (impl_stacks.notS HX.out HRt.out HGS.out (by decide) (by decide))) 0).trans rfl; clear HO HBc ho3 hb3 hg3 hat3)
            | (go_at_call 106; have hI := impl_isStack.calls A0 c0 l0 A3 c3 (bg ++ [(kk : Int)]) false w3 (HC.out w3 K3.out) HC0.out (Kd.R_reads' HO3.out).2.2 (by have h2 := (Kd.R_reads' HO3.out); rw [← h2.1]; exact h2.2.1) HB_.out; rw [List.length_append, List.length_singleton] at hI; go_loud (refine hI.mono ?_; rintro e w4 ⟨rfl, hb4⟩); clear hI; have HX4 := Aside0.mk (blk_below (blk_below HX1.out HB3.out) hb4); have HR4 := Aside0.mk (Kd.R_below (Kd.R_below HR1.out HB3.out) hb4); have HK4 := Aside0.mk (Kq.KQ.below K3.out hb4); clear HX1 HR1 HK1 hb4 hcs3 K3 HO3 HB3; have HX1 := HX4; have HR1 := HR4; have HK1 := HK4; clear HX4 HR4 HK4))
          go_roundg (l0.length - (kk + 1))
          case measure => omega
          case rel => exact ⟨kk + 1, acc1, vt1, by omega, by omega, by go_num, ⟨by rw [show l0.length - (kk + 1) = m by omega]; exact HG.out⟩, HX1, HR1, HT1, HK1⟩
        | true =>
          simp only [if_true] at H
          obtain ⟨t, ht_, H⟩ := Option.bind_eq_some_iff.mp H
          have HT := Aside0.mk ht_
          have HG := Aside0.mk H
          clear ht_ H
          go_wp2_with (first
            | (go_at_call 71; go_loud (refine (HCALL.out _ HK1.out).mono ?_; rintro e wc ⟨vo, rfl, ho, hbc⟩); have HO := Aside0.mk ho; have HBc := Aside0.mk hbc; clear ho hbc)
            | ((with_reducible refine gate_builtin (b := .append) (xs := #[.tmp 17, .tmp 19]) rfl ?_); at_builtin; go_loud (refine Kd.R_append (Kd.int .i64) (w0 := wr) wr.heap.size rfl (.tmp 17) (.tmp 19) 48 3 (.int .i64 0) 8 rfl hu48 info3 rfl (by decide) (by omega) vo bg (kk : Int) [.int .i64 (kk : Int)] (fun _ => True) (fun _ => False) rfl rfl ?aP (fun _ hk => hk.elim) (fun _ _ => trivial) HO.out HBc.out HBc.out.size ?aL ?_); (case aP => exact rfl); (case aL => have := HL.out; omega); intro v3 w3 ho3 hb3 hg3 hat3; obtain ⟨A3, c3, e3⟩ := Kd.R_slice ho3; rw [List.length_append, List.length_singleton] at e3; subst e3; have K3 := Aside0.mk (Kq.KQ.below HK1.out hb3); have HO3 := Aside0.mk ho3; have HB3 := Aside0.mk hb3; have hcs3 : w3.cell? ⟨gs, 0, none⟩ = some (.slice A0 l0.length c0) := (blk_cell (Kq.blk_kq HGS.out K3.out (impl_stacks.notS HX.out HRt.out HGS.out (by decide) (by decide))) 0).trans rfl; clear HO HBc ho3 hb3 hg3 hat3)
            | (go_at_call 106; have hI := impl_isStack.calls A0 c0 l0 A3 c3 (bg ++ [(kk : Int)]) true w3 (HC.out w3 K3.out) HC0.out (Kd.R_reads' HO3.out).2.2 (by have h2 := (Kd.R_reads' HO3.out); rw [← h2.1]; exact h2.2.1) HB_.out; rw [List.length_append, List.length_singleton] at hI; go_loud (refine hI.mono ?_; rintro e w4 ⟨rfl, hb4⟩); clear hI; have HX4 := Aside0.mk (blk_below (blk_below HX1.out HB3.out) hb4); have HR4 := Aside0.mk (Kd.R_below (Kd.R_below HR1.out HB3.out) hb4); have HK4 := Aside0.mk (Kq.KQ.below K3.out hb4); have HO4 := Aside0.mk (Kd.R_lower (Kd.R_below HO3.out hb4) (Nat.le_trans HS.out HK1.out.size)); clear HX1 HR1 HK1 hb4 hcs3 K3 HO3 HB3; have hca4 : w4.cell? ⟨ga, 0, none⟩ = some (.func (.func 105) #[] #[.pointer (some ⟨gl, 0, none⟩), .pointer (some ⟨gs, 0, none⟩), .pointer (some ⟨ga, 0, none⟩)]) := (blk_cell (Kq.blk_kq HGA.out HK4.out (impl_stacks.notS HX.out HRt.out HGA.out (by decide) (by decide))) 0).trans rfl)
            | (go_at_call 105; go_loud (refine (IH.out A0 c0 l0 (bg ++ [(kk : Int)]) acc1 t (.slice A3 (bg.length + 1) c3) vt1 gl gs ga base w4 (fun W' hW' => HC.out W' (impl_stacks.thenS HK4.out hW' HT1.out)) (by have := HL.out; simp only [List.length_append, List.length_singleton]; omega) HC0.out (Nat.le_trans HS.out HK4.out.size) (Kq.blk_kq HGS.out HK4.out (impl_stacks.notS HX.out HRt.out HGS.out (by decide) (by decide))) (Kq.blk_kq HGA.out HK4.out (impl_stacks.notS HX.out HRt.out HGA.out (by decide) (by decide))) HO4.out HX4.out HR4.out HT.out).mono ?_; rintro e w5 ⟨rfl, vt2, hx5, hr5, ht5, hk5⟩); have HX2 := Aside0.mk hx5; have HR2 := Aside0.mk hr5; have HT2 := Aside0.mk (impl_stacks.atS HT1.out HK4.out.size ht5); have HK2 := Aside0.mk (impl_stacks.thenS HK4.out hk5 HT1.out); clear hx5 hr5 ht5 hk5 hca4 HX4 HR4 HK4 HO4))
          go_roundg (l0.length - (kk + 1))
          case measure => omega
          case rel => exact ⟨kk + 1, t, vt2, by omega, by omega, by go_num, ⟨by rw [show l0.length - (kk + 1) = m by omega]; exact HG.out⟩, HX2, HR2, HT2, HK2⟩
      · obtain rfl : kk = l0.length := by omega
        have H := HG.out
        rw [Nat.sub_self] at H
        simp only [Rows.go] at H
        obtain rfl := Option.some.inj H
        clear HG H
        go_wp2
        go_end0
        exact ⟨rfl, vt1, HX1.out, HR1.out, HT1.out, HK1.out⟩
theorem impl_stacks.heap : Kd.Heap k98 := Kd.heap_iso _ (Kd.heap_pair (Kd.heap_int _) (Kd.heap_int _))
def impl_stacks.f (l0 : List (S98)) : Option ((List (List Int))) := Rows.nest (fun r => impl_isStack.f l0 r) l0.length 50 [] []
set_option maxHeartbeats 8000000 in
set_option maxRecDepth 100000 in
theorem impl_stacks.calls2 (A0 : Option Addr) (c0 : Nat) (l0 : List (S98)) (r : List (List Int)) (w : World) (hr0 : Kd.C k98 w A0 l0.length l0) (hc0 : l0.length ≤ c0) (h : Rows.nest (fun r => impl_isStack.f l0 r) l0.length 50 [] [] = some r) :
    Calls Try.prog 89 #[.slice A0 l0.length c0] w fun e w' => ∃ v0_ : Value, e = .returned (v0_) ∧ Kd.R (Kd.slice 3 (Kd.int .i64)) 48 w' w.heap.size (fun _ => True) v0_ r ∧ Below w.heap.size w w' := by
  have hu48 := Try.underlying48
  have hu98 := Try.underlying98
  have HC := Aside0.mk hr0
  have HC0 := Aside0.mk hc0
  have HT := Aside0.mk h
  have HB := Aside0.mk (Below.refl w.heap.size w)
  clear hr0 hc0 h
  go_enter Try.func89, Try.ntmps89
  go_wp2_with (first
    | ((with_reducible refine gate_dst (N := 1) rfl ?_); refine box_event ?hg (N := 1) ?hd (cs := #[.slice A0 l0.length c0]) (t := 61) ?hr ?_; (case hd => rfl); (case hg => rfl); (case hr => first | (go_simp; done) | (go_simp; rfl)); intro g1 hg w1 hbox hb; have n0_ := Aside0.mk (below_step HB.out hb); clear HB; have HB := n0_; clear n0_; have B1 := Aside0.mk hbox; clear hb hbox hg)
    | ((with_reducible refine gate_dst (N := 5) rfl ?_); refine Kd.R_lit (Kd.slice 3 (Kd.int .i64)) _ 48 ?hg (N := 5) ?hd (xs := ([] : List (List Int))) (inner := []) (ok := fun _ => True) (okp := fun _ => True) ?hr ?hp (fun _ hk => hk) trivial (Below.refl _ _) (Nat.le_refl _) (by simp) ?_; (case hd => rfl); (case hg => rfl); (case hr => first | (go_simp; done) | (go_simp; rfl)); (case hp => exact (Reps.none _ _)); intro v2 w2 ho hb hg_ hnew_; clear hg_ hnew_; obtain ⟨A2, c2, e2⟩ := Kd.R_slice ho; obtain rfl : v2 = .slice A2 0 c2 := e2; have HO := Aside0.mk (Kd.R_lower ho HB.out.size); have m0_ := Aside0.mk (blk_below B1.out hb); have n0_ := Aside0.mk (below_step HB.out hb); clear HB B1; have HB := n0_; have B1 := m0_; clear n0_ m0_ hb ho)
    | ((with_reducible refine gate_dst (N := 3) rfl ?_); refine box_event ?hg (N := 3) ?hd (cs := #[.slice none 0 0]) (t := 111) ?hr ?_; (case hd => rfl); (case hg => rfl); (case hr => first | (go_simp; done) | (go_simp; rfl)); intro g3 hg w3 hbox hb; have G3 := Aside0.mk ((by rw [hg]; exact HB.out.size) : w.heap.size ≤ g3); have n0_ := Aside0.mk (below_step HB.out hb); have m0_ := Aside0.mk (blk_below B1.out hb); have mo_ := Aside0.mk (Kd.R_below HO.out hb); clear HB B1 HO; have HB := n0_; have B1 := m0_; have HO := mo_; clear n0_ m0_ mo_; have B3 := Aside0.mk hbox; have hcz3 : w3.cell? ⟨g3, 0, none⟩ = some (.slice none 0 0) := (blk_cell hbox 0).trans rfl; have hfz3 := blk_frozen hbox 0; clear hb hbox hg)
    | ((with_reducible refine gate_dst (N := 4) rfl ?_); refine box_event ?hg (N := 4) ?hd (cs := #[.nilFunc]) (t := 96) ?hr ?_; (case hd => rfl); (case hg => rfl); (case hr => first | (go_simp; done) | (go_simp; rfl)); intro g4 hg w4 hbox hb; have x3_ := blk_put (cs := #[.slice none 0 0]) B3.out 0 (.slice A2 0 c2) rfl; have x1_ := blk_far B1.out (p := ⟨g3, 0, none⟩) (blk_ne B1.out B3.out (by decide)) (.slice A2 0 c2); have xo_ := Kd.R_set HO.out B3.out (by simp [Kd.slice, Kd.int, Kd.scalar]) 0 (.slice A2 0 c2); have xb_ := below_set (j := 0) (v := .slice A2 0 c2) HB.out G3.out; have G4 := Aside0.mk ((by rw [hg]; exact xb_.size) : w.heap.size ≤ g4); have m1_ := Aside0.mk (blk_below x1_ hb); have m3_ := Aside0.mk (blk_below x3_ hb); have mo_ := Aside0.mk (Kd.R_below xo_ hb); have n0_ := Aside0.mk (below_step xb_ hb); clear HB B1 B3 HO x1_ x3_ xo_ xb_ hcz3 hfz3; have HB := n0_; have B1 := m1_; have B3 := m3_; have HO := mo_; clear n0_ m1_ m3_ mo_; have B4 := Aside0.mk hbox; have hcz4 : w4.cell? ⟨g4, 0, none⟩ = some (.nilFunc) := (blk_cell hbox 0).trans rfl; have hfz4 := blk_frozen hbox 0; clear hb hbox hg)
    | (go_at_call 105; have x4_ := blk_put (cs := #[.nilFunc]) B4.out 0 (.func (.func 105) #[] #[.pointer (some ⟨g3, 0, none⟩), .pointer (some ⟨g1, 0, none⟩), .pointer (some ⟨g4, 0, none⟩)]) rfl; have x3_ := blk_far B3.out (p := ⟨g4, 0, none⟩) (blk_ne B3.out B4.out (by decide)) (.func (.func 105) #[] #[.pointer (some ⟨g3, 0, none⟩), .pointer (some ⟨g1, 0, none⟩), .pointer (some ⟨g4, 0, none⟩)]); have x1_ := blk_far B1.out (p := ⟨g4, 0, none⟩) (blk_ne B1.out B4.out (by decide)) (.func (.func 105) #[] #[.pointer (some ⟨g3, 0, none⟩), .pointer (some ⟨g1, 0, none⟩), .pointer (some ⟨g4, 0, none⟩)]); have xo_ := Kd.R_set HO.out B4.out (by simp [Kd.slice, Kd.int, Kd.scalar]) 0 (.func (.func 105) #[] #[.pointer (some ⟨g3, 0, none⟩), .pointer (some ⟨g1, 0, none⟩), .pointer (some ⟨g4, 0, none⟩)]); have xb_ := below_set (j := 0) (v := .func (.func 105) #[] #[.pointer (some ⟨g3, 0, none⟩), .pointer (some ⟨g1, 0, none⟩), .pointer (some ⟨g4, 0, none⟩)]) HB.out G4.out; have hS : ∀ q, impl_stacks.SS g3 (.slice A2 0 c2) q → w.heap.size ≤ q := (fun q hq => by rcases hq with rfl | hq; exact G3.out; rcases Kd.R_base2 xo_ with h0 | ⟨b, hb, hle⟩; rw [h0] at hq; cases hq; rw [hb] at hq; cases hq; exact hle); go_loud (refine (impl_stacks.rec 50 A0 c0 l0 [] [] r (.slice none 0 0) (.slice A2 0 c2) g3 g1 g4 w.heap.size _ (Kq.C_kq_came impl_stacks.heap HC.out xb_ hS) (by simp) HC0.out xb_.size x1_ x4_ (Kd.R_nil _ _ _ _ _) x3_ xo_ HT.out).mono ?_; rintro e w7 ⟨rfl, vt, hx, hr, _, hk⟩); have n0_ := Aside0.mk (Kq.KQ.to_below xb_ hk hS); have hcv : w7.cell? ⟨g3, 0, none⟩ = some vt := (blk_cell hx 0).trans rfl; have HR := Aside0.mk hr; clear HB hr hk hx x4_ x3_ x1_ xo_ xb_ hS hcz4 hfz4; have HB := n0_; clear n0_))
  go_ret
  exact ⟨_, rfl, HR.out, HB.out⟩

/-! ### impl_FirstStack: function 50 -/
def impl_FirstStack.go (b : List Int) (rows : List (List Int)) : List Int := rows.foldl (fun b r => if b.length < r.length then r else b) b
def impl_FirstStack.f (l0 : List (S98)) : Option (List Int × Bool) := (impl_AreSlabs.f l0).bind fun b => if b = true then (impl_stacks.f l0).bind fun rows => some (Rows.best rows, true) else some ([], false)
set_option maxHeartbeats 8000000 in
set_option maxRecDepth 100000 in
theorem impl_FirstStack.calls (A0 : Option Addr) (c0 : Nat) (l0 : List (S98)) (r1 : List Int) (r2 : Bool) (w : World) (hr0 : Kd.C k98 w A0 l0.length l0) (hc0 : l0.length ≤ c0) (h : impl_FirstStack.f l0 = some (r1, r2)) :
    Calls Try.prog 50 #[.slice A0 l0.length c0] w fun e w' => ∃ v0_ : Value, e = .returned (.tuple #[v0_, .bool r2]) ∧ Kd.R (Kd.int .i64) 3 w' w.heap.size (fun _ => True) v0_ r1 ∧ Below w.heap.size w w' := by
  have hu48 := Try.underlying48
  have hu111 := Try.underlying111
  have HC := Aside0.mk hr0
  have HC0 := Aside0.mk hc0
  have HB := Aside0.mk (Below.refl w.heap.size w)
  unfold impl_FirstStack.f at h
  obtain ⟨b, hb, h⟩ := Option.bind_eq_some_iff.mp h
  have hA := impl_AreSlabs.calls A0 c0 l0 b w hr0 hc0 hb
  clear hr0 hc0 hb
  cases b with
  | false =>
    simp only [Bool.false_eq_true, if_false] at h
    injection (Option.some.inj h) with h1 h2
    subst h1
    subst h2
    clear h
    go_enter Try.func50, Try.ntmps50
    go_wp2_with (go_at_call 88; go_loud (refine hA.mono ?_; rintro e w2 ⟨rfl, hb⟩); have n0_ := Aside0.mk (below_step HB.out hb); clear HB hA hb; have HB := n0_; clear n0_)
    go_ret2
    exact ⟨_, rfl, Kd.R_nil _ _ _ _ _, HB.out⟩
  | true =>
    simp only [if_true] at h
    obtain ⟨rows, hrows, h⟩ := Option.bind_eq_some_iff.mp h
    injection (Option.some.inj h) with h1 h2
    subst h1
    subst h2
    have HR_ := Aside0.mk hrows
    clear h hrows
    go_enter Try.func50, Try.ntmps50
    go_wp2_with (first
      | (go_at_call 88; go_loud (refine hA.mono ?_; rintro e w2 ⟨rfl, hb⟩); have n0_ := Aside0.mk (below_step HB.out hb); clear HB hA hb; have HB := n0_; clear n0_)
      | ((with_reducible refine gate_dst (N := 10) rfl ?_); refine Kd.R_lit (Kd.int .i64) _ 3 ?hg (N := 10) ?hd (xs := ([] : List Int)) (inner := []) (ok := fun _ => True) (okp := fun _ => True) ?hr ?hp (fun _ hk => hk) trivial (Below.refl _ _) (Nat.le_refl _) (by simp) ?_; (case hd => rfl); (case hg => rfl); (case hr => first | (go_simp; done) | (go_simp; rfl)); (case hp => exact (Reps.none _ _)); intro v2 w2 ho hb hg_ hnew_; clear hg_ hnew_; obtain ⟨A2, c2, e2⟩ := Kd.R_slice ho; obtain rfl : v2 = .slice A2 0 c2 := e2; have HO := Aside0.mk (Kd.R_lower ho HB.out.size); have n0_ := Aside0.mk (below_step HB.out hb); clear HB; have HB := n0_; clear n0_ hb ho)
      | (go_at_call 89; go_loud (refine (impl_stacks.calls2 A0 c0 l0 rows _ (Kd.C_below HC.out HB.out) HC0.out HR_.out).mono ?_; rintro e w3 ⟨vr, rfl, ho, hb⟩); obtain ⟨A3, c3, e3⟩ := Kd.R_slice ho; subst e3; have HR := Aside0.mk (Kd.R_lower ho HB.out.size); have mo_ := Aside0.mk (Kd.R_below HO.out hb); have n0_ := Aside0.mk (below_step HB.out hb); clear HB HO ho hb; have HB := n0_; have HO := mo_; clear n0_ mo_))
    have hl64 : (rows.length : Int) ≤ 9223372036854775807 := by have := (Kd.R_reads' HR.out).2.2.2.1; omega
    have HW : Aside0 (w3 = w3) := ⟨rfl⟩
    go_loopg [4, 14] rows.length (fun gg v4 v14 w' => ∃ (kk : Nat) (best : List Int), kk ≤ rows.length ∧ rows.length - kk ≤ gg ∧ w' = w3 ∧ v14 = .int .i64 kk ∧ Aside0 (Kd.R (Kd.int .i64) 3 w3 w.heap.size (fun _ => True) v4 best) ∧ Aside0 (impl_FirstStack.go best (rows.drop kk) = Rows.best rows))
    case atStart => exact ⟨0, [], Nat.zero_le _, by omega, rfl, rfl, HO, ⟨rfl⟩⟩
    case round =>
      clear HO
      obtain ⟨kk, best, hkk, hgg, rfl, rfl, HO, HG⟩ := hrel
      obtain ⟨A4, c4, rfl⟩ := Kd.R_slice HO.out
      by_cases hlt : kk < rows.length
      · have hltz : (kk : Int) < (rows.length : Int) := by omega
        have p0 : (0 : Int) ≤ (kk : Int) := by omega
        cases A3 with
        | none => exact absurd (Kd.R_reads' HR.out).2.2 (by rintro ⟨_, _, h3⟩; obtain ⟨ad, h4, _⟩ := h3 (by omega); cases h4)
        | some ad =>
          obtain ⟨c, hcl, ⟨vr, rfl, hM⟩, hcc⟩ := Kd.R_get HR.out ([] : List Int) (kk : Int) p0 hltz
          obtain ⟨A5, c5, rfl⟩ := Kd.R_slice hM
          have hx0 := hcc 0 _ rfl
          rw [Int.toNat_natCast] at hx0 hM
          have hdr : rows.drop kk = rows.getD kk [] :: rows.drop (kk + 1) := by
            rw [List.drop_eq_getElem_cons hlt, List.getD_eq_getElem?_getD, List.getElem?_eq_getElem hlt]; rfl
          have H := HG.out
          rw [hdr] at H
          have HM := Aside0.mk (Kd.R_mono hM (fun _ _ => trivial))
          rw [show (Kd.slice 3 (Kd.int .i64)).sz = 1 from rfl, Nat.mul_one, Nat.add_zero] at hx0
          generalize rows.getD kk [] = row at hx0 HM H
          by_cases c : best.length < row.length
          · have cz : (best.length : Int) < (row.length : Int) := by omega
            have H2 : impl_FirstStack.go row (rows.drop (kk + 1)) = Rows.best rows := by rw [← H]; unfold impl_FirstStack.go; rw [List.foldl_cons, if_pos c]
            have HG2 := Aside0.mk H2
            clear hM hcc H H2 hdr HG
            go_wp2
            go_roundg (rows.length - (kk + 1))
            case measure => omega
            case rel => exact ⟨kk + 1, row, by omega, by omega, rfl, by go_num, HM, HG2⟩
          · have cz : ¬ (best.length : Int) < (row.length : Int) := by omega
            have cz2 : (row.length : Int) ≤ (best.length : Int) := by omega
            have H2 : impl_FirstStack.go best (rows.drop (kk + 1)) = Rows.best rows := by rw [← H]; unfold impl_FirstStack.go; rw [List.foldl_cons, if_neg c]
            have HG2 := Aside0.mk H2
            clear hM hcc H H2 hdr HG
            go_wp2
            go_roundg (rows.length - (kk + 1))
            case measure => omega
            case rel => exact ⟨kk + 1, best, by omega, by omega, rfl, by go_num, HO, HG2⟩
      · obtain rfl : kk = rows.length := by omega
        have H := HG.out
        rw [List.drop_length] at H
        have H2 : best = Rows.best rows := H
        subst H2
        go_wp2
        go_ret2
        exact ⟨_, rfl, HO.out, HB.out⟩

/-! ### laws_markSlabS: function 51 -/
def laws_markSlabS.l0 : Nat → List (S98) → Int → Int → Option (Int × (List (S98)))
  | 0, _, _, _ => none
  | k + 1, x0, x1, x5 => if x5 < (x0.length : Int) then (if 0 ≤ x5 then ((some (x0.set (x5 : Int).toNat (⟨x1, (rd_T98 x0 x5).f1⟩ : S98) : List (S98))).bind fun y170 => (laws_markSlabS.l0 k (y170.set (x5 : Int).toNat (⟨(rd_T98 y170 x5).f0, wrap64 (x1 + 1)⟩ : S98)) (wrap64 ((wrap64 (x1 + 1)) + 1)) (wrap64 (x5 + 1)))) else (none)) else (some (x1, x0))
def laws_markSlabS.f (k : Nat) (l0 : List (S98)) (a1 : Int) : Option (Int × (List (S98))) := laws_markSlabS.l0 k l0 a1 0
theorem laws_markSlabS.mono_l : ∀ k, (∀ y0 y1 y2, LeO (laws_markSlabS.l0 k y0 y1 y2) (laws_markSlabS.l0 (k + 1) y0 y1 y2))
  | 0 => fun _ _ _ r h => by simp [laws_markSlabS.l0] at h
  | k + 1 => by
    have ih0 := laws_markSlabS.mono_l k
    · intro y0 y1 y2
      unfold laws_markSlabS.l0
      repeat' first
      | (with_reducible exact ih0 _ _ _)
      | (with_reducible exact LeO.refl _)
      | (with_reducible exact LeO.none _)
      | (with_reducible refine LeO.ite ?_ ?_)
      | (with_reducible refine LeO.bind ?_ (fun _ => ?_))
      | exact ih0 _ _ _
      | exact LeO.none _
      | refine LeO.ite ?_ ?_
      | refine LeO.bind ?_ (fun _ => ?_)
theorem laws_markSlabS.mono : ∀ a0 a1 k, LeO (laws_markSlabS.f k a0 a1) (laws_markSlabS.f (k + 1) a0 a1) := by
  intro a0 a1 k
  have ih0 := laws_markSlabS.mono_l k
  unfold laws_markSlabS.f
  repeat' first
      | (with_reducible exact ih0 _ _ _)
      | (with_reducible exact LeO.refl _)
      | (with_reducible exact LeO.none _)
      | (with_reducible refine LeO.ite ?_ ?_)
      | (with_reducible refine LeO.bind ?_ (fun _ => ?_))
      | exact ih0 _ _ _
      | exact LeO.none _
      | refine LeO.ite ?_ ?_
      | refine LeO.bind ?_ (fun _ => ?_)
set_option maxHeartbeats 8000000 in
set_option maxRecDepth 100000 in
theorem laws_markSlabS.calls (k : Nat) (P0_ : Nat → Prop) (u9000_ : Value) (l0 : List (S98)) (a1 : Int) (r1 : Int) (r2 : List (S98)) (w0 w : World) (hB : Below w0.heap.size w0 w) (ho0 : Kd.R k98 98 w w0.heap.size P0_ u9000_ l0) (h : laws_markSlabS.f k l0 a1 = some (r1, r2)) :
    Calls Try.prog 51 #[u9000_, .int .i64 a1] w fun e w' => e = .returned (.int .i64 r1) ∧ Kd.R k98 98 w' w0.heap.size (fun k_ => (P0_ k_ ∨ w.heap.size ≤ k_)) u9000_ r2 ∧ Below w0.heap.size w0 w' ∧ Kept w w' (fun k_ => P0_ k_) := by
  have HO0 := Aside0.mk (show Kd.R k98 98 w w0.heap.size (fun k_ => (P0_ k_ ∨ w.heap.size ≤ k_)) u9000_ l0 from Kd.R_mono ho0 (fun k_ hk => (.inl hk)))
  have HK := Aside0.mk (Kept.refl w (fun k_ => P0_ k_))
  have HW0 := Aside0.mk hB.size
  have HB := Aside0.mk hB
  clear hB
  have H : (laws_markSlabS.l0 k l0 a1 0) = some (r1, r2) := h
  clear h
  have H' := Aside0.mk H
  clear H
  go_enter Try.func51, Try.ntmps51
  go_wp2
  go_loopg [1, 5] k (fun kq v1 v5 w' => ∃ (x0_1 : List (S98)) (x1_1 : Int) (x5_1 : Int), v1 = .int .i64 x1_1 ∧ v5 = .int .i64 x5_1 ∧ Aside0 (laws_markSlabS.l0 kq x0_1 x1_1 x5_1 = some (r1, r2)) ∧ Aside0 (kq ≤ k) ∧ Aside0 (Kd.R k98 98 w' w0.heap.size (fun k_ => (P0_ k_ ∨ w.heap.size ≤ k_)) u9000_ x0_1) ∧ Aside0 (Kept w w' (fun k_ => P0_ k_)) ∧ Aside0 (Below w0.heap.size w0 w'))
  case atStart => exact ⟨(l0), (a1), (0), (by first | rfl | (simp; done) | (simp [*]; done)), (by first | rfl | (simp; done) | (simp [*]; done)), H', ⟨Nat.le_refl _⟩, ⟨by (with_reducible repeat (first | apply Kd.R_alloc | apply Kd.R_drewN | apply Kd.R_drew)); exact HO0.out⟩, ⟨by repeat (first | (with_reducible first | exact HK.out | apply Kept.alloc | apply Kept.drewN | apply Kept.drew) | exact HK.out)⟩, ⟨by repeat (first | (with_reducible first | exact HB.out | apply below_alloc | apply pw_below_drewN | apply below_drew1) | exact HB.out)⟩⟩
  case round =>
    clear H'
    try clear p2
    obtain ⟨x0_1, x1_1, x5_1, rfl, rfl, HA, HK1, HO_0, HK, HB⟩ := hrel
    cases gk with
    | zero => exact absurd HA.out (by simp [laws_markSlabS.l0])
    | succ k1 =>
      have H := HA.out
      clear HA
      simp only [laws_markSlabS.l0] at H
      by_cases c3 : x5_1 < (x0_1.length : Int)
      · rw [if_pos c3] at H
        have c3b0 : decide (x5_1 < (x0_1.length : Int)) = true := decide_eq_true c3
        clear c3
        by_cases c4 : 0 ≤ x5_1
        · rw [if_pos c4] at H
          have c4b0 : decide (0 ≤ x5_1) = true := decide_eq_true c4
          clear c4
          obtain ⟨y170, hy170⟩ : ∃ y_ : List (S98), y_ = (x0_1.set (x5_1 : Int).toNat (⟨x1_1, (rd_T98 x0_1 x5_1).f1⟩ : S98)) := ⟨_, rfl⟩
          replace H : (laws_markSlabS.l0 k1 (y170.set (x5_1 : Int).toNat (⟨(rd_T98 y170 x5_1).f0, wrap64 (x1_1 + 1)⟩ : S98)) (wrap64 ((wrap64 (x1_1 + 1)) + 1)) (wrap64 (x5_1 + 1))) = some (r1, r2) := by first | (rw [hy170]; with_reducible exact H) | (have H2_ := (Option.bind_some _ _).symm.trans H; rw [hy170]; with_reducible exact H2_) | (have H2_ := (Option.bind_some _ _).symm.trans H; with_reducible exact H2_) | with_reducible exact H | (rw [hy170]; exact H) | exact H
          have Ny170 := Aside0.mk hy170
          clear hy170
          obtain ⟨y171, hy171⟩ : ∃ y_ : List (S98), y_ = (y170.set (x5_1 : Int).toNat (⟨(rd_T98 y170 x5_1).f0, wrap64 (x1_1 + 1)⟩ : S98)) := ⟨_, rfl⟩
          replace H : (laws_markSlabS.l0 k1 y171 (wrap64 ((wrap64 (x1_1 + 1)) + 1)) (wrap64 (x5_1 + 1))) = some (r1, r2) := by first | (rw [hy171]; with_reducible exact H) | (have H2_ := (Option.bind_some _ _).symm.trans H; rw [hy171]; with_reducible exact H2_) | (have H2_ := (Option.bind_some _ _).symm.trans H; with_reducible exact H2_) | with_reducible exact H | (rw [hy171]; exact H) | exact H
          have Ny171 := Aside0.mk hy171
          clear hy171
          have H' := Aside0.mk H
          clear H
          obtain ⟨Ao7, co7, eo7⟩ := Kd.R_slice HO_0.out
          subst eo7
          have p5 : 0 ≤ (x5_1 : Int) := of_decide_eq_true (by first | (with_reducible assumption) | assumption)
          have q5 : (x5_1 : Int) < ((x0_1.length : Int) : Int) := of_decide_eq_true (by first | (with_reducible assumption) | assumption)
          obtain ⟨go5, co5, eo5, gb5, gl5, cl5, HG5⟩ := Kd.R_form HO_0.out (by omega)
          (first | cases eo5 | (injection eo5 with ea_ en_ ec_; (first | subst ea_ | (injection ea_ with ea_; subst ea_)); subst ec_; clear en_))
          have GB5 := Aside0.mk gb5
          have GG5 := Aside0.mk HG5
          clear gb5 gl5 HG5
          have HMgo5 := Aside0.mk (show (P0_ go5 ∨ w.heap.size ≤ go5) from (HO_0.out.1 _ rfl))
          obtain ⟨ce5, hcl5, hM5, hcc5, hfr5⟩ := Kd.R_elem HO_0.out z98 (x5_1 : Int) p5 q5
          obtain rfl := k98_openM hM5
          have hx5_0 : wr.cell? ⟨go5, (x5_1 : Int).toNat * 2, none⟩ = some (.int .i64 ((rd_T98 x0_1 x5_1).f0)) := hcc5 0 _ rfl
          have hx5_1 : wr.cell? ⟨go5, (x5_1 : Int).toNat * 2 + 1, none⟩ = some (.int .i64 ((rd_T98 x0_1 x5_1).f1)) := hcc5 1 _ rfl
          have hf5_0 : wr.frozen? ⟨go5, (x5_1 : Int).toNat * 2, none⟩ = false := hfr5 0
          have hf5_1 : wr.frozen? ⟨go5, (x5_1 : Int).toNat * 2 + 1, none⟩ = false := hfr5 1
          clear hcl5 hcc5 hfr5 hM5
          replace p5 := eq_true p5
          replace q5 := eq_true q5
          have HX8 := Aside0.mk (show Kd.R k98 98 wr w0.heap.size (fun k_ => (P0_ k_ ∨ w.heap.size ≤ k_)) (.slice (some ⟨go5, 0, none⟩) x0_1.length co7) x0_1 from (by (with_reducible repeat (first | apply Kd.R_alloc | apply Kd.R_drewN | apply Kd.R_drew)); exact HO_0.out))
          obtain ⟨ce8, hcl8, hM8, hcc8, hfr8⟩ := Kd.R_elem HX8.out z98 (x5_1 : Int) (of_decide_eq_true (by first | (with_reducible assumption) | assumption)) (by have h_ : (x5_1 : Int) < ((x0_1.length : Int) : Int) := of_decide_eq_true (by first | (with_reducible assumption) | assumption); first | exact h_ | (have e_ := (Kd.R_reads' HO_0.out).1; omega) | simpa using h_)
          obtain rfl := k98_openM hM8
          have HP8 := Kd.R_seg HX8.out (x5_1 : Int) (of_decide_eq_true (by first | (with_reducible assumption) | assumption)) (by have h_ : (x5_1 : Int) < ((x0_1.length : Int) : Int) := of_decide_eq_true (by first | (with_reducible assumption) | assumption); first | exact h_ | (have e_ := (Kd.R_reads' HO_0.out).1; omega) | simpa using h_) (seg := [.int .i64 x1_1]) (j := 0) hcl8 hcc8 (show 1 ≤ 2 from by decide) (x' := (⟨x1_1, (rd_T98 x0_1 x5_1).f1⟩ : S98)) (k98_mkM _ _ _ (⟨x1_1, (rd_T98 x0_1 x5_1).f1⟩ : S98) ) (fun _ hk => hk)
          have hx8_0 := hcc8 0 _ rfl
          (try simp only [show (k98).sz = 2 from rfl, Nat.mul_one, Nat.add_zero] at hx8_0)
          have hf8_0 := hfr8 0
          (try simp only [show (k98).sz = 2 from rfl, Nat.mul_one, Nat.add_zero] at hf8_0)
          clear hcl8 hcc8 hfr8 hM8
          go_wp2_with (first | ((with_reducible refine gate_store (t := 3) (p := 16) rfl ?_); refine store_event (t := 3) (p := 16) (v := ?vo_w9) (w1 := (wr.setCell ⟨go5, (x5_1 : Int).toNat * 2, none⟩ (.int .i64 x1_1))) ?hg ?ho ?hn ?hr ?_; (case ho => rfl); (case hg => rfl); (case hn => rfl); (case hr => first | (go_simp; done) | (go_simp; rfl)); intro w9 hw; have hg : wr.grownBy w9 (some go5) := (by rw [hw]; exact HP8.2); have hp_ : Kd.R k98 98 w9 w0.heap.size (fun k_ => (P0_ k_ ∨ w.heap.size ≤ k_)) (.slice (some ⟨go5, 0, none⟩) x0_1.length co7) y170 := (by rw [hw, Ny170.out]; exact HP8.1); clear HP8; have n0_ := Aside0.mk (hp_); have n1_ := Aside0.mk ((by rw [hw]; exact below_set (HB.out) GB5.out : Below w0.heap.size w0 w9)); have n2_ := Aside0.mk (Kept.of_grown (S := (fun k_ => P0_ k_)) hg (by repeat (first | (with_reducible first | exact HK.out | apply Kept.alloc | apply Kept.drewN | apply Kept.drew) | exact HK.out)) (fun k_ e_ => (HO_0.out.1 k_ e_))); clear HO_0; clear HB; clear HK; have HO_0 := n0_; have HB := n1_; have HK := n2_; clear n0_ n1_ n2_; clear hg hw hp_; have p6 : 0 ≤ (x5_1 : Int) := of_decide_eq_true (by first | (with_reducible assumption) | assumption); have q6 : (x5_1 : Int) < ((x0_1.length : Int) : Int) := of_decide_eq_true (by first | (with_reducible assumption) | assumption); obtain ⟨ce6, hcl6, hM6, hcc6, hfr6⟩ := Kd.R_elem HO_0.out z98 (x5_1 : Int) p6 q6; obtain rfl := k98_openM hM6; have hx6_0 : w9.cell? ⟨go5, (x5_1 : Int).toNat * 2, none⟩ = some (.int .i64 ((rd_T98 y170 x5_1).f0)) := hcc6 0 _ rfl; have hx6_1 : w9.cell? ⟨go5, (x5_1 : Int).toNat * 2 + 1, none⟩ = some (.int .i64 ((rd_T98 y170 x5_1).f1)) := hcc6 1 _ rfl; have hf6_0 : w9.frozen? ⟨go5, (x5_1 : Int).toNat * 2, none⟩ = false := hfr6 0; have hf6_1 : w9.frozen? ⟨go5, (x5_1 : Int).toNat * 2 + 1, none⟩ = false := hfr6 1; clear hcl6 hcc6 hfr6 hM6; replace p6 := eq_true p6; replace q6 := eq_true q6; have HX10 := Aside0.mk (show Kd.R k98 98 w9 w0.heap.size (fun k_ => (P0_ k_ ∨ w.heap.size ≤ k_)) (.slice (some ⟨go5, 0, none⟩) x0_1.length co7) y170 from (by (with_reducible repeat (first | apply Kd.R_alloc | apply Kd.R_drewN | apply Kd.R_drew)); exact HO_0.out)); obtain ⟨ce10, hcl10, hM10, hcc10, hfr10⟩ := Kd.R_elem HX10.out z98 (x5_1 : Int) (of_decide_eq_true (by first | (with_reducible assumption) | assumption)) (by have h_ : (x5_1 : Int) < ((x0_1.length : Int) : Int) := of_decide_eq_true (by first | (with_reducible assumption) | assumption); first | exact h_ | (have e_ := (Kd.R_reads' HO_0.out).1; omega) | simpa using h_); obtain rfl := k98_openM hM10; have HP10 := Kd.R_seg HX10.out (x5_1 : Int) (of_decide_eq_true (by first | (with_reducible assumption) | assumption)) (by have h_ : (x5_1 : Int) < ((x0_1.length : Int) : Int) := of_decide_eq_true (by first | (with_reducible assumption) | assumption); first | exact h_ | (have e_ := (Kd.R_reads' HO_0.out).1; omega) | simpa using h_) (seg := [.int .i64 (wrap64 (x1_1 + 1))]) (j := 1) hcl10 hcc10 (show 2 ≤ 2 from by decide) (x' := (⟨(rd_T98 y170 x5_1).f0, wrap64 (x1_1 + 1)⟩ : S98)) (k98_mkM _ _ _ (⟨(rd_T98 y170 x5_1).f0, wrap64 (x1_1 + 1)⟩ : S98) ) (fun _ hk => hk); have hx10_1 := hcc10 1 _ rfl; (try simp only [show (k98).sz = 2 from rfl, Nat.mul_one, Nat.add_zero] at hx10_1); have hf10_1 := hfr10 1; (try simp only [show (k98).sz = 2 from rfl, Nat.mul_one, Nat.add_zero] at hf10_1); clear hcl10 hcc10 hfr10 hM10) | ((with_reducible refine gate_store (t := 3) (p := 23) rfl ?_); refine store_event (t := 3) (p := 23) (v := ?vo_w11) (w1 := (w9.setCell ⟨go5, (x5_1 : Int).toNat * 2 + 1, none⟩ (.int .i64 (wrap64 (x1_1 + 1))))) ?hg ?ho ?hn ?hr ?_; (case ho => rfl); (case hg => rfl); (case hn => rfl); (case hr => first | (go_simp; done) | (go_simp; rfl)); intro w11 hw; have hg : w9.grownBy w11 (some go5) := (by rw [hw]; exact HP10.2); have hp_ : Kd.R k98 98 w11 w0.heap.size (fun k_ => (P0_ k_ ∨ w.heap.size ≤ k_)) (.slice (some ⟨go5, 0, none⟩) x0_1.length co7) y171 := (by rw [hw, Ny171.out]; exact HP10.1); clear HP10; have n0_ := Aside0.mk (hp_); have n1_ := Aside0.mk ((by rw [hw]; exact below_set (HB.out) GB5.out : Below w0.heap.size w0 w11)); have n2_ := Aside0.mk (Kept.of_grown (S := (fun k_ => P0_ k_)) hg (by repeat (first | (with_reducible first | exact HK.out | apply Kept.alloc | apply Kept.drewN | apply Kept.drew) | exact HK.out)) (fun k_ e_ => (HO_0.out.1 k_ e_))); clear HO_0; clear HB; clear HK; have HO_0 := n0_; have HB := n1_; have HK := n2_; clear n0_ n1_ n2_; clear hg hw hp_))
          go_roundg k1
          case measure => have := HK1.out; omega
          case rel => exact ⟨(y171), (wrap64 ((wrap64 (x1_1 + 1)) + 1)), (wrap64 (x5_1 + 1)), (by first | rfl | (simp; done) | (simp [*]; done)), (by first | rfl | (simp; done) | (simp [*]; done)), H', ⟨by have := HK1.out; omega⟩, ⟨by (with_reducible repeat (first | apply Kd.R_alloc | apply Kd.R_drewN | apply Kd.R_drew)); exact HO_0.out⟩, ⟨by repeat (first | (with_reducible first | exact HK.out | apply Kept.alloc | apply Kept.drewN | apply Kept.drew) | exact HK.out)⟩, ⟨by repeat (first | (with_reducible first | exact HB.out | apply below_alloc | apply pw_below_drewN | apply below_drew1) | exact HB.out)⟩⟩
        · rw [if_neg c4] at H
          exact absurd H (by simp)
      · rw [if_neg c3] at H
        have c3b0 : decide (x5_1 < (x0_1.length : Int)) = false := decide_eq_false c3
        clear c3
        simp only [Option.some.injEq, Prod.mk.injEq] at H
        obtain ⟨rfl, rfl⟩ := H
        obtain ⟨Ao12, co12, eo12⟩ := Kd.R_slice HO_0.out
        subst eo12
        go_wp2
        go_ret
        exact ⟨by first | rfl | (simp [errW_none, errW_some] <;> rfl) | (simp [*, errW_none, errW_some] <;> rfl), by (with_reducible repeat (first | apply Kd.R_alloc | apply Kd.R_drewN | apply Kd.R_drew)); exact HO_0.out, by repeat (first | (with_reducible first | exact HB.out | apply below_alloc | apply pw_below_drewN | apply below_drew1) | exact HB.out), by repeat (first | (with_reducible first | exact HK.out | apply Kept.alloc | apply Kept.drewN | apply Kept.drew) | exact HK.out)⟩

/-! ### laws_FnExactFirstStack: function 11 -/
mutual
def laws_FnExactFirstStack.j0 : Nat → List (S108) → List Int → Bool → List (S98) → List Int → Bool → Bool → Option (Bool)
  | 0, _, _, _, _, _, _, _ => none
  | k + 1, x0, x4, x5, x6, x7, x8, x40 => if x40 = true then (none) else ((laws_toSlabS.f k x0).bind fun t188 => ((laws_eqSlabS.f k x6 t188).bind fun t191 => (if t191 = true then ((laws_markSlabS.f k x6 1).bind fun bt192 => (if bt192.1 < 0 then (laws_FnExactFirstStack.j1 k x0 x4 x5 x7 true) else ((laws_eqIntS.f k x7 x4).bind fun t194 => (if t194 = true then (laws_FnExactFirstStack.j1 k x0 x4 x5 x7 (x8 != x5)) else (laws_FnExactFirstStack.j1 k x0 x4 x5 x7 true))))) else (none))))
def laws_FnExactFirstStack.j1 : Nat → List (S108) → List Int → Bool → List Int → Bool → Option (Bool)
  | 0, _, _, _, _, _ => none
  | k + 1, x0, x4, x5, x7, x61 => if x61 = true then (none) else ((laws_markIntS.f k x7 1).bind fun bt195 => ((laws_heldIntS.f k bt195.2 1).bind fun t197 => (if t197 < 0 then (none) else (if t197 = bt195.1 then ((laws_toSlabS.f k x0).bind fun t198 => ((impl_FirstStack.f t198).bind fun bt201 => ((laws_eqIntS.f k bt201.1 x4).bind fun t205 => (if t205 = true then (laws_FnExactFirstStack.j2 k bt195.2 bt195.1 (bt201.2 != x5)) else (laws_FnExactFirstStack.j2 k bt195.2 bt195.1 true))))) else (none)))))
def laws_FnExactFirstStack.j2 : Nat → List Int → Int → Bool → Option (Bool)
  | 0, _, _, _ => none
  | k + 1, x7, x10, x87 => if x87 = true then (none) else ((laws_heldIntS.f k x7 1).bind fun t206 => (if t206 < 0 then (none) else (if t206 = x10 then (some true) else (none))))
end
def laws_FnExactFirstStack.f (k : Nat) (l0 : List (S108)) : Option (Bool) := (laws_szSlabS.f l0 1048576).bind fun t172 => (if t172 < 0 then (some true) else ((laws_toSlabS.f k l0).bind fun t173 => ((spec_FirstStack.f k t173).bind fun bt176 => ((laws_toSlabS.f k l0).bind fun t180 => ((impl_FirstStack.f t180).bind fun bt183 => ((laws_eqIntS.f k bt183.1 bt176.1).bind fun t187 => (if t187 = true then (laws_FnExactFirstStack.j0 k l0 bt176.1 bt176.2 t180 bt183.1 bt183.2 (bt183.2 != bt176.2)) else (laws_FnExactFirstStack.j0 k l0 bt176.1 bt176.2 t180 bt183.1 bt183.2 true))))))))
theorem laws_FnExactFirstStack.mono_l : ∀ k, (∀ y0 y1 y2 y3 y4 y5 y6, LeO (laws_FnExactFirstStack.j0 k y0 y1 y2 y3 y4 y5 y6) (laws_FnExactFirstStack.j0 (k + 1) y0 y1 y2 y3 y4 y5 y6)) ∧ (∀ y0 y1 y2 y3 y4, LeO (laws_FnExactFirstStack.j1 k y0 y1 y2 y3 y4) (laws_FnExactFirstStack.j1 (k + 1) y0 y1 y2 y3 y4)) ∧ (∀ y0 y1 y2, LeO (laws_FnExactFirstStack.j2 k y0 y1 y2) (laws_FnExactFirstStack.j2 (k + 1) y0 y1 y2))
  | 0 => ⟨fun _ _ _ _ _ _ _ r h => by simp [laws_FnExactFirstStack.j0] at h, fun _ _ _ _ _ r h => by simp [laws_FnExactFirstStack.j1] at h, fun _ _ _ r h => by simp [laws_FnExactFirstStack.j2] at h⟩
  | k + 1 => by
    obtain ⟨ih0, ih1, ih2⟩ := laws_FnExactFirstStack.mono_l k
    refine ⟨?_, ?_, ?_⟩
    · intro y0 y1 y2 y3 y4 y5 y6
      unfold laws_FnExactFirstStack.j0
      repeat' first
      | (with_reducible exact ih0 _ _ _ _ _ _ _)
      | (with_reducible exact ih1 _ _ _ _ _)
      | (with_reducible exact ih2 _ _ _)
      | (with_reducible exact laws_eqIntS.mono _ _ _)
      | (with_reducible exact laws_eqSlabS.mono _ _ _)
      | (with_reducible exact laws_heldIntS.mono _ _ _)
      | (with_reducible exact laws_markIntS.mono _ _ _)
      | (with_reducible exact laws_markSlabS.mono _ _ _)
      | (with_reducible exact laws_toSlabS.mono _ _)
      | (with_reducible exact spec_FirstStack.mono _ _)
      | (with_reducible exact LeO.refl _)
      | (with_reducible exact LeO.none _)
      | (with_reducible refine LeO.ite ?_ ?_)
      | (with_reducible refine LeO.bind ?_ (fun _ => ?_))
      | exact ih0 _ _ _ _ _ _ _
      | exact ih1 _ _ _ _ _
      | exact ih2 _ _ _
      | exact laws_eqIntS.mono _ _ _
      | exact laws_eqSlabS.mono _ _ _
      | exact laws_heldIntS.mono _ _ _
      | exact laws_markIntS.mono _ _ _
      | exact laws_markSlabS.mono _ _ _
      | exact laws_toSlabS.mono _ _
      | exact spec_FirstStack.mono _ _
      | exact LeO.none _
      | refine LeO.ite ?_ ?_
      | refine LeO.bind ?_ (fun _ => ?_)
    · intro y0 y1 y2 y3 y4
      unfold laws_FnExactFirstStack.j1
      repeat' first
      | (with_reducible exact ih0 _ _ _ _ _ _ _)
      | (with_reducible exact ih1 _ _ _ _ _)
      | (with_reducible exact ih2 _ _ _)
      | (with_reducible exact laws_eqIntS.mono _ _ _)
      | (with_reducible exact laws_eqSlabS.mono _ _ _)
      | (with_reducible exact laws_heldIntS.mono _ _ _)
      | (with_reducible exact laws_markIntS.mono _ _ _)
      | (with_reducible exact laws_markSlabS.mono _ _ _)
      | (with_reducible exact laws_toSlabS.mono _ _)
      | (with_reducible exact spec_FirstStack.mono _ _)
      | (with_reducible exact LeO.refl _)
      | (with_reducible exact LeO.none _)
      | (with_reducible refine LeO.ite ?_ ?_)
      | (with_reducible refine LeO.bind ?_ (fun _ => ?_))
      | exact ih0 _ _ _ _ _ _ _
      | exact ih1 _ _ _ _ _
      | exact ih2 _ _ _
      | exact laws_eqIntS.mono _ _ _
      | exact laws_eqSlabS.mono _ _ _
      | exact laws_heldIntS.mono _ _ _
      | exact laws_markIntS.mono _ _ _
      | exact laws_markSlabS.mono _ _ _
      | exact laws_toSlabS.mono _ _
      | exact spec_FirstStack.mono _ _
      | exact LeO.none _
      | refine LeO.ite ?_ ?_
      | refine LeO.bind ?_ (fun _ => ?_)
    · intro y0 y1 y2
      unfold laws_FnExactFirstStack.j2
      repeat' first
      | (with_reducible exact ih0 _ _ _ _ _ _ _)
      | (with_reducible exact ih1 _ _ _ _ _)
      | (with_reducible exact ih2 _ _ _)
      | (with_reducible exact laws_eqIntS.mono _ _ _)
      | (with_reducible exact laws_eqSlabS.mono _ _ _)
      | (with_reducible exact laws_heldIntS.mono _ _ _)
      | (with_reducible exact laws_markIntS.mono _ _ _)
      | (with_reducible exact laws_markSlabS.mono _ _ _)
      | (with_reducible exact laws_toSlabS.mono _ _)
      | (with_reducible exact spec_FirstStack.mono _ _)
      | (with_reducible exact LeO.refl _)
      | (with_reducible exact LeO.none _)
      | (with_reducible refine LeO.ite ?_ ?_)
      | (with_reducible refine LeO.bind ?_ (fun _ => ?_))
      | exact ih0 _ _ _ _ _ _ _
      | exact ih1 _ _ _ _ _
      | exact ih2 _ _ _
      | exact laws_eqIntS.mono _ _ _
      | exact laws_eqSlabS.mono _ _ _
      | exact laws_heldIntS.mono _ _ _
      | exact laws_markIntS.mono _ _ _
      | exact laws_markSlabS.mono _ _ _
      | exact laws_toSlabS.mono _ _
      | exact spec_FirstStack.mono _ _
      | exact LeO.none _
      | refine LeO.ite ?_ ?_
      | refine LeO.bind ?_ (fun _ => ?_)
theorem laws_FnExactFirstStack.mono : ∀ a0 k, LeO (laws_FnExactFirstStack.f k a0) (laws_FnExactFirstStack.f (k + 1) a0) := by
  intro a0 k
  obtain ⟨ih0, ih1, ih2⟩ := laws_FnExactFirstStack.mono_l k
  unfold laws_FnExactFirstStack.f
  repeat' first
      | (with_reducible exact ih0 _ _ _ _ _ _ _)
      | (with_reducible exact ih1 _ _ _ _ _)
      | (with_reducible exact ih2 _ _ _)
      | (with_reducible exact laws_eqIntS.mono _ _ _)
      | (with_reducible exact laws_eqSlabS.mono _ _ _)
      | (with_reducible exact laws_heldIntS.mono _ _ _)
      | (with_reducible exact laws_markIntS.mono _ _ _)
      | (with_reducible exact laws_markSlabS.mono _ _ _)
      | (with_reducible exact laws_toSlabS.mono _ _)
      | (with_reducible exact spec_FirstStack.mono _ _)
      | (with_reducible exact LeO.refl _)
      | (with_reducible exact LeO.none _)
      | (with_reducible refine LeO.ite ?_ ?_)
      | (with_reducible refine LeO.bind ?_ (fun _ => ?_))
      | exact ih0 _ _ _ _ _ _ _
      | exact ih1 _ _ _ _ _
      | exact ih2 _ _ _
      | exact laws_eqIntS.mono _ _ _
      | exact laws_eqSlabS.mono _ _ _
      | exact laws_heldIntS.mono _ _ _
      | exact laws_markIntS.mono _ _ _
      | exact laws_markSlabS.mono _ _ _
      | exact laws_toSlabS.mono _ _
      | exact spec_FirstStack.mono _ _
      | exact LeO.none _
      | refine LeO.ite ?_ ?_
      | refine LeO.bind ?_ (fun _ => ?_)
set_option maxHeartbeats 8000000 in
set_option maxRecDepth 100000 in
theorem laws_FnExactFirstStack.calls (k : Nat) (A0 : Option Addr) (c0 : Nat) (l0 : List (S108)) (r : Bool) (w : World) (hr0 : Kd.C k108 w A0 l0.length l0) (hc0 : l0.length ≤ c0) (h : laws_FnExactFirstStack.f k l0 = some r) :
    Calls Try.prog 11 #[.slice A0 l0.length c0] w fun e w' => e = .returned (.bool r) ∧ Below w.heap.size w w' := by
  have HR0 := Aside0.mk hr0
  have HC0 := Aside0.mk hc0
  clear hr0 hc0
  have HB := Aside0.mk (Below.refl w.heap.size w)
  have H : ((laws_szSlabS.f l0 1048576).bind fun t172 => (if t172 < 0 then (some true) else ((laws_toSlabS.f k l0).bind fun t173 => ((spec_FirstStack.f k t173).bind fun bt176 => ((laws_toSlabS.f k l0).bind fun t180 => ((impl_FirstStack.f t180).bind fun bt183 => ((laws_eqIntS.f k bt183.1 bt176.1).bind fun t187 => (if t187 = true then (laws_FnExactFirstStack.j0 k l0 bt176.1 bt176.2 t180 bt183.1 bt183.2 (bt183.2 != bt176.2)) else (laws_FnExactFirstStack.j0 k l0 bt176.1 bt176.2 t180 bt183.1 bt183.2 true))))))))) = some r := h
  clear h
  replace H := Option.bind_eq_some_iff.mp H
  obtain ⟨t172, A20, H⟩ := H
  replace H : (if t172 < 0 then (some true) else ((laws_toSlabS.f k l0).bind fun t173 => ((spec_FirstStack.f k t173).bind fun bt176 => ((laws_toSlabS.f k l0).bind fun t180 => ((impl_FirstStack.f t180).bind fun bt183 => ((laws_eqIntS.f k bt183.1 bt176.1).bind fun t187 => (if t187 = true then (laws_FnExactFirstStack.j0 k l0 bt176.1 bt176.2 t180 bt183.1 bt183.2 (bt183.2 != bt176.2)) else (laws_FnExactFirstStack.j0 k l0 bt176.1 bt176.2 t180 bt183.1 bt183.2 true)))))))) = some r := H
  have A2 := Aside0.mk A20
  clear A20
  by_cases c3 : t172 < 0
  · rw [if_pos c3] at H
    have c3b0 : decide (t172 < 0) = true := decide_eq_true c3
    clear c3
    obtain rfl := Option.some.inj H
    go_enter Try.func11, Try.ntmps11
    go_wp2_with (first | ((with_reducible refine gate_callee (f := 42) rfl ?_); refine goesL_ (some 16) rfl rfl Try.func42 (by kernel_rfl) rfl #[.slice A0 l0.length c0, .int .i64 1048576] rfl (by (try simp only [List.map_toArray, List.map_cons, List.map_nil]); first | done | rfl | (simp only [List.length_drop, List.length_take]; rfl)) ?_; (with_reducible refine (laws_szSlabS.calls _ _ l0 1048576 t172 _ ?side1 ?side2 A2.out).mono ?_); (case side1 => repeat (first | exact HR0.out | (with_reducible refine Kd.C_alloc ?_ _) | (with_reducible refine Kd.C_drewN ?_ _) | (with_reducible refine Kd.C_drew ?_))); (case side2 => exact HC0.out); rintro e w' ⟨rfl, ⟨nd, rfl⟩⟩; refine ⟨_, rfl, ?_⟩))
    go_ret
    exact ⟨by first | rfl | (simp [errW_none, errW_some] <;> rfl) | (simp [*, errW_none, errW_some] <;> rfl), by repeat (first | (with_reducible first | exact HB.out | apply below_alloc | apply pw_below_drewN | apply below_drew1) | exact HB.out)⟩
  · rw [if_neg c3] at H
    have c3b0 : decide (t172 < 0) = false := decide_eq_false c3
    clear c3
    replace H := Option.bind_eq_some_iff.mp H
    obtain ⟨t173, A40, H⟩ := H
    replace H : ((spec_FirstStack.f k t173).bind fun bt176 => ((laws_toSlabS.f k l0).bind fun t180 => ((impl_FirstStack.f t180).bind fun bt183 => ((laws_eqIntS.f k bt183.1 bt176.1).bind fun t187 => (if t187 = true then (laws_FnExactFirstStack.j0 k l0 bt176.1 bt176.2 t180 bt183.1 bt183.2 (bt183.2 != bt176.2)) else (laws_FnExactFirstStack.j0 k l0 bt176.1 bt176.2 t180 bt183.1 bt183.2 true)))))) = some r := H
    have A4 := Aside0.mk A40
    clear A40
    replace H := Option.bind_eq_some_iff.mp H
    obtain ⟨⟨t176, t177⟩, A50, H⟩ := H
    replace H : ((laws_toSlabS.f k l0).bind fun t180 => ((impl_FirstStack.f t180).bind fun bt183 => ((laws_eqIntS.f k bt183.1 t176).bind fun t187 => (if t187 = true then (laws_FnExactFirstStack.j0 k l0 t176 t177 t180 bt183.1 bt183.2 (bt183.2 != t177)) else (laws_FnExactFirstStack.j0 k l0 t176 t177 t180 bt183.1 bt183.2 true))))) = some r := H
    have A5 := Aside0.mk A50
    clear A50
    replace H := Option.bind_eq_some_iff.mp H
    obtain ⟨t180, A60, H⟩ := H
    replace H : ((impl_FirstStack.f t180).bind fun bt183 => ((laws_eqIntS.f k bt183.1 t176).bind fun t187 => (if t187 = true then (laws_FnExactFirstStack.j0 k l0 t176 t177 t180 bt183.1 bt183.2 (bt183.2 != t177)) else (laws_FnExactFirstStack.j0 k l0 t176 t177 t180 bt183.1 bt183.2 true)))) = some r := H
    have A6 := Aside0.mk A60
    clear A60
    replace H := Option.bind_eq_some_iff.mp H
    obtain ⟨⟨t183, t184⟩, A70, H⟩ := H
    replace H : ((laws_eqIntS.f k t183 t176).bind fun t187 => (if t187 = true then (laws_FnExactFirstStack.j0 k l0 t176 t177 t180 t183 t184 (t184 != t177)) else (laws_FnExactFirstStack.j0 k l0 t176 t177 t180 t183 t184 true))) = some r := H
    have A7 := Aside0.mk A70
    clear A70
    have HC8 := Aside0.mk H
    clear H
    go_enter Try.func11, Try.ntmps11
    go_upto_region 8 with (first | ((with_reducible refine gate_callee (f := 42) rfl ?_); refine goesL_ (some 16) rfl rfl Try.func42 (by kernel_rfl) rfl #[.slice A0 l0.length c0, .int .i64 1048576] rfl (by (try simp only [List.map_toArray, List.map_cons, List.map_nil]); first | done | rfl | (simp only [List.length_drop, List.length_take]; rfl)) ?_; (with_reducible refine (laws_szSlabS.calls _ _ l0 1048576 t172 _ ?side1 ?side2 A2.out).mono ?_); (case side1 => repeat (first | exact HR0.out | (with_reducible refine Kd.C_alloc ?_ _) | (with_reducible refine Kd.C_drewN ?_ _) | (with_reducible refine Kd.C_drew ?_))); (case side2 => exact HC0.out); rintro e w' ⟨rfl, ⟨nd, rfl⟩⟩; refine ⟨_, rfl, ?_⟩) | ((with_reducible refine gate_callee (f := 44) rfl ?_); refine goesL_ (some 21) rfl rfl Try.func44 (by kernel_rfl) rfl #[.slice A0 l0.length c0] rfl (by (try simp only [List.map_toArray, List.map_cons, List.map_nil]); first | done | rfl | (simp only [List.length_drop, List.length_take]; rfl)) ?_; (with_reducible refine (laws_toSlabS.calls k _ _ l0 t173 _ ?side1 ?side2 A4.out).mono ?_); (case side1 => repeat (first | exact HR0.out | (with_reducible refine Kd.C_alloc ?_ _) | (with_reducible refine Kd.C_drewN ?_ _) | (with_reducible refine Kd.C_drew ?_))); (case side2 => exact HC0.out); rintro e w9 ⟨v174, rfl, ho0, hb⟩; refine ⟨_, rfl, ?_⟩; have n0_ := Aside0.mk (Kd.R_lower ho0 (below_size (by repeat (first | (with_reducible first | exact HB.out | apply below_alloc | apply pw_below_drewN | apply below_drew1) | exact HB.out)))); have n1_ := Aside0.mk (below_step (by repeat (first | (with_reducible first | exact HB.out | apply below_alloc | apply pw_below_drewN | apply below_drew1) | exact HB.out)) hb); clear HB; have HO175 := n0_; have HB := n1_; clear n0_ n1_; (try clear hb); (try clear hb2); (try clear hk); (try clear hi); (try clear ho0); obtain ⟨Ao10, co10, eo10⟩ := Kd.R_slice HO175.out; subst eo10) | ((with_reducible refine gate_callee (f := 49) rfl ?_); refine goesL_ (some 22) rfl rfl Try.func49 (by kernel_rfl) rfl #[.slice Ao10 t173.length co10] rfl (by (try simp only [List.map_toArray, List.map_cons, List.map_nil]); first | done | rfl | (simp only [List.length_drop, List.length_take]; rfl)) ?_; (with_reducible refine (spec_FirstStack.calls k _ _ t173 t176 t177 _ ?side1 ?side2 A5.out).mono ?_); (case side1 => repeat (first | exact (Kd.R_reads' HO175.out).2.2 | (with_reducible refine Kd.C_alloc ?_ _) | (with_reducible refine Kd.C_drewN ?_ _) | (with_reducible refine Kd.C_drew ?_))); (case side2 => exact (Kd.R_reads' HO175.out).2.1); rintro e w11 ⟨v178, rfl, ho0, hb⟩; refine ⟨_, rfl, ?_⟩; have n0_ := Aside0.mk (Kd.R_below (by (with_reducible repeat (first | apply Kd.R_alloc | apply Kd.R_drewN | apply Kd.R_drew)); exact HO175.out) hb); have n1_ := Aside0.mk (Kd.R_lower ho0 (below_size (by repeat (first | (with_reducible first | exact HB.out | apply below_alloc | apply pw_below_drewN | apply below_drew1) | exact HB.out)))); have n2_ := Aside0.mk (below_step (by repeat (first | (with_reducible first | exact HB.out | apply below_alloc | apply pw_below_drewN | apply below_drew1) | exact HB.out)) hb); clear HO175; clear HB; have HO175 := n0_; have HO179 := n1_; have HB := n2_; clear n0_ n1_ n2_; (try clear hb); (try clear hb2); (try clear hk); (try clear hi); (try clear ho0)) | ((with_reducible refine gate_callee (f := 44) rfl ?_); refine goesL_ (some 26) rfl rfl Try.func44 (by kernel_rfl) rfl #[.slice A0 l0.length c0] rfl (by (try simp only [List.map_toArray, List.map_cons, List.map_nil]); first | done | rfl | (simp only [List.length_drop, List.length_take]; rfl)) ?_; (with_reducible refine (laws_toSlabS.calls k _ _ l0 t180 _ ?side1 ?side2 A6.out).mono ?_); (case side1 => repeat (first | exact (Kd.C_below HR0.out HB.out) | (with_reducible refine Kd.C_alloc ?_ _) | (with_reducible refine Kd.C_drewN ?_ _) | (with_reducible refine Kd.C_drew ?_))); (case side2 => exact HC0.out); rintro e w12 ⟨v181, rfl, ho0, hb⟩; refine ⟨_, rfl, ?_⟩; have n0_ := Aside0.mk (Kd.R_elder' (by (with_reducible repeat (first | apply Kd.R_alloc | apply Kd.R_drewN | apply Kd.R_drew)); exact HO175.out) (Kd.R_base ho0) hb); have n1_ := Aside0.mk (Kd.R_below (by (with_reducible repeat (first | apply Kd.R_alloc | apply Kd.R_drewN | apply Kd.R_drew)); exact HO179.out) hb); have n2_ := Aside0.mk (Kd.R_lower (Kd.R_new' ho0 (Kd.R_lt (by (with_reducible repeat (first | apply Kd.R_alloc | apply Kd.R_drewN | apply Kd.R_drew)); exact HO175.out))) (below_size (by repeat (first | (with_reducible first | exact HB.out | apply below_alloc | apply pw_below_drewN | apply below_drew1) | exact HB.out)))); have n3_ := Aside0.mk (below_step (by repeat (first | (with_reducible first | exact HB.out | apply below_alloc | apply pw_below_drewN | apply below_drew1) | exact HB.out)) hb); clear HO175; clear HO179; clear HB; have HO175 := n0_; have HO179 := n1_; have HO182 := n2_; have HB := n3_; clear n0_ n1_ n2_ n3_; (try clear hb); (try clear hb2); (try clear hk); (try clear hi); (try clear ho0); obtain ⟨Ao13, co13, eo13⟩ := Kd.R_slice HO182.out; subst eo13) | ((with_reducible refine gate_callee (f := 50) rfl ?_); refine goesL_ (some 29) rfl rfl Try.func50 (by kernel_rfl) rfl #[.slice Ao13 t180.length co13] rfl (by (try simp only [List.map_toArray, List.map_cons, List.map_nil]); first | done | rfl | (simp only [List.length_drop, List.length_take]; rfl)) ?_; (with_reducible refine (impl_FirstStack.calls _ _ t180 t183 t184 _ ?side1 ?side2 A7.out).mono ?_); (case side1 => repeat (first | exact (Kd.R_reads' HO182.out).2.2 | (with_reducible refine Kd.C_alloc ?_ _) | (with_reducible refine Kd.C_drewN ?_ _) | (with_reducible refine Kd.C_drew ?_))); (case side2 => exact (Kd.R_reads' HO182.out).2.1); rintro e w14 ⟨v185, rfl, ho0, hb⟩; refine ⟨_, rfl, ?_⟩; have n0_ := Aside0.mk (Kd.R_below (by (with_reducible repeat (first | apply Kd.R_alloc | apply Kd.R_drewN | apply Kd.R_drew)); exact HO175.out) hb); have n1_ := Aside0.mk (Kd.R_elder' (by (with_reducible repeat (first | apply Kd.R_alloc | apply Kd.R_drewN | apply Kd.R_drew)); exact HO179.out) (Kd.R_base ho0) hb); have n2_ := Aside0.mk (Kd.R_below (by (with_reducible repeat (first | apply Kd.R_alloc | apply Kd.R_drewN | apply Kd.R_drew)); exact HO182.out) hb); have n3_ := Aside0.mk (Kd.R_lower (Kd.R_new' ho0 (Kd.R_lt (by (with_reducible repeat (first | apply Kd.R_alloc | apply Kd.R_drewN | apply Kd.R_drew)); exact HO179.out))) (below_size (by repeat (first | (with_reducible first | exact HB.out | apply below_alloc | apply pw_below_drewN | apply below_drew1) | exact HB.out)))); have n4_ := Aside0.mk (below_step (by repeat (first | (with_reducible first | exact HB.out | apply below_alloc | apply pw_below_drewN | apply below_drew1) | exact HB.out)) hb); clear HO175; clear HO179; clear HO182; clear HB; have HO175 := n0_; have HO179 := n1_; have HO182 := n2_; have HO186 := n3_; have HB := n4_; clear n0_ n1_ n2_ n3_ n4_; (try clear hb); (try clear hb2); (try clear hk); (try clear hi); (try clear ho0)))
    (try simp only [Act.put, List.setIfInBounds_toArray, List.set_cons_zero, List.set_cons_succ])
    go_cut [40] (fun v40 wc => ∃ (kq : Nat) (x40_7 : Bool), v40 = .bool x40_7 ∧ Aside0 (laws_FnExactFirstStack.j0 kq l0 t176 t177 t180 t183 t184 x40_7 = some r) ∧ Aside0 (kq ≤ k) ∧ Aside0 (Kd.R (Kd.int .i64) 3 wc w.heap.size (fun k_ => some k_ ≠ (v185 : Value).ownBlock) v178 t176) ∧ Aside0 (Kd.R k98 98 wc w.heap.size (fun _ => True) (.slice Ao13 t180.length co13) t180) ∧ Aside0 (Kd.R (Kd.int .i64) 3 wc w.heap.size (fun k_ => some k_ ≠ (v178 : Value).ownBlock) v185 t183) ∧ Aside0 (Below w.heap.size w wc))
    case first =>
      have H := HC8.out
      clear HC8
      replace H := Option.bind_eq_some_iff.mp H
      obtain ⟨t187, A150, H⟩ := H
      replace H : (if t187 = true then (laws_FnExactFirstStack.j0 k l0 t176 t177 t180 t183 t184 (t184 != t177)) else (laws_FnExactFirstStack.j0 k l0 t176 t177 t180 t183 t184 true)) = some r := H
      have A15 := Aside0.mk A150
      clear A150
      by_cases c16 : t187 = true
      · subst c16
        have H1 : (laws_FnExactFirstStack.j0 k l0 t176 t177 t180 t183 t184 (t184 != t177)) = some r := by rw [if_pos rfl] at H; exact H
        clear H
        have H := H1
        clear H1
        have H' := Aside0.mk H
        clear H
        obtain ⟨Ao17, co17, eo17⟩ := Kd.R_slice HO186.out
        subst eo17
        obtain ⟨Ao18, co18, eo18⟩ := Kd.R_slice HO179.out
        subst eo18
        go_wp2_with (first | ((with_reducible refine gate_callee (f := 28) rfl ?_); refine goesL_ (some 34) rfl rfl Try.func28 (by kernel_rfl) rfl #[.slice Ao17 t183.length co17, .slice Ao18 t176.length co18] rfl (by (try simp only [List.map_toArray, List.map_cons, List.map_nil]); first | done | rfl | (simp only [List.length_drop, List.length_take]; rfl)) ?_; (with_reducible refine (laws_eqIntS.calls k _ _ t183 _ _ t176 true _ ?side1 ?side2 ?side3 ?side4 A15.out).mono ?_); (case side1 => repeat (first | exact (Kd.R_reads' HO186.out).2.2 | (with_reducible refine Kd.C_alloc ?_ _) | (with_reducible refine Kd.C_drewN ?_ _) | (with_reducible refine Kd.C_drew ?_))); (case side2 => exact (Kd.R_reads' HO186.out).2.1); (case side3 => repeat (first | exact (Kd.R_reads' HO179.out).2.2 | (with_reducible refine Kd.C_alloc ?_ _) | (with_reducible refine Kd.C_drewN ?_ _) | (with_reducible refine Kd.C_drew ?_))); (case side4 => exact (Kd.R_reads' HO179.out).2.1); rintro e w' ⟨rfl, ⟨nd, rfl⟩⟩; refine ⟨_, rfl, ?_⟩))
        go_meet
        case rel => exact ⟨_, ((t184 != t177)), (by first | rfl | (simp; done) | (simp [*]; done)), H', ⟨by first | omega | exact Nat.le_refl _⟩, ⟨by (with_reducible repeat (first | apply Kd.R_alloc | apply Kd.R_drewN | apply Kd.R_drew)); exact Kd.R_mono HO179.out (fun _ hk => hk.2)⟩, ⟨by (with_reducible repeat (first | apply Kd.R_alloc | apply Kd.R_drewN | apply Kd.R_drew)); exact Kd.R_mono HO182.out (fun _ hk => trivial)⟩, ⟨by (with_reducible repeat (first | apply Kd.R_alloc | apply Kd.R_drewN | apply Kd.R_drew)); exact Kd.R_mono HO186.out (fun _ hk => hk.2)⟩, ⟨by repeat (first | (with_reducible first | exact HB.out | apply below_alloc | apply pw_below_drewN | apply below_drew1) | exact HB.out)⟩⟩
      · replace c16 := Bool.eq_false_iff.mpr c16
        subst c16
        have H1 : (laws_FnExactFirstStack.j0 k l0 t176 t177 t180 t183 t184 true) = some r := by rw [if_neg (show ¬ (false = true) by decide)] at H; exact H
        clear H
        have H := H1
        clear H1
        have H' := Aside0.mk H
        clear H
        obtain ⟨Ao19, co19, eo19⟩ := Kd.R_slice HO186.out
        subst eo19
        obtain ⟨Ao20, co20, eo20⟩ := Kd.R_slice HO179.out
        subst eo20
        go_wp2_with (first | ((with_reducible refine gate_callee (f := 28) rfl ?_); refine goesL_ (some 34) rfl rfl Try.func28 (by kernel_rfl) rfl #[.slice Ao19 t183.length co19, .slice Ao20 t176.length co20] rfl (by (try simp only [List.map_toArray, List.map_cons, List.map_nil]); first | done | rfl | (simp only [List.length_drop, List.length_take]; rfl)) ?_; (with_reducible refine (laws_eqIntS.calls k _ _ t183 _ _ t176 false _ ?side1 ?side2 ?side3 ?side4 A15.out).mono ?_); (case side1 => repeat (first | exact (Kd.R_reads' HO186.out).2.2 | (with_reducible refine Kd.C_alloc ?_ _) | (with_reducible refine Kd.C_drewN ?_ _) | (with_reducible refine Kd.C_drew ?_))); (case side2 => exact (Kd.R_reads' HO186.out).2.1); (case side3 => repeat (first | exact (Kd.R_reads' HO179.out).2.2 | (with_reducible refine Kd.C_alloc ?_ _) | (with_reducible refine Kd.C_drewN ?_ _) | (with_reducible refine Kd.C_drew ?_))); (case side4 => exact (Kd.R_reads' HO179.out).2.1); rintro e w' ⟨rfl, ⟨nd, rfl⟩⟩; refine ⟨_, rfl, ?_⟩))
        go_meet
        case rel => exact ⟨_, (true), (by first | rfl | (simp; done) | (simp [*]; done)), H', ⟨by first | omega | exact Nat.le_refl _⟩, ⟨by (with_reducible repeat (first | apply Kd.R_alloc | apply Kd.R_drewN | apply Kd.R_drew)); exact Kd.R_mono HO179.out (fun _ hk => hk.2)⟩, ⟨by (with_reducible repeat (first | apply Kd.R_alloc | apply Kd.R_drewN | apply Kd.R_drew)); exact Kd.R_mono HO182.out (fun _ hk => trivial)⟩, ⟨by (with_reducible repeat (first | apply Kd.R_alloc | apply Kd.R_drewN | apply Kd.R_drew)); exact Kd.R_mono HO186.out (fun _ hk => hk.2)⟩, ⟨by repeat (first | (with_reducible first | exact HB.out | apply below_alloc | apply pw_below_drewN | apply below_drew1) | exact HB.out)⟩⟩
    case rest =>
      clear HC8
      try clear c1
      try clear c2
      try clear p2
      try clear c3
      try clear c3b0
      try clear c4
      try clear c5
      try clear c11
      try clear c16
      obtain ⟨kq, x40_7, rfl, HA, HJ7, HO_4, HO_6, HO_7, HB⟩ := hcut
      cases kq with
      | zero => exact absurd HA.out (by simp [laws_FnExactFirstStack.j0])
      | succ kj7 =>
        have H := HA.out
        clear HA
        simp only [laws_FnExactFirstStack.j0] at H
        by_cases c21 : x40_7 = true
        · subst c21
          have H1 : (none) = some r := by rw [if_pos rfl] at H; exact H
          clear H
          have H := H1
          clear H1
          exact absurd H (by simp)
        · replace c21 := Bool.eq_false_iff.mpr c21
          subst c21
          have H1 : ((laws_toSlabS.f kj7 l0).bind fun t188 => ((laws_eqSlabS.f kj7 t180 t188).bind fun t191 => (if t191 = true then ((laws_markSlabS.f kj7 t180 1).bind fun bt192 => (if bt192.1 < 0 then (laws_FnExactFirstStack.j1 kj7 l0 t176 t177 t183 true) else ((laws_eqIntS.f kj7 t183 t176).bind fun t194 => (if t194 = true then (laws_FnExactFirstStack.j1 kj7 l0 t176 t177 t183 (t184 != t177)) else (laws_FnExactFirstStack.j1 kj7 l0 t176 t177 t183 true))))) else (none)))) = some r := by rw [if_neg (show ¬ (false = true) by decide)] at H; exact H
          clear H
          have H := H1
          clear H1
          replace H := Option.bind_eq_some_iff.mp H
          obtain ⟨t188, A220, H⟩ := H
          replace H : ((laws_eqSlabS.f kj7 t180 t188).bind fun t191 => (if t191 = true then ((laws_markSlabS.f kj7 t180 1).bind fun bt192 => (if bt192.1 < 0 then (laws_FnExactFirstStack.j1 kj7 l0 t176 t177 t183 true) else ((laws_eqIntS.f kj7 t183 t176).bind fun t194 => (if t194 = true then (laws_FnExactFirstStack.j1 kj7 l0 t176 t177 t183 (t184 != t177)) else (laws_FnExactFirstStack.j1 kj7 l0 t176 t177 t183 true))))) else (none))) = some r := H
          have A22 := Aside0.mk A220
          clear A220
          replace H := Option.bind_eq_some_iff.mp H
          obtain ⟨t191, A230, H⟩ := H
          replace H : (if t191 = true then ((laws_markSlabS.f kj7 t180 1).bind fun bt192 => (if bt192.1 < 0 then (laws_FnExactFirstStack.j1 kj7 l0 t176 t177 t183 true) else ((laws_eqIntS.f kj7 t183 t176).bind fun t194 => (if t194 = true then (laws_FnExactFirstStack.j1 kj7 l0 t176 t177 t183 (t184 != t177)) else (laws_FnExactFirstStack.j1 kj7 l0 t176 t177 t183 true))))) else (none)) = some r := H
          have A23 := Aside0.mk A230
          clear A230
          by_cases c24 : t191 = true
          · subst c24
            have H1 : ((laws_markSlabS.f kj7 t180 1).bind fun bt192 => (if bt192.1 < 0 then (laws_FnExactFirstStack.j1 kj7 l0 t176 t177 t183 true) else ((laws_eqIntS.f kj7 t183 t176).bind fun t194 => (if t194 = true then (laws_FnExactFirstStack.j1 kj7 l0 t176 t177 t183 (t184 != t177)) else (laws_FnExactFirstStack.j1 kj7 l0 t176 t177 t183 true))))) = some r := by rw [if_pos rfl] at H; exact H
            clear H
            have H := H1
            clear H1
            replace H := Option.bind_eq_some_iff.mp H
            obtain ⟨⟨t192, t193⟩, A250, H⟩ := H
            replace H : (if t192 < 0 then (laws_FnExactFirstStack.j1 kj7 l0 t176 t177 t183 true) else ((laws_eqIntS.f kj7 t183 t176).bind fun t194 => (if t194 = true then (laws_FnExactFirstStack.j1 kj7 l0 t176 t177 t183 (t184 != t177)) else (laws_FnExactFirstStack.j1 kj7 l0 t176 t177 t183 true)))) = some r := H
            have A25 := Aside0.mk A250
            clear A250
            have HC26 := Aside0.mk H
            clear H
            go_upto_region 14 with (first | ((with_reducible refine gate_callee (f := 44) rfl ?_); refine goesL_ (some 43) rfl rfl Try.func44 (by kernel_rfl) rfl #[.slice A0 l0.length c0] rfl (by (try simp only [List.map_toArray, List.map_cons, List.map_nil]); first | done | rfl | (simp only [List.length_drop, List.length_take]; rfl)) ?_; (with_reducible refine (laws_toSlabS.calls kj7 _ _ l0 t188 _ ?side1 ?side2 A22.out).mono ?_); (case side1 => repeat (first | exact (Kd.C_below HR0.out HB.out) | (with_reducible refine Kd.C_alloc ?_ _) | (with_reducible refine Kd.C_drewN ?_ _) | (with_reducible refine Kd.C_drew ?_))); (case side2 => exact HC0.out); rintro e w27 ⟨v189, rfl, ho0, hb⟩; refine ⟨_, rfl, ?_⟩; have n0_ := Aside0.mk (Kd.R_below (by (with_reducible repeat (first | apply Kd.R_alloc | apply Kd.R_drewN | apply Kd.R_drew)); exact HO_4.out) hb); have n1_ := Aside0.mk (Kd.R_elder' (by (with_reducible repeat (first | apply Kd.R_alloc | apply Kd.R_drewN | apply Kd.R_drew)); exact HO_6.out) (Kd.R_base ho0) hb); have n2_ := Aside0.mk (Kd.R_below (by (with_reducible repeat (first | apply Kd.R_alloc | apply Kd.R_drewN | apply Kd.R_drew)); exact HO_7.out) hb); have n3_ := Aside0.mk (Kd.R_lower (Kd.R_new' ho0 (Kd.R_lt (by (with_reducible repeat (first | apply Kd.R_alloc | apply Kd.R_drewN | apply Kd.R_drew)); exact HO_6.out))) (below_size (by repeat (first | (with_reducible first | exact HB.out | apply below_alloc | apply pw_below_drewN | apply below_drew1) | exact HB.out)))); have n4_ := Aside0.mk (below_step (by repeat (first | (with_reducible first | exact HB.out | apply below_alloc | apply pw_below_drewN | apply below_drew1) | exact HB.out)) hb); clear HO_4; clear HO_6; clear HO_7; clear HB; have HO_4 := n0_; have HO_6 := n1_; have HO_7 := n2_; have HO190 := n3_; have HB := n4_; clear n0_ n1_ n2_ n3_ n4_; (try clear hb); (try clear hb2); (try clear hk); (try clear hi); (try clear ho0); obtain ⟨Ao28, co28, eo28⟩ := Kd.R_slice HO190.out; subst eo28) | ((with_reducible refine gate_callee (f := 46) rfl ?_); refine goesL_ (some 44) rfl rfl Try.func46 (by kernel_rfl) rfl #[.slice Ao13 t180.length co13, .slice Ao28 t188.length co28] rfl (by (try simp only [List.map_toArray, List.map_cons, List.map_nil]); first | done | rfl | (simp only [List.length_drop, List.length_take]; rfl)) ?_; (with_reducible refine (laws_eqSlabS.calls kj7 _ _ t180 _ _ t188 true _ ?side1 ?side2 ?side3 ?side4 A23.out).mono ?_); (case side1 => repeat (first | exact (Kd.R_reads' HO_6.out).2.2 | (with_reducible refine Kd.C_alloc ?_ _) | (with_reducible refine Kd.C_drewN ?_ _) | (with_reducible refine Kd.C_drew ?_))); (case side2 => exact (Kd.R_reads' HO_6.out).2.1); (case side3 => repeat (first | exact (Kd.R_reads' HO190.out).2.2 | (with_reducible refine Kd.C_alloc ?_ _) | (with_reducible refine Kd.C_drewN ?_ _) | (with_reducible refine Kd.C_drew ?_))); (case side4 => exact (Kd.R_reads' HO190.out).2.1); rintro e w29 ⟨rfl, hb⟩; refine ⟨_, rfl, ?_⟩; have n0_ := Aside0.mk (Kd.R_below (by (with_reducible repeat (first | apply Kd.R_alloc | apply Kd.R_drewN | apply Kd.R_drew)); exact HO_4.out) hb); have n1_ := Aside0.mk (Kd.R_below (by (with_reducible repeat (first | apply Kd.R_alloc | apply Kd.R_drewN | apply Kd.R_drew)); exact HO_6.out) hb); have n2_ := Aside0.mk (Kd.R_below (by (with_reducible repeat (first | apply Kd.R_alloc | apply Kd.R_drewN | apply Kd.R_drew)); exact HO_7.out) hb); have n3_ := Aside0.mk (Kd.R_below (by (with_reducible repeat (first | apply Kd.R_alloc | apply Kd.R_drewN | apply Kd.R_drew)); exact HO190.out) hb); have n4_ := Aside0.mk (below_step (by repeat (first | (with_reducible first | exact HB.out | apply below_alloc | apply pw_below_drewN | apply below_drew1) | exact HB.out)) hb); clear HO_4; clear HO_6; clear HO_7; clear HO190; clear HB; have HO_4 := n0_; have HO_6 := n1_; have HO_7 := n2_; have HO190 := n3_; have HB := n4_; clear n0_ n1_ n2_ n3_ n4_; (try clear hb); (try clear hb2); (try clear hk); (try clear hi)) | ((with_reducible refine gate_callee (f := 51) rfl ?_); refine goesL_ (some 48) rfl rfl Try.func51 (by kernel_rfl) rfl #[.slice Ao13 t180.length co13, .int .i64 1] rfl (by (try simp only [List.map_toArray, List.map_cons, List.map_nil]); first | done | rfl | (simp only [List.length_drop, List.length_take]; rfl)) ?_; (with_reducible refine (laws_markSlabS.calls kj7 (fun k_ => some k_ = (.slice Ao13 t180.length co13 : Value).ownBlock) (.slice Ao13 t180.length co13) t180 1 t192 t193 w _ ?side1 ?side2 A25.out).mono ?_); (case side1 => repeat (first | (with_reducible first | exact HB.out | apply below_alloc | apply pw_below_drewN | apply below_drew1) | exact HB.out)); (case side2 => exact Kd.R_tight rfl HO_6.out); rintro e w30 ⟨rfl, hy0, hb, hkp⟩; refine ⟨_, rfl, ?_⟩; have n0_ := Aside0.mk (Kd.R_mono (ok' := fun k_ => some k_ ≠ (v185 : Value).ownBlock) (Kd.R_keptB ((Kd.R_apart' HO_4.out (Kd.R_typed HO_6.out) (by decide))) hkp (fun k_ hk_ hs_ => (hk_.2) hs_)) (fun k_ hk_ => hk_.1.1)); have n1_ := Aside0.mk (Kd.R_reok rfl hy0 (fun k_ e_ => HO_6.out.1 k_ e_)); have n2_ := Aside0.mk (Kd.R_mono (ok' := fun k_ => some k_ ≠ (v178 : Value).ownBlock) (Kd.R_keptB ((Kd.R_apart' HO_7.out (Kd.R_typed HO_6.out) (by decide))) hkp (fun k_ hk_ hs_ => (hk_.2) hs_)) (fun k_ hk_ => hk_.1.1)); have n3_ := Aside0.mk (Kd.R_mono (ok' := fun k_ => some k_ ≠ (.slice Ao13 t180.length co13 : Value).ownBlock) (Kd.R_keptB (HO190.out) hkp (fun k_ hk_ hs_ => (hk_.2) hs_)) (fun k_ hk_ => hk_.1.2)); have n4_ := Aside0.mk (hb); clear HO_4; clear HO_6; clear HO_7; clear HO190; clear HB; have HO_4 := n0_; have HO_6 := n1_; have HO_7 := n2_; have HO190 := n3_; have HB := n4_; clear n0_ n1_ n2_ n3_ n4_; (try clear hb); (try clear hkp); (try clear hy0)))
            (try simp only [Act.put, List.setIfInBounds_toArray, List.set_cons_zero, List.set_cons_succ])
            go_cut [61] (fun v61 wc => ∃ (kq : Nat) (x61_25 : Bool), v61 = .bool x61_25 ∧ Aside0 (laws_FnExactFirstStack.j1 kq l0 t176 t177 t183 x61_25 = some r) ∧ Aside0 (kq ≤ kj7) ∧ Aside0 (Kd.R (Kd.int .i64) 3 wc w.heap.size (fun k_ => some k_ ≠ (v185 : Value).ownBlock) v178 t176) ∧ Aside0 (Kd.R (Kd.int .i64) 3 wc w.heap.size (fun k_ => some k_ ≠ (v178 : Value).ownBlock) v185 t183) ∧ Aside0 (Below w.heap.size w wc))
            case first =>
              have H := HC26.out
              clear HC26
              by_cases c31 : t192 < 0
              · rw [if_pos c31] at H
                have c31b0 : decide (t192 < 0) = true := decide_eq_true c31
                clear c31
                (first | rw [c31b0] | (simp only [i64_w, i32_w]; rw [c31b0]) | skip)
                have H' := Aside0.mk H
                clear H
                go_wp2
                go_meet
                case rel => exact ⟨_, (true), (by first | rfl | (simp; done) | (simp [*]; done)), H', ⟨by have := HJ7.out; first | omega | exact Nat.le_refl _⟩, ⟨by (with_reducible repeat (first | apply Kd.R_alloc | apply Kd.R_drewN | apply Kd.R_drew)); exact HO_4.out⟩, ⟨by (with_reducible repeat (first | apply Kd.R_alloc | apply Kd.R_drewN | apply Kd.R_drew)); exact HO_7.out⟩, ⟨by repeat (first | (with_reducible first | exact HB.out | apply below_alloc | apply pw_below_drewN | apply below_drew1) | exact HB.out)⟩⟩
              · rw [if_neg c31] at H
                have c31b0 : decide (t192 < 0) = false := decide_eq_false c31
                clear c31
                (first | rw [c31b0] | (simp only [i64_w, i32_w]; rw [c31b0]) | skip)
                replace H := Option.bind_eq_some_iff.mp H
                obtain ⟨t194, A320, H⟩ := H
                replace H : (if t194 = true then (laws_FnExactFirstStack.j1 kj7 l0 t176 t177 t183 (t184 != t177)) else (laws_FnExactFirstStack.j1 kj7 l0 t176 t177 t183 true)) = some r := H
                have A32 := Aside0.mk A320
                clear A320
                by_cases c33 : t194 = true
                · subst c33
                  have H1 : (laws_FnExactFirstStack.j1 kj7 l0 t176 t177 t183 (t184 != t177)) = some r := by rw [if_pos rfl] at H; exact H
                  clear H
                  have H := H1
                  clear H1
                  have H' := Aside0.mk H
                  clear H
                  obtain ⟨Ao34, co34, eo34⟩ := Kd.R_slice HO_7.out
                  subst eo34
                  obtain ⟨Ao35, co35, eo35⟩ := Kd.R_slice HO_4.out
                  subst eo35
                  go_wp2_with (first | (go_at_call 28; (with_reducible refine (laws_eqIntS.calls kj7 _ _ t183 _ _ t176 true _ ?side1 ?side2 ?side3 ?side4 A32.out).mono ?_); (case side1 => repeat (first | exact (Kd.R_reads' HO_7.out).2.2 | (with_reducible refine Kd.C_alloc ?_ _) | (with_reducible refine Kd.C_drewN ?_ _) | (with_reducible refine Kd.C_drew ?_))); (case side2 => exact (Kd.R_reads' HO_7.out).2.1); (case side3 => repeat (first | exact (Kd.R_reads' HO_4.out).2.2 | (with_reducible refine Kd.C_alloc ?_ _) | (with_reducible refine Kd.C_drewN ?_ _) | (with_reducible refine Kd.C_drew ?_))); (case side4 => exact (Kd.R_reads' HO_4.out).2.1); rintro e w' ⟨rfl, ⟨nd, rfl⟩⟩))
                  go_meet
                  case rel => exact ⟨_, ((t184 != t177)), (by first | rfl | (simp; done) | (simp [*]; done)), H', ⟨by have := HJ7.out; first | omega | exact Nat.le_refl _⟩, ⟨by (with_reducible repeat (first | apply Kd.R_alloc | apply Kd.R_drewN | apply Kd.R_drew)); exact HO_4.out⟩, ⟨by (with_reducible repeat (first | apply Kd.R_alloc | apply Kd.R_drewN | apply Kd.R_drew)); exact HO_7.out⟩, ⟨by repeat (first | (with_reducible first | exact HB.out | apply below_alloc | apply pw_below_drewN | apply below_drew1) | exact HB.out)⟩⟩
                · replace c33 := Bool.eq_false_iff.mpr c33
                  subst c33
                  have H1 : (laws_FnExactFirstStack.j1 kj7 l0 t176 t177 t183 true) = some r := by rw [if_neg (show ¬ (false = true) by decide)] at H; exact H
                  clear H
                  have H := H1
                  clear H1
                  have H' := Aside0.mk H
                  clear H
                  obtain ⟨Ao36, co36, eo36⟩ := Kd.R_slice HO_7.out
                  subst eo36
                  obtain ⟨Ao37, co37, eo37⟩ := Kd.R_slice HO_4.out
                  subst eo37
                  go_wp2_with (first | (go_at_call 28; (with_reducible refine (laws_eqIntS.calls kj7 _ _ t183 _ _ t176 false _ ?side1 ?side2 ?side3 ?side4 A32.out).mono ?_); (case side1 => repeat (first | exact (Kd.R_reads' HO_7.out).2.2 | (with_reducible refine Kd.C_alloc ?_ _) | (with_reducible refine Kd.C_drewN ?_ _) | (with_reducible refine Kd.C_drew ?_))); (case side2 => exact (Kd.R_reads' HO_7.out).2.1); (case side3 => repeat (first | exact (Kd.R_reads' HO_4.out).2.2 | (with_reducible refine Kd.C_alloc ?_ _) | (with_reducible refine Kd.C_drewN ?_ _) | (with_reducible refine Kd.C_drew ?_))); (case side4 => exact (Kd.R_reads' HO_4.out).2.1); rintro e w' ⟨rfl, ⟨nd, rfl⟩⟩))
                  go_meet
                  case rel => exact ⟨_, (true), (by first | rfl | (simp; done) | (simp [*]; done)), H', ⟨by have := HJ7.out; first | omega | exact Nat.le_refl _⟩, ⟨by (with_reducible repeat (first | apply Kd.R_alloc | apply Kd.R_drewN | apply Kd.R_drew)); exact HO_4.out⟩, ⟨by (with_reducible repeat (first | apply Kd.R_alloc | apply Kd.R_drewN | apply Kd.R_drew)); exact HO_7.out⟩, ⟨by repeat (first | (with_reducible first | exact HB.out | apply below_alloc | apply pw_below_drewN | apply below_drew1) | exact HB.out)⟩⟩
            case rest =>
              clear HC26
              try clear c1
              try clear c2
              try clear p2
              try clear c3
              try clear c3b0
              try clear c4
              try clear c5
              try clear c11
              try clear c16
              try clear c21
              try clear c24
              try clear c28
              try clear c31
              try clear c31b0
              try clear c33
              try clear p2
              obtain ⟨kq, x61_25, rfl, HA, HJ25, HO_4, HO_7, HB⟩ := hcut
              cases kq with
              | zero => exact absurd HA.out (by simp [laws_FnExactFirstStack.j1])
              | succ kj25 =>
                have H := HA.out
                clear HA
                simp only [laws_FnExactFirstStack.j1] at H
                by_cases c38 : x61_25 = true
                · subst c38
                  have H1 : (none) = some r := by rw [if_pos rfl] at H; exact H
                  clear H
                  have H := H1
                  clear H1
                  exact absurd H (by simp)
                · replace c38 := Bool.eq_false_iff.mpr c38
                  subst c38
                  have H1 : ((laws_markIntS.f kj25 t183 1).bind fun bt195 => ((laws_heldIntS.f kj25 bt195.2 1).bind fun t197 => (if t197 < 0 then (none) else (if t197 = bt195.1 then ((laws_toSlabS.f kj25 l0).bind fun t198 => ((impl_FirstStack.f t198).bind fun bt201 => ((laws_eqIntS.f kj25 bt201.1 t176).bind fun t205 => (if t205 = true then (laws_FnExactFirstStack.j2 kj25 bt195.2 bt195.1 (bt201.2 != t177)) else (laws_FnExactFirstStack.j2 kj25 bt195.2 bt195.1 true))))) else (none))))) = some r := by rw [if_neg (show ¬ (false = true) by decide)] at H; exact H
                  clear H
                  have H := H1
                  clear H1
                  replace H := Option.bind_eq_some_iff.mp H
                  obtain ⟨⟨t195, t196⟩, A390, H⟩ := H
                  replace H : ((laws_heldIntS.f kj25 t196 1).bind fun t197 => (if t197 < 0 then (none) else (if t197 = t195 then ((laws_toSlabS.f kj25 l0).bind fun t198 => ((impl_FirstStack.f t198).bind fun bt201 => ((laws_eqIntS.f kj25 bt201.1 t176).bind fun t205 => (if t205 = true then (laws_FnExactFirstStack.j2 kj25 t196 t195 (bt201.2 != t177)) else (laws_FnExactFirstStack.j2 kj25 t196 t195 true))))) else (none)))) = some r := H
                  have A39 := Aside0.mk A390
                  clear A390
                  replace H := Option.bind_eq_some_iff.mp H
                  obtain ⟨t197, A400, H⟩ := H
                  replace H : (if t197 < 0 then (none) else (if t197 = t195 then ((laws_toSlabS.f kj25 l0).bind fun t198 => ((impl_FirstStack.f t198).bind fun bt201 => ((laws_eqIntS.f kj25 bt201.1 t176).bind fun t205 => (if t205 = true then (laws_FnExactFirstStack.j2 kj25 t196 t195 (bt201.2 != t177)) else (laws_FnExactFirstStack.j2 kj25 t196 t195 true))))) else (none))) = some r := H
                  have A40 := Aside0.mk A400
                  clear A400
                  by_cases c41 : t197 < 0
                  · rw [if_pos c41] at H
                    exact absurd H (by simp)
                  · rw [if_neg c41] at H
                    have c41b0 : decide (t197 < 0) = false := decide_eq_false c41
                    clear c41
                    by_cases c42 : t197 = t195
                    · rw [if_pos c42] at H
                      have c42b0 : (t197 == t195) = true := beq_iff_eq.mpr c42
                      have c42b1 : (t197 != t195) = false := bne_eq_false_iff_eq.mpr c42
                      clear c42
                      replace H := Option.bind_eq_some_iff.mp H
                      obtain ⟨t198, A430, H⟩ := H
                      replace H : ((impl_FirstStack.f t198).bind fun bt201 => ((laws_eqIntS.f kj25 bt201.1 t176).bind fun t205 => (if t205 = true then (laws_FnExactFirstStack.j2 kj25 t196 t195 (bt201.2 != t177)) else (laws_FnExactFirstStack.j2 kj25 t196 t195 true)))) = some r := H
                      have A43 := Aside0.mk A430
                      clear A430
                      replace H := Option.bind_eq_some_iff.mp H
                      obtain ⟨⟨t201, t202⟩, A440, H⟩ := H
                      replace H : ((laws_eqIntS.f kj25 t201 t176).bind fun t205 => (if t205 = true then (laws_FnExactFirstStack.j2 kj25 t196 t195 (t202 != t177)) else (laws_FnExactFirstStack.j2 kj25 t196 t195 true))) = some r := H
                      have A44 := Aside0.mk A440
                      clear A440
                      have HC45 := Aside0.mk H
                      clear H
                      obtain ⟨Ao46, co46, eo46⟩ := Kd.R_slice HO_7.out
                      subst eo46
                      go_upto_region 25 with (first | ((with_reducible refine gate_callee (f := 31) rfl ?_); refine goesL_ (some 64) rfl rfl Try.func31 (by kernel_rfl) rfl #[.slice Ao46 t183.length co46, .int .i64 1] rfl (by (try simp only [List.map_toArray, List.map_cons, List.map_nil]); first | done | rfl | (simp only [List.length_drop, List.length_take]; rfl)) ?_; (with_reducible refine (laws_markIntS.calls kj25 (fun k_ => some k_ = (.slice Ao46 t183.length co46 : Value).ownBlock) (.slice Ao46 t183.length co46) t183 1 t195 t196 w _ ?side1 ?side2 A39.out).mono ?_); (case side1 => repeat (first | (with_reducible first | exact HB.out | apply below_alloc | apply pw_below_drewN | apply below_drew1) | exact HB.out)); (case side2 => exact Kd.R_tight rfl HO_7.out); rintro e w47 ⟨rfl, hy0, hb, hkp⟩; refine ⟨_, rfl, ?_⟩; have n0_ := Aside0.mk (Kd.R_mono (ok' := fun k_ => some k_ ≠ (.slice Ao46 t183.length co46 : Value).ownBlock) (Kd.R_keptB (HO_4.out) hkp (fun k_ hk_ hs_ => (hk_) hs_)) (fun k_ hk_ => hk_.1)); have n1_ := Aside0.mk (Kd.R_reok rfl hy0 (fun k_ e_ => HO_7.out.1 k_ e_)); have n2_ := Aside0.mk (hb); clear HO_4; clear HO_7; clear HB; have HO_4 := n0_; have HO_7 := n1_; have HB := n2_; clear n0_ n1_ n2_; (try clear hb); (try clear hkp); (try clear hy0)) | ((with_reducible refine gate_callee (f := 32) rfl ?_); refine goesL_ (some 67) rfl rfl Try.func32 (by kernel_rfl) rfl #[.slice Ao46 t196.length co46, .int .i64 1] rfl (by (try simp only [List.map_toArray, List.map_cons, List.map_nil]); first | done | (rw [show t196.length = t183.length from (Kd.R_reads' HO_7.out).1.symm] <;> rfl) | rfl | (simp only [List.length_drop, List.length_take]; rfl)) ?_; (with_reducible refine (laws_heldIntS.calls kj25 _ _ t196 1 t197 _ ?side1 ?side2 A40.out).mono ?_); (case side1 => repeat (first | exact (Kd.R_reads' HO_7.out).2.2 | (with_reducible refine Kd.C_alloc ?_ _) | (with_reducible refine Kd.C_drewN ?_ _) | (with_reducible refine Kd.C_drew ?_))); (case side2 => rw [show t196.length = t183.length from (Kd.R_reads' HO_7.out).1.symm]; exact (Kd.R_reads' HO_7.out).2.1); rintro e w' ⟨rfl, ⟨nd, rfl⟩⟩; refine ⟨_, rfl, ?_⟩) | ((with_reducible refine gate_callee (f := 44) rfl ?_); refine goesL_ (some 75) rfl rfl Try.func44 (by kernel_rfl) rfl #[.slice A0 l0.length c0] rfl (by (try simp only [List.map_toArray, List.map_cons, List.map_nil]); first | done | rfl | (simp only [List.length_drop, List.length_take]; rfl)) ?_; (with_reducible refine (laws_toSlabS.calls kj25 _ _ l0 t198 _ ?side1 ?side2 A43.out).mono ?_); (case side1 => repeat (first | exact (Kd.C_below HR0.out (by repeat (first | (with_reducible first | exact HB.out | apply below_alloc | apply pw_below_drewN | apply below_drew1) | exact HB.out))) | (with_reducible refine Kd.C_alloc ?_ _) | (with_reducible refine Kd.C_drewN ?_ _) | (with_reducible refine Kd.C_drew ?_))); (case side2 => exact HC0.out); rintro e w48 ⟨v199, rfl, ho0, hb⟩; refine ⟨_, rfl, ?_⟩; have n0_ := Aside0.mk (Kd.R_below (by (with_reducible repeat (first | apply Kd.R_alloc | apply Kd.R_drewN | apply Kd.R_drew)); exact HO_4.out) hb); have n1_ := Aside0.mk (Kd.R_below (by (with_reducible repeat (first | apply Kd.R_alloc | apply Kd.R_drewN | apply Kd.R_drew)); exact HO_7.out) hb); have n2_ := Aside0.mk (Kd.R_lower ho0 (below_size (by repeat (first | (with_reducible first | exact HB.out | apply below_alloc | apply pw_below_drewN | apply below_drew1) | exact HB.out)))); have n3_ := Aside0.mk (below_step (by repeat (first | (with_reducible first | exact HB.out | apply below_alloc | apply pw_below_drewN | apply below_drew1) | exact HB.out)) hb); clear HO_4; clear HO_7; clear HB; have HO_4 := n0_; have HO_7 := n1_; have HO200 := n2_; have HB := n3_; clear n0_ n1_ n2_ n3_; (try clear hb); (try clear hb2); (try clear hk); (try clear hi); (try clear ho0); obtain ⟨Ao49, co49, eo49⟩ := Kd.R_slice HO200.out; subst eo49) | ((with_reducible refine gate_callee (f := 50) rfl ?_); refine goesL_ (some 76) rfl rfl Try.func50 (by kernel_rfl) rfl #[.slice Ao49 t198.length co49] rfl (by (try simp only [List.map_toArray, List.map_cons, List.map_nil]); first | done | rfl | (simp only [List.length_drop, List.length_take]; rfl)) ?_; (with_reducible refine (impl_FirstStack.calls _ _ t198 t201 t202 _ ?side1 ?side2 A44.out).mono ?_); (case side1 => repeat (first | exact (Kd.R_reads' HO200.out).2.2 | (with_reducible refine Kd.C_alloc ?_ _) | (with_reducible refine Kd.C_drewN ?_ _) | (with_reducible refine Kd.C_drew ?_))); (case side2 => exact (Kd.R_reads' HO200.out).2.1); rintro e w50 ⟨v203, rfl, ho0, hb⟩; refine ⟨_, rfl, ?_⟩; have n0_ := Aside0.mk (Kd.R_elder' (by (with_reducible repeat (first | apply Kd.R_alloc | apply Kd.R_drewN | apply Kd.R_drew)); exact HO_4.out) (Kd.R_base ho0) hb); have n1_ := Aside0.mk (Kd.R_elder' (by (with_reducible repeat (first | apply Kd.R_alloc | apply Kd.R_drewN | apply Kd.R_drew)); exact HO_7.out) (Kd.R_base ho0) hb); have n2_ := Aside0.mk (Kd.R_below (by (with_reducible repeat (first | apply Kd.R_alloc | apply Kd.R_drewN | apply Kd.R_drew)); exact HO200.out) hb); have n3_ := Aside0.mk (Kd.R_lower (Kd.R_new' (Kd.R_new' ho0 (Kd.R_lt (by (with_reducible repeat (first | apply Kd.R_alloc | apply Kd.R_drewN | apply Kd.R_drew)); exact HO_4.out))) (Kd.R_lt (by (with_reducible repeat (first | apply Kd.R_alloc | apply Kd.R_drewN | apply Kd.R_drew)); exact HO_7.out))) (below_size (by repeat (first | (with_reducible first | exact HB.out | apply below_alloc | apply pw_below_drewN | apply below_drew1) | exact HB.out)))); have n4_ := Aside0.mk (below_step (by repeat (first | (with_reducible first | exact HB.out | apply below_alloc | apply pw_below_drewN | apply below_drew1) | exact HB.out)) hb); clear HO_4; clear HO_7; clear HO200; clear HB; have HO_4 := n0_; have HO_7 := n1_; have HO200 := n2_; have HO204 := n3_; have HB := n4_; clear n0_ n1_ n2_ n3_ n4_; (try clear hb); (try clear hb2); (try clear hk); (try clear hi); (try clear ho0)))
                      (try simp only [Act.put, List.setIfInBounds_toArray, List.set_cons_zero, List.set_cons_succ])
                      go_cut [87] (fun v87 wc => ∃ (kq : Nat) (x87_44 : Bool), v87 = .bool x87_44 ∧ Aside0 (laws_FnExactFirstStack.j2 kq t196 t195 x87_44 = some r) ∧ Aside0 (kq ≤ kj25) ∧ Aside0 (Kd.R (Kd.int .i64) 3 wc w.heap.size (fun _ => True) (.slice Ao46 t183.length co46) t196) ∧ Aside0 (Below w.heap.size w wc))
                      case first =>
                        have H := HC45.out
                        clear HC45
                        replace H := Option.bind_eq_some_iff.mp H
                        obtain ⟨t205, A510, H⟩ := H
                        replace H : (if t205 = true then (laws_FnExactFirstStack.j2 kj25 t196 t195 (t202 != t177)) else (laws_FnExactFirstStack.j2 kj25 t196 t195 true)) = some r := H
                        have A51 := Aside0.mk A510
                        clear A510
                        by_cases c52 : t205 = true
                        · subst c52
                          have H1 : (laws_FnExactFirstStack.j2 kj25 t196 t195 (t202 != t177)) = some r := by rw [if_pos rfl] at H; exact H
                          clear H
                          have H := H1
                          clear H1
                          have H' := Aside0.mk H
                          clear H
                          obtain ⟨Ao53, co53, eo53⟩ := Kd.R_slice HO204.out
                          subst eo53
                          obtain ⟨Ao54, co54, eo54⟩ := Kd.R_slice HO_4.out
                          subst eo54
                          go_wp2_with (first | ((with_reducible refine gate_callee (f := 28) rfl ?_); refine goesL_ (some 81) rfl rfl Try.func28 (by kernel_rfl) rfl #[.slice Ao53 t201.length co53, .slice Ao54 t176.length co54] rfl (by (try simp only [List.map_toArray, List.map_cons, List.map_nil]); first | done | rfl | (simp only [List.length_drop, List.length_take]; rfl)) ?_; (with_reducible refine (laws_eqIntS.calls kj25 _ _ t201 _ _ t176 true _ ?side1 ?side2 ?side3 ?side4 A51.out).mono ?_); (case side1 => repeat (first | exact (Kd.R_reads' HO204.out).2.2 | (with_reducible refine Kd.C_alloc ?_ _) | (with_reducible refine Kd.C_drewN ?_ _) | (with_reducible refine Kd.C_drew ?_))); (case side2 => exact (Kd.R_reads' HO204.out).2.1); (case side3 => repeat (first | exact (Kd.R_reads' HO_4.out).2.2 | (with_reducible refine Kd.C_alloc ?_ _) | (with_reducible refine Kd.C_drewN ?_ _) | (with_reducible refine Kd.C_drew ?_))); (case side4 => exact (Kd.R_reads' HO_4.out).2.1); rintro e w' ⟨rfl, ⟨nd, rfl⟩⟩; refine ⟨_, rfl, ?_⟩))
                          go_meet
                          case rel => exact ⟨_, ((t202 != t177)), (by first | rfl | (simp; done) | (simp [*]; done)), H', ⟨by have := HJ7.out; have := HJ25.out; first | omega | exact Nat.le_refl _⟩, ⟨by (with_reducible repeat (first | apply Kd.R_alloc | apply Kd.R_drewN | apply Kd.R_drew)); exact Kd.R_mono HO_7.out (fun _ hk => trivial)⟩, ⟨by repeat (first | (with_reducible first | exact HB.out | apply below_alloc | apply pw_below_drewN | apply below_drew1) | exact HB.out)⟩⟩
                        · replace c52 := Bool.eq_false_iff.mpr c52
                          subst c52
                          have H1 : (laws_FnExactFirstStack.j2 kj25 t196 t195 true) = some r := by rw [if_neg (show ¬ (false = true) by decide)] at H; exact H
                          clear H
                          have H := H1
                          clear H1
                          have H' := Aside0.mk H
                          clear H
                          obtain ⟨Ao55, co55, eo55⟩ := Kd.R_slice HO204.out
                          subst eo55
                          obtain ⟨Ao56, co56, eo56⟩ := Kd.R_slice HO_4.out
                          subst eo56
                          go_wp2_with (first | ((with_reducible refine gate_callee (f := 28) rfl ?_); refine goesL_ (some 81) rfl rfl Try.func28 (by kernel_rfl) rfl #[.slice Ao55 t201.length co55, .slice Ao56 t176.length co56] rfl (by (try simp only [List.map_toArray, List.map_cons, List.map_nil]); first | done | rfl | (simp only [List.length_drop, List.length_take]; rfl)) ?_; (with_reducible refine (laws_eqIntS.calls kj25 _ _ t201 _ _ t176 false _ ?side1 ?side2 ?side3 ?side4 A51.out).mono ?_); (case side1 => repeat (first | exact (Kd.R_reads' HO204.out).2.2 | (with_reducible refine Kd.C_alloc ?_ _) | (with_reducible refine Kd.C_drewN ?_ _) | (with_reducible refine Kd.C_drew ?_))); (case side2 => exact (Kd.R_reads' HO204.out).2.1); (case side3 => repeat (first | exact (Kd.R_reads' HO_4.out).2.2 | (with_reducible refine Kd.C_alloc ?_ _) | (with_reducible refine Kd.C_drewN ?_ _) | (with_reducible refine Kd.C_drew ?_))); (case side4 => exact (Kd.R_reads' HO_4.out).2.1); rintro e w' ⟨rfl, ⟨nd, rfl⟩⟩; refine ⟨_, rfl, ?_⟩))
                          go_meet
                          case rel => exact ⟨_, (true), (by first | rfl | (simp; done) | (simp [*]; done)), H', ⟨by have := HJ7.out; have := HJ25.out; first | omega | exact Nat.le_refl _⟩, ⟨by (with_reducible repeat (first | apply Kd.R_alloc | apply Kd.R_drewN | apply Kd.R_drew)); exact Kd.R_mono HO_7.out (fun _ hk => trivial)⟩, ⟨by repeat (first | (with_reducible first | exact HB.out | apply below_alloc | apply pw_below_drewN | apply below_drew1) | exact HB.out)⟩⟩
                      case rest =>
                        clear HC45
                        try clear c1
                        try clear c2
                        try clear p2
                        try clear c3
                        try clear c3b0
                        try clear c4
                        try clear c5
                        try clear c11
                        try clear c16
                        try clear c21
                        try clear c24
                        try clear c28
                        try clear c31
                        try clear c31b0
                        try clear c32
                        try clear c33
                        try clear c38
                        try clear c41
                        try clear c41b0
                        try clear c42
                        try clear c42b0
                        try clear c42b1
                        try clear c44
                        try clear c46
                        try clear c49
                        try clear c50
                        try clear c51
                        try clear c52
                        try clear p2
                        obtain ⟨kq, x87_44, rfl, HA, HJ44, HO_7, HB⟩ := hcut
                        have hl7_44 := (Kd.R_reads' HO_7.out).1
                        rw [hl7_44] at HO_7
                        (try simp only [hl7_44])
                        cases kq with
                        | zero => exact absurd HA.out (by simp [laws_FnExactFirstStack.j2])
                        | succ kj44 =>
                          have H := HA.out
                          clear HA
                          simp only [laws_FnExactFirstStack.j2] at H
                          by_cases c57 : x87_44 = true
                          · subst c57
                            have H1 : (none) = some r := by rw [if_pos rfl] at H; exact H
                            clear H
                            have H := H1
                            clear H1
                            exact absurd H (by simp)
                          · replace c57 := Bool.eq_false_iff.mpr c57
                            subst c57
                            have H1 : ((laws_heldIntS.f kj44 t196 1).bind fun t206 => (if t206 < 0 then (none) else (if t206 = t195 then (some true) else (none)))) = some r := by rw [if_neg (show ¬ (false = true) by decide)] at H; exact H
                            clear H
                            have H := H1
                            clear H1
                            replace H := Option.bind_eq_some_iff.mp H
                            obtain ⟨t206, A580, H⟩ := H
                            replace H : (if t206 < 0 then (none) else (if t206 = t195 then (some true) else (none))) = some r := H
                            have A58 := Aside0.mk A580
                            clear A580
                            by_cases c59 : t206 < 0
                            · rw [if_pos c59] at H
                              exact absurd H (by simp)
                            · rw [if_neg c59] at H
                              have c59b0 : decide (t206 < 0) = false := decide_eq_false c59
                              clear c59
                              by_cases c60 : t206 = t195
                              · rw [if_pos c60] at H
                                have c60b0 : (t206 == t195) = true := beq_iff_eq.mpr c60
                                have c60b1 : (t206 != t195) = false := bne_eq_false_iff_eq.mpr c60
                                clear c60
                                obtain rfl := Option.some.inj H
                                go_wp2_with (first | ((with_reducible refine gate_callee (f := 32) rfl ?_); refine goesL_ (some 90) rfl rfl Try.func32 (by kernel_rfl) rfl #[.slice Ao46 t196.length co46, .int .i64 1] rfl (by (try simp only [List.map_toArray, List.map_cons, List.map_nil]); first | done | rfl | (simp only [List.length_drop, List.length_take]; rfl)) ?_; (with_reducible refine (laws_heldIntS.calls kj44 _ _ t196 1 t206 _ ?side1 ?side2 A58.out).mono ?_); (case side1 => repeat (first | exact (Kd.R_reads' HO_7.out).2.2 | (with_reducible refine Kd.C_alloc ?_ _) | (with_reducible refine Kd.C_drewN ?_ _) | (with_reducible refine Kd.C_drew ?_))); (case side2 => exact (Kd.R_reads' HO_7.out).2.1); rintro e w' ⟨rfl, ⟨nd, rfl⟩⟩; refine ⟨_, rfl, ?_⟩))
                                go_ret
                                exact ⟨by first | rfl | (simp [errW_none, errW_some] <;> rfl) | (simp [*, errW_none, errW_some] <;> rfl), by repeat (first | (with_reducible first | exact HB.out | apply below_alloc | apply pw_below_drewN | apply below_drew1) | exact HB.out)⟩
                              · rw [if_neg c60] at H
                                exact absurd H (by simp)
                    · rw [if_neg c42] at H
                      exact absurd H (by simp)
          · replace c24 := Bool.eq_false_iff.mpr c24
            subst c24
            have H1 : (none) = some r := by rw [if_neg (show ¬ (false = true) by decide)] at H; exact H
            clear H
            have H := H1
            clear H1
            exact absurd H (by simp)

end Go.Proofs.Ythlebenfnlllhaa.PFnExactFirstStack
