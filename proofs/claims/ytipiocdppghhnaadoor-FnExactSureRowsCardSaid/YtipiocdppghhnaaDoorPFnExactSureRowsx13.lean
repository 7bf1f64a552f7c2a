-- Made by a program of this session (wip/xprint.py) out of the translation.
import Derived.Test.YtipiocdppghhnaaDoorPFnExactSureRowsx0
import Derived.Test.YtipiocdppghhnaaDoorPFnExactSureRowsx8
import Derived.Test.YtipiocdppghhnaaDoorPFnExactSureRowsx12
namespace Go.Proofs.YtipiocdppghhnaaDoor.PFnExactSureRows
open Go.RowKit Go.Proofs.YtipiocdppghhnaaDoorW.PrintWords Go.Proofs.YtipiocdppghhnaaDoorW.PrintLast Go.Proofs.YtipiocdppghhnaaDoorW.PrintMore
attribute [local go_sem] max2_int min2_int max_two min_two max_three min_three max_four min_four   -- for this text's walks alone
set_option linter.unusedVariables false
set_option linter.unusedSimpArgs false

/-! ### impl_SureRows: function 50 -/
def impl_SureRows.at_ (r : List Int) (k : Nat) : Int := if k < r.length then r.getD k 0 else 0
def impl_SureRows.bad (l : List (List Int)) (k : Nat) (r : List Int) : Bool := !(impl_SureRows.at_ r k == impl_SureRows.at_ (l.getD 0 []) k)
def impl_SureRows.sure (l : List (List Int)) (k : Nat) : Int := if l.any (impl_SureRows.bad l k) = true then -1 else impl_SureRows.at_ (l.getD 0 []) k
theorem impl_SureRows.rowF (r : List Int) (k : Nat) : impl_row.f r (k : Int) = some (impl_SureRows.at_ r k) := by
 unfold impl_row.f impl_SureRows.at_
 by_cases c : k < r.length
 ·rw [if_neg (by omega), if_pos (by omega), if_pos (by omega), if_pos c]; rfl
 ·rw [if_pos (by omega), if_neg c]
set_option maxHeartbeats 4000000 in
set_option maxRecDepth 100000 in
theorem impl_SureRows.lam (rows : List Int) (A0 : Option Addr) (c0 k g7 g8 : Nat) (own : Int) (W : World) (hC : Kd.C (Kd.int .i64) W A0 rows.length rows) (hc : rows.length ≤ c0)
  (h7 : W.heap[g7]? = some (.cells #[.int .i64 (k : Int)] 3 (0, 0))) (h8 : W.heap[g8]? = some (.cells #[.int .i64 own] 3 (0, 0))) :
  Calls Tryd.prog 95 #[.slice A0 rows.length c0, .pointer (some ⟨g7, 0, none⟩), .pointer (some ⟨g8, 0, none⟩)] W fun e w' => e = .returned (.bool (!(impl_SureRows.at_ rows k == own))) ∧ Below W.heap.size W w' := by
 have HT := Aside0.mk (fun w (hb : Below W.heap.size W w) => impl_row.calls A0 c0 rows (k : Int) _ w (Kd.C_below hC hb) hc (impl_SureRows.rowF rows k))
 have H7 := Aside0.mk h7
 have H8 := Aside0.mk h8
 clear hC hc h7 h8
 generalize impl_SureRows.at_ rows k = q at HT ⊢
 go_enter Tryd.func95, Tryd.ntmps95
 go_wp2
 have BZ : Below W.heap.size W W.drew := below_drew (Below.refl _ _)
 refine start_ (n := 6) (S := fun w' => Below W.heap.size W w') (ds := []) #[false, false, false, false, false, false] (by kernel_rfl) rfl rfl BZ (fun hHeld => ?_)
 generalize W.drew = we at BZ hHeld ⊢
 refine pure_ (i := 0) (N := some 5) (v := ?_) (a' := ?_) #[true, false, false, false, false, false] rfl rfl (by kernel_rfl) (fun _ _ _ h => h) (Or.inl ⟨by rfl, ?_⟩) ?_ ?_
 rotate_left
 ·intro w'
  go_simp
  with_reducible rfl
 rotate_left
 ·simp only [Act.put, Lam.pa, Lam.pb, Lam.pc, i64_w, i32_w]
  rfl
 refine take_ (i := 1) (N := some 6) (v := ?_) (a' := ?_) #[true, true, false, false, false, false] rfl rfl (by kernel_rfl) (fun _ _ _ h => h) (Or.inl ⟨by rfl, ?_⟩) hHeld ?_ ?_
 rotate_left
 ·rintro w' s0
  have s1 := (blk_cell (blk_below H7.out s0) 0).trans rfl
  go_simp
  with_reducible rfl
 rotate_left
 ·simp only [Act.put, Lam.pa, Lam.pb, Lam.pc, i64_w, i32_w]
  rfl
 refine take_ (i := 3) (N := some 8) (v := ?_) (a' := ?_) #[true, true, false, true, false, false] rfl rfl (by kernel_rfl) (fun _ _ _ h => h) (Or.inl ⟨by rfl, ?_⟩) hHeld ?_ ?_
 rotate_left
 ·rintro w' s0
  have s1 := (blk_cell (blk_below H8.out s0) 0).trans rfl
  go_simp
  with_reducible rfl
 rotate_left
 ·simp only [Act.put, Lam.pa, Lam.pb, Lam.pc, i64_w, i32_w]
  rfl
 refine one_ (i := 2) (N := some 7) #[true, true, true, true, false, false] rfl rfl (by kernel_rfl) (by decide) (fun K hK => ?_)
 refine goes_ Tryd.func93 (by kernel_rfl) rfl #[.slice A0 rows.length c0, .int .i64 (k : Int)] (by rfl) rfl rfl (by (try simp only [List.map_toArray, List.map_cons, List.map_nil]); first | done | rfl | (simp [Act.eval]; done)) ?_
 refine (HT.out we BZ).mono ?_
 rintro e w2 ⟨rfl, hd⟩
 refine ⟨_, rfl, ?_⟩
 refine hK.out _ _ (below_step BZ hd.below) (fun hHeld => ?_)
 clear hK K
 refine norm_ (a' := ?_) ?_ ?_
 rotate_left
 ·show Act.put _ (some 7) _ = _
  simp only [Act.put, Lam.pa, Lam.pb, Lam.pc, i64_w, i32_w]
  rfl
 refine pure_ (i := 4) (N := some 9) (v := ?_) (a' := ?_) #[true, true, true, true, true, false] rfl rfl (by kernel_rfl) (fun _ _ _ h => h) (Or.inl ⟨by rfl, ?_⟩) ?_ ?_
 rotate_left
 ·intro w'
  go_simp
  with_reducible rfl
 rotate_left
 ·simp only [Act.put, Lam.pa, Lam.pb, Lam.pc, i64_w, i32_w]
  rfl
 refine pure_ (i := 5) (N := some 4) (v := ?_) (a' := ?_) #[true, true, true, true, true, true] rfl rfl (by kernel_rfl) (fun _ _ _ h => h) (Or.inl ⟨by rfl, ?_⟩) ?_ ?_
 rotate_left
 ·intro w'
  go_simp
  with_reducible rfl
 rotate_left
 ·simp only [Act.put, Lam.pa, Lam.pb, Lam.pc, i64_w, i32_w]
  rfl
 refine done_ (by kernel_rfl) ?_
 have BF := Aside0.mk hHeld
 clear hHeld BZ hd
 have e9 : (q != own) = !(q == own) := rfl
 go_wp2
 go_ret
 exact ⟨rfl, BF.out⟩
theorem impl_SureRows.anyW (l : List (List Int)) (A : Option Addr) (c k g7 g8 : Nat) (own : Int) (w5 W : World) (hl : (l.length : Int) ≤ 9223372036854775807) (hC : Kd.C (Kd.slice 3 (Kd.int .i64)) W A l.length l)
  (h7 : W.heap[g7]? = some (.cells #[.int .i64 (k : Int)] 3 (0, 0))) (h8 : W.heap[g8]? = some (.cells #[.int .i64 own] 3 (0, 0)))
  (eg : ∀ args w, (callFunc 95 args).run Tryd.prog w = .ok (.enter 95 args) w) :
  Calls Tryd.prog 94 #[.slice A l.length c, .func (.func 95) #[] #[.pointer (some ⟨g7, 0, none⟩), .pointer (some ⟨g8, 0, none⟩)]] W fun e w' => e = .returned (.bool (l.any fun r => !(impl_SureRows.at_ r k == own))) ∧ Below W.heap.size W w' :=
 slices_ContainsFunc_int_int.callsR A c l 95 #[.pointer (some ⟨g7, 0, none⟩), .pointer (some ⟨g8, 0, none⟩)] (fun r => !(impl_SureRows.at_ r k == own)) (fun w => Below W.heap.size W w) W eg hl (fun w h => Kd.C_below hC h) (Below.refl _ _)
  (fun w x A0 c0 _ hx hc h => (impl_SureRows.lam x A0 c0 k g7 g8 own w hx hc (blk_below h7 h) (blk_below h8 h)).mono (fun e w' hh => ⟨hh.1, below_step h hh.2⟩))
def impl_SureRows.f (l0_0 : List (S42)) : Option (List Int × Bool) := (impl_Solutions.f l0_0).bind fun t => if (t.1.length : Int) = 0 then some ([], false) else some ((List.range 4).map (impl_SureRows.sure t.1), true)
set_option maxHeartbeats 16000000 in
set_option maxRecDepth 100000 in
theorem impl_SureRows.calls (A0_0 : Option Addr) (c0_0 : Nat) (l0_0 : List (S42)) (r1 : List Int) (r2 : Bool) (w : World) (hr0_0 : Kd.C k42 w A0_0 l0_0.length l0_0) (hc0_0 : l0_0.length ≤ c0_0) (h : impl_SureRows.f l0_0 = some (r1, r2)) :
  Calls Tryd.prog 50 #[.agg #[.slice A0_0 l0_0.length c0_0]] w fun e w' => ∃ v0_ : Value, e = .returned (.tuple #[v0_, .bool r2]) ∧ Kd.R (Kd.int .i64) 3 w' w.heap.size (fun _ => True) v0_ r1 ∧ Below w.heap.size w w' := by
 unfold impl_SureRows.f at h
 obtain ⟨⟨L, b⟩, hsol, h⟩ := Option.bind_eq_some_iff.1 h
 dsimp only at h
 have HSOL := Aside0.mk (fun W (hW : Below w.heap.size w W) => impl_Solutions.calls A0_0 c0_0 l0_0 L b W (Kd.C_below hr0_0 hW) hc0_0 hsol)
 clear hr0_0 hc0_0 hsol
 by_cases hz : (L.length : Int) = 0
 ·rw [if_pos hz] at h
  injection h with h
  injection h with h1 h2
  subst h1; subst h2
  have hz' : L = [] := List.eq_nil_of_length_eq_zero (by omega)
  subst hz'
  clear hz
  go_enter Tryd.func50, Tryd.ntmps50
  go_wp2_with (first
   | ((with_reducible refine gate_dst (N := 1) rfl ?_); refine box_event ?hg (N := 1) ?hd (cs := #[.slice A0_0 l0_0.length c0_0]) (t := 55) ?hr ?_; (case hd => rfl); (case hg => rfl); (case hr => first | (go_simp; done) | (go_simp; rfl)); intro g1 hg1 w1 hbox1 hb1; have G1 := Aside0.mk hg1; have X1 := Aside0.mk hbox1; have B1 := Aside0.mk hb1; clear hg1 hbox1 hb1; have hcz1_0 : w1.cell? ⟨g1, 0, none⟩ = some (.slice A0_0 l0_0.length c0_0) := (blk_cell X1.out 0).trans rfl; have hfz1_0 := blk_frozen X1.out 0)
   | (go_at_call 45; go_loud (refine (HSOL.out _ B1.out).mono ?_; rintro e w5 ⟨v5, rfl, ho, hb⟩; obtain ⟨A5, c5, e5⟩ := Kd.S_slice ho; subst e5; have B5 := Aside0.mk (below_step B1.out hb); clear ho hb)))
  go_ret2
  exact ⟨_, rfl, Kd.R_nil _ _ _ _ _, B5.out⟩
 ·rw [if_neg hz] at h
  injection h with h
  injection h with h1 h2
  subst h1; subst h2
  have hpos : 0 < L.length := by omega
  have HPOS := Aside0.mk hpos
  have hposz : (0 : Int) < (L.length : Int) := by omega
  have eg := enters_of Tryd.func95 (by kernel_rfl) rfl
  have EG := Aside0.mk eg
  clear eg
  go_enter Tryd.func50, Tryd.ntmps50
  go_wp2_with (first
   | ((with_reducible refine gate_dst (N := 1) rfl ?_); refine box_event ?hg (N := 1) ?hd (cs := #[.slice A0_0 l0_0.length c0_0]) (t := 55) ?hr ?_; (case hd => rfl); (case hg => rfl); (case hr => first | (go_simp; done) | (go_simp; rfl)); intro g1 hg1 w1 hbox1 hb1; have G1 := Aside0.mk hg1; have X1 := Aside0.mk hbox1; have B1 := Aside0.mk hb1; clear hg1 hbox1 hb1; have hcz1_0 : w1.cell? ⟨g1, 0, none⟩ = some (.slice A0_0 l0_0.length c0_0) := (blk_cell X1.out 0).trans rfl; have hfz1_0 := blk_frozen X1.out 0)
   | (go_at_call 45; go_loud (refine (HSOL.out _ B1.out).mono ?_; rintro e w5 ⟨v5, rfl, ho, hb⟩; obtain ⟨g5, c5, e5, hb5, hl5, _⟩ := Kd.S_form ho HPOS.out; subst e5; have HS := Aside0.mk ho; have B5 := Aside0.mk (below_step B1.out hb); clear ho hb hb5 hl5 hcz1_0 hfz1_0 X1))
   | ((with_reducible refine gate_dst (N := 17) rfl ?_); refine Kd.R_lit (Kd.int .i64) _ 3 ?hg (N := 17) ?hd (xs := ([] : List Int)) (inner := []) (ok := fun _ => True) (okp := fun _ => True) ?hr ?hp (fun _ hk => hk) trivial (Below.refl _ _) (Nat.le_refl _) (by simp) ?_; (case hd => rfl); (case hg => rfl); (case hr => first | (go_simp; done) | (go_simp; rfl)); (case hp => exact (Reps.none _ _)); intro v6 w6 ho6 hb6 hg_ hnew_; clear hg_ hnew_; have HO := Aside0.mk ho6; have B6 := Aside0.mk hb6; clear ho6 hb6))
  have hL64 : (L.length : Int) ≤ 9223372036854775807 := by have := (Kd.S_reads' HS.out).2.2.2.1; omega
  go_loopg [6, 18] 4 (fun gg s6 s18 wr => ∃ (kk : Nat) (vo : Value), kk ≤ 4 ∧ 4 - kk ≤ gg ∧ s18 = .int .i64 kk ∧ vo = s6 ∧ Aside0 (Below w5.heap.size w5 wr) ∧ Aside0 (Kd.R (Kd.int .i64) 3 wr w5.heap.size (fun _ => True) vo ((List.range kk).map (impl_SureRows.sure L))))
  case atStart => exact ⟨0, _, by omega, by omega, rfl, rfl, B6, HO⟩
  case round =>
   clear HO B6
   obtain ⟨kk, vo, hkk, hgg, rfl, rfl, HB, HO⟩ := hrel
   by_cases hlt : kk < 4
   ·have hltz : (kk : Int) < 4 := by omega
    obtain ⟨Ao, co, eo⟩ := Kd.R_slice HO.out
    have eo' : vo = .slice Ao kk co := by rw [eo, List.length_map, List.length_range]
    clear eo
    subst eo'
    obtain ⟨-, -, -, cur5, hg5, hn5, -, hM5⟩ := Del.row_ofS rfl HS.out ([] : List Int)
    obtain ⟨vr, hvr, hRr⟩ := hM5 0 HPOS.out
    injection hvr with hvr
    obtain ⟨Ar, cr, er⟩ := Kd.R_slice hRr
    have hx5 : cur5[0]? = some (.slice Ar (L.getD 0 []).length cr) := by rw [Del.arr_at (by omega), hvr, er]
    have X5 := Aside0.mk (blk_below hg5 HB.out)
    have HX5 := Aside0.mk hx5
    rw [er] at hRr
    have HROW := Aside0.mk (fun W (hW : Below w5.heap.size w5 W) => impl_row.calls Ar cr (L.getD 0 []) (kk : Int) _ W (Kd.C_below (Kd.R_reads' hRr).2.2 hW) (Kd.R_reads' hRr).2.1 (impl_SureRows.rowF (L.getD 0 []) kk))
    have HSU := Aside0.mk (rfl : impl_SureRows.sure L kk = impl_SureRows.sure L kk)
    have hsure : impl_SureRows.sure L kk = if (L.any fun r => !(impl_SureRows.at_ r kk == impl_SureRows.at_ (L.getD 0 []) kk)) = true then -1 else impl_SureRows.at_ (L.getD 0 []) kk := rfl
    have HSR := Aside0.mk hsure
    clear hvr er hx5 hRr hM5 hn5 hg5 hsure HSU
    generalize (L.getD 0 []).length = nr at HX5 HROW
    generalize impl_SureRows.at_ (L.getD 0 []) kk = own at HROW HSR
    go_wp2_with (first
     | ((with_reducible refine gate_dst (N := 7) rfl ?_); refine box_event ?hg (N := 7) ?hd (cs := #[.int .i64 0]) (t := 3) ?hr ?_; (case hd => rfl); (case hg => rfl); (case hr => first | (go_simp; done) | (go_simp; rfl)); intro g7 hg7 w7 hbox7 hb7; have G7 := Aside0.mk hg7; have X7 := Aside0.mk hbox7; have B7 := Aside0.mk hb7; have hcz7 : w7.cell? ⟨g7, 0, none⟩ = some (.int .i64 0) := (blk_cell hbox7 0).trans rfl; have hfz7 := blk_frozen hbox7 0; clear hg7 hbox7 hb7))
    have Y7 := Aside0.mk (blk_put (cs := #[.int .i64 0]) X7.out 0 (.int .i64 (kk : Int)) rfl)
    have GG7 := Aside0.mk (show w5.heap.size ≤ g7 by rw [G7.out]; exact HB.out.size)
    have BB7 := Aside0.mk (below_set (g := g7) (j := 0) (v := .int .i64 (kk : Int)) (below_step HB.out B7.out) GG7.out)
    have BR7 := Aside0.mk (below_set (g := g7) (j := 0) (v := .int .i64 (kk : Int)) B7.out (by rw [G7.out]; exact Nat.le_refl _))
    have Z5 := Aside0.mk (blk_below X5.out BR7.out)
    clear hcz7 hfz7 X7 B7
    generalize w7.setCell ⟨g7, 0, none⟩ (.int .i64 (kk : Int)) = wb at Y7 BB7 BR7 Z5 ⊢
    have BZ : Below wb.heap.size wb wb.drew := below_drew (Below.refl _ _)
    refine start_ (n := 7) (S := fun w' => Below wb.heap.size wb w') (ds := [6]) #[false, false, false, false, false, false, false] (by kernel_rfl) rfl rfl BZ (fun hHeld => ?_)
    generalize wb.drew = we at BZ hHeld ⊢
    refine pure_ (i := 0) (N := some 21) (v := ?_) (a' := ?_) #[true, false, false, false, false, false, false] rfl rfl (by kernel_rfl) (fun _ _ _ h => h) (Or.inl ⟨by rfl, ?_⟩) ?_ ?_
    rotate_left
    ·intro w'
     go_simp
     with_reducible rfl
    rotate_left
    ·simp only [Act.put, Lam.pa, Lam.pb, Lam.pc, i64_w, i32_w]
     rfl
    refine pure_ (i := 1) (N := some 22) (v := ?_) (a' := ?_) #[true, true, false, false, false, false, false] rfl rfl (by kernel_rfl) (fun _ _ _ h => h) (Or.inl ⟨by rfl, ?_⟩) ?_ ?_
    rotate_left
    ·intro w'
     go_simp
     with_reducible rfl
    rotate_left
    ·simp only [Act.put, Lam.pa, Lam.pb, Lam.pc, i64_w, i32_w]
     rfl
    refine take_ (i := 2) (N := some 23) (v := ?_) (a' := ?_) #[true, true, true, false, false, false, false] rfl rfl (by kernel_rfl) (fun _ _ _ h => h) (Or.inl ⟨by rfl, ?_⟩) hHeld ?_ ?_
    rotate_left
    ·rintro w' s0
     have s1 := (blk_cell (blk_below Z5.out s0) 0).trans HX5.out
     go_simp
     with_reducible rfl
    rotate_left
    ·simp only [Act.put, Lam.pa, Lam.pb, Lam.pc, i64_w, i32_w]
     rfl
    refine take_ (i := 3) (N := some 24) (v := ?_) (a' := ?_) #[true, true, true, true, false, false, false] rfl rfl (by kernel_rfl) (fun _ _ _ h => h) (Or.inl ⟨by rfl, ?_⟩) hHeld ?_ ?_
    rotate_left
    ·rintro w' s0
     have s1 := (blk_cell (blk_below Y7.out s0) 0).trans rfl
     go_simp
     with_reducible rfl
    rotate_left
    ·simp only [Act.put, Lam.pa, Lam.pb, Lam.pc, i64_w, i32_w]
     rfl
    refine join_ (σ := Nat) 1 #[true, true, true, true, true, true, false] (fun s_ => [(25, .int .i64 own), (8, .pointer (some ⟨s_, 0, none⟩))]) (fun s_ w' => Below wb.heap.size wb w' ∧ w'.heap[s_]? = some (.cells #[.int .i64 0] 3 (0, 0)) ∧ wb.heap.size ≤ s_) ?_ ?_
    rotate_left
    ·intro hCont
     refine two_ (i := 4) (j := 5) (Ni := some 25) (Nj := some 8) #[true, true, true, true, true, false, false] #[true, true, true, true, false, true, false] rfl rfl rfl rfl (by kernel_rfl) (by decide) (by decide) (fun K hK => ?_) (fun K hK => ?_)
     ·refine goes_ Tryd.func93 (by kernel_rfl) rfl #[.slice Ar nr cr, .int .i64 (kk : Int)] (by rfl) rfl rfl (by (try simp only [List.map_toArray, List.map_cons, List.map_nil]); first | done | rfl | (simp [Act.eval]; done)) ?_
      refine (HROW.out we (below_step BB7.out BZ)).mono ?_
      rintro e wo ⟨rfl, hd⟩
      refine ⟨_, rfl, ?_⟩
      refine hK.out _ _ (below_step BZ hd.below) (fun hHeld2 => ?_)
      clear hK K
      refine norm_ (a' := ?_) ?_ ?_
      rotate_left
      ·show Act.put _ (some 25) _ = _
       simp only [Act.put, Lam.pa, Lam.pb, Lam.pc, i64_w, i32_w]
       rfl
      refine one_ (i := 5) (N := some 8) #[true, true, true, true, true, true, false] rfl rfl (by kernel_rfl) (by decide) (fun K hK => ?_)
      refine value_ (w1 := wo.alloc (.cells #[.int .i64 0] 3 (0, 0))) (v := .pointer (some ⟨wo.heap.size, 0, none⟩)) (by rfl) rfl ?hrun ?_
      case hrun => first | (go_simp; done) | (go_simp; rfl)
      refine hK.out _ _ (below_step hHeld2 (below_alloc (Below.refl _ _) _)) (fun hHeld3 => ?_)
      clear hK K
      refine norm_ (a' := ?_) ?_ ?_
      rotate_left
      ·show Act.put _ (some 8) _ = _
       simp only [Act.put, Lam.pa, Lam.pb, Lam.pc, i64_w, i32_w]
       rfl
      exact norm_ (by simp only [putAll, Act.put, Lam.pa, Lam.pb, Lam.pc]) (hCont wo.heap.size _ ⟨hHeld3, blk_new _ _, hHeld2.size⟩)
     ·refine value_ (w1 := we.alloc (.cells #[.int .i64 0] 3 (0, 0))) (v := .pointer (some ⟨we.heap.size, 0, none⟩)) (by rfl) rfl ?hrun ?_
      case hrun => first | (go_simp; done) | (go_simp; rfl)
      refine hK.out _ _ (below_step BZ (below_alloc (Below.refl _ _) _)) (fun hHeld2 => ?_)
      clear hK K
      refine norm_ (a' := ?_) ?_ ?_
      rotate_left
      ·show Act.put _ (some 8) _ = _
       simp only [Act.put, Lam.pa, Lam.pb, Lam.pc, i64_w, i32_w]
       rfl
      refine one_ (i := 4) (N := some 25) #[true, true, true, true, true, true, false] rfl rfl (by kernel_rfl) (by decide) (fun K hK => ?_)
      refine goes_ Tryd.func93 (by kernel_rfl) rfl #[.slice Ar nr cr, .int .i64 (kk : Int)] (by rfl) rfl rfl (by (try simp only [List.map_toArray, List.map_cons, List.map_nil]); first | done | rfl | (simp [Act.eval]; done)) ?_
      refine (HROW.out _ (below_step BB7.out hHeld2)).mono ?_
      rintro e wo ⟨rfl, hd⟩
      refine ⟨_, rfl, ?_⟩
      refine hK.out _ _ (below_step hHeld2 hd.below) (fun hHeld3 => ?_)
      clear hK K
      refine norm_ (a' := ?_) ?_ ?_
      rotate_left
      ·show Act.put _ (some 25) _ = _
       simp only [Act.put, Lam.pa, Lam.pb, Lam.pc, i64_w, i32_w]
       rfl
      exact norm_ (by simp only [putAll, Act.put, Lam.pa, Lam.pb, Lam.pc]) (hCont we.heap.size _ ⟨hHeld3, blk_below (blk_new _ _) hd.below, BZ.size⟩)
    rintro g8 wj ⟨hBJ, hX8, hG8⟩
    refine norm_ (a' := ?_) ?_ ?_
    rotate_left
    ·simp only [putAll, Act.put, Lam.pa, Lam.pb, Lam.pc]
     rfl
    have hcz8 : wj.cell? ⟨g8, 0, none⟩ = some (.int .i64 0) := (blk_cell hX8 0).trans rfl
    have hfz8 := blk_frozen hX8 0
    refine last_ (i := 6) (N := none) #[true, true, true, true, true, true, true] rfl rfl (by kernel_rfl) (by decide) (fun K hK => ?_)
    refine skip_ (w1 := wj.setCell ⟨g8, 0, none⟩ (.int .i64 own)) (by rfl) rfl ?hrun ?_
    case hrun =>
     go_simp
    refine hK.out _ _ ?_
    clear hK K
    refine done_ (by kernel_rfl) ?_
    have Y8 := Aside0.mk (blk_put (cs := #[.int .i64 0]) hX8 0 (.int .i64 own) rfl)
    have L7 := Aside0.mk (blk_lt Y7.out)
    have V7 := Aside0.mk (blk_far (blk_below Y7.out hBJ) (p := ⟨g8, 0, none⟩) (show g7 ≠ g8 from fun e => by have := L7.out; omega) (.int .i64 own))
    have BS := Aside0.mk (below_set (g := g8) (j := 0) (v := .int .i64 own) hBJ hG8)
    have GW := Aside0.mk hG8
    clear hcz8 hfz8 hX8 hBJ hG8 hHeld BZ
    generalize wj.setCell ⟨g8, 0, none⟩ (.int .i64 own) = wS at Y8 V7 BS ⊢
    have BS5 := Aside0.mk (below_step BB7.out BS.out)
    have G85 := Aside0.mk (Nat.le_trans BB7.out.size GW.out)
    have BRS := Aside0.mk (below_step BR7.out BS.out)
    have GR8 := Aside0.mk (show wr.heap.size ≤ g8 from Nat.le_trans BR7.out.size GW.out)
    have CL := Aside0.mk (Kd.S_reads' (Kd.S_below HS.out BS5.out)).2.2
    have HANY := Aside0.mk (impl_SureRows.anyW L (some ⟨g5, 0, none⟩) c5 kk g7 g8 own w5 wS hL64 CL.out V7.out Y8.out EG.out)
    have hmap : (List.range (kk + 1)).map (impl_SureRows.sure L) = (List.range kk).map (impl_SureRows.sure L) ++ [impl_SureRows.sure L kk] := by rw [List.range_succ, List.map_append]; rfl
    have HMAP := Aside0.mk hmap
    clear hmap CL
    cases hq : L.any fun r => !(impl_SureRows.at_ r kk == own) with
    | true =>
     rw [hq] at HANY HSR
     clear hq
     go_wp2_with (first
      | (go_at_call 94; go_loud (refine (HANY.out).mono ?_; rintro e w9 ⟨rfl, hb9⟩; have B9 := Aside0.mk hb9; clear hb9; have hcz8 : w9.cell? ⟨g8, 0, none⟩ = some (.int .i64 own) := (blk_cell (blk_below Y8.out B9.out) 0).trans rfl; have hfz8 := blk_frozen (blk_below Y8.out B9.out) 0; have OO := Aside0.mk (Kd.R_mono (Kd.R_far (p := ⟨g8, 0, none⟩) (Kd.R_below (Kd.R_mono (Kd.R_bound HO.out) (fun k hk => (hk.2.2.1 : k < wr.heap.size))) (below_step BRS.out B9.out)) (fun k hk => (show k ≠ g8 by have := GR8.out; omega)) (.int .i64 (-1))) (fun _ _ => trivial) : Kd.R (Kd.int .i64) 3 _ w5.heap.size (fun _ => True) (.slice Ao kk co) _); have OB := Aside0.mk (below_set (g := g8) (j := 0) (v := .int .i64 (-1)) (below_step BS5.out B9.out) G85.out)))
      | ((with_reducible refine gate_builtin (b := .append) (xs := #[.tmp 29, .tmp 31]) rfl ?_); at_builtin; go_loud (refine Kd.R_append (Kd.int .i64) (w0 := w5) w5.heap.size rfl (.tmp 29) (.tmp 31) 25 3 (.int .i64 0) 8 rfl Tryd.underlying25 info3 rfl (by decide) (by omega) (.slice Ao kk co) ((List.range kk).map (impl_SureRows.sure L)) (-1) [.int .i64 (-1)] (fun _ => True) (fun _ => False) rfl ?aX rfl (fun _ h => h.elim) (fun _ _ => trivial) OO.out OB.out OB.out.size ?aL ?_); (case aX => first | rfl | (simp [Act.eval, World.setCell]; done)); (case aL => rw [List.length_map, List.length_range]; omega); intro v10 w10 ho10 hb10 hg_ hat_; clear hg_ hat_; have O10 := Aside0.mk ho10; have B10 := Aside0.mk hb10; clear ho10 hb10))
     go_roundg (4 - (kk + 1))
     case measure => omega
     case rel =>
      refine ⟨kk + 1, v10, by omega, by omega, by go_num, rfl, B10, ⟨?_⟩⟩
      rw [HMAP.out, HSR.out]
      first | rw [if_pos rfl] | rw [if_pos trivial]
      exact O10.out
    | false =>
     rw [hq] at HANY HSR
     clear hq
     go_wp2_with (first
      | (go_at_call 94; go_loud (refine (HANY.out).mono ?_; rintro e w9 ⟨rfl, hb9⟩; have B9 := Aside0.mk hb9; clear hb9; have hcz8 : w9.cell? ⟨g8, 0, none⟩ = some (.int .i64 own) := (blk_cell (blk_below Y8.out B9.out) 0).trans rfl; have OO := Aside0.mk (Kd.R_below HO.out (below_step BRS.out B9.out)); have OB := Aside0.mk (below_step BS5.out B9.out)))
      | ((with_reducible refine gate_builtin (b := .append) (xs := #[.tmp 29, .tmp 31]) rfl ?_); at_builtin; go_loud (refine Kd.R_append (Kd.int .i64) (w0 := w5) w5.heap.size rfl (.tmp 29) (.tmp 31) 25 3 (.int .i64 0) 8 rfl Tryd.underlying25 info3 rfl (by decide) (by omega) (.slice Ao kk co) ((List.range kk).map (impl_SureRows.sure L)) own [.int .i64 own] (fun _ => True) (fun _ => False) rfl rfl rfl (fun _ h => h.elim) (fun _ _ => trivial) OO.out OB.out OB.out.size ?aL ?_); (case aL => rw [List.length_map, List.length_range]; omega); intro v10 w10 ho10 hb10 hg_ hat_; clear hg_ hat_; have O10 := Aside0.mk ho10; have B10 := Aside0.mk hb10; clear ho10 hb10))
     go_roundg (4 - (kk + 1))
     case measure => omega
     case rel =>
      refine ⟨kk + 1, v10, by omega, by omega, by go_num, rfl, B10, ⟨?_⟩⟩
      rw [HMAP.out, HSR.out, if_neg (by simp)]
      exact O10.out
   ·have hltz : ¬ (kk : Int) < 4 := by omega
    obtain rfl : kk = 4 := by omega
    have HO4 := Aside0.mk (Kd.R_lower HO.out B5.out.size)
    have B4 := Aside0.mk (below_step B5.out HB.out)
    go_wp2
    go_ret2
    exact ⟨_, rfl, HO4.out, B4.out⟩

end Go.Proofs.YtipiocdppghhnaaDoor.PFnExactSureRows
