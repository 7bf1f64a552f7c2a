-- Made by a program of this session (wip/xprint.py) out of the translation.
import Derived.Test.YtdikeggkfkkajaaDoorPFnExactMakePuzzlex0
import Derived.Test.YtdikeggkfkkajaaDoorPFnExactMakePuzzlex6
import Derived.Test.YtdikeggkfkkajaaDoorPFnExactMakePuzzlex7
import Derived.Test.YtdikeggkfkkajaaDoorPFnExactMakePuzzlex8
namespace Go.Proofs.YtdikeggkfkkajaaDoor.PFnExactMakePuzzle
open Go.RowKit Go.Proofs.YtdikeggkfkkajaaDoorW.PrintWords Go.Proofs.YtdikeggkfkkajaaDoorW.PrintLast Go.Proofs.YtdikeggkfkkajaaDoorW.PrintMore
attribute [local go_sem] max2_int min2_int max_two min_two max_three min_three max_four min_four   -- for this text's walks alone
set_option linter.unusedVariables false
set_option linter.unusedSimpArgs false

/-! ### impl_fates_good: function 87 -/
def impl_fates_good.sel (rows : List Int) : List Int → Bool := fun m => decide (0 < Chomp.H (Chomp.bit rows (m.getD 0 0) (m.getD 1 0).toNat))
set_option maxHeartbeats 8000000 in
set_option maxRecDepth 100000 in
theorem impl_fates_good.lam (rows : List Int) (A0 : Option Addr) (c0 b g2 g3 gq cq x y : Nat) (curq : Array Value) (W : World) (hr : Chomp.Ok rows) (hC : Kd.C (Kd.int .i64) W A0 rows.length rows) (hc : rows.length ≤ c0) (hF : impl_fates_of.IsF W b)
  (h2 : W.heap[g2]? = some (.cells #[.map (some b)] 73 (0, 0))) (h3 : W.heap[g3]? = some (.cells #[.slice A0 rows.length c0] 38 (0, 0))) (hq : W.heap[gq]? = some (.cells curq 3 (0, 0)))
  (hq0 : curq[0]? = some (.int .i64 (x : Int))) (hq1 : curq[1]? = some (.int .i64 (y : Int))) (hy : y < rows.length) (hx : (x : Int) < rows.getD y 0) (hp : 0 < x + y) :
  Calls Tryd.prog 117 #[.slice (some ⟨gq, 0, none⟩) 2 cq, .pointer (some ⟨g2, 0, none⟩), .pointer (some ⟨g3, 0, none⟩)] W fun e w' => e = .returned (.bool (impl_fates_good.sel rows [(x : Int), (y : Int)])) ∧ impl_fates_of.IsF w' b ∧ Kq.KQ W w' (fun q => q = b) := by
 have hbit := impl_bitten.calls A0 c0 rows (x : Int) (y : Int) (Chomp.bit rows (x : Int) y)
 have hbok : impl_bitten.f rows (x : Int) (y : Int) = some (Chomp.bit rows (x : Int) y) := by unfold impl_bitten.f; rw [if_pos (by have := hr.2.1; omega)]; rfl
 have HB := Aside0.mk (fun W' (h : Kd.C (Kd.int .i64) W' A0 rows.length rows) => hbit W' h hc hbok)
 have BOK := Chomp.bit_Ok hr (x := (x : Int)) (y := y) (by omega) (by omega)
 have HO := Aside0.mk (impl_fates_of.rec (Chomp.sq (Chomp.bit rows (x : Int) y)) (Chomp.bit rows (x : Int) y))
 have BK := Aside0.mk BOK
 have hb2 : ¬ g2 = b := hF.not_cells h2
 have hb3 : ¬ g3 = b := hF.not_cells h3
 have hbq : ¬ gq = b := hF.not_cells hq
 have HF := Aside0.mk hF
 have HC := Aside0.mk hC
 have HQ0 := Aside0.mk hq0
 have HQ1 := Aside0.mk hq1
 have H2 := Aside0.mk h2
 have H3 := Aside0.mk h3
 have HQ := Aside0.mk hq
 have HN := Aside0.mk (⟨hb2, hb3, hbq⟩ : (¬ g2 = b) ∧ (¬ g3 = b) ∧ ¬ gq = b)
 clear hbit hbok hr hC hc hF h2 h3 hq hq0 hq1 hy hx hp BOK hb2 hb3 hbq
 have hfd := impl_fates_of.field0
 go_enter Tryd.func117, Tryd.ntmps117
 go_wp2
 have hS : (W.drew.heap[g2]? = some (.cells #[.map (some b)] 73 (0, 0))) ∧ (W.drew.heap[g3]? = some (.cells #[.slice A0 rows.length c0] 38 (0, 0))) ∧ (W.drew.heap[gq]? = some (.cells curq 3 (0, 0))) := ⟨H2.out, H3.out, HQ.out⟩
 have F8 := HF.out.kept (w' := W.drew) rfl
 have C8 : Kd.C (Kd.int .i64) W.drew A0 rows.length rows := Kd.C_below HC.out (below_drew (Below.refl _ _))
 have K8 := Kq.KQ.drew (Kq.KQ.refl W (fun q => q = b))
 refine start_ (n := 13) (S := fun w' => (w'.heap[g2]? = some (.cells #[.map (some b)] 73 (0, 0))) ∧ (w'.heap[g3]? = some (.cells #[.slice A0 rows.length c0] 38 (0, 0))) ∧ (w'.heap[gq]? = some (.cells curq 3 (0, 0)))) (ds := []) #[false, false, false, false, false, false, false, false, false, false, false, false, false] (by kernel_rfl) rfl rfl hS (fun hHeld => ?_)
 generalize W.drew = we at hS F8 C8 K8 hHeld ⊢
 refine take_ (i := 0) (N := some 5) (v := ?_) (a' := ?_) #[true, false, false, false, false, false, false, false, false, false, false, false, false] rfl rfl (by kernel_rfl) (fun _ _ _ h => h) (Or.inl ⟨by rfl, ?_⟩) hHeld ?_ ?_
 rotate_left
 ·rintro w' s0
  have s1 := (blk_cell s0.1 0).trans rfl
  go_simp
  with_reducible rfl
 rotate_left
 ·simp only [Act.put, Lam.pa, Lam.pb, Lam.pc, i64_w, i32_w]
  rfl
 refine take_ (i := 1) (N := some 6) (v := ?_) (a' := ?_) #[true, true, false, false, false, false, false, false, false, false, false, false, false] rfl rfl (by kernel_rfl) (fun _ _ _ h => h) (Or.inl ⟨by rfl, ?_⟩) hHeld ?_ ?_
 rotate_left
 ·rintro w' s0
  have s1 := (blk_cell s0.2.1 0).trans rfl
  go_simp
  with_reducible rfl
 rotate_left
 ·simp only [Act.put, Lam.pa, Lam.pb, Lam.pc, i64_w, i32_w]
  rfl
 refine pure_ (i := 2) (N := some 7) (v := ?_) (a' := ?_) #[true, true, true, false, false, false, false, false, false, false, false, false, false] rfl rfl (by kernel_rfl) (fun _ _ _ h => h) (Or.inl ⟨by rfl, ?_⟩) ?_ ?_
 rotate_left
 ·intro w'
  go_simp
  with_reducible rfl
 rotate_left
 ·simp only [Act.put, Lam.pa, Lam.pb, Lam.pc, i64_w, i32_w]
  rfl
 refine pure_ (i := 3) (N := some 8) (v := ?_) (a' := ?_) #[true, true, true, true, false, false, false, false, false, false, false, false, false] rfl rfl (by kernel_rfl) (fun _ _ _ h => h) (Or.inl ⟨by rfl, ?_⟩) ?_ ?_
 rotate_left
 ·intro w'
  go_simp
  with_reducible rfl
 rotate_left
 ·simp only [Act.put, Lam.pa, Lam.pb, Lam.pc, i64_w, i32_w]
  rfl
 refine take_ (i := 4) (N := some 9) (v := ?_) (a' := ?_) #[true, true, true, true, true, false, false, false, false, false, false, false, false] rfl rfl (by kernel_rfl) (fun _ _ _ h => h) (Or.inl ⟨by rfl, ?_⟩) hHeld ?_ ?_
 rotate_left
 ·rintro w' s0
  have s1 := (blk_cell s0.2.2 0).trans HQ0.out
  go_simp
  with_reducible rfl
 rotate_left
 ·simp only [Act.put, Lam.pa, Lam.pb, Lam.pc, i64_w, i32_w]
  rfl
 refine pure_ (i := 5) (N := some 10) (v := ?_) (a' := ?_) #[true, true, true, true, true, true, false, false, false, false, false, false, false] rfl rfl (by kernel_rfl) (fun _ _ _ h => h) (Or.inl ⟨by rfl, ?_⟩) ?_ ?_
 rotate_left
 ·intro w'
  go_simp
  with_reducible rfl
 rotate_left
 ·simp only [Act.put, Lam.pa, Lam.pb, Lam.pc, i64_w, i32_w]
  rfl
 refine pure_ (i := 6) (N := some 11) (v := ?_) (a' := ?_) #[true, true, true, true, true, true, true, false, false, false, false, false, false] rfl rfl (by kernel_rfl) (fun _ _ _ h => h) (Or.inl ⟨by rfl, ?_⟩) ?_ ?_
 rotate_left
 ·intro w'
  go_simp
  with_reducible rfl
 rotate_left
 ·simp only [Act.put, Lam.pa, Lam.pb, Lam.pc, i64_w, i32_w]
  rfl
 refine take_ (i := 7) (N := some 12) (v := ?_) (a' := ?_) #[true, true, true, true, true, true, true, true, false, false, false, false, false] rfl rfl (by kernel_rfl) (fun _ _ _ h => h) (Or.inl ⟨by rfl, ?_⟩) hHeld ?_ ?_
 rotate_left
 ·rintro w' s0
  have s1 := (blk_cell s0.2.2 1).trans HQ1.out
  go_simp
  with_reducible rfl
 rotate_left
 ·simp only [Act.put, Lam.pa, Lam.pb, Lam.pc, i64_w, i32_w]
  rfl
 refine one_ (i := 8) (N := some 13) #[true, true, true, true, true, true, true, true, true, false, false, false, false] rfl rfl (by kernel_rfl) (by decide) (fun K hK => ?_)
 refine goes_ Tryd.func115 (by kernel_rfl) rfl #[.slice A0 rows.length c0, .int .i64 (x : Int), .int .i64 (y : Int)] (by rfl) rfl rfl (by (try simp only [List.map_toArray, List.map_cons, List.map_nil]); first | done | rfl | (simp [Act.eval]; done)) ?_
 refine (HB.out _ C8).mono ?_
 rintro e w1 ⟨v1, rfl, ho1, hb1⟩
 obtain ⟨A1, c1, e1⟩ := Kd.R_slice ho1
 subst e1
 refine ⟨_, rfl, ?_⟩
 refine hK.out _ _ ⟨blk_below hS.1 hb1, blk_below hS.2.1 hb1, blk_below hS.2.2 hb1⟩ (fun hHeld => ?_)
 clear hK K
 refine norm_ (a' := ?_) ?_ ?_
 rotate_left
 ·show Act.put _ (some 13) _ = _
  simp only [Act.put, Lam.pa, Lam.pb, Lam.pc, i64_w, i32_w]
  rfl
 refine one_ (i := 9) (N := some 14) #[true, true, true, true, true, true, true, true, true, true, false, false, false] rfl rfl (by kernel_rfl) (by decide) (fun K hK => ?_)
 refine goes_ Tryd.func83 (by kernel_rfl) rfl #[.map (some b), .slice A1 (Chomp.bit rows (x : Int) y).length c1] (by rfl) rfl rfl (by (try simp only [List.map_toArray, List.map_cons, List.map_nil]); first | done | rfl | (simp [Act.eval]; done)) ?_
 refine (HO.out A1 c1 b w1 BK.out (Nat.le_refl _) (Kd.R_reads' ho1).2.2 (Kd.R_reads' ho1).2.1 (F8.below hb1)).mono ?_
 rintro e w2 ⟨bi, rfl, F2, k2⟩
 refine ⟨_, rfl, ?_⟩
 refine hK.out _ _ ⟨Kq.blk_kq hHeld.1 k2 HN.out.1, Kq.blk_kq hHeld.2.1 k2 HN.out.2.1, Kq.blk_kq hHeld.2.2 k2 HN.out.2.2⟩ (fun hHeld => ?_)
 clear hK K
 refine norm_ (a' := ?_) ?_ ?_
 rotate_left
 ·show Act.put _ (some 14) _ = _
  simp only [Act.put, Lam.pa, Lam.pb, Lam.pc, i64_w, i32_w]
  rfl
 refine pure_ (i := 10) (N := some 15) (v := ?_) (a' := ?_) #[true, true, true, true, true, true, true, true, true, true, true, false, false] rfl rfl (by kernel_rfl) (fun _ _ _ h => h) (Or.inl ⟨by rfl, ?_⟩) ?_ ?_
 rotate_left
 ·intro w'
  go_simp
  with_reducible rfl
 rotate_left
 ·simp only [Act.put, Lam.pa, Lam.pb, Lam.pc, i64_w, i32_w]
  rfl
 refine pure_ (i := 11) (N := some 16) (v := ?_) (a' := ?_) #[true, true, true, true, true, true, true, true, true, true, true, true, false] rfl rfl (by kernel_rfl) (fun _ _ _ h => h) (Or.inl ⟨by rfl, ?_⟩) ?_ ?_
 rotate_left
 ·intro w'
  go_simp
  with_reducible rfl
 rotate_left
 ·simp only [Act.put, Lam.pa, Lam.pb, Lam.pc, i64_w, i32_w]
  rfl
 refine pure_ (i := 12) (N := some 4) (v := ?_) (a' := ?_) #[true, true, true, true, true, true, true, true, true, true, true, true, true] rfl rfl (by kernel_rfl) (fun _ _ _ h => h) (Or.inl ⟨by rfl, ?_⟩) ?_ ?_
 rotate_left
 ·intro w'
  go_simp
  with_reducible rfl
 rotate_left
 ·simp only [Act.put, Lam.pa, Lam.pb, Lam.pc, i64_w, i32_w]
  rfl
 refine done_ (by kernel_rfl) ?_
 have KF := Aside0.mk ((Kq.KQ.below K8 hb1).then_ k2 (fun _ h => .inl h))
 have FF := Aside0.mk F2
 clear hHeld hS F8 C8 K8 ho1 hb1 F2 k2
 go_wp2
 go_ret
 exact ⟨rfl, FF.out, KF.out⟩
theorem impl_fates_good.del (rows : List Int) (A0 : Option Addr) (c0 b g2 g3 base : Nat) (v : Value) (w : World) (hr : Chomp.Ok rows) (hC : ∀ W, Kq.KQ w W (fun q => q = b ∨ some q = v.ownBlock) → Kd.C (Kd.int .i64) W A0 rows.length rows) (hc : rows.length ≤ c0) (hF : impl_fates_of.IsF w b)
  (h2 : w.heap[g2]? = some (.cells #[.map (some b)] 73 (0, 0))) (h3 : w.heap[g3]? = some (.cells #[.slice A0 rows.length c0] 38 (0, 0))) (o2 : g2 < base) (o3 : g3 < base) (ob : b < base)
  (HS : Kd.S (Kd.slice 3 (Kd.int .i64)) 38 w base (fun k => base ≤ k) v (Chomp.moves rows)) (eg : ∀ args w, (callFunc 117 args).run Tryd.prog w = .ok (.enter 117 args) w) :
  Calls Tryd.prog 71 #[v, .func (.func 117) #[] #[.pointer (some ⟨g2, 0, none⟩), .pointer (some ⟨g3, 0, none⟩)]] w fun e w' => ∃ v' : Value, e = .returned v' ∧ Kd.S (Kd.slice 3 (Kd.int .i64)) 38 w' base (fun _ => True) v' ((Chomp.moves rows).filter fun m => !(impl_fates_good.sel rows m)) ∧ impl_fates_of.IsF w' b ∧ Kq.KQ w w' (fun q => q = b ∨ some q = v.ownBlock) := by
 have hown : ∀ k, v.ownBlock = some k → base ≤ k := Kd.S_base HS
 have hbo : some b ≠ v.ownBlock := fun e => by have := hown b e.symm; omega
 have hne : ∀ g, g < base → ¬ g = b → ¬ (g = b ∨ some g = v.ownBlock) := fun g h1 h2 h => by
  rcases h with h | h
  ·exact h2 h
  ·have := hown g h.symm; omega
 refine (slices_DeleteFunc_int_int_71.ownS2 (fun W => impl_fates_of.IsF W b ∧ Kq.KQ w W (fun q => q = b ∨ some q = v.ownBlock)) 117 base #[.pointer (some ⟨g2, 0, none⟩), .pointer (some ⟨g3, 0, none⟩)] (fun j => impl_fates_good.sel rows ((Chomp.moves rows).getD j [])) (fun k => base ≤ k) (Chomp.moves rows) v w eg HS ⟨hF, Kq.KQ.refl _ _⟩ ?_ ?_ ?_).mono ?_
 ·exact fun W W' h hg => ⟨h.1.kept (hg.block b h.1.lt hbo), h.2.then_ (Fmap.kq_of_grown hg) (fun q hq => .inl (.inr hq))⟩
 ·exact fun W h k hk hne2 hlt => h.2.k.2 k hlt (by
   rintro (e | e)
   ·omega
   ·exact hne2 e)
 ·intro j u W hj hW hM
  obtain ⟨vm, hu, hRm⟩ := hM
  have hmem := Lam.getD_mem hj ([] : List Int)
  obtain ⟨x, y, hxy, hy, hx, hp⟩ := Chomp.moves_mem hmem
  injection hu with hu
  subst hu
  rw [hxy] at hRm
  rcases Del.row_formR hRm with ⟨_, h5⟩ | ⟨gq, cq, hq⟩
  ·cases h5
  have hq' : u = .slice (some ⟨gq, 0, none⟩) 2 cq := hq
  clear hq
  subst hq'
  obtain ⟨_, hcq, hbq, curq, hgq, hnq, _, hMq⟩ := Del.row_ofR rfl hRm (0 : Int)
  have hokq := hRm.1 gq (by simp [Value.ownBlock])
  have e0 : curq[0]? = some (.int .i64 (x : Int)) := by
   have h9 : [curq[0]!] = [Value.int .i64 (x : Int)] := hMq 0 (by omega)
   injection h9 with h9; rw [Del.arr_at (by omega), h9]
  have e1 : curq[1]? = some (.int .i64 (y : Int)) := by
   have h9 : [curq[1]!] = [Value.int .i64 (y : Int)] := hMq 1 (by omega)
   injection h9 with h9; rw [Del.arr_at (by omega), h9]
  have hgqW := Kq.blk_kq hgq hW.2 (by
   rintro (e | e)
   ·omega
   ·exact hokq.2 e)
  have hsel : impl_fates_good.sel rows ((Chomp.moves rows).getD j []) = impl_fates_good.sel rows [(x : Int), (y : Int)] := by rw [hxy]
  refine (impl_fates_good.lam rows A0 c0 b g2 g3 gq cq x y curq W hr (hC W hW.2) hc hW.1 (Kq.blk_kq h2 hW.2 (hne g2 o2 (hF.not_cells h2))) (Kq.blk_kq h3 hW.2 (hne g3 o3 (hF.not_cells h3))) hgqW e0 e1 hy hx hp).mono ?_
  rintro e w' ⟨rfl, h6, h7⟩
  refine ⟨by rw [hsel], ⟨h6, hW.2.then_ h7 (fun q hq => .inl (.inl hq))⟩, fun g hg => h7.k.2 g (Nat.lt_of_lt_of_le (Kd.S_lt HS g hg) hW.2.size) (show ¬ g = b from fun e => hbo (by rw [← e, hg]))⟩
 ·rintro e w' ⟨v', rfl, h6, h7, _⟩
  refine ⟨v', rfl, ?_, h6.1, h6.2⟩
  rw [Del.places_filter ([] : List Int) (fun m => impl_fates_good.sel rows m) (Chomp.moves rows)] at h7
  exact Kd.S_mono h7 (fun _ _ => trivial)
set_option maxHeartbeats 8000000 in
set_option maxRecDepth 100000 in
theorem impl_fates_good.rec (rows : List Int) (A0 : Option Addr) (c0 b : Nat) (w : World) (hr : Chomp.Ok rows) (hC : Kd.C (Kd.int .i64) w A0 rows.length rows) (hc : rows.length ≤ c0) (hF : impl_fates_of.IsF w b) :
  Calls Tryd.prog 87 #[.map (some b), .slice A0 rows.length c0] w fun e w' => ∃ v : Value, e = .returned v ∧ Kd.S (Kd.slice 3 (Kd.int .i64)) 38 w' w.heap.size (fun _ => True) v ((Chomp.moves rows).filter fun m => !(impl_fates_good.sel rows m)) ∧ impl_fates_of.IsF w' b ∧ Kq.KQ w w' (fun q => q = b) := by
 obtain ⟨kb, hbt⟩ := impl_fates_of.bitesF hr
 have HBT := Aside0.mk (fun W (hW : Below w.heap.size w W) => impl_bites.calls kb A0 c0 rows _ W (Kd.C_below hC hW) hc hbt)
 have eg := enters_of Tryd.func117 (by kernel_rfl) rfl
 have EG := Aside0.mk eg
 have HR := Aside0.mk hr
 have HC := Aside0.mk hC
 have HCC := Aside0.mk hc
 have HF := Aside0.mk hF
 have HB := Aside0.mk (Below.refl w.heap.size w)
 clear hr hC hc hF hbt eg
 go_enter Tryd.func87, Tryd.ntmps87
 go_wp2_with (first
  | ((with_reducible refine gate_dst (N := 2) rfl ?_); refine box_event ?hg (N := 2) ?hd (cs := #[.map (some b)]) (t := 73) ?hr ?_; (case hd => rfl); (case hg => rfl); (case hr => first | (go_simp; done) | (go_simp; rfl)); intro g2 hg w2 hbox hb; have n0_ := Aside0.mk (below_step HB.out hb); clear HB; have HB := n0_; clear n0_; have B2 := Aside0.mk hbox; clear hb hbox hg)
  | ((with_reducible refine gate_dst (N := 3) rfl ?_); refine box_event ?hg (N := 3) ?hd (cs := #[.slice A0 rows.length c0]) (t := 38) ?hr ?_; (case hd => rfl); (case hg => rfl); (case hr => first | (go_simp; done) | (go_simp; rfl)); intro g3 hg w3 hbox hb; have m2_ := Aside0.mk (blk_below B2.out hb); have n0_ := Aside0.mk (below_step HB.out hb); clear HB B2; have HB := n0_; have B2 := m2_; clear n0_ m2_; have B3 := Aside0.mk hbox; have hcz3 : w3.cell? ⟨g3, 0, none⟩ = some (.slice A0 rows.length c0) := (blk_cell hbox 0).trans rfl; clear hb hbox hg)
  | (go_at_call 114; go_loud (refine (HBT.out _ HB.out).mono ?_; rintro e w7 ⟨vb, rfl, ho, hb⟩); have HS := Aside0.mk (Kd.S_mono (Kd.S_bound ho) (fun k hk => hk.2.1)); have m2_ := Aside0.mk (blk_below B2.out hb); have m3_ := Aside0.mk (blk_below B3.out hb); have OLD2 := Aside0.mk (blk_lt B2.out); have OLD3 := Aside0.mk (blk_lt B3.out); have n0_ := Aside0.mk (below_step HB.out hb); have SZ := Aside0.mk HB.out.size; have BO := Aside0.mk HB.out; have B7 := Aside0.mk hb; clear HB B2 B3 ho hb hcz3; have HB := n0_; have B2 := m2_; have B3 := m3_; clear n0_ m2_ m3_)
  | (go_at_call 71; go_loud (refine (impl_fates_good.del rows A0 c0 b g2 g3 w3.heap.size vb w7 HR.out (fun W hk => Fmap.C_kq_old (Kd.C_below HC.out BO.out) (HF.out.below BO.out) B7.out hk (fun q hq => by rcases hq with hq | hq; exact .inl hq; exact .inr (Kd.S_base HS.out q hq.symm))) HCC.out (HF.out.below HB.out) B2.out B3.out OLD2.out OLD3.out (Nat.lt_of_lt_of_le HF.out.lt SZ.out) HS.out EG.out).mono ?_; rintro e w9 ⟨v9, rfl, hs9, hf9, hk9⟩)))
 go_ret
 exact ⟨_, rfl, Kd.S_lower hs9 SZ.out, hf9, (Kq.KQ.below (Kq.KQ.refl w (fun q => q = b)) HB.out).then_ hk9 (fun q hq => by rcases hq with hq | hq; exact .inl hq; exact .inr (Nat.le_trans SZ.out (Kd.S_base HS.out q hq.symm)))⟩

/-! ### impl_fates_told: function 51 -/
set_option maxHeartbeats 4000000 in
theorem impl_fates_told.lam (a n : Int) (g : Nat) (W : World) (hg : W.heap[g]? = some (.cells #[.int .i64 a] 3 (0, 0))) : Calls Tryd.prog 86 #[.int .i64 n, .pointer (some ⟨g, 0, none⟩)] W fun e w' => e = .returned (.bool (decide (n ≤ a))) ∧ Drawn0 W w' := by
 have HD := Aside0.mk (Drawn0.refl W)
 have hcz : W.cell? ⟨g, 0, none⟩ = some (.int .i64 a) := (blk_cell hg 0).trans rfl
 clear hg
 go_enter Tryd.func86, Tryd.ntmps86
 go_wp2
 go_ret
 exact ⟨rfl, HD.out⟩
theorem impl_fates_told.del (a : Int) (rows : List Int) (A7 : Option Addr) (c7 g6 base : Nat) (w6 w7 : World) (eg : ∀ args w, (callFunc 86 args).run Tryd.prog w = .ok (.enter 86 args) w)
  (HO : Kd.R (Kd.int .i64) 3 w7 w6.heap.size (fun _ => True) (.slice A7 rows.length c7) rows) (X6 : w6.heap[g6]? = some (.cells #[.int .i64 a] 3 (0, 0))) (B7 : Below w6.heap.size w6 w7) :
  Calls Tryd.prog 84 #[.slice A7 rows.length c7, .func (.func 86) #[] #[.pointer (some ⟨g6, 0, none⟩)]] w7 fun e w' => ∃ A8 c8, e = .returned (.slice A8 (rows.filter fun n => !(decide (n ≤ a))).length c8) ∧ Below w6.heap.size w6 w' := by
 refine (slices_DeleteFunc_int_int_84.ownR2 (fun W => Below w6.heap.size w6 W ∧ w7.heap.size ≤ W.heap.size) 86 w6.heap.size #[.pointer (some ⟨g6, 0, none⟩)] (fun j => decide (rows.getD j 0 ≤ a)) (fun k => some k = (Value.slice A7 rows.length c7).ownBlock) rows (.slice A7 rows.length c7) w7 eg (Kd.R_tight rfl HO) ⟨B7, Nat.le_refl _⟩ ?_ ?_ ?_).mono ?_
 ·exact fun W W' h hg => ⟨h.1.grown hg h.1.size (Kd.R_base HO), Nat.le_trans h.2 hg.size⟩
 ·exact fun W _ k hk hne => absurd hk hne
 ·intro j u W hj hW hM
  have hu : [u] = [Value.int .i64 (rows.getD j 0)] := hM
  injection hu with hu
  rw [hu]
  refine (impl_fates_told.lam a _ g6 W (blk_below X6 hW.1)).mono ?_
  rintro e w' ⟨h1, h2⟩
  exact ⟨h1, ⟨below_step hW.1 h2.below, Nat.le_trans hW.2 h2.below.size⟩, fun g hg => h2.below.block g (Nat.lt_of_lt_of_le (Kd.R_lt HO g hg) hW.2)⟩
 ·rintro e w8 ⟨v8, rfl, ⟨hb8, _⟩, ho8, _⟩
  rw [Del.places_filter (0 : Int) (fun n => decide (n ≤ a)) rows] at ho8
  obtain ⟨A8, c8, e8⟩ := Kd.R_slice ho8
  subst e8
  exact ⟨A8, c8, rfl, hb8⟩
theorem impl_fates_told.sumF {r : List Int} (hr : Chomp.Ok r) : ∃ k, impl_sum.f k r = some r.sum := by
 have hb := Chomp.sum_le hr.2.2
 have h6 := hr.2.1
 have key : ∀ (d i k : Nat) (s : Int), i + d = r.length → d < k → s = (r.take i).sum → impl_sum.l0 k s r (r.length : Int) (i : Int) = some r.sum := by
  intro d
  induction d with
  | zero =>
   intro i k s hi hk hs
   obtain ⟨k, rfl⟩ : ∃ q, k = q + 1 := ⟨k - 1, by omega⟩
   obtain rfl : i = r.length := by omega
   simp only [impl_sum.l0]
   rw [if_neg (by omega), hs, List.take_length]
  | succ d ih =>
   intro i k s hi hk hs
   obtain ⟨k, rfl⟩ : ∃ q, k = q + 1 := ⟨k - 1, by omega⟩
   have hlt : i < r.length := by omega
   have ht : r.take (i + 1) = r.take i ++ [r[i]] := by rw [List.take_add_one, List.getElem?_eq_getElem hlt]; rfl
   have hs2 : (r.take (i + 1)).sum = s + r[i] := by rw [ht, List.sum_append, hs]; simp
   have hb2 := Chomp.sum_le (r := r.take (i + 1)) (fun x hx => hr.2.2 x (List.mem_of_mem_take hx))
   rw [List.length_take] at hb2
   have hrd : rd r (i : Int) = r[i] := PK.rd_at hlt
   simp only [impl_sum.l0]
   rw [if_pos (by omega), if_pos (by omega), if_pos (by omega), hrd, PK.w1 hlt (by omega), PK.wrap_in (by omega) (by omega)]
   exact ih (i + 1) k _ (by omega) (by omega) hs2.symm
 refine ⟨r.length + 1, ?_⟩
 unfold impl_sum.f
 have := key r.length 0 (r.length + 1) 0 (by omega) (by omega) (by simp)
 exact this
theorem impl_fates_told.rowF {r : List Int} (hr : Chomp.Ok r) {a : Int} (ha : 0 ≤ a) : impl_row.f r a = some (if a < (r.length : Int) then r.getD a.toNat 0 else 0) := by
 unfold impl_row.f
 by_cases c : a < (r.length : Int)
 ·rw [if_neg (by omega), if_pos ha, if_pos c, if_pos c]; rfl
 ·rw [if_pos (by omega), if_neg c]
set_option maxHeartbeats 8000000 in
set_option maxRecDepth 100000 in
theorem impl_fates_told.rec (kind a : Int) (rows : List Int) (A0 : Option Addr) (c0 b : Nat) (w : World) (hr : Chomp.Ok rows) (hC : Kd.C (Kd.int .i64) w A0 rows.length rows) (hc : rows.length ≤ c0) (hF : impl_fates_of.IsF w b) (ha : 0 ≤ a) :
  Calls Tryd.prog 51 #[.map (some b), .int .i64 kind, .int .i64 a, .slice A0 rows.length c0] w fun e w' => e = .returned (.int .i64 (Chomp.told kind a rows)) ∧ impl_fates_of.IsF w' b ∧ Kq.KQ w w' (fun q => q = b) := by
 have HR := Aside0.mk hr
 have HC := Aside0.mk hC
 have HCC := Aside0.mk hc
 have HF := Aside0.mk hF
 have HB := Aside0.mk (Below.refl w.heap.size w)
 have hfd := impl_fates_of.field0
 have HO := Aside0.mk (impl_fates_of.rec (Chomp.sq rows) rows A0 c0 b)
 by_cases c0_ : kind = 0
 ·subst c0_
  obtain ⟨ks, hs⟩ := impl_fates_told.sumF hr
  have HS := Aside0.mk (fun W (hW : Below w.heap.size w W) => impl_sum.calls ks A0 c0 rows _ W (Kd.C_below hC hW) hc hs)
  clear hr hC hc hF ha hs hfd HO
  have ht : Chomp.told 0 a rows = rows.sum := rfl
  rw [ht]
  go_enter Tryd.func51, Tryd.ntmps51
  go_wp2_with (first
   | ((with_reducible refine gate_dst (N := 6) rfl ?_); refine box_event ?hg (N := 6) ?hd (cs := #[.int .i64 a]) (t := 3) ?hr ?_; (case hd => rfl); (case hg => rfl); (case hr => first | (go_simp; done) | (go_simp; rfl)); intro g6 hg6 w6 hbox6 hb6; have G6 := Aside0.mk hg6; have X6 := Aside0.mk hbox6; have B6 := Aside0.mk hb6; clear hg6 hbox6 hb6; have hcz6_0 : w6.cell? ⟨g6, 0, none⟩ = some (.int .i64 a) := (blk_cell X6.out 0).trans rfl; have hfz6_0 := blk_frozen X6.out 0)
   | (go_at_call 80; go_loud (refine (HS.out _ B6.out).mono ?_; rintro e w7 ⟨rfl, hb⟩); have n0_ := Aside0.mk (below_step B6.out hb.below); clear hb))
  go_ret
  exact ⟨rfl, HF.out.below n0_.out, Kq.KQ.below (Kq.KQ.refl w (fun q => q = b)) n0_.out⟩
 by_cases c1_ : kind = 1
 ·subst c1_
  have hs := impl_fates_told.rowF hr ha
  have HS := Aside0.mk (fun W (hW : Below w.heap.size w W) => impl_row.calls A0 c0 rows a _ W (Kd.C_below hC hW) hc hs)
  clear hr hC hc hF ha hs hfd HO c0_
  have ht : Chomp.told 1 a rows = (if a < (rows.length : Int) then rows.getD a.toNat 0 else 0) := rfl
  rw [ht]
  generalize (if a < (rows.length : Int) then rows.getD a.toNat 0 else 0) = q at HS ⊢
  go_enter Tryd.func51, Tryd.ntmps51
  go_wp2_with (first
   | ((with_reducible refine gate_dst (N := 6) rfl ?_); refine box_event ?hg (N := 6) ?hd (cs := #[.int .i64 a]) (t := 3) ?hr ?_; (case hd => rfl); (case hg => rfl); (case hr => first | (go_simp; done) | (go_simp; rfl)); intro g6 hg6 w6 hbox6 hb6; have G6 := Aside0.mk hg6; have X6 := Aside0.mk hbox6; have B6 := Aside0.mk hb6; clear hg6 hbox6 hb6; have hcz6_0 : w6.cell? ⟨g6, 0, none⟩ = some (.int .i64 a) := (blk_cell X6.out 0).trans rfl; have hfz6_0 := blk_frozen X6.out 0)
   | (go_at_call 81; go_loud (refine (HS.out _ B6.out).mono ?_; rintro e w7 ⟨rfl, hb⟩); have n0_ := Aside0.mk (below_step B6.out hb.below); clear hb))
  go_ret
  exact ⟨rfl, HF.out.below n0_.out, Kq.KQ.below (Kq.KQ.refl w (fun q => q = b)) n0_.out⟩
 by_cases c2_ : kind = 2
 ·subst c2_
  have hbit : ∀ c : Bool, impl_bit.f c = some (if c = true then 1 else 0) := fun c => by cases c <;> rfl
  have HBT := Aside0.mk (fun c W => impl_bit.calls c _ W (hbit c))
  clear hr hC hc hF ha c0_ c1_ hbit
  have ht : Chomp.told 2 a rows = (if decide ((Chomp.H rows : Int) > 0) = true then 1 else 0) := by
   show (if 0 < Chomp.H rows then (1 : Int) else 0) = _
   by_cases c : 0 < Chomp.H rows
   ·rw [if_pos c, if_pos (decide_eq_true (by omega))]
   ·rw [if_neg c, if_neg (by simp; omega)]
  rw [ht]
  go_enter Tryd.func51, Tryd.ntmps51
  go_wp2_with (first
   | ((with_reducible refine gate_dst (N := 6) rfl ?_); refine box_event ?hg (N := 6) ?hd (cs := #[.int .i64 a]) (t := 3) ?hr ?_; (case hd => rfl); (case hg => rfl); (case hr => first | (go_simp; done) | (go_simp; rfl)); intro g6 hg6 w6 hbox6 hb6; have G6 := Aside0.mk hg6; have X6 := Aside0.mk hbox6; have B6 := Aside0.mk hb6; clear hg6 hbox6 hb6; have hcz6_0 : w6.cell? ⟨g6, 0, none⟩ = some (.int .i64 a) := (blk_cell X6.out 0).trans rfl; have hfz6_0 := blk_frozen X6.out 0)
   | (go_at_call 83; go_loud (refine (HO.out w6 HR.out (Nat.le_refl _) (Kd.C_below HC.out B6.out) HCC.out (HF.out.below B6.out)).mono ?_; rintro e w7 ⟨bi, rfl, hf7, hk7⟩); have F7 := Aside0.mk hf7; have K7 := Aside0.mk ((Kq.KQ.below (Kq.KQ.refl w (fun q => q = b)) B6.out).then_ hk7 (fun _ h => .inl h)); clear hf7 hk7)
   | (go_at_call 82; go_loud (refine (HBT.out _ _).mono ?_; rintro e w8 ⟨rfl, hb⟩); have n0_ := Aside0.mk hb.below; clear hb))
  all_goals
   go_ret
   exact ⟨rfl, F7.out.below n0_.out, Kq.KQ.below K7.out n0_.out⟩
 by_cases c3_ : kind = 3
 ·subst c3_
  clear hr hC hc hF ha c0_ c1_ c2_
  have ht : Chomp.told 3 a rows = (Chomp.H rows : Int) := rfl
  rw [ht]
  go_enter Tryd.func51, Tryd.ntmps51
  go_wp2_with (first
   | ((with_reducible refine gate_dst (N := 6) rfl ?_); refine box_event ?hg (N := 6) ?hd (cs := #[.int .i64 a]) (t := 3) ?hr ?_; (case hd => rfl); (case hg => rfl); (case hr => first | (go_simp; done) | (go_simp; rfl)); intro g6 hg6 w6 hbox6 hb6; have G6 := Aside0.mk hg6; have X6 := Aside0.mk hbox6; have B6 := Aside0.mk hb6; clear hg6 hbox6 hb6; have hcz6_0 : w6.cell? ⟨g6, 0, none⟩ = some (.int .i64 a) := (blk_cell X6.out 0).trans rfl; have hfz6_0 := blk_frozen X6.out 0)
   | (go_at_call 83; go_loud (refine (HO.out w6 HR.out (Nat.le_refl _) (Kd.C_below HC.out B6.out) HCC.out (HF.out.below B6.out)).mono ?_; rintro e w7 ⟨bi, rfl, hf7, hk7⟩); have F7 := Aside0.mk hf7; have K7 := Aside0.mk ((Kq.KQ.below (Kq.KQ.refl w (fun q => q = b)) B6.out).then_ hk7 (fun _ h => .inl h)); clear hf7 hk7))
  go_ret
  exact ⟨rfl, F7.out, K7.out⟩
 by_cases c4_ : kind = 4
 ·subst c4_
  have hown : slices_Clone_int_int.f rows = some rows := by unfold slices_Clone_int_int.f; rw [if_pos (by have := hr.2.1; omega)]
  have HCL := Aside0.mk (fun W (hW : Below w.heap.size w W) => slices_Clone_int_int.calls A0 c0 rows rows W (Kd.C_below hC hW) hc hown)
  have eg := enters_of Tryd.func86 (by kernel_rfl) rfl
  have EG := Aside0.mk eg
  clear hr hC hc hF ha c0_ c1_ c2_ c3_ hown hfd HO eg
  have ht : Chomp.told 4 a rows = ((rows.filter fun n => !(decide (n ≤ a))).length : Int) := rfl
  rw [ht]
  go_enter Tryd.func51, Tryd.ntmps51
  go_wp2_with (first
   | ((with_reducible refine gate_dst (N := 6) rfl ?_); refine box_event ?hg (N := 6) ?hd (cs := #[.int .i64 a]) (t := 3) ?hr ?_; (case hd => rfl); (case hg => rfl); (case hr => first | (go_simp; done) | (go_simp; rfl)); intro g6 hg6 w6 hbox6 hb6; have G6 := Aside0.mk hg6; have X6 := Aside0.mk hbox6; have B6 := Aside0.mk hb6; clear hg6 hbox6 hb6; have hcz6_0 : w6.cell? ⟨g6, 0, none⟩ = some (.int .i64 a) := (blk_cell X6.out 0).trans rfl; have hfz6_0 := blk_frozen X6.out 0)
   | (go_at_call 85; go_loud (refine (HCL.out _ B6.out).mono ?_; rintro e w7 ⟨v7, rfl, ho, hb⟩); obtain ⟨A7, c7, e7⟩ := Kd.R_slice ho; subst e7; have HO := Aside0.mk ho; have B7 := Aside0.mk (below_step B6.out hb); have X7 := Aside0.mk (blk_below X6.out hb); have L7 := Aside0.mk (blk_lt X6.out); have BB7 := Aside0.mk hb; clear ho hb hcz6_0 hfz6_0)
   | (go_at_call 84; go_loud (refine (impl_fates_told.del a rows A7 c7 g6 w6.heap.size w6 w7 EG.out HO.out X6.out BB7.out).mono ?_; rintro e w8 ⟨A8, c8, rfl, hb8⟩); have B8 := Aside0.mk hb8; clear hb8))
  go_ret
  exact ⟨rfl, HF.out.below (below_step B6.out B8.out), Kq.KQ.below (Kq.KQ.refl w (fun q => q = b)) (below_step B6.out B8.out)⟩
 have b0 : (kind == 0) = false := beq_eq_false_iff_ne.mpr c0_
 have b1 : (kind == 1) = false := beq_eq_false_iff_ne.mpr c1_
 have b2 : (kind == 2) = false := beq_eq_false_iff_ne.mpr c2_
 have b3 : (kind == 3) = false := beq_eq_false_iff_ne.mpr c3_
 have b4 : (kind == 4) = false := beq_eq_false_iff_ne.mpr c4_
 have ht : Chomp.told kind a rows = (((Chomp.moves rows).filter fun m => !(impl_fates_good.sel rows m)).length : Int) := by
  unfold Chomp.told
  rw [if_neg c0_, if_neg c1_, if_neg c2_, if_neg c3_, if_neg c4_]
  rfl
 rw [ht]
 have HG := Aside0.mk (impl_fates_good.rec rows A0 c0 b)
 clear hr hC hc hF ha hfd HO ht
 go_enter Tryd.func51, Tryd.ntmps51
 go_wp2_with (first
  | ((with_reducible refine gate_dst (N := 6) rfl ?_); refine box_event ?hg (N := 6) ?hd (cs := #[.int .i64 a]) (t := 3) ?hr ?_; (case hd => rfl); (case hg => rfl); (case hr => first | (go_simp; done) | (go_simp; rfl)); intro g6 hg6 w6 hbox6 hb6; have G6 := Aside0.mk hg6; have X6 := Aside0.mk hbox6; have B6 := Aside0.mk hb6; clear hg6 hbox6 hb6; have hcz6_0 : w6.cell? ⟨g6, 0, none⟩ = some (.int .i64 a) := (blk_cell X6.out 0).trans rfl; have hfz6_0 := blk_frozen X6.out 0)
  | (go_at_call 87; go_loud (refine (HG.out w6 HR.out (Kd.C_below HC.out B6.out) HCC.out (HF.out.below B6.out)).mono ?_; rintro e w7 ⟨v7, rfl, hs7, hf7, hk7⟩); have F7 := Aside0.mk hf7; have K7 := Aside0.mk ((Kq.KQ.below (Kq.KQ.refl w (fun q => q = b)) B6.out).then_ hk7 (fun _ h => .inl h)); obtain ⟨A7, c7, e7⟩ := Kd.S_slice hs7; subst e7; clear hs7 hf7 hk7))
 go_ret
 exact ⟨rfl, F7.out, K7.out⟩

end Go.Proofs.YtdikeggkfkkajaaDoor.PFnExactMakePuzzle
