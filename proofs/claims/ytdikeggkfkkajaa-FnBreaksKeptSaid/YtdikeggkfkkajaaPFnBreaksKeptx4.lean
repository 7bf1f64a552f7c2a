-- Made by a program of this session (wip/xprint.py) out of the translation.
import Derived.Test.YtdikeggkfkkajaaPFnBreaksKeptx0
import Derived.Test.YtdikeggkfkkajaaPFnBreaksKeptx2
import Derived.Test.YtdikeggkfkkajaaPFnBreaksKeptx3
namespace Go.Proofs.Ytdikeggkfkkajaa.PFnBreaksKept
open Go.RowKit Go.Proofs.YtdikeggkfkkajaaW.PrintWords Go.Proofs.YtdikeggkfkkajaaW.PrintLast Go.Proofs.YtdikeggkfkkajaaW.PrintMore
attribute [local go_sem] max2_int min2_int max_two min_two max_three min_three max_four min_four   -- for this text's walks alone
set_option linter.unusedVariables false
set_option linter.unusedSimpArgs false

/-! ### impl_GoodKept: function 20 -/
def impl_GoodKept.good (c : S32) : Bool := decide (Go.bits .xor .i64 (wrap64 (c.f0 - 1)) (wrap64 (c.f1 - 1)) > 0)
theorem impl_GoodKept.cases {α : Type} (p : α → Bool) (l : List α) (z : α) : (Lam.idxP p l = -1 ∧ ∀ x ∈ l, p x = false) ∨ ∃ k, k < l.length ∧ Lam.idxP p l = (k : Int) ∧ p (l.getD k z) = true ∧ ∀ j, j < k → p (l.getD j z) = false := by
 by_cases h : ∃ k, k < l.length ∧ p (l.getD k z) = true
 ·obtain ⟨k, hk⟩ := h
  have : ∃ m, (m < l.length ∧ p (l.getD m z) = true) ∧ ∀ j, j < m → ¬ (j < l.length ∧ p (l.getD j z) = true) := by
   induction k using Nat.strongRecOn with
   | _ k ih =>
    by_cases c : ∃ j, j < k ∧ (j < l.length ∧ p (l.getD j z) = true)
    ·obtain ⟨j, h1, h2⟩ := c
     exact ih j h1 h2
    ·exact ⟨k, hk, fun j h1 h2 => c ⟨j, h1, h2⟩⟩
  obtain ⟨m, ⟨h1, h2⟩, h3⟩ := this
  have h4 : ∀ j, j < m → p (l.getD j z) = false := fun j hj => by
   cases hp : p (l.getD j z) with
   | false => rfl
   | true => exact absurd ⟨by omega, hp⟩ (h3 j hj)
  exact .inr ⟨m, h1, Lam.idxP_hit z h1 h4 h2, h2, h4⟩
 ·have h4 : ∀ j, j < l.length → p (l.getD j z) = false := fun j hj => by
   cases hp : p (l.getD j z) with
   | false => rfl
   | true => exact absurd ⟨j, hj, hp⟩ h
  refine .inl ⟨Lam.idxP_miss z h4, fun x hx => ?_⟩
  obtain ⟨j, hj, rfl⟩ := List.getElem_of_mem hx
  have := h4 j hj
  rwa [List.getD_eq_getElem?_getD, List.getElem?_eq_getElem hj] at this
/-- The cells of the first elements. -/
def impl_GoodKept.Cs (cur : Array Value) (D : List S32) : Prop := ∀ a x, D[a]? = some x → cur[a * 2]? = some (.int .i64 x.f0) ∧ cur[a * 2 + 1]? = some (.int .i64 x.f1)
theorem impl_GoodKept.Cs_set {cur : Array Value} {D : List S32} (h : impl_GoodKept.Cs cur D) (i : Nat) (x : S32) (hi : i * 2 + 1 < cur.size) : impl_GoodKept.Cs ((cur.setIfInBounds (i * 2) (.int .i64 x.f0)).setIfInBounds (i * 2 + 1) (.int .i64 x.f1)) (D.set i x) := by
 intro a y ha
 rw [List.getElem?_set] at ha
 by_cases c : i = a
 ·subst c
  rw [if_pos rfl] at ha
  split at ha
  ·cases ha
   refine ⟨?_, ?_⟩
   ·rw [Array.getElem?_setIfInBounds_ne (by omega), Array.getElem?_setIfInBounds_self_of_lt (by omega)]
   ·rw [Array.getElem?_setIfInBounds_self_of_lt (by simp; omega)]
  ·cases ha
 ·rw [if_neg c] at ha
  obtain ⟨h1, h2⟩ := h a y ha
  refine ⟨?_, ?_⟩
  ·rw [Array.getElem?_setIfInBounds_ne (by omega), Array.getElem?_setIfInBounds_ne (by omega)]; exact h1
  ·rw [Array.getElem?_setIfInBounds_ne (by omega), Array.getElem?_setIfInBounds_ne (by omega)]; exact h2
structure impl_GoodKept.Inv (p : S32 → Bool) (l D : List S32) (i j : Nat) : Prop where
 len : D.length = l.length
 lt : i < j
 le : j ≤ l.length
 low : D.take i = (l.take j).filter fun x => !p x
 high : ∀ a, i ≤ a → D[a]? = l[a]?
theorem impl_GoodKept.Inv.start {p : S32 → Bool} {l : List S32} {k : Nat} {z : S32} (hk : k < l.length) (h1 : p (l.getD k z) = true) (h2 : ∀ j, j < k → p (l.getD j z) = false) : impl_GoodKept.Inv p l l k (k + 1) where
 len := rfl
 lt := Nat.lt_succ_self _
 le := hk
 low := by
  rw [List.getD_eq_getElem?_getD, List.getElem?_eq_getElem hk] at h1
  have h1' : p l[k] = true := h1
  rw [List.take_add_one, List.getElem?_eq_getElem hk, List.filter_append]
  have e2 : (l[k]?.toList) = [l[k]] := by rw [List.getElem?_eq_getElem hk]; rfl
  have e3 : ((some l[k]).toList.filter fun x => !p x) = [] := by simp [h1']
  rw [e3, List.append_nil, List.filter_eq_self.2]
  intro x hx
  obtain ⟨j, hj, rfl⟩ := List.getElem_of_mem hx
  have hj2 : j < k := by rw [List.length_take] at hj; omega
  have := h2 j hj2
  rw [List.getD_eq_getElem?_getD, List.getElem?_eq_getElem (by omega)] at this
  rw [List.getElem_take]
  simpa using this
 high := fun _ _ => rfl
theorem impl_GoodKept.Inv.skip {p : S32 → Bool} {l D : List S32} {i j : Nat} (h : impl_GoodKept.Inv p l D i j) (hj : j < l.length) (hp : p l[j] = true) : impl_GoodKept.Inv p l D i (j + 1) where
 len := h.len
 lt := by have := h.lt; omega
 le := hj
 low := by
  rw [List.take_add_one, List.getElem?_eq_getElem hj, List.filter_append, h.low]
  have e3 : ((some l[j]).toList.filter fun x => !p x) = [] := by simp [hp]
  rw [e3, List.append_nil]
 high := h.high
theorem impl_GoodKept.Inv.keep {p : S32 → Bool} {l D : List S32} {i j : Nat} (h : impl_GoodKept.Inv p l D i j) (hj : j < l.length) (hp : p l[j] = false) : impl_GoodKept.Inv p l (D.set i l[j]) (i + 1) (j + 1) where
 len := by rw [List.length_set]; exact h.len
 lt := by have := h.lt; omega
 le := hj
 low := by
  have hi : i < D.length := by have := h.lt; have := h.len; omega
  rw [List.take_add_one, List.getElem?_set_self hi, List.take_set_of_le (Nat.le_refl _), h.low, List.take_add_one, List.getElem?_eq_getElem hj, List.filter_append]
  have e3 : ((some l[j]).toList.filter fun x => !p x) = [l[j]] := by simp [hp]
  rw [e3]; rfl
 high := fun a ha => by
  rw [List.getElem?_set_ne (by omega)]
  exact h.high a (by omega)
/-- slices.DeleteFunc at bars, the predicate plain. -/
theorem impl_GoodKept.zero_cells (m : Nat) : (Builtin.zeroCells #[Value.int .i64 0, .int .i64 0] m).toList.length = m * 2 ∧ ∀ u ∈ (Builtin.zeroCells #[Value.int .i64 0, .int .i64 0] m).toList, u.oneCell' = true := by
 constructor
 ·simp [Builtin.zeroCells]
 ·intro u hu
  simp only [Builtin.zeroCells, Array.toList_map, List.mem_map] at hu
  obtain ⟨i, _, rfl⟩ := hu
  have h2 : i % 2 = 0 ∨ i % 2 = 1 := by omega
  show (#[Value.int .i64 0, .int .i64 0][i % 2]!).oneCell' = true
  rcases h2 with h | h <;> rw [h] <;> rfl
theorem impl_GoodKept.clr {W : World} {g e : Nat} {cur : Array Value} (hh : W.heap[g]? = some (.cells cur e (0, 0))) (off m c' : Nat) (hr : off + (m + 1) * 2 ≤ cur.size) :
  ∃ zs : List Value, zs.length = (m + 1) * 2 ∧ ∀ ty, (Builtin.clear_ #[36] ty #[.slice (some ⟨g, off, none⟩) (m + 1) c']).run Try.prog W = .ok (.tuple #[]) (W.setCells g off zs) := by
 obtain ⟨hz1, hz2⟩ := impl_GoodKept.zero_cells (m + 1)
 refine ⟨_, hz1, fun ty => ?_⟩
 have hst := run_storeCells_cells (P := Try.prog) g off (Builtin.zeroCells #[Value.int .i64 0, .int .i64 0] (m + 1)).toList 0 W (fun j hj => by rw [cell_of_row W g _ cur e (0, 0) hh]; simp; rw [hz1] at hj; omega) (fun j _ => blk_frozen hh _) hz2
 have hv : (zeroValue 32).run Try.prog W = .ok (.agg #[.int .i64 0, .int .i64 0]) W := Try.zeroValue32 W
 have hc : (Value.agg #[.int .i64 0, .int .i64 0]).cells = #[.int .i64 0, .int .i64 0] := rfl
 simp only [Nat.add_zero] at hst
 simp [Builtin.clear_, run_underlying Try.underlying36, hv, hc, hst]
set_option maxHeartbeats 8000000 in
set_option maxRecDepth 100000 in
theorem impl_GoodKept.del (gf : Nat) (p : S32 → Bool) (l : List S32) (v : Value) (w0 W : World) (eg : ∀ args w, (callFunc gf args).run Try.prog w = .ok (.enter gf args) w) (HO : Kd.R k32 32 W w0.heap.size (fun _ => True) v l) (HB : Below w0.heap.size w0 W) (hl : l.length ≤ 1000)
  (hp : ∀ W x, x ∈ l → Calls Try.prog gf #[.agg #[.int .i64 x.f0, .int .i64 x.f1]] W fun e w' => e = .returned (.bool (p x)) ∧ Below W.heap.size W w') :
  Calls Try.prog 112 #[v, .func (.func gf) #[] #[]] W fun e w' => ∃ v', e = .returned v' ∧ Kd.R k32 32 w' w0.heap.size (fun _ => True) v' (l.filter fun x => !p x) ∧ Below w0.heap.size w0 w' := by
 obtain ⟨A, c, rfl⟩ := Kd.R_slice HO
 obtain ⟨-, hnc, hC⟩ := Kd.R_reads' HO
 have hIF := impl_Bar_186.calls A c l gf #[] p W W eg hC (Below.refl _ _) (fun W' x hx hW => by rw [Array.append_empty]; exact (hp W' x hx).mono (fun _ _ ⟨he, hd⟩ => ⟨he, below_step hW hd⟩))
 rcases impl_GoodKept.cases p l z32 with ⟨e1, hall⟩ | ⟨k0, hk0, e1, ht, hm⟩
 ·rw [e1] at hIF
  have HIF := Aside0.mk hIF
  have HO1 := Aside0.mk HO
  have HB1 := Aside0.mk HB
  have HALL := Aside0.mk hall
  clear hIF HO HB hall hC hnc e1 hp
  go_enter Try.func112, Try.ntmps112
  go_wp2_with (go_at_call 186; refine HIF.out.mono ?_; rintro e w1 ⟨rfl, hb1⟩)
  go_ret
  have e3 : (l.filter fun x => !p x) = l := List.filter_eq_self.2 (fun x hx => by rw [HALL.out x hx]; rfl)
  rw [e3]
  exact ⟨_, rfl, Kd.R_below HO1.out hb1, below_step HB1.out hb1⟩
 ·rw [e1] at hIF
  obtain ⟨hok, inner, hown, hr⟩ := HO
  rcases hown.2 with ⟨_, h0⟩ | ⟨g, cap, cur, hv', hbg, hh, h1, hcm, hcs, htake⟩
  ·omega
  injection hv' with hA _ hc
  subst hA
  subst hc
  have hsz : k32.sz = 2 := rfl
  rw [hsz] at hcs htake hr
  have HCS : impl_GoodKept.Cs cur l := by
   intro a x ha
   have ha1 := (List.getElem?_eq_some_iff.1 ha).1
   have h2 := k32_openM (hr.2 a x ha)
   have h3 : (inner.drop (a * 2))[0]? = some (.int .i64 x.f0) ∧ (inner.drop (a * 2))[1]? = some (.int .i64 x.f1) := by
    have e0 : ((inner.drop (a * 2)).take 2)[0]? = some (.int .i64 x.f0) := by rw [h2]; rfl
    have e1 : ((inner.drop (a * 2)).take 2)[1]? = some (.int .i64 x.f1) := by rw [h2]; rfl
    rw [List.getElem?_take_of_lt (by omega)] at e0 e1
    exact ⟨e0, e1⟩
   rw [List.getElem?_drop, List.getElem?_drop, ← htake, List.getElem?_take_of_lt (by omega), List.getElem?_take_of_lt (by omega)] at h3
   simpa using h3
  have HINV := Aside0.mk (impl_GoodKept.Inv.start (p := p) hk0 ht hm)
  have HIF := Aside0.mk hIF
  have HB1 := Aside0.mk HB
  have HP := Aside0.mk hp
  have HG := Aside0.mk hh
  have HCS1 := Aside0.mk HCS
  have HSZ := Aside0.mk hcs
  have HCAP := Aside0.mk h1
  have HCM := Aside0.mk hcm
  have HGE := Aside0.mk hbg
  have HLL := Aside0.mk hl
  have hneg : ¬ ((k0 : Int) = -1) := by omega
  have hw1 : wrap64 ((k0 : Int) + 1) = ((k0 + 1 : Nat) : Int) := PK.w1 hk0 (by omega)
  have HK0 := Aside0.mk hk0
  obtain ⟨i0, hi0, hzz⟩ := Option.map_eq_some_iff.1 info32
  simp only [Prod.mk.injEq] at hzz
  have HI := Aside0.mk hi0
  have HS1 := Aside0.mk hzz.2.1
  clear hIF HB hp hh HCS hcs h1 hcm hbg hl hC hnc e1 ht hm hok hown hr htake hk0 hsz hi0 hzz
  go_enter Try.func112, Try.ntmps112
  go_wp2_with (go_at_call 186; refine HIF.out.mono ?_; rintro e w1 ⟨rfl, hb1⟩; have BW1 := Aside0.mk (below_step HB1.out hb1); have HG1 := Aside0.mk (blk_below HG.out hb1); clear hb1)
  have hbq : ((k0 : Int) == -1) = false := by simp
  simp only [hw1, hbq]
  clear hw1 hbq hneg
  go_loopg [5, 6] l.length (fun gg v5 v6 w' => ∃ (i j : Nat) (cur : Array Value) (D : List S32), v5 = .int .i64 (i : Int) ∧ v6 = .int .i64 (j : Int) ∧ l.length - j ≤ gg ∧ Aside0 (w'.heap[g]? = some (.cells cur 32 (0, 0))) ∧ Aside0 (cur.size = c * 2) ∧ Aside0 (impl_GoodKept.Cs cur D) ∧ Aside0 (impl_GoodKept.Inv p l D i j) ∧ Aside0 (Below w0.heap.size w0 w'))
  case atStart => exact ⟨k0, k0 + 1, cur, l, rfl, by first | rfl | (simp [*]; done) | trace_state, by omega, HG1, HSZ, HCS1, HINV, BW1⟩
  case round =>
   obtain ⟨i, j, cur, D, rfl, rfl, hgg, HG, HSZ, HCS, HI2, HB2⟩ := hrel
   by_cases hlt : j < l.length
   ·have hltz : (j : Int) < (l.length : Int) := by omega
    have hD : D[j]? = some l[j] := by rw [HI2.out.high j (by have := HI2.out.lt; omega), List.getElem?_eq_getElem hlt]
    obtain ⟨c0, c1⟩ := HCS.out j l[j] hD
    have hx0 : wr.cell? ⟨g, j * 2, none⟩ = some (.int .i64 l[j].f0) := (blk_cell HG.out _).trans c0
    have hx1 : wr.cell? ⟨g, j * 2 + 1, none⟩ = some (.int .i64 l[j].f1) := (blk_cell HG.out _).trans c1
    have HPJ := Aside0.mk (fun W => HP.out W l[j] (List.getElem_mem hlt))
    obtain ⟨x, hx⟩ : ∃ x, l[j] = x := ⟨_, rfl⟩
    rw [hx] at hx0 hx1 HPJ
    have HX := Aside0.mk hx
    clear hD c0 c1 hx
    obtain ⟨x0, x1⟩ := x
    have hx0' : wr.cell? ⟨g, j * 2, none⟩ = some (.int .i64 x0) := hx0
    have hx1' : wr.cell? ⟨g, j * 2 + 1, none⟩ = some (.int .i64 x1) := hx1
    clear hx0 hx1
    have HPJ2 := Aside0.mk (show ∀ W, Calls Try.prog gf #[.agg #[.int .i64 x0, .int .i64 x1]] W fun e w' => e = .returned (.bool (p ⟨x0, x1⟩)) ∧ Below W.heap.size W w' from HPJ.out)
    clear HPJ
    cases hq : p ⟨x0, x1⟩ with
    | true =>
     rw [hq] at HPJ2
     have HQ := Aside0.mk hq
     have hw2 : wrap64 ((j : Int) + 1) = ((j + 1 : Nat) : Int) := PK.w1 hlt (by have := HLL.out; omega)
     have HLT := Aside0.mk hlt
     clear hq
     go_wp2_with (go_at_fn gf; refine (HPJ2.out _).mono ?_; rintro e w' ⟨rfl, hb'⟩; have HB3 := Aside0.mk hb'; clear hb')
     go_roundg (l.length - (j + 1))
     case measure => have := HLT.out; omega
     case rel =>
      exact ⟨i, j + 1, cur, D, rfl, by first | rfl | (simp [*]; done) | trace_state, Nat.le_refl _, ⟨blk_below (blk_alloc HG.out _) HB3.out⟩, HSZ, HCS, ⟨HI2.out.skip HLT.out (by rw [HX.out]; exact HQ.out)⟩, ⟨below_step (below_alloc HB2.out _) HB3.out⟩⟩
    | false =>
     rw [hq] at HPJ2
     have HQ := Aside0.mk hq
     have hw2 : wrap64 ((j : Int) + 1) = ((j + 1 : Nat) : Int) := PK.w1 hlt (by have := HLL.out; omega)
     have hil : i < l.length := by have := HI2.out.lt; omega
     have hiz : (i : Int) < (l.length : Int) := by omega
     have hw3 : wrap64 ((i : Int) + 1) = ((i + 1 : Nat) : Int) := PK.w1 hil (by have := HLL.out; omega)
     have HLT := Aside0.mk hlt
     have HIL := Aside0.mk hil
     have HR := Aside0.mk (show i * 2 + 1 < cur.size by rw [HSZ.out]; have := HCAP.out; omega)
     have HNW := Aside0.mk (show g ≠ wr.heap.size by have := blk_lt HG.out; omega)
     clear hq
     go_wp2_with (go_at_fn gf; refine (HPJ2.out _).mono ?_; rintro e w' ⟨rfl, hb'⟩; have HB3 := Aside0.mk hb'; have hg3 := blk_below (blk_alloc HG.out _) hb'; have hn3 : w'.heap[wr.heap.size]? = some (.cells #[.int .i64 x0, .int .i64 x1] 32 (0, 0)) := blk_below (by first | exact blk_alloc_new _ _ | exact heap_alloc_new _ _ | (unfold World.alloc; exact Array.getElem?_push_size)) hb'; have hy0 : w'.cell? ⟨wr.heap.size, 0, none⟩ = some (.int .i64 x0) := (blk_cell hn3 0).trans rfl; have hy1 : w'.cell? ⟨wr.heap.size, 1, none⟩ = some (.int .i64 x1) := (blk_cell hn3 1).trans rfl; have hci0 : w'.cell? ⟨g, i * 2, none⟩ = some cur[i * 2]! := (blk_cell hg3 _).trans (Del.arr_at (by have := HR.out; omega)); have hci1 : w'.cell? ⟨g, i * 2 + 1, none⟩ = some cur[i * 2 + 1]! := (blk_cell hg3 _).trans (Del.arr_at HR.out); have hfi0 := blk_frozen hg3 (i * 2); have hfi1 := blk_frozen hg3 (i * 2 + 1); have HG3 := Aside0.mk hg3; clear hb' hn3 hg3)
     go_roundg (l.length - (j + 1))
     case measure => have := HLT.out; omega
     case rel =>
      have h2 := HI2.out.keep HLT.out (by rw [HX.out]; exact HQ.out)
      rw [HX.out] at h2
      exact ⟨i + 1, j + 1, _, _, by first | rfl | (simp [*]; done) | trace_state, by first | rfl | (simp [*]; done) | trace_state, Nat.le_refl _, ⟨blk_put (blk_put HG3.out (i * 2) (.int .i64 x0) rfl) (i * 2 + 1) (.int .i64 x1) rfl⟩, ⟨by simp [HSZ.out]⟩, ⟨impl_GoodKept.Cs_set HCS.out i ⟨x0, x1⟩ HR.out⟩, ⟨h2⟩, ⟨below_set (below_set (below_step (below_alloc HB2.out _) HB3.out) HGE.out) HGE.out⟩⟩
   ·obtain rfl : j = l.length := by have := HI2.out.le; omega
    have hltz : ¬ (l.length : Int) < (l.length : Int) := by omega
    have hil : i < l.length := HI2.out.lt
    have hic : i < c := by have := HCAP.out; omega
    obtain ⟨m, hm⟩ : ∃ m, l.length - i = m + 1 := ⟨l.length - i - 1, by omega⟩
    obtain ⟨zs, hzl, hclr⟩ := impl_GoodKept.clr HG.out (i * 2) m (c - i) (by rw [HSZ.out]; have := HCAP.out; omega)
    have hcA : ∀ W : World, (Instr.slice 36 (.slice (some ⟨g, 0, none⟩) l.length c) (some (.int .i64 (i : Int))) none none).run Try.prog W = .ok (.slice (some ⟨g, i * 2, none⟩) (m + 1) (c - i)) W := by
     intro W
     rw [cut_from (P := Try.prog) 36 32 .i64 Try.underlying36 HI.out 2 HS1.out (some ⟨g, 0, none⟩) l.length c (i : Int) (by omega) (by omega) W, Int.toNat_natCast, if_neg (by omega), hm]
     have e2 : (⟨g, 0, none⟩ : Addr).add (i * 2) = ⟨g, i * 2, none⟩ := by unfold Addr.add; by_cases hj0 : i * 2 = 0 <;> simp [hj0]
     show Result.ok (Value.slice (some ((⟨g, 0, none⟩ : Addr).add (i * 2))) _ _) W = _
     rw [e2]
    have hcB : ∀ W : World, (Instr.slice 36 (.slice (some ⟨g, 0, none⟩) l.length c) none (some (.int .i64 (i : Int))) none).run Try.prog W = .ok (.slice (some ⟨g, 0, none⟩) i c) W := by
     intro W
     rw [cut_to (P := Try.prog) 36 32 .i64 Try.underlying36 HI.out (some ⟨g, 0, none⟩) l.length c (i : Int) (by omega) (by omega) HCAP.out W, Int.toNat_natCast]
    have HZL := Aside0.mk hzl
    have HM := Aside0.mk hm
    have HIL := Aside0.mk hil
    have HIC := Aside0.mk hic
    clear hzl hm
    have HD0 := Aside0.mk (show D.take i = l.filter (fun x => !p x) by have h := HI2.out.low; rwa [List.take_of_length_le (Nat.le_refl _)] at h)
    have HDL := Aside0.mk HI2.out.len
    go_wp2
    go_ret
    have hB : Below w0.heap.size w0 (wr.setCells g (i * 2) zs) := HB2.out.grown (Del.grown_many HG.out (i * 2) zs) HB2.out.size (fun q hq => by cases hq; exact HGE.out)
    obtain ⟨cur', h1', hs', ht'⟩ := Del.set_many (zs := zs) HG.out (i * 2) (by rw [HZL.out, HSZ.out]; have := HM.out; have := HCAP.out; omega)
    have hflen : (l.filter fun x => !p x).length = i := by rw [← HD0.out, List.length_take, HDL.out]; omega
    have hcsz : cur'.size = c * 2 := by rw [hs', HSZ.out]
    have htl : (cur'.toList.take (i * 2)).length = i * 2 := by rw [List.length_take, Array.length_toList, hcsz]; omega
    refine ⟨_, rfl, ?_, hB⟩
    rw [← HD0.out] at hflen ⊢
    refine ⟨fun _ _ => trivial, cur'.toList.take (i * 2), ⟨by rw [hflen, htl]; rfl, .inr ⟨g, c, cur', by rw [hflen]; rfl, HGE.out, h1', by rw [hflen]; omega, HCM.out, by rw [hcsz]; rfl, by rw [hflen]; rfl⟩⟩, by rw [hflen, htl]; rfl, fun a x ha => ?_⟩
    have hai : a < i := by have := (List.getElem?_eq_some_iff.1 ha).1; omega
    rw [List.getElem?_take_of_lt hai] at ha
    obtain ⟨e0, e1⟩ := HCS.out a x ha
    rw [← Array.getElem?_toList] at e0 e1
    have f0 : (cur'.toList.take (i * 2))[a * 2]? = some (.int .i64 x.f0) := by rw [ht', List.getElem?_take_of_lt (by omega)]; exact e0
    have f1 : (cur'.toList.take (i * 2))[a * 2 + 1]? = some (.int .i64 x.f1) := by rw [ht', List.getElem?_take_of_lt (by omega)]; exact e1
    have f2 : ((cur'.toList.take (i * 2)).drop (a * 2)).take 2 = [.int .i64 x.f0, .int .i64 x.f1] := by
     apply List.ext_getElem?
     intro m2
     match m2 with
     | 0 => rw [List.getElem?_take_of_lt (by omega), List.getElem?_drop]; exact f0
     | 1 => rw [List.getElem?_take_of_lt (by omega), List.getElem?_drop]; exact f1
     | m2 + 2 => rw [List.getElem?_eq_none (by rw [List.length_take]; omega)]; rfl
    have f3 := k32_mkM (wr.setCells g (i * 2) zs) w0.heap.size (fun k => True ∧ k ≠ g) x
    rw [← f2] at f3
    exact k32.M_mono (fun k hk => hk) f3
set_option maxHeartbeats 4000000 in
theorem impl_GoodKept.lam (x : S32) (W : World) :
  Calls Try.prog 113 #[.agg #[.int .i64 x.f0, .int .i64 x.f1]] W fun e w' => e = .returned (.bool (impl_GoodKept.good x)) ∧ Below W.heap.size W w' := by
 obtain ⟨a, b⟩ := x
 have hcall := fun W => impl_keptHeap.calls a b _ W rfl
 show Calls Try.prog 113 #[.agg #[.int .i64 a, .int .i64 b]] W fun e w' => e = .returned (.bool (decide (Go.bits .xor .i64 (wrap64 (a - 1)) (wrap64 (b - 1)) > 0))) ∧ Below W.heap.size W w'
 generalize Go.bits .xor .i64 (wrap64 (a - 1)) (wrap64 (b - 1)) = q at hcall
 have HB := Aside0.mk (Below.refl W.heap.size W)
 go_enter Try.func113, Try.ntmps113
 go_wp2_with (first
  | ((with_reducible refine gate_dst (N := 1) rfl ?_); refine box_event ?hg (N := 1) ?hd (cs := #[.int .i64 a, .int .i64 b]) (t := 32) ?hr ?_; (case hd => rfl); (case hg => rfl); (case hr => first | (go_simp; done) | (go_simp; rfl)); intro g1 hg1 w1 hbox1 hb1; have G1 := Aside0.mk hg1; have X1 := Aside0.mk hbox1; have B1 := Aside0.mk hb1; clear hg1 hbox1 hb1; have hcz1_0 : w1.cell? ⟨g1, 0, none⟩ = some (.int .i64 a) := (blk_cell X1.out 0).trans rfl; have hfz1_0 := blk_frozen X1.out 0; have hcz1_1 : w1.cell? ⟨g1, 1, none⟩ = some (.int .i64 b) := (blk_cell X1.out 1).trans rfl; have hfz1_1 := blk_frozen X1.out 1)
  | (go_at_call 114; refine (hcall _).mono ?_; rintro e w' ⟨rfl, hd⟩))
 go_ret
 exact ⟨by first | rfl | (simp; done), Lam.bth B1.out hd⟩
def impl_GoodKept.f (k : Nat) (a0_0 : Int) (a0_1 : Int) : Option ((List (S32)) × Bool) := (impl_KeptMoves.f k a0_0 a0_1).bind fun t => if t.1.length ≤ 1000 then some (t.1.filter fun c => !(impl_GoodKept.good c), t.2) else none
theorem impl_GoodKept.mono : ∀ a0 a1 k, LeO (impl_GoodKept.f k a0 a1) (impl_GoodKept.f (k + 1) a0 a1) := by
 intro a0 a1 k
 unfold impl_GoodKept.f
 exact LeO.bind (impl_KeptMoves.mono _ _ _) (fun _ => LeO.refl _)
set_option maxHeartbeats 8000000 in
set_option maxRecDepth 100000 in
theorem impl_GoodKept.calls (k : Nat) (a0_0 : Int) (a0_1 : Int) (r1 : List (S32)) (r2 : Bool) (w : World) (h : impl_GoodKept.f k a0_0 a0_1 = some (r1, r2)) :
  Calls Try.prog 20 #[.agg #[.int .i64 a0_0, .int .i64 a0_1]] w fun e w' => ∃ v0_ : Value, e = .returned (.tuple #[v0_, .bool r2]) ∧ Kd.R k32 32 w' w.heap.size (fun _ => True) v0_ r1 ∧ Below w.heap.size w w' := by
 obtain ⟨⟨l, ok⟩, hK, h⟩ := Option.bind_eq_some_iff.1 h
 have hl : l.length ≤ 1000 := by
  by_cases c : l.length ≤ 1000
  ·exact c
  ·simp only [if_neg c] at h; cases h
 simp only [if_pos hl, Option.some.injEq, Prod.mk.injEq] at h
 obtain ⟨rfl, rfl⟩ := h
 have eg := enters_of Try.func113 (by kernel_rfl) rfl
 have EG := Aside0.mk eg
 have HCALL := Aside0.mk (fun W => impl_KeptMoves.calls k a0_0 a0_1 l ok W hK)
 have HL := Aside0.mk hl
 have HB := Aside0.mk (Below.refl w.heap.size w)
 clear eg hK hl
 go_enter Try.func20, Try.ntmps20
 go_wp2_with (first
  | ((with_reducible refine gate_dst (N := 1) rfl ?_); refine box_event ?hg (N := 1) ?hd (cs := #[.int .i64 a0_0, .int .i64 a0_1]) (t := 32) ?hr ?_; (case hd => rfl); (case hg => rfl); (case hr => first | (go_simp; done) | (go_simp; rfl)); intro g1 hg1 w1 hbox1 hb1; have G1 := Aside0.mk hg1; have X1 := Aside0.mk hbox1; have B1 := Aside0.mk hb1; clear hg1 hbox1 hb1; have hcz1_0 : w1.cell? ⟨g1, 0, none⟩ = some (.int .i64 a0_0) := (blk_cell X1.out 0).trans rfl; have hfz1_0 := blk_frozen X1.out 0; have hcz1_1 : w1.cell? ⟨g1, 1, none⟩ = some (.int .i64 a0_1) := (blk_cell X1.out 1).trans rfl; have hfz1_1 := blk_frozen X1.out 1)
  | (go_at_call 18; refine (HCALL.out _).mono ?_; rintro e w2 ⟨v2, rfl, ho, hb⟩; have HB2 := Aside0.mk (below_step B1.out hb); have HO2 := Aside0.mk (Kd.R_lower ho B1.out.size); clear ho hb)
  | (go_at_call 112; refine (impl_GoodKept.del _ impl_GoodKept.good l v2 w w2 EG.out HO2.out HB2.out HL.out (fun W x _ => impl_GoodKept.lam x W)).mono ?_; rintro e w3 ⟨v3, rfl, ho3, hb3⟩))
 go_ret2
 exact ⟨_, rfl, ho3, hb3⟩

/-! ### spec_GoodKept: function 21 -/
def spec_GoodKept.l0 : Nat → List (S32) → List (S32) → Int → Int → Option ((List (S32)) × Bool)
 | 0, _, _, _, _ => none
 | k + 1, x4, x11, x12, x13 => if x13 < x12 then (if 0 ≤ x13 then (if x13 < (x11.length : Int) then ((spec_laHeap.f ((rd_T32 x11 x13).f0) ((rd_T32 x11 x13).f1)).bind fun t200 => (if t200 = 0 then (if x4.length < 8796093022208 then (spec_GoodKept.l0 k (x4 ++ [(⟨(rd_T32 x11 x13).f0, (rd_T32 x11 x13).f1⟩ : S32)]) x11 x12 (wrap64 (x13 + 1))) else (none)) else (spec_GoodKept.l0 k x4 x11 x12 (wrap64 (x13 + 1))))) else (none)) else (none)) else (some (x4, true))
def spec_GoodKept.f (k : Nat) (a0_0 : Int) (a0_1 : Int) : Option ((List (S32)) × Bool) := (spec_brGood.f a0_0 a0_1).bind fun t194 => (if t194 = true then ((spec_laKept.f k a0_0 a0_1).bind fun t195 => (spec_GoodKept.l0 k ([] : List (S32)) t195 (t195.length : Int) 0)) else (some (([] : List (S32)), false)))
theorem spec_GoodKept.mono_l : ∀ k, (∀ y0 y1 y2 y3, LeO (spec_GoodKept.l0 k y0 y1 y2 y3) (spec_GoodKept.l0 (k + 1) y0 y1 y2 y3))
 | 0 => fun _ _ _ _ r h => by simp [spec_GoodKept.l0] at h
 | k + 1 => by
  have ih0 := spec_GoodKept.mono_l k
  ·intro y0 y1 y2 y3
   unfold spec_GoodKept.l0
   repeat' first
   | (with_reducible exact ih0 _ _ _ _)
   | (with_reducible exact spec_laKept.mono _ _ _)
   | (with_reducible exact LeO.refl _)
   | (with_reducible exact LeO.none _)
   | (with_reducible refine LeO.ite ?_ ?_)
   | (with_reducible refine LeO.bind ?_ (fun _ => ?_))
   | exact ih0 _ _ _ _
   | exact spec_laKept.mono _ _ _
   | exact LeO.none _
   | refine LeO.ite ?_ ?_
   | refine LeO.bind ?_ (fun _ => ?_)
theorem spec_GoodKept.mono : ∀ a0 a1 k, LeO (spec_GoodKept.f k a0 a1) (spec_GoodKept.f (k + 1) a0 a1) := by
 intro a0 a1 k
 have ih0 := spec_GoodKept.mono_l k
 unfold spec_GoodKept.f
 repeat' first
   | (with_reducible exact ih0 _ _ _ _)
   | (with_reducible exact spec_laKept.mono _ _ _)
   | (with_reducible exact LeO.refl _)
   | (with_reducible exact LeO.none _)
   | (with_reducible refine LeO.ite ?_ ?_)
   | (with_reducible refine LeO.bind ?_ (fun _ => ?_))
   | exact ih0 _ _ _ _
   | exact spec_laKept.mono _ _ _
   | exact LeO.none _
   | refine LeO.ite ?_ ?_
   | refine LeO.bind ?_ (fun _ => ?_)
set_option maxHeartbeats 8000000 in
set_option maxRecDepth 100000 in
theorem spec_GoodKept.calls (k : Nat) (a0_0 : Int) (a0_1 : Int) (r1 : List (S32)) (r2 : Bool) (w : World) (h : spec_GoodKept.f k a0_0 a0_1 = some (r1, r2)) :
  Calls Try.prog 21 #[.agg #[.int .i64 a0_0, .int .i64 a0_1]] w fun e w' => ∃ v0_ : Value, e = .returned (.tuple #[v0_, .bool r2]) ∧ Kd.R k32 32 w' w.heap.size (fun _ => True) v0_ r1 ∧ Below w.heap.size w w' := by
 have hu32 := Try.underlying32
 have HB := Aside0.mk (Below.refl w.heap.size w)
 have H : ((spec_brGood.f a0_0 a0_1).bind fun t194 => (if t194 = true then ((spec_laKept.f k a0_0 a0_1).bind fun t195 => (spec_GoodKept.l0 k ([] : List (S32)) t195 (t195.length : Int) 0)) else (some (([] : List (S32)), false)))) = some (r1, r2) := h
 clear h
 replace H := Option.bind_eq_some_iff.mp H
 obtain ⟨t194, A20, H⟩ := H
 (try dsimp only at H)
 have A2 := Aside0.mk A20
 clear A20
 by_cases c3 : t194 = true
 ·subst c3
  rw [if_pos rfl] at H
  replace H := Option.bind_eq_some_iff.mp H
  obtain ⟨t195, A40, H⟩ := H
  replace H : (spec_GoodKept.l0 k ([] : List (S32)) t195 (t195.length : Int) 0) = some (r1, r2) := H
  have A4 := Aside0.mk A40
  clear A40
  have H' := Aside0.mk H
  clear H
  go_enter Try.func21, Try.ntmps21
  go_wp2_with (first | ((with_reducible refine gate_dst (N := 1) rfl ?_); refine box_event ?hg (N := 1) ?hd (cs := #[.int .i64 a0_0, .int .i64 a0_1]) (t := 32) ?hr ?_; (case hd => rfl); (case hg => rfl); (case hr => first | (go_simp; done) | (go_simp; rfl)); intro gb193 hg w5 hbox hb; have n0_ := Aside0.mk (below_step (Lam.al) hb); have n1_ := Aside0.mk (hbox); have n2_ := Aside0.mk ((by rw [hg]; exact (below_size (Lam.al)) : w.heap.size ≤ gb193)); have n3_ := Aside0.mk ((by rw [hg]; exact (below_size (Lam.al)) : w.heap.size ≤ gb193)); clear HB; have HB := n0_; have BK193 := n1_; have GW193 := n2_; have GE193 := n3_; clear n0_ n1_ n2_ n3_; clear hb hbox hg; have hcz6_0 : w5.cell? ⟨gb193, 0, none⟩ = some (.int .i64 a0_0) := (blk_cell BK193.out 0).trans rfl; have hcz6_1 : w5.cell? ⟨gb193, 1, none⟩ = some (.int .i64 a0_1) := (blk_cell BK193.out 1).trans rfl; have hfz6_0 := blk_frozen BK193.out 0; have hfz6_1 := blk_frozen BK193.out 1) | ((with_reducible refine gate_callee (f := 107) rfl ?_); refine goesL_ (some 8) rfl rfl Try.func107 (by kernel_rfl) rfl #[.agg #[.int .i64 a0_0, .int .i64 a0_1]] rfl (by (try simp only [List.map_toArray, List.map_cons, List.map_nil]); first | done | rfl | (simp only [List.length_drop, List.length_take]; rfl)) ?_; (with_reducible refine (spec_brGood.calls a0_0 a0_1 true _ A2.out).mono ?_); rintro e w7 ⟨rfl, hb⟩; refine ⟨_, rfl, ?_⟩; have n0_ := Aside0.mk (blk_below (g := gb193) (o := .cells #[.int .i64 a0_0, .int .i64 a0_1] 32 (0, 0)) (Lam.bq BK193.out) hb); have n1_ := Aside0.mk (below_step (Lam.al) hb); clear BK193; clear HB; have BK193 := n0_; have HB := n1_; clear n0_ n1_; (try clear hb); (try clear hb2); (try clear hk); (try clear hi); have hcz8_0 : w7.cell? ⟨gb193, 0, none⟩ = some (.int .i64 a0_0) := (blk_cell BK193.out 0).trans rfl; have hcz8_1 : w7.cell? ⟨gb193, 1, none⟩ = some (.int .i64 a0_1) := (blk_cell BK193.out 1).trans rfl; have hfz8_0 := blk_frozen BK193.out 0; have hfz8_1 := blk_frozen BK193.out 1) | ((with_reducible refine gate_callee (f := 111) rfl ?_); refine goesL_ (some 11) rfl rfl Try.func111 (by kernel_rfl) rfl #[.agg #[.int .i64 a0_0, .int .i64 a0_1]] rfl (by (try simp only [List.map_toArray, List.map_cons, List.map_nil]); first | done | rfl | (simp only [List.length_drop, List.length_take]; rfl)) ?_; (with_reducible refine (spec_laKept.calls k a0_0 a0_1 t195 _ A4.out).mono ?_); rintro e w9 ⟨v196, rfl, ho0, hb⟩; refine ⟨_, rfl, ?_⟩; have n0_ := Aside0.mk (Kd.R_lower (Kd.R_newB ho0 (g := gb193) (o := .cells #[.int .i64 a0_0, .int .i64 a0_1] 32 (0, 0)) (Lam.bq BK193.out)) (below_size (Lam.al))); have n1_ := Aside0.mk (blk_below (g := gb193) (o := .cells #[.int .i64 a0_0, .int .i64 a0_1] 32 (0, 0)) (Lam.bq BK193.out) hb); have n2_ := Aside0.mk (below_step (Lam.al) hb); clear BK193; clear HB; have HO197 := n0_; have BK193 := n1_; have HB := n2_; clear n0_ n1_ n2_; (try clear hb); (try clear hb2); (try clear hk); (try clear hi); (try clear ho0); obtain ⟨Ao10, co10, eo10⟩ := Kd.R_slice HO197.out; subst eo10))
  go_loopg [4, 13] k (fun kq v4 v13 w' => ∃ (x4_1 : List (S32)) (x13_1 : Int), v13 = .int .i64 x13_1 ∧ Aside0 (spec_GoodKept.l0 kq x4_1 t195 (t195.length : Int) x13_1 = some (r1, r2)) ∧ Aside0 (kq ≤ k) ∧ Aside0 (Kd.R k32 32 w' w.heap.size (fun k_ => some k_ ≠ ((.slice Ao10 t195.length co10) : Value).ownBlock ∧ k_ ≠ gb193) v4 x4_1) ∧ Aside0 (Kd.R k32 32 w' w.heap.size (fun k_ => some k_ ≠ (v4 : Value).ownBlock ∧ k_ ≠ gb193) (.slice Ao10 t195.length co10) t195) ∧ Aside0 (w'.heap[gb193]? = some (.cells #[.int .i64 a0_0, .int .i64 a0_1] 32 (0, 0))) ∧ Aside0 (Below w.heap.size w w'))
  case atStart => exact ⟨(([] : List (S32))), (0), (by first | rfl | (simp; done) | (simp [*]; done)), H', ⟨Nat.le_refl _⟩, ⟨by first | exact Kd.R_nil _ _ _ _ _ | exact Kd.N_nil _ _ _ _ _ | exact Kd.V_nil _ _ _ _ _ | exact Kd.Q_nil _ _ _ _ _ | exact Kd.S_nil _ _ _ _ _⟩, ⟨by (with_reducible repeat (first | apply Kd.R_alloc | apply Kd.R_drewN | apply Kd.R_drew)); exact Kd.R_mono HO197.out (fun _ hk => ⟨(by simp [Value.ownBlock]), hk.2⟩)⟩, ⟨Lam.bq BK193.out⟩, ⟨Lam.al⟩⟩
  case round =>
   clear H'
   try clear c1
   try clear c2
   try clear p2
   try clear c3
   try clear c10
   try clear hcz6_0
   try clear hcz6_1
   try clear hcz8_0
   try clear hcz8_1
   try clear hfz6_0
   try clear hfz6_1
   try clear hfz8_0
   try clear hfz8_1
   obtain ⟨x4_1, x13_1, rfl, HA, HK1, HO_4, HO_11, BK193, HB⟩ := hrel
   cases gk with
   | zero => exact absurd HA.out (by simp [spec_GoodKept.l0])
   | succ k1 =>
    have H := HA.out
    clear HA
    simp only [spec_GoodKept.l0] at H
    by_cases c11 : x13_1 < (t195.length : Int)
    ·rw [if_pos c11] at H
     have c11b0 : decide (x13_1 < (t195.length : Int)) = true := decide_eq_true c11
     clear c11
     by_cases c12 : 0 ≤ x13_1
     ·rw [if_pos c12] at H
      have c12b0 : decide (0 ≤ x13_1) = true := decide_eq_true c12
      clear c12
      by_cases c13 : x13_1 < (t195.length : Int)
      ·rw [if_pos c13] at H
       have c13b0 : decide (x13_1 < (t195.length : Int)) = true := decide_eq_true c13
       clear c13
       replace H := Option.bind_eq_some_iff.mp H
       obtain ⟨t200, A140, H⟩ := H
       (try dsimp only at H)
       have A14 := Aside0.mk A140
       clear A140
       by_cases c15 : t200 = 0
       ·rw [if_pos c15] at H
        have c15b0 : (t200 == 0) = true := beq_iff_eq.mpr c15
        have c15b1 : (t200 != 0) = false := bne_eq_false_iff_eq.mpr c15
        clear c15
        by_cases c16 : x4_1.length < 8796093022208
        ·rw [if_pos c16] at H
         have LMc16 := Aside0.mk c16
         clear c16
         obtain ⟨y201, hy201⟩ : ∃ y_ : List (S32), y_ = (x4_1 ++ [(⟨(rd_T32 t195 x13_1).f0, (rd_T32 t195 x13_1).f1⟩ : S32)]) := ⟨_, rfl⟩
         replace H : (spec_GoodKept.l0 k1 y201 t195 (t195.length : Int) (wrap64 (x13_1 + 1))) = some (r1, r2) := by first | (rw [hy201]; with_reducible exact H) | (have H2_ := (Option.bind_some _ _).symm.trans H; rw [hy201]; with_reducible exact H2_) | (have H2_ := (Option.bind_some _ _).symm.trans H; with_reducible exact H2_) | with_reducible exact H | (rw [hy201]; exact H) | exact H
         have Ny201 := Aside0.mk hy201
         clear hy201
         have H' := Aside0.mk H
         clear H
         have p198 : 0 ≤ (x13_1 : Int) := of_decide_eq_true (by first | (with_reducible assumption) | assumption)
         have q198 : x13_1 < (t195.length : Int) := of_decide_eq_true (by first | (with_reducible assumption) | assumption)
         obtain ⟨ad198, e198, hx198_0, hx198_1⟩ := at_T32 (Kd.R_reads' HO_11.out).2.2 x13_1 p198 q198
         cases e198
         replace p198 := eq_true p198
         replace q198 := eq_true q198
         go_wp2_with (first | ((with_reducible refine gate_dst (N := 6) rfl ?_); refine box_event ?hg (N := 6) ?hd (cs := #[.int .i64 0, .int .i64 0]) (t := 32) ?hr ?_; (case hd => rfl); (case hg => rfl); (case hr => first | (go_simp; done) | (go_simp; rfl)); intro gb199 hg w17 hbox hb; have n0_ := Aside0.mk (Kd.R_below (Kd.R_elderB (Lam.rq HO_4.out) gb199 (Nat.le_of_eq hg.symm)) hb); have n1_ := Aside0.mk (Kd.R_below (Kd.R_elderB (Lam.rq HO_11.out) gb199 (Nat.le_of_eq hg.symm)) hb); have n2_ := Aside0.mk (blk_below (g := gb193) (o := .cells #[.int .i64 a0_0, .int .i64 a0_1] 32 (0, 0)) (Lam.bq BK193.out) hb); have n3_ := Aside0.mk (below_step (Lam.al) hb); have n4_ := Aside0.mk (hbox); have n5_ := Aside0.mk ((by rw [hg]; exact (below_size (Lam.al)) : w.heap.size ≤ gb199)); have n6_ := Aside0.mk ((by rw [hg]; exact (below_size (Lam.al)) : w.heap.size ≤ gb199)); have n7_ := Aside0.mk ((by rw [hg]; exact Nat.ne_of_lt (blk_lt (g := gb193) (o := .cells #[.int .i64 a0_0, .int .i64 a0_1] 32 (0, 0)) (Lam.bq BK193.out)) : gb193 ≠ gb199)); have n8_ := Aside0.mk ((by rw [hg]; exact Nat.ne_of_gt (blk_lt (g := gb193) (o := .cells #[.int .i64 a0_0, .int .i64 a0_1] 32 (0, 0)) (Lam.bq BK193.out)) : gb199 ≠ gb193)); clear HO_4; clear HO_11; clear BK193; clear HB; have HO_4 := n0_; have HO_11 := n1_; have BK193 := n2_; have HB := n3_; have BK199 := n4_; have GW199 := n5_; have GE199 := n6_; have NB193_199 := n7_; have NB199_193 := n8_; clear n0_ n1_ n2_ n3_ n4_ n5_ n6_ n7_ n8_; clear hb hbox hg; have hnb18 := NB199_193.out; have hnc18 := NB193_199.out; have hcz19_0 : w17.cell? ⟨gb199, 0, none⟩ = some (.int .i64 0) := (blk_cell BK199.out 0).trans rfl; have hcz19_1 : w17.cell? ⟨gb199, 1, none⟩ = some (.int .i64 0) := (blk_cell BK199.out 1).trans rfl; have hfz19_0 := blk_frozen BK199.out 0; have hfz19_1 := blk_frozen BK199.out 1) | ((with_reducible refine gate_callee (f := 108) rfl ?_); refine goesL_ (some 18) rfl rfl Try.func108 (by kernel_rfl) rfl #[.agg #[.int .i64 ((rd_T32 t195 x13_1).f0), .int .i64 ((rd_T32 t195 x13_1).f1)]] rfl (by (try simp only [List.map_toArray, List.map_cons, List.map_nil]); first | done | rfl | (simp only [List.length_drop, List.length_take]; rfl)) ?_; (with_reducible refine (spec_laHeap.calls ((rd_T32 t195 x13_1).f0) ((rd_T32 t195 x13_1).f1) t200 _ A14.out).mono ?_); rintro e w20 ⟨rfl, hb⟩; refine ⟨_, rfl, ?_⟩; have n0_ := Aside0.mk (Kd.R_below (by (with_reducible repeat (first | apply Kd.R_alloc | apply Kd.R_drewN | apply Kd.R_drew)); exact (Kd.R_mono (Kd.R_far (p := ⟨gb199, 1, none⟩) (Kd.R_far (p := ⟨gb199, 0, none⟩) (Kd.R_mono HO_4.out (fun k_ hk => (⟨hk, hk.2⟩ : _ ∧ k_ ≠ gb199))) (fun _ hk => hk.2) (.int .i64 ((rd_T32 t195 x13_1).f0))) (fun _ hk => hk.2) (.int .i64 ((rd_T32 t195 x13_1).f1))) (fun _ h_ => h_.1))) hb); have n1_ := Aside0.mk (Kd.R_below (by (with_reducible repeat (first | apply Kd.R_alloc | apply Kd.R_drewN | apply Kd.R_drew)); exact (Kd.R_mono (Kd.R_far (p := ⟨gb199, 1, none⟩) (Kd.R_far (p := ⟨gb199, 0, none⟩) (Kd.R_mono HO_11.out (fun k_ hk => (⟨hk, hk.2⟩ : _ ∧ k_ ≠ gb199))) (fun _ hk => hk.2) (.int .i64 ((rd_T32 t195 x13_1).f0))) (fun _ hk => hk.2) (.int .i64 ((rd_T32 t195 x13_1).f1))) (fun _ h_ => h_.1))) hb); have n2_ := Aside0.mk (blk_below (g := gb193) (o := .cells #[.int .i64 a0_0, .int .i64 a0_1] 32 (0, 0)) (by (with_reducible repeat (first | refine blk_drewN ?_ _ | refine blk_drew ?_ | refine blk_alloc ?_ _)); refine blk_far ?_ NB193_199.out _; (with_reducible repeat (first | refine blk_drewN ?_ _ | refine blk_drew ?_ | refine blk_alloc ?_ _)); refine blk_far ?_ NB193_199.out _; (with_reducible repeat (first | refine blk_drewN ?_ _ | refine blk_drew ?_ | refine blk_alloc ?_ _)); exact BK193.out) hb); have n3_ := Aside0.mk (blk_below (g := gb199) (o := .cells #[.int .i64 ((rd_T32 t195 x13_1).f0), .int .i64 ((rd_T32 t195 x13_1).f1)] 32 (0, 0)) (by (with_reducible repeat (first | refine blk_drewN ?_ _ | refine blk_drew ?_ | refine blk_alloc ?_ _)); refine blk_put (cs := #[.int .i64 ((rd_T32 t195 x13_1).f0), .int .i64 0]) ?_ 1 _ rfl; (with_reducible repeat (first | refine blk_drewN ?_ _ | refine blk_drew ?_ | refine blk_alloc ?_ _)); refine blk_put (cs := #[.int .i64 0, .int .i64 0]) ?_ 0 _ rfl; (with_reducible repeat (first | refine blk_drewN ?_ _ | refine blk_drew ?_ | refine blk_alloc ?_ _)); exact BK199.out) hb); have n4_ := Aside0.mk (below_step (Lam.al) hb); clear HO_4; clear HO_11; clear BK193; clear BK199; clear HB; have HO_4 := n0_; have HO_11 := n1_; have BK193 := n2_; have BK199 := n3_; have HB := n4_; clear n0_ n1_ n2_ n3_ n4_; (try clear hb); (try clear hb2); (try clear hk); (try clear hi); have hcz21_0 : w20.cell? ⟨gb199, 0, none⟩ = some (.int .i64 ((rd_T32 t195 x13_1).f0)) := (blk_cell BK199.out 0).trans rfl; have hcz21_1 : w20.cell? ⟨gb199, 1, none⟩ = some (.int .i64 ((rd_T32 t195 x13_1).f1)) := (blk_cell BK199.out 1).trans rfl; have hfz21_0 := blk_frozen BK199.out 0; have hfz21_1 := blk_frozen BK199.out 1) | ((with_reducible refine gate_builtin (b := .append) (xs := #[.tmp 20, .tmp 22]) rfl ?_); at_builtin; refine Kd.R_append k32 (w0 := w) w.heap.size rfl (.tmp 20) (.tmp 22) 36 32 (.agg #[(.int .i64 0), (.int .i64 0)]) 16 rfl Try.underlying36 info32 rfl (by decide) (by omega) u4 x4_1 (⟨(rd_T32 t195 x13_1).f0, (rd_T32 t195 x13_1).f1⟩ : S32) [.int .i64 ((rd_T32 t195 x13_1).f0), .int .i64 ((rd_T32 t195 x13_1).f1)] (fun k_ => some k_ ≠ (.slice (some ad198) t195.length co10 : Value).ownBlock ∧ k_ ≠ gb193 ∧ k_ ≠ gb199) (fun _ => False) rfl rfl ?aP (fun _ hk => hk.elim) ?aF ?aO ?aB ?aS ?aL ?_; (case aP => exact k32_mkM _ _ _ (⟨(rd_T32 t195 x13_1).f0, (rd_T32 t195 x13_1).f1⟩ : S32)); (case aB => exact (Lam.al)); (case aF => exact (fun k_ hk => ⟨Kd.fresh' (Kd.R_lt (Lam.rq HO_11.out)) k_ hk, Kd.freshB (g := gb193) (o := .cells #[.int .i64 a0_0, .int .i64 a0_1] 32 (0, 0)) (Lam.bq BK193.out) k_ hk, Kd.freshB (g := gb199) (o := .cells #[.int .i64 ((rd_T32 t195 x13_1).f0), .int .i64 ((rd_T32 t195 x13_1).f1)] 32 (0, 0)) (Lam.bq BK199.out) k_ hk⟩)); (case aO => exact (by (with_reducible repeat (first | apply Kd.R_alloc | apply Kd.R_drewN | apply Kd.R_drew)); exact Kd.R_mono HO_4.out (fun _ hk => ⟨hk.1.1, ⟨hk.1.2, hk.2⟩⟩))); (case aS => exact (below_size (Lam.al))); (case aL => have := LMc16.out; omega); intro v202 w22 ho hb hg hat; rw [← Ny201.out] at ho; have n0_ := Aside0.mk (Kd.R_after (ok := (fun k_ => k_ ≠ gb193 ∧ k_ ≠ gb199)) (by (with_reducible repeat (first | apply Kd.R_alloc | apply Kd.R_drewN | apply Kd.R_drew)); exact Kd.R_mono HO_11.out (fun _ hk => ⟨⟨hk.1.2, hk.2⟩, hk.1.1⟩)) hg hat); have n1_ := Aside0.mk (blk_grown (g := gb193) (o := .cells #[.int .i64 a0_0, .int .i64 a0_1] 32 (0, 0)) (Lam.bq BK193.out) hg (Kd.R_away HO_4.out (fun _ hk => hk.1.2))); have n2_ := Aside0.mk (blk_grown (g := gb199) (o := .cells #[.int .i64 ((rd_T32 t195 x13_1).f0), .int .i64 ((rd_T32 t195 x13_1).f1)] 32 (0, 0)) (Lam.bq BK199.out) hg (Kd.R_away HO_4.out (fun _ hk => hk.2))); have n3_ := Aside0.mk (hb); have n4_ := Aside0.mk (ho); clear HO_11; clear BK193; clear BK199; clear HB; clear HO_4; have HO_11 := n0_; have BK193 := n1_; have BK199 := n2_; have HB := n3_; have HO203 := n4_; clear n0_ n1_ n2_ n3_ n4_; clear ho hb hg hat))
         go_roundg k1
         case measure => have := HK1.out; omega
         case rel => exact ⟨(y201), (wrap64 (x13_1 + 1)), (by first | rfl | (simp; done) | (simp [*]; done)), H', ⟨by have := HK1.out; omega⟩, ⟨by (with_reducible repeat (first | apply Kd.R_alloc | apply Kd.R_drewN | apply Kd.R_drew)); exact Kd.R_mono HO203.out (fun _ hk => ⟨hk.1, hk.2.1⟩)⟩, ⟨by (with_reducible repeat (first | apply Kd.R_alloc | apply Kd.R_drewN | apply Kd.R_drew)); exact Kd.R_mono HO_11.out (fun _ hk => ⟨hk.2, hk.1.1⟩)⟩, ⟨Lam.bq BK193.out⟩, ⟨Lam.al⟩⟩
        ·rw [if_neg c16] at H
         exact absurd H (by simp)
       ·rw [if_neg c15] at H
        have c15b0 : (t200 == 0) = false := beq_eq_false_iff_ne.mpr c15
        have c15b1 : (t200 != 0) = true := bne_iff_ne.mpr c15
        have H' := Aside0.mk H
        clear H
        have p198 : 0 ≤ (x13_1 : Int) := of_decide_eq_true (by first | (with_reducible assumption) | assumption)
        have q198 : x13_1 < (t195.length : Int) := of_decide_eq_true (by first | (with_reducible assumption) | assumption)
        obtain ⟨ad198, e198, hx198_0, hx198_1⟩ := at_T32 (Kd.R_reads' HO_11.out).2.2 x13_1 p198 q198
        cases e198
        replace p198 := eq_true p198
        replace q198 := eq_true q198
        go_wp2_with (first | ((with_reducible refine gate_dst (N := 6) rfl ?_); refine box_event ?hg (N := 6) ?hd (cs := #[.int .i64 0, .int .i64 0]) (t := 32) ?hr ?_; (case hd => rfl); (case hg => rfl); (case hr => first | (go_simp; done) | (go_simp; rfl)); intro gb199 hg w23 hbox hb; have n0_ := Aside0.mk (Kd.R_below (Kd.R_elderB (Lam.rq HO_4.out) gb199 (Nat.le_of_eq hg.symm)) hb); have n1_ := Aside0.mk (Kd.R_below (Kd.R_elderB (Lam.rq HO_11.out) gb199 (Nat.le_of_eq hg.symm)) hb); have n2_ := Aside0.mk (blk_below (g := gb193) (o := .cells #[.int .i64 a0_0, .int .i64 a0_1] 32 (0, 0)) (Lam.bq BK193.out) hb); have n3_ := Aside0.mk (below_step (Lam.al) hb); have n4_ := Aside0.mk (hbox); have n5_ := Aside0.mk ((by rw [hg]; exact (below_size (Lam.al)) : w.heap.size ≤ gb199)); have n6_ := Aside0.mk ((by rw [hg]; exact (below_size (Lam.al)) : w.heap.size ≤ gb199)); have n7_ := Aside0.mk ((by rw [hg]; exact Nat.ne_of_lt (blk_lt (g := gb193) (o := .cells #[.int .i64 a0_0, .int .i64 a0_1] 32 (0, 0)) (Lam.bq BK193.out)) : gb193 ≠ gb199)); have n8_ := Aside0.mk ((by rw [hg]; exact Nat.ne_of_gt (blk_lt (g := gb193) (o := .cells #[.int .i64 a0_0, .int .i64 a0_1] 32 (0, 0)) (Lam.bq BK193.out)) : gb199 ≠ gb193)); clear HO_4; clear HO_11; clear BK193; clear HB; have HO_4 := n0_; have HO_11 := n1_; have BK193 := n2_; have HB := n3_; have BK199 := n4_; have GW199 := n5_; have GE199 := n6_; have NB193_199 := n7_; have NB199_193 := n8_; clear n0_ n1_ n2_ n3_ n4_ n5_ n6_ n7_ n8_; clear hb hbox hg; have hnb24 := NB199_193.out; have hnc24 := NB193_199.out; have hcz25_0 : w23.cell? ⟨gb199, 0, none⟩ = some (.int .i64 0) := (blk_cell BK199.out 0).trans rfl; have hcz25_1 : w23.cell? ⟨gb199, 1, none⟩ = some (.int .i64 0) := (blk_cell BK199.out 1).trans rfl; have hfz25_0 := blk_frozen BK199.out 0; have hfz25_1 := blk_frozen BK199.out 1) | ((with_reducible refine gate_callee (f := 108) rfl ?_); refine goesL_ (some 18) rfl rfl Try.func108 (by kernel_rfl) rfl #[.agg #[.int .i64 ((rd_T32 t195 x13_1).f0), .int .i64 ((rd_T32 t195 x13_1).f1)]] rfl (by (try simp only [List.map_toArray, List.map_cons, List.map_nil]); first | done | rfl | (simp only [List.length_drop, List.length_take]; rfl)) ?_; (with_reducible refine (spec_laHeap.calls ((rd_T32 t195 x13_1).f0) ((rd_T32 t195 x13_1).f1) t200 _ A14.out).mono ?_); rintro e w26 ⟨rfl, hb⟩; refine ⟨_, rfl, ?_⟩; have n0_ := Aside0.mk (Kd.R_below (by (with_reducible repeat (first | apply Kd.R_alloc | apply Kd.R_drewN | apply Kd.R_drew)); exact (Kd.R_mono (Kd.R_far (p := ⟨gb199, 1, none⟩) (Kd.R_far (p := ⟨gb199, 0, none⟩) (Kd.R_mono HO_4.out (fun k_ hk => (⟨hk, hk.2⟩ : _ ∧ k_ ≠ gb199))) (fun _ hk => hk.2) (.int .i64 ((rd_T32 t195 x13_1).f0))) (fun _ hk => hk.2) (.int .i64 ((rd_T32 t195 x13_1).f1))) (fun _ h_ => h_.1))) hb); have n1_ := Aside0.mk (Kd.R_below (by (with_reducible repeat (first | apply Kd.R_alloc | apply Kd.R_drewN | apply Kd.R_drew)); exact (Kd.R_mono (Kd.R_far (p := ⟨gb199, 1, none⟩) (Kd.R_far (p := ⟨gb199, 0, none⟩) (Kd.R_mono HO_11.out (fun k_ hk => (⟨hk, hk.2⟩ : _ ∧ k_ ≠ gb199))) (fun _ hk => hk.2) (.int .i64 ((rd_T32 t195 x13_1).f0))) (fun _ hk => hk.2) (.int .i64 ((rd_T32 t195 x13_1).f1))) (fun _ h_ => h_.1))) hb); have n2_ := Aside0.mk (blk_below (g := gb193) (o := .cells #[.int .i64 a0_0, .int .i64 a0_1] 32 (0, 0)) (by (with_reducible repeat (first | refine blk_drewN ?_ _ | refine blk_drew ?_ | refine blk_alloc ?_ _)); refine blk_far ?_ NB193_199.out _; (with_reducible repeat (first | refine blk_drewN ?_ _ | refine blk_drew ?_ | refine blk_alloc ?_ _)); refine blk_far ?_ NB193_199.out _; (with_reducible repeat (first | refine blk_drewN ?_ _ | refine blk_drew ?_ | refine blk_alloc ?_ _)); exact BK193.out) hb); have n3_ := Aside0.mk (blk_below (g := gb199) (o := .cells #[.int .i64 ((rd_T32 t195 x13_1).f0), .int .i64 ((rd_T32 t195 x13_1).f1)] 32 (0, 0)) (by (with_reducible repeat (first | refine blk_drewN ?_ _ | refine blk_drew ?_ | refine blk_alloc ?_ _)); refine blk_put (cs := #[.int .i64 ((rd_T32 t195 x13_1).f0), .int .i64 0]) ?_ 1 _ rfl; (with_reducible repeat (first | refine blk_drewN ?_ _ | refine blk_drew ?_ | refine blk_alloc ?_ _)); refine blk_put (cs := #[.int .i64 0, .int .i64 0]) ?_ 0 _ rfl; (with_reducible repeat (first | refine blk_drewN ?_ _ | refine blk_drew ?_ | refine blk_alloc ?_ _)); exact BK199.out) hb); have n4_ := Aside0.mk (below_step (Lam.al) hb); clear HO_4; clear HO_11; clear BK193; clear BK199; clear HB; have HO_4 := n0_; have HO_11 := n1_; have BK193 := n2_; have BK199 := n3_; have HB := n4_; clear n0_ n1_ n2_ n3_ n4_; (try clear hb); (try clear hb2); (try clear hk); (try clear hi)))
        go_roundg k1
        case measure => have := HK1.out; omega
        case rel => exact ⟨(x4_1), (wrap64 (x13_1 + 1)), (by first | rfl | (simp; done) | (simp [*]; done)), H', ⟨by have := HK1.out; omega⟩, ⟨by (with_reducible repeat (first | apply Kd.R_alloc | apply Kd.R_drewN | apply Kd.R_drew)); exact Kd.R_mono HO_4.out (fun _ hk => ⟨hk.1.1, hk.1.2⟩)⟩, ⟨by (with_reducible repeat (first | apply Kd.R_alloc | apply Kd.R_drewN | apply Kd.R_drew)); exact Kd.R_mono HO_11.out (fun _ hk => ⟨hk.1.1, hk.1.2⟩)⟩, ⟨Lam.bq BK193.out⟩, ⟨Lam.al⟩⟩
      ·rw [if_neg c13] at H
       exact absurd H (by simp)
     ·rw [if_neg c12] at H
      exact absurd H (by simp)
    ·rw [if_neg c11] at H
     have c11b0 : decide (x13_1 < (t195.length : Int)) = false := decide_eq_false c11
     clear c11
     simp only [Option.some.injEq, Prod.mk.injEq] at H
     obtain ⟨rfl, rfl⟩ := H
     go_wp2
     go_ret2
     exact ⟨_, by first | rfl | (simp [errW_none, errW_some] <;> rfl) | (simp [*, errW_none, errW_some] <;> rfl), by (with_reducible repeat (first | apply Kd.R_alloc | apply Kd.R_drewN | apply Kd.R_drew)); exact Kd.R_mono HO_4.out (fun _ hk => trivial), Lam.al⟩
 ·replace c3 := Bool.eq_false_iff.mpr c3
  subst c3
  have H1 : (some (([] : List (S32)), false)) = some (r1, r2) := by rw [if_neg (show ¬ (false = true) by decide)] at H; exact H
  clear H
  have H := H1
  clear H1
  simp only [Option.some.injEq, Prod.mk.injEq] at H
  obtain ⟨rfl, rfl⟩ := H
  go_enter Try.func21, Try.ntmps21
  go_wp2_with (first | ((with_reducible refine gate_dst (N := 1) rfl ?_); refine box_event ?hg (N := 1) ?hd (cs := #[.int .i64 a0_0, .int .i64 a0_1]) (t := 32) ?hr ?_; (case hd => rfl); (case hg => rfl); (case hr => first | (go_simp; done) | (go_simp; rfl)); intro gb193 hg w27 hbox hb; have n0_ := Aside0.mk (below_step (Lam.al) hb); have n1_ := Aside0.mk (hbox); have n2_ := Aside0.mk ((by rw [hg]; exact (below_size (Lam.al)) : w.heap.size ≤ gb193)); have n3_ := Aside0.mk ((by rw [hg]; exact (below_size (Lam.al)) : w.heap.size ≤ gb193)); clear HB; have HB := n0_; have BK193 := n1_; have GW193 := n2_; have GE193 := n3_; clear n0_ n1_ n2_ n3_; clear hb hbox hg; have hcz28_0 : w27.cell? ⟨gb193, 0, none⟩ = some (.int .i64 a0_0) := (blk_cell BK193.out 0).trans rfl; have hcz28_1 : w27.cell? ⟨gb193, 1, none⟩ = some (.int .i64 a0_1) := (blk_cell BK193.out 1).trans rfl; have hfz28_0 := blk_frozen BK193.out 0; have hfz28_1 := blk_frozen BK193.out 1) | ((with_reducible refine gate_callee (f := 107) rfl ?_); refine goesL_ (some 8) rfl rfl Try.func107 (by kernel_rfl) rfl #[.agg #[.int .i64 a0_0, .int .i64 a0_1]] rfl (by (try simp only [List.map_toArray, List.map_cons, List.map_nil]); first | done | rfl | (simp only [List.length_drop, List.length_take]; rfl)) ?_; (with_reducible refine (spec_brGood.calls a0_0 a0_1 false _ A2.out).mono ?_); rintro e w29 ⟨rfl, hb⟩; refine ⟨_, rfl, ?_⟩; have n0_ := Aside0.mk (blk_below (g := gb193) (o := .cells #[.int .i64 a0_0, .int .i64 a0_1] 32 (0, 0)) (Lam.bq BK193.out) hb); have n1_ := Aside0.mk (below_step (Lam.al) hb); clear BK193; clear HB; have BK193 := n0_; have HB := n1_; clear n0_ n1_; (try clear hb); (try clear hb2); (try clear hk); (try clear hi)))
  go_ret2
  exact ⟨_, by first | rfl | (simp [errW_none, errW_some] <;> rfl) | (simp [*, errW_none, errW_some] <;> rfl), by first | exact Kd.R_nil _ _ _ _ _ | exact Kd.N_nil _ _ _ _ _ | exact Kd.V_nil _ _ _ _ _ | exact Kd.Q_nil _ _ _ _ _ | exact Kd.S_nil _ _ _ _ _, Lam.al⟩

/-! ### spec_KeptHeap: function 23 -/
def spec_KeptHeap.f (a0_0 : Int) (a0_1 : Int) : Option (Int × Bool) := (spec_brGood.f a0_0 a0_1).bind fun t205 => (if t205 = true then ((spec_laHeap.f a0_0 a0_1).bind fun t206 => (some (t206, true))) else (some (0, false)))
set_option maxHeartbeats 8000000 in
set_option maxRecDepth 100000 in
theorem spec_KeptHeap.calls (a0_0 : Int) (a0_1 : Int) (r1 : Int) (r2 : Bool) (w : World) (h : spec_KeptHeap.f a0_0 a0_1 = some (r1, r2)) :
  Calls Try.prog 23 #[.agg #[.int .i64 a0_0, .int .i64 a0_1]] w fun e w' => e = .returned (.tuple #[.int .i64 r1, .bool r2]) ∧ Below w.heap.size w w' := by
 have hu32 := Try.underlying32
 have HB := Aside0.mk (Below.refl w.heap.size w)
 have H : ((spec_brGood.f a0_0 a0_1).bind fun t205 => (if t205 = true then ((spec_laHeap.f a0_0 a0_1).bind fun t206 => (some (t206, true))) else (some (0, false)))) = some (r1, r2) := h
 clear h
 replace H := Option.bind_eq_some_iff.mp H
 obtain ⟨t205, A20, H⟩ := H
 (try dsimp only at H)
 have A2 := Aside0.mk A20
 clear A20
 by_cases c3 : t205 = true
 ·subst c3
  have H1 : ((spec_laHeap.f a0_0 a0_1).bind fun t206 => (some (t206, true))) = some (r1, r2) := by rw [if_pos rfl] at H; exact H
  clear H
  have H := H1
  clear H1
  replace H := Option.bind_eq_some_iff.mp H
  obtain ⟨t206, A40, H⟩ := H
  replace H : (some (t206, true)) = some (r1, r2) := H
  have A4 := Aside0.mk A40
  clear A40
  simp only [Option.some.injEq, Prod.mk.injEq] at H
  obtain ⟨rfl, rfl⟩ := H
  go_enter Try.func23, Try.ntmps23
  go_wp2_with (first | ((with_reducible refine gate_dst (N := 1) rfl ?_); refine box_event ?hg (N := 1) ?hd (cs := #[.int .i64 a0_0, .int .i64 a0_1]) (t := 32) ?hr ?_; (case hd => rfl); (case hg => rfl); (case hr => first | (go_simp; done) | (go_simp; rfl)); intro gb204 hg w5 hbox hb; have n0_ := Aside0.mk (below_step (Lam.al) hb); have n1_ := Aside0.mk (hbox); have n2_ := Aside0.mk ((by rw [hg]; exact (below_size (Lam.al)) : w.heap.size ≤ gb204)); have n3_ := Aside0.mk ((by rw [hg]; exact (below_size (Lam.al)) : w.heap.size ≤ gb204)); clear HB; have HB := n0_; have BK204 := n1_; have GW204 := n2_; have GE204 := n3_; clear n0_ n1_ n2_ n3_; clear hb hbox hg; have hcz6_0 : w5.cell? ⟨gb204, 0, none⟩ = some (.int .i64 a0_0) := (blk_cell BK204.out 0).trans rfl; have hcz6_1 : w5.cell? ⟨gb204, 1, none⟩ = some (.int .i64 a0_1) := (blk_cell BK204.out 1).trans rfl; have hfz6_0 := blk_frozen BK204.out 0; have hfz6_1 := blk_frozen BK204.out 1) | ((with_reducible refine gate_callee (f := 107) rfl ?_); refine goesL_ (some 5) rfl rfl Try.func107 (by kernel_rfl) rfl #[.agg #[.int .i64 a0_0, .int .i64 a0_1]] rfl (by (try simp only [List.map_toArray, List.map_cons, List.map_nil]); first | done | rfl | (simp only [List.length_drop, List.length_take]; rfl)) ?_; (with_reducible refine (spec_brGood.calls a0_0 a0_1 true _ A2.out).mono ?_); rintro e w7 ⟨rfl, hb⟩; refine ⟨_, rfl, ?_⟩; have n0_ := Aside0.mk (blk_below (g := gb204) (o := .cells #[.int .i64 a0_0, .int .i64 a0_1] 32 (0, 0)) (Lam.bq BK204.out) hb); have n1_ := Aside0.mk (below_step (Lam.al) hb); clear BK204; clear HB; have BK204 := n0_; have HB := n1_; clear n0_ n1_; (try clear hb); (try clear hb2); (try clear hk); (try clear hi); have hcz8_0 : w7.cell? ⟨gb204, 0, none⟩ = some (.int .i64 a0_0) := (blk_cell BK204.out 0).trans rfl; have hcz8_1 : w7.cell? ⟨gb204, 1, none⟩ = some (.int .i64 a0_1) := (blk_cell BK204.out 1).trans rfl; have hfz8_0 := blk_frozen BK204.out 0; have hfz8_1 := blk_frozen BK204.out 1) | ((with_reducible refine gate_callee (f := 108) rfl ?_); refine goesL_ (some 8) rfl rfl Try.func108 (by kernel_rfl) rfl #[.agg #[.int .i64 a0_0, .int .i64 a0_1]] rfl (by (try simp only [List.map_toArray, List.map_cons, List.map_nil]); first | done | rfl | (simp only [List.length_drop, List.length_take]; rfl)) ?_; (with_reducible refine (spec_laHeap.calls a0_0 a0_1 t206 _ A4.out).mono ?_); rintro e w9 ⟨rfl, hb⟩; refine ⟨_, rfl, ?_⟩; have n0_ := Aside0.mk (blk_below (g := gb204) (o := .cells #[.int .i64 a0_0, .int .i64 a0_1] 32 (0, 0)) (Lam.bq BK204.out) hb); have n1_ := Aside0.mk (below_step (Lam.al) hb); clear BK204; clear HB; have BK204 := n0_; have HB := n1_; clear n0_ n1_; (try clear hb); (try clear hb2); (try clear hk); (try clear hi)))
  go_ret2
  exact ⟨by first | rfl | (simp [errW_none, errW_some] <;> rfl) | (simp [*, errW_none, errW_some] <;> rfl), Lam.al⟩
 ·replace c3 := Bool.eq_false_iff.mpr c3
  subst c3
  have H1 : (some (0, false)) = some (r1, r2) := by rw [if_neg (show ¬ (false = true) by decide)] at H; exact H
  clear H
  have H := H1
  clear H1
  simp only [Option.some.injEq, Prod.mk.injEq] at H
  obtain ⟨rfl, rfl⟩ := H
  go_enter Try.func23, Try.ntmps23
  go_wp2_with (first | ((with_reducible refine gate_dst (N := 1) rfl ?_); refine box_event ?hg (N := 1) ?hd (cs := #[.int .i64 a0_0, .int .i64 a0_1]) (t := 32) ?hr ?_; (case hd => rfl); (case hg => rfl); (case hr => first | (go_simp; done) | (go_simp; rfl)); intro gb204 hg w10 hbox hb; have n0_ := Aside0.mk (below_step (Lam.al) hb); have n1_ := Aside0.mk (hbox); have n2_ := Aside0.mk ((by rw [hg]; exact (below_size (Lam.al)) : w.heap.size ≤ gb204)); have n3_ := Aside0.mk ((by rw [hg]; exact (below_size (Lam.al)) : w.heap.size ≤ gb204)); clear HB; have HB := n0_; have BK204 := n1_; have GW204 := n2_; have GE204 := n3_; clear n0_ n1_ n2_ n3_; clear hb hbox hg; have hcz11_0 : w10.cell? ⟨gb204, 0, none⟩ = some (.int .i64 a0_0) := (blk_cell BK204.out 0).trans rfl; have hcz11_1 : w10.cell? ⟨gb204, 1, none⟩ = some (.int .i64 a0_1) := (blk_cell BK204.out 1).trans rfl; have hfz11_0 := blk_frozen BK204.out 0; have hfz11_1 := blk_frozen BK204.out 1) | ((with_reducible refine gate_callee (f := 107) rfl ?_); refine goesL_ (some 5) rfl rfl Try.func107 (by kernel_rfl) rfl #[.agg #[.int .i64 a0_0, .int .i64 a0_1]] rfl (by (try simp only [List.map_toArray, List.map_cons, List.map_nil]); first | done | rfl | (simp only [List.length_drop, List.length_take]; rfl)) ?_; (with_reducible refine (spec_brGood.calls a0_0 a0_1 false _ A2.out).mono ?_); rintro e w12 ⟨rfl, hb⟩; refine ⟨_, rfl, ?_⟩; have n0_ := Aside0.mk (blk_below (g := gb204) (o := .cells #[.int .i64 a0_0, .int .i64 a0_1] 32 (0, 0)) (Lam.bq BK204.out) hb); have n1_ := Aside0.mk (below_step (Lam.al) hb); clear BK204; clear HB; have BK204 := n0_; have HB := n1_; clear n0_ n1_; (try clear hb); (try clear hb2); (try clear hk); (try clear hi)))
  go_ret2
  exact ⟨by first | rfl | (simp [errW_none, errW_some] <;> rfl) | (simp [*, errW_none, errW_some] <;> rfl), Lam.al⟩

/-! ### impl_Bar_squares: function 116 -/
def impl_Bar_squares.f (a0_0 : Int) (a0_1 : Int) : Option (Int) := some (wrap64 (a0_0 * a0_1))
set_option maxHeartbeats 8000000 in
set_option maxRecDepth 100000 in
theorem impl_Bar_squares.calls (a0_0 : Int) (a0_1 : Int) (r : Int) (w : World) (h : impl_Bar_squares.f a0_0 a0_1 = some r) :
  Calls Try.prog 116 #[.agg #[.int .i64 a0_0, .int .i64 a0_1]] w fun e w' => e = .returned (.int .i64 r) ∧ Below w.heap.size w w' := by
 have hu32 := Try.underlying32
 have HB := Aside0.mk (Below.refl w.heap.size w)
 have H : (some (wrap64 (a0_0 * a0_1))) = some r := h
 clear h
 obtain rfl := Option.some.inj H
 go_enter Try.func116, Try.ntmps116
 go_wp2_with (first | ((with_reducible refine gate_dst (N := 1) rfl ?_); refine box_event ?hg (N := 1) ?hd (cs := #[.int .i64 a0_0, .int .i64 a0_1]) (t := 32) ?hr ?_; (case hd => rfl); (case hg => rfl); (case hr => first | (go_simp; done) | (go_simp; rfl)); intro gb207 hg w2 hbox hb; have n0_ := Aside0.mk (below_step (Lam.al) hb); have n1_ := Aside0.mk (hbox); have n2_ := Aside0.mk ((by rw [hg]; exact (below_size (Lam.al)) : w.heap.size ≤ gb207)); have n3_ := Aside0.mk ((by rw [hg]; exact (below_size (Lam.al)) : w.heap.size ≤ gb207)); clear HB; have HB := n0_; have BK207 := n1_; have GW207 := n2_; have GE207 := n3_; clear n0_ n1_ n2_ n3_; clear hb hbox hg; have hcz3_0 : w2.cell? ⟨gb207, 0, none⟩ = some (.int .i64 a0_0) := (blk_cell BK207.out 0).trans rfl; have hcz3_1 : w2.cell? ⟨gb207, 1, none⟩ = some (.int .i64 a0_1) := (blk_cell BK207.out 1).trans rfl; have hfz3_0 := blk_frozen BK207.out 0; have hfz3_1 := blk_frozen BK207.out 1))
 go_ret
 exact ⟨by first | rfl | (simp [errW_none, errW_some] <;> rfl) | (simp [*, errW_none, errW_some] <;> rfl), Lam.al⟩

end Go.Proofs.Ytdikeggkfkkajaa.PFnBreaksKept
