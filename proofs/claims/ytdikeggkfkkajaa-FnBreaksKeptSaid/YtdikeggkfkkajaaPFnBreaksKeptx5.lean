-- Made by a program of this session (wip/xprint.py) out of the translation.
import Derived.Test.YtdikeggkfkkajaaPFnBreaksKeptx0
import Derived.Test.YtdikeggkfkkajaaPFnBreaksKeptx2
import Derived.Test.YtdikeggkfkkajaaPFnBreaksKeptx3
import Derived.Test.YtdikeggkfkkajaaPFnBreaksKeptx4
namespace Go.Proofs.Ytdikeggkfkkajaa.PFnBreaksKept
open Go.RowKit Go.Proofs.YtdikeggkfkkajaaW.PrintWords Go.Proofs.YtdikeggkfkkajaaW.PrintLast Go.Proofs.YtdikeggkfkkajaaW.PrintMore
attribute [local go_sem] max2_int min2_int max_two min_two max_three min_three max_four min_four   -- for this text's walks alone
set_option linter.unusedVariables false
set_option linter.unusedSimpArgs false

/-! ### impl_CountKeptPlays: function 24 -/
def impl_CountKeptPlays.kept (w h : Nat) : List (Nat × Nat) := ((List.range' 1 (w - 1)).map fun x => (x, h)) ++ (List.range' 1 (h - 1)).map fun y => (w, y)
def impl_CountKeptPlays.cap (l : List Nat) : Nat := l.foldl (fun a n => min (a + n) 1000000000000001) 0
def impl_CountKeptPlays.cntF : Nat → Nat → Nat → Nat
 | 0, _, _ => 1
 | s + 1, w, h => if w * h = 1 then 1 else impl_CountKeptPlays.cap ((impl_CountKeptPlays.kept w h).map fun p => impl_CountKeptPlays.cntF s p.1 p.2)
def impl_CountKeptPlays.cnt (w h : Nat) : Nat := impl_CountKeptPlays.cntF (w + h) w h
theorem impl_CountKeptPlays.kept_in {w h : Nat} {p : Nat × Nat} (h1 : 1 ≤ w) (h2 : 1 ≤ h) (hp : p ∈ impl_CountKeptPlays.kept w h) : (1 ≤ p.1 ∧ p.1 ≤ w) ∧ (1 ≤ p.2 ∧ p.2 ≤ h) ∧ p.1 + p.2 < w + h := by
 unfold impl_CountKeptPlays.kept at hp
 rw [List.mem_append, List.mem_map, List.mem_map] at hp
 rcases hp with ⟨x, hx, rfl⟩ | ⟨y, hy, rfl⟩
 ·rw [List.mem_range'] at hx
  obtain ⟨i, hi, rfl⟩ := hx
  exact ⟨by omega, by omega, by show 1 + 1 * i + h < w + h; omega⟩
 ·rw [List.mem_range'] at hy
  obtain ⟨i, hi, rfl⟩ := hy
  exact ⟨by omega, by omega, by show w + (1 + 1 * i) < w + h; omega⟩
theorem impl_CountKeptPlays.kept_len (w h : Nat) : (impl_CountKeptPlays.kept w h).length = (w - 1) + (h - 1) := by
 unfold impl_CountKeptPlays.kept
 rw [List.length_append, List.length_map, List.length_map, List.length_range', List.length_range']
theorem impl_CountKeptPlays.cntF_eq : ∀ (s t w h : Nat), 1 ≤ w → 1 ≤ h → w + h ≤ s → w + h ≤ t → impl_CountKeptPlays.cntF s w h = impl_CountKeptPlays.cntF t w h := by
 intro s
 induction s with
 | zero => intro t w h h1 h2 h3; omega
 | succ s ih =>
  intro t w h h1 h2 h3 h4
  cases t with
  | zero => omega
  | succ t =>
   unfold impl_CountKeptPlays.cntF
   have : ((impl_CountKeptPlays.kept w h).map fun p => impl_CountKeptPlays.cntF s p.1 p.2) = (impl_CountKeptPlays.kept w h).map fun p => impl_CountKeptPlays.cntF t p.1 p.2 := by
    apply List.map_congr_left
    intro p hp
    have := impl_CountKeptPlays.kept_in h1 h2 hp
    exact ih t p.1 p.2 this.1.1 this.2.1.1 (by omega) (by omega)
   rw [this]
theorem impl_CountKeptPlays.cnt_one : impl_CountKeptPlays.cnt 1 1 = 1 := rfl
theorem impl_CountKeptPlays.cnt_eq {w h : Nat} (h1 : 1 ≤ w) (h2 : 1 ≤ h) (h3 : w * h ≠ 1) : impl_CountKeptPlays.cnt w h = impl_CountKeptPlays.cap ((impl_CountKeptPlays.kept w h).map fun p => impl_CountKeptPlays.cnt p.1 p.2) := by
 obtain ⟨s, hs⟩ : ∃ s, w + h = s + 1 := ⟨w + h - 1, by omega⟩
 have e : impl_CountKeptPlays.cnt w h = impl_CountKeptPlays.cntF (s + 1) w h := by unfold impl_CountKeptPlays.cnt; rw [hs]
 rw [e]
 unfold impl_CountKeptPlays.cntF
 rw [if_neg h3]
 congr 1
 apply List.map_congr_left
 intro p hp
 have := impl_CountKeptPlays.kept_in h1 h2 hp
 exact impl_CountKeptPlays.cntF_eq s (p.1 + p.2) p.1 p.2 this.1.1 this.2.1.1 (by omega) (Nat.le_refl _)
theorem impl_CountKeptPlays.cap_snoc (l : List Nat) (n : Nat) : impl_CountKeptPlays.cap (l ++ [n]) = min (impl_CountKeptPlays.cap l + n) 1000000000000001 := by
 unfold impl_CountKeptPlays.cap; rw [List.foldl_append]; rfl
theorem impl_CountKeptPlays.cap_le (l : List Nat) : impl_CountKeptPlays.cap l ≤ 1000000000000001 := by
 rcases List.eq_nil_or_concat l with rfl | ⟨l', n, rfl⟩
 ·exact Nat.zero_le _
 ·rw [List.concat_eq_append, impl_CountKeptPlays.cap_snoc]; omega
theorem impl_CountKeptPlays.cnt_le {w h : Nat} (h1 : 1 ≤ w) (h2 : 1 ≤ h) : impl_CountKeptPlays.cnt w h ≤ 1000000000000001 := by
 by_cases h3 : w * h = 1
 ·have : w = 1 ∧ h = 1 := by
   have := Nat.le_mul_of_pos_right w h2
   have := Nat.le_mul_of_pos_left h h1
   omega
  rw [this.1, this.2, impl_CountKeptPlays.cnt_one]; omega
 ·rw [impl_CountKeptPlays.cnt_eq h1 h2 h3]; exact impl_CountKeptPlays.cap_le _
abbrev impl_CountKeptPlays.mk (p : Nat × Nat) : S32 := ⟨(p.1 : Int), (p.2 : Int)⟩
theorem impl_CountKeptPlays.moves (w h k : Nat) (hw : 1 ≤ w ∧ w ≤ 12) (hh : 1 ≤ h ∧ h ≤ 12) (hk : 100 ≤ k) : impl_keptMoves.f k (w : Int) (h : Int) = some ((impl_CountKeptPlays.kept w h).map impl_CountKeptPlays.mk) := by
 have down : ∀ (d k i : Nat) (acc : List S32), i + d = h → d + 1 ≤ k → 1 ≤ i → acc.length + d ≤ 100 → impl_keptMoves.l1 k acc (i : Int) (w : Int) (h : Int) = some (acc ++ ((List.range' i d).map fun y => impl_CountKeptPlays.mk (w, y))) := by
  intro d
  induction d with
  | zero =>
   intro k i acc hi hk h1 ha
   obtain ⟨k, rfl⟩ : ∃ q, k = q + 1 := ⟨k - 1, by omega⟩
   simp only [impl_keptMoves.l1]
   rw [if_neg (by omega)]; simp
  | succ d ih =>
   intro k i acc hi hk h1 ha
   obtain ⟨k, rfl⟩ : ∃ q, k = q + 1 := ⟨k - 1, by omega⟩
   simp only [impl_keptMoves.l1]
   rw [if_pos (by omega), if_pos (by omega), PK.w1 (show i < h by omega) (by omega), ih k (i + 1) _ (by omega) (by omega) (by omega) (by rw [List.length_append, List.length_singleton]; omega), List.range'_succ, List.map_cons, List.append_assoc]; rfl
 have across : ∀ (d k i : Nat) (acc : List S32), i + d = w → d + 30 ≤ k → 1 ≤ i → acc.length + d ≤ 50 → impl_keptMoves.l0 k acc (i : Int) (w : Int) (h : Int) = some ((acc ++ ((List.range' i d).map fun x => impl_CountKeptPlays.mk (x, h))) ++ ((List.range' 1 (h - 1)).map fun y => impl_CountKeptPlays.mk (w, y))) := by
  intro d
  induction d with
  | zero =>
   intro k i acc hi hk h1 ha
   obtain ⟨k, rfl⟩ : ∃ q, k = q + 1 := ⟨k - 1, by omega⟩
   simp only [impl_keptMoves.l0]
   have := down (h - 1) k 1 acc (by omega) (by omega) (Nat.le_refl _) (by omega)
   have e1 : ((1 : Nat) : Int) = 1 := rfl
   rw [e1] at this
   rw [if_neg (by omega), this]; simp
  | succ d ih =>
   intro k i acc hi hk h1 ha
   obtain ⟨k, rfl⟩ : ∃ q, k = q + 1 := ⟨k - 1, by omega⟩
   simp only [impl_keptMoves.l0]
   rw [if_pos (by omega), if_pos (by omega), PK.w1 (show i < w by omega) (by omega), ih k (i + 1) _ (by omega) (by omega) (by omega) (by rw [List.length_append, List.length_singleton]; omega), List.range'_succ, List.map_cons, List.append_assoc acc]; rfl
 unfold impl_keptMoves.f impl_CountKeptPlays.kept
 have := across (w - 1) k 1 [] (by omega) (by omega) (Nat.le_refl _) (by simp; omega)
 have e1 : ((1 : Nat) : Int) = 1 := rfl
 rw [e1] at this
 rw [this, List.nil_append, List.map_append, List.map_map, List.map_map]; rfl
/-! the map of what is known -/
abbrev impl_CountKeptPlays.Q : Value → Value → Prop := fun key v => ∃ w h : Nat, (1 ≤ w ∧ w ≤ 12) ∧ (1 ≤ h ∧ h ≤ 12) ∧ key = .agg #[.int .i64 (w : Int), .int .i64 (h : Int)] ∧ v = .int .i64 (impl_CountKeptPlays.cnt w h : Int)
abbrev impl_CountKeptPlays.anyEl : Fmap.El := fun _ => some (.lit (.bool true), [])
abbrev impl_CountKeptPlays.IsK (w : World) (b : Nat) : Prop := Fmap.MapIs Try.prog 32 impl_CountKeptPlays.anyEl impl_CountKeptPlays.Q w b
def impl_CountKeptPlays.num : Value → Nat
 | .agg cs => match cs.toList with
  | [.int _ a, .int _ b] => 100 * a.toNat + b.toNat
  | _ => 0
 | _ => 0
theorem impl_CountKeptPlays.num_lt : ∀ key v, impl_CountKeptPlays.Q key v → impl_CountKeptPlays.num key < 2000 := by
 rintro key v ⟨w, h, hw, hh, rfl, _⟩
 show 100 * (w : Int).toNat + (h : Int).toNat < 2000
 rw [Int.toNat_natCast, Int.toNat_natCast]; omega
theorem impl_CountKeptPlays.num_inj : ∀ key v key' v', impl_CountKeptPlays.Q key v → impl_CountKeptPlays.Q key' v' → impl_CountKeptPlays.num key = impl_CountKeptPlays.num key' → key = key' := by
 rintro key v key' v' ⟨w, h, hw, hh, rfl, _⟩ ⟨w', h', hw', hh', rfl, _⟩ e
 have e2 : 100 * (w : Int).toNat + (h : Int).toNat = 100 * (w' : Int).toNat + (h' : Int).toNat := e
 rw [Int.toNat_natCast, Int.toNat_natCast, Int.toNat_natCast, Int.toNat_natCast] at e2
 obtain rfl : w = w' := by omega
 obtain rfl : h = h' := by omega
 rfl
theorem impl_CountKeptPlays.key_inj {w h w' h' : Nat} (e : Value.agg #[.int .i64 (w : Int), .int .i64 (h : Int)] = .agg #[.int .i64 (w' : Int), .int .i64 (h' : Int)]) : w = w' ∧ h = h' := by
 injection e with e
 injection e with e
 injection e with e1 e2
 injection e2 with e2 _
 injection e1 with _ e1
 injection e2 with _ e2
 omega
theorem impl_CountKeptPlays.keys : ((List.range 12).all fun w => (List.range 12).all fun h => (keyOf Try.prog 32 (.agg #[.int .i64 ((w + 1 : Nat) : Int), .int .i64 ((h + 1 : Nat) : Int)])).isSome) = true := by kernel_rfl
theorem impl_CountKeptPlays.key_of {w h : Nat} (hw : 1 ≤ w ∧ w ≤ 12) (hh : 1 ≤ h ∧ h ≤ 12) : Fmap.HasKey Try.prog 32 (.agg #[.int .i64 (w : Int), .int .i64 (h : Int)]) := by
 have h1 := List.all_eq_true.1 (List.all_eq_true.1 impl_CountKeptPlays.keys (w - 1) (List.mem_range.2 (by omega))) (h - 1) (List.mem_range.2 (by omega))
 rw [show w - 1 + 1 = w by omega, show h - 1 + 1 = h by omega] at h1
 exact Option.isSome_iff_exists.1 h1
theorem impl_CountKeptPlays.laidOut : laidOutB Try.prog = true := by kernel_rfl
theorem impl_CountKeptPlays.row : (32 : TypeId) < Try.prog.types.size := of_decide_eq_true (by kernel_rfl)
theorem impl_CountKeptPlays.wide : (match Try.prog.underlying 32 with | some (.array _ _) | some (.struct _) => true | _ => false) = true := by rw [Try.underlying32]
set_option maxRecDepth 100000 in
theorem impl_CountKeptPlays.keyed : Go.Maps.Keyed Try.prog 32 := Go.Maps.Keyed.of_law (deep_law_laid impl_CountKeptPlays.laidOut (m := 2) (by omega) impl_CountKeptPlays.row (by kernel_rfl) impl_CountKeptPlays.wide)
theorem impl_CountKeptPlays.cap_take {w h kk : Nat} {L : List (Nat × Nat)} (hL : impl_CountKeptPlays.kept w h = L) (hk : kk < L.length) : impl_CountKeptPlays.cap ((L.take (kk + 1)).map fun p => impl_CountKeptPlays.cnt p.1 p.2) = min (impl_CountKeptPlays.cap ((L.take kk).map fun p => impl_CountKeptPlays.cnt p.1 p.2) + impl_CountKeptPlays.cnt (L.getD kk (0, 0)).1 (L.getD kk (0, 0)).2) 1000000000000001 := by
 rw [List.take_add_one, List.getElem?_eq_getElem hk, List.map_append]
 have : L.getD kk (0, 0) = L[kk] := by rw [List.getD_eq_getElem?_getD, List.getElem?_eq_getElem hk]; rfl
 rw [this]
 exact impl_CountKeptPlays.cap_snoc _ _
theorem impl_CountKeptPlays.C_keep {w W' : World} {b : Nat} {A : Option Addr} {n : Nat} {xs : List S32} (h : Kd.C k32 w A n xs) (hm : impl_CountKeptPlays.IsK w b) (hk : ∀ q, q < w.heap.size → q ≠ b → W'.heap[q]? = w.heap[q]?) : Kd.C k32 W' A n xs := by
 refine ⟨h.1, h.2.1, fun hp => ?_⟩
 obtain ⟨ad, e, h1⟩ := h.2.2 hp
 refine ⟨ad, e, fun j y hj => ?_⟩
 obtain ⟨c, hl, hK, hc⟩ := h1 j y hj
 have hK2 := k32_open hK
 subst hK2
 refine ⟨_, hl, k32_mk W' y, fun i u hi => ?_⟩
 have h2 := hc i u hi
 have hlt := World.block_lt_of_cell? _ _ h2
 rw [World.cell?_of_block (w := w) (w' := W') (hk _ hlt (fun he => ?_))]
 ·exact h2
 ·obtain ⟨es, clock, hb, _⟩ := hm
  unfold World.cell? at h2
  rw [he, hb] at h2
  simp at h2
theorem impl_CountKeptPlays.two {W : World} {g g9 ty : Nat} {cs : Array Value} (h : W.heap[g]? = some (.cells cs ty (0, 0))) (ne : g ≠ g9) (u1 u2 : Value) : ((W.setCell ⟨g9, 0, none⟩ u1).setCell ⟨g9, 1, none⟩ u2).heap[g]? = some (.cells cs ty (0, 0)) :=
 blk_far (blk_far h (p := ⟨g9, 0, none⟩) ne u1) (p := ⟨g9, 1, none⟩) ne u2
theorem impl_CountKeptPlays.isR (a b : Int) : impl_isBar.f a b = some (decide ((1 ≤ a ∧ a ≤ 12) ∧ 1 ≤ b ∧ b ≤ 12)) := by
 have h : ∀ x : Int, impl_within.f x 1 12 = some (decide (1 ≤ x ∧ x ≤ 12)) := by
  intro x
  unfold impl_within.f
  by_cases h : 1 ≤ x
  ·rw [if_pos h]; simp [h]
  ·rw [if_neg h]; simp [h]
 unfold impl_isBar.f
 rw [h, h, Option.bind_some, Option.bind_some]
 by_cases c : 1 ≤ a ∧ a ≤ 12
 ·rw [if_pos (decide_eq_true c)]; simp [c]
 ·rw [if_neg (by simpa using c)]; simp [c]
theorem impl_CountKeptPlays.new5 {W : World} {p : Addr} {u : Value} {o : Obj} : ((W.setCell p u).alloc o).heap[W.heap.size]? = some o := by
 have h : ((W.setCell p u).alloc o).heap[(W.setCell p u).heap.size]? = some o := by first | exact blk_alloc_new _ _ | exact heap_alloc_new _ _ | (unfold World.alloc; exact Array.getElem?_push_size)
 have e : (W.setCell p u).heap.size = W.heap.size := by simp
 rw [e] at h
 exact h
def impl_CountKeptPlays.small (w h : Int) : Bool := decide (1 ≤ w ∧ w ≤ 12) && decide (1 ≤ h ∧ h ≤ 12)
def impl_CountKeptPlays.f (a0_0 : Int) (a0_1 : Int) : Option (Int × Bool) := some (if (1 ≤ a0_0 ∧ a0_0 ≤ 12) ∧ 1 ≤ a0_1 ∧ a0_1 ≤ 12 then (if (impl_CountKeptPlays.cnt a0_0.toNat a0_1.toNat : Int) > 1000000000000000 then (0, false) else ((impl_CountKeptPlays.cnt a0_0.toNat a0_1.toNat : Int), true)) else (0, false))
set_option maxHeartbeats 8000000 in
set_option maxRecDepth 100000 in
theorem impl_CountKeptPlays.rec : ∀ (n w h g4 g5 b : Nat) (W : World), (1 ≤ w ∧ w ≤ 12) → (1 ≤ h ∧ h ≤ 12) → w + h ≤ n → W.heap[g4]? = some (.cells #[.map (some b)] 102 (0, 0)) →
  W.heap[g5]? = some (.cells #[.func (.func 115) #[] #[.pointer (some ⟨g4, 0, none⟩), .pointer (some ⟨g5, 0, none⟩)]] 99 (0, 0)) → impl_CountKeptPlays.IsK W b →
  Calls Try.prog 115 #[.agg #[.int .i64 (w : Int), .int .i64 (h : Int)], .pointer (some ⟨g4, 0, none⟩), .pointer (some ⟨g5, 0, none⟩)] W fun e w' => e = .returned (.int .i64 (impl_CountKeptPlays.cnt w h : Int)) ∧ impl_CountKeptPlays.IsK w' b ∧ Kq.KQ W w' (fun q => q = b) := by
 intro n
 induction n with
 | zero => intro w h g4 g5 b W hw hh hs; omega
 | succ n ih =>
  intro w h g4 g5 b W hw hh hs h4 h5 hF
  have IH := Aside0.mk ih
  have HW := Aside0.mk hw
  have HH := Aside0.mk hh
  have HS := Aside0.mk hs
  have NE4 := Aside0.mk (hF.not_cells h4)
  have NE5 := Aside0.mk (hF.not_cells h5)
  have LT := Aside0.mk hF.lt
  have hkey := Aside0.mk (impl_CountKeptPlays.key_of hw hh)
  have hsq := fun W => impl_Bar_squares.calls (w : Int) (h : Int) ((w * h : Nat) : Int) W (by
   unfold impl_Bar_squares.f
   have : w * h ≤ 12 * 12 := Nat.mul_le_mul hw.2 hh.2
   rw [← Int.natCast_mul, PK.wrap_in (by omega) (by omega)])
  have HSQ := Aside0.mk hsq
  have HMV := Aside0.mk (fun W => impl_keptMoves.calls 100 (w : Int) (h : Int) _ W (impl_CountKeptPlays.moves w h 100 hw hh (Nat.le_refl _)))
  have HK := Aside0.mk (Kq.KQ.refl W (fun q => q = b))
  have HF := Aside0.mk hF
  have X4 := Aside0.mk h4
  have X5 := Aside0.mk h5
  have hcl : ((w * h : Nat) : Int) = 1 ↔ w * h = 1 := by omega
  clear ih hw hh hs hF h4 h5 hsq
  by_cases c1 : w * h = 1
  ·have C1 : ((w * h : Nat) : Int) = 1 := by omega
   have E1 := Aside0.mk (show impl_CountKeptPlays.cnt w h = 1 by
    have h1 := Nat.le_mul_of_pos_right w (show 0 < h by have := HH.out; omega)
    have h2 := Nat.le_mul_of_pos_left h (show 0 < w by have := HW.out; omega)
    have e1 : w = 1 := by have := HW.out; omega
    have e2 : h = 1 := by have := HH.out; omega
    rw [e1, e2]; rfl)
   rw [C1] at HSQ
   clear hcl c1 C1
   go_enter Try.func115, Try.ntmps115
   go_wp2_with (first
    | ((with_reducible refine gate_dst (N := 3) rfl ?_); refine box_event ?hg (N := 3) ?hd (cs := #[.int .i64 (w : Int), .int .i64 (h : Int)]) (t := 32) ?hr ?_; (case hd => rfl); (case hg => rfl); (case hr => first | (go_simp; done) | (go_simp; rfl)); intro g3 hg3 w3 hbox3 hb3; have G3 := Aside0.mk hg3; have X3 := Aside0.mk hbox3; have B3 := Aside0.mk hb3; clear hg3 hbox3 hb3; have hcz3_0 : w3.cell? ⟨g3, 0, none⟩ = some (.int .i64 (w : Int)) := (blk_cell X3.out 0).trans rfl; have hfz3_0 := blk_frozen X3.out 0; have hcz3_1 : w3.cell? ⟨g3, 1, none⟩ = some (.int .i64 (h : Int)) := (blk_cell X3.out 1).trans rfl; have hfz3_1 := blk_frozen X3.out 1)
    | (go_at_call 116; (refine (HSQ.out _).mono ?_); rintro e w4 ⟨rfl, hd⟩; have B4 := Aside0.mk hd; clear hd))
   go_ret
   have hb := Lam.bth B3.out B4.out
   exact ⟨by rw [E1.out]; rfl, HF.out.below hb, Kq.KQ.below HK.out hb⟩
  ·obtain ⟨sq, hsq⟩ : ∃ sq : Int, ((w * h : Nat) : Int) = sq := ⟨_, rfl⟩
   have C1 : (sq == 1) = false := beq_eq_false_iff_ne.2 (by omega)
   have C2 : ¬ sq = 1 := by omega
   rw [hsq] at HSQ
   have E1 := Aside0.mk (impl_CountKeptPlays.cnt_eq HW.out.1 HH.out.1 c1)
   obtain ⟨L, hL⟩ : ∃ L, impl_CountKeptPlays.kept w h = L := ⟨_, rfl⟩
   rw [hL] at E1 HMV
   have HL := Aside0.mk hL
   obtain ⟨LM, hLM⟩ : ∃ LM, L.map impl_CountKeptPlays.mk = LM := ⟨_, rfl⟩
   rw [hLM] at HMV
   have HLM := Aside0.mk hLM
   have HN := Aside0.mk (show LM.length = L.length by rw [← hLM, List.length_map])
   have HLL := Aside0.mk (show L.length ≤ 22 by rw [← hL, impl_CountKeptPlays.kept_len]; have := HH.out; have := HW.out; omega)
   clear hcl c1 hsq hL hLM
   go_enter Try.func115, Try.ntmps115
   go_wp2_with (first
    | ((with_reducible refine gate_dst (N := 3) rfl ?_); refine box_event ?hg (N := 3) ?hd (cs := #[.int .i64 (w : Int), .int .i64 (h : Int)]) (t := 32) ?hr ?_; (case hd => rfl); (case hg => rfl); (case hr => first | (go_simp; done) | (go_simp; rfl)); intro g3 hg3 w3 hbox3 hb3; have G3 := Aside0.mk hg3; have X3 := Aside0.mk hbox3; have B3 := Aside0.mk hb3; clear hg3 hbox3 hb3; have hcz3_0 : w3.cell? ⟨g3, 0, none⟩ = some (.int .i64 (w : Int)) := (blk_cell X3.out 0).trans rfl; have hfz3_0 := blk_frozen X3.out 0; have hcz3_1 : w3.cell? ⟨g3, 1, none⟩ = some (.int .i64 (h : Int)) := (blk_cell X3.out 1).trans rfl; have hfz3_1 := blk_frozen X3.out 1)
    | (go_at_call 116; (refine (HSQ.out _).mono ?_); rintro e w4 ⟨rfl, hd⟩; have B4 := Aside0.mk (Lam.bth B3.out hd); have n0_ := Aside0.mk (Kq.KQ.below HK.out B4.out); have n1_ := Aside0.mk (HF.out.below B4.out); have n2_ := Aside0.mk (blk_below X4.out B4.out); have n3_ := Aside0.mk (blk_below X5.out B4.out); have n4_ := Aside0.mk (blk_below X3.out hd); clear HK HF X4 X5 X3 hcz3_0 hcz3_1 hfz3_0 hfz3_1 hd; have HK := n0_; have HF := n1_; have X4 := n2_; have X5 := n3_; have X3 := n4_; clear n0_ n1_ n2_ n3_ n4_; have hcz4 : w4.cell? ⟨g4, 0, none⟩ = some (.map (some b)) := (blk_cell X4.out 0).trans rfl; have hcz3_0 : w4.cell? ⟨g3, 0, none⟩ = some (.int .i64 (w : Int)) := (blk_cell X3.out 0).trans rfl; have hcz3_1 : w4.cell? ⟨g3, 1, none⟩ = some (.int .i64 (h : Int)) := (blk_cell X3.out 1).trans rfl)
    | (at_lookup; refine Fmap.wp_look rfl (.tmp 14) (.tmp 15) 102 3 rfl impl_CountKeptPlays.keyed Try.underlying102 (fun w => Try.zeroValue3 w) rfl HF.out rfl hkey.out ?_ ?_; rotate_left; rintro v ⟨w', h', hw', hh', hk', rfl⟩; obtain ⟨rfl, rfl⟩ : w = w' ∧ h = h' := impl_CountKeptPlays.key_inj hk')
    | (go_at_call 110; go_loud (refine (HMV.out _).mono ?_; rintro e w7 ⟨vl, rfl, ho, hb⟩); obtain ⟨Al, cl, el⟩ := Kd.R_slice ho; subst el; have HC7 := Aside0.mk (Kd.R_reads' ho).2.2; have HCC := Aside0.mk (Kd.R_reads' ho).2.1; have n0_ := Aside0.mk (Kq.KQ.below HK.out hb); have n1_ := Aside0.mk (HF.out.below hb); have n2_ := Aside0.mk (blk_below X4.out hb); have n3_ := Aside0.mk (blk_below X5.out hb); have n4_ := Aside0.mk (blk_below X3.out hb); clear HK HF X4 X5 X3 hcz3_0 hcz3_1 hcz4 hb ho; have HK := n0_; have HF := n1_; have X4 := n2_; have X5 := n3_; have X3 := n4_; clear n0_ n1_ n2_ n3_ n4_))
   ·go_ret
    exact ⟨rfl, HF.out, HK.out⟩
   go_loopg [7, 24] L.length (fun gg v7 v24 w' => ∃ kk : Nat, kk ≤ L.length ∧ L.length - kk ≤ gg ∧ v7 = .int .i64 (impl_CountKeptPlays.cap ((L.take kk).map fun p => impl_CountKeptPlays.cnt p.1 p.2) : Int) ∧ v24 = .int .i64 (kk : Int) ∧ Aside0 (impl_CountKeptPlays.IsK w' b) ∧ Aside0 (Kq.KQ W w' (fun q => q = b)) ∧ Aside0 (Kd.C k32 w' Al LM.length LM) ∧ Aside0 (w'.heap[g4]? = some (.cells #[.map (some b)] 102 (0, 0))) ∧
    Aside0 (w'.heap[g5]? = some (.cells #[.func (.func 115) #[] #[.pointer (some ⟨g4, 0, none⟩), .pointer (some ⟨g5, 0, none⟩)]] 99 (0, 0))) ∧ Aside0 (w'.heap[g3]? = some (.cells #[.int .i64 (w : Int), .int .i64 (h : Int)] 32 (0, 0))))
   case atStart => exact ⟨0, Nat.zero_le _, by omega, by first | rfl | simp [impl_CountKeptPlays.cap], rfl, HF, HK, HC7, X4, X5, X3⟩
   case round =>
    clear HK HF X4 X5 X3 HC7
    obtain ⟨kk, hkk, hgg, rfl, rfl, HF, HK, HC7, X4, X5, X3⟩ := hrel
    have HFr := HF
    by_cases hlt : kk < L.length
    ·have d1 : decide (kk < LM.length) = true := decide_eq_true (by rw [HN.out]; exact hlt)
     have d2 : decide ((kk : Int) < (LM.length : Int)) = true := decide_eq_true (by have := HN.out; omega)
     have p26 : 0 ≤ (kk : Int) := by omega
     have q26 : (kk : Int) < (LM.length : Int) := by have := HN.out; omega
     obtain ⟨ad26, e26, hx26_0, hx26_1⟩ := at_T32 HC7.out (kk : Int) p26 q26
     cases e26
     obtain ⟨p, hp⟩ : ∃ p, L.getD kk (0, 0) = p := ⟨_, rfl⟩
     have hel : rd_T32 LM (kk : Int) = impl_CountKeptPlays.mk p := by
      rw [← HLM.out, ← hp]
      show (L.map impl_CountKeptPlays.mk).getD (kk : Int).toNat _ = _
      rw [Int.toNat_natCast, List.getD_eq_getElem?_getD, List.getElem?_map, List.getElem?_eq_getElem hlt, List.getD_eq_getElem?_getD, List.getElem?_eq_getElem hlt]; rfl
     rw [hel, Int.toNat_natCast] at hx26_0 hx26_1
     have hpin := impl_CountKeptPlays.kept_in HW.out.1 HH.out.1 (show p ∈ impl_CountKeptPlays.kept w h by rw [HL.out, ← hp]; exact Lam.getD_mem hlt (0, 0))
     have HP1 := Aside0.mk (show 1 ≤ p.1 ∧ p.1 ≤ 12 by have := HW.out; omega)
     have HP2 := Aside0.mk (show 1 ≤ p.2 ∧ p.2 ≤ 12 by have := HH.out; omega)
     have HP3 := Aside0.mk (show p.1 + p.2 ≤ n by have := HS.out; omega)
     have HCT := Aside0.mk (impl_CountKeptPlays.cap_take HL.out hlt)
     rw [hp] at HCT
     have HCL := Aside0.mk (impl_CountKeptPlays.cap_le ((L.take kk).map fun p => impl_CountKeptPlays.cnt p.1 p.2))
     have HCN := Aside0.mk (impl_CountKeptPlays.cnt_le (w := p.1) (h := p.2) HP1.out.1 HP2.out.1)
     obtain ⟨cap0, hcap0⟩ : ∃ c0 : Nat, impl_CountKeptPlays.cap ((L.take kk).map fun p => impl_CountKeptPlays.cnt p.1 p.2) = c0 := ⟨_, rfl⟩
     rw [hcap0] at HCT HCL ⊢
     obtain ⟨p1, p2⟩ := p
     obtain ⟨cn, hcn⟩ : ∃ cn : Nat, impl_CountKeptPlays.cnt p1 p2 = cn := ⟨_, rfl⟩
     have HCN2 : impl_CountKeptPlays.cnt p1 p2 ≤ 1000000000000001 := HCN.out
     have HCT2 : impl_CountKeptPlays.cap ((L.take (kk + 1)).map fun p => impl_CountKeptPlays.cnt p.1 p.2) = min (cap0 + impl_CountKeptPlays.cnt p1 p2) 1000000000000001 := HCT.out
     rw [hcn] at HCN2 HCT2
     have HCN3 := Aside0.mk HCN2
     have HCT3 := Aside0.mk HCT2
     have IH2 := Aside0.mk (fun W h4 h5 hF => IH.out p1 p2 g4 g5 b W HP1.out HP2.out HP3.out h4 h5 hF)
     rw [hcn] at IH2
     have HKK := Aside0.mk hlt
     have hw1 : wrap64 ((cap0 : Int) + (cn : Int)) = ((cap0 + cn : Nat) : Int) := by have := HCL.out; have := HCN3.out; rw [PK.wrap_in (by omega) (by omega)]; omega
     have hw2 : wrap64 ((kk : Int) + 1) = ((kk + 1 : Nat) : Int) := PK.w1 hlt (by have := HLL.out; omega)
     clear hp hel hpin HCT HCL HCN hcap0 hcn HCN2 HCT2 hlt
     go_wp2_with (first
      | ((with_reducible refine gate_dst (N := 9) rfl ?_); refine box_event ?hg (N := 9) ?hd (cs := #[.int .i64 0, .int .i64 0]) (t := 32) ?hr ?_; (case hd => rfl); (case hg => rfl); (case hr => first | (go_simp; done) | (go_simp; rfl)); intro g9 hg w9 hbox hb; have N4 := Aside0.mk (show g4 ≠ g9 by have := blk_lt X4.out; omega); have N5 := Aside0.mk (show g5 ≠ g9 by have := blk_lt X5.out; omega); have N3 := Aside0.mk (show g3 ≠ g9 by have := blk_lt X3.out; omega); have NB := Aside0.mk (show b ≠ g9 by have := HF.out.lt; omega); have NW := Aside0.mk (show W.heap.size ≤ g9 by have := HK.out.size; omega); have n0_ := Aside0.mk (Kq.KQ.below HK.out hb); have n1_ := Aside0.mk (HF.out.below hb); have n2_ := Aside0.mk (blk_below X4.out hb); have n3_ := Aside0.mk (blk_below X5.out hb); have n4_ := Aside0.mk (blk_below X3.out hb); have HB9 := Aside0.mk hb; have G9 := Aside0.mk (show wr.heap.size ≤ g9 by rw [hg]; exact Nat.le_refl _); have n6_ := (hb.cell (World.block_lt_of_cell? _ _ hx26_0)).trans hx26_0; have n7_ := (hb.cell (World.block_lt_of_cell? _ _ hx26_1)).trans hx26_1; clear HK HF X4 X5 X3 hx26_0 hx26_1 hb hg; have HK := n0_; have HF := n1_; have X4 := n2_; have X5 := n3_; have X3 := n4_; have hx26_0 := n6_; have hx26_1 := n7_; clear n0_ n1_ n2_ n3_ n4_ n6_ n7_; have X9 := Aside0.mk hbox; clear hbox; have hcz9_0 : w9.cell? ⟨g9, 0, none⟩ = some (.int .i64 0) := (blk_cell X9.out 0).trans rfl; have hcz9_1 : w9.cell? ⟨g9, 1, none⟩ = some (.int .i64 0) := (blk_cell X9.out 1).trans rfl; have hfz9_0 := blk_frozen X9.out 0; have hfz9_1 := blk_frozen X9.out 1; have hcz5 : w9.cell? ⟨g5, 0, none⟩ = some (.func (.func 115) #[] #[.pointer (some ⟨g4, 0, none⟩), .pointer (some ⟨g5, 0, none⟩)]) := (blk_cell X5.out 0).trans rfl; have n59 := N5.out)
      | (go_at_call 115; refine (IH2.out _ (impl_CountKeptPlays.two X4.out N4.out _ _) (impl_CountKeptPlays.two X5.out N5.out _ _) ((HF.out.set (p := ⟨g9, 0, none⟩) NB.out _).set (p := ⟨g9, 1, none⟩) NB.out _)).mono ?_; rintro e w11 ⟨rfl, hf, hk⟩; have HFn := Aside0.mk hf; have HKn := Aside0.mk hk; clear hf hk))
     all_goals
      go_roundg (L.length - (kk + 1))
      case measure => have := HKK.out; omega
      case rel =>
       have hk := HKn.out
       refine ⟨kk + 1, by have := HKK.out; omega, Nat.le_refl _, ?_, ?_, HFn, ⟨Kq.KQ.then_ (Kq.KQ.setCell (Kq.KQ.setCell HK.out (p := ⟨g9, 0, none⟩) (.inr NW.out) _) (p := ⟨g9, 1, none⟩) (.inr NW.out) _) hk (fun q hq => .inl hq)⟩,
        ⟨impl_CountKeptPlays.C_keep HC7.out HFr.out (fun q hq hne => ?_)⟩, ⟨Kq.blk_kq (impl_CountKeptPlays.two X4.out N4.out _ _) hk NE4.out⟩, ⟨Kq.blk_kq (impl_CountKeptPlays.two X5.out N5.out _ _) hk NE5.out⟩, ⟨Kq.blk_kq (impl_CountKeptPlays.two X3.out N3.out _ _) hk (HF.out.not_cells X3.out)⟩⟩
       ·rw [HCT3.out]
        first | rfl | (congr 1; omega) | trace_state
       ·first | rfl | (simp [*]; done) | trace_state
       ·have hq9 : q ≠ g9 := by have := G9.out; omega
        have hs9 := HB9.out.size
        have e1 : ((w9.setCell ⟨g9, 0, none⟩ (.int .i64 (p1 : Int))).setCell ⟨g9, 1, none⟩ (.int .i64 (p2 : Int))).heap[q]? = w9.heap[q]? := (Below.heap_setCell _ ⟨g9, 1, none⟩ _ q hq9).trans (Below.heap_setCell _ ⟨g9, 0, none⟩ _ q hq9)
        rw [hk.k.2 q (by simp; omega) hne, e1, HB9.out.block q hq]
    ·obtain rfl : kk = L.length := by omega
     have d1 : ¬ ((L.length : Int) < (LM.length : Int)) := by have := HN.out; omega
     have d2 : decide (L.length < LM.length) = false := decide_eq_false (by have := HN.out; omega)
     have d3 : decide ((L.length : Int) < (LM.length : Int)) = false := decide_eq_false d1
     rw [List.take_length, ← E1.out]
     have hcz4 : wr.cell? ⟨g4, 0, none⟩ = some (.map (some b)) := (blk_cell X4.out 0).trans rfl
     have hcz3_0 : wr.cell? ⟨g3, 0, none⟩ = some (.int .i64 (w : Int)) := (blk_cell X3.out 0).trans rfl
     have hcz3_1 : wr.cell? ⟨g3, 1, none⟩ = some (.int .i64 (h : Int)) := (blk_cell X3.out 1).trans rfl
     go_wp2_with (first
      | (at_mapUpdate; go_loud (refine Fmap.wp_put rfl (.tmp 35) (.tmp 36) (.tmp 37) 102 3 rfl impl_CountKeptPlays.keyed Try.underlying102 rfl HF.out (N := 2000) (by unfold maxLen; omega) impl_CountKeptPlays.num impl_CountKeptPlays.num_lt impl_CountKeptPlays.num_inj rfl rfl hkey.out rfl ⟨w, h, HW.out, HH.out, rfl, rfl⟩ ?_); intro w12 hf12 hg12; have F12 := Aside0.mk hf12; have K12 := Aside0.mk (Fmap.kq_grown HK.out hg12 (.inl rfl)); clear hf12 hg12))
     go_ret
     exact ⟨rfl, F12.out, K12.out⟩
set_option maxHeartbeats 8000000 in
set_option maxRecDepth 100000 in
theorem impl_CountKeptPlays.calls (a0_0 : Int) (a0_1 : Int) (r1 : Int) (r2 : Bool) (w : World) (h : impl_CountKeptPlays.f a0_0 a0_1 = some (r1, r2)) :
  Calls Try.prog 24 #[.agg #[.int .i64 a0_0, .int .i64 a0_1]] w fun e w' => e = .returned (.tuple #[.int .i64 r1, .bool r2]) ∧ Below w.heap.size w w' := by
 unfold impl_CountKeptPlays.f at h
 have hr := Option.some.inj h
 clear h
 have HIS := Aside0.mk (fun W => impl_isBar.calls a0_0 a0_1 _ W (impl_CountKeptPlays.isR a0_0 a0_1))
 by_cases c : (1 ≤ a0_0 ∧ a0_0 ≤ 12) ∧ 1 ≤ a0_1 ∧ a0_1 ≤ 12
 ·rw [if_pos c] at hr
  rw [decide_eq_true c] at HIS
  obtain ⟨a, rfl⟩ : ∃ n : Nat, a0_0 = (n : Int) := ⟨a0_0.toNat, by omega⟩
  obtain ⟨h, rfl⟩ : ∃ n : Nat, a0_1 = (n : Int) := ⟨a0_1.toNat, by omega⟩
  rw [Int.toNat_natCast, Int.toNat_natCast] at hr
  have HREC := Aside0.mk (fun g4 g5 b W => impl_CountKeptPlays.rec (a + h) a h g4 g5 b W (by omega) (by omega) (Nat.le_refl _))
  obtain ⟨cn, hcn⟩ : ∃ cn : Nat, impl_CountKeptPlays.cnt a h = cn := ⟨_, rfl⟩
  rw [hcn] at hr HREC
  clear c hcn
  by_cases cm : (cn : Int) > 1000000000000000
  ·rw [if_pos cm] at hr
   obtain ⟨rfl, rfl⟩ := Prod.mk.inj hr
   have d1 : decide ((1000000000000000 : Int) < (cn : Int)) = true := decide_eq_true cm
   have d2 : decide (1000000000000000 < cn) = true := decide_eq_true (by omega)
   clear hr
   go_enter Try.func24, Try.ntmps24
   go_wp2_with (first
    | ((with_reducible refine gate_dst (N := 1) rfl ?_); refine box_event ?hg (N := 1) ?hd (cs := #[.int .i64 (a : Int), .int .i64 (h : Int)]) (t := 32) ?hr ?_; (case hd => rfl); (case hg => rfl); (case hr => first | (go_simp; done) | (go_simp; rfl)); intro g1 hg1 w1 hbox1 hb1; have G1 := Aside0.mk hg1; have X1 := Aside0.mk hbox1; have B1 := Aside0.mk hb1; clear hg1 hbox1 hb1; have hcz1_0 : w1.cell? ⟨g1, 0, none⟩ = some (.int .i64 (a : Int)) := (blk_cell X1.out 0).trans rfl; have hfz1_0 := blk_frozen X1.out 0; have hcz1_1 : w1.cell? ⟨g1, 1, none⟩ = some (.int .i64 (h : Int)) := (blk_cell X1.out 1).trans rfl; have hfz1_1 := blk_frozen X1.out 1)
    | (go_at_call 109; refine (HIS.out _).mono ?_; rintro e w2 ⟨rfl, hd⟩; have B2 := Aside0.mk (Lam.bth B1.out hd); have X12 := Aside0.mk (blk_below X1.out hd); clear hd hcz1_0 hcz1_1 hfz1_0 hfz1_1)
    | ((with_reducible refine gate_dst (N := 10) rfl ?_); refine Fmap.wp_makeM rfl rfl 102 rfl Try.prog 32 impl_CountKeptPlays.anyEl impl_CountKeptPlays.Q ?_; intro gm w3 hgm hF3 hb3; have B3 := Aside0.mk (below_step B2.out hb3); have GM := Aside0.mk (show w.heap.size ≤ gm by rw [hgm]; exact B2.out.size); have X13 := Aside0.mk (blk_below X12.out hb3); have F3 := Aside0.mk hF3; clear hgm hF3 hb3)
    | ((with_reducible refine gate_dst (N := 4) rfl ?_); refine box_event ?hg (N := 4) ?hd (cs := #[.map none]) (t := 102) ?hr ?_; (case hd => rfl); (case hg => rfl); (case hr => first | (go_simp; done) | (go_simp; rfl)); intro g4 hg w4 hbox hb; have B4 := Aside0.mk (below_step B3.out hb); have G4 := Aside0.mk (show w.heap.size ≤ g4 by rw [hg]; exact B3.out.size); have X14 := Aside0.mk (blk_below X13.out hb); have F4 := Aside0.mk (F3.out.below hb); have X44 := Aside0.mk hbox; have hcz4 : w4.cell? ⟨g4, 0, none⟩ = some (.map none) := (blk_cell hbox 0).trans rfl; have hfz4 := blk_frozen hbox 0; have N14 := Aside0.mk (show g1 ≠ g4 by have := blk_lt X13.out; omega); have X4p := Aside0.mk (show (w4.setCell ⟨g4, 0, none⟩ (.map (some gm))).heap[g4]? = some (.cells #[.map (some gm)] 102 (0, 0)) from blk_put (cs := #[.map none]) hbox 0 _ rfl); have F4p := Aside0.mk (F4.out.set (p := ⟨g4, 0, none⟩) (fun e => F4.out.not_cells hbox e.symm) (.map (some gm))); have B4p := Aside0.mk (below_set (v := .map (some gm)) B4.out (j := 0) G4.out); have hcz1_0 : w4.cell? ⟨g1, 0, none⟩ = some (.int .i64 (a : Int)) := (blk_cell X14.out 0).trans rfl; have hcz1_1 : w4.cell? ⟨g1, 1, none⟩ = some (.int .i64 (h : Int)) := (blk_cell X14.out 1).trans rfl; have n14 := N14.out; have hlt14 := blk_lt X14.out; have hlt44 := blk_lt hbox; clear hg hbox hb)
    | (go_at_call 115; refine (HREC.out g4 w4.heap.size gm _ (blk_alloc X4p.out _) impl_CountKeptPlays.new5 (F4p.out.below (below_alloc (Below.refl _ _) _))).mono ?_; rintro e w6 ⟨rfl, hf, hk⟩; have B6 := Aside0.mk (Kq.KQ.to_below (below_alloc B4p.out _) hk (fun q hq => by rw [hq]; exact GM.out)); clear hf hk))
   go_ret2
   exact ⟨rfl, B6.out⟩
  ·rw [if_neg cm] at hr
   obtain ⟨rfl, rfl⟩ := Prod.mk.inj hr
   have d1 : decide ((1000000000000000 : Int) < (cn : Int)) = false := decide_eq_false cm
   have d2 : decide (1000000000000000 < cn) = false := decide_eq_false (by omega)
   clear hr
   go_enter Try.func24, Try.ntmps24
   go_wp2_with (first
    | ((with_reducible refine gate_dst (N := 1) rfl ?_); refine box_event ?hg (N := 1) ?hd (cs := #[.int .i64 (a : Int), .int .i64 (h : Int)]) (t := 32) ?hr ?_; (case hd => rfl); (case hg => rfl); (case hr => first | (go_simp; done) | (go_simp; rfl)); intro g1 hg1 w1 hbox1 hb1; have G1 := Aside0.mk hg1; have X1 := Aside0.mk hbox1; have B1 := Aside0.mk hb1; clear hg1 hbox1 hb1; have hcz1_0 : w1.cell? ⟨g1, 0, none⟩ = some (.int .i64 (a : Int)) := (blk_cell X1.out 0).trans rfl; have hfz1_0 := blk_frozen X1.out 0; have hcz1_1 : w1.cell? ⟨g1, 1, none⟩ = some (.int .i64 (h : Int)) := (blk_cell X1.out 1).trans rfl; have hfz1_1 := blk_frozen X1.out 1)
    | (go_at_call 109; refine (HIS.out _).mono ?_; rintro e w2 ⟨rfl, hd⟩; have B2 := Aside0.mk (Lam.bth B1.out hd); have X12 := Aside0.mk (blk_below X1.out hd); clear hd hcz1_0 hcz1_1 hfz1_0 hfz1_1)
    | ((with_reducible refine gate_dst (N := 10) rfl ?_); refine Fmap.wp_makeM rfl rfl 102 rfl Try.prog 32 impl_CountKeptPlays.anyEl impl_CountKeptPlays.Q ?_; intro gm w3 hgm hF3 hb3; have B3 := Aside0.mk (below_step B2.out hb3); have GM := Aside0.mk (show w.heap.size ≤ gm by rw [hgm]; exact B2.out.size); have X13 := Aside0.mk (blk_below X12.out hb3); have F3 := Aside0.mk hF3; clear hgm hF3 hb3)
    | ((with_reducible refine gate_dst (N := 4) rfl ?_); refine box_event ?hg (N := 4) ?hd (cs := #[.map none]) (t := 102) ?hr ?_; (case hd => rfl); (case hg => rfl); (case hr => first | (go_simp; done) | (go_simp; rfl)); intro g4 hg w4 hbox hb; have B4 := Aside0.mk (below_step B3.out hb); have G4 := Aside0.mk (show w.heap.size ≤ g4 by rw [hg]; exact B3.out.size); have X14 := Aside0.mk (blk_below X13.out hb); have F4 := Aside0.mk (F3.out.below hb); have X44 := Aside0.mk hbox; have hcz4 : w4.cell? ⟨g4, 0, none⟩ = some (.map none) := (blk_cell hbox 0).trans rfl; have hfz4 := blk_frozen hbox 0; have N14 := Aside0.mk (show g1 ≠ g4 by have := blk_lt X13.out; omega); have X4p := Aside0.mk (show (w4.setCell ⟨g4, 0, none⟩ (.map (some gm))).heap[g4]? = some (.cells #[.map (some gm)] 102 (0, 0)) from blk_put (cs := #[.map none]) hbox 0 _ rfl); have F4p := Aside0.mk (F4.out.set (p := ⟨g4, 0, none⟩) (fun e => F4.out.not_cells hbox e.symm) (.map (some gm))); have B4p := Aside0.mk (below_set (v := .map (some gm)) B4.out (j := 0) G4.out); have hcz1_0 : w4.cell? ⟨g1, 0, none⟩ = some (.int .i64 (a : Int)) := (blk_cell X14.out 0).trans rfl; have hcz1_1 : w4.cell? ⟨g1, 1, none⟩ = some (.int .i64 (h : Int)) := (blk_cell X14.out 1).trans rfl; have n14 := N14.out; have hlt14 := blk_lt X14.out; have hlt44 := blk_lt hbox; clear hg hbox hb)
    | (go_at_call 115; refine (HREC.out g4 w4.heap.size gm _ (blk_alloc X4p.out _) impl_CountKeptPlays.new5 (F4p.out.below (below_alloc (Below.refl _ _) _))).mono ?_; rintro e w6 ⟨rfl, hf, hk⟩; have B6 := Aside0.mk (Kq.KQ.to_below (below_alloc B4p.out _) hk (fun q hq => by rw [hq]; exact GM.out)); clear hf hk))
   go_ret2
   exact ⟨rfl, B6.out⟩
 ·rw [if_neg c] at hr
  rw [decide_eq_false c] at HIS
  obtain ⟨rfl, rfl⟩ := Prod.mk.inj hr
  clear c hr
  go_enter Try.func24, Try.ntmps24
  go_wp2_with (first
   | ((with_reducible refine gate_dst (N := 1) rfl ?_); refine box_event ?hg (N := 1) ?hd (cs := #[.int .i64 a0_0, .int .i64 a0_1]) (t := 32) ?hr ?_; (case hd => rfl); (case hg => rfl); (case hr => first | (go_simp; done) | (go_simp; rfl)); intro g1 hg1 w1 hbox1 hb1; have G1 := Aside0.mk hg1; have X1 := Aside0.mk hbox1; have B1 := Aside0.mk hb1; clear hg1 hbox1 hb1; have hcz1_0 : w1.cell? ⟨g1, 0, none⟩ = some (.int .i64 a0_0) := (blk_cell X1.out 0).trans rfl; have hfz1_0 := blk_frozen X1.out 0; have hcz1_1 : w1.cell? ⟨g1, 1, none⟩ = some (.int .i64 a0_1) := (blk_cell X1.out 1).trans rfl; have hfz1_1 := blk_frozen X1.out 1)
   | (go_at_call 109; refine (HIS.out _).mono ?_; rintro e w2 ⟨rfl, hd⟩; have B2 := Aside0.mk (Lam.bth B1.out hd); clear hd))
  go_ret2
  exact ⟨rfl, B2.out⟩

/-! ### spec_l1Least: function 117 -/
def spec_l1Least.f (a0 : Int) (a1 : Int) : Option (Int) := if a0 < a1 then (some a0) else (some a1)
set_option maxHeartbeats 8000000 in
set_option maxRecDepth 100000 in
theorem spec_l1Least.calls (a0 : Int) (a1 : Int) (r : Int) (w : World) (h : spec_l1Least.f a0 a1 = some r) :
  Calls Try.prog 117 #[.int .i64 a0, .int .i64 a1] w fun e w' => e = .returned (.int .i64 r) ∧ Drawn0 w w' := by
 have H : (if a0 < a1 then (some a0) else (some a1)) = some r := h
 clear h
 by_cases c3 : a0 < a1
 ·rw [if_pos c3] at H
  have c3b0 : decide (a0 < a1) = true := decide_eq_true c3
  clear c3
  obtain rfl := Option.some.inj H
  go_enter Try.func117, Try.ntmps117
  go_wp2
  go_ret
  exact ⟨by first | rfl | (simp; done) | (simp [*]; done), by repeat (first | exact Drawn0.refl _ | apply Drawn0.step)⟩
 ·rw [if_neg c3] at H
  have c3b0 : decide (a0 < a1) = false := decide_eq_false c3
  clear c3
  obtain rfl := Option.some.inj H
  go_enter Try.func117, Try.ntmps117
  go_wp2
  go_ret
  exact ⟨by first | rfl | (simp; done) | (simp [*]; done), by repeat (first | exact Drawn0.refl _ | apply Drawn0.step)⟩

end Go.Proofs.Ytdikeggkfkkajaa.PFnBreaksKept
