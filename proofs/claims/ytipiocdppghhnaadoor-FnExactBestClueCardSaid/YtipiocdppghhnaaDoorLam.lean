/- Words for library functions that take a function value: the first place at which a predicate holds. Conditions: none. -/
import Derived.Test.YtipiocdppghhnaaDoorWMore
import Derived.Shelf.Abstract
import Derived.Lib.SliceRun
import Derived.Deep.RegionLaw
namespace Go.Proofs.YtipiocdppghhnaaDoor.Lam
open Go.RowKit Go.Proofs.YtipiocdppghhnaaDoorW.PrintWords Go.Proofs.YtipiocdppghhnaaDoorW.PrintLast
/-- The first place at which p holds, from i on, or -1. -/
def idxFrom {α : Type} (p : α → Bool) : Nat → List α → Int
  | _, [] => -1
  | i, x :: xs => if p x then (i : Int) else idxFrom p (i + 1) xs
def idxP {α : Type} (p : α → Bool) (l : List α) : Int := idxFrom p 0 l
theorem idxFrom_any {α : Type} (p : α → Bool) (l : List α) : ∀ i : Nat, decide (0 ≤ idxFrom p i l) = l.any p := by
  induction l with
  | nil => intro i; simp [idxFrom]
  | cons x xs ih =>
    intro i
    unfold idxFrom
    by_cases h : p x = true
    · rw [if_pos h]; simp [h]
    · rw [if_neg h, ih]; simp [h]
theorem idxP_any {α : Type} (p : α → Bool) (l : List α) : decide (0 ≤ idxP p l) = l.any p := idxFrom_any p l 0
theorem idxFrom_hit {α : Type} (p : α → Bool) (l : List α) (z : α) : ∀ (i k : Nat), k < l.length → (∀ j, j < k → p (l.getD j z) = false) → p (l.getD k z) = true → idxFrom p i l = ((i + k : Nat) : Int) := by
  induction l with
  | nil => intro i k hk; simp at hk
  | cons x xs ih =>
    intro i k hk hm hh
    unfold idxFrom
    cases k with
    | zero => rw [if_pos (by simpa using hh)]; simp
    | succ k =>
      have h0 : p x = false := by simpa using hm 0 (by omega)
      rw [if_neg (by simp [h0]), ih (i + 1) k (by simpa using hk) (fun j hj => by simpa using hm (j + 1) (by omega)) (by simpa using hh)]
      congr 1
      omega
theorem idxP_hit {α : Type} {p : α → Bool} {l : List α} (z : α) {k : Nat} (hk : k < l.length) (hm : ∀ j, j < k → p (l.getD j z) = false) (hh : p (l.getD k z) = true) : idxP p l = (k : Int) := by
  unfold idxP; rw [idxFrom_hit p l z 0 k hk hm hh]; simp
theorem idxFrom_miss {α : Type} (p : α → Bool) (l : List α) (z : α) : ∀ i : Nat, (∀ j, j < l.length → p (l.getD j z) = false) → idxFrom p i l = -1 := by
  induction l with
  | nil => intro i _; rfl
  | cons x xs ih =>
    intro i hm
    have h0 : p x = false := by simpa using hm 0 (by simp)
    unfold idxFrom
    rw [if_neg (by simp [h0]), ih (i + 1) (fun j hj => by simpa using hm (j + 1) (by simpa using hj))]
theorem idxP_miss {α : Type} {p : α → Bool} {l : List α} (z : α) (hm : ∀ j, j < l.length → p (l.getD j z) = false) : idxP p l = -1 := idxFrom_miss p l z 0 hm
/-- A fact on a row, or on a block, in a world that has come of its own by draws and new blocks alone. -/
theorem rq {α : Type} {d : Kd α} {e base : Nat} {ok : Nat → Prop} {w W : World} {v : Value} {xs : List α} (h : d.R e w base ok v xs)
    (hW : Below w.heap.size w W := by repeat (first | (with_reducible first | exact Below.refl _ _ | apply below_alloc | apply pw_below_drewN | apply below_drew1) | exact Below.refl _ _)) : d.R e W base ok v xs := Kd.R_below h hW
theorem bq {w W : World} {g : Nat} {o : Obj} (h : w.heap[g]? = some o)
    (hW : Below w.heap.size w W := by repeat (first | (with_reducible first | exact Below.refl _ _ | apply below_alloc | apply pw_below_drewN | apply below_drew1) | exact Below.refl _ _)) : W.heap[g]? = some o := (hW.block g (blk_lt h)).trans h
theorem sq {α : Type} {d : Kd α} {e base : Nat} {ok : Nat → Prop} {w W : World} {v : Value} {xs : List α} (h : Kd.S d e w base ok v xs)
    (hW : Below w.heap.size w W := by repeat (first | (with_reducible first | exact Below.refl _ _ | apply below_alloc | apply pw_below_drewN | apply below_drew1) | exact Below.refl _ _)) : Kd.S d e W base ok v xs := Kd.S_below h hW
theorem pa {α : Type} {l : List α} {i : Nat} {x : α} : l.toArray.setIfInBounds i x = (l.set i x).toArray := List.setIfInBounds_toArray _ _ _
theorem pb {α : Type} {x y : α} {l : List α} : (x :: l).set 0 y = y :: l := List.set_cons_zero
theorem pc {α : Type} {x y : α} {l : List α} {n : Nat} : (x :: l).set (n + 1) y = x :: l.set n y := List.set_cons_succ
theorem al {p : Prop} (h : p := by repeat (first | (with_reducible first | exact Aside0.out (by assumption) | apply below_alloc | apply pw_below_drewN | apply below_drew1 | refine below_set ?_ (Aside0.out (by assumption))) | exact Aside0.out (by assumption))) : p := h
theorem bth {a b c : World} (h1 : Below a.heap.size a b) (h2 : Below b.heap.size b c) : Below a.heap.size a c := below_then h1 h1.size h2
theorem capc {W0 W : World} {g : Nat} {v : Value} {t : TypeId} (h : W0.heap[g]? = some (.cells #[v] t (0, 0))) (hb : Below W0.heap.size W0 W) : W.cell? ⟨g, 0, none⟩ = some v :=
  (hb.cell (p := ⟨g, 0, none⟩) (blk_lt h)).trans ((blk_cell h 0).trans rfl)
theorem capb {W0 W : World} {g : Nat} {o : Obj} (h : W0.heap[g]? = some o) (hb : Below W0.heap.size W0 W) : W.heap[g]? = some o := (hb.block g (blk_lt h)).trans h
theorem getD_mem {α : Type} {l : List α} {k : Nat} (h : k < l.length) (z : α) : l.getD k z ∈ l := by
  rw [List.getD_eq_getElem?_getD, List.getElem?_eq_getElem h]; exact List.getElem_mem h
theorem zero_cells_one (cs : Array Value) : (Builtin.zeroCells cs 1).toList = cs.toList := by
  apply List.ext_getElem
  · simp [Builtin.zeroCells]
  · intro i h1 h2
    have hi : i < cs.size := by simpa using h2
    simp [Builtin.zeroCells, Nat.mod_eq_of_lt hi, hi]
/-- 'clear(s[n:n+1])' behind a row of n elements of the call's own: the row stays as it is. -/
theorem R_clear1 {P : Program} {α : Type} (d : Kd α) {W : World} {base : Nat} (t e : TypeId) (z : Value) (ht : P.underlying t = some (.slice e)) (hv : ∀ w, (zeroValue e).run P w = .ok z w) (hzs : z.cells.size = d.sz) (hz1 : ∀ u ∈ z.cells.toList, u.oneCell' = true)
    {g n c : Nat} {xs : List α} {ok : Nat → Prop} (HO : d.R e W base ok (.slice (some ⟨g, 0, none⟩) n c) xs) (hn : n < c) (c' : Nat) :
    ∃ w1, (∀ ty, (Builtin.clear_ #[t] ty #[.slice (some ⟨g, n * d.sz, none⟩) 1 c']).run P W = .ok (.tuple #[]) w1) ∧ d.R e w1 base ok (.slice (some ⟨g, 0, none⟩) n c) xs ∧ W.grownBy w1 (some g) := by
  obtain ⟨hxn, hnc, _⟩ := Kd.R_reads' HO
  obtain ⟨hok, inner, hown, hr⟩ := HO
  rcases hown.2 with ⟨hv', _⟩ | ⟨g', cap', cur, hv', hb, hh, h1, hcm, hcs, htake⟩
  · cases hv'
  injection hv' with ha _ hc
  injection ha with ha
  injection ha with hg
  subst hg; subst hc
  have hle : (n + 1) * d.sz ≤ c * d.sz := Nat.mul_le_mul_right _ hn
  have hms : (n + 1) * d.sz = n * d.sz + d.sz := Nat.succ_mul _ _
  have hzl : z.cells.toList.length = d.sz := by simpa using hzs
  have hst := run_storeCells_cells (P := P) g (n * d.sz) z.cells.toList 0 W (fun j hj => by rw [cell_of_row W g _ cur e (0, 0) hh]; simp; omega) (fun j _ => blk_frozen hh _) hz1
  have hrun : ∀ ty, (Builtin.clear_ #[t] ty #[.slice (some ⟨g, n * d.sz, none⟩) 1 c']).run P W = .ok (.tuple #[]) (W.setCells g (n * d.sz) z.cells.toList) := by
    intro ty
    simp only [Nat.add_zero] at hst
    simp [Builtin.clear_, run_underlying ht, hv, zero_cells_one, hst]
  obtain ⟨cur', h3, h4, h5⟩ := setCells_row z.cells.toList (n * d.sz) W cur hh (by omega)
  obtain ⟨s1, s2, s3, s4⟩ := setCells_same g z.cells.toList (n * d.sz) W
  have hfar : ∀ k', k' ≠ g → (W.setCells g (n * d.sz) z.cells.toList).heap[k']? = W.heap[k']? := fun k' hk' => setCells_far _ _ k' hk'
  have hgo : ∀ m, some g = (Value.slice (some ⟨g, 0, none⟩) m c).ownBlock := fun m => by simp [Value.ownBlock]
  refine ⟨_, hrun, ⟨hok, inner, ⟨hown.1, .inr ⟨g, c, cur', by rw [← hxn], hb, h3, by rw [← hxn]; omega, hcm, by rw [h4, hcs], ?_⟩⟩, ?_⟩, ⟨s1, s2, s3, by rw [s4]; exact Nat.le_refl _, fun k' _ hk' => hfar k' (fun he => hk' (by rw [he]))⟩⟩
  · rw [h5, ← hxn, List.append_assoc, List.take_append_of_le_length (by rw [List.length_take, Array.length_toList]; omega), List.take_take, Nat.min_self, hxn, htake]
  · exact hr.imp_ (fun p q hp => d.M_move (fun k' hk' => hfar k' (fun he => hk'.2 (by rw [← hgo, he]))) hp)
end Go.Proofs.YtipiocdppghhnaaDoor.Lam
