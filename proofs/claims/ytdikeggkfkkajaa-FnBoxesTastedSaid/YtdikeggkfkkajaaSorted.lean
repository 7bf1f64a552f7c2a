/- Rows of whole numbers of the call's own, sorted and compacted by the library; a sorted row's compacted row ascends. -/
import Derived.Test.YtdikeggkfkkajaaWMore
import Derived.Test.YtdikeggkfkkajaaWKept
import Derived.Sort.OwnSortedInts
import Derived.Lib.OwnBridge
import Derived.Lib.SlicesCompact
namespace Go.Proofs.Ytdikeggkfkkajaa.Sorted
open Go.RowKit Go.Sort Go.Proofs.YtdikeggkfkkajaaW.PrintWords Go.Proofs.YtdikeggkfkkajaaW.PrintLast Go.Proofs.YtdikeggkfkkajaaW.PrintMore
theorem inner_eq {w : World} {base : Nat} {ok : Nat → Prop} {xs : List Int} {inner : List Value} (h : Reps ((Kd.int .i64).M w base ok) (Kd.int .i64).sz xs inner) : inner = xs.map (Value.int .i64) := by
  have hsz : (Kd.int .i64).sz = 1 := rfl
  rw [hsz] at h
  obtain ⟨h1, h2⟩ := h
  rw [Nat.mul_one] at h1
  apply List.ext_getElem (by simpa using h1)
  intro j hj1 hj2
  have hj : j < xs.length := by omega
  have := h2 j xs[j] (List.getElem?_eq_getElem hj)
  rw [Nat.mul_one] at this
  have h3 : (inner.drop j).take 1 = [Value.int .i64 xs[j]] := this
  rw [List.drop_eq_getElem_cons hj1, List.take_succ_cons, List.take_zero] at h3
  injection h3 with h3 _
  rw [List.getElem_map]
  exact h3
theorem inner_of {w : World} {base : Nat} {ok : Nat → Prop} (xs : List Int) : Reps ((Kd.int .i64).M w base ok) (Kd.int .i64).sz xs (xs.map (Value.int .i64)) := by
  refine ⟨by show _ = xs.length * 1; simp, fun j p hj => ?_⟩
  have hj1 := (List.getElem?_eq_some_iff.1 hj).1
  have hp := (List.getElem?_eq_some_iff.1 hj).2
  show ((xs.map (Value.int .i64)).drop (j * 1)).take 1 = [Value.int .i64 p]
  rw [Nat.mul_one, List.drop_eq_getElem_cons (by simpa using hj1)]
  simp [hp]
/-- A row, opened: nil, or a block. -/
theorem open_row {e : Nat} {w : World} {base : Nat} {ok : Nat → Prop} {v : Value} {xs : List Int} (h : Kd.R (Kd.int .i64) e w base ok v xs) :
    (∀ k, v.ownBlock = some k → ok k) ∧ w.ownsRow base e 1 v xs.length (xs.map (Value.int .i64)) := by
  obtain ⟨h0, inner, ho, hr⟩ := h
  have := inner_eq hr
  subst this
  exact ⟨h0, ho⟩
theorem shut_row {e : Nat} {w : World} {base : Nat} {ok : Nat → Prop} {v : Value} {xs : List Int} (h0 : ∀ k, v.ownBlock = some k → ok k) (ho : w.ownsRow base e 1 v xs.length (xs.map (Value.int .i64))) : Kd.R (Kd.int .i64) e w base ok v xs :=
  ⟨h0, _, ho, inner_of xs⟩
section
variable {P : Program} {ops : Array Oper} {rest : List Oper} {o : Oper} {a : Act} {Q : Exit → Act → World → Prop}
theorem wpList_append_run (w : World) (hgd : o.guard = none) (s x : Operand) (t : TypeId)
    (ho : o.op = .call { callee := .builtin .append, args := #[s, x], argTypes := #[t, t] }) (v u : Value) (hs : a.eval s = v) (hx : a.eval x = u) {v' : Value} {w' : World}
    (hr : (Builtin.append_ #[t, t] o.type #[v, u]).run P w = .ok v' w') (h : wpList P ops Q rest (a.put o.dst v') w') : wpList P ops Q (o :: rest) a w := by
  refine wpList_plain hgd fun K hK => ?_
  unfold Oper.wp execOp
  simp only [ho, resolve, invoke, builtin, Sem.run_bind, Sem.run_pure, Result.andThen_ok, List.map_toArray, List.map_cons, List.map_nil, hs, hx, hr]
  exact hK _ _ h
/-- append(v, p): where the row gets a block of its own anew, all that stood there stays. -/
theorem append_watch {w0 W : World} (base : Nat) (hgd : o.guard = none) (s x : Operand) (t e : TypeId)
    (ho : o.op = .call { callee := .builtin .append, args := #[s, x], argTypes := #[t, t] })
    (ht : P.underlying t = some (.slice e)) (hinfo : (P.info? e).map (fun i => (i.zero, i.size, i.bytes)) = some (some (.int .i64 0), 1, 8))
    (v : Value) (xs : List Int) (p : Int) (hs : a.eval s = v) (hx : a.eval x = .slice (some ⟨W.heap.size, 0, none⟩) 1 1)
    (HO : Kd.R (Kd.int .i64) e W base (fun _ => True) v xs) (HB : Below base w0 W) (hbase : base ≤ W.heap.size) (hl : (xs.length + 1) * 8 ≤ 140737488355328)
    (h : ∀ v1 w1, Kd.R (Kd.int .i64) e w1 base (fun _ => True) v1 (xs ++ [p]) → Below base w0 w1 → W.grownBy w1 v.ownBlock → (v1.ownBlock = v.ownBlock ∨ Below W.heap.size W w1) → wpList P ops Q rest (a.put o.dst v1) w1) :
    wpList P ops Q (o :: rest) a (W.alloc (.cells #[.int .i64 p] e)) := by
  obtain ⟨i0, hi, hzz⟩ := Option.map_eq_some_iff.1 hinfo
  simp only [Prod.mk.injEq] at hzz
  obtain ⟨hz0, hz1, hz2⟩ := hzz
  obtain ⟨-, hown0⟩ := open_row HO
  have hown := hown0.alloc (.cells #[.int .i64 p] e)
  have hnews : ∀ (j : Nat) u, [Value.int .i64 p][j]? = some u → (W.alloc (.cells #[.int .i64 p] e)).cell? ((⟨W.heap.size, 0, none⟩ : Addr).add j) = some u := by
    have := World.news_of_block (cs := #[Value.int .i64 p]) (t := e) (fr := (0, 0)) (heap_alloc_new W (.cells #[.int .i64 p] e))
    simpa using this
  have hone : ∀ u ∈ [Value.int .i64 p], u.oneCell' = true := by intro u hu; rw [List.mem_singleton.1 hu]; rfl
  have hbW : base ≤ (W.alloc (.cells #[.int .i64 p] e)).heap.size := by simp; omega
  have hbyt : (xs.length + 1) * i0.bytes ≤ 140737488355328 := by rw [hz2]; exact hl
  obtain ⟨v1, w1, hr, h1, h2, -⟩ := run_append_own (P := P) (W.alloc (.cells #[.int .i64 p] e)) base t o.type e i0 (.int .i64 0) 1 8 ht hi hz0 hz1 hz2 rfl (by omega) v xs.length _ hown ⟨W.heap.size, 0, none⟩ 1 1 [.int .i64 p] (by simp) hnews hone (by simp only [maxLen]; omega) hl hbW
  have hwatch : v1.ownBlock = v.ownBlock ∨ Below W.heap.size W w1 := by
    have hal : Below W.heap.size W (W.alloc (.cells #[.int .i64 p] e)) := below_alloc (Below.refl _ _) _
    rcases hown.2 with ⟨rfl, hn⟩ | ⟨g, cap, cur, rfl, hbg, hg, hnc, hcm, hcs, htake⟩
    · have hr2 := run_append_nil (P := P) (W.alloc (.cells #[.int .i64 p] e)) t o.type e i0 (.int .i64 0) ht hi hz0 ⟨W.heap.size, 0, none⟩ 1 1 [.int .i64 p] (by rw [hz1]; simp) hnews (by omega) (by omega) (by rw [hz2]; omega)
      rw [hr] at hr2
      injection hr2 with _ e2
      subst e2
      exact .inr (below_alloc (below_drew1 hal) _)
    · by_cases hroom : xs.length + 1 ≤ cap
      · have hr2 := run_append_room (P := P) (W.alloc (.cells #[.int .i64 p] e)) t o.type e i0 ht hi g xs.length cap cur hg ⟨W.heap.size, 0, none⟩ 1 1 [.int .i64 p] (by rw [hz1]; simp) hnews hone hroom (by rw [hz1, hcs]; simp; omega)
        rw [hr] at hr2
        injection hr2 with e1 _
        subst e1
        exact .inl rfl
      · have hr2 := run_append_grow (P := P) (W.alloc (.cells #[.int .i64 p] e)) t o.type e i0 (.int .i64 0) ht hi hz0 ⟨g, 0, none⟩ xs.length cap (xs.map (Value.int .i64)) (by rw [hz1]; simp) (hown.cells (g := g) rfl) ⟨W.heap.size, 0, none⟩ 1 1 [.int .i64 p] (by rw [hz1]; simp) hnews (by omega) (by simp only [maxLen] at hcm; omega) (growslice_fits (by omega) hbyt)
        rw [hr] at hr2
        injection hr2 with _ e2
        subst e2
        exact .inr (below_alloc (below_drew1 hal) _)
  have hR : Kd.R (Kd.int .i64) e w1 base (fun _ => True) v1 (xs ++ [p]) := shut_row (fun _ _ => trivial) (by rw [List.length_append, List.map_append]; exact h1)
  exact wpList_append_run (W.alloc (.cells #[.int .i64 p] e)) hgd s x t ho v _ hs hx hr (h v1 w1 hR ((HB.alloc hbase _).grown h2 hbW (own_base hown0)) (World.grownBy.trans (World.grownBy_alloc W _ _) h2) hwatch)
end
theorem compact_sorted (d : Array Int) (hs : ∀ i j, i ≤ j → j < d.size → d[i]! ≤ d[j]!) : ∀ m, m ≤ d.size → (Lib.compactUpTo d m).Pairwise (· < ·) ∧ ∀ x, x ∈ Lib.compactUpTo d m ↔ ∃ j, j < m ∧ d[j]! = x := by
  intro m
  induction m with
  | zero => intro _; simp [Lib.compactUpTo]
  | succ m ih =>
    intro hm
    obtain ⟨h1, h2⟩ := ih (by omega)
    rw [Lib.compactUpTo_succ]
    cases hk : Lib.keeps d m with
    | true =>
      rw [if_pos rfl]
      refine ⟨List.pairwise_append.2 ⟨h1, by simp, fun x hx y hy => ?_⟩, fun x => ?_⟩
      · rw [List.mem_singleton] at hy
        subst hy
        obtain ⟨j, hj, rfl⟩ := (h2 x).1 hx
        have ha := hs j (m - 1) (by omega) (by omega)
        have hb := hs (m - 1) m (by omega) (by omega)
        have hne : d[m]! ≠ d[m - 1]! := fun e => by
          rw [Lib.keeps_neg (by omega) e] at hk; cases hk
        omega
      · rw [List.mem_append, List.mem_singleton, h2]
        constructor
        · rintro (⟨j, hj, rfl⟩ | rfl)
          · exact ⟨j, by omega, rfl⟩
          · exact ⟨m, by omega, rfl⟩
        · rintro ⟨j, hj, rfl⟩
          by_cases e : j = m
          · subst e; exact .inr rfl
          · exact .inl ⟨j, by omega, rfl⟩
    | false =>
      rw [if_neg (by simp), List.append_nil]
      refine ⟨h1, fun x => ?_⟩
      rw [h2]
      have h0 : 0 < m := by
        by_cases h0 : m = 0
        · subst h0; simp [Lib.keeps] at hk
        · omega
      have he : d[m]! = d[m - 1]! := by
        by_cases he : d[m]! = d[m - 1]!
        · exact he
        · rw [Lib.keeps_pos he] at hk; cases hk
      constructor
      · rintro ⟨j, hj, rfl⟩; exact ⟨j, by omega, rfl⟩
      · rintro ⟨j, hj, rfl⟩
        by_cases e : j = m
        · subst e; exact ⟨j - 1, by omega, he.symm⟩
        · exact ⟨j, by omega, rfl⟩
/-- Sorted and compacted: ascending, with the same members. -/
theorem tidy (l : List Int) : (Lib.compact (l.mergeSort fun x y => decide (x ≤ y))).Pairwise (· < ·) ∧ ∀ x, x ∈ Lib.compact (l.mergeSort fun x y => decide (x ≤ y)) ↔ x ∈ l := by
  have hp := List.mergeSort_perm l (fun x y => decide (x ≤ y))
  have hso : (l.mergeSort fun x y => decide (x ≤ y)).Pairwise (fun a b => (decide (a ≤ b)) = true) := List.pairwise_mergeSort (fun a b c h1 h2 => by simp at *; omega) (fun a b => by simp; omega) l
  generalize (l.mergeSort fun x y => decide (x ≤ y)) = s at hp hso
  have hs : ∀ i j, i ≤ j → j < s.toArray.size → s.toArray[i]! ≤ s.toArray[j]! := by
    intro i j hij hj
    have hj' : j < s.length := by simpa using hj
    rw [getElem!_pos s.toArray i (by simp; omega), getElem!_pos s.toArray j hj]
    simp only [List.getElem_toArray]
    by_cases e : i = j
    · subst e; exact Int.le_refl _
    · have := List.pairwise_iff_getElem.1 hso i j (by omega) hj' (by omega)
      simpa using this
  have h := compact_sorted s.toArray hs s.length (by simp)
  refine ⟨h.1, fun x => ?_⟩
  rw [show Lib.compact s = Lib.compactUpTo s.toArray s.length from rfl, h.2 x, ← hp.mem_iff]
  constructor
  · rintro ⟨j, hj, rfl⟩
    rw [getElem!_pos s.toArray j (by simpa using hj)]
    simp
  · intro hx
    obtain ⟨j, hj, rfl⟩ := List.getElem_of_mem hx
    exact ⟨j, hj, by rw [getElem!_pos s.toArray j (by simpa using hj)]; simp⟩
theorem asc_eq : ∀ {l m : List Int}, l.Pairwise (· < ·) → m.Pairwise (· < ·) → (∀ x, x ∈ l ↔ x ∈ m) → l = m
  | [], [], _, _, _ => rfl
  | [], b :: m, _, _, h => by have := (h b).2 (by simp); cases this
  | a :: l, [], _, _, h => by have := (h a).1 (by simp); cases this
  | a :: l, b :: m, h1, h2, h => by
    rw [List.pairwise_cons] at h1 h2
    have hab : a = b := by
      have ha := (h a).1 (by simp)
      have hb := (h b).2 (by simp)
      rcases List.mem_cons.1 ha with e | ha
      · exact e
      · rcases List.mem_cons.1 hb with e | hb
        · exact e.symm
        · have := h1.1 b hb
          have := h2.1 a ha
          omega
    subst hab
    congr 1
    refine asc_eq h1.2 h2.2 (fun x => ⟨fun hx => ?_, fun hx => ?_⟩)
    · rcases List.mem_cons.1 ((h x).1 (List.mem_cons_of_mem _ hx)) with e | h3
      · subst e; have := h1.1 x hx; omega
      · exact h3
    · rcases List.mem_cons.1 ((h x).2 (List.mem_cons_of_mem _ hx)) with e | h3
      · subst e; have := h2.1 x hx; omega
      · exact h3
theorem asc_len : ∀ (l : List Int) (a : Int) (M : Nat), l.Pairwise (· < ·) → (∀ x ∈ l, a ≤ x ∧ x < a + M) → l.length ≤ M
  | [], _, _, _, _ => by simp
  | b :: l, a, M, h, hb => by
    rw [List.pairwise_cons] at h
    have h0 := hb b (by simp)
    have := asc_len l (b + 1) (M - 1) h.2 (fun x hx => by
      have h1 := h.1 x hx
      have h2 := hb x (List.mem_cons_of_mem _ hx)
      omega)
    rw [List.length_cons]
    omega
end Go.Proofs.Ytdikeggkfkkajaa.Sorted
