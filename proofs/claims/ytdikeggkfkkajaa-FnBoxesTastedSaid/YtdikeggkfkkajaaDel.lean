/- Words: of a row of the call's own some elements are kept, in their order, at its head: what the row says then. Conditions: none. -/
import Derived.Test.YtdikeggkfkkajaaWMore
import Derived.Test.YtdikeggkfkkajaaLam
import Derived.Lib.SlKept
namespace Go.Proofs.Ytdikeggkfkkajaa.Del
open Go.RowKit Go.Lib Go.Proofs.YtdikeggkfkkajaaW.PrintWords Go.Proofs.YtdikeggkfkkajaaW.PrintLast
/-- The places that are kept. -/
def places (kp : Nat → Bool) (n : Nat) : List Nat := (List.range n).filter kp
theorem places_lt {kp : Nat → Bool} {n j q : Nat} (h : (places kp n)[j]? = some q) : q < n := by
  have := List.mem_of_getElem? h
  exact List.mem_range.1 (List.mem_filter.1 this).1
theorem places_nodup (kp : Nat → Bool) (n : Nat) : (places kp n).Nodup := List.Pairwise.filter _ List.nodup_range
theorem nodup_at {l : List Nat} (h : l.Nodup) : ∀ {i j q : Nat}, l[i]? = some q → l[j]? = some q → i = j := by
  induction l with
  | nil => intro i j q hi; simp at hi
  | cons x l ih =>
    intro i j q hi hj
    rw [List.nodup_cons] at h
    cases i with
    | zero =>
      cases j with
      | zero => rfl
      | succ j =>
        have e : x = q := by simpa using hi
        subst e
        exact absurd (List.mem_of_getElem? (by simpa using hj)) h.1
    | succ i =>
      cases j with
      | zero =>
        have e : x = q := by simpa using hj
        subst e
        exact absurd (List.mem_of_getElem? (by simpa using hi)) h.1
      | succ j =>
        have e := ih h.2 (by simpa using hi) (by simpa using hj)
        rw [e]
theorem kept_eq (kp : Nat → Bool) (d : Array Value) (n : Nat) : keptUpTo kp d n = (places kp n).map (d[·]!) := rfl
theorem kept_len (kp : Nat → Bool) (d : Array Value) (n : Nat) : (keptUpTo kp d n).length = (places kp n).length := by rw [kept_eq, List.length_map]
theorem arr_at {a : Array Value} {k : Nat} (h : k < a.size) : a[k]? = some a[k]! := by rw [getElem!_pos a k h]; exact Array.getElem?_eq_getElem h
theorem R_kept {α : Type} {d : Kd α} (hsz : d.sz = 1) {e base g n c : Nat} {w W : World} {ok : Nat → Prop} {xs : List α} (h : d.R e w base ok (.slice (some ⟨g, 0, none⟩) n c) xs)
    (hkeep : ∀ k, ok k → k ≠ g → k < w.heap.size → W.heap[k]? = w.heap[k]?) {cur0 cur1 : Array Value} (h0 : w.heap[g]? = some (.cells cur0 e (0, 0))) (h1 : W.heap[g]? = some (.cells cur1 e (0, 0))) (hs : cur1.size = cur0.size)
    (kp : Nat → Bool) (m : Nat) (hm : (keptUpTo kp cur0 n).length = m) (ht : cur1.toList.take m = keptUpTo kp cur0 n) (z : α) :
    d.R e W base ok (.slice (some ⟨g, 0, none⟩) m c) ((places kp n).map (fun j => xs.getD j z)) := by
  have hn := (Kd.R_reads' h).1
  obtain ⟨hok, inner, hown, hr⟩ := h
  rcases hown.2 with ⟨hv, _⟩ | ⟨g', cap', cur, hv, hb, hh, hle, hcm, hcs, htake⟩
  · cases hv
  injection hv with ha _ hc
  injection ha with ha
  injection ha with hg
  subst hg; subst hc
  rw [h0] at hh
  obtain rfl : cur0 = cur := by injection hh with hh; injection hh
  rw [hsz] at hcs htake
  have hmn : m ≤ n := by
    rw [← hm, kept_len]
    exact Nat.le_trans (List.length_filter_le _ _) (by simp)
  have hlen : ((places kp n).map (fun j => xs.getD j z)).length = m := by rw [List.length_map, ← hm, kept_len]
  refine ⟨fun k hk => hok k (by simpa [Value.ownBlock] using hk), keptUpTo kp cur0 n, ⟨by rw [hlen, hm, hsz, Nat.mul_one], .inr ⟨g, c, cur1, by rw [hlen], hb, h1, by rw [hlen]; omega, hcm, by rw [hsz, hs, hcs], by rw [hlen, hsz, Nat.mul_one]; exact ht⟩⟩, by rw [hlen, hm, hsz, Nat.mul_one], fun j p hj => ?_⟩
  rw [List.getElem?_map] at hj
  obtain ⟨q, hq, rfl⟩ := Option.map_eq_some_iff.1 hj
  have hqn := places_lt hq
  have hqx : xs[q]? = some (xs.getD q z) := by rw [List.getD_eq_getElem?_getD, List.getElem?_eq_getElem (by omega)]; rfl
  have h3 := hr.2 q _ hqx
  rw [hsz, Nat.mul_one] at h3 ⊢
  rw [← htake, Nat.mul_one] at h3
  have hq0 : q < cur0.size := by omega
  have e1 : ((cur0.toList.take xs.length).drop q).take 1 = [cur0[q]!] := by
    rw [List.drop_take, List.take_take, show min 1 (xs.length - q) = 1 by omega, List.drop_eq_getElem_cons (by simpa using hq0)]
    rw [getElem!_pos cur0 q hq0]
    rfl
  have hjl : j < (keptUpTo kp cur0 n).length := by
    rw [kept_len]
    exact (List.getElem?_eq_some_iff.1 hq).1
  have e2 : ((keptUpTo kp cur0 n).drop j).take 1 = [cur0[q]!] := by
    rw [List.drop_eq_getElem_cons hjl]
    have : (keptUpTo kp cur0 n)[j]? = some cur0[q]! := by rw [kept_eq, List.getElem?_map, hq]; rfl
    rw [List.getElem?_eq_getElem hjl] at this
    rw [Option.some.inj this]
    rfl
  rw [e1] at h3
  rw [e2]
  have hgo : (Value.slice (some ⟨g, 0, none⟩) n c).ownBlock = (Value.slice (some ⟨g, 0, none⟩) m c).ownBlock := by simp [Value.ownBlock]
  have hgb : (Value.slice (some ⟨g, 0, none⟩) m c).ownBlock = some g := by simp [Value.ownBlock]
  exact d.M_mono (fun k hk => ⟨hk.1.1, by rw [← hgo]; exact hk.1.2⟩) (d.M_move (w1 := W) (fun k hk => hkeep k hk.1.1 (fun he => hk.1.2 (by rw [hgo, hgb, he])) hk.2.2.1) (d.M_bound h3))
theorem S_kept {α : Type} {d : Kd α} (hsz : d.sz = 1) {e base g n c : Nat} {w W : World} {ok : Nat → Prop} {xs : List α} (h : Kd.S d e w base ok (.slice (some ⟨g, 0, none⟩) n c) xs)
    (hkeep : ∀ k, ok k → k ≠ g → k < w.heap.size → W.heap[k]? = w.heap[k]?) {cur0 cur1 : Array Value} (h0 : w.heap[g]? = some (.cells cur0 e (0, 0))) (h1 : W.heap[g]? = some (.cells cur1 e (0, 0))) (hs : cur1.size = cur0.size)
    (kp : Nat → Bool) (m : Nat) (hm : (keptUpTo kp cur0 n).length = m) (ht : cur1.toList.take m = keptUpTo kp cur0 n) (z : α) :
    Kd.S d e W base ok (.slice (some ⟨g, 0, none⟩) m c) ((places kp n).map (fun j => xs.getD j z)) := by
  have hn := (Kd.S_reads' h).1
  obtain ⟨f, h⟩ := h
  have h2 := R_kept (d := Kd.tag f d) hsz h hkeep h0 h1 hs kp m hm ht (z, 0)
  have hz : ∀ q, q < n → xs.zipIdx.getD q (z, 0) = (xs.getD q z, q) := fun q hq => by
    have hqx : xs[q]? = some (xs.getD q z) := by rw [List.getD_eq_getElem?_getD, List.getElem?_eq_getElem (by omega)]; rfl
    rw [List.getD_eq_getElem?_getD, Kd.zip_at hqx]; rfl
  obtain ⟨hok, inner, hown, hr⟩ := h2
  have hl : ((places kp n).map (fun j => xs.zipIdx.getD j (z, 0))).length = ((places kp n).map (fun j => xs.getD j z)).zipIdx.length := by simp
  refine ⟨fun k => (places kp n).idxOf (f k), hok, inner, by rw [← hl]; exact hown, by rw [← hl]; exact hr.1, fun j p hj => ?_⟩
  rw [List.getElem?_zipIdx, Nat.zero_add, List.getElem?_map] at hj
  obtain ⟨x, hx, rfl⟩ := Option.map_eq_some_iff.1 hj
  obtain ⟨q, hq, rfl⟩ := Option.map_eq_some_iff.1 hx
  have h3 := hr.2 j (xs.getD q z, q) (by rw [List.getElem?_map, hq]; simp only [Option.map_some]; rw [hz q (places_lt hq)])
  refine d.M_mono (fun k hk => ⟨hk.1, ?_⟩) h3
  have hf : f k = q := hk.2
  show (places kp n).idxOf (f k) = j
  rw [hf]
  have hm : q ∈ places kp n := List.mem_of_getElem? hq
  have hi := List.idxOf_lt_length_of_mem hm
  exact nodup_at (places_nodup kp n) (by rw [List.getElem?_eq_getElem hi, List.getElem_idxOf]) hq
theorem row_ofR {α : Type} {d : Kd α} (hsz : d.sz = 1) {e base g n c : Nat} {w : World} {ok : Nat → Prop} {xs : List α} (h : d.R e w base ok (.slice (some ⟨g, 0, none⟩) n c) xs) (z : α) :
    n = xs.length ∧ n ≤ c ∧ base ≤ g ∧ ∃ cur0, w.heap[g]? = some (.cells cur0 e (0, 0)) ∧ n ≤ cur0.size ∧ (c : Int) ≤ 9223372036854775807 ∧ ∀ j, j < n → d.M w base (fun k => ok k ∧ k ≠ g) (xs.getD j z) [cur0[j]!] := by
  have hn := (Kd.R_reads' h).1
  obtain ⟨hok, inner, hown, hr⟩ := h
  rcases hown.2 with ⟨hv, _⟩ | ⟨g', cap', cur, hv, hb, hh, hle, hcm, hcs, htake⟩
  · cases hv
  injection hv with ha _ hc
  injection ha with ha
  injection ha with hg
  subst hg; subst hc
  rw [hsz] at hcs htake
  refine ⟨hn, by omega, hb, cur, hh, by omega, by unfold maxLen at hcm; omega, fun q hqn => ?_⟩
  have hqx : xs[q]? = some (xs.getD q z) := by rw [List.getD_eq_getElem?_getD, List.getElem?_eq_getElem (by omega)]; rfl
  have h3 := hr.2 q _ hqx
  rw [hsz, Nat.mul_one] at h3
  rw [← htake, Nat.mul_one] at h3
  have hq0 : q < cur.size := by omega
  have e1 : ((cur.toList.take xs.length).drop q).take 1 = [cur[q]!] := by
    rw [List.drop_take, List.take_take, show min 1 (xs.length - q) = 1 by omega, List.drop_eq_getElem_cons (by simpa using hq0)]
    rw [getElem!_pos cur q hq0]
    rfl
  rw [e1] at h3
  exact d.M_mono (fun k hk => ⟨hk.1, fun he => hk.2 (by simp [Value.ownBlock, he])⟩) h3
theorem row_ofS {α : Type} {d : Kd α} (hsz : d.sz = 1) {e base g n c : Nat} {w : World} {ok : Nat → Prop} {xs : List α} (h : Kd.S d e w base ok (.slice (some ⟨g, 0, none⟩) n c) xs) (z : α) :
    n = xs.length ∧ n ≤ c ∧ base ≤ g ∧ ∃ cur0, w.heap[g]? = some (.cells cur0 e (0, 0)) ∧ n ≤ cur0.size ∧ (c : Int) ≤ 9223372036854775807 ∧ ∀ j, j < n → d.M w base (fun k => ok k ∧ k ≠ g) (xs.getD j z) [cur0[j]!] := row_ofR hsz (Kd.S_R h) z
theorem shape_int {k : IntKind} {w : World} {base : Nat} {ok : Nat → Prop} {x : Int} {u : Value} (h : (Kd.int k).M w base ok x [u]) : ∃ y, u = .int k y := ⟨x, by have h' : [u] = [Value.int k x] := h; injection h'⟩
theorem shape_row {α : Type} {d : Kd α} {e : Nat} {w : World} {base : Nat} {ok : Nat → Prop} {x : List α} {u : Value} (h : (Kd.slice e d).M w base ok x [u]) : ∃ y0 y1 y2, u = .slice y0 y1 y2 := by
  obtain ⟨v, hv, hR⟩ := h
  obtain ⟨A, c, rfl⟩ := Kd.R_slice hR
  exact ⟨A, _, c, by injection hv⟩
theorem grown_many {w : World} {g e : Nat} {cur : Array Value} (_ : w.heap[g]? = some (.cells cur e (0, 0))) (i : Nat) (zs : List Value) : w.grownBy (w.setCells g i zs) (some g) := by
  obtain ⟨s1, s2, s3, s4⟩ := setCells_same g zs i w
  exact ⟨s1, s2, s3, by rw [s4]; exact Nat.le_refl _, fun k' _ hk' => setCells_far _ _ k' (fun he => hk' (by rw [he]))⟩
theorem grown_set {w : World} {g e : Nat} {cur : Array Value} (h : w.heap[g]? = some (.cells cur e (0, 0))) (i : Nat) (u : Value) : w.grownBy (w.setCell ⟨g, i, none⟩ u) (some g) := grown_many h i [u]
theorem set_many {w : World} {g e : Nat} {cur : Array Value} {zs : List Value} (h : w.heap[g]? = some (.cells cur e (0, 0))) (i : Nat) (hl : i + zs.length ≤ cur.size) :
    ∃ cur', (w.setCells g i zs).heap[g]? = some (.cells cur' e (0, 0)) ∧ cur'.size = cur.size ∧ cur'.toList.take i = cur.toList.take i := by
  obtain ⟨cur', h1, h2, h3⟩ := setCells_row zs i w cur h hl
  refine ⟨cur', h1, h2, ?_⟩
  rw [h3, List.append_assoc, List.take_append_of_le_length (by rw [List.length_take, Array.length_toList]; omega), List.take_take, Nat.min_self]
/-- A number stored into a row of the call's own. -/
theorem R_put {e base g n c : Nat} {W : World} {ok : Nat → Prop} {xs : List Int} (h : (Kd.int .i64).R e W base ok (.slice (some ⟨g, 0, none⟩) n c) xs) {i : Nat} (hi : i < n) :
    base ≤ g ∧ W.cell? ⟨g, i, none⟩ = some (.int .i64 (xs.getD i 0)) ∧ W.frozen? ⟨g, i, none⟩ = false ∧ ∀ y : Int, (Kd.int .i64).R e (W.setCell ⟨g, i, none⟩ (.int .i64 y)) base ok (.slice (some ⟨g, 0, none⟩) n c) (xs.set i y) ∧ W.grownBy (W.setCell ⟨g, i, none⟩ (.int .i64 y)) (some g) := by
  obtain ⟨cs, hcl, hM, hcc, hfr⟩ := Kd.R_elem h 0 (i : Int) (by omega) (by omega)
  rw [Int.toNat_natCast] at hM hcc hfr
  have hcs : cs = [.int .i64 (xs.getD i 0)] := hM
  have e1 : i * (Kd.int .i64).sz + 0 = i := by show i * 1 + 0 = i; omega
  have h0 := hcc 0 _ (by rw [hcs]; rfl)
  have h1 := hfr 0
  rw [e1] at h0 h1
  refine ⟨Kd.R_base h g (by simp [Value.ownBlock]), h0, h1, fun y => ?_⟩
  have h2 := Kd.R_seg h (i : Int) (by omega) (by omega) (c := cs) (seg := [.int .i64 y]) (j := 0) (x' := y) (okp := fun _ => False) hcl (by rw [Int.toNat_natCast]; exact hcc) (by show 0 + 1 ≤ 1; omega) (by rw [hcs]; rfl) (fun _ hk => hk.elim)
  rw [Int.toNat_natCast, e1] at h2
  exact h2
/-- The same of any row of scalars. -/
theorem R_putS {α : Type} {enc : α → Value} {h1 : ∀ x, (enc x).oneCell' = true} {e base g n c : Nat} {W : World} {ok : Nat → Prop} {xs : List α} (h : (Kd.scalar enc h1).R e W base ok (.slice (some ⟨g, 0, none⟩) n c) xs) (z : α) {i : Nat} (hi : i < n) :
    base ≤ g ∧ W.cell? ⟨g, i, none⟩ = some (enc (xs.getD i z)) ∧ W.frozen? ⟨g, i, none⟩ = false ∧ ∀ y : α, (Kd.scalar enc h1).R e (W.setCell ⟨g, i, none⟩ (enc y)) base ok (.slice (some ⟨g, 0, none⟩) n c) (xs.set i y) ∧ W.grownBy (W.setCell ⟨g, i, none⟩ (enc y)) (some g) := by
  obtain ⟨cs, hcl, hM, hcc, hfr⟩ := Kd.R_elem h z (i : Int) (by omega) (by omega)
  rw [Int.toNat_natCast] at hM hcc hfr
  have hcs : cs = [enc (xs.getD i z)] := hM
  have e1 : i * (Kd.scalar enc h1).sz + 0 = i := by show i * 1 + 0 = i; omega
  have h0 := hcc 0 _ (by rw [hcs]; rfl)
  have h2 := hfr 0
  rw [e1] at h0 h2
  refine ⟨Kd.R_base h g (by simp [Value.ownBlock]), h0, h2, fun y => ?_⟩
  have h3 := Kd.R_seg h (i : Int) (by omega) (by omega) (c := cs) (seg := [enc y]) (j := 0) (x' := y) (okp := fun _ => False) hcl (by rw [Int.toNat_natCast]; exact hcc) (by show 0 + 1 ≤ 1; omega) (by rw [hcs]; rfl) (fun _ hk => hk.elim)
  rw [Int.toNat_natCast, e1] at h3
  exact h3
theorem row_formR {α : Type} {d : Kd α} {e base : Nat} {w : World} {ok : Nat → Prop} {v : Value} {xs : List α} (h : d.R e w base ok v xs) : (v = .slice none 0 0 ∧ xs = []) ∨ ∃ g c, v = .slice (some ⟨g, 0, none⟩) xs.length c := by
  obtain ⟨A, c0, e0⟩ := Kd.R_slice h
  obtain ⟨_, inner, hown, _⟩ := h
  rcases hown.2 with ⟨hv, _⟩ | ⟨g', cap', cur, hv, _⟩
  · refine .inl ⟨hv, ?_⟩
    rw [e0] at hv
    injection hv with _ h1 _
    exact List.eq_nil_of_length_eq_zero h1
  · exact .inr ⟨g', cap', hv⟩
theorem row_formS {α : Type} {d : Kd α} {e base : Nat} {w : World} {ok : Nat → Prop} {v : Value} {xs : List α} (h : Kd.S d e w base ok v xs) : (v = .slice none 0 0 ∧ xs = []) ∨ ∃ g c, v = .slice (some ⟨g, 0, none⟩) xs.length c := row_formR (Kd.S_R h)
theorem grown_below {w W : World} {row : Option Nat} (hb : Below w.heap.size w W) : w.grownBy W row := ⟨hb.os, hb.tape, hb.output, hb.size, fun k hk _ => hb.block k hk⟩
theorem places_filter {α : Type} (z : α) (p : α → Bool) (xs : List α) : (places (fun j => !p (xs.getD j z)) xs.length).map (fun j => xs.getD j z) = xs.filter (fun x => !p x) := by
  have e : xs = (List.range xs.length).map (fun j => xs.getD j z) := by
    apply List.ext_getElem
    · simp
    · intro i h1 h2
      simp [List.getD_eq_getElem?_getD, List.getElem?_eq_getElem h1]
  conv => rhs; rw [e, List.filter_map]
  rfl
end Go.Proofs.Ytdikeggkfkkajaa.Del
