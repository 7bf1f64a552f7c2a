/- Words: of a row of the call's own some elements are kept, in their order, at its head: what the row says then. Conditions: none. -/
import Derived.Test.YtdikeggkfkkajaaWMore
import Derived.Test.YtdikeggkfkkajaaLam
import Derived.Lib.SlKept
namespace Go.Proofs.Ytdikeggkfkkajaa.Del
open Go.RowKit Go.Lib Go.Proofs.YtdikeggkfkkajaaW.PrintWords Go.Proofs.YtdikeggkfkkajaaW.PrintLast
/-- The places that are kept. -/
def places (kp : Nat → Bool) (n : Nat) : List Nat := (List.range n).filter kp
theorem kept_eq (kp : Nat → Bool) (d : Array Value) (n : Nat) : keptUpTo kp d n = (places kp n).map (d[·]!) := rfl
theorem kept_len (kp : Nat → Bool) (d : Array Value) (n : Nat) : (keptUpTo kp d n).length = (places kp n).length := by rw [kept_eq, List.length_map]
theorem arr_at {a : Array Value} {k : Nat} (h : k < a.size) : a[k]? = some a[k]! := by rw [getElem!_pos a k h]; exact Array.getElem?_eq_getElem h
theorem grown_many {w : World} {g e : Nat} {cur : Array Value} (_ : w.heap[g]? = some (.cells cur e (0, 0))) (i : Nat) (zs : List Value) : w.grownBy (w.setCells g i zs) (some g) := by
  obtain ⟨s1, s2, s3, s4⟩ := setCells_same g zs i w
  exact ⟨s1, s2, s3, by rw [s4]; exact Nat.le_refl _, fun k' _ hk' => setCells_far _ _ k' (fun he => hk' (by rw [he]))⟩
theorem set_many {w : World} {g e : Nat} {cur : Array Value} {zs : List Value} (h : w.heap[g]? = some (.cells cur e (0, 0))) (i : Nat) (hl : i + zs.length ≤ cur.size) :
    ∃ cur', (w.setCells g i zs).heap[g]? = some (.cells cur' e (0, 0)) ∧ cur'.size = cur.size ∧ cur'.toList.take i = cur.toList.take i := by
  obtain ⟨cur', h1, h2, h3⟩ := setCells_row zs i w cur h hl
  refine ⟨cur', h1, h2, ?_⟩
  rw [h3, List.append_assoc, List.take_append_of_le_length (by rw [List.length_take, Array.length_toList]; omega), List.take_take, Nat.min_self]
/-- A number stored into a row of the call's own. -/
theorem R_put {e base g n c : Nat} {W : World} {ok : Nat → Prop} {xs : List Int} (h : (Kd.int .i64).R e W base ok (.slice (some ⟨g, 0, none⟩) n c) xs) {i : Nat} (hi : i < n) :
    base ≤ g ∧ W.cell? ⟨g, i, none⟩ = some (.int .i64 (xs.getD i 0)) ∧ W.frozen? ⟨g, i, none⟩ = false ∧ ∀ y : Int, (Kd.int .i64).R e (W.setCell ⟨g, i, none⟩ (.int .i64 y)) base ok (.slice (some ⟨g, 0, none⟩) n c) (xs.set i y) ∧ W.grownBy (W.setCell ⟨g, i, none⟩ (.int .i64 y)) (some g) := by
  obtain ⟨cs, hcl, hM, hcc, hfr⟩ := Kd.R_elem h 0 (i : Int) (by omega) (by omega)
  rw [Int.toNat_natCast] at hM hcc hfr
  have hcs : cs = [.int .i64 (xs.getD i 0)] := hM
  have e1 : i * (Kd.int .i64).sz + 0 = i := by show i * 1 + 0 = i; omega
  have h0 := hcc 0 _ (by rw [hcs]; rfl)
  have h1 := hfr 0
  rw [e1] at h0 h1
  refine ⟨Kd.R_base h g (by simp [Value.ownBlock]), h0, h1, fun y => ?_⟩
  have h2 := Kd.R_seg h (i : Int) (by omega) (by omega) (c := cs) (seg := [.int .i64 y]) (j := 0) (x' := y) (okp := fun _ => False) hcl (by rw [Int.toNat_natCast]; exact hcc) (by show 0 + 1 ≤ 1; omega) (by rw [hcs]; rfl) (fun _ hk => hk.elim)
  rw [Int.toNat_natCast, e1] at h2
  exact h2
end Go.Proofs.Ytdikeggkfkkajaa.Del
