/- Words: of a row of the call's own some elements are kept, in their order, at its head: what the row says then. Conditions: none. -/
import Derived.Test.YtejnbnppiipdlaaWMore
import Derived.Test.YtejnbnppiipdlaaLam
import Derived.Lib.SlKept
namespace Go.Proofs.Ytejnbnppiipdlaa.Del
open Go.RowKit Go.Lib Go.Proofs.YtejnbnppiipdlaaW.PrintWords Go.Proofs.YtejnbnppiipdlaaW.PrintLast
/-- The places that are kept. -/
def places (kp : Nat → Bool) (n : Nat) : List Nat := (List.range n).filter kp
theorem arr_at {a : Array Value} {k : Nat} (h : k < a.size) : a[k]? = some a[k]! := by rw [getElem!_pos a k h]; exact Array.getElem?_eq_getElem h
theorem row_ofR {α : Type} {d : Kd α} (hsz : d.sz = 1) {e base g n c : Nat} {w : World} {ok : Nat → Prop} {xs : List α} (h : d.R e w base ok (.slice (some ⟨g, 0, none⟩) n c) xs) (z : α) :
    n = xs.length ∧ n ≤ c ∧ base ≤ g ∧ ∃ cur0, w.heap[g]? = some (.cells cur0 e (0, 0)) ∧ n ≤ cur0.size ∧ (c : Int) ≤ 9223372036854775807 ∧ ∀ j, j < n → d.M w base (fun k => ok k ∧ k ≠ g) (xs.getD j z) [cur0[j]!] := by
  have hn := (Kd.R_reads' h).1
  obtain ⟨hok, inner, hown, hr⟩ := h
  rcases hown.2 with ⟨hv, _⟩ | ⟨g', cap', cur, hv, hb, hh, hle, hcm, hcs, htake⟩
  · cases hv
  injection hv with ha _ hc
  injection ha with ha
  injection ha with hg
  subst hg; subst hc
  rw [hsz] at hcs htake
  refine ⟨hn, by omega, hb, cur, hh, by omega, by unfold maxLen at hcm; omega, fun q hqn => ?_⟩
  have hqx : xs[q]? = some (xs.getD q z) := by rw [List.getD_eq_getElem?_getD, List.getElem?_eq_getElem (by omega)]; rfl
  have h3 := hr.2 q _ hqx
  rw [hsz, Nat.mul_one] at h3
  rw [← htake, Nat.mul_one] at h3
  have hq0 : q < cur.size := by omega
  have e1 : ((cur.toList.take xs.length).drop q).take 1 = [cur[q]!] := by
    rw [List.drop_take, List.take_take, show min 1 (xs.length - q) = 1 by omega, List.drop_eq_getElem_cons (by simpa using hq0)]
    rw [getElem!_pos cur q hq0]
    rfl
  rw [e1] at h3
  exact d.M_mono (fun k hk => ⟨hk.1, fun he => hk.2 (by simp [Value.ownBlock, he])⟩) h3
/-- A number stored into a row of the call's own. -/
theorem R_put {e base g n c : Nat} {W : World} {ok : Nat → Prop} {xs : List Int} (h : (Kd.int .i64).R e W base ok (.slice (some ⟨g, 0, none⟩) n c) xs) {i : Nat} (hi : i < n) :
    base ≤ g ∧ W.cell? ⟨g, i, none⟩ = some (.int .i64 (xs.getD i 0)) ∧ W.frozen? ⟨g, i, none⟩ = false ∧ ∀ y : Int, (Kd.int .i64).R e (W.setCell ⟨g, i, none⟩ (.int .i64 y)) base ok (.slice (some ⟨g, 0, none⟩) n c) (xs.set i y) ∧ W.grownBy (W.setCell ⟨g, i, none⟩ (.int .i64 y)) (some g) := by
  obtain ⟨cs, hcl, hM, hcc, hfr⟩ := Kd.R_elem h 0 (i : Int) (by omega) (by omega)
  rw [Int.toNat_natCast] at hM hcc hfr
  have hcs : cs = [.int .i64 (xs.getD i 0)] := hM
  have e1 : i * (Kd.int .i64).sz + 0 = i := by show i * 1 + 0 = i; omega
  have h0 := hcc 0 _ (by rw [hcs]; rfl)
  have h1 := hfr 0
  rw [e1] at h0 h1
  refine ⟨Kd.R_base h g (by simp [Value.ownBlock]), h0, h1, fun y => ?_⟩
  have h2 := Kd.R_seg h (i : Int) (by omega) (by omega) (c := cs) (seg := [.int .i64 y]) (j := 0) (x' := y) (okp := fun _ => False) hcl (by rw [Int.toNat_natCast]; exact hcc) (by show 0 + 1 ≤ 1; omega) (by rw [hcs]; rfl) (fun _ hk => hk.elim)
  rw [Int.toNat_natCast, e1] at h2
  exact h2
theorem row_formR {α : Type} {d : Kd α} {e base : Nat} {w : World} {ok : Nat → Prop} {v : Value} {xs : List α} (h : d.R e w base ok v xs) : (v = .slice none 0 0 ∧ xs = []) ∨ ∃ g c, v = .slice (some ⟨g, 0, none⟩) xs.length c := by
  obtain ⟨A, c0, e0⟩ := Kd.R_slice h
  obtain ⟨_, inner, hown, _⟩ := h
  rcases hown.2 with ⟨hv, _⟩ | ⟨g', cap', cur, hv, _⟩
  · refine .inl ⟨hv, ?_⟩
    rw [e0] at hv
    injection hv with _ h1 _
    exact List.eq_nil_of_length_eq_zero h1
  · exact .inr ⟨g', cap', hv⟩
end Go.Proofs.Ytejnbnppiipdlaa.Del
