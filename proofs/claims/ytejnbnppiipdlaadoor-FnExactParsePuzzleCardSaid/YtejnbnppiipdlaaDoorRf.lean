/- Words for a range over a function: what has come, what a round keeps. Conditions: none. -/
import Derived.Test.YtejnbnppiipdlaaDoorWMore
import Derived.RangeFuncNested
import Derived.RangeFuncBox
import Derived.RangeFuncCalls
namespace Go.Proofs.YtejnbnppiipdlaaDoor.Rf
open Go.RowKit Go.Proofs.YtejnbnppiipdlaaDoorW.PrintWords Go.Proofs.YtejnbnppiipdlaaDoorW.PrintLast
/-- What has come when k rounds are over: their numbers. -/
def upto (n k : Nat) : List (Fin n) := (List.finRange n).take k
theorem upto_succ {n k : Nat} (h : k < n) : upto n (k + 1) = upto n k ++ [⟨k, h⟩] := by
  unfold upto
  have hl : k < (List.finRange n).length := by simpa using h
  rw [← List.take_append_getElem hl]
  simp
theorem upto_length {n k : Nat} (h : k ≤ n) : (upto n k).length = k := by simp [upto]; omega
theorem upto_snoc {n : Nat} {pre : List (Fin n)} {x : Fin n} (h : pre ++ [x] = upto n (pre ++ [x]).length) : pre = upto n pre.length ∧ x.val = pre.length := by
  have hl : (pre ++ [x]).length ≤ n := by
    have := congrArg List.length h
    unfold upto at this
    rw [List.length_take, List.length_finRange] at this
    omega
  rw [List.length_append, List.length_singleton] at h hl
  rw [upto_succ (by omega)] at h
  obtain ⟨h1, h2⟩ := List.append_inj' h rfl
  exact ⟨h1, by have := List.cons.inj h2; rw [this.1]⟩
/-- What a round keeps: all below n, and one block more. -/
def Kp (n Bs : Nat) (W W' : World) : Prop := ∀ k, (k < n ∨ k = Bs) → W'.heap[k]? = W.heap[k]?
theorem Kp.cell {n Bs : Nat} {W W' : World} (h : Kp n Bs W W') {a : Addr} (ha : a.block < n ∨ a.block = Bs) : W'.cell? a = W.cell? a := by
  have h2 := h _ ha
  unfold World.cell?
  rw [h2]
theorem boxed_below {W W' : World} {B : Nat} {t : TypeId} {v : Value} (h : Boxed W B t v) (hb : Below W.heap.size W W') : Boxed W' B t v := blk_below h hb
theorem bk {X Y : World} {row : Option Nat} {B : Nat} {t : TypeId} {v : Value} (h : Boxed X B t v) (hg : X.grownBy Y row) (hr : ∀ r, row = some r → ∃ o : Obj, X.heap[r]? = some o ∧ o.isCells = false) : Boxed Y B t v := h.kept hg (fun e => by
  obtain ⟨o, ho, hc⟩ := hr B e.symm
  rw [show X.heap[B]? = _ from h] at ho
  cases ho
  simp [Obj.isCells] at hc)
end Go.Proofs.YtejnbnppiipdlaaDoor.Rf
