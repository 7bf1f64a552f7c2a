/- Words: what a call keeps beside the blocks of S, the streams with it; a call of a function value in a region that draws its order. -/
import Derived.Test.YtdikeggkfkkajaaWMore
namespace Go.Proofs.Ytdikeggkfkkajaa.Kq
open Go.RowKit Go.Proofs.YtdikeggkfkkajaaW.PrintWords Go.Proofs.YtdikeggkfkkajaaW.PrintLast
/-- All blocks but those of S are as they were, and the streams. -/
structure KQ (w W : World) (S : Nat → Prop) : Prop where
  k : Kept w W S
  os : W.os = w.os
  tape : W.tape = w.tape
  output : W.output = w.output
variable {w W W2 : World} {S S2 : Nat → Prop}
theorem KQ.size (h : KQ w W S) : w.heap.size ≤ W.heap.size := h.k.1
theorem KQ.refl (w : World) (S : Nat → Prop) : KQ w w S := ⟨Kept.refl w S, rfl, rfl, rfl⟩
theorem KQ.then_ (h : KQ w W S) (k : KQ W W2 S2) (hs : ∀ k, S2 k → S k ∨ w.heap.size ≤ k) : KQ w W2 S := ⟨h.k.then_ k.k hs, k.os.trans h.os, k.tape.trans h.tape, k.output.trans h.output⟩
theorem KQ.below (h : KQ w W S) (hb : Below W.heap.size W W2) : KQ w W2 S := ⟨h.k.below hb, hb.os.trans h.os, hb.tape.trans h.tape, hb.output.trans h.output⟩
theorem KQ.alloc (h : KQ w W S) (o : Obj) : KQ w (W.alloc o) S := h.below (below_alloc (Below.refl _ _) o)
theorem KQ.drew (h : KQ w W S) : KQ w W.drew S := ⟨h.k.drew, h.os, h.tape, h.output⟩
theorem KQ.drewN (h : KQ w W S) (m : Nat) : KQ w (W.drewN m) S := ⟨h.k.drewN m, h.os, h.tape, h.output⟩
theorem KQ.setCell (h : KQ w W S) {p : Addr} (hp : S p.block ∨ w.heap.size ≤ p.block) (u : Value) : KQ w (W.setCell p u) S := ⟨h.k.setCell hp u, h.os, h.tape, h.output⟩
/-- Behind a call that writes the blocks of S, all of which are newer than w. -/
theorem KQ.to_below (hb : Below w.heap.size w W) (h : KQ W W2 S) (hs : ∀ k, S k → w.heap.size ≤ k) : Below w.heap.size w W2 :=
  ⟨h.os.trans hb.os, h.tape.trans hb.tape, h.output.trans hb.output, Nat.le_trans hb.size h.size, fun k hk => (h.k.2 k (Nat.lt_of_lt_of_le hk hb.size) (fun h2 => by have := hs k h2; omega)).trans (hb.block k hk)⟩
theorem R_kq {α : Type} {d : Kd α} {e base : Nat} {ok : Nat → Prop} {v : Value} {xs : List α} (h : d.R e W base ok v xs) (hk : KQ W W2 S) (hne : ∀ k, ok k → ¬ S k) : d.R e W2 base ok v xs := Kd.R_kept h hk.k hne
theorem blk_kq {g : Nat} {o : Obj} (hb : W.heap[g]? = some o) (hk : KQ W W2 S) (hne : ¬ S g) : W2.heap[g]? = some o := blk_kept hb hk.k hne
theorem cell_kq {a : Addr} {v : Value} (hc : W.cell? a = some v) (hk : KQ W W2 S) (hne : ¬ S a.block) : W2.cell? a = some v := cell_kept hc hk.k hne
/-- A row that came in, for all that such calls leave. -/
theorem C_kq_came {α : Type} {d : Kd α} {w0 : World} {A : Option Addr} {n : Nat} {xs : List α} (hd : Kd.Heap d) (h : d.C w0 A n xs) (hb : Below w0.heap.size w0 W) (hS : ∀ k, S k → w0.heap.size ≤ k) : ∀ W', KQ W W' S → d.C W' A n xs := fun W' hk => Kd.C_kept_came hd h hb hS W' hk.k
/-- A call of a function value, in a region that draws. -/
theorem goesV_ {P : Program} {Q : Exit → Act → World → Prop} {ops : Array Oper} {oi : Oper} {N : Option Tmp} {a : Act} {w : World} {K : Act → World → Prop} {f : FuncId} {fn : Func} {x : Operand} {xs : Array Operand} {ts : Array TypeId} {lb : Array Value} (hf : P.funcs[f]? = some fn) (hname : (fn.name == "runtime.NumGoroutine") = false) (hb : fn.body.isSome = true) (args : Array Value)
    (hw : Region.wanted oi (yielded ops a.tmps) = true) (hN : oi.dst = N) (hop : oi.op = .call { callee := .value x, args := xs, argTypes := ts }) (hx : a.eval x = .func (.func f) #[] lb) (hargs : xs.map a.eval ++ lb = args)
    (h : Calls P f args w fun e w' => ∃ v, e = .returned v ∧ K (a.put N v) w') : if Region.wanted oi (yielded ops a.tmps) = true then Oper.wp P oi a w K Q else K (a.put N undef) w := by
  refine call_ f args hw hN ?_ h
  have he := enters_ hf hname hb args w
  unfold execOp
  simp [hop, resolve, Deferred.ofValue, invoke, hx, hargs, he]
end Go.Proofs.Ytdikeggkfkkajaa.Kq
