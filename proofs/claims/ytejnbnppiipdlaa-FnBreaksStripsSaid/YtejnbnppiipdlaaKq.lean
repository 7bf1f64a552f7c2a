/- Words: what a call keeps beside the blocks of S, the streams with it; a call of a function value in a region that draws its order. -/
import Derived.Test.YtejnbnppiipdlaaWMore
namespace Go.Proofs.Ytejnbnppiipdlaa.Kq
open Go.RowKit Go.Proofs.YtejnbnppiipdlaaW.PrintWords Go.Proofs.YtejnbnppiipdlaaW.PrintLast
/-- All blocks but those of S are as they were, and the streams. -/
structure KQ (w W : World) (S : Nat → Prop) : Prop where
  k : Kept w W S
  os : W.os = w.os
  tape : W.tape = w.tape
  output : W.output = w.output
variable {w W W2 : World} {S S2 : Nat → Prop}
theorem KQ.size (h : KQ w W S) : w.heap.size ≤ W.heap.size := h.k.1
theorem KQ.refl (w : World) (S : Nat → Prop) : KQ w w S := ⟨Kept.refl w S, rfl, rfl, rfl⟩
theorem KQ.then_ (h : KQ w W S) (k : KQ W W2 S2) (hs : ∀ k, S2 k → S k ∨ w.heap.size ≤ k) : KQ w W2 S := ⟨h.k.then_ k.k hs, k.os.trans h.os, k.tape.trans h.tape, k.output.trans h.output⟩
theorem KQ.below (h : KQ w W S) (hb : Below W.heap.size W W2) : KQ w W2 S := ⟨h.k.below hb, hb.os.trans h.os, hb.tape.trans h.tape, hb.output.trans h.output⟩
theorem KQ.alloc (h : KQ w W S) (o : Obj) : KQ w (W.alloc o) S := h.below (below_alloc (Below.refl _ _) o)
theorem KQ.drew (h : KQ w W S) : KQ w W.drew S := ⟨h.k.drew, h.os, h.tape, h.output⟩
theorem KQ.drewN (h : KQ w W S) (m : Nat) : KQ w (W.drewN m) S := ⟨h.k.drewN m, h.os, h.tape, h.output⟩
theorem KQ.setCell (h : KQ w W S) {p : Addr} (hp : S p.block ∨ w.heap.size ≤ p.block) (u : Value) : KQ w (W.setCell p u) S := ⟨h.k.setCell hp u, h.os, h.tape, h.output⟩
end Go.Proofs.Ytejnbnppiipdlaa.Kq
