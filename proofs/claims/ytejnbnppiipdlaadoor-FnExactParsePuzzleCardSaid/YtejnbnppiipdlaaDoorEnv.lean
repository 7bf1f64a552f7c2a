/- What the world holds of the variables that strconv reads: its table of powers of ten, its two errors. -/
import Derived.Test.YtejnbnppiipdlaaDoorProg
import Derived.Test.YtejnbnppiipdlaaDoorWMore
import Derived.Lib.AppendIntMem
import Derived.Stop.LaidErr
namespace Go.Proofs.YtejnbnppiipdlaaDoor.Env
open Go.RowKit Go.Proofs.YtejnbnppiipdlaaDoorW.PrintWords Go.Proofs.YtejnbnppiipdlaaDoorW.PrintLast
structure Is (w : World) : Prop where
  tab : Lib.TabIs Tryd.prog w "internal/strconv.uint64pow10" .u64 Lib.pow10Tab
  es : ∃ tp p, w.var? Tryd.prog "strconv.ErrSyntax" = some #[.iface tp p]
  er : ∃ tp p, w.var? Tryd.prog "strconv.ErrRange" = some #[.iface tp p]
theorem Is.below {w W : World} (h : Is w) (hb : Below w.heap.size w W) : Is W := by
  obtain ⟨h1, ⟨a, b, h2⟩, ⟨c, d, h3⟩⟩ := h
  have hvar : ∀ n cs, w.var? Tryd.prog n = some cs → W.var? Tryd.prog n = some cs := by
    intro n cs hv
    unfold World.var? at hv ⊢
    obtain ⟨g, hg, hv⟩ := Option.bind_eq_some_iff.1 hv
    rw [hg, Option.bind_some]
    split at hv
    · rename_i c t x hh
      rw [hb.block g (Array.getElem?_eq_some_iff.1 hh).1, hh]
      exact hv
    · cases hv
  exact ⟨Lib.tabBelow_of_tabIs h1 _ hb, ⟨a, b, hvar _ _ h2⟩, ⟨c, d, hvar _ _ h3⟩⟩
end Go.Proofs.YtejnbnppiipdlaaDoor.Env
