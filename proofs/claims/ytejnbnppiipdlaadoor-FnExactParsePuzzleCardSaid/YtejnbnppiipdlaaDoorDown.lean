/- What an argument reads as, kind by kind: from the reader's word on an argument of the call to the printed words' kinds (Kd). Conditions: none. -/
import Derived.Test.YtejnbnppiipdlaaDoorWMore
import Derived.Test.YtejnbnppiipdlaaDoorWSized
import Derived.ChangeArms
import Derived.ChangeOld
import Derived.WideShapes
import Derived.ChangeShapes
import Derived.Deep.Slices
namespace Go.Proofs.YtejnbnppiipdlaaDoor.Down
open Go.RowKit Go.ChangeShapes Go.WideShapes Go.Proofs.YtejnbnppiipdlaaDoorW.PrintWords Go.Proofs.YtejnbnppiipdlaaDoorW.PrintLast
set_option linter.unusedVariables false

/-- Whatever is read at type t is of kind d. -/
structure Dn {α : Type} (P : Program) (t : TypeId) (d : Kd α) (wf : α → Prop) : Prop where
  dn : ∀ {H : Type} {enc : TypeId × Value → H} {w : World} {base : Nat} {spare : Nat → Bool} {held : Bool} {fuel : Nat} {cs : List Value} {x : DataW H × List MemPlace},
    DataW.trod enc P w base spare held fuel t cs = some x → ∃ a, d.K w a cs ∧ wf a
theorem dn_int {P : Program} {t : TypeId} {k : IntKind} (hu : P.underlying t = some (.int k)) : Dn P t (Kd.int k) (fun x => (Lit.int k x).wf = true) :=
  ⟨fun h => by
    obtain ⟨n, rfl, _, hw⟩ := DataW.trod_int hu h
    exact ⟨n, rfl, hw⟩⟩
theorem dn_bool {P : Program} {t : TypeId} (hu : P.underlying t = some .bool) : Dn P t Kd.bool (fun _ => True) :=
  ⟨fun h => by
    obtain ⟨n, rfl, _⟩ := DataW.trod_bool hu h
    exact ⟨n, rfl, trivial⟩⟩
theorem dn_string {P : Program} {t : TypeId} (hu : P.underlying t = some .string) : Dn P t Kd.string (fun s => s.size ≤ maxLen) :=
  ⟨fun h => by
    obtain ⟨n, rfl, _, hl⟩ := DataW.trod_string hu h
    exact ⟨n, rfl, hl⟩⟩
theorem cells_some {w : World} {base : Nat} {a : Addr} {n : Nat} {cs : List Value} (h : w.cells? base a n = some cs) : cs.length = n ∧ ∀ i u, cs[i]? = some u → w.cell? (a.add i) = some u := by
  obtain ⟨_, hl, hat⟩ := World.cells?_some h
  refine ⟨hl, fun i u hu => ?_⟩
  have hi : i < n := by rw [← hl]; exact (List.getElem?_eq_some_iff.1 hu).1
  rw [← hu]
  exact hat i hi
theorem dn_slice {α : Type} [Inhabited α] {P : Program} {t e : TypeId} {d : Kd α} {wf : α → Prop} (hu : P.underlying t = some (.slice e)) (hc : P.cellsOf e = d.sz) (he : Dn P e d wf) :
    Dn P t (Kd.slice e d) (fun l => l.length ≤ maxLen ∧ ∀ x ∈ l, wf x) :=
  ⟨fun {H enc w base spare held fuel cs x} h => by
    rcases Go.Deep.open_slice hu h with ⟨rfl, _⟩ | ⟨a, len, cap, m, n, D, Pl, rfl, hb, hl, hm, hmm, _, hx⟩
    · exact ⟨[], ⟨none, 0, rfl, Nat.le_refl _, rfl, by simp, fun h0 => absurd h0 (by simp)⟩, by simp, fun x hx => by cases hx⟩
    · have hlm : len ≤ m := by rw [hmm]; split <;> omega
      obtain ⟨F, hF⟩ := Go.Deep.choose_lt (α := α) (n := len) (p := fun i y => ∃ c, c.length = d.sz ∧ d.K w y c ∧ (∀ j u, c[j]? = some u → w.cell? (a.add (i * d.sz + j)) = some u) ∧ wf y) (fun i hi => by
        obtain ⟨cs', h1, h2⟩ := hx i (by omega)
        rw [hc] at h1
        obtain ⟨y, hy, hw⟩ := he.dn h2
        obtain ⟨hcl, hat⟩ := cells_some h1
        refine ⟨y, cs', hcl, hy, fun j u hj => ?_, hw⟩
        have := hat j u hj
        rwa [Go.Deep.add_add] at this)
      have hlen : ((List.range len).map F).length = len := by simp
      refine ⟨(List.range len).map F, ⟨some a, cap, by rw [hlen], by rw [hlen]; exact hl, by rw [hlen], by rw [hlen]; simp only [maxLen] at hm; omega, fun _ => ⟨a, rfl, fun j p hj => ?_⟩⟩, by rw [hlen]; omega, fun x hx => ?_⟩
      · have hj' : j < len := by have := (List.getElem?_eq_some_iff.1 hj).1; rwa [hlen] at this
        have : p = F j := by
          rw [List.getElem?_map, List.getElem?_range hj'] at hj
          simpa using hj.symm
        subst this
        obtain ⟨c, h1, h2, h3, _⟩ := hF j hj'
        exact ⟨c, h1, h2, h3⟩
      · obtain ⟨i, hi, rfl⟩ := List.mem_map.1 hx
        exact (hF i (List.mem_range.1 hi)).choose_spec.2.2.2⟩
/-- Fields from one on, of a struct. -/
structure DnF {α : Type} (P : Program) (fs : List Field) (o : Nat) (d : Kd α) (wf : α → Prop) : Prop where
  dn : ∀ {H : Type} {enc : TypeId × Value → H} {w : World} {base : Nat} {spare : Nat → Bool} {held : Bool} {n : Nat} {cs : List Value},
    cs.length = o + d.sz → (∀ f ∈ fs, ∃ y, DataW.trod enc P w base spare held n f.type ((cs.drop f.offset).take (P.cellsOf f.type)) = some y) → ∃ a, d.K w a (cs.drop o) ∧ wf a
theorem dnF_last {α : Type} {P : Program} {f : Field} {o : Nat} {d : Kd α} {wf : α → Prop} (ho : f.offset = o) (hc : P.cellsOf f.type = d.sz) (h : Dn P f.type d wf) : DnF P [f] o d wf :=
  ⟨fun {H enc w base spare held n cs} hl hf => by
    obtain ⟨y, hy⟩ := hf f (by simp)
    rw [ho, hc, List.take_of_length_le (by rw [List.length_drop]; omega)] at hy
    exact h.dn hy⟩
theorem dnF_cons {α β : Type} {P : Program} {f : Field} {fs : List Field} {o o' : Nat} {d : Kd α} {d' : Kd β} {wf : α → Prop} {wf' : β → Prop} (ho : f.offset = o) (hc : P.cellsOf f.type = d.sz) (ho' : o' = o + d.sz) (h : Dn P f.type d wf) (hs : DnF P fs o' d' wf') :
    DnF P (f :: fs) o (Kd.pair d d') (fun x => wf x.1 ∧ wf' x.2) :=
  ⟨fun {H enc w base spare held n cs} hl hf => by
    obtain ⟨y, hy⟩ := hf f (by simp)
    rw [ho, hc] at hy
    obtain ⟨a, ha, hw⟩ := h.dn hy
    have hl' : cs.length = o' + d'.sz := by rw [hl, ho']; show o + (d.sz + d'.sz) = _; omega
    obtain ⟨b, hb, hw'⟩ := hs.dn hl' (fun g hg => hf g (List.mem_cons_of_mem _ hg))
    refine ⟨(a, b), ⟨_, _, ?_, ha, hb⟩, hw, hw'⟩
    rw [ho', ← List.drop_drop, List.take_append_drop]⟩
theorem dn_struct {α β : Type} {P : Program} {t : TypeId} {fs : Array Field} {d : Kd α} {wf : α → Prop} {f : β → α} {g : α → β} (hu : P.underlying t = some (.struct fs)) (hc : P.cellsOf t = d.sz) (hfg : ∀ a, f (g a) = a) (h : DnF P fs.toList 0 d wf) :
    Dn P t (Kd.iso d f) (fun x => wf (f x)) :=
  ⟨fun {H enc w base spare held fuel cs x} hx => by
    obtain ⟨xs, n, _, _, hl, hxl, hf⟩ := DataW.trod_struct hu hx
    obtain ⟨a, ha, hw⟩ := h.dn (enc := enc) (w := w) (base := base) (spare := spare) (held := held) (n := n) (cs := cs) (by omega) (fun fl hfl => by
      obtain ⟨i, hi, rfl⟩ := List.getElem_of_mem hfl
      have hi' : i < fs.size := by simpa using hi
      have := hf i fs[i] (by simp [hi'])
      rw [List.getElem?_eq_getElem (by omega)] at this
      exact ⟨_, by simpa using this⟩)
    refine ⟨g a, ?_, by rw [hfg]; exact hw⟩
    show d.K w (f (g a)) cs
    rw [hfg]
    simpa using ha⟩
theorem dn_structP {α : Type} {P : Program} {t : TypeId} {fs : Array Field} {d : Kd α} {wf : α → Prop} (hu : P.underlying t = some (.struct fs)) (hc : P.cellsOf t = d.sz) (h : DnF P fs.toList 0 d wf) : Dn P t d wf :=
  ⟨fun {H enc w base spare held fuel cs x} hx => by
    obtain ⟨a, ha, hw⟩ := (dn_struct (f := id) (g := id) hu hc (fun _ => rfl) h).dn hx
    exact ⟨a, ha, hw⟩⟩
/-- A value's places lie below the heap's end. -/
theorem trod_blocks {H : Type} {enc : TypeId × Value → H} {P : Program} {w : World} {base : Nat} {spare : Nat → Bool} {held : Bool} {t : TypeId} {v : Value} {d : DataW H} {ps : List MemPlace} (h : DataW.Trod enc P w base spare held t v d ps) : ∀ x ∈ ps, x.block < w.heap.size := by
  obtain ⟨m, hm⟩ := h
  exact DataW.trod_lt m _ _ _ hm
theorem dn_struct_value {α : Type} {H : Type} {enc : TypeId × Value → H} {P : Program} {w : World} {base : Nat} {spare : Nat → Bool} {held : Bool} {r : Reach} {b0 : Nat} {t : TypeId} {fs : Array Field} {d : Kd α} {wf : α → Prop} {v : Value} {y : DataW H} {ps : List MemPlace} (hu : P.underlying t = some (.struct fs)) (hd : Dn P t d wf)
    (hv : Value.okWide P w r b0 t v) (h : DataW.Trod enc P w base spare held t v y ps) : ∃ a cs, v = .agg cs ∧ d.K w a cs.toList ∧ wf a := by
  obtain ⟨cs, rfl, hsz⟩ := okWide_struct hu hv
  obtain ⟨m, hm⟩ := h
  obtain ⟨a, ha, hw⟩ := hd.dn hm
  exact ⟨a, cs, rfl, by simpa [Value.cells] using ha, hw⟩
theorem dn_slice_value {α : Type} {H : Type} {enc : TypeId × Value → H} {P : Program} {w : World} {base : Nat} {spare : Nat → Bool} {held : Bool} {r : Reach} {b0 : Nat} {t e : TypeId} {d : Kd α} {wf : List α → Prop} {v : Value} {y : DataW H} {ps : List MemPlace} (hu : P.underlying t = some (.slice e)) (hd : Dn P t (Kd.slice e d) wf)
    (hv : Value.okWide P w r b0 t v) (h : DataW.Trod enc P w base spare held t v y ps) : ∃ l A c, v = .slice A (List.length l) c ∧ l.length ≤ c ∧ d.C w A l.length l ∧ wf l := by
  obtain ⟨A, n, c, rfl⟩ := okWide_slice hu hv
  obtain ⟨m, hm⟩ := h
  obtain ⟨a, ⟨A', c', he, hl, hC⟩, hw⟩ := hd.dn hm
  simp [Value.cells] at he
  obtain ⟨rfl, rfl, rfl⟩ := he
  exact ⟨a, A, c, rfl, hl, hC, hw⟩
end Go.Proofs.YtejnbnppiipdlaaDoor.Down
