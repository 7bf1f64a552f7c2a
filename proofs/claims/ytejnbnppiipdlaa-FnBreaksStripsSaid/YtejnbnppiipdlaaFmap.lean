/- A map that the call makes, of which only this is known: each entry is right ('Q key value'). Looked up with 'ok', stored into. Conditions: none. -/
import Derived.Test.YtejnbnppiipdlaaWMore
import Derived.Maps.Own
import Derived.Maps.Keyed
import Derived.Maps.Views
import Derived.Maps.OwnOps
import Derived.Carry
import Derived.Test.YtejnbnppiipdlaaKq
namespace Go.Proofs.Ytejnbnppiipdlaa.Fmap
open Go.RowKit Go.Proofs.YtejnbnppiipdlaaW.PrintWords Go.Proofs.YtejnbnppiipdlaaW.PrintLast
open Go.WideElems (Fit rd rg pl rd_val elemAt)
open Go.Maps (Keyed)
open Go.ChangeMaps Go.MapKept Go.Maps
abbrev El := Value → Option (DataW Unit × List MemPlace)
/-- Block b is a map each entry of which is right. -/
def MapIs (P : Program) (k : TypeId) (R : El) (Q : Value → Value → Prop) (w : World) (b : Nat) : Prop :=
  ∃ es clock, w.heap[b]? = some (.map es clock) ∧ Fit P k R es clock ∧ ∀ x ∈ es.toList, Q x.key x.val
variable {P : Program} {k e t : TypeId} {R : El} {Q : Value → Value → Prop} {w w' : World} {b : Nat}
theorem MapIs.made (w : World) (P : Program) (k : TypeId) (R : El) (Q : Value → Value → Prop) : MapIs P k R Q (w.alloc (.map #[] 0)) w.heap.size :=
  ⟨#[], 0, (MapKept.heap_alloc w _).1, ⟨by simp, stamped_empty 0, by simp⟩, by simp⟩
theorem MapIs.lt (h : MapIs P k R Q w b) : b < w.heap.size := by
  obtain ⟨es, clock, hb, _⟩ := h
  exact (Array.getElem?_eq_some_iff.1 hb).1
theorem MapIs.kept (h : MapIs P k R Q w b) (hb : w'.heap[b]? = w.heap[b]?) : MapIs P k R Q w' b := by
  obtain ⟨es, clock, h1, h2⟩ := h
  exact ⟨es, clock, hb.trans h1, h2⟩
theorem MapIs.below (h : MapIs P k R Q w b) (hb : Below w.heap.size w w') : MapIs P k R Q w' b := h.kept (hb.block b h.lt)
theorem MapIs.set (h : MapIs P k R Q w b) {p : Addr} (hne : b ≠ p.block) (u : Value) : MapIs P k R Q (w.setCell p u) b := h.kept (Below.heap_setCell w p u b hne)
theorem MapIs.drewN (h : MapIs P k R Q w b) (n : Nat) : MapIs P k R Q (w.drewN n) b := h
theorem MapIs.not_cells (h : MapIs P k R Q w b) {g : Nat} {cs : Array Value} {ty : TypeId} {fr : Nat × Nat} (hg : w.heap[g]? = some (.cells cs ty fr)) : g ≠ b := by
  rintro rfl
  obtain ⟨es, clock, hb, _⟩ := h
  rw [hb] at hg; cases hg
/-- 'v, ok := m[k]'. -/
theorem MapIs.look (h : MapIs P k R Q w b) (K : Keyed P k) (ht : P.underlying t = some (.map k e)) {z : Value} (hz : (zeroValue e).run P w = .ok z w) {key : Value} {kl : Lit} (hkey : keyOf P k key = some kl) :
    (Instr.lookup t (.map (some b)) key true).run P w = .ok (.tuple #[z, .bool false]) w ∨ ∃ v, Q key v ∧ (Instr.lookup t (.map (some b)) key true).run P w = .ok (.tuple #[v, .bool true]) w := by
  obtain ⟨es, clock, hb, F, hQ⟩ := h
  rcases Maps.fit_look true K ht hz hb F hkey with ⟨hrun, _, _⟩ | ⟨e0, y, hm, hk, hrun, _, _, _⟩
  · exact .inl hrun
  · exact .inr ⟨e0.val, by rw [← hk]; exact hQ e0 hm, hrun⟩
theorem nodup_nat : ∀ (n : Nat) (l : List Nat), l.Nodup → (∀ x ∈ l, x < n) → l.length ≤ n
  | 0, l, _, h => by
    cases l with
    | nil => exact Nat.le_refl _
    | cons x xs => have := h x (by simp); omega
  | n + 1, l, hn, h => by
    have h2 := nodup_nat n (l.erase n) (hn.erase _) (fun x hx => by
      have h3 := (hn.mem_erase_iff).1 hx
      have := h x h3.2
      have h4 := h3.1
      omega)
    rw [List.length_erase] at h2
    split at h2 <;> omega
/-- There is room: right keys have different numbers below N. -/
theorem fit_room {es : Array MapEntry} {clock : Nat} (K : Keyed P k) (F : Fit P k R es clock) (hQ : ∀ x ∈ es.toList, Q x.key x.val) (N : Nat) (num : Value → Nat) (hn : ∀ key v, Q key v → num key < N) (hi : ∀ key v key' v', Q key v → Q key' v' → num key = num key' → key = key') : es.size ≤ N := by
  have hp := fit_apart K F
  have h1 : (es.toList.map fun x => num x.key).Nodup := by
    rw [List.Nodup, List.pairwise_map]
    rw [List.pairwise_map] at hp
    refine hp.imp_of_mem (fun {x y} hx hy hne he => hne ?_)
    have hk := hi _ _ _ _ (hQ x hx) (hQ y hy) he
    obtain ⟨y0, hy0⟩ := F.reads x hx
    obtain ⟨y1, hy1⟩ := F.reads y hy
    have m0 := WideElems.rd_key hy0
    have m1 := WideElems.rd_key hy1
    rw [hk, m1] at m0
    rw [WideElems.rg_of hy0, WideElems.rg_of hy1]
    exact (Option.some.inj m0).symm
  have := nodup_nat N _ h1 (fun x hx => by
    obtain ⟨y, hy, rfl⟩ := List.mem_map.1 hx
    exact hn _ _ (hQ y hy))
  simpa using this
/-- 'm[k] = v'. -/
theorem MapIs.store (h : MapIs P k R Q w b) (K : Keyed P k) (ht : P.underlying t = some (.map k e)) {N : Nat} (hN : N < maxLen) (num : Value → Nat) (hn : ∀ key v, Q key v → num key < N) (hi : ∀ key v key' v', Q key v → Q key' v' → num key = num key' → key = key')
    {key val : Value} {kl : Lit} {yv : DataW Unit × List MemPlace} (hkey : keyOf P k key = some kl) (hv : R val = some yv) (hq : Q key val) :
    ∃ w', (Instr.mapUpdate t (.map (some b)) key val).run P w = .ok () w' ∧ MapIs P k R Q w' b ∧ w.grownBy w' (some b) := by
  obtain ⟨es, clock, hb, F, hQ⟩ := h
  have hroom := fit_room K F hQ N num hn hi
  obtain ⟨es', clock', hrun, F', _, _, _, hel⟩ := Maps.fit_store (R' := R) K ht hb F (by omega) (fun _ _ _ _ hz => hz) hkey hv
  refine ⟨_, hrun, ⟨es', clock', heap_setBlock_same hb _, F', fun x hx => ?_⟩, ⟨rfl, rfl, rfl, by simp [setBlock], fun i _ hi => heap_setBlock_other hb _ (fun e => hi (by rw [e]))⟩⟩
  rcases hel x hx with ⟨h1, _⟩ | ⟨h1, h2⟩
  · exact hQ x h1
  · rw [h1, h2]; exact hq
/-! #### a set of numbers: map[int]bool, stored 'true' into alone, asked by 'm[k]' -/
def SetIs (P : Program) (k e : TypeId) (w : World) (b n : Nat) (S : List Int) : Prop := ∃ D : DataW Unit, w.ownsMap P k (plainElem P e) b n D ∧ ∀ h, D.atKey (.int .i64 h) (.lit (.bool false)) = .lit (.bool (decide (h ∈ S)))
theorem SetIs.made (w : World) (P : Program) (k e : TypeId) : SetIs P k e (w.alloc (.map #[] 0)) w.heap.size 0 [] := ⟨.map [], World.ownsMap_made _ _ _ _, fun h => by simp [DataW.atKey]⟩
theorem SetIs.kept {n : Nat} {S : List Int} (h : SetIs P k e w b n S) (hb : w'.heap[b]? = w.heap[b]?) : SetIs P k e w' b n S := by
  obtain ⟨D, ⟨es, clock, h1, h2⟩, h3⟩ := h
  exact ⟨D, ⟨es, clock, hb.trans h1, h2⟩, h3⟩
theorem SetIs.lt {n : Nat} {S : List Int} (h : SetIs P k e w b n S) : b < w.heap.size := by
  obtain ⟨D, h1, _⟩ := h
  exact h1.lt
theorem SetIs.set {n : Nat} {S : List Int} (h : SetIs P k e w b n S) {p : Addr} (hne : b ≠ p.block) (u : Value) : SetIs P k e (w.setCell p u) b n S := h.kept (Below.heap_setCell w p u b hne)
theorem SetIs.below {n : Nat} {S : List Int} (h : SetIs P k e w b n S) (hb : Below w.heap.size w w') : SetIs P k e w' b n S := h.kept (hb.block b h.lt)
theorem SetIs.not_cells {n : Nat} {S : List Int} (h : SetIs P k e w b n S) {g : Nat} {cs : Array Value} {ty : TypeId} {fr : Nat × Nat} (hg : w.heap[g]? = some (.cells cs ty fr)) : g ≠ b := by
  rintro rfl
  obtain ⟨D, ⟨es, clock, hb, _⟩, _⟩ := h
  rw [hb] at hg; cases hg
theorem bool_inv (he : P.underlying e = some .bool) {v : Value} {x : Bool} {ps : List MemPlace} (h : plainElem (H := Unit) P e v = some (.lit (.bool x), ps)) : v = .bool x := by
  unfold plainElem at h
  rw [he] at h
  cases v <;> simp at h
  rw [h.1]
theorem SetIs.ask {n : Nat} {S : List Int} (h : SetIs P k e w b n S) (hk : P.underlying k = some (.int .i64)) (he : P.underlying e = some .bool) (ht : P.underlying t = some (.map k e)) (hz : (zeroValue e).run P w = .ok (.bool false) w) {q : Int} (hq : (Lit.int .i64 q).wf = true) :
    (Instr.lookup t (.map (some b)) (.int .i64 q) false).run P w = .ok (.bool (decide (q ∈ S))) w := by
  obtain ⟨D, h1, h2⟩ := h
  obtain ⟨v, ps, hrun, hv⟩ := h1.lookup (int_keyed hk) ht hz (plainElem_bool he false) (keyOf_int_mk hk hq)
  rw [h2 q] at hv
  rw [hrun, bool_inv he hv]
theorem SetIs.put {n : Nat} {S : List Int} (h : SetIs P k e w b n S) (hk : P.underlying k = some (.int .i64)) (he : P.underlying e = some .bool) (ht : P.underlying t = some (.map k e)) (hn : n < maxLen) {q : Int} (hq : (Lit.int .i64 q).wf = true) :
    ∃ w', (Instr.mapUpdate t (.map (some b)) (.int .i64 q) (.bool true)).run P w = .ok () w' ∧ SetIs P k e w' b (n + 1) (S ++ [q]) ∧ w.grownBy w' (some b) := by
  obtain ⟨D, h1, h2⟩ := h
  obtain ⟨w1, hrun, r1, r2⟩ := h1.update (int_keyed hk) ht hn (keyOf_int_mk hk hq) (plainElem_bool he true)
  refine ⟨w1, hrun, ⟨_, r1, fun x => ?_⟩, r2⟩
  by_cases hx : x = q
  · subst hx
    rw [Maps.atKey_put_same (by obtain ⟨es, clock, _, _, _, e⟩ := h1; exact ⟨_, e⟩) (by simp [WideAt.IsKeyLit])]
    simp
  · rw [Maps.atKey_put_other (fun e => hx (by injection e)), h2 x]
    simp [hx]
theorem wp_ask {ops : Array Oper} {rest : List Oper} {o : Oper} {a : Act} {X : Exit → Act → World → Prop} (hg : o.guard = none) (m x : Operand) (t : TypeId) (hop : o.op = Op.lookup t m x false) (hk : P.underlying k = some (.int .i64)) (he : P.underlying e = some .bool) (ht : P.underlying t = some (.map k e)) (hz : ∀ w, (zeroValue e).run P w = .ok (.bool false) w)
    (hm : a.eval m = .map (some b)) {n : Nat} {S : List Int} (h : SetIs P k e w b n S) {q : Int} (hx : a.eval x = .int .i64 q) (hq : (Lit.int .i64 q).wf = true)
    (h1 : wpList P ops X rest (a.put o.dst (.bool (decide (q ∈ S)))) w) : wpList P ops X (o :: rest) a w := by
  refine wpList_plain hg fun K' hK' => ?_
  have hrun := h.ask hk he ht (hz w) hq
  unfold Oper.wp
  simp only [execOp, hop, hm, hx]
  simp [hrun, Result.andThen]
  exact hK' _ _ h1
/-- 'map[int]bool{}' -/
theorem wp_make {ops : Array Oper} {rest : List Oper} {o : Oper} {a : Act} {X : Exit → Act → World → Prop} (hg : o.guard = none) {N : Tmp} (_hN : o.dst = some N) (t : TypeId) (hop : o.op = Op.makeMap t none) (P0 : Program) (k e : TypeId)
    (h : ∀ gm w1, gm = w.heap.size → SetIs P0 k e w1 gm 0 [] → Below w.heap.size w w1 → wpList P ops X rest (a.put o.dst (.map (some gm))) w1) : wpList P ops X (o :: rest) a w := by
  refine wpList_plain hg fun K' hK' => ?_
  unfold Oper.wp
  simp [execOp, hop, run_makeMap, Result.andThen]
  exact hK' _ _ (h _ _ rfl (SetIs.made w P0 k e) (below_alloc (Below.refl _ _) _))
end Go.Proofs.Ytejnbnppiipdlaa.Fmap
