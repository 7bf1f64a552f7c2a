import Derived.Test.YtejnbnppiipdlaaCutK
import Derived.Tactics2
/-! A long chain of 'or' (or 'and') in one region: walked piece by piece; from the first part that decides it on, what is left is passed over at once. -/
namespace Go.Proofs.Ytejnbnppiipdlaa.CutK
open Go
theorem seg {P : Program} {ops : Array Oper} {Q : Exit → Act → World → Prop} {l : List Oper} {a : Act} {w : World} (n : Nat) (h : ∀ R : List Oper, (∀ a w, wpList P ops Q (l.drop n) a w → wpList P ops Q R a w) → wpList P ops Q (l.take n ++ R) a w) : wpList P ops Q l a w := by
  have := h (l.drop n) (fun _ _ h => h)
  rwa [List.take_append_drop] at this
/-- What a slot is known to hold: a truth value, or nothing. -/
def hold : Option Bool → Value
  | some b => .bool b
  | none => undef
def look : List (Nat × Option Bool) → Nat → Option (Option Bool)
  | [], _ => none
  | (s, h) :: e, t => if s = t then some h else look e t
def opd (e : List (Nat × Option Bool)) : Operand → Option Bool
  | .tmp t => match look e t with
    | some (some b) => some b
    | _ => none
  | .const (.bool b) => some b
  | _ => none
def val (e : List (Nat × Option Bool)) : Op → Option Bool
  | .move x => opd e x
  | .assign x => opd e x
  | .pick c x y => match opd e c with
    | some true => opd e x
    | some false => opd e y
    | none => none
  | _ => none
def app : List (Nat × Option Bool) → List Value → List Value
  | [], L => L
  | (s, h) :: u, L => (app u L).set s (hold h)
/-- What is left of a region, run on what is known: what it writes, the last first. -/
def chain (ops : Array Oper) : List Oper → List (Nat × Option Bool) → List (Nat × Option Bool) → Option (List (Nat × Option Bool))
  | [], _, u => some u
  | o :: rest, e, u =>
    match o.dst with
    | none => none
    | some d =>
      match o.guard with
      | none => match val e o.op with
        | some b => chain ops rest ((d, some b) :: e) ((d, some b) :: u)
        | none => none
      | some (j, want) =>
        match (ops[j]?).bind (·.dst) with
        | none => none
        | some s =>
          match look e s with
          | none => none
          | some h => if h = some want then none else chain ops rest ((d, none) :: e) ((d, none) :: u)
def kchk : List (Nat × Option Bool) → List Nat → Bool → Option (List Nat)
  | [], ms, _ => some ms
  | (s, h) :: u, ms, a =>
    match ms[s]? with
    | some 1 => kchk u ms a
    | some 2 => if h = some a then kchk u (ms.set s 1) a else none
    | _ => none
def Good (e : List (Nat × Option Bool)) (L : List Value) : Prop := ∀ s h, look e s = some h → L[s]? = some (hold h)
theorem Good.put {e : List (Nat × Option Bool)} {L : List Value} (g : Good e L) (d : Nat) (h : Option Bool) (hd : d < L.length) : Good ((d, h) :: e) (L.set d (hold h)) := by
  intro s h' hs
  unfold look at hs
  rw [List.getElem?_set]
  by_cases c : d = s
  · rw [if_pos c] at hs
    rw [if_pos c, if_pos hd]
    injection hs with hs
    rw [hs]
  · rw [if_neg c] at hs
    rw [if_neg c]
    exact g s h' hs
theorem Good.opd {e : List (Nat × Option Bool)} {L : List Value} {d : List Deferred} (g : Good e L) {x : Operand} {b : Bool} (h : CutK.opd e x = some b) : (⟨L.toArray, d⟩ : Act).eval x = .bool b := by
  cases x with
  | tmp t =>
    simp only [CutK.opd] at h
    cases hl : look e t with
    | none => rw [hl] at h; cases h
    | some o =>
      rw [hl] at h
      cases o with
      | none => cases h
      | some b' =>
        injection h with h
        subst h
        have := g t _ hl
        show L.toArray.getD t undef = _
        simp only [Array.getD_eq_getD_getElem?, List.getElem?_toArray, this]
        rfl
  | const v =>
    cases v with
    | bool b' => simp only [CutK.opd] at h; injection h with h; subst h; rfl
    | _ => simp only [CutK.opd] at h; cases h
  | _ => simp only [CutK.opd] at h; cases h
theorem put_list {L : List Value} {d : List Deferred} (s : Nat) (v : Value) : (⟨L.toArray, d⟩ : Act).put (some s) v = ⟨(L.set s v).toArray, d⟩ := by
  unfold Act.put
  simp
theorem app_len (u : List (Nat × Option Bool)) (L : List Value) : (app u L).length = L.length := by
  induction u with
  | nil => rfl
  | cons p u ih => unfold app; rw [List.length_set, ih]
theorem wp_chain {P : Program} {ops : Array Oper} {Q : Exit → Act → World → Prop} {d : List Deferred} {L : List Value} {w : World} {n : Nat} (hn : L.length = n) : ∀ (l : List Oper) (e u u' : List (Nat × Option Bool)), (l.all fun o => match o.dst with | some s => decide (s < n) | none => true) = true → Good e (app u L) → chain ops l e u = some u' → Q .normal ⟨(app u' L).toArray, d⟩ w → wpList P ops Q l ⟨(app u L).toArray, d⟩ w := by
  intro l
  induction l with
  | nil =>
    intro e u u' _ _ h hQ
    injection h with h
    subst h
    exact hQ
  | cons o rest ih =>
    intro e u u' hd hg h hQ
    rw [List.all_cons, Bool.and_eq_true] at hd
    obtain ⟨hd0, hd⟩ := hd
    unfold chain at h
    unfold wpList
    cases hdst : o.dst with
    | none => rw [hdst] at h; cases h
    | some s =>
      rw [hdst] at h hd0
      have hs : s < (app u L).length := by rw [app_len, hn]; exact of_decide_eq_true hd0
      simp only at h
      cases hgd : o.guard with
      | none =>
        rw [hgd] at h
        simp only at h
        cases hv : val e o.op with
        | none => rw [hv] at h; cases h
        | some b =>
          rw [hv] at h
          have h2 := ih ((s, some b) :: e) ((s, some b) :: u) u' hd (hg.put s (some b) hs) h hQ
          rw [if_pos (by unfold Region.wanted; rw [hgd])]
          refine .inl ?_
          have hrun : (execOp (⟨(app u L).toArray, d⟩ : Act).eval o).run P w = .ok (.value (.bool b)) w := by
            cases hop : o.op with
            | move x =>
              rw [hop] at hv
              have := hg.opd (d := d) (show CutK.opd e x = some b from hv)
              simp only [execOp, hop, this]; rfl
            | assign x =>
              rw [hop] at hv
              have := hg.opd (d := d) (show CutK.opd e x = some b from hv)
              simp only [execOp, hop, this]; rfl
            | pick c x y =>
              rw [hop] at hv
              simp only [val] at hv
              cases hc : CutK.opd e c with
              | none => rw [hc] at hv; cases hv
              | some cb =>
                rw [hc] at hv
                have e1 := hg.opd (d := d) hc
                cases cb with
                | true =>
                  have e2 := hg.opd (d := d) (show CutK.opd e x = some b from hv)
                  simp only [execOp, hop, e1, e2]; rfl
                | false =>
                  have e2 := hg.opd (d := d) (show CutK.opd e y = some b from hv)
                  simp only [execOp, hop, e1, e2]; rfl
            | _ => rw [hop] at hv; cases hv
          unfold Oper.wp
          rw [hrun, Oper.upon_value, hdst, put_list]
          exact h2
      | some jw =>
        obtain ⟨j, want⟩ := jw
        rw [hgd] at h
        simp only at h
        cases hj : (ops[j]?).bind (·.dst) with
        | none => rw [hj] at h; cases h
        | some t =>
          rw [hj] at h
          simp only at h
          cases hl : look e t with
          | none => rw [hl] at h; cases h
          | some hh =>
            rw [hl] at h
            simp only at h
            by_cases c : hh = some want
            · rw [if_pos c] at h; cases h
            · rw [if_neg c] at h
              have h2 := ih ((s, none) :: e) ((s, none) :: u) u' hd (hg.put s none hs) h hQ
              have hy : yielded ops (app u L).toArray j = hh := by
                have := hg t _ hl
                unfold yielded
                rw [hj]
                show (match ((some t).bind fun x => (app u L).toArray[x]?) with | some (.bool b) => some b | _ => none) = hh
                rw [Option.bind_some, List.getElem?_toArray, this]
                cases hh with
                | none => rfl
                | some b => rfl
              rw [if_neg (by unfold Region.wanted; rw [hgd]; simp only [hy]; intro z; exact c (by simpa using z)), put_list]
              exact h2
theorem keep_set1 {a b c v : Value} : ∀ (ms : List Nat) (l L : List Value) (s : Nat), ms[s]? = some 1 → keep ms l L a b c → keep ms l (L.set s v) a b c := by
  intro ms
  induction ms with
  | nil => intro l L s h; simp at h
  | cons m ms ih =>
    intro l L s h hk
    cases l with
    | nil => rcases m with _ | _ | _ | _ | m <;> exact hk.elim
    | cons x l =>
      cases L with
      | nil => rcases m with _ | _ | _ | _ | m <;> exact hk.elim
      | cons y L =>
        cases s with
        | zero =>
          have hm : m = 1 := by simpa using h
          subst hm
          exact hk
        | succ s =>
          have h' : ms[s]? = some 1 := by simpa using h
          rcases m with _ | _ | _ | _ | m
          · exact ⟨hk.1, ih l L s h' hk.2⟩
          · exact ih l L s h' hk
          · exact ⟨hk.1, ih l L s h' hk.2⟩
          · exact ⟨hk.1, ih l L s h' hk.2⟩
          · exact ⟨hk.1, ih l L s h' hk.2⟩
theorem keep_set2 {a b c : Value} : ∀ (ms : List Nat) (l L : List Value) (s : Nat), ms[s]? = some 2 → keep (ms.set s 1) l L a b c → keep ms l (L.set s a) a b c := by
  intro ms
  induction ms with
  | nil => intro l L s h; simp at h
  | cons m ms ih =>
    intro l L s h hk
    cases s with
    | zero =>
      have hm : m = 2 := by simpa using h
      subst hm
      cases l with
      | nil => exact hk.elim
      | cons x l =>
        cases L with
        | nil => exact hk.elim
        | cons y L => exact ⟨rfl, hk⟩
    | succ s =>
      have h' : ms[s]? = some 2 := by simpa using h
      rw [List.set_cons_succ] at hk
      cases l with
      | nil => rcases m with _ | _ | _ | _ | m <;> exact hk.elim
      | cons x l =>
        cases L with
        | nil => rcases m with _ | _ | _ | _ | m <;> exact hk.elim
        | cons y L =>
          rcases m with _ | _ | _ | _ | m
          · exact ⟨hk.1, ih l L s h' hk.2⟩
          · exact ih l L s h' hk
          · exact ⟨hk.1, ih l L s h' hk.2⟩
          · exact ⟨hk.1, ih l L s h' hk.2⟩
          · exact ⟨hk.1, ih l L s h' hk.2⟩
theorem keep_app {a : Bool} {b c : Value} {l L : List Value} : ∀ (u : List (Nat × Option Bool)) (ms ms0 : List Nat), kchk u ms a = some ms0 → keep ms0 l L (.bool a) b c → keep ms l (app u L) (.bool a) b c := by
  intro u
  induction u with
  | nil => intro ms ms0 h hk; injection h with h; subst h; exact hk
  | cons p u ih =>
    obtain ⟨s, hh⟩ := p
    intro ms ms0 h hk
    unfold kchk at h
    split at h
    · rename_i e
      exact keep_set1 ms l _ s e (ih ms ms0 h hk)
    · rename_i e
      split at h
      · rename_i e2
        subst e2
        exact keep_set2 ms l _ s e (ih (ms.set s 1) ms0 h hk)
      · cases h
    · cases h
def test (ops : Array Oper) (l : List Oper) (s : Nat) (x : Bool) (ms ms0 : List Nat) (a : Bool) : Bool :=
  (l.all fun o => match o.dst with | some t => decide (t < ms.length) | none => true) && match chain ops l [(s, some x)] [] with
    | some u => kchk u ms a == some ms0
    | none => false
/-- An arm that the part just walked decides. -/
theorem arm {P : Program} {ops : Array Oper} {l : List Oper} {J K' : Act → World → Prop} {Q' : Exit → Act → World → Prop} {d : List Deferred} {lm L : List Value} {w : World} {ms : List Nat} {R : Value → Value → Value → World → Prop}
    (hJ : ∀ l' a b c w', keep ms lm l' a b c → R a b c w' → J ⟨l'.toArray, d⟩ w') (hK : ∀ a' w', Met J a' w' → K' a' w') (s : Nat) (x : Bool) {y : Bool} (ms0 : List Nat) (a : Bool) (htest : test ops l s x ms ms0 a = true) (hlen : L.length = ms.length)
    (h0 : L[s]? = some (.bool y)) (hy : y = x) (hk : keep ms0 lm L (.bool a) undef undef) (hR : R (.bool a) undef undef w) : wpList P ops (Exit.then K' Q') l ⟨L.toArray, d⟩ w := by
  subst hy
  unfold test at htest
  rw [Bool.and_eq_true] at htest
  obtain ⟨h1, h2⟩ := htest
  cases hc : chain ops l [(s, some y)] [] with
  | none => rw [hc] at h2; cases h2
  | some u =>
    rw [hc] at h2
    have h3 : kchk u ms a = some ms0 := by simpa using h2
    have hg : Good [(s, some y)] (app [] L) := by
      intro t h ht
      unfold look at ht
      by_cases c : s = t
      · rw [if_pos c] at ht
        injection ht with ht
        rw [← ht, ← c]
        exact h0
      · rw [if_neg c] at ht
        cases ht
    exact wp_chain hlen l [(s, some y)] [] u h1 hg hc (hK _ _ (Met.intro (hJ _ _ _ _ _ (keep_app u ms ms0 h3 hk) hR)))
end Go.Proofs.Ytejnbnppiipdlaa.CutK
