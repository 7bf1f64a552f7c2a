import Derived.Deep.Cut
/-! Where ways meet, for functions with many slots: as 'wp_cut', but what is forgotten is one function, and what is kept is told by a list of marks (0: kept; 1: forgotten; 2, 3, 4: the relation's first, second, third value). -/
namespace Go.Proofs.Ytejnbnppiipdlaa.CutK
open Go
def mix : List Nat → List Value → (Nat → Value) → Value → Value → Value → Nat → List Value
  | 0 :: ms, v :: l, g, a, b, c, i => v :: mix ms l g a b c (i + 1)
  | 1 :: ms, _ :: l, g, a, b, c, i => g i :: mix ms l g a b c (i + 1)
  | 2 :: ms, _ :: l, g, a, b, c, i => a :: mix ms l g a b c (i + 1)
  | 3 :: ms, _ :: l, g, a, b, c, i => b :: mix ms l g a b c (i + 1)
  | (_ + 4) :: ms, _ :: l, g, a, b, c, i => c :: mix ms l g a b c (i + 1)
  | _, _, _, _, _, _, _ => []
theorem mix0 (ms l g a b c i v) : mix (0 :: ms) (v :: l) g a b c i = v :: mix ms l g a b c (i + 1) := rfl
theorem mix1 (ms l g a b c i v) : mix (1 :: ms) (v :: l) g a b c i = g i :: mix ms l g a b c (i + 1) := rfl
theorem mix2 (ms l g a b c i v) : mix (2 :: ms) (v :: l) g a b c i = a :: mix ms l g a b c (i + 1) := rfl
theorem mix3 (ms l g a b c i v) : mix (3 :: ms) (v :: l) g a b c i = b :: mix ms l g a b c (i + 1) := rfl
theorem mix4 (ms l g a b c i v) : mix (4 :: ms) (v :: l) g a b c i = c :: mix ms l g a b c (i + 1) := rfl
theorem mixN (g a b c i) : mix [] [] g a b c i = [] := rfl
def keep : List Nat → List Value → List Value → Value → Value → Value → Prop
  | 0 :: ms, v :: l, v' :: l', a, b, c => v' = v ∧ keep ms l l' a b c
  | 1 :: ms, _ :: l, _ :: l', a, b, c => keep ms l l' a b c
  | 2 :: ms, _ :: l, v' :: l', a, b, c => v' = a ∧ keep ms l l' a b c
  | 3 :: ms, _ :: l, v' :: l', a, b, c => v' = b ∧ keep ms l l' a b c
  | (_ + 4) :: ms, _ :: l, v' :: l', a, b, c => v' = c ∧ keep ms l l' a b c
  | [], [], [], _, _, _ => True
  | _, _, _, _, _, _ => False
theorem keep0 (ms l l' a b c v v') : keep (0 :: ms) (v :: l) (v' :: l') a b c = (v' = v ∧ keep ms l l' a b c) := rfl
theorem keep1 (ms l l' a b c v v') : keep (1 :: ms) (v :: l) (v' :: l') a b c = keep ms l l' a b c := rfl
theorem keep2 (ms l l' a b c v v') : keep (2 :: ms) (v :: l) (v' :: l') a b c = (v' = a ∧ keep ms l l' a b c) := rfl
theorem keep3 (ms l l' a b c v v') : keep (3 :: ms) (v :: l) (v' :: l') a b c = (v' = b ∧ keep ms l l' a b c) := rfl
theorem keep4 (ms l l' a b c v v') : keep (4 :: ms) (v :: l) (v' :: l') a b c = (v' = c ∧ keep ms l l' a b c) := rfl
theorem keepN (a b c) : keep [] [] [] a b c = True := rfl
/-- Marks told by runs: how many, which. -/
def rl : List Nat → List Nat
  | n :: m :: r => List.replicate n m ++ rl r
  | _ => []
theorem mix_congr (a b c : Value) : ∀ (ms : List Nat) (l : List Value) (g h : Nat → Value) (i : Nat), (∀ n, i ≤ n → g n = h n) → mix ms l g a b c i = mix ms l h a b c i := by
  intro ms
  induction ms with
  | nil => intro l g h i e; cases l <;> rfl
  | cons m ms ih =>
    intro l g h i e
    cases l with
    | nil => rcases m with _ | _ | _ | _ | m <;> rfl
    | cons v l =>
      have e2 := ih l g h (i + 1) (fun n hn => e n (by omega))
      have e3 := e i (Nat.le_refl _)
      rcases m with _ | _ | _ | _ | m
      · exact congrArg (v :: ·) e2
      · show g i :: mix ms l g a b c (i + 1) = h i :: mix ms l h a b c (i + 1)
        rw [e2, e3]
      · exact congrArg (a :: ·) e2
      · exact congrArg (b :: ·) e2
      · exact congrArg (c :: ·) e2
theorem keep_mix (a b c : Value) : ∀ (ms : List Nat) (l l' : List Value), keep ms l l' a b c → ∀ i, ∃ g, mix ms l g a b c i = l' := by
  intro ms
  induction ms with
  | nil =>
    intro l l' h i
    cases l with
    | nil => cases l' with
      | nil => exact ⟨fun _ => a, rfl⟩
      | cons _ _ => exact h.elim
    | cons _ _ => cases l' <;> exact h.elim
  | cons m ms ih =>
    intro l l' h i
    cases l with
    | nil => rcases m with _ | _ | _ | _ | m <;> exact h.elim
    | cons v l =>
      cases l' with
      | nil => rcases m with _ | _ | _ | _ | m <;> exact h.elim
      | cons v' l' =>
        rcases m with _ | _ | _ | _ | m
        · obtain ⟨h1, h2⟩ : v' = v ∧ keep ms l l' a b c := h
          obtain ⟨g, hg⟩ := ih l l' h2 (i + 1)
          exact ⟨g, by rw [h1, ← hg]; rfl⟩
        · have h2 : keep ms l l' a b c := h
          obtain ⟨g, hg⟩ := ih l l' h2 (i + 1)
          refine ⟨fun n => if n = i then v' else g n, ?_⟩
          show (if i = i then v' else g i) :: mix ms l (fun n => if n = i then v' else g n) a b c (i + 1) = v' :: l'
          rw [if_pos rfl, mix_congr a b c ms l _ g (i + 1) (fun n hn => if_neg (by omega)), hg]
        · obtain ⟨h1, h2⟩ : v' = a ∧ keep ms l l' a b c := h
          obtain ⟨g, hg⟩ := ih l l' h2 (i + 1)
          exact ⟨g, by rw [h1, ← hg]; rfl⟩
        · obtain ⟨h1, h2⟩ : v' = b ∧ keep ms l l' a b c := h
          obtain ⟨g, hg⟩ := ih l l' h2 (i + 1)
          exact ⟨g, by rw [h1, ← hg]; rfl⟩
        · obtain ⟨h1, h2⟩ : v' = c ∧ keep ms l l' a b c := h
          obtain ⟨g, hg⟩ := ih l l' h2 (i + 1)
          exact ⟨g, by rw [h1, ← hg]; rfl⟩
theorem wp_cut3 {P : Program} {s : Code} {K : Act → World → Prop} {Q' : Exit → Act → World → Prop} {d : List Deferred} {l : List Value} {w : World} (ms : List Nat) (R : Value → Value → Value → World → Prop)
    (rest : ∀ (a b c : Value) (g : Nat → Value) (w' : World), R a b c w' → K ⟨(mix ms l g a b c 0).toArray, d⟩ w')
    (first : ∀ (J K' : Act → World → Prop), (∀ l' a b c w', keep ms l l' a b c → R a b c w' → J ⟨l'.toArray, d⟩ w') → (∀ a' w', Met J a' w' → K' a' w') → s.wp P (Exit.then K' Q') ⟨l.toArray, d⟩ w) : s.wp P (Exit.then K Q') ⟨l.toArray, d⟩ w := by
  refine wp_cut (fun a' w' => ∃ l' a b c, a' = ⟨l'.toArray, d⟩ ∧ keep ms l l' a b c ∧ R a b c w') ?_ ?_
  · rintro a' w' ⟨l', a, b, c, rfl, hk, hr⟩
    obtain ⟨g, rfl⟩ := keep_mix a b c ms l l' hk 0
    exact rest a b c g w' hr
  · intro J K' hJ hK
    exact first J K' (fun l' a b c w' hk hr => hJ _ _ ⟨l', a, b, c, rfl, hk, hr⟩) hK
end Go.Proofs.Ytejnbnppiipdlaa.CutK
