-- Made by a program of this session (wip/xprint.py) out of the translation.
import Derived.Test.YtejnbnppiipdlaaDoorEnv
import Derived.Test.YtejnbnppiipdlaaDoorPFnExactParseSlabsx0
import Derived.Test.YtejnbnppiipdlaaDoorPFnExactParseSlabsx2
import Derived.Test.YtejnbnppiipdlaaDoorPFnExactParseSlabsx3
namespace Go.Proofs.YtejnbnppiipdlaaDoor.PFnExactParseSlabs
open Go.RowKit Go.Proofs.YtejnbnppiipdlaaDoorW.PrintWords Go.Proofs.YtejnbnppiipdlaaDoorW.PrintLast Go.Proofs.YtejnbnppiipdlaaDoorW.PrintMore
attribute [local go_sem] Lam.yl_undef max2_int min2_int max_two min_two max_three min_three max_four min_four   -- for this text's walks alone
set_option linter.unusedVariables false
set_option linter.unusedSimpArgs false

/-! ### impl_ParseSlabs: function 6 -/
section
attribute [local go_sem] Oper.semAt_some
def impl_ParseSlabs.ck.Kp2 (n B : Nat) (W W' : World) : Prop := ∀ k, (k < n ∨ k = B ∨ k = B + 1) → W'.heap[k]? = W.heap[k]?
theorem impl_ParseSlabs.ck.Kp2.cell {n B : Nat} {W W' : World} (h : impl_ParseSlabs.ck.Kp2 n B W W') {a : Addr} (ha : a.block < n ∨ a.block = B ∨ a.block = B + 1) : W'.cell? a = W.cell? a := by
  have h2 := h _ ha
  unfold World.cell?
  rw [h2]
/-- The piece of round k: q elements from place q * k on. -/
abbrev impl_ParseSlabs.ck.encs (q : Nat) (ad : Addr) {m : Nat} (x : Fin m) : Array Value := #[.slice (some (ad.add (q * x.val))) q q]
set_option maxRecDepth 100000 in
set_option maxHeartbeats 4000000 in
theorem impl_ParseSlabs.ck.ck1_in (F : Fence) (n : Nat) (h34 : F.fn 34) (hro : F.round = none) (hn : 1 ≤ n) (l Bs n₀ q m len cap : Nat) (A : Option Addr) (ad : Addr) (hA : 0 < m → A = some ad) (hq : 1 ≤ q) (hlen0 : q * m = len) (hcap : len ≤ cap) (hreach : (cap : Int) ≤ 9223372036854775807) (hq2 : (q : Int) ≤ 4611686018427387904) (J Jx : List (Fin m) → World → Prop)
    (hY : ∀ pre x W, J pre W → pre.length < m → YieldAt F (n - 1) Tryd.prog l (impl_ParseSlabs.ck.encs q ad x) W fun e W' =>
      (e = .returned (.bool true) ∧ J (pre ++ [x]) W' ∧ impl_ParseSlabs.ck.Kp2 n₀ Bs W W') ∨ (e = .returned (.bool false) ∧ Jx (pre ++ [x]) W'))
    (hD : ∀ pre W, J pre W → J pre W.drew) (W : World) (hBs : W.cell? ⟨Bs, 0, none⟩ = some (.slice A len cap)) (hBn : W.cell? ⟨Bs + 1, 0, none⟩ = some (.int .i64 q)) (h0 : J [] W) :
    CallsIn F n Tryd.prog 34 #[.func (.yield l) #[] #[], .pointer (some ⟨Bs, 0, none⟩), .pointer (some ⟨Bs + 1, 0, none⟩)] W fun e W' => (∃ v, e = .returned v) ∧
      ((∃ ys, ys = Rf.upto m m ∧ J ys W') ∨ (∃ pre, (∃ k, k ≤ m ∧ pre = Rf.upto m k) ∧ Jx pre W')) := by
  refine callsIn_of_wp Tryd.func34 rfl h34 ?_ hro
  simp only [Tryd.ntmps34, List.size_toArray, List.length_cons, List.length_nil, Nat.reduceAdd, Nat.reduceSub, Array.replicate_succ, Array.replicate_zero, List.push_toArray, List.append_toArray, List.nil_append, List.cons_append]
  have hlen := Aside0.mk hlen0
  clear hlen0
  gi_wp2
  gi_loopw [4] (fun i wr => ∃ k : Nat, k ≤ m ∧ i = .int .i64 ((q * k : Nat) : Int) ∧ J (Rf.upto m k) wr ∧ impl_ParseSlabs.ck.Kp2 n₀ Bs W wr)
    (fun i _ => ((len : Int) - intOf i).toNat)
  case atStart => exact ⟨0, Nat.zero_le _, by simp, h0, fun _ _ => rfl⟩
  case round =>
    obtain ⟨k, hk, rfl, hJs, hnx⟩ := hrel
    have hBs' := (hnx.cell (a := ⟨Bs, 0, none⟩) (.inr (.inl rfl))).trans hBs
    have hBn' := (hnx.cell (a := ⟨Bs + 1, 0, none⟩) (.inr (.inr rfl))).trans hBn
    obtain ⟨i, hi⟩ : ∃ i, q * k = i := ⟨_, rfl⟩
    by_cases hlt : k < m
    · obtain rfl := hA (by omega)
      have hmul : i + q ≤ len := by rw [← hlen.out, ← hi, ← Nat.mul_succ]; exact Nat.mul_le_mul_left q hlt
      have HI := Aside0.mk hi
      rw [hi]
      clear hi
      have hlt2 : decide ((i : Int) < (len : Int)) = true := decide_eq_true (by omega)
      have b0 : (0 : Int) ≤ (i : Int) := by omega
      have b1 : (i : Int) ≤ (len : Int) := by omega
      have b2 : (i : Int) ≤ (cap : Int) := by omega
      have b3 : ¬ (len - i < q) := by omega
      have b4 : ¬ (cap = i) := by omega
      have b5 : i ≤ len := by omega
      have b6 : ((i : Int) + (q : Int)) ≤ (cap : Int) := by omega
      have b7 : (i : Int) ≤ (i : Int) + (q : Int) := by omega
      have b8 : (0 : Int) ≤ (i : Int) + (q : Int) := by omega
      have hBs2 : wr.drew.cell? ⟨Bs, 0, none⟩ = some (.slice (some ad) len cap) := hBs'
      obtain ⟨fn, tmps, assign, body, hy, hR⟩ := hY _ ⟨k, hlt⟩ wr.drew (hD _ _ hJs) (by rw [Rf.upto_length hk]; exact hlt)
      have HK := Aside0.mk (show impl_ParseSlabs.ck.Kp2 n₀ Bs wr wr.drew from fun _ _ => rfl)
      dsimp only [impl_ParseSlabs.ck.encs] at hy
      rw [HI.out] at hy
      have HR := Aside0.mk hR
      gi_wp2
      gi_region
      all_goals
        gi_wp2
        refine HR.out.mono ?_
        rintro e W3 (⟨rfl, hJ3, hk3⟩ | ⟨rfl, hJx3⟩)
        · have hBn3 := (hk3.cell (a := ⟨Bs + 1, 0, none⟩) (.inr (.inr rfl))).trans ((HK.out.cell (a := ⟨Bs + 1, 0, none⟩) (.inr (.inr rfl))).trans hBn')
          gi_wp2
          go_roundw
          case rel => exact ⟨k + 1, by omega, by rw [Nat.mul_succ, HI.out, Int.natCast_add], by rw [Rf.upto_succ hlt]; exact hJ3, fun q hq => (hk3 q hq).trans ((HK.out q hq).trans (hnx q hq))⟩
          case measure => simp [intOf]; omega
        · gi_wp2
          refine bodyPost_ret (results_none rfl _ _ _) rfl ?_
          exact ⟨⟨_, rfl⟩, .inr ⟨_, ⟨k + 1, by omega, (Rf.upto_succ hlt).symm⟩, hJx3⟩⟩
    · obtain rfl : k = m := by omega
      rw [hlen.out] at hi
      subst hi
      rw [hlen.out]
      have hlt2 : decide ((len : Int) < (len : Int)) = false := decide_eq_false (by omega)
      gi_wp2
      go_end0
      exact ⟨⟨_, rfl⟩, .inl ⟨_, rfl, hJs⟩⟩
set_option maxHeartbeats 2000000 in
theorem impl_ParseSlabs.ck.chunk_in (F : Fence) (n : Nat) (h17 : F.fn 17) (hro : F.round = none) (ad : Option Addr) (len cap q : Nat) (hq : 1 ≤ q) (w : World) :
    CallsIn F n Tryd.prog 17 #[.slice ad len cap, .int .i64 (q : Int)] w fun e w' => e = .returned (.func (.func 34) #[] #[.pointer (some ⟨w.heap.size, 0, none⟩), .pointer (some ⟨w.heap.size + 1, 0, none⟩)]) ∧ w' = (w.alloc (.cells #[.slice ad len cap] 35)).alloc (.cells #[.int .i64 (q : Int)] 3) := by
  have hq1 : ¬ ((q : Int) < 1) := by omega
  refine callsIn_of_wp Tryd.func17 rfl h17 ?_ hro
  simp only [Tryd.ntmps17, List.size_toArray, List.length_cons, List.length_nil, Nat.reduceAdd, Nat.reduceSub, Array.replicate_succ, Array.replicate_zero, List.push_toArray, List.append_toArray, List.nil_append, List.cons_append]
  gi_wp2
  go_ret
  exact ⟨rfl, rfl⟩
theorem impl_ParseSlabs.ck.stops (F : Fence) (n : Nat) (h34 : F.fn 34) (hro : F.round = none) (hn : 1 ≤ n) (Bs n₀ q m len cap : Nat) (A : Option Addr) (ad : Addr) (hA : 0 < m → A = some ad) (hq : 1 ≤ q) (hlen : q * m = len) (hcap : len ≤ cap) (hreach : (cap : Int) ≤ 9223372036854775807) (hq2 : (q : Int) ≤ 4611686018427387904)
    (w : World) (hBw : Bs + 1 < w.heap.size) (hnw : n₀ ≤ w.heap.size) (hBs : w.cell? ⟨Bs, 0, none⟩ = some (.slice A len cap)) (hBn : w.cell? ⟨Bs + 1, 0, none⟩ = some (.int .i64 q)) :
    SeqStopsK F n Tryd.prog 34 #[.pointer (some ⟨Bs, 0, none⟩), .pointer (some ⟨Bs + 1, 0, none⟩)] (impl_ParseSlabs.ck.encs q ad (m := m)) (impl_ParseSlabs.ck.Kp2 n₀ Bs) (fun ys => ys = Rf.upto m m) (fun pre => ∃ k, k ≤ m ∧ pre = Rf.upto m k) m w := fun l J Jx W hW hJ _ hY h0 => by
  have hwW : impl_ParseSlabs.ck.Kp2 n₀ Bs w W := fun k hk => hW.block k (by rcases hk with h | h | h <;> omega)
  exact impl_ParseSlabs.ck.ck1_in F n h34 hro hn l Bs n₀ q m len cap A ad hA hq hlen hcap hreach hq2 J Jx hY (fun pre W1 h1 => hJ pre W1 W1.drew none h1 ⟨rfl, rfl, rfl, Nat.le_refl _, fun _ _ _ => rfl⟩ (fun r h => by cases h)) W ((hwW.cell (a := ⟨Bs, 0, none⟩) (.inr (.inl rfl))).trans hBs) ((hwW.cell (a := ⟨Bs + 1, 0, none⟩) (.inr (.inr rfl))).trans hBn) h0
end
def impl_ParseSlabs.pairs : List Int → List S42
  | a :: b :: l => ⟨a, b⟩ :: impl_ParseSlabs.pairs l
  | _ => []
def impl_ParseSlabs.f (k : Nat) (a0 : ByteArray) : Option ((List (S42)) × Bool) := (impl_numbers.f a0 ⟨#[94, 44]⟩ 1000).bind fun t => if 4294967296 < t.1.length then none else if t.2 = true ∧ t.1.length % 2 = 0 then (impl_AreSlabs.f (impl_ParseSlabs.pairs t.1)).bind fun u => if u = true then (impl_slabsText.f k (impl_ParseSlabs.pairs t.1)).bind fun x => if x = a0 then some (impl_ParseSlabs.pairs t.1, true) else some ([], false) else some ([], false) else some ([], false)
theorem impl_ParseSlabs.mono (k : Nat) (s : ByteArray) : LeO (impl_ParseSlabs.f k s) (impl_ParseSlabs.f (k + 1) s) := by
  unfold impl_ParseSlabs.f
  refine LeO.bind (LeO.refl _) (fun t => ?_)
  split
  · exact LeO.refl _
  · split
    · refine LeO.bind (LeO.refl _) (fun u => ?_)
      split
      · exact LeO.bind (impl_slabsText.mono _ _) (fun _ => LeO.refl _)
      · exact LeO.refl _
    · exact LeO.refl _
section
attribute [local go_sem] Oper.semAt_some
theorem impl_ParseSlabs.toList_inj {a b : ByteArray} (h : a.toList = b.toList) : a = b := by
  rw [Lib.toList_data, Lib.toList_data] at h
  obtain ⟨⟨x⟩⟩ := a
  obtain ⟨⟨y⟩⟩ := b
  simp only at h
  rw [h]
theorem impl_ParseSlabs.cap_le {α : Type} {d : Kd α} {e base n c : Nat} {ok : Nat → Prop} {W : World} {A : Option Addr} {xs : List α} (h : d.R e W base ok (.slice A n c) xs) : c ≤ maxLen := by
  obtain ⟨inner, ho⟩ := Kd.R_own h
  rcases ho.2 with ⟨hv, _⟩ | ⟨g, cap, cur, hv, hb, hh, h1, hcm, _⟩
  · injection hv with _ _ hc
    subst hc; exact Nat.zero_le _
  · injection hv with _ _ hc
    subst hc; exact hcm
def impl_ParseSlabs.Inv (w1 : World) (zs : List Int) (m c1 : Nat) (A1 : Option Addr) (pre : List (Fin m)) (W : World) : Prop :=
  (∃ v out, Boxed W (w1.heap.size + 1) 22 v ∧ Kd.R k42 42 W w1.heap.size (fun _ => True) v out ∧ out.length = pre.length ∧ (pre = Rf.upto m pre.length → out = impl_ParseSlabs.pairs (zs.take (2 * pre.length)))) ∧ Boxed W (w1.heap.size + 1 + 1) 35 (.slice A1 zs.length c1) ∧ Boxed W (w1.heap.size + 1 + 1 + 1) 3 (.int .i64 2) ∧ Below w1.heap.size w1 W
theorem impl_ParseSlabs.pairs_take : ∀ (zs : List Int) (n : Nat), 2 * n + 2 ≤ zs.length → impl_ParseSlabs.pairs (zs.take (2 * (n + 1))) = impl_ParseSlabs.pairs (zs.take (2 * n)) ++ [⟨zs.getD (2 * n) 0, zs.getD (2 * n + 1) 0⟩]
  | [], _, h => by simp at h
  | [_], _, h => by simp at h
  | a :: b :: l, 0, _ => by simp [impl_ParseSlabs.pairs]
  | a :: b :: l, n + 1, h => by
    have := impl_ParseSlabs.pairs_take l n (by simp at h; omega)
    rw [show 2 * (n + 1 + 1) = 2 * (n + 1) + 1 + 1 by omega, show 2 * (n + 1) = 2 * n + 1 + 1 by omega, List.take_succ_cons, List.take_succ_cons, List.take_succ_cons, List.take_succ_cons, impl_ParseSlabs.pairs, impl_ParseSlabs.pairs, show 2 * n + 1 + 1 = 2 * (n + 1) by omega, this]
    simp [show 2 * (n + 1) = 2 * n + 1 + 1 by omega]
theorem impl_ParseSlabs.r_own {α : Type} {d : Kd α} {e base : Nat} {v : Value} {A B : World} {row : Option Nat} {xs : List α} (h : d.R e A base (fun _ => True) v xs) (hg : A.grownBy B row) (hr : ∀ r, row = some r → ∃ o : Obj, A.heap[r]? = some o ∧ o.isCells = false) : d.R e B base (fun _ => True) v xs :=
  Kd.R_mono (Kd.R_move (Kd.R_bound h) (fun k hk => by
    obtain ⟨_, _, hlt, q, _, cs, hc⟩ := hk
    refine hg.block k hlt (fun e => ?_)
    obtain ⟨o, ho, hn⟩ := hr k e.symm
    rw [hc] at ho
    cases ho
    cases hn)) (fun _ _ => trivial)
theorem impl_ParseSlabs.inv_own {w1 : World} {zs : List Int} {m c1 : Nat} {A1 : Option Addr} {pre : List (Fin m)} {A B : World} {row : Option Nat} (hs : impl_ParseSlabs.Inv w1 zs m c1 A1 pre A) (hg : A.grownBy B row) (hr : ∀ r, row = some r → w1.heap.size ≤ r ∧ ∃ o : Obj, A.heap[r]? = some o ∧ o.isCells = false) : impl_ParseSlabs.Inv w1 zs m c1 A1 pre B := by
  obtain ⟨⟨v, out, h1, h2, h3, h4⟩, h5, h6, h7⟩ := hs
  have hr2 : ∀ r, row = some r → ∃ o : Obj, A.heap[r]? = some o ∧ o.isCells = false := fun r e => (hr r e).2
  exact ⟨⟨v, out, Rf.bk h1 hg hr2, impl_ParseSlabs.r_own h2 hg hr2, h3, h4⟩, Rf.bk h5 hg hr2, Rf.bk h6 hg hr2, h7.grown hg h7.size (fun k e => (hr k e).1)⟩
set_option maxRecDepth 100000 in
set_option maxHeartbeats 4000000 in
theorem impl_ParseSlabs.calls0 (k : Nat) (s : ByteArray) (r1 : List S42) (r2 : Bool) (w : World) (henv : Env.Is w) (h : impl_ParseSlabs.f k s = some (r1, r2)) :
    Calls Tryd.prog 6 #[.string s] w fun e w' => ∃ v0_ : Value, e = .returned (.tuple #[v0_, .bool r2]) ∧ Kd.R k42 42 w' w.heap.size (fun _ => True) v0_ r1 ∧ Below w.heap.size w w' := by
  unfold impl_ParseSlabs.f at h
  have hx := Option.bind_eq_some_iff.1 h
  clear h
  obtain ⟨⟨zs, ok⟩, hn, h⟩ := hx
  dsimp only at h
  have HE := Aside0.mk henv
  have HN := Aside0.mk (impl_numbers.calls s ⟨#[94, 44]⟩ 1000 zs ok w henv hn)
  clear hn henv
  by_cases hL : 4294967296 < zs.length
  · rw [if_pos hL] at h
    cases h
  rw [if_neg hL] at h
  by_cases hgd : ok = true ∧ zs.length % 2 = 0
  · rw [if_pos hgd] at h
    obtain ⟨hok, hev⟩ := hgd
    subst hok
    obtain ⟨m, hm⟩ : ∃ m, 2 * m = zs.length := ⟨zs.length / 2, by omega⟩
    have hev2 : (Int.tmod (zs.length : Int) 2 != 0) = false := by rw [← hm]; simp
    have H := Aside0.mk h
    clear h hev
    refine (callsIn_wide (n := 3)).1 ?_
    refine callsIn_of_wp_marks Tryd.func6 rfl trivial ?_ rfl
    simp only [Tryd.ntmps6, List.size_toArray, List.length_cons, List.length_nil, Nat.reduceAdd, Nat.reduceSub, Array.replicate_succ, Array.replicate_zero, List.push_toArray, List.append_toArray, List.nil_append, List.cons_append]
    gi_wp2_with (refine ⟨trivial, ?_⟩; gi_at_call 16; refine (callsIn_wide.2 HN.out).mono ?_; rintro e w1 ⟨v1, rfl, ho, hb⟩; obtain ⟨A1, c1, e1⟩ := Kd.R_slice ho; subst e1; have HL := Aside0.mk ho; have HB1 := Aside0.mk hb; clear ho hb HN)
    gi_wp2_with (refine ⟨trivial, ?_⟩; gi_at_call 17; refine (impl_ParseSlabs.ck.chunk_in _ _ trivial rfl _ _ _ 2 (by omega) _).mono ?_; rintro e w' ⟨rfl, rfl⟩)
    have hG := Boxed.new (w1.alloc (.cells #[] 42)) 22 (.slice (some ⟨w1.heap.size, 0, none⟩) 0 0)
    have hS := Boxed.new ((w1.alloc (.cells #[] 42)).alloc (.cells #[.slice (some ⟨w1.heap.size, 0, none⟩) 0 0] 22)) 35 (.slice A1 zs.length c1)
    have hN := Boxed.new (((w1.alloc (.cells #[] 42)).alloc (.cells #[.slice (some ⟨w1.heap.size, 0, none⟩) 0 0] 22)).alloc (.cells #[.slice A1 zs.length c1] 35)) 3 (.int .i64 2)
    have hR0 : Kd.R k42 42 (w1.alloc (.cells #[] 42)) w1.heap.size (fun _ => True) (.slice (some ⟨w1.heap.size, 0, none⟩) 0 0) [] := ⟨fun _ _ => trivial, [], World.ownsRow_lit (base := w1.heap.size) (e := 42) (size := 2) w1 #[] 0 (Nat.le_refl _) (by decide) rfl, Reps.none _ _⟩
    have hG2 := (hG.alloc (.cells #[.slice A1 zs.length c1] 35)).alloc (.cells #[.int .i64 2] 3)
    have hS2 := hS.alloc (.cells #[.int .i64 2] 3)
    have hR2 := Kd.R_alloc (Kd.R_alloc (Kd.R_alloc hR0 (.cells #[.slice (some ⟨w1.heap.size, 0, none⟩) 0 0] 22)) (.cells #[.slice A1 zs.length c1] 35)) (.cells #[.int .i64 2] 3)
    have hB2 := below_alloc (below_alloc (below_alloc (below_alloc HB1.out (.cells #[] 42)) (.cells #[.slice (some ⟨w1.heap.size, 0, none⟩) 0 0] 22)) (.cells #[.slice A1 zs.length c1] 35)) (.cells #[.int .i64 2] 3)
    have hO2 := below_alloc (below_alloc (below_alloc (below_alloc (Below.refl w1.heap.size w1) (.cells #[] 42)) (.cells #[.slice (some ⟨w1.heap.size, 0, none⟩) 0 0] 22)) (.cells #[.slice A1 zs.length c1] 35)) (.cells #[.int .i64 2] 3)
    simp only [World.size_alloc] at hG2 hS2 hN
    have hsz : ((((w1.alloc (.cells #[] 42)).alloc (.cells #[.slice (some ⟨w1.heap.size, 0, none⟩) 0 0] 22)).alloc (.cells #[.slice A1 zs.length c1] 35)).alloc (.cells #[.int .i64 2] 3)).heap.size = w1.heap.size + 1 + 1 + 1 + 1 := by simp only [World.size_alloc]
    have HB1s := Aside0.mk HB1.out.size
    clear hG hS hR0
    generalize ((((w1.alloc (.cells #[] 42)).alloc (.cells #[.slice (some ⟨w1.heap.size, 0, none⟩) 0 0] 22)).alloc (.cells #[.slice A1 zs.length c1] 35)).alloc (.cells #[.int .i64 2] 3)) = wl at hG2 hS2 hN hR2 hB2 hO2 hsz ⊢
    obtain ⟨ad, had⟩ : ∃ ad, 0 < m → A1 = some ad := by
      by_cases hm0 : 0 < m
      · obtain ⟨ad, e, _⟩ := Kd.at_int (Kd.R_reads' HL.out).2.2 0 (by omega) (by omega)
        exact ⟨ad, fun _ => e⟩
      · exact ⟨⟨0, 0, none⟩, fun h => absurd h hm0⟩
    have hcc := (Kd.R_reads' HL.out).2.1
    have hcap : (c1 : Int) ≤ 9223372036854775807 := by
      have := impl_ParseSlabs.cap_le HL.out
      unfold maxLen at this
      omega
    have hsz0 := HB1s.out
    refine wpIn_rangeFunc_ownG rfl (by omega) (gf := 34) (lb := #[.pointer (some ⟨w1.heap.size + 1 + 1, 0, none⟩), .pointer (some ⟨w1.heap.size + 1 + 1 + 1, 0, none⟩)]) rfl trivial (enters_of Tryd.func34 (by kernel_rfl) rfl)
      (impl_ParseSlabs.ck.stops Fence.wide _ trivial rfl (by omega) (w1.heap.size + 1 + 1) w1.heap.size 2 m zs.length c1 A1 ad had (by omega) hm hcc hcap (by omega) wl (by omega) (by omega) hS2.cell hN.cell)
      (fun h k q hq => (k q hq).trans (h q hq)) (fun W l o o' hl h _ _ q hq => World.putObj_heap_other (by rcases hq with hq | hq | hq <;> omega)) (Below.refl _ _) (fun _ => rfl)
      (fun pre W => impl_ParseSlabs.Inv w1 zs m c1 A1 pre W)
      (fun c pre W => False)
      (fun s A B row hs hg hr => impl_ParseSlabs.inv_own hs hg (fun r e => ⟨by have := (hr r e).1; omega, (hr r e).2⟩))
      (fun c s A B row hs hg hr => hs.elim)
      ⟨⟨_, [], hG2, hR2, rfl, fun _ => rfl⟩, hS2, hN, hO2⟩
      (fun x => { tmps := #[.string s, undef, .slice none 0 0, .bool false, .slice A1 zs.length c1, .bool true, .pointer (some ⟨w1.heap.size + 1, 0, none⟩), .slice (some (ad.add (2 * x.val))) 2 2, .tuple #[.slice A1 zs.length c1, .bool true], .string s, .tuple #[.slice A1 zs.length c1, .bool true], .slice A1 zs.length c1, .bool true, .bool true, .bool false, .bool false, .slice A1 zs.length c1, .int .i64 (zs.length : Int), .int .i64 ((zs.length : Int) % 2), .bool false, .bool false, .slice (some ⟨w1.heap.size, 0, none⟩) 0 0, .slice A1 zs.length c1, .func (.func 34) #[] #[.pointer (some ⟨w1.heap.size + 1 + 1, 0, none⟩), .pointer (some ⟨w1.heap.size + 1 + 1 + 1, 0, none⟩)], .slice (some (ad.add (2 * x.val))) 2 2, undef, undef, undef, undef, undef, undef, undef, undef, undef, undef, undef, undef, undef, undef, undef, undef, undef, undef, undef, undef], defers := [] }) ?assign ?body ?done ?stop
    case assign =>
      intro l x W K hK
      gi_wp2
      exact hK
    case body =>
      rintro l pre x W ⟨⟨v, out, hbG, hRo, hlo, heq⟩, hbS, hbN, hB⟩ hlen
      obtain ⟨x, hx⟩ := x
      have hA1 := had (by omega)
      subst hA1
      obtain ⟨_, e0, hx0⟩ := Kd.at_int (Kd.R_reads' HL.out).2.2 (2 * x : Nat) (by omega) (by omega)
      obtain ⟨_, e1, hx1⟩ := Kd.at_int (Kd.R_reads' HL.out).2.2 (2 * x + 1 : Nat) (by omega) (by omega)
      cases e0
      cases e1
      clear hG2 hN hR2 hB2 hO2 hS2 had H HE hev2
      have hlt : ad.block < w1.heap.size := Kd.R_lt HL.out ad.block rfl
      rw [Int.toNat_natCast] at hx0 hx1
      rw [add_field _ _ 1 (by omega)] at hx1
      generalize hz0 : rd zs ((2 * x : Nat) : Int) = z0 at hx0
      generalize hz1 : rd zs ((2 * x + 1 : Nat) : Int) = z1 at hx1
      have hrd : ∀ X : World, Below w1.heap.size w1 X → X.cell? (ad.add (2 * x)) = some (.int .i64 z0) ∧ X.cell? ⟨(ad.add (2 * x)).block, (ad.add (2 * x)).off + 1, none⟩ = some (.int .i64 z1) := fun X hX => by
        have hW : ∀ p : Addr, p.block = ad.block → X.cell? p = w1.cell? p := fun p hp => by unfold World.cell?; rw [hp, hX.block _ hlt]
        have hbk : (ad.add (2 * x)).block = ad.block := by unfold Addr.add; split <;> rfl
        exact ⟨(hW (ad.add (2 * x)) hbk).trans hx0, (hW ⟨(ad.add (2 * x)).block, (ad.add (2 * x)).off + 1, none⟩ hbk).trans hx1⟩
      clear hx0 hx1
      have hcG := hbG.cell
      gi_wp2
      refine InRound.start_in (n := 11) (S := fun w' => w'.cell? ⟨w1.heap.size + 1, 0, none⟩ = some v ∧ w'.cell? (ad.add (2 * x)) = some (.int .i64 z0) ∧ w'.cell? ⟨(ad.add (2 * x)).block, (ad.add (2 * x)).off + 1, none⟩ = some (.int .i64 z1)) (ds := [10]) #[false, false, false, false, false, false, false, false, false, false, false] (by kernel_rfl) (by kernel_rfl) (by rintro ⟨_, _, h⟩; exact h) rfl rfl ⟨hcG, (hrd _ hB).1, (hrd _ hB).2⟩ (fun hHeld => ?_)
      have G := Aside0.mk (blk_drew hbG)
      have S5 := Aside0.mk (blk_drew hbS)
      have N5 := Aside0.mk (blk_drew hbN)
      have HP := Aside0.mk (Kd.R_drew hRo)
      have B := Aside0.mk (below_drew1 hB)
      have KF : Aside0 (KeepsFrom wl.heap.size W W.drew) := ⟨(KeepsOthers.drew W).from _⟩
      have KP : Aside0 (impl_ParseSlabs.ck.Kp2 w1.heap.size (w1.heap.size + 1 + 1) W W.drew) := ⟨fun _ _ => rfl⟩
      clear hbG hbS hbN hRo hB hcG
      generalize W.drew = wd at G S5 N5 HP B KF KP hHeld ⊢
      refine take_ (i := 0) (N := some 25) (v := ?_) (a' := ?_) #[true, false, false, false, false, false, false, false, false, false, false] rfl rfl (by kernel_rfl) (fun _ _ _ h => h) (Or.inl ⟨by rfl, ?_⟩) hHeld ?_ ?_
      rotate_left
      · rintro w' s0
        obtain ⟨s0, s1, s2⟩ := s0
        go_simp
        with_reducible rfl
      rotate_left
      · simp only [Act.put, List.setIfInBounds_toArray, List.set_cons_zero, List.set_cons_succ, i64_w, i32_w]
        rfl
      refine pure_ (i := 1) (N := some 26) (v := ?_) (a' := ?_) #[true, true, false, false, false, false, false, false, false, false, false] rfl rfl (by kernel_rfl) (fun _ _ _ h => h) (Or.inl ⟨by rfl, ?_⟩) ?_ ?_
      rotate_left
      · intro w'
        go_simp
        with_reducible rfl
      rotate_left
      · simp only [Act.put, List.setIfInBounds_toArray, List.set_cons_zero, List.set_cons_succ, i64_w, i32_w]
        rfl
      refine pure_ (i := 2) (N := some 27) (v := ?_) (a' := ?_) #[true, true, true, false, false, false, false, false, false, false, false] rfl rfl (by kernel_rfl) (fun _ _ _ h => h) (Or.inl ⟨by rfl, ?_⟩) ?_ ?_
      rotate_left
      · intro w'
        go_simp
        with_reducible rfl
      rotate_left
      · simp only [Act.put, List.setIfInBounds_toArray, List.set_cons_zero, List.set_cons_succ, i64_w, i32_w]
        rfl
      refine take_ (i := 3) (N := some 28) (v := ?_) (a' := ?_) #[true, true, true, true, false, false, false, false, false, false, false] rfl rfl (by kernel_rfl) (fun _ _ _ h => h) (Or.inl ⟨by rfl, ?_⟩) hHeld ?_ ?_
      rotate_left
      · rintro w' s0
        obtain ⟨s0, s1, s2⟩ := s0
        go_simp
        with_reducible rfl
      rotate_left
      · simp only [Act.put, List.setIfInBounds_toArray, List.set_cons_zero, List.set_cons_succ, i64_w, i32_w]
        rfl
      refine pure_ (i := 4) (N := some 29) (v := ?_) (a' := ?_) #[true, true, true, true, true, false, false, false, false, false, false] rfl rfl (by kernel_rfl) (fun _ _ _ h => h) (Or.inl ⟨by rfl, ?_⟩) ?_ ?_
      rotate_left
      · intro w'
        go_simp
        with_reducible rfl
      rotate_left
      · simp only [Act.put, List.setIfInBounds_toArray, List.set_cons_zero, List.set_cons_succ, i64_w, i32_w]
        rfl
      refine pure_ (i := 5) (N := some 30) (v := ?_) (a' := ?_) #[true, true, true, true, true, true, false, false, false, false, false] rfl rfl (by kernel_rfl) (fun _ _ _ h => h) (Or.inl ⟨by rfl, ?_⟩) ?_ ?_
      rotate_left
      · intro w'
        go_simp
        with_reducible rfl
      rotate_left
      · simp only [Act.put, List.setIfInBounds_toArray, List.set_cons_zero, List.set_cons_succ, i64_w, i32_w]
        rfl
      refine take_ (i := 6) (N := some 31) (v := ?_) (a' := ?_) #[true, true, true, true, true, true, true, false, false, false, false] rfl rfl (by kernel_rfl) (fun _ _ _ h => h) (Or.inl ⟨by rfl, ?_⟩) hHeld ?_ ?_
      rotate_left
      · rintro w' s0
        obtain ⟨s0, s1, s2⟩ := s0
        go_simp
        with_reducible rfl
      rotate_left
      · simp only [Act.put, List.setIfInBounds_toArray, List.set_cons_zero, List.set_cons_succ, i64_w, i32_w]
        rfl
      refine pure_ (i := 7) (N := some 32) (v := ?_) (a' := ?_) #[true, true, true, true, true, true, true, true, false, false, false] rfl rfl (by kernel_rfl) (fun _ _ _ h => h) (Or.inl ⟨by rfl, ?_⟩) ?_ ?_
      rotate_left
      · intro w'
        go_simp
        with_reducible rfl
      rotate_left
      · simp only [Act.put, List.setIfInBounds_toArray, List.set_cons_zero, List.set_cons_succ, i64_w, i32_w]
        rfl
      refine one_ (i := 8) (N := some 33) #[true, true, true, true, true, true, true, true, true, false, false] rfl rfl (by kernel_rfl) (by decide) (fun K hK => ?_)
      refine value_ (w1 := ?_) (v := ?_) (by rfl) rfl ?_ ?_
      rotate_left 2
      · go_simp
        constructor
        · rfl
        · rfl
      refine hK.out _ _ ⟨(blk_cell (blk_alloc G.out _) 0).trans rfl, hrd _ (below_alloc B.out _)⟩ (fun hHeld => ?_)
      clear hK K
      refine norm_ (a' := ?_) ?_ ?_
      rotate_left
      · show Act.put _ (some 33) _ = _
        simp only [Act.put, List.setIfInBounds_toArray, List.set_cons_zero, List.set_cons_succ, i64_w, i32_w]
        rfl
      refine one_ (i := 9) (N := some 34) #[true, true, true, true, true, true, true, true, true, true, false] rfl rfl (by kernel_rfl) (by decide) (fun K hK => ?_)
      refine Kd.R_append_step k42 (w0 := w1) w1.heap.size (by rfl) (.tmp 25) (.tmp 33) 22 42 (.agg #[(.int .i64 0), (.int .i64 0)]) 16 rfl Tryd.underlying22 info42 rfl (by decide) (by omega) v out (⟨z0, z1⟩ : S42) [.int .i64 z0, .int .i64 z1] (fun _ => True) (fun _ => False) rfl rfl ?aP (fun _ hk => hk.elim) ?aF ?aO ?aB ?aS ?aL ?_
      (case aP => exact k42_mkM _ _ _ (⟨z0, z1⟩ : S42))
      (case aB => exact B.out)
      (case aF => exact (fun _ _ => trivial))
      (case aO => exact HP.out)
      (case aS => exact B.out.size)
      (case aL => rw [hlo]; omega)
      intro v1 w26 ho hb hg hat
      have n0 := Aside0.mk (blk_grown G.out hg (Kd.R_ne HP.out G.out (by decide)))
      have n1 := Aside0.mk (blk_grown S5.out hg (Kd.R_ne HP.out S5.out (by decide)))
      have n2 := Aside0.mk (blk_grown N5.out hg (Kd.R_ne HP.out N5.out (by decide)))
      have n3 : Aside0 (KeepsFrom wl.heap.size W w26) := ⟨KF.out.trans ((KeepsOthers.of_grownBy hg (fun j o e hj => by
        obtain ⟨cs, hc⟩ := Kd.R_typed HP.out j e
        rw [hc] at hj
        cases hj
        rfl)).from _)⟩
      have n4 : Aside0 (impl_ParseSlabs.ck.Kp2 w1.heap.size (w1.heap.size + 1 + 1) W w26) := ⟨fun q hq => by
        refine Eq.trans ?_ (KP.out q hq)
        rcases hq with hq | hq | hq
        · exact hg.block q (by have := B.out.size; omega) (fun e => by have := Kd.R_base HP.out q e.symm; omega)
        · subst hq
          exact hg.block _ (blk_lt S5.out) (Kd.R_ne HP.out S5.out (by decide))
        · subst hq
          exact hg.block _ (blk_lt N5.out) (Kd.R_ne HP.out N5.out (by decide))⟩
      have n5 := Aside0.mk ho
      have n6 := Aside0.mk hb
      clear G S5 N5 KF KP HP B ho hb hg hat
      obtain ⟨Ao, co, eo⟩ := Kd.R_slice n5.out
      generalize hnn : (out ++ [(⟨z0, z1⟩ : S42)]).length = nn at eo
      subst eo
      refine hK.out _ _ ⟨(blk_cell n0.out 0).trans rfl, hrd _ n6.out⟩ (fun hHeld => ?_)
      clear hK K
      refine norm_ (a' := ?_) ?_ ?_
      rotate_left
      · show Act.put _ (some 34) _ = _
        simp only [Act.put, List.setIfInBounds_toArray, List.set_cons_zero, List.set_cons_succ, i64_w, i32_w]
        rfl
      refine last_ (i := 10) (N := none) #[true, true, true, true, true, true, true, true, true, true, true] rfl rfl (by kernel_rfl) (by decide) (fun K hK => ?_)
      have hsG : w26.cell? ⟨w1.heap.size + 1, 0, none⟩ = some v := (blk_cell n0.out 0).trans rfl
      have hfG := blk_frozen n0.out 0
      refine skip_ (w1 := ?_) (by rfl) rfl ?_ ?_
      rotate_left
      · go_simp
        rfl
      refine hK.out _ _ ?_
      clear hK K
      refine done_ (by kernel_rfl) ?_
      clear hsG hfG
      try gi_wp2
      refine ⟨n3.out.trans ((KeepsOthers.setCell w26 _ _).from _), fun q hq => (Below.heap_setCell _ _ _ q (by rcases hq with hq | hq | hq <;> simp <;> omega)).trans (n4.out q hq), ⟨_, out ++ [⟨z0, z1⟩], blk_put (cs := #[v]) n0.out 0 _ rfl, Kd.R_mono (Kd.R_far (p := ⟨w1.heap.size + 1, 0, none⟩) (Kd.R_types n5.out n0.out (by decide)) (fun _ hk => hk.2) _) (fun _ _ => trivial), by simp [hlo], fun hp => ?_⟩, blk_far n1.out (by show w1.heap.size + 1 + 1 ≠ w1.heap.size + 1; omega) _, blk_far n2.out (by show w1.heap.size + 1 + 1 + 1 ≠ w1.heap.size + 1; omega) _, n6.out.setCell (p := ⟨w1.heap.size + 1, 0, none⟩) (by simp) _⟩
      obtain ⟨hp1, hp2⟩ := Rf.upto_snoc hp
      dsimp only at hp2
      subst hp2
      rw [heq hp1, List.length_append, List.length_singleton, impl_ParseSlabs.pairs_take zs pre.length (by omega), ← hz0, ← hz1]
      rfl
    case done =>
      rintro D ys W hD rfl ⟨⟨v, out, hbG, hRo, hlo, heq⟩, hbS, hbN, hB⟩ hK
      have hlen : (Rf.upto m m).length = m := Rf.upto_length (Nat.le_refl _)
      have hout : out = impl_ParseSlabs.pairs zs := by
        rw [heq (by rw [hlen]), hlen, hm, List.take_length]
      subst hout
      obtain ⟨Ao, co, eo⟩ := Kd.R_slice hRo
      generalize hnn : (impl_ParseSlabs.pairs zs).length = nn at eo
      subst eo
      have hcG := hbG.cell
      have hx := Option.bind_eq_some_iff.1 H.out
      obtain ⟨u, hu, H2⟩ := hx
      clear heq H hlo hlen hG2 hS2 hN hR2 hB2 hO2
      have HRo := Aside0.mk hRo
      have HD := Aside0.mk (show w1.heap.size ≤ D by omega)
      have hAS := impl_AreSlabs.calls Ao co (impl_ParseSlabs.pairs zs) u W (Kd.R_reads' (hnn ▸ hRo)).2.2 (Kd.R_reads' (hnn ▸ hRo)).2.1 hu
      rw [hnn] at hAS
      have HAS := Aside0.mk hAS
      have HNN := Aside0.mk hnn
      have HBB := Aside0.mk hB
      have HBG := Aside0.mk hbG
      have HKK := Aside0.mk hK
      clear hRo hnn hAS hu hbS hbN had hB hbG hK hcap hcc hD hsz HL
      cases u with
      | false =>
        rw [if_neg (by simp)] at H2
        cases H2
        gi_wp2_with (refine ⟨trivial, ?_⟩; gi_at_call 18; refine (callsIn_wide.2 HAS.out).mono ?_; rintro e wa ⟨rfl, hba⟩)
        have hKa : wa.heap[D]? = some (Obj.deferred (some [])) := (hba.block D (by have := (Array.getElem?_eq_some_iff.1 HKK.out).1; omega)).trans HKK.out
        have hBa := (HB1.out.trans (HBB.out.mono hsz0)).trans (hba.mono (Nat.le_trans hsz0 HBB.out.size))
        refine ⟨trivial, ?_⟩
        gi_wp2
        refine ⟨by simp, .inl ⟨_, _, rfl, run_takeDeferred hKa, ?_⟩⟩
        exact ⟨.tuple #[.slice none 0 0, .bool false], by simp [results, Tryd.f6, go_sem], .slice none 0 0, rfl, Kd.R_nil _ _ _ _ _, hBa.trans (belowK_b (w := w) (Nat.le_refl _) _ D _ _ (Nat.le_trans hsz0 HD.out) hKa rfl rfl)⟩
      | true =>
        rw [if_pos rfl] at H2
        obtain ⟨t, ht, H3⟩ := Option.bind_eq_some_iff.1 H2
        clear H2
        have HT := Aside0.mk ht
        have H3 := Aside0.mk H3
        clear ht
        gi_wp2_with (refine ⟨trivial, ?_⟩; gi_at_call 18; refine (callsIn_wide.2 HAS.out).mono ?_; rintro e wa ⟨rfl, hba⟩; have hcA := (Rf.boxed_below HBG.out hba).cell)
        have HRa := Aside0.mk (Kd.R_step (w1 := wa) HRo.out (fun k _ hlt => hba.block k hlt))
        have HSa := (impl_slabsText.calls k Ao co (impl_ParseSlabs.pairs zs) t wa (Kd.R_reads' (HNN.out.symm ▸ HRa.out)).2.2 (Kd.R_reads' (HNN.out.symm ▸ HRa.out)).2.1 (Env.Is.below HE.out ((HB1.out.trans (HBB.out.mono hsz0)).trans (hba.mono (Nat.le_trans hsz0 HBB.out.size)))) HT.out)
        rw [HNN.out] at HSa
        have HST := Aside0.mk HSa
        clear HSa
        have hBa := Aside0.mk ((HB1.out.trans (HBB.out.mono hsz0)).trans (hba.mono (Nat.le_trans hsz0 HBB.out.size)))
        have hKa := Aside0.mk ((hba.block D (by have := (Array.getElem?_eq_some_iff.1 HKK.out).1; omega)).trans HKK.out)
        have hGa := Aside0.mk (Rf.boxed_below HBG.out hba)
        have hla := Aside0.mk (Nat.le_trans HBB.out.size hba.size)
        clear hcG hcA hba HKK HBB HBG HAS HRo
        by_cases hts : t = s
        · subst hts
          have h4 := H3.out
          rw [if_pos rfl] at h4
          obtain ⟨rfl, rfl⟩ := Prod.mk.inj (Option.some.inj h4)
          clear h4 H3
          gi_wp2_with (refine ⟨trivial, ?_⟩; gi_at_call 19; refine (callsIn_wide.2 HST.out).mono ?_; rintro e wb ⟨rfl, hbb⟩; have hcB := (Rf.boxed_below hGa.out hbb).cell)
          have hKb : wb.heap[D]? = some (Obj.deferred (some [])) := (hbb.block D (by have := (Array.getElem?_eq_some_iff.1 hKa.out).1; omega)).trans hKa.out
          have hBb := hBa.out.trans (hbb.mono (Nat.le_trans hsz0 hla.out))
          have hRb := Kd.R_step (w1 := wb) HRa.out (fun k _ hlt => hbb.block k hlt)
          refine ⟨by simp, .inl ⟨_, _, rfl, run_takeDeferred hKb, ?_⟩⟩
          exact ⟨.tuple #[.slice Ao nn co, .bool true], by simp [results, Tryd.f6, go_sem], .slice Ao nn co, rfl, Kd.R_lower (impl_ParseSlabs.r_own hRb (grownBy_putObj' wb D (.deferred none)) (fun r e => by cases e; exact ⟨_, hKb, rfl⟩)) hsz0, hBb.trans (belowK_b (w := w) (Nat.le_refl _) _ D _ _ (Nat.le_trans hsz0 HD.out) hKb rfl rfl)⟩
        · have h4 := H3.out
          rw [if_neg hts] at h4
          obtain ⟨rfl, rfl⟩ := Prod.mk.inj (Option.some.inj h4)
          clear h4 H3
          have hbq : (t.toList == s.toList) = false := beq_eq_false_iff_ne.2 (fun h => hts (impl_ParseSlabs.toList_inj h))
          gi_wp2_with (refine ⟨trivial, ?_⟩; gi_at_call 19; refine (callsIn_wide.2 HST.out).mono ?_; rintro e wb ⟨rfl, hbb⟩; have hcB := (Rf.boxed_below hGa.out hbb).cell)
          have hKb : wb.heap[D]? = some (Obj.deferred (some [])) := (hbb.block D (by have := (Array.getElem?_eq_some_iff.1 hKa.out).1; omega)).trans hKa.out
          have hBb := hBa.out.trans (hbb.mono (Nat.le_trans hsz0 hla.out))
          refine ⟨by simp, .inl ⟨_, _, rfl, run_takeDeferred hKb, ?_⟩⟩
          exact ⟨.tuple #[.slice none 0 0, .bool false], by simp [results, Tryd.f6, go_sem], .slice none 0 0, rfl, Kd.R_nil _ _ _ _ _, hBb.trans (belowK_b (w := w) (Nat.le_refl _) _ D _ _ (Nat.le_trans hsz0 HD.out) hKb rfl rfl)⟩
    case stop =>
      rintro D c pre W hD _ hf _
      exact hf.elim
  · rw [if_neg hgd] at h
    obtain ⟨rfl, rfl⟩ := Prod.mk.inj (Option.some.inj h)
    clear h HE
    refine (callsIn_wide (n := 3)).1 ?_
    refine callsIn_of_wp_marks Tryd.func6 rfl trivial ?_ rfl
    simp only [Tryd.ntmps6, List.size_toArray, List.length_cons, List.length_nil, Nat.reduceAdd, Nat.reduceSub, Array.replicate_succ, Array.replicate_zero, List.push_toArray, List.append_toArray, List.nil_append, List.cons_append]
    cases ok with
    | false =>
      clear hgd
      gi_wp2_with (refine ⟨trivial, ?_⟩; gi_at_call 16; refine (callsIn_wide.2 HN.out).mono ?_; rintro e w1 ⟨v1, rfl, ho, hb⟩; obtain ⟨A1, c1, e1⟩ := Kd.R_slice ho; subst e1; have HB1 := Aside0.mk hb; clear ho hb HN)
      exact ⟨.tuple #[.slice none 0 0, .bool false], by simp [results, Tryd.f6, go_sem], .slice none 0 0, rfl, Kd.R_nil _ _ _ _ _, HB1.out⟩
    | true =>
      have hev2 : (Int.tmod (zs.length : Int) 2 != 0) = true := bne_iff_ne.2 (fun h => hgd ⟨rfl, by rw [Int.tmod_eq_emod_of_nonneg (by omega)] at h; omega⟩)
      have hev3 : ((zs.length : Int) % 2 != 0) = true := bne_iff_ne.2 (fun h => hgd ⟨rfl, by omega⟩)
      clear hgd
      gi_wp2_with (refine ⟨trivial, ?_⟩; gi_at_call 16; refine (callsIn_wide.2 HN.out).mono ?_; rintro e w1 ⟨v1, rfl, ho, hb⟩; obtain ⟨A1, c1, e1⟩ := Kd.R_slice ho; subst e1; have HB1 := Aside0.mk hb; clear ho hb HN)
      exact ⟨.tuple #[.slice none 0 0, .bool false], by simp [results, Tryd.f6, go_sem], .slice none 0 0, rfl, Kd.R_nil _ _ _ _ _, HB1.out⟩
end
theorem impl_ParseSlabs.calls (k : Nat) (a0 : ByteArray) (r1 : List (S42)) (r2 : Bool) (w : World) (henv : Env.Is w) (h : impl_ParseSlabs.f k a0 = some (r1, r2)) :
    Calls Tryd.prog 6 #[.string a0] w fun e w' => ∃ v0_ : Value, e = .returned (.tuple #[v0_, .bool r2]) ∧ Kd.R k42 42 w' w.heap.size (fun _ => True) v0_ r1 ∧ Below w.heap.size w w' := by
  exact impl_ParseSlabs.calls0 k a0 r1 r2 w henv h

/-! ### laws_eqSlab: function 20 -/
def laws_eqSlab.f (a0_0 : Int) (a0_1 : Int) (a1_0 : Int) (a1_1 : Int) : Option (Bool) := if a0_0 = a1_0 then (if a0_1 = a1_1 then (some true) else (some false)) else (some false)
set_option maxHeartbeats 8000000 in
set_option maxRecDepth 100000 in
theorem laws_eqSlab.calls (a0_0 : Int) (a0_1 : Int) (a1_0 : Int) (a1_1 : Int) (r : Bool) (w : World) (h : laws_eqSlab.f a0_0 a0_1 a1_0 a1_1 = some r) :
    Calls Tryd.prog 20 #[.agg #[.int .i64 a0_0, .int .i64 a0_1], .agg #[.int .i64 a1_0, .int .i64 a1_1]] w fun e w' => e = .returned (.bool r) ∧ Below w.heap.size w w' := by
  have hu42 := Tryd.underlying42
  have HB := Aside0.mk (Below.refl w.heap.size w)
  have H : (if a0_0 = a1_0 then (if a0_1 = a1_1 then (some true) else (some false)) else (some false)) = some r := h
  clear h
  by_cases c3 : a0_0 = a1_0
  · rw [if_pos c3] at H
    have c3b0 : (a0_0 == a1_0) = true := beq_iff_eq.mpr c3
    have c3b1 : (a0_0 != a1_0) = false := bne_eq_false_iff_eq.mpr c3
    clear c3
    by_cases c4 : a0_1 = a1_1
    · rw [if_pos c4] at H
      have c4b0 : (a0_1 == a1_1) = true := beq_iff_eq.mpr c4
      have c4b1 : (a0_1 != a1_1) = false := bne_eq_false_iff_eq.mpr c4
      clear c4
      obtain rfl := Option.some.inj H
      go_enter Tryd.func20, Tryd.ntmps20
      go_wp2_with (first | ((with_reducible refine gate_dst (N := 2) rfl ?_); refine box_event ?hg (N := 2) ?hd (cs := #[.int .i64 a0_0, .int .i64 a0_1]) (t := 42) ?hr ?_; (case hd => rfl); (case hg => rfl); (case hr => first | (go_simp; done) | (go_simp; rfl)); intro gb143 hg w5 hbox hb; have n0_ := Aside0.mk (below_step (by repeat (first | (with_reducible first | exact HB.out | apply below_alloc | apply pw_below_drewN | apply below_drew1) | exact HB.out)) hb); have n1_ := Aside0.mk (hbox); have n2_ := Aside0.mk ((by rw [hg]; exact (below_size (by repeat (first | (with_reducible first | exact HB.out | apply below_alloc | apply pw_below_drewN | apply below_drew1) | exact HB.out))) : w.heap.size ≤ gb143)); have n3_ := Aside0.mk ((by rw [hg]; exact (below_size (by repeat (first | (with_reducible first | exact HB.out | apply below_alloc | apply pw_below_drewN | apply below_drew1) | exact HB.out))) : w.heap.size ≤ gb143)); clear HB; have HB := n0_; have BK143 := n1_; have GW143 := n2_; have GE143 := n3_; clear n0_ n1_ n2_ n3_; clear hb hbox hg) | ((with_reducible refine gate_dst (N := 3) rfl ?_); refine box_event ?hg (N := 3) ?hd (cs := #[.int .i64 a1_0, .int .i64 a1_1]) (t := 42) ?hr ?_; (case hd => rfl); (case hg => rfl); (case hr => first | (go_simp; done) | (go_simp; rfl)); intro gb144 hg w6 hbox hb; have n0_ := Aside0.mk (blk_below (g := gb143) (o := .cells #[.int .i64 a0_0, .int .i64 a0_1] 42 (0, 0)) (by (with_reducible repeat (first | refine blk_drewN ?_ _ | refine blk_drew ?_ | refine blk_alloc ?_ _)); exact BK143.out) hb); have n1_ := Aside0.mk (below_step (by repeat (first | (with_reducible first | exact HB.out | apply below_alloc | apply pw_below_drewN | apply below_drew1 | refine below_set ?_ GE143.out) | exact HB.out)) hb); have n2_ := Aside0.mk (hbox); have n3_ := Aside0.mk ((by rw [hg]; exact (below_size (by repeat (first | (with_reducible first | exact HB.out | apply below_alloc | apply pw_below_drewN | apply below_drew1 | refine below_set ?_ GE143.out) | exact HB.out))) : w.heap.size ≤ gb144)); have n4_ := Aside0.mk ((by rw [hg]; exact (below_size (by repeat (first | (with_reducible first | exact HB.out | apply below_alloc | apply pw_below_drewN | apply below_drew1 | refine below_set ?_ GE143.out) | exact HB.out))) : w.heap.size ≤ gb144)); have n5_ := Aside0.mk ((by rw [hg]; exact Nat.ne_of_lt (blk_lt (g := gb143) (o := .cells #[.int .i64 a0_0, .int .i64 a0_1] 42 (0, 0)) (by (with_reducible repeat (first | refine blk_drewN ?_ _ | refine blk_drew ?_ | refine blk_alloc ?_ _)); exact BK143.out)) : gb143 ≠ gb144)); have n6_ := Aside0.mk ((by rw [hg]; exact Nat.ne_of_gt (blk_lt (g := gb143) (o := .cells #[.int .i64 a0_0, .int .i64 a0_1] 42 (0, 0)) (by (with_reducible repeat (first | refine blk_drewN ?_ _ | refine blk_drew ?_ | refine blk_alloc ?_ _)); exact BK143.out)) : gb144 ≠ gb143)); clear BK143; clear HB; have BK143 := n0_; have HB := n1_; have BK144 := n2_; have GW144 := n3_; have GE144 := n4_; have NB143_144 := n5_; have NB144_143 := n6_; clear n0_ n1_ n2_ n3_ n4_ n5_ n6_; clear hb hbox hg; have hnb7 := NB143_144.out; have hnc7 := NB144_143.out; have hcz8_0 : w6.cell? ⟨gb143, 0, none⟩ = some (.int .i64 a0_0) := (blk_cell BK143.out 0).trans rfl; have hcz8_1 : w6.cell? ⟨gb143, 1, none⟩ = some (.int .i64 a0_1) := (blk_cell BK143.out 1).trans rfl; have hfz8_0 := blk_frozen BK143.out 0; have hfz8_1 := blk_frozen BK143.out 1; have hcz9_0 : w6.cell? ⟨gb144, 0, none⟩ = some (.int .i64 a1_0) := (blk_cell BK144.out 0).trans rfl; have hcz9_1 : w6.cell? ⟨gb144, 1, none⟩ = some (.int .i64 a1_1) := (blk_cell BK144.out 1).trans rfl; have hfz9_0 := blk_frozen BK144.out 0; have hfz9_1 := blk_frozen BK144.out 1))
      go_ret
      exact ⟨by first | rfl | (simp [errW_none, errW_some] <;> rfl) | (simp [*, errW_none, errW_some] <;> rfl), by repeat (first | (with_reducible first | exact HB.out | apply below_alloc | apply pw_below_drewN | apply below_drew1 | refine below_set ?_ GE143.out | refine below_set ?_ GE144.out) | exact HB.out)⟩
    · rw [if_neg c4] at H
      have c4b0 : (a0_1 == a1_1) = false := beq_eq_false_iff_ne.mpr c4
      have c4b1 : (a0_1 != a1_1) = true := bne_iff_ne.mpr c4
      obtain rfl := Option.some.inj H
      go_enter Tryd.func20, Tryd.ntmps20
      go_wp2_with (first | ((with_reducible refine gate_dst (N := 2) rfl ?_); refine box_event ?hg (N := 2) ?hd (cs := #[.int .i64 a0_0, .int .i64 a0_1]) (t := 42) ?hr ?_; (case hd => rfl); (case hg => rfl); (case hr => first | (go_simp; done) | (go_simp; rfl)); intro gb143 hg w10 hbox hb; have n0_ := Aside0.mk (below_step (by repeat (first | (with_reducible first | exact HB.out | apply below_alloc | apply pw_below_drewN | apply below_drew1) | exact HB.out)) hb); have n1_ := Aside0.mk (hbox); have n2_ := Aside0.mk ((by rw [hg]; exact (below_size (by repeat (first | (with_reducible first | exact HB.out | apply below_alloc | apply pw_below_drewN | apply below_drew1) | exact HB.out))) : w.heap.size ≤ gb143)); have n3_ := Aside0.mk ((by rw [hg]; exact (below_size (by repeat (first | (with_reducible first | exact HB.out | apply below_alloc | apply pw_below_drewN | apply below_drew1) | exact HB.out))) : w.heap.size ≤ gb143)); clear HB; have HB := n0_; have BK143 := n1_; have GW143 := n2_; have GE143 := n3_; clear n0_ n1_ n2_ n3_; clear hb hbox hg) | ((with_reducible refine gate_dst (N := 3) rfl ?_); refine box_event ?hg (N := 3) ?hd (cs := #[.int .i64 a1_0, .int .i64 a1_1]) (t := 42) ?hr ?_; (case hd => rfl); (case hg => rfl); (case hr => first | (go_simp; done) | (go_simp; rfl)); intro gb144 hg w11 hbox hb; have n0_ := Aside0.mk (blk_below (g := gb143) (o := .cells #[.int .i64 a0_0, .int .i64 a0_1] 42 (0, 0)) (by (with_reducible repeat (first | refine blk_drewN ?_ _ | refine blk_drew ?_ | refine blk_alloc ?_ _)); exact BK143.out) hb); have n1_ := Aside0.mk (below_step (by repeat (first | (with_reducible first | exact HB.out | apply below_alloc | apply pw_below_drewN | apply below_drew1 | refine below_set ?_ GE143.out) | exact HB.out)) hb); have n2_ := Aside0.mk (hbox); have n3_ := Aside0.mk ((by rw [hg]; exact (below_size (by repeat (first | (with_reducible first | exact HB.out | apply below_alloc | apply pw_below_drewN | apply below_drew1 | refine below_set ?_ GE143.out) | exact HB.out))) : w.heap.size ≤ gb144)); have n4_ := Aside0.mk ((by rw [hg]; exact (below_size (by repeat (first | (with_reducible first | exact HB.out | apply below_alloc | apply pw_below_drewN | apply below_drew1 | refine below_set ?_ GE143.out) | exact HB.out))) : w.heap.size ≤ gb144)); have n5_ := Aside0.mk ((by rw [hg]; exact Nat.ne_of_lt (blk_lt (g := gb143) (o := .cells #[.int .i64 a0_0, .int .i64 a0_1] 42 (0, 0)) (by (with_reducible repeat (first | refine blk_drewN ?_ _ | refine blk_drew ?_ | refine blk_alloc ?_ _)); exact BK143.out)) : gb143 ≠ gb144)); have n6_ := Aside0.mk ((by rw [hg]; exact Nat.ne_of_gt (blk_lt (g := gb143) (o := .cells #[.int .i64 a0_0, .int .i64 a0_1] 42 (0, 0)) (by (with_reducible repeat (first | refine blk_drewN ?_ _ | refine blk_drew ?_ | refine blk_alloc ?_ _)); exact BK143.out)) : gb144 ≠ gb143)); clear BK143; clear HB; have BK143 := n0_; have HB := n1_; have BK144 := n2_; have GW144 := n3_; have GE144 := n4_; have NB143_144 := n5_; have NB144_143 := n6_; clear n0_ n1_ n2_ n3_ n4_ n5_ n6_; clear hb hbox hg; have hnb12 := NB143_144.out; have hnc12 := NB144_143.out; have hcz13_0 : w11.cell? ⟨gb143, 0, none⟩ = some (.int .i64 a0_0) := (blk_cell BK143.out 0).trans rfl; have hcz13_1 : w11.cell? ⟨gb143, 1, none⟩ = some (.int .i64 a0_1) := (blk_cell BK143.out 1).trans rfl; have hfz13_0 := blk_frozen BK143.out 0; have hfz13_1 := blk_frozen BK143.out 1; have hcz14_0 : w11.cell? ⟨gb144, 0, none⟩ = some (.int .i64 a1_0) := (blk_cell BK144.out 0).trans rfl; have hcz14_1 : w11.cell? ⟨gb144, 1, none⟩ = some (.int .i64 a1_1) := (blk_cell BK144.out 1).trans rfl; have hfz14_0 := blk_frozen BK144.out 0; have hfz14_1 := blk_frozen BK144.out 1))
      go_ret
      exact ⟨by first | rfl | (simp [errW_none, errW_some] <;> rfl) | (simp [*, errW_none, errW_some] <;> rfl), by repeat (first | (with_reducible first | exact HB.out | apply below_alloc | apply pw_below_drewN | apply below_drew1 | refine below_set ?_ GE143.out | refine below_set ?_ GE144.out) | exact HB.out)⟩
  · rw [if_neg c3] at H
    have c3b0 : (a0_0 == a1_0) = false := beq_eq_false_iff_ne.mpr c3
    have c3b1 : (a0_0 != a1_0) = true := bne_iff_ne.mpr c3
    obtain rfl := Option.some.inj H
    go_enter Tryd.func20, Tryd.ntmps20
    go_wp2_with (first | ((with_reducible refine gate_dst (N := 2) rfl ?_); refine box_event ?hg (N := 2) ?hd (cs := #[.int .i64 a0_0, .int .i64 a0_1]) (t := 42) ?hr ?_; (case hd => rfl); (case hg => rfl); (case hr => first | (go_simp; done) | (go_simp; rfl)); intro gb143 hg w15 hbox hb; have n0_ := Aside0.mk (below_step (by repeat (first | (with_reducible first | exact HB.out | apply below_alloc | apply pw_below_drewN | apply below_drew1) | exact HB.out)) hb); have n1_ := Aside0.mk (hbox); have n2_ := Aside0.mk ((by rw [hg]; exact (below_size (by repeat (first | (with_reducible first | exact HB.out | apply below_alloc | apply pw_below_drewN | apply below_drew1) | exact HB.out))) : w.heap.size ≤ gb143)); have n3_ := Aside0.mk ((by rw [hg]; exact (below_size (by repeat (first | (with_reducible first | exact HB.out | apply below_alloc | apply pw_below_drewN | apply below_drew1) | exact HB.out))) : w.heap.size ≤ gb143)); clear HB; have HB := n0_; have BK143 := n1_; have GW143 := n2_; have GE143 := n3_; clear n0_ n1_ n2_ n3_; clear hb hbox hg) | ((with_reducible refine gate_dst (N := 3) rfl ?_); refine box_event ?hg (N := 3) ?hd (cs := #[.int .i64 a1_0, .int .i64 a1_1]) (t := 42) ?hr ?_; (case hd => rfl); (case hg => rfl); (case hr => first | (go_simp; done) | (go_simp; rfl)); intro gb144 hg w16 hbox hb; have n0_ := Aside0.mk (blk_below (g := gb143) (o := .cells #[.int .i64 a0_0, .int .i64 a0_1] 42 (0, 0)) (by (with_reducible repeat (first | refine blk_drewN ?_ _ | refine blk_drew ?_ | refine blk_alloc ?_ _)); exact BK143.out) hb); have n1_ := Aside0.mk (below_step (by repeat (first | (with_reducible first | exact HB.out | apply below_alloc | apply pw_below_drewN | apply below_drew1 | refine below_set ?_ GE143.out) | exact HB.out)) hb); have n2_ := Aside0.mk (hbox); have n3_ := Aside0.mk ((by rw [hg]; exact (below_size (by repeat (first | (with_reducible first | exact HB.out | apply below_alloc | apply pw_below_drewN | apply below_drew1 | refine below_set ?_ GE143.out) | exact HB.out))) : w.heap.size ≤ gb144)); have n4_ := Aside0.mk ((by rw [hg]; exact (below_size (by repeat (first | (with_reducible first | exact HB.out | apply below_alloc | apply pw_below_drewN | apply below_drew1 | refine below_set ?_ GE143.out) | exact HB.out))) : w.heap.size ≤ gb144)); have n5_ := Aside0.mk ((by rw [hg]; exact Nat.ne_of_lt (blk_lt (g := gb143) (o := .cells #[.int .i64 a0_0, .int .i64 a0_1] 42 (0, 0)) (by (with_reducible repeat (first | refine blk_drewN ?_ _ | refine blk_drew ?_ | refine blk_alloc ?_ _)); exact BK143.out)) : gb143 ≠ gb144)); have n6_ := Aside0.mk ((by rw [hg]; exact Nat.ne_of_gt (blk_lt (g := gb143) (o := .cells #[.int .i64 a0_0, .int .i64 a0_1] 42 (0, 0)) (by (with_reducible repeat (first | refine blk_drewN ?_ _ | refine blk_drew ?_ | refine blk_alloc ?_ _)); exact BK143.out)) : gb144 ≠ gb143)); clear BK143; clear HB; have BK143 := n0_; have HB := n1_; have BK144 := n2_; have GW144 := n3_; have GE144 := n4_; have NB143_144 := n5_; have NB144_143 := n6_; clear n0_ n1_ n2_ n3_ n4_ n5_ n6_; clear hb hbox hg; have hnb17 := NB143_144.out; have hnc17 := NB144_143.out; have hcz18_0 : w16.cell? ⟨gb143, 0, none⟩ = some (.int .i64 a0_0) := (blk_cell BK143.out 0).trans rfl; have hcz18_1 : w16.cell? ⟨gb143, 1, none⟩ = some (.int .i64 a0_1) := (blk_cell BK143.out 1).trans rfl; have hfz18_0 := blk_frozen BK143.out 0; have hfz18_1 := blk_frozen BK143.out 1; have hcz19_0 : w16.cell? ⟨gb144, 0, none⟩ = some (.int .i64 a1_0) := (blk_cell BK144.out 0).trans rfl; have hcz19_1 : w16.cell? ⟨gb144, 1, none⟩ = some (.int .i64 a1_1) := (blk_cell BK144.out 1).trans rfl; have hfz19_0 := blk_frozen BK144.out 0; have hfz19_1 := blk_frozen BK144.out 1))
    go_ret
    exact ⟨by first | rfl | (simp [errW_none, errW_some] <;> rfl) | (simp [*, errW_none, errW_some] <;> rfl), by repeat (first | (with_reducible first | exact HB.out | apply below_alloc | apply pw_below_drewN | apply below_drew1 | refine below_set ?_ GE143.out | refine below_set ?_ GE144.out) | exact HB.out)⟩

/-! ### laws_eqSlabS: function 7 -/
def laws_eqSlabS.l0 : Nat → List (S42) → List (S42) → Int → Option (Bool)
  | 0, _, _, _ => none
  | k + 1, x0, x1, x5 => if x5 < (x0.length : Int) then (if 0 ≤ x5 then (if x5 < (x1.length : Int) then ((laws_eqSlab.f ((rd_T42 x0 x5).f0) ((rd_T42 x0 x5).f1) ((rd_T42 x1 x5).f0) ((rd_T42 x1 x5).f1)).bind fun t147 => (if t147 = true then (laws_eqSlabS.l0 k x0 x1 (wrap64 (x5 + 1))) else (some false))) else (none)) else (none)) else (some true)
def laws_eqSlabS.f (k : Nat) (l0 : List (S42)) (l1 : List (S42)) : Option (Bool) := if (l0.length : Int) = (l1.length : Int) then (laws_eqSlabS.l0 k l0 l1 0) else (some false)
theorem laws_eqSlabS.mono_l : ∀ k, (∀ y0 y1 y2, LeO (laws_eqSlabS.l0 k y0 y1 y2) (laws_eqSlabS.l0 (k + 1) y0 y1 y2))
  | 0 => fun _ _ _ r h => by simp [laws_eqSlabS.l0] at h
  | k + 1 => by
    have ih0 := laws_eqSlabS.mono_l k
    · intro y0 y1 y2
      unfold laws_eqSlabS.l0
      repeat' first
      | (with_reducible exact ih0 _ _ _)
      | (with_reducible exact LeO.refl _)
      | (with_reducible exact LeO.none _)
      | (with_reducible refine LeO.ite ?_ ?_)
      | (with_reducible refine LeO.bind ?_ (fun _ => ?_))
      | exact ih0 _ _ _
      | exact LeO.none _
      | refine LeO.ite ?_ ?_
      | refine LeO.bind ?_ (fun _ => ?_)
theorem laws_eqSlabS.mono : ∀ a0 a1 k, LeO (laws_eqSlabS.f k a0 a1) (laws_eqSlabS.f (k + 1) a0 a1) := by
  intro a0 a1 k
  have ih0 := laws_eqSlabS.mono_l k
  unfold laws_eqSlabS.f
  repeat' first
      | (with_reducible exact ih0 _ _ _)
      | (with_reducible exact LeO.refl _)
      | (with_reducible exact LeO.none _)
      | (with_reducible refine LeO.ite ?_ ?_)
      | (with_reducible refine LeO.bind ?_ (fun _ => ?_))
      | exact ih0 _ _ _
      | exact LeO.none _
      | refine LeO.ite ?_ ?_
      | refine LeO.bind ?_ (fun _ => ?_)
def laws_eqSlabS.T6 : Bool × List (List Nat × List Nat) := (true, [([], []), ([], []), ([0, 1], [0, 1]), ([2], [2]), ([], []), ([], []), ([4, 5], [4, 5]), ([6], [6]), ([3, 7], [3, 7]), ([8], [8])])
def laws_eqSlabS.B6 : List Nat := [0, 0, 3, 7, 0, 0, 48, 112, 255, 511]
theorem laws_eqSlabS.tab6 : rtab .any (opsOf Tryd.f7 6) = laws_eqSlabS.T6 := by kernel_rfl
theorem laws_eqSlabS.bits6 : waitsOk laws_eqSlabS.T6.2 laws_eqSlabS.B6 = true := by kernel_rfl
set_option maxHeartbeats 8000000 in
set_option maxRecDepth 100000 in
theorem laws_eqSlabS.calls (k : Nat) (A0 : Option Addr) (c0 : Nat) (l0 : List (S42)) (A1 : Option Addr) (c1 : Nat) (l1 : List (S42)) (r : Bool) (w : World) (hr0 : Kd.C k42 w A0 l0.length l0) (hc0 : l0.length ≤ c0) (hr1 : Kd.C k42 w A1 l1.length l1) (hc1 : l1.length ≤ c1) (h : laws_eqSlabS.f k l0 l1 = some r) :
    Calls Tryd.prog 7 #[.slice A0 l0.length c0, .slice A1 l1.length c1] w fun e w' => e = .returned (.bool r) ∧ Below w.heap.size w w' := by
  have hu42 := Tryd.underlying42
  have HR0 := Aside0.mk hr0
  have HC0 := Aside0.mk hc0
  clear hr0 hc0
  have HR1 := Aside0.mk hr1
  have HC1 := Aside0.mk hc1
  clear hr1 hc1
  have HB := Aside0.mk (Below.refl w.heap.size w)
  have H : (if (l0.length : Int) = (l1.length : Int) then (laws_eqSlabS.l0 k l0 l1 0) else (some false)) = some r := h
  clear h
  by_cases c3 : (l0.length : Int) = (l1.length : Int)
  · rw [if_pos c3] at H
    have c3b0 : ((l0.length : Int) == (l1.length : Int)) = true := beq_iff_eq.mpr c3
    have c3b1 : ((l0.length : Int) != (l1.length : Int)) = false := bne_eq_false_iff_eq.mpr c3
    have c3b2 : (l0.length == l1.length) = true := by first | simpa using c3 | (simp at c3 ⊢; omega)
    clear c3
    have H' := Aside0.mk H
    clear H
    go_enter Tryd.func7, Tryd.ntmps7
    go_wp2
    go_loopg [5] k (fun kq v5 w' => ∃ (x5_1 : Int), v5 = .int .i64 x5_1 ∧ Aside0 (laws_eqSlabS.l0 kq l0 l1 x5_1 = some r) ∧ Aside0 (kq ≤ k) ∧ Aside0 (Below w.heap.size w w'))
    case atStart => exact ⟨(0), (by first | rfl | (simp; done) | (simp [*]; done)), H', ⟨Nat.le_refl _⟩, ⟨by repeat (first | (with_reducible first | exact HB.out | apply below_alloc | apply pw_below_drewN | apply below_drew1) | exact HB.out)⟩⟩
    case round =>
      clear H'
      try clear c1
      try clear p2
      try clear c3
      try clear c3b0
      try clear c3b1
      try clear c3b2
      obtain ⟨x5_1, rfl, HA, HK1, HB⟩ := hrel
      cases gk with
      | zero => exact absurd HA.out (by simp [laws_eqSlabS.l0])
      | succ k1 =>
        have H := HA.out
        clear HA
        simp only [laws_eqSlabS.l0] at H
        by_cases c4 : x5_1 < (l0.length : Int)
        · rw [if_pos c4] at H
          have c4b0 : decide (x5_1 < (l0.length : Int)) = true := decide_eq_true c4
          clear c4
          by_cases c5 : 0 ≤ x5_1
          · rw [if_pos c5] at H
            have c5b0 : decide (0 ≤ x5_1) = true := decide_eq_true c5
            clear c5
            by_cases c6 : x5_1 < (l1.length : Int)
            · rw [if_pos c6] at H
              have c6b0 : decide (x5_1 < (l1.length : Int)) = true := decide_eq_true c6
              clear c6
              replace H := Option.bind_eq_some_iff.mp H
              obtain ⟨t147, A70, H⟩ := H
              replace H : (if t147 = true then (laws_eqSlabS.l0 k1 l0 l1 (wrap64 (x5_1 + 1))) else (some false)) = some r := H
              have A7 := Aside0.mk A70
              clear A70
              by_cases c8 : t147 = true
              · subst c8
                have H1 : (laws_eqSlabS.l0 k1 l0 l1 (wrap64 (x5_1 + 1))) = some r := by rw [if_pos rfl] at H; exact H
                clear H
                have H := H1
                clear H1
                have H' := Aside0.mk H
                clear H
                try go_wp2
                have n0_ := Aside0.mk (below_drew1 HB.out)
                clear HB
                have HB := n0_
                clear n0_
                have p145 : 0 ≤ (x5_1 : Int) := of_decide_eq_true (by first | (with_reducible assumption) | assumption)
                have q145 : x5_1 < (l0.length : Int) := of_decide_eq_true (by first | (with_reducible assumption) | assumption)
                obtain ⟨ad145, e145, hx145_0, hx145_1⟩ := at_T42 HR0.out x5_1 p145 q145
                have hw145_1 := hx145_1
                have hw145_0 := hx145_0
                cases e145
                replace hx145_0 := (HB.out.cell (World.block_lt_of_cell? w _ hx145_0)).trans hx145_0
                replace hx145_1 := (HB.out.cell (World.block_lt_of_cell? w _ hx145_1)).trans hx145_1
                replace p145 := eq_true p145
                replace q145 := eq_true q145
                have p146 : 0 ≤ (x5_1 : Int) := of_decide_eq_true (by first | (with_reducible assumption) | assumption)
                have q146 : x5_1 < (l1.length : Int) := of_decide_eq_true (by first | (with_reducible assumption) | assumption)
                obtain ⟨ad146, e146, hx146_0, hx146_1⟩ := at_T42 HR1.out x5_1 p146 q146
                have hw146_1 := hx146_1
                have hw146_0 := hx146_0
                cases e146
                replace hx146_0 := (HB.out.cell (World.block_lt_of_cell? w _ hx146_0)).trans hx146_0
                replace hx146_1 := (HB.out.cell (World.block_lt_of_cell? w _ hx146_1)).trans hx146_1
                replace p146 := eq_true p146
                replace q146 := eq_true q146
                refine start_ (n := 10) (S := fun w' => w'.cell? (ad145.add ((x5_1).toNat * 2)) = some (.int .i64 ((rd_T42 l0 x5_1).f0)) ∧ w'.cell? ⟨(ad145.add ((x5_1).toNat * 2)).block, (ad145.add ((x5_1).toNat * 2)).off + 1, none⟩ = some (.int .i64 ((rd_T42 l0 x5_1).f1)) ∧ w'.cell? (ad146.add ((x5_1).toNat * 2)) = some (.int .i64 ((rd_T42 l1 x5_1).f0)) ∧ w'.cell? ⟨(ad146.add ((x5_1).toNat * 2)).block, (ad146.add ((x5_1).toNat * 2)).off + 1, none⟩ = some (.int .i64 ((rd_T42 l1 x5_1).f1))) (ds := []) #[false, false, false, false, false, false, false, false, false, false] (by kernel_rfl) rfl rfl ⟨((HB.out.cell (World.block_lt_of_cell? w _ hw145_0)).trans hw145_0), ((HB.out.cell (World.block_lt_of_cell? w _ hw145_1)).trans hw145_1), ((HB.out.cell (World.block_lt_of_cell? w _ hw146_0)).trans hw146_0), ((HB.out.cell (World.block_lt_of_cell? w _ hw146_1)).trans hw146_1)⟩ (fun hHeld => ?_); refine with_tabW laws_eqSlabS.tab6 laws_eqSlabS.bits6 (fun HT_ HW_ => ?_)
                generalize wr.drew = w9 at HB hx145_0 hx145_1 hx146_0 hx146_1 hHeld ⊢
                refine pure_ (i := 0) (N := some 17) (v := ?_) (a' := ?_) #[true, false, false, false, false, false, false, false, false, false] rfl rfl (any_of HT_.out (by kernel_rfl)) (fun _ _ _ h => h) (Or.inl ⟨by rfl, ?_⟩) ?_ ?_
                rotate_left
                · intro w'
                  go_simp
                  with_reducible rfl
                rotate_left
                · simp only [Act.put, List.setIfInBounds_toArray, List.set_cons_zero, List.set_cons_succ, i64_w, i32_w]
                  rfl
                refine pure_ (i := 1) (N := some 18) (v := ?_) (a' := ?_) #[true, true, false, false, false, false, false, false, false, false] rfl rfl (any_of HT_.out (by kernel_rfl)) (fun _ _ _ h => h) (Or.inl ⟨by rfl, ?_⟩) ?_ ?_
                rotate_left
                · intro w'
                  go_simp
                  with_reducible rfl
                rotate_left
                · simp only [Act.put, List.setIfInBounds_toArray, List.set_cons_zero, List.set_cons_succ, i64_w, i32_w]
                  rfl
                refine pure_ (i := 2) (N := some 19) (v := ?_) (a' := ?_) #[true, true, true, false, false, false, false, false, false, false] rfl rfl (any_of HT_.out (by kernel_rfl)) (fun _ _ _ h => h) (Or.inl ⟨by rfl, ?_⟩) ?_ ?_
                rotate_left
                · intro w'
                  go_simp
                  with_reducible rfl
                rotate_left
                · simp only [Act.put, List.setIfInBounds_toArray, List.set_cons_zero, List.set_cons_succ, i64_w, i32_w]
                  rfl
                refine pure_ (i := 4) (N := some 21) (v := ?_) (a' := ?_) #[true, true, true, false, true, false, false, false, false, false] rfl rfl (any_of HT_.out (by kernel_rfl)) (fun _ _ _ h => h) (Or.inl ⟨by rfl, ?_⟩) ?_ ?_
                rotate_left
                · intro w'
                  go_simp
                  with_reducible rfl
                rotate_left
                · simp only [Act.put, List.setIfInBounds_toArray, List.set_cons_zero, List.set_cons_succ, i64_w, i32_w]
                  rfl
                refine pure_ (i := 5) (N := some 22) (v := ?_) (a' := ?_) #[true, true, true, false, true, true, false, false, false, false] rfl rfl (any_of HT_.out (by kernel_rfl)) (fun _ _ _ h => h) (Or.inl ⟨by rfl, ?_⟩) ?_ ?_
                rotate_left
                · intro w'
                  go_simp
                  with_reducible rfl
                rotate_left
                · simp only [Act.put, List.setIfInBounds_toArray, List.set_cons_zero, List.set_cons_succ, i64_w, i32_w]
                  rfl
                refine pure_ (i := 6) (N := some 23) (v := ?_) (a' := ?_) #[true, true, true, false, true, true, true, false, false, false] rfl rfl (any_of HT_.out (by kernel_rfl)) (fun _ _ _ h => h) (Or.inl ⟨by rfl, ?_⟩) ?_ ?_
                rotate_left
                · intro w'
                  go_simp
                  with_reducible rfl
                rotate_left
                · simp only [Act.put, List.setIfInBounds_toArray, List.set_cons_zero, List.set_cons_succ, i64_w, i32_w]
                  rfl
                refine take_ (i := 3) (N := some 20) (v := ?_) (a' := ?_) #[true, true, true, true, true, true, true, false, false, false] rfl rfl (take_ofW HT_.out HW_.out (by kernel_rfl)) (fun _ _ _ h => h) (Or.inl ⟨by rfl, ?_⟩) hHeld ?_ ?_
                rotate_left
                · rintro w' ⟨s0, s1, s2, s3⟩
                  go_simp
                  with_reducible rfl
                rotate_left
                · simp only [Act.put, List.setIfInBounds_toArray, List.set_cons_zero, List.set_cons_succ, i64_w, i32_w]
                  rfl
                refine take_ (i := 7) (N := some 24) (v := ?_) (a' := ?_) #[true, true, true, true, true, true, true, true, false, false] rfl rfl (take_ofW HT_.out HW_.out (by kernel_rfl)) (fun _ _ _ h => h) (Or.inl ⟨by rfl, ?_⟩) hHeld ?_ ?_
                rotate_left
                · rintro w' ⟨s0, s1, s2, s3⟩
                  go_simp
                  with_reducible rfl
                rotate_left
                · simp only [Act.put, List.setIfInBounds_toArray, List.set_cons_zero, List.set_cons_succ, i64_w, i32_w]
                  rfl
                refine one_ (i := 8) (N := some 25) #[true, true, true, true, true, true, true, true, true, false] rfl rfl (one_of HT_.out (by kernel_rfl)) (by decide) (fun K hK => ?_)
                refine goes_ Tryd.func20 (by kernel_rfl) rfl #[.agg #[.int .i64 ((rd_T42 l0 x5_1).f0), .int .i64 ((rd_T42 l0 x5_1).f1)], .agg #[.int .i64 ((rd_T42 l1 x5_1).f0), .int .i64 ((rd_T42 l1 x5_1).f1)]] (by rfl) rfl rfl (by (try simp only [List.map_toArray, List.map_cons, List.map_nil]); first | done | rfl | (simp only [List.length_drop, List.length_take]; rfl)) ?_
                with_reducible refine (laws_eqSlab.calls ((rd_T42 l0 x5_1).f0) ((rd_T42 l0 x5_1).f1) ((rd_T42 l1 x5_1).f0) ((rd_T42 l1 x5_1).f1) true _ A7.out).mono ?_
                rintro e w10 ⟨rfl, hb⟩
                refine ⟨_, rfl, ?_⟩
                have n0_ := Aside0.mk (below_step (by repeat (first | (with_reducible first | exact HB.out | apply below_alloc | apply pw_below_drewN | apply below_drew1) | exact HB.out)) hb)
                clear HB
                have HB := n0_
                clear n0_
                (try clear hb)
                (try clear hb2)
                (try clear hk)
                (try clear hi)
                refine hK.out _ _ ⟨((HB.out.cell (World.block_lt_of_cell? w _ hw145_0)).trans hw145_0), ((HB.out.cell (World.block_lt_of_cell? w _ hw145_1)).trans hw145_1), ((HB.out.cell (World.block_lt_of_cell? w _ hw146_0)).trans hw146_0), ((HB.out.cell (World.block_lt_of_cell? w _ hw146_1)).trans hw146_1)⟩ (fun hHeld => ?_)
                clear hK K
                refine norm_ (a' := ?_) ?_ ?_
                rotate_left
                · show Act.put _ (some 25) _ = _
                  simp only [Act.put, List.setIfInBounds_toArray, List.set_cons_zero, List.set_cons_succ, i64_w, i32_w]
                  rfl
                refine pure_ (i := 9) (N := some 26) (v := ?_) (a' := ?_) #[true, true, true, true, true, true, true, true, true, true] rfl rfl (any_of HT_.out (by kernel_rfl)) (fun _ _ _ h => h) (Or.inl ⟨by rfl, ?_⟩) ?_ ?_
                rotate_left
                · intro w'
                  go_simp
                  with_reducible rfl
                rotate_left
                · simp only [Act.put, List.setIfInBounds_toArray, List.set_cons_zero, List.set_cons_succ, i64_w, i32_w]
                  rfl
                refine done_ (done_of HT_.out (by kernel_rfl)) ?_
                try go_wp2
                go_roundg k1
                case measure => have := HK1.out; omega
                case rel => exact ⟨(wrap64 (x5_1 + 1)), (by first | rfl | (simp; done) | (simp [*]; done)), H', ⟨by have := HK1.out; omega⟩, ⟨by repeat (first | (with_reducible first | exact HB.out | apply below_alloc | apply pw_below_drewN | apply below_drew1) | exact HB.out)⟩⟩
              · replace c8 := Bool.eq_false_iff.mpr c8
                subst c8
                have H1 : (some false) = some r := by rw [if_neg (show ¬ (false = true) by decide)] at H; exact H
                clear H
                have H := H1
                clear H1
                obtain rfl := Option.some.inj H
                try go_wp2
                have n0_ := Aside0.mk (below_drew1 HB.out)
                clear HB
                have HB := n0_
                clear n0_
                have p145 : 0 ≤ (x5_1 : Int) := of_decide_eq_true (by first | (with_reducible assumption) | assumption)
                have q145 : x5_1 < (l0.length : Int) := of_decide_eq_true (by first | (with_reducible assumption) | assumption)
                obtain ⟨ad145, e145, hx145_0, hx145_1⟩ := at_T42 HR0.out x5_1 p145 q145
                have hw145_1 := hx145_1
                have hw145_0 := hx145_0
                cases e145
                replace hx145_0 := (HB.out.cell (World.block_lt_of_cell? w _ hx145_0)).trans hx145_0
                replace hx145_1 := (HB.out.cell (World.block_lt_of_cell? w _ hx145_1)).trans hx145_1
                replace p145 := eq_true p145
                replace q145 := eq_true q145
                have p146 : 0 ≤ (x5_1 : Int) := of_decide_eq_true (by first | (with_reducible assumption) | assumption)
                have q146 : x5_1 < (l1.length : Int) := of_decide_eq_true (by first | (with_reducible assumption) | assumption)
                obtain ⟨ad146, e146, hx146_0, hx146_1⟩ := at_T42 HR1.out x5_1 p146 q146
                have hw146_1 := hx146_1
                have hw146_0 := hx146_0
                cases e146
                replace hx146_0 := (HB.out.cell (World.block_lt_of_cell? w _ hx146_0)).trans hx146_0
                replace hx146_1 := (HB.out.cell (World.block_lt_of_cell? w _ hx146_1)).trans hx146_1
                replace p146 := eq_true p146
                replace q146 := eq_true q146
                refine start_ (n := 10) (S := fun w' => w'.cell? (ad145.add ((x5_1).toNat * 2)) = some (.int .i64 ((rd_T42 l0 x5_1).f0)) ∧ w'.cell? ⟨(ad145.add ((x5_1).toNat * 2)).block, (ad145.add ((x5_1).toNat * 2)).off + 1, none⟩ = some (.int .i64 ((rd_T42 l0 x5_1).f1)) ∧ w'.cell? (ad146.add ((x5_1).toNat * 2)) = some (.int .i64 ((rd_T42 l1 x5_1).f0)) ∧ w'.cell? ⟨(ad146.add ((x5_1).toNat * 2)).block, (ad146.add ((x5_1).toNat * 2)).off + 1, none⟩ = some (.int .i64 ((rd_T42 l1 x5_1).f1))) (ds := []) #[false, false, false, false, false, false, false, false, false, false] (by kernel_rfl) rfl rfl ⟨((HB.out.cell (World.block_lt_of_cell? w _ hw145_0)).trans hw145_0), ((HB.out.cell (World.block_lt_of_cell? w _ hw145_1)).trans hw145_1), ((HB.out.cell (World.block_lt_of_cell? w _ hw146_0)).trans hw146_0), ((HB.out.cell (World.block_lt_of_cell? w _ hw146_1)).trans hw146_1)⟩ (fun hHeld => ?_); refine with_tabW laws_eqSlabS.tab6 laws_eqSlabS.bits6 (fun HT_ HW_ => ?_)
                generalize wr.drew = w11 at HB hx145_0 hx145_1 hx146_0 hx146_1 hHeld ⊢
                refine pure_ (i := 0) (N := some 17) (v := ?_) (a' := ?_) #[true, false, false, false, false, false, false, false, false, false] rfl rfl (any_of HT_.out (by kernel_rfl)) (fun _ _ _ h => h) (Or.inl ⟨by rfl, ?_⟩) ?_ ?_
                rotate_left
                · intro w'
                  go_simp
                  with_reducible rfl
                rotate_left
                · simp only [Act.put, List.setIfInBounds_toArray, List.set_cons_zero, List.set_cons_succ, i64_w, i32_w]
                  rfl
                refine pure_ (i := 1) (N := some 18) (v := ?_) (a' := ?_) #[true, true, false, false, false, false, false, false, false, false] rfl rfl (any_of HT_.out (by kernel_rfl)) (fun _ _ _ h => h) (Or.inl ⟨by rfl, ?_⟩) ?_ ?_
                rotate_left
                · intro w'
                  go_simp
                  with_reducible rfl
                rotate_left
                · simp only [Act.put, List.setIfInBounds_toArray, List.set_cons_zero, List.set_cons_succ, i64_w, i32_w]
                  rfl
                refine pure_ (i := 2) (N := some 19) (v := ?_) (a' := ?_) #[true, true, true, false, false, false, false, false, false, false] rfl rfl (any_of HT_.out (by kernel_rfl)) (fun _ _ _ h => h) (Or.inl ⟨by rfl, ?_⟩) ?_ ?_
                rotate_left
                · intro w'
                  go_simp
                  with_reducible rfl
                rotate_left
                · simp only [Act.put, List.setIfInBounds_toArray, List.set_cons_zero, List.set_cons_succ, i64_w, i32_w]
                  rfl
                refine pure_ (i := 4) (N := some 21) (v := ?_) (a' := ?_) #[true, true, true, false, true, false, false, false, false, false] rfl rfl (any_of HT_.out (by kernel_rfl)) (fun _ _ _ h => h) (Or.inl ⟨by rfl, ?_⟩) ?_ ?_
                rotate_left
                · intro w'
                  go_simp
                  with_reducible rfl
                rotate_left
                · simp only [Act.put, List.setIfInBounds_toArray, List.set_cons_zero, List.set_cons_succ, i64_w, i32_w]
                  rfl
                refine pure_ (i := 5) (N := some 22) (v := ?_) (a' := ?_) #[true, true, true, false, true, true, false, false, false, false] rfl rfl (any_of HT_.out (by kernel_rfl)) (fun _ _ _ h => h) (Or.inl ⟨by rfl, ?_⟩) ?_ ?_
                rotate_left
                · intro w'
                  go_simp
                  with_reducible rfl
                rotate_left
                · simp only [Act.put, List.setIfInBounds_toArray, List.set_cons_zero, List.set_cons_succ, i64_w, i32_w]
                  rfl
                refine pure_ (i := 6) (N := some 23) (v := ?_) (a' := ?_) #[true, true, true, false, true, true, true, false, false, false] rfl rfl (any_of HT_.out (by kernel_rfl)) (fun _ _ _ h => h) (Or.inl ⟨by rfl, ?_⟩) ?_ ?_
                rotate_left
                · intro w'
                  go_simp
                  with_reducible rfl
                rotate_left
                · simp only [Act.put, List.setIfInBounds_toArray, List.set_cons_zero, List.set_cons_succ, i64_w, i32_w]
                  rfl
                refine take_ (i := 3) (N := some 20) (v := ?_) (a' := ?_) #[true, true, true, true, true, true, true, false, false, false] rfl rfl (take_ofW HT_.out HW_.out (by kernel_rfl)) (fun _ _ _ h => h) (Or.inl ⟨by rfl, ?_⟩) hHeld ?_ ?_
                rotate_left
                · rintro w' ⟨s0, s1, s2, s3⟩
                  go_simp
                  with_reducible rfl
                rotate_left
                · simp only [Act.put, List.setIfInBounds_toArray, List.set_cons_zero, List.set_cons_succ, i64_w, i32_w]
                  rfl
                refine take_ (i := 7) (N := some 24) (v := ?_) (a' := ?_) #[true, true, true, true, true, true, true, true, false, false] rfl rfl (take_ofW HT_.out HW_.out (by kernel_rfl)) (fun _ _ _ h => h) (Or.inl ⟨by rfl, ?_⟩) hHeld ?_ ?_
                rotate_left
                · rintro w' ⟨s0, s1, s2, s3⟩
                  go_simp
                  with_reducible rfl
                rotate_left
                · simp only [Act.put, List.setIfInBounds_toArray, List.set_cons_zero, List.set_cons_succ, i64_w, i32_w]
                  rfl
                refine one_ (i := 8) (N := some 25) #[true, true, true, true, true, true, true, true, true, false] rfl rfl (one_of HT_.out (by kernel_rfl)) (by decide) (fun K hK => ?_)
                refine goes_ Tryd.func20 (by kernel_rfl) rfl #[.agg #[.int .i64 ((rd_T42 l0 x5_1).f0), .int .i64 ((rd_T42 l0 x5_1).f1)], .agg #[.int .i64 ((rd_T42 l1 x5_1).f0), .int .i64 ((rd_T42 l1 x5_1).f1)]] (by rfl) rfl rfl (by (try simp only [List.map_toArray, List.map_cons, List.map_nil]); first | done | rfl | (simp only [List.length_drop, List.length_take]; rfl)) ?_
                with_reducible refine (laws_eqSlab.calls ((rd_T42 l0 x5_1).f0) ((rd_T42 l0 x5_1).f1) ((rd_T42 l1 x5_1).f0) ((rd_T42 l1 x5_1).f1) false _ A7.out).mono ?_
                rintro e w12 ⟨rfl, hb⟩
                refine ⟨_, rfl, ?_⟩
                have n0_ := Aside0.mk (below_step (by repeat (first | (with_reducible first | exact HB.out | apply below_alloc | apply pw_below_drewN | apply below_drew1) | exact HB.out)) hb)
                clear HB
                have HB := n0_
                clear n0_
                (try clear hb)
                (try clear hb2)
                (try clear hk)
                (try clear hi)
                refine hK.out _ _ ⟨((HB.out.cell (World.block_lt_of_cell? w _ hw145_0)).trans hw145_0), ((HB.out.cell (World.block_lt_of_cell? w _ hw145_1)).trans hw145_1), ((HB.out.cell (World.block_lt_of_cell? w _ hw146_0)).trans hw146_0), ((HB.out.cell (World.block_lt_of_cell? w _ hw146_1)).trans hw146_1)⟩ (fun hHeld => ?_)
                clear hK K
                refine norm_ (a' := ?_) ?_ ?_
                rotate_left
                · show Act.put _ (some 25) _ = _
                  simp only [Act.put, List.setIfInBounds_toArray, List.set_cons_zero, List.set_cons_succ, i64_w, i32_w]
                  rfl
                refine pure_ (i := 9) (N := some 26) (v := ?_) (a' := ?_) #[true, true, true, true, true, true, true, true, true, true] rfl rfl (any_of HT_.out (by kernel_rfl)) (fun _ _ _ h => h) (Or.inl ⟨by rfl, ?_⟩) ?_ ?_
                rotate_left
                · intro w'
                  go_simp
                  with_reducible rfl
                rotate_left
                · simp only [Act.put, List.setIfInBounds_toArray, List.set_cons_zero, List.set_cons_succ, i64_w, i32_w]
                  rfl
                refine done_ (done_of HT_.out (by kernel_rfl)) ?_
                try go_wp2
                go_ret
                exact ⟨by first | rfl | (simp [errW_none, errW_some] <;> rfl) | (simp [*, errW_none, errW_some] <;> rfl), by repeat (first | (with_reducible first | exact HB.out | apply below_alloc | apply pw_below_drewN | apply below_drew1) | exact HB.out)⟩
            · rw [if_neg c6] at H
              exact absurd H (by simp)
          · rw [if_neg c5] at H
            exact absurd H (by simp)
        · rw [if_neg c4] at H
          have c4b0 : decide (x5_1 < (l0.length : Int)) = false := decide_eq_false c4
          clear c4
          obtain rfl := Option.some.inj H
          go_wp2
          go_ret
          exact ⟨by first | rfl | (simp [errW_none, errW_some] <;> rfl) | (simp [*, errW_none, errW_some] <;> rfl), by repeat (first | (with_reducible first | exact HB.out | apply below_alloc | apply pw_below_drewN | apply below_drew1) | exact HB.out)⟩
  · rw [if_neg c3] at H
    have c3b0 : ((l0.length : Int) == (l1.length : Int)) = false := beq_eq_false_iff_ne.mpr c3
    have c3b1 : ((l0.length : Int) != (l1.length : Int)) = true := bne_iff_ne.mpr c3
    have c3b2 : (l0.length == l1.length) = false := by first | simpa using c3 | (simp at c3 ⊢; omega)
    obtain rfl := Option.some.inj H
    go_enter Tryd.func7, Tryd.ntmps7
    go_wp2
    go_ret
    exact ⟨by first | rfl | (simp [errW_none, errW_some] <;> rfl) | (simp [*, errW_none, errW_some] <;> rfl), by repeat (first | (with_reducible first | exact HB.out | apply below_alloc | apply pw_below_drewN | apply below_drew1) | exact HB.out)⟩

end Go.Proofs.YtejnbnppiipdlaaDoor.PFnExactParseSlabs
