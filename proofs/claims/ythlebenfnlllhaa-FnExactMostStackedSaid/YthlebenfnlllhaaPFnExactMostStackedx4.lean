-- Made by a program of this session (wip/xprint.py) out of the translation.
import Derived.Test.YthlebenfnlllhaaPFnExactMostStackedx0
import Derived.Test.YthlebenfnlllhaaPFnExactMostStackedx3
namespace Go.Proofs.Ythlebenfnlllhaa.PFnExactMostStacked
open Go.RowKit Go.Proofs.YthlebenfnlllhaaW.PrintWords Go.Proofs.YthlebenfnlllhaaW.PrintLast Go.Proofs.YthlebenfnlllhaaW.PrintMore
attribute [local go_sem] max2_int min2_int max_two min_two max_three min_three max_four min_four   -- for this text's walks alone
set_option linter.unusedVariables false
set_option linter.unusedSimpArgs false

/-! ### impl_isStack: function 106 -/
section
attribute [local go_sem] Oper.semAt_some
/-- What has come when k rounds are over: their numbers. -/
def impl_isStack.upto (n k : Nat) : List (Fin n) := (List.finRange n).take k
theorem impl_isStack.upto_succ {n k : Nat} (h : k < n) : impl_isStack.upto n (k + 1) = impl_isStack.upto n k ++ [⟨k, h⟩] := by
  unfold impl_isStack.upto
  have hl : k < (List.finRange n).length := by simpa using h
  rw [← List.take_append_getElem hl]
  simp
theorem impl_isStack.upto_length {n k : Nat} (h : k ≤ n) : (impl_isStack.upto n k).length = k := by simp [impl_isStack.upto]; omega
theorem impl_isStack.upto_snoc {n : Nat} {pre : List (Fin n)} {x : Fin n} (h : pre ++ [x] = impl_isStack.upto n (pre ++ [x]).length) : pre = impl_isStack.upto n pre.length ∧ x.val = pre.length := by
  have hl : (pre ++ [x]).length ≤ n := by
    have := congrArg List.length h
    unfold impl_isStack.upto at this
    rw [List.length_take, List.length_finRange] at this
    omega
  rw [List.length_append, List.length_singleton] at h hl
  rw [impl_isStack.upto_succ (by omega)] at h
  obtain ⟨h1, h2⟩ := List.append_inj' h rfl
  exact ⟨h1, by have := List.cons.inj h2; rw [this.1]⟩
/-- What a round keeps: all below n, and one block more. -/
def impl_isStack.Kp (n Bs : Nat) (W W' : World) : Prop := ∀ k, (k < n ∨ k = Bs) → W'.heap[k]? = W.heap[k]?
theorem impl_isStack.Kp.cell {n Bs : Nat} {W W' : World} (h : impl_isStack.Kp n Bs W W') {a : Addr} (ha : a.block < n ∨ a.block = Bs) : W'.cell? a = W.cell? a := by
  have h2 := h _ ha
  unfold World.cell?
  rw [h2]
/-- The pair of round k. -/
def impl_isStack.pr (zs : List Int) (k : Nat) : Int × Int := (((zs.length : Int) - 1 - k), zs.getD (zs.length - 1 - k) 0)
abbrev impl_isStack.encs (zs : List Int) (x : Fin zs.length) : Array Value := #[.int .i64 (impl_isStack.pr zs x.val).1, .int .i64 (impl_isStack.pr zs x.val).2]
set_option maxRecDepth 100000 in
set_option maxHeartbeats 4000000 in
theorem impl_isStack.bw1_in (F : Fence) (n : Nat) (h7 : F.fn 130) (hro : F.round = none) (hn : 1 ≤ n) (l Bs n₀ : Nat) (A : Option Addr) (cap : Nat) (zs : List Int) (hreach : (zs.length : Int) ≤ 9223372036854775807) (J Jx : List (Fin zs.length) → World → Prop)
    (hY : ∀ pre x W, J pre W → pre.length < zs.length → YieldAt F (n - 1) Try.prog l (impl_isStack.encs zs x) W fun e W' =>
      (e = .returned (.bool true) ∧ J (pre ++ [x]) W' ∧ impl_isStack.Kp n₀ Bs W W') ∨ (e = .returned (.bool false) ∧ Jx (pre ++ [x]) W'))
    (W : World) (hBs : W.cell? ⟨Bs, 0, none⟩ = some (.slice A zs.length cap)) (hc : ∀ W', impl_isStack.Kp n₀ Bs W W' → Kd.C (Kd.int .i64) W' A zs.length zs) (h0 : J [] W) :
    CallsIn F n Try.prog 130 #[.func (.yield l) #[] #[], .pointer (some ⟨Bs, 0, none⟩)] W fun e W' => (∃ v, e = .returned v) ∧
      ((∃ ys, ys = impl_isStack.upto zs.length zs.length ∧ J ys W') ∨ (∃ pre, (∃ k, k ≤ zs.length ∧ pre = impl_isStack.upto zs.length k) ∧ Jx pre W')) := by
  refine callsIn_of_wp Try.func130 rfl h7 ?_ hro
  simp only [Try.ntmps130, List.size_toArray, List.length_cons, List.length_nil, Nat.reduceAdd, Nat.reduceSub, Array.replicate_succ, Array.replicate_zero, List.push_toArray, List.append_toArray, List.nil_append, List.cons_append]
  have HC := Aside0.mk hc
  clear hc
  gi_wp2
  gi_loopw [3] (fun i wr => ∃ k : Nat, k ≤ zs.length ∧ i = .int .i64 ((zs.length : Int) - 1 - k) ∧ J (impl_isStack.upto zs.length k) wr ∧ impl_isStack.Kp n₀ Bs W wr)
    (fun i _ => (intOf i + 1).toNat)
  case atStart => exact ⟨0, Nat.zero_le _, by go_num, h0, fun _ _ => rfl⟩
  case round =>
    obtain ⟨k, hk, rfl, hJs, hnx⟩ := hrel
    have hBs' := (hnx.cell (a := ⟨Bs, 0, none⟩) (.inr rfl)).trans hBs
    by_cases hlt : k < zs.length
    · obtain ⟨fn, tmps, assign, body, hy, hR⟩ := hY _ ⟨k, hlt⟩ wr hJs (by rw [impl_isStack.upto_length hk]; exact hlt)
      have q1 : ((zs.length : Int) - 1 - k) < (zs.length : Int) := by omega
      have q0 : (0 : Int) ≤ (zs.length : Int) - 1 - k := by omega
      have q2 : (k : Int) ≤ (zs.length : Int) - 1 := by omega
      have hCw := HC.out wr hnx
      obtain ⟨ad, e_, hcx⟩ := ReadsOf.at_ (Kd.reads_of_C (d := (0 : Int)) hCw) ((zs.length : Int) - 1 - k) q0 q1
      cases e_
      have hrd : rdOf 0 zs ((zs.length : Int) - 1 - k) = zs.getD (zs.length - 1 - k) 0 := by
        unfold rdOf; congr 1; omega
      rw [hrd, (by omega : ((zs.length : Int) - 1 - k).toNat = zs.length - 1 - k)] at hcx
      dsimp only [impl_isStack.pr, impl_isStack.encs] at hy
      clear hrd hCw
      generalize zs.getD (zs.length - 1 - k) 0 = x at hcx hy
      gi_wp2
      refine hR.mono ?_
      rintro e W3 (⟨rfl, hJ3, hk3⟩ | ⟨rfl, hJx3⟩)
      · gi_wp2
        go_roundw
        case rel => exact ⟨k + 1, by omega, by go_num, by rw [impl_isStack.upto_succ hlt]; exact hJ3, fun q hq => (hk3 q hq).trans (hnx q hq)⟩
        case measure => simp [intOf]; omega
      · gi_wp2
        refine bodyPost_ret (results_none rfl _ _ _) rfl ?_
        exact ⟨⟨_, rfl⟩, .inr ⟨_, ⟨k + 1, by omega, (impl_isStack.upto_succ hlt).symm⟩, hJx3⟩⟩
    · obtain rfl : k = zs.length := by omega
      gi_wp2
      go_end0
      exact ⟨⟨_, rfl⟩, .inl ⟨_, rfl, hJs⟩⟩
set_option maxHeartbeats 1000000 in
theorem impl_isStack.backward_in (F : Fence) (n : Nat) (h5 : F.fn 116) (hro : F.round = none) (a : Option Addr) (len cap : Nat) (w : World) :
    CallsIn F n Try.prog 116 #[.slice a len cap] w fun e w' => e = .returned (.func (.func 130) #[] #[.pointer (some ⟨w.heap.size, 0, none⟩)]) ∧ w' = w.alloc (.cells #[.slice a len cap] 48) := by
  refine callsIn_of_wp Try.func116 rfl h5 ?_ hro
  simp only [Try.ntmps116, List.size_toArray, List.length_cons, List.length_nil, Nat.reduceAdd, Nat.reduceSub, Array.replicate_succ, Array.replicate_zero, List.push_toArray, List.append_toArray, List.nil_append, List.cons_append]
  gi_wp2
  go_ret
  exact ⟨rfl, rfl⟩
theorem impl_isStack.stops (F : Fence) (n : Nat) (h7 : F.fn 130) (hro : F.round = none) (hn : 1 ≤ n) (Bs n₀ : Nat) (A : Option Addr) (cap : Nat) (zs : List Int) (hreach : (zs.length : Int) ≤ 9223372036854775807) (w : World) (hBs : Bs < w.heap.size) (hn₀ : n₀ ≤ w.heap.size)
    (hc : w.cell? ⟨Bs, 0, none⟩ = some (.slice A zs.length cap)) (hI : ∀ W', impl_isStack.Kp n₀ Bs w W' → Kd.C (Kd.int .i64) W' A zs.length zs) :
    SeqStopsK F n Try.prog 130 #[.pointer (some ⟨Bs, 0, none⟩)] (impl_isStack.encs zs) (impl_isStack.Kp n₀ Bs) (fun ys => ys = impl_isStack.upto zs.length zs.length)
      (fun pre => ∃ k, k ≤ zs.length ∧ pre = impl_isStack.upto zs.length k) zs.length w := fun l J Jx W hW _ _ hY h0 => by
  have hwW : impl_isStack.Kp n₀ Bs w W := fun k hk => hW.block k (by rcases hk with h | h <;> omega)
  exact impl_isStack.bw1_in F n h7 hro hn l Bs n₀ A cap zs hreach J Jx hY W ((hwW.cell (a := ⟨Bs, 0, none⟩) (.inr rfl)).trans hc) (fun W' hW' => hI W' (fun k hk => (hW' k hk).trans (hwW k hk))) h0
theorem impl_isStack.index_at (l : List Int) (x : Int) (hl : l.length ≤ 9223372036854775807) : ∀ (d k i : Nat), i + d = l.length → d < k → ∃ r : Int, slices_Index_int_int.l0 k l x (l.length : Int) (i : Int) = some r ∧ (decide (r ≥ 0)) = (l.drop i).contains x := by
  intro d
  induction d with
  | zero =>
    intro k i hi hk
    obtain ⟨k, rfl⟩ : ∃ q, k = q + 1 := ⟨k - 1, by omega⟩
    obtain rfl : i = l.length := by omega
    refine ⟨-1, ?_, by simp⟩
    simp only [slices_Index_int_int.l0]
    rw [if_neg (by omega)]
  | succ d ih =>
    intro k i hi hk
    obtain ⟨k, rfl⟩ : ∃ q, k = q + 1 := ⟨k - 1, by omega⟩
    have hlt : i < l.length := by omega
    have hrd : rd l (i : Int) = l[i] := by unfold rd; rw [Int.toNat_natCast, List.getD_eq_getElem?_getD, List.getElem?_eq_getElem hlt]; rfl
    have hw : wrap64 ((i : Int) + 1) = ((i + 1 : Nat) : Int) := by unfold wrap64; omega
    simp only [slices_Index_int_int.l0]
    rw [if_pos (by omega), if_pos (by omega), if_pos (by omega), hrd, List.drop_eq_getElem_cons hlt]
    by_cases h : x = l[i]
    · rw [if_pos h]
      exact ⟨_, rfl, by rw [List.contains_cons, h]; simp⟩
    · rw [if_neg h, hw]
      obtain ⟨r, h1, h2⟩ := ih k (i + 1) (by omega) (by omega)
      exact ⟨r, h1, by rw [h2, List.contains_cons]; simp [h]⟩
theorem impl_isStack.contains_f (l : List Int) (x : Int) (hl : l.length ≤ 9223372036854775807) : slices_Contains_int_int.f (l.length + 1) l x = some (l.contains x) := by
  obtain ⟨r, h1, h2⟩ := impl_isStack.index_at l x hl l.length (l.length + 1) 0 (by omega) (by omega)
  unfold slices_Contains_int_int.f slices_Index_int_int.f
  rw [show (0 : Int) = ((0 : Nat) : Int) from rfl, h1, Option.bind_some, ← List.drop_zero (l := l)]
  simp only [List.drop_drop, List.drop_zero] at h2 ⊢
  rw [← h2]; rfl
theorem impl_isStack.boxed_below {W W' : World} {B : Nat} {t : TypeId} {v : Value} (h : Boxed W B t v) (hb : Below W.heap.size W W') : Boxed W' B t v := blk_below h hb
theorem impl_isStack.bk {X Y : World} {row : Option Nat} {B : Nat} {t : TypeId} {v : Value} (h : Boxed X B t v) (hg : X.grownBy Y row) (hr : ∀ r, row = some r → ∃ o : Obj, X.heap[r]? = some o ∧ o.isCells = false) : Boxed Y B t v := h.kept hg (fun e => by
  obtain ⟨o, ho, hc⟩ := hr B e.symm
  rw [show X.heap[B]? = _ from h] at ho
  cases ho
  simp [Obj.isCells] at hc)
def impl_isStack.chk (l0 : List S98) : List Int → Int → Bool
  | [], _ => true
  | i :: rest, ab => if rest.contains i = true ∨ (rd_T98 l0 i).f1 < ab then false else impl_isStack.chk l0 rest (wrap64 (ab + (rd_T98 l0 i).f0))
theorem impl_isStack.step (l0 : List S98) (l1 : List Int) (pre : List (Fin l1.length)) (x : Nat) (hx : x < l1.length) (ab : Int) (HI : pre = impl_isStack.upto l1.length pre.length → impl_isStack.chk l0 l1.reverse 0 = impl_isStack.chk l0 (l1.take (l1.length - pre.length)).reverse ab)
    (h : pre ++ [(⟨x, hx⟩ : Fin l1.length)] = impl_isStack.upto l1.length (pre ++ [(⟨x, hx⟩ : Fin l1.length)]).length) :
    impl_isStack.chk l0 l1.reverse 0 = if (l1.take (l1.length - 1 - x)).contains (l1.getD (l1.length - 1 - x) 0) = true ∨ (rd_T98 l0 (l1.getD (l1.length - 1 - x) 0)).f1 < ab then false else impl_isStack.chk l0 (l1.take (l1.length - (pre ++ [(⟨x, hx⟩ : Fin l1.length)]).length)).reverse (wrap64 (ab + (rd_T98 l0 (l1.getD (l1.length - 1 - x) 0)).f0)) := by
  obtain ⟨h1, h2⟩ := impl_isStack.upto_snoc h
  dsimp only at h2
  rw [HI h1, List.length_append, List.length_singleton, ← h2]
  have e : l1.length - x = (l1.length - 1 - x) + 1 := by omega
  have hlt : l1.length - 1 - x < l1.length := by omega
  rw [e, List.take_add_one, List.getElem?_eq_getElem hlt, List.reverse_append, List.getD_eq_getElem?_getD, List.getElem?_eq_getElem hlt, show l1.length - (x + 1) = l1.length - 1 - x by omega]
  show impl_isStack.chk l0 (l1[l1.length - 1 - x] :: (l1.take (l1.length - 1 - x)).reverse) ab = _
  have key : ∀ (i : Int) (rest : List Int), impl_isStack.chk l0 (i :: rest) ab = if rest.contains i = true ∨ (rd_T98 l0 i).f1 < ab then false else impl_isStack.chk l0 rest (wrap64 (ab + (rd_T98 l0 i).f0)) := fun _ _ => rfl
  rw [key]
  simp only [Option.getD_some, List.contains_reverse]
def impl_isStack.f (l0 : List (S98)) (l1 : List Int) : Option (Bool) := some ((l1.all fun n => decide (0 ≤ n) && decide (n ≤ (l0.length : Int) - 1)) && impl_isStack.chk l0 l1.reverse 0)
set_option maxRecDepth 100000 in
set_option maxHeartbeats 4000000 in
theorem impl_isStack.calls (A0 : Option Addr) (c0 : Nat) (l0 : List (S98)) (A1 : Option Addr) (c1 : Nat) (l1 : List Int) (r : Bool) (w : World) (hr0 : Kd.C k98 w A0 l0.length l0) (hc0 : l0.length ≤ c0) (hr1 : Kd.C (Kd.int .i64) w A1 l1.length l1) (hc1 : l1.length ≤ c1) (h : impl_isStack.f l0 l1 = some r) :
    Calls Try.prog 106 #[.slice A0 l0.length c0, .slice A1 l1.length c1] w fun e w' => e = .returned (.bool r) ∧ Below w.heap.size w w' := by
  obtain rfl := Option.some.inj h
  clear h
  have hl0 : (l0.length : Int) ≤ 9223372036854775807 := by have := hr0.2.1; omega
  have hl1 : (l1.length : Int) ≤ 9223372036854775807 := by have := hr1.2.1; omega
  have hw1 := fun W hW => impl_areWithin.calls A1 c1 l1 0 ((l0.length : Int) - 1) _ W (Kd.C_below hr1 hW) hc1 rfl
  have HR0 := Aside0.mk hr0
  have HR1 := Aside0.mk hr1
  clear hr0 hr1
  by_cases hall : (l1.all fun n => decide (0 ≤ n) && decide (n ≤ (l0.length : Int) - 1)) = true
  · rw [hall] at hw1 ⊢
    refine (callsIn_wide (n := 3)).1 ?_
    refine callsIn_of_wp_marks Try.func106 rfl trivial ?_ rfl
    simp only [Try.ntmps106, List.size_toArray, List.length_cons, List.length_nil, Nat.reduceAdd, Nat.reduceSub, Array.replicate_succ, Array.replicate_zero, List.push_toArray, List.append_toArray, List.nil_append, List.cons_append]
    have bS0 := Boxed.new w 61 (.slice A0 l0.length c0)
    have bO0 := Boxed.new (w.alloc (.cells #[.slice A0 l0.length c0] 61)) 48 (.slice A1 l1.length c1)
    have bR0 := Boxed.new ((w.alloc (.cells #[.slice A0 l0.length c0] 61)).alloc (.cells #[.slice A1 l1.length c1] 48)) 4 (.bool false)
    have hB0 := (((Below.refl w.heap.size w).alloc (Nat.le_refl _) (.cells #[.slice A0 l0.length c0] 61)).alloc (by simp) (.cells #[.slice A1 l1.length c1] 48)).alloc (by simp; omega) (.cells #[.bool false] 4)
    rw [World.size_alloc] at bO0
    rw [World.size_alloc, World.size_alloc] at bR0
    have BS := Aside0.mk ((bS0.alloc (.cells #[.slice A1 l1.length c1] 48)).alloc (.cells #[.bool false] 4))
    have BO := Aside0.mk (bO0.alloc (.cells #[.bool false] 4))
    have BR := Aside0.mk bR0
    have HB := Aside0.mk hB0
    clear bS0 bO0 bR0 hB0
    gi_wp2_with (refine ⟨trivial, ?_⟩; gi_at_call 104; refine (callsIn_wide.2 (hw1 _ HB.out)).mono ?_; rintro e w' ⟨rfl, hb⟩; have BS' := Aside0.mk (impl_isStack.boxed_below BS.out hb); have BO' := Aside0.mk (impl_isStack.boxed_below BO.out hb); have BR' := Aside0.mk (impl_isStack.boxed_below BR.out hb); have HB' := Aside0.mk (below_step HB.out hb); clear hw1 BS BO BR HB hb; have hcO := (BO'.out.alloc (.cells #[.int .i64 0] 3)).cell)
    gi_wp2_with (refine ⟨trivial, ?_⟩; gi_at_call 116; refine (impl_isStack.backward_in _ _ trivial rfl _ _ _ _).mono ?_; rintro e w' ⟨rfl, rfl⟩)
    clear hcO
    have hBO2 := (BO'.out.alloc (.cells #[.int .i64 0] 3)).alloc (.cells #[.slice A1 l1.length c1] 48)
    have hBS2 := (BS'.out.alloc (.cells #[.int .i64 0] 3)).alloc (.cells #[.slice A1 l1.length c1] 48)
    have hBR2 := (BR'.out.alloc (.cells #[.int .i64 0] 3)).alloc (.cells #[.slice A1 l1.length c1] 48)
    have hBA2 := (Boxed.new w' 3 (.int .i64 0)).alloc (.cells #[.slice A1 l1.length c1] 48)
    have hBB2 := Boxed.new (w'.alloc (.cells #[.int .i64 0] 3)) 48 (.slice A1 l1.length c1)
    rw [World.size_alloc] at hBB2
    have hB2 := below_alloc (below_alloc HB'.out (.cells #[.int .i64 0] 3)) (.cells #[.slice A1 l1.length c1] 48)
    have hlt := BR'.out.lt
    have hsz : ((w'.alloc (Obj.cells #[Value.int IntKind.i64 0] 3)).alloc (Obj.cells #[Value.slice A1 l1.length c1] 48)).heap.size = w'.heap.size + 1 + 1 := by rw [World.size_alloc, World.size_alloc]
    clear BS' BO' BR' HB'
    generalize w'.heap.size = G at hBA2 hBB2 hlt hsz ⊢
    generalize ((w'.alloc (Obj.cells #[Value.int IntKind.i64 0] 3)).alloc (Obj.cells #[Value.slice A1 l1.length c1] 48)) = wl at hBO2 hBS2 hBR2 hBA2 hBB2 hB2 hsz ⊢
    clear w'
    refine wpIn_rangeFunc_ownG rfl (by omega) (gf := 130) (lb := #[.pointer (some ⟨G + 1, 0, none⟩)]) rfl trivial (enters_of Try.func130 (by kernel_rfl) rfl)
      (impl_isStack.stops Fence.wide _ trivial rfl (by omega) (G + 1) w.heap.size A1 c1 l1 hl1 wl (by omega) (by omega) hBB2.cell (fun W' hW' => (Kd.heap_int .i64).C (fun k hk => (hW' k (.inl hk)).trans (hB2.block k hk)) HR1.out))
      (fun h k q hq => (k q hq).trans (h q hq)) (fun W l o o' hl h _ _ q hq => World.putObj_heap_other (by rcases hq with hq | hq <;> omega)) (Below.refl _ _) (fun _ => rfl)
      (fun pre W => (Boxed W w.heap.size 61 (.slice A0 l0.length c0) ∧ Boxed W (w.heap.size + 1) 48 (.slice A1 l1.length c1) ∧ Boxed W (w.heap.size + 1 + 1) 4 (.bool false) ∧ ∃ ab, Boxed W G 3 (.int .i64 ab) ∧ (pre = impl_isStack.upto l1.length pre.length → impl_isStack.chk l0 l1.reverse 0 = impl_isStack.chk l0 (l1.take (l1.length - pre.length)).reverse ab)) ∧ Below w.heap.size w W)
      (fun c pre W => (c = .ret ∧ Boxed W (w.heap.size + 1 + 1) 4 (.bool false) ∧ (pre = impl_isStack.upto l1.length pre.length → impl_isStack.chk l0 l1.reverse 0 = false)) ∧ Below w.heap.size w W)
      (OwnFrom.and (Own.from (fun s A B row hs hg hr => by obtain ⟨h1, h2, h3, ab, h4, h5⟩ := hs; exact ⟨impl_isStack.bk h1 hg hr, impl_isStack.bk h2 hg hr, impl_isStack.bk h3 hg hr, ab, impl_isStack.bk h4 hg hr, h5⟩) _) (ownFrom_below (Nat.le_refl _) (by omega)))
      (fun c => OwnFrom.and (Own.from (fun s A B row hs hg hr => by obtain ⟨h1, h2, h3⟩ := hs; exact ⟨h1, impl_isStack.bk h2 hg hr, h3⟩) _) (ownFrom_below (Nat.le_refl _) (by omega)))
      ⟨⟨hBS2, hBO2, hBR2, 0, hBA2, fun _ => by simp⟩, hB2⟩
      (fun x => { tmps := #[.slice A0 l0.length c0, .slice A1 l1.length c1, .pointer (some ⟨w.heap.size, 0, none⟩), .pointer (some ⟨w.heap.size + 1, 0, none⟩), .pointer (some ⟨w.heap.size + 1 + 1, 0, none⟩), .pointer (some ⟨G, 0, none⟩), .int .i64 (impl_isStack.pr l1 x.val).1, .int .i64 (impl_isStack.pr l1 x.val).2, .slice A1 l1.length c1, .slice A0 l0.length c0, .int .i64 (l0.length : Int), .int .i64 ((l0.length : Int) - 1), .bool true, .bool false, .slice A1 l1.length c1, .func (.func 130) #[] #[.pointer (some ⟨G + 1, 0, none⟩)], .int .i64 (impl_isStack.pr l1 x.val).1, .int .i64 (impl_isStack.pr l1 x.val).2, undef, undef, undef, undef, undef, undef, undef, undef, undef, undef, undef, undef, undef, undef, undef, undef, undef, undef, undef, undef, undef], defers := [] }) ?assign ?body ?done ?stop
    case assign =>
      intro l x W K hK
      gi_wp2
      exact hK
    case body =>
      rintro l pre x W ⟨⟨hbS, hbO, hbR, ab, hbA, heq⟩, hB⟩ hlen
      have hcS := hbS.cell
      have hcO := hbO.cell
      have hcR := hbR.cell
      have hfR := hbR.frozen
      have hcA := hbA.cell
      have hfA := hbA.frozen
      obtain ⟨x, hx⟩ := x
      have HI := Aside0.mk heq
      have HBR := Aside0.mk hbR
      have HBS := Aside0.mk hbS
      have HBO := Aside0.mk hbO
      have HBA := Aside0.mk hbA
      have HB := Aside0.mk hB
      have hmx : Try.prog.follows .mixedOrders = true := by kernel_rfl
      obtain ⟨kk, hkk⟩ : ∃ kk : Nat, kk = l1.length - 1 - x := ⟨_, rfl⟩
      have e1 : (impl_isStack.pr l1 x).1 = (kk : Int) := by unfold impl_isStack.pr; dsimp only; omega
      have e2 : (impl_isStack.pr l1 x).2 = l1.getD kk 0 := by unfold impl_isStack.pr; rw [hkk]
      have hk1 : kk < l1.length := by omega
      have hv : 0 ≤ l1.getD kk 0 ∧ l1.getD kk 0 ≤ (l0.length : Int) - 1 := by
        have := List.all_eq_true.1 hall (l1.getD kk 0) (by rw [List.getD_eq_getElem?_getD, List.getElem?_eq_getElem hk1]; exact List.getElem_mem hk1)
        simpa using this
      have HS := Aside0.mk (impl_isStack.step l0 l1 pre x hx ab HI.out)
      rw [← hkk] at HS
      rw [e1, e2]
      generalize l1.getD kk 0 = v at hv HS ⊢
      obtain ⟨hv0, hv1⟩ := hv
      have k0 : (0 : Int) ≤ (kk : Int) := by omega
      have k1 : (kk : Int) ≤ (l1.length : Int) := by omega
      have k2 : kk ≤ l1.length := by omega
      have k3 : kk ≤ c1 := by omega
      have k4 : (kk : Int) ≤ (c1 : Int) := by omega
      have q1 : v < (l0.length : Int) := by omega
      obtain ⟨ad, e_, hx0, hx1⟩ := at_T98 (Kd.C_below HR0.out HB.out) v hv0 q1
      cases e_
      have HCT : Aside0 (Kd.C (Kd.int .i64) W A1 (l1.take kk).length (l1.take kk)) := ⟨Kd.C_take (Kd.C_below HR1.out HB.out) k2⟩
      have hf := impl_isStack.contains_f (l1.take kk) v (by rw [List.length_take]; omega)
      have hcall := slices_Contains_int_int.calls ((l1.take kk).length + 1) A1 c1 (l1.take kk) v _ W.drew HCT.out (by rw [List.length_take]; omega) hf
      rw [List.length_take, Nat.min_eq_left k2] at hcall
      clear hbS hbO hbR hbA hB heq hf hk1 hkk e1 e2
      have HKF := Aside0.mk ((KeepsOthers.drew W).from wl.heap.size)
      have HKP : Aside0 (impl_isStack.Kp w.heap.size (G + 1) W W.drew) := ⟨fun _ _ => rfl⟩
      replace HBR : Aside0 (Boxed W.drew (w.heap.size + 1 + 1) 4 (.bool false)) := HBR
      replace HBS : Aside0 (Boxed W.drew w.heap.size 61 (.slice (some ad) l0.length c0)) := HBS
      replace HBO : Aside0 (Boxed W.drew (w.heap.size + 1) 48 (.slice A1 l1.length c1)) := HBO
      replace HBA : Aside0 (Boxed W.drew G 3 (.int .i64 ab)) := HBA
      replace hcO : W.drew.cell? ⟨w.heap.size + 1, 0, none⟩ = some (.slice A1 l1.length c1) := hcO
      replace hcS : W.drew.cell? ⟨w.heap.size, 0, none⟩ = some (.slice (some ad) l0.length c0) := hcS
      replace hcA : W.drew.cell? ⟨G, 0, none⟩ = some (.int .i64 ab) := hcA
      replace hfA : W.drew.frozen? ⟨G, 0, none⟩ = false := hfA
      replace hcR : W.drew.cell? ⟨w.heap.size + 1 + 1, 0, none⟩ = some (.bool false) := hcR
      replace hfR : W.drew.frozen? ⟨w.heap.size + 1 + 1, 0, none⟩ = false := hfR
      replace hx0 : W.drew.cell? (ad.add (v.toNat * 2)) = some (.int .i64 (rd_T98 l0 v).f0) := hx0
      replace hx1 : W.drew.cell? ⟨(ad.add (v.toNat * 2)).block, (ad.add (v.toNat * 2)).off + 1, none⟩ = some (.int .i64 (rd_T98 l0 v).f1) := hx1
      replace HB : Aside0 (Below w.heap.size w W.drew) := ⟨HB.out.drew⟩
      gi_wp2
      obtain ⟨b, hb⟩ : ∃ b, (l1.take kk).contains v = b := ⟨_, rfl⟩
      rw [hb] at hcall
      cases b with
      | true =>
        refine InRound.start_in (n := 14) (S := fun w' => w'.cell? ⟨w.heap.size + 1, 0, none⟩ = some (.slice A1 l1.length c1) ∧ w'.cell? ⟨G, 0, none⟩ = some (.int .i64 ab) ∧ w'.cell? ⟨w.heap.size, 0, none⟩ = some (.slice (some ad) l0.length c0) ∧ w'.cell? ⟨(ad.add (v.toNat * 2)).block, (ad.add (v.toNat * 2)).off + 1, none⟩ = some (.int .i64 (rd_T98 l0 v).f1)) (ds := []) #[false, false, false, false, false, false, false, false, false, false, false, false, false, false] (by kernel_rfl) (by kernel_rfl) (by rintro ⟨_, _, h⟩; exact h) rfl rfl ⟨hcO, hcA, hcS, hx1⟩ (fun hHeld => ?_)
        generalize W.drew = wd at hcO hcS hcA hfA hcR hfR hx0 hx1 hcall HBR HBS HBO HBA HB HKF HKP hHeld ⊢
        refine take_ (i := 0) (N := (some 18)) (v := ?_) (a' := ?_) #[true, false, false, false, false, false, false, false, false, false, false, false, false, false] rfl rfl (by kernel_rfl) (fun _ _ _ h => h) (Or.inl ⟨by rfl, ?_⟩) hHeld ?_ ?_
        rotate_left
        · rintro w' ⟨s0, s1, s2, s3⟩
          go_simp
          with_reducible rfl
        rotate_left
        · simp only [Act.put, List.setIfInBounds_toArray, List.set_cons_zero, List.set_cons_succ, i64_w, i32_w]
          rfl
        refine pure_ (i := 1) (N := (some 19)) (v := ?_) (a' := ?_) #[true, true, false, false, false, false, false, false, false, false, false, false, false, false] rfl rfl (by kernel_rfl) (fun _ _ _ h => h) (Or.inl ⟨by rfl, ?_⟩) ?_ ?_
        rotate_left
        · intro w'
          go_simp
          with_reducible rfl
        rotate_left
        · simp only [Act.put, List.setIfInBounds_toArray, List.set_cons_zero, List.set_cons_succ, i64_w, i32_w]
          rfl
        refine pure_ (i := 2) (N := (some 20)) (v := ?_) (a' := ?_) #[true, true, true, false, false, false, false, false, false, false, false, false, false, false] rfl rfl (by kernel_rfl) (fun _ _ _ h => h) (Or.inl ⟨by rfl, ?_⟩) ?_ ?_
        rotate_left
        · intro w'
          go_simp
          with_reducible rfl
        rotate_left
        · simp only [Act.put, List.setIfInBounds_toArray, List.set_cons_zero, List.set_cons_succ, i64_w, i32_w]
          rfl
        refine pure_ (i := 3) (N := (some 21)) (v := ?_) (a' := ?_) #[true, true, true, true, false, false, false, false, false, false, false, false, false, false] rfl rfl (by kernel_rfl) (fun _ _ _ h => h) (Or.inl ⟨by rfl, ?_⟩) ?_ ?_
        rotate_left
        · intro w'
          go_simp
          with_reducible rfl
        rotate_left
        · simp only [Act.put, List.setIfInBounds_toArray, List.set_cons_zero, List.set_cons_succ, i64_w, i32_w]
          rfl
        refine one_ (i := 4) (N := (some 22)) #[true, true, true, true, true, false, false, false, false, false, false, false, false, false] rfl rfl (by kernel_rfl) (by decide) (fun K hK => ?_)
        refine goes_ Try.func117 (by kernel_rfl) rfl #[.slice A1 kk c1, .int .i64 v] (by rfl) rfl rfl (by (try simp only [List.map_toArray, List.map_cons, List.map_nil]); first | done | rfl | (simp only [List.length_drop, List.length_take]; rfl)) ?_
        refine hcall.mono ?_
        rintro e wo ⟨rfl, hd⟩
        obtain ⟨q, rfl⟩ := hd.out
        refine ⟨_, rfl, ?_⟩
        refine hK.out _ _ ⟨hcO, hcA, hcS, hx1⟩ (fun hHeld => ?_)
        clear hK K
        refine norm_ (a' := ?_) ?_ ?_
        rotate_left
        · show Act.put _ (some 22) _ = _
          simp only [Act.put, List.setIfInBounds_toArray, List.set_cons_zero, List.set_cons_succ, i64_w, i32_w]
          rfl
        refine pure_ (i := 5) (N := (some 23)) (v := ?_) (a' := ?_) #[true, true, true, true, true, true, false, false, false, false, false, false, false, false] rfl rfl (by kernel_rfl) (fun _ _ _ h => h) (Or.inl ⟨by rfl, ?_⟩) ?_ ?_
        rotate_left
        · intro w'
          go_simp
          with_reducible rfl
        rotate_left
        · simp only [Act.put, List.setIfInBounds_toArray, List.set_cons_zero, List.set_cons_succ, i64_w, i32_w]
          rfl
        refine pure_ (i := 6) (N := (some 24)) (v := undef) (a' := ?_) #[true, true, true, true, true, true, true, false, false, false, false, false, false, false] rfl rfl (by kernel_rfl) (fun _ _ _ h => h) (Or.inr ⟨by rfl, rfl⟩) ?_ ?_
        rotate_left
        · simp only [Act.put, List.setIfInBounds_toArray, List.set_cons_zero, List.set_cons_succ, i64_w, i32_w]
          rfl
        refine pure_ (i := 7) (N := (some 25)) (v := undef) (a' := ?_) #[true, true, true, true, true, true, true, true, false, false, false, false, false, false] rfl rfl (by kernel_rfl) (fun _ _ _ h => h) (Or.inr ⟨by rfl, rfl⟩) ?_ ?_
        rotate_left
        · simp only [Act.put, List.setIfInBounds_toArray, List.set_cons_zero, List.set_cons_succ, i64_w, i32_w]
          rfl
        refine pure_ (i := 8) (N := (some 26)) (v := undef) (a' := ?_) #[true, true, true, true, true, true, true, true, true, false, false, false, false, false] rfl rfl (by kernel_rfl) (fun _ _ _ h => h) (Or.inr ⟨by rfl, rfl⟩) ?_ ?_
        rotate_left
        · simp only [Act.put, List.setIfInBounds_toArray, List.set_cons_zero, List.set_cons_succ, i64_w, i32_w]
          rfl
        refine pure_ (i := 9) (N := (some 27)) (v := undef) (a' := ?_) #[true, true, true, true, true, true, true, true, true, true, false, false, false, false] rfl rfl (by kernel_rfl) (fun _ _ _ h => h) (Or.inr ⟨by rfl, rfl⟩) ?_ ?_
        rotate_left
        · simp only [Act.put, List.setIfInBounds_toArray, List.set_cons_zero, List.set_cons_succ, i64_w, i32_w]
          rfl
        refine pure_ (i := 10) (N := (some 28)) (v := undef) (a' := ?_) #[true, true, true, true, true, true, true, true, true, true, true, false, false, false] rfl rfl (by kernel_rfl) (fun _ _ _ h => h) (Or.inr ⟨by rfl, rfl⟩) ?_ ?_
        rotate_left
        · simp only [Act.put, List.setIfInBounds_toArray, List.set_cons_zero, List.set_cons_succ, i64_w, i32_w]
          rfl
        refine pure_ (i := 11) (N := (some 29)) (v := undef) (a' := ?_) #[true, true, true, true, true, true, true, true, true, true, true, true, false, false] rfl rfl (by kernel_rfl) (fun _ _ _ h => h) (Or.inr ⟨by rfl, rfl⟩) ?_ ?_
        rotate_left
        · simp only [Act.put, List.setIfInBounds_toArray, List.set_cons_zero, List.set_cons_succ, i64_w, i32_w]
          rfl
        refine pure_ (i := 12) (N := (some 30)) (v := undef) (a' := ?_) #[true, true, true, true, true, true, true, true, true, true, true, true, true, false] rfl rfl (by kernel_rfl) (fun _ _ _ h => h) (Or.inr ⟨by rfl, rfl⟩) ?_ ?_
        rotate_left
        · simp only [Act.put, List.setIfInBounds_toArray, List.set_cons_zero, List.set_cons_succ, i64_w, i32_w]
          rfl
        refine pure_ (i := 13) (N := (some 31)) (v := ?_) (a' := ?_) #[true, true, true, true, true, true, true, true, true, true, true, true, true, true] rfl rfl (by kernel_rfl) (fun _ _ _ h => h) (Or.inl ⟨by rfl, ?_⟩) ?_ ?_
        rotate_left
        · intro w'
          go_simp
          with_reducible rfl
        rotate_left
        · simp only [Act.put, List.setIfInBounds_toArray, List.set_cons_zero, List.set_cons_succ, i64_w, i32_w]
          rfl
        refine done_ (by kernel_rfl) ?_
        clear hHeld
        replace HBR : Aside0 (Boxed (wd.drewN q) (w.heap.size + 1 + 1) 4 (.bool false)) := HBR
        replace HBS : Aside0 (Boxed (wd.drewN q) w.heap.size 61 (.slice (some ad) l0.length c0)) := HBS
        replace HBO : Aside0 (Boxed (wd.drewN q) (w.heap.size + 1) 48 (.slice A1 l1.length c1)) := HBO
        replace HBA : Aside0 (Boxed (wd.drewN q) G 3 (.int .i64 ab)) := HBA
        replace hcO : (wd.drewN q).cell? ⟨w.heap.size + 1, 0, none⟩ = some (.slice A1 l1.length c1) := hcO
        replace hcS : (wd.drewN q).cell? ⟨w.heap.size, 0, none⟩ = some (.slice (some ad) l0.length c0) := hcS
        replace hcA : (wd.drewN q).cell? ⟨G, 0, none⟩ = some (.int .i64 ab) := hcA
        replace hfA : (wd.drewN q).frozen? ⟨G, 0, none⟩ = false := hfA
        replace hcR : (wd.drewN q).cell? ⟨w.heap.size + 1 + 1, 0, none⟩ = some (.bool false) := hcR
        replace hfR : (wd.drewN q).frozen? ⟨w.heap.size + 1 + 1, 0, none⟩ = false := hfR
        replace hx0 : (wd.drewN q).cell? (ad.add (v.toNat * 2)) = some (.int .i64 (rd_T98 l0 v).f0) := hx0
        replace hx1 : (wd.drewN q).cell? ⟨(ad.add (v.toNat * 2)).block, (ad.add (v.toNat * 2)).off + 1, none⟩ = some (.int .i64 (rd_T98 l0 v).f1) := hx1
        replace HB : Aside0 (Below w.heap.size w (wd.drewN q)) := ⟨pw_below_drewN HB.out q⟩
        replace HKF : Aside0 (KeepsFrom wl.heap.size W (wd.drewN q)) := ⟨HKF.out.trans ⟨Nat.le_refl _, fun _ _ _ h _ => h⟩⟩
        replace HKP : Aside0 (impl_isStack.Kp w.heap.size (G + 1) W (wd.drewN q)) := HKP
        clear hd hcall
        generalize wd.drewN q = wq at hcO hcS hcA hfA hcR hfR hx0 hx1 HBR HBS HBO HBA HB HKF HKP ⊢
        gi_wp2
        exact ⟨HKF.out.trans ((KeepsOthers.setCell _ _ _).from _), ⟨rfl, HBR.out.set _, fun h => by rw [HS.out h, if_pos (Or.inl hb)]⟩, HB.out.setCell (p := ⟨w.heap.size + 1 + 1, 0, none⟩) (by simp; omega) _⟩
      | false =>
        by_cases c : (rd_T98 l0 v).f1 < ab
        · have cd := decide_eq_true c
          refine InRound.start_in (n := 14) (S := fun w' => w'.cell? ⟨w.heap.size + 1, 0, none⟩ = some (.slice A1 l1.length c1) ∧ w'.cell? ⟨G, 0, none⟩ = some (.int .i64 ab) ∧ w'.cell? ⟨w.heap.size, 0, none⟩ = some (.slice (some ad) l0.length c0) ∧ w'.cell? ⟨(ad.add (v.toNat * 2)).block, (ad.add (v.toNat * 2)).off + 1, none⟩ = some (.int .i64 (rd_T98 l0 v).f1)) (ds := []) #[false, false, false, false, false, false, false, false, false, false, false, false, false, false] (by kernel_rfl) (by kernel_rfl) (by rintro ⟨_, _, h⟩; exact h) rfl rfl ⟨hcO, hcA, hcS, hx1⟩ (fun hHeld => ?_)
          generalize W.drew = wd at hcO hcS hcA hfA hcR hfR hx0 hx1 hcall HBR HBS HBO HBA HB HKF HKP hHeld ⊢
          refine take_ (i := 0) (N := (some 18)) (v := ?_) (a' := ?_) #[true, false, false, false, false, false, false, false, false, false, false, false, false, false] rfl rfl (by kernel_rfl) (fun _ _ _ h => h) (Or.inl ⟨by rfl, ?_⟩) hHeld ?_ ?_
          rotate_left
          · rintro w' ⟨s0, s1, s2, s3⟩
            go_simp
            with_reducible rfl
          rotate_left
          · simp only [Act.put, List.setIfInBounds_toArray, List.set_cons_zero, List.set_cons_succ, i64_w, i32_w]
            rfl
          refine pure_ (i := 1) (N := (some 19)) (v := ?_) (a' := ?_) #[true, true, false, false, false, false, false, false, false, false, false, false, false, false] rfl rfl (by kernel_rfl) (fun _ _ _ h => h) (Or.inl ⟨by rfl, ?_⟩) ?_ ?_
          rotate_left
          · intro w'
            go_simp
            with_reducible rfl
          rotate_left
          · simp only [Act.put, List.setIfInBounds_toArray, List.set_cons_zero, List.set_cons_succ, i64_w, i32_w]
            rfl
          refine pure_ (i := 2) (N := (some 20)) (v := ?_) (a' := ?_) #[true, true, true, false, false, false, false, false, false, false, false, false, false, false] rfl rfl (by kernel_rfl) (fun _ _ _ h => h) (Or.inl ⟨by rfl, ?_⟩) ?_ ?_
          rotate_left
          · intro w'
            go_simp
            with_reducible rfl
          rotate_left
          · simp only [Act.put, List.setIfInBounds_toArray, List.set_cons_zero, List.set_cons_succ, i64_w, i32_w]
            rfl
          refine pure_ (i := 3) (N := (some 21)) (v := ?_) (a' := ?_) #[true, true, true, true, false, false, false, false, false, false, false, false, false, false] rfl rfl (by kernel_rfl) (fun _ _ _ h => h) (Or.inl ⟨by rfl, ?_⟩) ?_ ?_
          rotate_left
          · intro w'
            go_simp
            with_reducible rfl
          rotate_left
          · simp only [Act.put, List.setIfInBounds_toArray, List.set_cons_zero, List.set_cons_succ, i64_w, i32_w]
            rfl
          refine one_ (i := 4) (N := (some 22)) #[true, true, true, true, true, false, false, false, false, false, false, false, false, false] rfl rfl (by kernel_rfl) (by decide) (fun K hK => ?_)
          refine goes_ Try.func117 (by kernel_rfl) rfl #[.slice A1 kk c1, .int .i64 v] (by rfl) rfl rfl (by (try simp only [List.map_toArray, List.map_cons, List.map_nil]); first | done | rfl | (simp only [List.length_drop, List.length_take]; rfl)) ?_
          refine hcall.mono ?_
          rintro e wo ⟨rfl, hd⟩
          obtain ⟨q, rfl⟩ := hd.out
          refine ⟨_, rfl, ?_⟩
          refine hK.out _ _ ⟨hcO, hcA, hcS, hx1⟩ (fun hHeld => ?_)
          clear hK K
          refine norm_ (a' := ?_) ?_ ?_
          rotate_left
          · show Act.put _ (some 22) _ = _
            simp only [Act.put, List.setIfInBounds_toArray, List.set_cons_zero, List.set_cons_succ, i64_w, i32_w]
            rfl
          refine pure_ (i := 5) (N := (some 23)) (v := ?_) (a' := ?_) #[true, true, true, true, true, true, false, false, false, false, false, false, false, false] rfl rfl (by kernel_rfl) (fun _ _ _ h => h) (Or.inl ⟨by rfl, ?_⟩) ?_ ?_
          rotate_left
          · intro w'
            go_simp
            with_reducible rfl
          rotate_left
          · simp only [Act.put, List.setIfInBounds_toArray, List.set_cons_zero, List.set_cons_succ, i64_w, i32_w]
            rfl
          refine take_ (i := 6) (N := (some 24)) (v := ?_) (a' := ?_) #[true, true, true, true, true, true, true, false, false, false, false, false, false, false] rfl rfl (by kernel_rfl) (fun _ _ _ h => h) (Or.inl ⟨by rfl, ?_⟩) hHeld ?_ ?_
          rotate_left
          · rintro w' ⟨s0, s1, s2, s3⟩
            go_simp
            with_reducible rfl
          rotate_left
          · simp only [Act.put, List.setIfInBounds_toArray, List.set_cons_zero, List.set_cons_succ, i64_w, i32_w]
            rfl
          refine take_ (i := 7) (N := (some 25)) (v := ?_) (a' := ?_) #[true, true, true, true, true, true, true, true, false, false, false, false, false, false] rfl rfl (by kernel_rfl) (fun _ _ _ h => h) (Or.inl ⟨by rfl, ?_⟩) hHeld ?_ ?_
          rotate_left
          · rintro w' ⟨s0, s1, s2, s3⟩
            go_simp
            with_reducible rfl
          rotate_left
          · simp only [Act.put, List.setIfInBounds_toArray, List.set_cons_zero, List.set_cons_succ, i64_w, i32_w]
            rfl
          refine pure_ (i := 8) (N := (some 26)) (v := ?_) (a' := ?_) #[true, true, true, true, true, true, true, true, true, false, false, false, false, false] rfl rfl (by kernel_rfl) (fun _ _ _ h => h) (Or.inl ⟨by rfl, ?_⟩) ?_ ?_
          rotate_left
          · intro w'
            go_simp
            with_reducible rfl
          rotate_left
          · simp only [Act.put, List.setIfInBounds_toArray, List.set_cons_zero, List.set_cons_succ, i64_w, i32_w]
            rfl
          refine pure_ (i := 9) (N := (some 27)) (v := ?_) (a' := ?_) #[true, true, true, true, true, true, true, true, true, true, false, false, false, false] rfl rfl (by kernel_rfl) (fun _ _ _ h => h) (Or.inl ⟨by rfl, ?_⟩) ?_ ?_
          rotate_left
          · intro w'
            go_simp
            with_reducible rfl
          rotate_left
          · simp only [Act.put, List.setIfInBounds_toArray, List.set_cons_zero, List.set_cons_succ, i64_w, i32_w]
            rfl
          refine pure_ (i := 10) (N := (some 28)) (v := ?_) (a' := ?_) #[true, true, true, true, true, true, true, true, true, true, true, false, false, false] rfl rfl (by kernel_rfl) (fun _ _ _ h => h) (Or.inl ⟨by rfl, ?_⟩) ?_ ?_
          rotate_left
          · intro w'
            go_simp
            with_reducible rfl
          rotate_left
          · simp only [Act.put, List.setIfInBounds_toArray, List.set_cons_zero, List.set_cons_succ, i64_w, i32_w]
            rfl
          refine take_ (i := 11) (N := (some 29)) (v := ?_) (a' := ?_) #[true, true, true, true, true, true, true, true, true, true, true, true, false, false] rfl rfl (by kernel_rfl) (fun _ _ _ h => h) (Or.inl ⟨by rfl, ?_⟩) hHeld ?_ ?_
          rotate_left
          · rintro w' ⟨s0, s1, s2, s3⟩
            go_simp
            with_reducible rfl
          rotate_left
          · simp only [Act.put, List.setIfInBounds_toArray, List.set_cons_zero, List.set_cons_succ, i64_w, i32_w]
            rfl
          refine pure_ (i := 12) (N := (some 30)) (v := ?_) (a' := ?_) #[true, true, true, true, true, true, true, true, true, true, true, true, true, false] rfl rfl (by kernel_rfl) (fun _ _ _ h => h) (Or.inl ⟨by rfl, ?_⟩) ?_ ?_
          rotate_left
          · intro w'
            go_simp
            with_reducible rfl
          rotate_left
          · simp only [Act.put, List.setIfInBounds_toArray, List.set_cons_zero, List.set_cons_succ, i64_w, i32_w]
            rfl
          refine pure_ (i := 13) (N := (some 31)) (v := ?_) (a' := ?_) #[true, true, true, true, true, true, true, true, true, true, true, true, true, true] rfl rfl (by kernel_rfl) (fun _ _ _ h => h) (Or.inl ⟨by rfl, ?_⟩) ?_ ?_
          rotate_left
          · intro w'
            go_simp
            with_reducible rfl
          rotate_left
          · simp only [Act.put, List.setIfInBounds_toArray, List.set_cons_zero, List.set_cons_succ, i64_w, i32_w]
            rfl
          refine done_ (by kernel_rfl) ?_
          clear hHeld
          replace HBR : Aside0 (Boxed (wd.drewN q) (w.heap.size + 1 + 1) 4 (.bool false)) := HBR
          replace HBS : Aside0 (Boxed (wd.drewN q) w.heap.size 61 (.slice (some ad) l0.length c0)) := HBS
          replace HBO : Aside0 (Boxed (wd.drewN q) (w.heap.size + 1) 48 (.slice A1 l1.length c1)) := HBO
          replace HBA : Aside0 (Boxed (wd.drewN q) G 3 (.int .i64 ab)) := HBA
          replace hcO : (wd.drewN q).cell? ⟨w.heap.size + 1, 0, none⟩ = some (.slice A1 l1.length c1) := hcO
          replace hcS : (wd.drewN q).cell? ⟨w.heap.size, 0, none⟩ = some (.slice (some ad) l0.length c0) := hcS
          replace hcA : (wd.drewN q).cell? ⟨G, 0, none⟩ = some (.int .i64 ab) := hcA
          replace hfA : (wd.drewN q).frozen? ⟨G, 0, none⟩ = false := hfA
          replace hcR : (wd.drewN q).cell? ⟨w.heap.size + 1 + 1, 0, none⟩ = some (.bool false) := hcR
          replace hfR : (wd.drewN q).frozen? ⟨w.heap.size + 1 + 1, 0, none⟩ = false := hfR
          replace hx0 : (wd.drewN q).cell? (ad.add (v.toNat * 2)) = some (.int .i64 (rd_T98 l0 v).f0) := hx0
          replace hx1 : (wd.drewN q).cell? ⟨(ad.add (v.toNat * 2)).block, (ad.add (v.toNat * 2)).off + 1, none⟩ = some (.int .i64 (rd_T98 l0 v).f1) := hx1
          replace HB : Aside0 (Below w.heap.size w (wd.drewN q)) := ⟨pw_below_drewN HB.out q⟩
          replace HKF : Aside0 (KeepsFrom wl.heap.size W (wd.drewN q)) := ⟨HKF.out.trans ⟨Nat.le_refl _, fun _ _ _ h _ => h⟩⟩
          replace HKP : Aside0 (impl_isStack.Kp w.heap.size (G + 1) W (wd.drewN q)) := HKP
          clear hd hcall
          generalize wd.drewN q = wq at hcO hcS hcA hfA hcR hfR hx0 hx1 HBR HBS HBO HBA HB HKF HKP ⊢
          gi_wp2
          exact ⟨HKF.out.trans ((KeepsOthers.setCell _ _ _).from _), ⟨rfl, HBR.out.set _, fun h => by rw [HS.out h, if_pos (Or.inr c)]⟩, HB.out.setCell (p := ⟨w.heap.size + 1 + 1, 0, none⟩) (by simp; omega) _⟩
        · have cd := decide_eq_false c
          have c2 : ab ≤ (rd_T98 l0 v).f1 := by omega
          refine InRound.start_in (n := 14) (S := fun w' => w'.cell? ⟨w.heap.size + 1, 0, none⟩ = some (.slice A1 l1.length c1) ∧ w'.cell? ⟨G, 0, none⟩ = some (.int .i64 ab) ∧ w'.cell? ⟨w.heap.size, 0, none⟩ = some (.slice (some ad) l0.length c0) ∧ w'.cell? ⟨(ad.add (v.toNat * 2)).block, (ad.add (v.toNat * 2)).off + 1, none⟩ = some (.int .i64 (rd_T98 l0 v).f1)) (ds := []) #[false, false, false, false, false, false, false, false, false, false, false, false, false, false] (by kernel_rfl) (by kernel_rfl) (by rintro ⟨_, _, h⟩; exact h) rfl rfl ⟨hcO, hcA, hcS, hx1⟩ (fun hHeld => ?_)
          generalize W.drew = wd at hcO hcS hcA hfA hcR hfR hx0 hx1 hcall HBR HBS HBO HBA HB HKF HKP hHeld ⊢
          refine take_ (i := 0) (N := (some 18)) (v := ?_) (a' := ?_) #[true, false, false, false, false, false, false, false, false, false, false, false, false, false] rfl rfl (by kernel_rfl) (fun _ _ _ h => h) (Or.inl ⟨by rfl, ?_⟩) hHeld ?_ ?_
          rotate_left
          · rintro w' ⟨s0, s1, s2, s3⟩
            go_simp
            with_reducible rfl
          rotate_left
          · simp only [Act.put, List.setIfInBounds_toArray, List.set_cons_zero, List.set_cons_succ, i64_w, i32_w]
            rfl
          refine pure_ (i := 1) (N := (some 19)) (v := ?_) (a' := ?_) #[true, true, false, false, false, false, false, false, false, false, false, false, false, false] rfl rfl (by kernel_rfl) (fun _ _ _ h => h) (Or.inl ⟨by rfl, ?_⟩) ?_ ?_
          rotate_left
          · intro w'
            go_simp
            with_reducible rfl
          rotate_left
          · simp only [Act.put, List.setIfInBounds_toArray, List.set_cons_zero, List.set_cons_succ, i64_w, i32_w]
            rfl
          refine pure_ (i := 2) (N := (some 20)) (v := ?_) (a' := ?_) #[true, true, true, false, false, false, false, false, false, false, false, false, false, false] rfl rfl (by kernel_rfl) (fun _ _ _ h => h) (Or.inl ⟨by rfl, ?_⟩) ?_ ?_
          rotate_left
          · intro w'
            go_simp
            with_reducible rfl
          rotate_left
          · simp only [Act.put, List.setIfInBounds_toArray, List.set_cons_zero, List.set_cons_succ, i64_w, i32_w]
            rfl
          refine pure_ (i := 3) (N := (some 21)) (v := ?_) (a' := ?_) #[true, true, true, true, false, false, false, false, false, false, false, false, false, false] rfl rfl (by kernel_rfl) (fun _ _ _ h => h) (Or.inl ⟨by rfl, ?_⟩) ?_ ?_
          rotate_left
          · intro w'
            go_simp
            with_reducible rfl
          rotate_left
          · simp only [Act.put, List.setIfInBounds_toArray, List.set_cons_zero, List.set_cons_succ, i64_w, i32_w]
            rfl
          refine one_ (i := 4) (N := (some 22)) #[true, true, true, true, true, false, false, false, false, false, false, false, false, false] rfl rfl (by kernel_rfl) (by decide) (fun K hK => ?_)
          refine goes_ Try.func117 (by kernel_rfl) rfl #[.slice A1 kk c1, .int .i64 v] (by rfl) rfl rfl (by (try simp only [List.map_toArray, List.map_cons, List.map_nil]); first | done | rfl | (simp only [List.length_drop, List.length_take]; rfl)) ?_
          refine hcall.mono ?_
          rintro e wo ⟨rfl, hd⟩
          obtain ⟨q, rfl⟩ := hd.out
          refine ⟨_, rfl, ?_⟩
          refine hK.out _ _ ⟨hcO, hcA, hcS, hx1⟩ (fun hHeld => ?_)
          clear hK K
          refine norm_ (a' := ?_) ?_ ?_
          rotate_left
          · show Act.put _ (some 22) _ = _
            simp only [Act.put, List.setIfInBounds_toArray, List.set_cons_zero, List.set_cons_succ, i64_w, i32_w]
            rfl
          refine pure_ (i := 5) (N := (some 23)) (v := ?_) (a' := ?_) #[true, true, true, true, true, true, false, false, false, false, false, false, false, false] rfl rfl (by kernel_rfl) (fun _ _ _ h => h) (Or.inl ⟨by rfl, ?_⟩) ?_ ?_
          rotate_left
          · intro w'
            go_simp
            with_reducible rfl
          rotate_left
          · simp only [Act.put, List.setIfInBounds_toArray, List.set_cons_zero, List.set_cons_succ, i64_w, i32_w]
            rfl
          refine take_ (i := 6) (N := (some 24)) (v := ?_) (a' := ?_) #[true, true, true, true, true, true, true, false, false, false, false, false, false, false] rfl rfl (by kernel_rfl) (fun _ _ _ h => h) (Or.inl ⟨by rfl, ?_⟩) hHeld ?_ ?_
          rotate_left
          · rintro w' ⟨s0, s1, s2, s3⟩
            go_simp
            with_reducible rfl
          rotate_left
          · simp only [Act.put, List.setIfInBounds_toArray, List.set_cons_zero, List.set_cons_succ, i64_w, i32_w]
            rfl
          refine take_ (i := 7) (N := (some 25)) (v := ?_) (a' := ?_) #[true, true, true, true, true, true, true, true, false, false, false, false, false, false] rfl rfl (by kernel_rfl) (fun _ _ _ h => h) (Or.inl ⟨by rfl, ?_⟩) hHeld ?_ ?_
          rotate_left
          · rintro w' ⟨s0, s1, s2, s3⟩
            go_simp
            with_reducible rfl
          rotate_left
          · simp only [Act.put, List.setIfInBounds_toArray, List.set_cons_zero, List.set_cons_succ, i64_w, i32_w]
            rfl
          refine pure_ (i := 8) (N := (some 26)) (v := ?_) (a' := ?_) #[true, true, true, true, true, true, true, true, true, false, false, false, false, false] rfl rfl (by kernel_rfl) (fun _ _ _ h => h) (Or.inl ⟨by rfl, ?_⟩) ?_ ?_
          rotate_left
          · intro w'
            go_simp
            with_reducible rfl
          rotate_left
          · simp only [Act.put, List.setIfInBounds_toArray, List.set_cons_zero, List.set_cons_succ, i64_w, i32_w]
            rfl
          refine pure_ (i := 9) (N := (some 27)) (v := ?_) (a' := ?_) #[true, true, true, true, true, true, true, true, true, true, false, false, false, false] rfl rfl (by kernel_rfl) (fun _ _ _ h => h) (Or.inl ⟨by rfl, ?_⟩) ?_ ?_
          rotate_left
          · intro w'
            go_simp
            with_reducible rfl
          rotate_left
          · simp only [Act.put, List.setIfInBounds_toArray, List.set_cons_zero, List.set_cons_succ, i64_w, i32_w]
            rfl
          refine pure_ (i := 10) (N := (some 28)) (v := ?_) (a' := ?_) #[true, true, true, true, true, true, true, true, true, true, true, false, false, false] rfl rfl (by kernel_rfl) (fun _ _ _ h => h) (Or.inl ⟨by rfl, ?_⟩) ?_ ?_
          rotate_left
          · intro w'
            go_simp
            with_reducible rfl
          rotate_left
          · simp only [Act.put, List.setIfInBounds_toArray, List.set_cons_zero, List.set_cons_succ, i64_w, i32_w]
            rfl
          refine take_ (i := 11) (N := (some 29)) (v := ?_) (a' := ?_) #[true, true, true, true, true, true, true, true, true, true, true, true, false, false] rfl rfl (by kernel_rfl) (fun _ _ _ h => h) (Or.inl ⟨by rfl, ?_⟩) hHeld ?_ ?_
          rotate_left
          · rintro w' ⟨s0, s1, s2, s3⟩
            go_simp
            with_reducible rfl
          rotate_left
          · simp only [Act.put, List.setIfInBounds_toArray, List.set_cons_zero, List.set_cons_succ, i64_w, i32_w]
            rfl
          refine pure_ (i := 12) (N := (some 30)) (v := ?_) (a' := ?_) #[true, true, true, true, true, true, true, true, true, true, true, true, true, false] rfl rfl (by kernel_rfl) (fun _ _ _ h => h) (Or.inl ⟨by rfl, ?_⟩) ?_ ?_
          rotate_left
          · intro w'
            go_simp
            with_reducible rfl
          rotate_left
          · simp only [Act.put, List.setIfInBounds_toArray, List.set_cons_zero, List.set_cons_succ, i64_w, i32_w]
            rfl
          refine pure_ (i := 13) (N := (some 31)) (v := ?_) (a' := ?_) #[true, true, true, true, true, true, true, true, true, true, true, true, true, true] rfl rfl (by kernel_rfl) (fun _ _ _ h => h) (Or.inl ⟨by rfl, ?_⟩) ?_ ?_
          rotate_left
          · intro w'
            go_simp
            with_reducible rfl
          rotate_left
          · simp only [Act.put, List.setIfInBounds_toArray, List.set_cons_zero, List.set_cons_succ, i64_w, i32_w]
            rfl
          refine done_ (by kernel_rfl) ?_
          clear hHeld
          replace HBR : Aside0 (Boxed (wd.drewN q) (w.heap.size + 1 + 1) 4 (.bool false)) := HBR
          replace HBS : Aside0 (Boxed (wd.drewN q) w.heap.size 61 (.slice (some ad) l0.length c0)) := HBS
          replace HBO : Aside0 (Boxed (wd.drewN q) (w.heap.size + 1) 48 (.slice A1 l1.length c1)) := HBO
          replace HBA : Aside0 (Boxed (wd.drewN q) G 3 (.int .i64 ab)) := HBA
          replace hcO : (wd.drewN q).cell? ⟨w.heap.size + 1, 0, none⟩ = some (.slice A1 l1.length c1) := hcO
          replace hcS : (wd.drewN q).cell? ⟨w.heap.size, 0, none⟩ = some (.slice (some ad) l0.length c0) := hcS
          replace hcA : (wd.drewN q).cell? ⟨G, 0, none⟩ = some (.int .i64 ab) := hcA
          replace hfA : (wd.drewN q).frozen? ⟨G, 0, none⟩ = false := hfA
          replace hcR : (wd.drewN q).cell? ⟨w.heap.size + 1 + 1, 0, none⟩ = some (.bool false) := hcR
          replace hfR : (wd.drewN q).frozen? ⟨w.heap.size + 1 + 1, 0, none⟩ = false := hfR
          replace hx0 : (wd.drewN q).cell? (ad.add (v.toNat * 2)) = some (.int .i64 (rd_T98 l0 v).f0) := hx0
          replace hx1 : (wd.drewN q).cell? ⟨(ad.add (v.toNat * 2)).block, (ad.add (v.toNat * 2)).off + 1, none⟩ = some (.int .i64 (rd_T98 l0 v).f1) := hx1
          replace HB : Aside0 (Below w.heap.size w (wd.drewN q)) := ⟨pw_below_drewN HB.out q⟩
          replace HKF : Aside0 (KeepsFrom wl.heap.size W (wd.drewN q)) := ⟨HKF.out.trans ⟨Nat.le_refl _, fun _ _ _ h _ => h⟩⟩
          replace HKP : Aside0 (impl_isStack.Kp w.heap.size (G + 1) W (wd.drewN q)) := HKP
          clear hd hcall
          generalize wd.drewN q = wq at hcO hcS hcA hfA hcR hfR hx0 hx1 HBR HBS HBO HBA HB HKF HKP ⊢
          gi_wp2
          replace HBR : Aside0 (Boxed wq.drew (w.heap.size + 1 + 1) 4 (.bool false)) := HBR
          replace HBS : Aside0 (Boxed wq.drew w.heap.size 61 (.slice (some ad) l0.length c0)) := HBS
          replace HBO : Aside0 (Boxed wq.drew (w.heap.size + 1) 48 (.slice A1 l1.length c1)) := HBO
          replace HBA : Aside0 (Boxed wq.drew G 3 (.int .i64 ab)) := HBA
          replace hcO : wq.drew.cell? ⟨w.heap.size + 1, 0, none⟩ = some (.slice A1 l1.length c1) := hcO
          replace hcS : wq.drew.cell? ⟨w.heap.size, 0, none⟩ = some (.slice (some ad) l0.length c0) := hcS
          replace hcA : wq.drew.cell? ⟨G, 0, none⟩ = some (.int .i64 ab) := hcA
          replace hfA : wq.drew.frozen? ⟨G, 0, none⟩ = false := hfA
          replace hcR : wq.drew.cell? ⟨w.heap.size + 1 + 1, 0, none⟩ = some (.bool false) := hcR
          replace hfR : wq.drew.frozen? ⟨w.heap.size + 1 + 1, 0, none⟩ = false := hfR
          replace hx0 : wq.drew.cell? (ad.add (v.toNat * 2)) = some (.int .i64 (rd_T98 l0 v).f0) := hx0
          replace hx1 : wq.drew.cell? ⟨(ad.add (v.toNat * 2)).block, (ad.add (v.toNat * 2)).off + 1, none⟩ = some (.int .i64 (rd_T98 l0 v).f1) := hx1
          replace HB : Aside0 (Below w.heap.size w wq.drew) := ⟨HB.out.drew⟩
          replace HKF : Aside0 (KeepsFrom wl.heap.size W wq.drew) := ⟨HKF.out.trans ((KeepsOthers.drew wq).from _)⟩
          replace HKP : Aside0 (impl_isStack.Kp w.heap.size (G + 1) W wq.drew) := HKP
          refine InRound.start_in (n := 8) (S := fun w' => w'.cell? ⟨G, 0, none⟩ = some (.int .i64 ab) ∧ w'.cell? ⟨w.heap.size, 0, none⟩ = some (.slice (some ad) l0.length c0) ∧ w'.cell? (ad.add (v.toNat * 2)) = some (.int .i64 (rd_T98 l0 v).f0)) (ds := [7]) #[false, false, false, false, false, false, false, false] (by kernel_rfl) (by kernel_rfl) (by rintro ⟨_, _, h⟩; exact h) rfl rfl ⟨hcA, hcS, hx0⟩ (fun hHeld => ?_)
          generalize wq.drew = wd at hcO hcS hcA hfA hcR hfR hx0 hx1 HBR HBS HBO HBA HB HKF HKP hHeld ⊢
          refine take_ (i := 0) (N := (some 32)) (v := ?_) (a' := ?_) #[true, false, false, false, false, false, false, false] rfl rfl (by kernel_rfl) (fun _ _ _ h => h) (Or.inl ⟨by rfl, ?_⟩) hHeld ?_ ?_
          rotate_left
          · rintro w' ⟨s0, s1, s2⟩
            go_simp
            with_reducible rfl
          rotate_left
          · simp only [Act.put, List.setIfInBounds_toArray, List.set_cons_zero, List.set_cons_succ, i64_w, i32_w]
            rfl
          refine take_ (i := 1) (N := (some 33)) (v := ?_) (a' := ?_) #[true, true, false, false, false, false, false, false] rfl rfl (by kernel_rfl) (fun _ _ _ h => h) (Or.inl ⟨by rfl, ?_⟩) hHeld ?_ ?_
          rotate_left
          · rintro w' ⟨s0, s1, s2⟩
            go_simp
            with_reducible rfl
          rotate_left
          · simp only [Act.put, List.setIfInBounds_toArray, List.set_cons_zero, List.set_cons_succ, i64_w, i32_w]
            rfl
          refine pure_ (i := 2) (N := (some 34)) (v := ?_) (a' := ?_) #[true, true, true, false, false, false, false, false] rfl rfl (by kernel_rfl) (fun _ _ _ h => h) (Or.inl ⟨by rfl, ?_⟩) ?_ ?_
          rotate_left
          · intro w'
            go_simp
            with_reducible rfl
          rotate_left
          · simp only [Act.put, List.setIfInBounds_toArray, List.set_cons_zero, List.set_cons_succ, i64_w, i32_w]
            rfl
          refine pure_ (i := 3) (N := (some 35)) (v := ?_) (a' := ?_) #[true, true, true, true, false, false, false, false] rfl rfl (by kernel_rfl) (fun _ _ _ h => h) (Or.inl ⟨by rfl, ?_⟩) ?_ ?_
          rotate_left
          · intro w'
            go_simp
            with_reducible rfl
          rotate_left
          · simp only [Act.put, List.setIfInBounds_toArray, List.set_cons_zero, List.set_cons_succ, i64_w, i32_w]
            rfl
          refine pure_ (i := 4) (N := (some 36)) (v := ?_) (a' := ?_) #[true, true, true, true, true, false, false, false] rfl rfl (by kernel_rfl) (fun _ _ _ h => h) (Or.inl ⟨by rfl, ?_⟩) ?_ ?_
          rotate_left
          · intro w'
            go_simp
            with_reducible rfl
          rotate_left
          · simp only [Act.put, List.setIfInBounds_toArray, List.set_cons_zero, List.set_cons_succ, i64_w, i32_w]
            rfl
          refine take_ (i := 5) (N := (some 37)) (v := ?_) (a' := ?_) #[true, true, true, true, true, true, false, false] rfl rfl (by kernel_rfl) (fun _ _ _ h => h) (Or.inl ⟨by rfl, ?_⟩) hHeld ?_ ?_
          rotate_left
          · rintro w' ⟨s0, s1, s2⟩
            go_simp
            with_reducible rfl
          rotate_left
          · simp only [Act.put, List.setIfInBounds_toArray, List.set_cons_zero, List.set_cons_succ, i64_w, i32_w]
            rfl
          refine pure_ (i := 6) (N := (some 38)) (v := ?_) (a' := ?_) #[true, true, true, true, true, true, true, false] rfl rfl (by kernel_rfl) (fun _ _ _ h => h) (Or.inl ⟨by rfl, ?_⟩) ?_ ?_
          rotate_left
          · intro w'
            go_simp
            with_reducible rfl
          rotate_left
          · simp only [Act.put, List.setIfInBounds_toArray, List.set_cons_zero, List.set_cons_succ, i64_w, i32_w]
            rfl
          refine last_ (i := 7) (N := none) #[true, true, true, true, true, true, true, true] rfl rfl (by kernel_rfl) (by decide) (fun K hK => ?_)
          refine skip_ (w1 := wd.setCell ⟨G, 0, none⟩ (.int .i64 (wrap64 (ab + (rd_T98 l0 v).f0)))) (by rfl) rfl ?hrun ?_
          case hrun =>
            go_simp
          refine hK.out _ _ ?_
          clear hK K
          refine done_ (by kernel_rfl) ?_
          clear hHeld
          replace HKF := Aside0.mk (HKF.out.trans ((KeepsOthers.setCell wd ⟨G, 0, none⟩ (.int .i64 (wrap64 (ab + (rd_T98 l0 v).f0)))).from _))
          gi_wp2
          exact ⟨HKF.out, fun k hk => (Below.heap_setCell _ _ _ k (by rcases hk with hk | hk <;> simp <;> omega)).trans (HKP.out k hk), ⟨HBS.out.other (by omega) _, HBO.out.other (by omega) _, HBR.out.other (by omega) _, _, HBA.out.set _, fun h => by rw [HS.out h, if_neg (by rw [hb]; simp; omega)]⟩, HB.out.setCell (p := ⟨G, 0, none⟩) (by simp; omega) _⟩
    case done =>
      rintro D ys W hD rfl ⟨⟨_, _, hbR, ab, _, heq⟩, hB⟩ hK
      have hcr := hbR.cell
      have hfr := hbR.frozen
      gi_wp2
      have hK' := (KeepsOthers.setCell W ⟨w.heap.size + 1 + 1, 0, none⟩ (.bool true)).same D _ hK rfl
      refine ⟨by simp, .inl ⟨_, _, rfl, run_takeDeferred hK', ?_⟩⟩
      have hc5 := cell_kept (World.cell?_setCell_same' W ⟨w.heap.size + 1 + 1, 0, none⟩ (.bool true) (by rw [hcr]; rfl)) (grownBy_putObj' _ D (.deferred none)) (fun r e => by cases e; exact ⟨_, hK', rfl⟩)
      have hv : impl_isStack.chk l0 l1.reverse 0 = true := by
        rw [heq (by rw [impl_isStack.upto_length (Nat.le_refl _)]), impl_isStack.upto_length (Nat.le_refl _), Nat.sub_self]; rfl
      refine ⟨.bool true, ?_, by rw [hv]; rfl, (hB.setCell (p := ⟨w.heap.size + 1 + 1, 0, none⟩) (by simp; omega) _).trans (belowK_b (w := w) (Nat.le_refl _) _ D _ _ (by omega) hK' rfl rfl)⟩
      simp [results, Try.f106, go_sem, hc5]
    case stop =>
      rintro D c pre W hD ⟨k, hk, rfl⟩ ⟨⟨rfl, hbR, heq⟩, hB⟩ hK
      have hcr := hbR.cell
      gi_wp2
      refine ⟨by simp, .inl ⟨_, _, rfl, run_takeDeferred hK, ?_⟩⟩
      have hc5 := cell_kept hcr (grownBy_putObj' _ D (.deferred none)) (fun r e => by cases e; exact ⟨_, hK, rfl⟩)
      refine ⟨.bool false, ?_, by rw [heq (by rw [impl_isStack.upto_length hk])]; rfl, hB.trans (belowK_b (w := w) (Nat.le_refl _) _ D _ _ (by omega) hK rfl rfl)⟩
      simp [results, Try.f106, go_sem, hc5]
  · have hall' : (l1.all fun n => decide (0 ≤ n) && decide (n ≤ (l0.length : Int) - 1)) = false := Bool.eq_false_iff.2 hall
    rw [hall'] at hw1 ⊢
    have HB := Aside0.mk (Below.refl w.heap.size w)
    clear hall hall'
    go_enter Try.func106, Try.ntmps106
    go_wp2_with (first
      | ((with_reducible refine gate_dst (N := 2) rfl ?_); refine box_event ?hg (N := 2) ?hd (cs := #[.slice A0 l0.length c0]) (t := 61) ?hr ?_; (case hd => rfl); (case hg => rfl); (case hr => first | (go_simp; done) | (go_simp; rfl)); intro g1 hg w1 hbox hb; have n0_ := Aside0.mk (below_step HB.out hb); clear HB; have HB := n0_; clear n0_; have X1 := Aside0.mk hbox; clear hb hbox hg)
      | ((with_reducible refine gate_dst (N := 3) rfl ?_); refine box_event ?hg (N := 3) ?hd (cs := #[.slice A1 l1.length c1]) (t := 48) ?hr ?_; (case hd => rfl); (case hg => rfl); (case hr => first | (go_simp; done) | (go_simp; rfl)); intro g2 hg w2 hbox hb; have n0_ := Aside0.mk (below_step HB.out hb); have n1_ := Aside0.mk (blk_below X1.out hb); clear HB X1; have HB := n0_; have X1 := n1_; clear n0_ n1_; have X2 := Aside0.mk hbox; have hcz2 : w2.cell? ⟨g2, 0, none⟩ = some (.slice A1 l1.length c1) := (blk_cell hbox 0).trans rfl; clear hb hbox hg)
      | ((with_reducible refine gate_dst (N := 4) rfl ?_); refine box_event ?hg (N := 4) ?hd (cs := #[.bool false]) (t := 4) ?hr ?_; (case hd => rfl); (case hg => rfl); (case hr => first | (go_simp; done) | (go_simp; rfl)); intro g3 hg w3 hbox hb; have n0_ := Aside0.mk (below_step HB.out hb); have G3 := Aside0.mk ((by rw [hg]; exact HB.out.size) : w.heap.size ≤ g3); have n1_ := Aside0.mk (blk_below X1.out hb); have n2_ := Aside0.mk (blk_below X2.out hb); clear HB X1 X2 hcz2; have HB := n0_; have X1 := n1_; have X2 := n2_; clear n0_ n1_ n2_; have X3 := Aside0.mk hbox; have hcz1 : w3.cell? ⟨g1, 0, none⟩ = some (.slice A0 l0.length c0) := (blk_cell X1.out 0).trans rfl; have hcz2 : w3.cell? ⟨g2, 0, none⟩ = some (.slice A1 l1.length c1) := (blk_cell X2.out 0).trans rfl; clear hb hbox hg)
      | (go_at_call 104; go_loud (refine (hw1 _ HB.out).mono ?_; rintro e w4 ⟨rfl, hb⟩); have n0_ := Aside0.mk (below_step HB.out hb); have n3_ := Aside0.mk (blk_below X3.out hb); clear HB X3 hcz1 hcz2 X1 X2; have HB := n0_; have X3 := n3_; have hcz3 : w4.cell? ⟨g3, 0, none⟩ = some (.bool false) := (blk_cell X3.out 0).trans rfl; have hfz3 := blk_frozen X3.out 0; clear hb n0_ n3_))
    have hc5 := World.cell?_setCell_same' w4 ⟨g3, 0, none⟩ (.bool false) (by rw [hcz3]; rfl)
    refine bodyPost_ret (v := .bool false) (by simp [results, Try.f106, go_sem, hc5]) rfl ?_
    exact ⟨rfl, below_set (j := 0) (v := .bool false) HB.out G3.out⟩
end

end Go.Proofs.Ythlebenfnlllhaa.PFnExactMostStacked
