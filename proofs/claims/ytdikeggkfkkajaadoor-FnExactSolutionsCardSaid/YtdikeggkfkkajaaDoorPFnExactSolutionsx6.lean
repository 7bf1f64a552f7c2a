-- Made by a program of this session (wip/xprint.py) out of the translation.
import Derived.Test.YtdikeggkfkkajaaDoorPFnExactSolutionsx0
namespace Go.Proofs.YtdikeggkfkkajaaDoor.PFnExactSolutions
open Go.RowKit Go.Proofs.YtdikeggkfkkajaaDoorW.PrintWords Go.Proofs.YtdikeggkfkkajaaDoorW.PrintLast Go.Proofs.YtdikeggkfkkajaaDoorW.PrintMore
attribute [local go_sem] max2_int min2_int max_two min_two max_three min_three max_four min_four   -- for this text's walks alone
set_option linter.unusedVariables false
set_option linter.unusedSimpArgs false

/-! ### impl_Clue_108: function 108 -/
set_option maxHeartbeats 4000000 in
set_option maxRecDepth 100000 in
theorem impl_Clue_108.calls (A0 : Option Addr) (c0 : Nat) (l0 : List (S69)) (g : Nat) (lb : Array Value) (p : S69 → Bool) (w0 w : World) (eg : ∀ args w, (callFunc g args).run Tryd.prog w = .ok (.enter g args) w) (hr0 : Kd.C k69 w0 A0 l0.length l0) (hw : Below w0.heap.size w0 w)
  (hp : ∀ (W : World) (x : S69), x ∈ l0 → Below w0.heap.size w0 W → Calls Tryd.prog g (#[.agg #[.int .i64 ((x).f0), .int .i64 ((x).f1), .int .i64 ((x).f2)]] ++ lb) W fun e w' => e = .returned (.bool (p x)) ∧ Below w0.heap.size w0 w') :
  Calls Tryd.prog 108 #[.slice A0 l0.length c0, .func (.func g) #[] lb] w fun e w' => e = .returned (.int .i64 (Lam.idxP p l0)) ∧ Below w0.heap.size w0 w' := by
 have hlen : (l0.length : Int) ≤ 9223372036854775807 := by have := hr0.2.1; omega
 have HR0 := Aside0.mk hr0
 have HW := Aside0.mk hw
 have HP := Aside0.mk hp
 clear hr0 hw hp
 go_enter Tryd.func108, Tryd.ntmps108
 go_wp2
 go_loopg [5, 8] l0.length (fun gg _ s8 wr => ∃ kk : Nat, kk ≤ l0.length ∧ l0.length - kk ≤ gg ∧ s8 = .int .i64 kk ∧ Aside0 (Below w0.heap.size w0 wr) ∧ Aside0 (∀ j, j < kk → p (l0.getD j z69) = false))
 case atStart => exact ⟨0, Nat.zero_le _, by omega, rfl, HW, ⟨fun j hj => absurd hj (Nat.not_lt_zero _)⟩⟩
 case round =>
  obtain ⟨kk, hkk, hg, rfl, BW, HA⟩ := hrel
  by_cases hlt : kk < l0.length
  ·have hltz : (kk : Int) < (l0.length : Int) := by omega
   obtain ⟨ad, cs_, e_, _, hK_, hc_⟩ := Kd.C_get HR0.out z69 (kk : Int) (by omega) hltz
   have hmem := Lam.getD_mem hlt z69
   have hcall := HP.out wr (l0.getD kk z69) hmem BW.out
   have hK2 : (k69).K w0 (l0.getD kk z69) cs_ := hK_
   have HY := Aside0.mk (rfl : l0.getD kk z69 = l0.getD kk z69)
   generalize hy : l0.getD kk z69 = y at hcall hK2 HY
   have HYY := Aside0.mk hy
   clear hy HY hmem hK_
   obtain rfl := k69_open hK2
   have hx0 := (BW.out.cell (World.block_lt_of_cell? w0 _ (hc_ 0 _ rfl))).trans (hc_ 0 _ rfl)
   rw [show ((kk : Int).toNat * (k69).sz + 0) = kk * 3 + 0 from rfl] at hx0
   rw [Nat.add_zero] at hx0
   have hx1 := (BW.out.cell (World.block_lt_of_cell? w0 _ (hc_ 1 _ rfl))).trans (hc_ 1 _ rfl)
   rw [show ((kk : Int).toNat * (k69).sz + 1) = kk * 3 + 1 from rfl] at hx1
   rw [add_field _ _ 1 (by omega)] at hx1
   have hx2 := (BW.out.cell (World.block_lt_of_cell? w0 _ (hc_ 2 _ rfl))).trans (hc_ 2 _ rfl)
   rw [show ((kk : Int).toNat * (k69).sz + 2) = kk * 3 + 2 from rfl] at hx2
   rw [add_field _ _ 2 (by omega)] at hx2
   clear hc_
   subst e_
   cases hq : p y with
   | true =>
    rw [hq] at hcall
    go_wp2_with (go_at_fn g; refine hcall.mono ?_; rintro e w' ⟨rfl, hb'⟩)
    go_ret
    refine ⟨?_, hb'⟩
    rw [Lam.idxP_hit z69 hlt HA.out (by rw [HYY.out]; exact hq)]; rfl
   | false =>
    rw [hq] at hcall
    go_wp2_with (go_at_fn g; refine hcall.mono ?_; rintro e w' ⟨rfl, hb'⟩)
    go_roundg (l0.length - (kk + 1))
    case measure => omega
    case rel =>
     refine ⟨kk + 1, by omega, by omega, by go_num, ⟨hb'⟩, ⟨fun j hj => ?_⟩⟩
     by_cases e : j = kk
     ·subst e
      rw [HYY.out]; exact hq
     ·exact HA.out j (by omega)
  ·have hltz : ¬ (kk : Int) < (l0.length : Int) := by omega
   obtain rfl : kk = l0.length := by omega
   go_wp2
   go_ret
   refine ⟨?_, BW.out⟩
   rw [Lam.idxP_miss z69 HA.out]; rfl
set_option maxHeartbeats 4000000 in
set_option maxRecDepth 100000 in
theorem impl_Clue_108.callsI (A0 : Option Addr) (c0 : Nat) (l0 : List (S69)) (g : Nat) (lb : Array Value) (p : S69 → Bool) (I : World → Prop) (w : World) (eg : ∀ args w, (callFunc g args).run Tryd.prog w = .ok (.enter g args) w) (hlen : (l0.length : Int) ≤ 9223372036854775807) (hC : ∀ W, I W → Kd.C k69 W A0 l0.length l0) (hI : I w)
  (hp : ∀ (W : World) (x : S69), x ∈ l0 → I W → Calls Tryd.prog g (#[.agg #[.int .i64 ((x).f0), .int .i64 ((x).f1), .int .i64 ((x).f2)]] ++ lb) W fun e w' => e = .returned (.bool (p x)) ∧ I w') :
  Calls Tryd.prog 108 #[.slice A0 l0.length c0, .func (.func g) #[] lb] w fun e w' => e = .returned (.int .i64 (Lam.idxP p l0)) ∧ I w' := by
 have HI := Aside0.mk hI
 have HC := Aside0.mk hC
 have HP := Aside0.mk hp
 clear hC hI hp
 go_enter Tryd.func108, Tryd.ntmps108
 go_wp2
 go_loopg [5, 8] l0.length (fun gg _ s8 wr => ∃ kk : Nat, kk ≤ l0.length ∧ l0.length - kk ≤ gg ∧ s8 = .int .i64 kk ∧ Aside0 (I wr) ∧ Aside0 (∀ j, j < kk → p (l0.getD j z69) = false))
 case atStart => exact ⟨0, Nat.zero_le _, by omega, rfl, HI, ⟨fun j hj => absurd hj (Nat.not_lt_zero _)⟩⟩
 case round =>
  clear HI
  obtain ⟨kk, hkk, hg, rfl, HI, HA⟩ := hrel
  by_cases hlt : kk < l0.length
  ·have hltz : (kk : Int) < (l0.length : Int) := by omega
   obtain ⟨ad, cs_, e_, _, hK_, hc_⟩ := Kd.C_get (HC.out wr HI.out) z69 (kk : Int) (by omega) hltz
   have hmem := Lam.getD_mem hlt z69
   have hcall := HP.out wr (l0.getD kk z69) hmem HI.out
   have hK2 : (k69).K wr (l0.getD kk z69) cs_ := hK_
   have HY := Aside0.mk (rfl : l0.getD kk z69 = l0.getD kk z69)
   generalize hy : l0.getD kk z69 = y at hcall hK2 HY
   have HYY := Aside0.mk hy
   clear hy HY hmem hK_
   obtain rfl := k69_open hK2
   have hx0 := hc_ 0 _ rfl
   rw [show ((kk : Int).toNat * (k69).sz + 0) = kk * 3 + 0 from rfl] at hx0
   rw [Nat.add_zero] at hx0
   have hx1 := hc_ 1 _ rfl
   rw [show ((kk : Int).toNat * (k69).sz + 1) = kk * 3 + 1 from rfl] at hx1
   rw [add_field _ _ 1 (by omega)] at hx1
   have hx2 := hc_ 2 _ rfl
   rw [show ((kk : Int).toNat * (k69).sz + 2) = kk * 3 + 2 from rfl] at hx2
   rw [add_field _ _ 2 (by omega)] at hx2
   clear hc_
   subst e_
   cases hq : p y with
   | true =>
    rw [hq] at hcall
    go_wp2_with (go_at_fn g; refine hcall.mono ?_; rintro e w' ⟨rfl, hb'⟩)
    go_ret
    refine ⟨?_, hb'⟩
    rw [Lam.idxP_hit z69 hlt HA.out (by rw [HYY.out]; exact hq)]; rfl
   | false =>
    rw [hq] at hcall
    go_wp2_with (go_at_fn g; refine hcall.mono ?_; rintro e w' ⟨rfl, hb'⟩)
    go_roundg (l0.length - (kk + 1))
    case measure => omega
    case rel =>
     refine ⟨kk + 1, by omega, by omega, by go_num, ⟨hb'⟩, ⟨fun j hj => ?_⟩⟩
     by_cases e : j = kk
     ·subst e
      rw [HYY.out]; exact hq
     ·exact HA.out j (by omega)
  ·have hltz : ¬ (kk : Int) < (l0.length : Int) := by omega
   obtain rfl : kk = l0.length := by omega
   go_wp2
   go_ret
   refine ⟨?_, HI.out⟩
   rw [Lam.idxP_miss z69 HA.out]; rfl

/-! ### impl_Clue_68: function 68 -/
set_option maxHeartbeats 4000000 in
set_option maxRecDepth 100000 in
theorem impl_Clue_68.calls (A0 : Option Addr) (c0 : Nat) (l0 : List (S69)) (g : Nat) (lb : Array Value) (p : S69 → Bool) (w0 w : World) (eg : ∀ args w, (callFunc g args).run Tryd.prog w = .ok (.enter g args) w) (hr0 : Kd.C k69 w0 A0 l0.length l0) (hw : Below w0.heap.size w0 w)
  (hp : ∀ (W : World) (x : S69), x ∈ l0 → Below w0.heap.size w0 W → Calls Tryd.prog g (#[.agg #[.int .i64 ((x).f0), .int .i64 ((x).f1), .int .i64 ((x).f2)]] ++ lb) W fun e w' => e = .returned (.bool (p x)) ∧ Below w0.heap.size w0 w') :
  Calls Tryd.prog 68 #[.slice A0 l0.length c0, .func (.func g) #[] lb] w fun e w' => e = .returned (.bool (l0.any p)) ∧ Below w0.heap.size w0 w' := by
 rw [← Lam.idxP_any p l0]
 have hcall := impl_Clue_108.calls A0 c0 l0 g lb p w0 w eg hr0 hw hp
 clear hr0 hw hp eg
 generalize Lam.idxP p l0 = q at hcall
 go_enter Tryd.func68, Tryd.ntmps68
 go_wp2_with (go_at_call 108; refine hcall.mono ?_; rintro e w' ⟨rfl, hb'⟩)
 go_ret
 exact ⟨rfl, hb'⟩
set_option maxHeartbeats 4000000 in
set_option maxRecDepth 100000 in
theorem impl_Clue_68.callsI (A0 : Option Addr) (c0 : Nat) (l0 : List (S69)) (g : Nat) (lb : Array Value) (p : S69 → Bool) (I : World → Prop) (w : World) (eg : ∀ args w, (callFunc g args).run Tryd.prog w = .ok (.enter g args) w) (hlen : (l0.length : Int) ≤ 9223372036854775807) (hC : ∀ W, I W → Kd.C k69 W A0 l0.length l0) (hI : I w)
  (hp : ∀ (W : World) (x : S69), x ∈ l0 → I W → Calls Tryd.prog g (#[.agg #[.int .i64 ((x).f0), .int .i64 ((x).f1), .int .i64 ((x).f2)]] ++ lb) W fun e w' => e = .returned (.bool (p x)) ∧ I w') :
  Calls Tryd.prog 68 #[.slice A0 l0.length c0, .func (.func g) #[] lb] w fun e w' => e = .returned (.bool (l0.any p)) ∧ I w' := by
 rw [← Lam.idxP_any p l0]
 have hcall := impl_Clue_108.callsI A0 c0 l0 g lb p I w eg hlen hC hI hp
 clear hC hI hp eg
 generalize Lam.idxP p l0 = q at hcall
 go_enter Tryd.func68, Tryd.ntmps68
 go_wp2_with (go_at_call 108; refine hcall.mono ?_; rintro e w' ⟨rfl, hb'⟩)
 go_ret
 exact ⟨rfl, hb'⟩

/-! ### impl_within: function 49 -/
def impl_within.f (a0 : Int) (a1 : Int) (a2 : Int) : Option (Bool) := if a1 ≤ a0 then (some (decide (a0 ≤ a2))) else (some false)
set_option maxHeartbeats 8000000 in
set_option maxRecDepth 100000 in
theorem impl_within.calls (a0 : Int) (a1 : Int) (a2 : Int) (r : Bool) (w : World) (h : impl_within.f a0 a1 a2 = some r) :
  Calls Tryd.prog 49 #[.int .i64 a0, .int .i64 a1, .int .i64 a2] w fun e w' => e = .returned (.bool r) ∧ Drawn0 w w' := by
 have H : (if a1 ≤ a0 then (some (decide (a0 ≤ a2))) else (some false)) = some r := h
 clear h
 by_cases c4 : a1 ≤ a0
 ·rw [if_pos c4] at H
  have c4b0 : decide (a1 ≤ a0) = true := decide_eq_true c4
  clear c4
  obtain rfl := Option.some.inj H
  go_enter Tryd.func49, Tryd.ntmps49
  go_wp2
  go_ret
  exact ⟨by first | rfl | (simp; done) | (simp [*]; done), by repeat (first | exact Drawn0.refl _ | apply Drawn0.step)⟩
 ·rw [if_neg c4] at H
  have c4b0 : decide (a1 ≤ a0) = false := decide_eq_false c4
  clear c4
  obtain rfl := Option.some.inj H
  go_enter Tryd.func49, Tryd.ntmps49
  go_wp2
  go_ret
  exact ⟨by first | rfl | (simp; done) | (simp [*]; done), by repeat (first | exact Drawn0.refl _ | apply Drawn0.step)⟩

/-! ### impl_IsClue: function 70 -/
def impl_IsClue.f (a0_0 : Int) (a0_1 : Int) (a0_2 : Int) : Option (Bool) := (impl_within.f a0_0 0 5).bind fun t178 => (if t178 = true then (if a0_0 = 1 then ((impl_within.f a0_1 0 3).bind fun t179 => (if t179 = true then ((impl_within.f a0_2 0 20).bind fun t180 => (some t180)) else (some false))) else (if a0_0 = 2 then ((impl_within.f a0_1 0 0).bind fun t181 => (if t181 = true then ((impl_within.f a0_2 0 1).bind fun t182 => (some t182)) else (some false))) else (if a0_0 = 4 then ((impl_within.f a0_1 0 4).bind fun t183 => (if t183 = true then ((impl_within.f a0_2 0 20).bind fun t184 => (some t184)) else (some false))) else ((impl_within.f a0_1 0 0).bind fun t185 => (if t185 = true then ((impl_within.f a0_2 0 20).bind fun t186 => (some t186)) else (some false)))))) else (some false))
set_option maxHeartbeats 8000000 in
set_option maxRecDepth 100000 in
theorem impl_IsClue.calls (a0_0 : Int) (a0_1 : Int) (a0_2 : Int) (r : Bool) (w : World) (h : impl_IsClue.f a0_0 a0_1 a0_2 = some r) :
  Calls Tryd.prog 70 #[.agg #[.int .i64 a0_0, .int .i64 a0_1, .int .i64 a0_2]] w fun e w' => e = .returned (.bool r) ∧ Below w.heap.size w w' := by
 have hu69 := Tryd.underlying69
 have HB := Aside0.mk (Below.refl w.heap.size w)
 have H : ((impl_within.f a0_0 0 5).bind fun t178 => (if t178 = true then (if a0_0 = 1 then ((impl_within.f a0_1 0 3).bind fun t179 => (if t179 = true then ((impl_within.f a0_2 0 20).bind fun t180 => (some t180)) else (some false))) else (if a0_0 = 2 then ((impl_within.f a0_1 0 0).bind fun t181 => (if t181 = true then ((impl_within.f a0_2 0 1).bind fun t182 => (some t182)) else (some false))) else (if a0_0 = 4 then ((impl_within.f a0_1 0 4).bind fun t183 => (if t183 = true then ((impl_within.f a0_2 0 20).bind fun t184 => (some t184)) else (some false))) else ((impl_within.f a0_1 0 0).bind fun t185 => (if t185 = true then ((impl_within.f a0_2 0 20).bind fun t186 => (some t186)) else (some false)))))) else (some false))) = some r := h
 clear h
 replace H := Option.bind_eq_some_iff.mp H
 obtain ⟨t178, A20, H⟩ := H
 replace H : (if t178 = true then (if a0_0 = 1 then ((impl_within.f a0_1 0 3).bind fun t179 => (if t179 = true then ((impl_within.f a0_2 0 20).bind fun t180 => (some t180)) else (some false))) else (if a0_0 = 2 then ((impl_within.f a0_1 0 0).bind fun t181 => (if t181 = true then ((impl_within.f a0_2 0 1).bind fun t182 => (some t182)) else (some false))) else (if a0_0 = 4 then ((impl_within.f a0_1 0 4).bind fun t183 => (if t183 = true then ((impl_within.f a0_2 0 20).bind fun t184 => (some t184)) else (some false))) else ((impl_within.f a0_1 0 0).bind fun t185 => (if t185 = true then ((impl_within.f a0_2 0 20).bind fun t186 => (some t186)) else (some false)))))) else (some false)) = some r := H
 have A2 := Aside0.mk A20
 clear A20
 by_cases c3 : t178 = true
 ·subst c3
  have H1 : (if a0_0 = 1 then ((impl_within.f a0_1 0 3).bind fun t179 => (if t179 = true then ((impl_within.f a0_2 0 20).bind fun t180 => (some t180)) else (some false))) else (if a0_0 = 2 then ((impl_within.f a0_1 0 0).bind fun t181 => (if t181 = true then ((impl_within.f a0_2 0 1).bind fun t182 => (some t182)) else (some false))) else (if a0_0 = 4 then ((impl_within.f a0_1 0 4).bind fun t183 => (if t183 = true then ((impl_within.f a0_2 0 20).bind fun t184 => (some t184)) else (some false))) else ((impl_within.f a0_1 0 0).bind fun t185 => (if t185 = true then ((impl_within.f a0_2 0 20).bind fun t186 => (some t186)) else (some false)))))) = some r := by rw [if_pos rfl] at H; exact H
  clear H
  have H := H1
  clear H1
  by_cases c4 : a0_0 = 1
  ·rw [if_pos c4] at H
   have c4b0 : (a0_0 == 1) = true := beq_iff_eq.mpr c4
   have c4b1 : (a0_0 != 1) = false := bne_eq_false_iff_eq.mpr c4
   clear c4
   replace H := Option.bind_eq_some_iff.mp H
   obtain ⟨t179, A50, H⟩ := H
   replace H : (if t179 = true then ((impl_within.f a0_2 0 20).bind fun t180 => (some t180)) else (some false)) = some r := H
   have A5 := Aside0.mk A50
   clear A50
   by_cases c6 : t179 = true
   ·subst c6
    have H1 : ((impl_within.f a0_2 0 20).bind fun t180 => (some t180)) = some r := by rw [if_pos rfl] at H; exact H
    clear H
    have H := H1
    clear H1
    replace H := Option.bind_eq_some_iff.mp H
    obtain ⟨t180, A70, H⟩ := H
    replace H : (some t180) = some r := H
    have A7 := Aside0.mk A70
    clear A70
    obtain rfl := Option.some.inj H
    go_enter Tryd.func70, Tryd.ntmps70
    go_wp2_with (first | ((with_reducible refine gate_dst (N := 1) rfl ?_); refine box_event ?hg (N := 1) ?hd (cs := #[.int .i64 a0_0, .int .i64 a0_1, .int .i64 a0_2]) (t := 69) ?hr ?_; (case hd => rfl); (case hg => rfl); (case hr => first | (go_simp; done) | (go_simp; rfl)); intro gb177 hg w8 hbox hb; have n0_ := Aside0.mk (below_step (Lam.al) hb); have n1_ := Aside0.mk (hbox); have n2_ := Aside0.mk ((by rw [hg]; exact (below_size (Lam.al)) : w.heap.size ≤ gb177)); have n3_ := Aside0.mk ((by rw [hg]; exact (below_size (Lam.al)) : w.heap.size ≤ gb177)); clear HB; have HB := n0_; have BK177 := n1_; have GW177 := n2_; have GE177 := n3_; clear n0_ n1_ n2_ n3_; clear hb hbox hg; have hcz9_0 : w8.cell? ⟨gb177, 0, none⟩ = some (.int .i64 a0_0) := (blk_cell BK177.out 0).trans rfl; have hcz9_1 : w8.cell? ⟨gb177, 1, none⟩ = some (.int .i64 a0_1) := (blk_cell BK177.out 1).trans rfl; have hcz9_2 : w8.cell? ⟨gb177, 2, none⟩ = some (.int .i64 a0_2) := (blk_cell BK177.out 2).trans rfl; have hfz9_0 := blk_frozen BK177.out 0; have hfz9_1 := blk_frozen BK177.out 1; have hfz9_2 := blk_frozen BK177.out 2) | ((with_reducible refine gate_callee (f := 49) rfl ?_); refine goesL_ (some 7) rfl rfl Tryd.func49 (by kernel_rfl) rfl #[.int .i64 a0_0, .int .i64 0, .int .i64 5] rfl (by (try simp only [List.map_toArray, List.map_cons, List.map_nil]); first | done | rfl | (simp only [List.length_drop, List.length_take]; rfl)) ?_; (with_reducible refine (impl_within.calls a0_0 0 5 true _ A2.out).mono ?_); rintro e w' ⟨rfl, ⟨nd, rfl⟩⟩; refine ⟨_, rfl, ?_⟩) | ((with_reducible refine gate_callee (f := 49) rfl ?_); refine goesL_ (some 20) rfl rfl Tryd.func49 (by kernel_rfl) rfl #[.int .i64 a0_1, .int .i64 0, .int .i64 3] rfl (by (try simp only [List.map_toArray, List.map_cons, List.map_nil]); first | done | rfl | (simp only [List.length_drop, List.length_take]; rfl)) ?_; (with_reducible refine (impl_within.calls a0_1 0 3 true _ A5.out).mono ?_); rintro e w' ⟨rfl, ⟨nd, rfl⟩⟩; refine ⟨_, rfl, ?_⟩) | (go_at_call 49; (with_reducible refine (impl_within.calls a0_2 0 20 t180 _ A7.out).mono ?_); rintro e w' ⟨rfl, ⟨nd, rfl⟩⟩))
    go_ret
    exact ⟨by first | rfl | (simp [errW_none, errW_some] <;> rfl) | (simp [*, errW_none, errW_some] <;> rfl), Lam.al⟩
   ·replace c6 := Bool.eq_false_iff.mpr c6
    subst c6
    have H1 : (some false) = some r := by rw [if_neg (show ¬ (false = true) by decide)] at H; exact H
    clear H
    have H := H1
    clear H1
    obtain rfl := Option.some.inj H
    go_enter Tryd.func70, Tryd.ntmps70
    go_wp2_with (first | ((with_reducible refine gate_dst (N := 1) rfl ?_); refine box_event ?hg (N := 1) ?hd (cs := #[.int .i64 a0_0, .int .i64 a0_1, .int .i64 a0_2]) (t := 69) ?hr ?_; (case hd => rfl); (case hg => rfl); (case hr => first | (go_simp; done) | (go_simp; rfl)); intro gb177 hg w10 hbox hb; have n0_ := Aside0.mk (below_step (Lam.al) hb); have n1_ := Aside0.mk (hbox); have n2_ := Aside0.mk ((by rw [hg]; exact (below_size (Lam.al)) : w.heap.size ≤ gb177)); have n3_ := Aside0.mk ((by rw [hg]; exact (below_size (Lam.al)) : w.heap.size ≤ gb177)); clear HB; have HB := n0_; have BK177 := n1_; have GW177 := n2_; have GE177 := n3_; clear n0_ n1_ n2_ n3_; clear hb hbox hg; have hcz11_0 : w10.cell? ⟨gb177, 0, none⟩ = some (.int .i64 a0_0) := (blk_cell BK177.out 0).trans rfl; have hcz11_1 : w10.cell? ⟨gb177, 1, none⟩ = some (.int .i64 a0_1) := (blk_cell BK177.out 1).trans rfl; have hcz11_2 : w10.cell? ⟨gb177, 2, none⟩ = some (.int .i64 a0_2) := (blk_cell BK177.out 2).trans rfl; have hfz11_0 := blk_frozen BK177.out 0; have hfz11_1 := blk_frozen BK177.out 1; have hfz11_2 := blk_frozen BK177.out 2) | ((with_reducible refine gate_callee (f := 49) rfl ?_); refine goesL_ (some 7) rfl rfl Tryd.func49 (by kernel_rfl) rfl #[.int .i64 a0_0, .int .i64 0, .int .i64 5] rfl (by (try simp only [List.map_toArray, List.map_cons, List.map_nil]); first | done | rfl | (simp only [List.length_drop, List.length_take]; rfl)) ?_; (with_reducible refine (impl_within.calls a0_0 0 5 true _ A2.out).mono ?_); rintro e w' ⟨rfl, ⟨nd, rfl⟩⟩; refine ⟨_, rfl, ?_⟩) | ((with_reducible refine gate_callee (f := 49) rfl ?_); refine goesL_ (some 20) rfl rfl Tryd.func49 (by kernel_rfl) rfl #[.int .i64 a0_1, .int .i64 0, .int .i64 3] rfl (by (try simp only [List.map_toArray, List.map_cons, List.map_nil]); first | done | rfl | (simp only [List.length_drop, List.length_take]; rfl)) ?_; (with_reducible refine (impl_within.calls a0_1 0 3 false _ A5.out).mono ?_); rintro e w' ⟨rfl, ⟨nd, rfl⟩⟩; refine ⟨_, rfl, ?_⟩))
    go_ret
    exact ⟨by first | rfl | (simp [errW_none, errW_some] <;> rfl) | (simp [*, errW_none, errW_some] <;> rfl), Lam.al⟩
  ·rw [if_neg c4] at H
   have c4b0 : (a0_0 == 1) = false := beq_eq_false_iff_ne.mpr c4
   have c4b1 : (a0_0 != 1) = true := bne_iff_ne.mpr c4
   by_cases c12 : a0_0 = 2
   ·rw [if_pos c12] at H
    have c12b0 : (a0_0 == 2) = true := beq_iff_eq.mpr c12
    have c12b1 : (a0_0 != 2) = false := bne_eq_false_iff_eq.mpr c12
    clear c12
    replace H := Option.bind_eq_some_iff.mp H
    obtain ⟨t181, A130, H⟩ := H
    replace H : (if t181 = true then ((impl_within.f a0_2 0 1).bind fun t182 => (some t182)) else (some false)) = some r := H
    have A13 := Aside0.mk A130
    clear A130
    by_cases c14 : t181 = true
    ·subst c14
     have H1 : ((impl_within.f a0_2 0 1).bind fun t182 => (some t182)) = some r := by rw [if_pos rfl] at H; exact H
     clear H
     have H := H1
     clear H1
     replace H := Option.bind_eq_some_iff.mp H
     obtain ⟨t182, A150, H⟩ := H
     replace H : (some t182) = some r := H
     have A15 := Aside0.mk A150
     clear A150
     obtain rfl := Option.some.inj H
     go_enter Tryd.func70, Tryd.ntmps70
     go_wp2_with (first | ((with_reducible refine gate_dst (N := 1) rfl ?_); refine box_event ?hg (N := 1) ?hd (cs := #[.int .i64 a0_0, .int .i64 a0_1, .int .i64 a0_2]) (t := 69) ?hr ?_; (case hd => rfl); (case hg => rfl); (case hr => first | (go_simp; done) | (go_simp; rfl)); intro gb177 hg w16 hbox hb; have n0_ := Aside0.mk (below_step (Lam.al) hb); have n1_ := Aside0.mk (hbox); have n2_ := Aside0.mk ((by rw [hg]; exact (below_size (Lam.al)) : w.heap.size ≤ gb177)); have n3_ := Aside0.mk ((by rw [hg]; exact (below_size (Lam.al)) : w.heap.size ≤ gb177)); clear HB; have HB := n0_; have BK177 := n1_; have GW177 := n2_; have GE177 := n3_; clear n0_ n1_ n2_ n3_; clear hb hbox hg; have hcz17_0 : w16.cell? ⟨gb177, 0, none⟩ = some (.int .i64 a0_0) := (blk_cell BK177.out 0).trans rfl; have hcz17_1 : w16.cell? ⟨gb177, 1, none⟩ = some (.int .i64 a0_1) := (blk_cell BK177.out 1).trans rfl; have hcz17_2 : w16.cell? ⟨gb177, 2, none⟩ = some (.int .i64 a0_2) := (blk_cell BK177.out 2).trans rfl; have hfz17_0 := blk_frozen BK177.out 0; have hfz17_1 := blk_frozen BK177.out 1; have hfz17_2 := blk_frozen BK177.out 2) | ((with_reducible refine gate_callee (f := 49) rfl ?_); refine goesL_ (some 7) rfl rfl Tryd.func49 (by kernel_rfl) rfl #[.int .i64 a0_0, .int .i64 0, .int .i64 5] rfl (by (try simp only [List.map_toArray, List.map_cons, List.map_nil]); first | done | rfl | (simp only [List.length_drop, List.length_take]; rfl)) ?_; (with_reducible refine (impl_within.calls a0_0 0 5 true _ A2.out).mono ?_); rintro e w' ⟨rfl, ⟨nd, rfl⟩⟩; refine ⟨_, rfl, ?_⟩) | ((with_reducible refine gate_callee (f := 49) rfl ?_); refine goesL_ (some 20) rfl rfl Tryd.func49 (by kernel_rfl) rfl #[.int .i64 a0_1, .int .i64 0, .int .i64 0] rfl (by (try simp only [List.map_toArray, List.map_cons, List.map_nil]); first | done | rfl | (simp only [List.length_drop, List.length_take]; rfl)) ?_; (with_reducible refine (impl_within.calls a0_1 0 0 true _ A13.out).mono ?_); rintro e w' ⟨rfl, ⟨nd, rfl⟩⟩; refine ⟨_, rfl, ?_⟩) | (go_at_call 49; (with_reducible refine (impl_within.calls a0_2 0 1 t182 _ A15.out).mono ?_); rintro e w' ⟨rfl, ⟨nd, rfl⟩⟩))
     go_ret
     exact ⟨by first | rfl | (simp [errW_none, errW_some] <;> rfl) | (simp [*, errW_none, errW_some] <;> rfl), Lam.al⟩
    ·replace c14 := Bool.eq_false_iff.mpr c14
     subst c14
     have H1 : (some false) = some r := by rw [if_neg (show ¬ (false = true) by decide)] at H; exact H
     clear H
     have H := H1
     clear H1
     obtain rfl := Option.some.inj H
     go_enter Tryd.func70, Tryd.ntmps70
     go_wp2_with (first | ((with_reducible refine gate_dst (N := 1) rfl ?_); refine box_event ?hg (N := 1) ?hd (cs := #[.int .i64 a0_0, .int .i64 a0_1, .int .i64 a0_2]) (t := 69) ?hr ?_; (case hd => rfl); (case hg => rfl); (case hr => first | (go_simp; done) | (go_simp; rfl)); intro gb177 hg w18 hbox hb; have n0_ := Aside0.mk (below_step (Lam.al) hb); have n1_ := Aside0.mk (hbox); have n2_ := Aside0.mk ((by rw [hg]; exact (below_size (Lam.al)) : w.heap.size ≤ gb177)); have n3_ := Aside0.mk ((by rw [hg]; exact (below_size (Lam.al)) : w.heap.size ≤ gb177)); clear HB; have HB := n0_; have BK177 := n1_; have GW177 := n2_; have GE177 := n3_; clear n0_ n1_ n2_ n3_; clear hb hbox hg; have hcz19_0 : w18.cell? ⟨gb177, 0, none⟩ = some (.int .i64 a0_0) := (blk_cell BK177.out 0).trans rfl; have hcz19_1 : w18.cell? ⟨gb177, 1, none⟩ = some (.int .i64 a0_1) := (blk_cell BK177.out 1).trans rfl; have hcz19_2 : w18.cell? ⟨gb177, 2, none⟩ = some (.int .i64 a0_2) := (blk_cell BK177.out 2).trans rfl; have hfz19_0 := blk_frozen BK177.out 0; have hfz19_1 := blk_frozen BK177.out 1; have hfz19_2 := blk_frozen BK177.out 2) | ((with_reducible refine gate_callee (f := 49) rfl ?_); refine goesL_ (some 7) rfl rfl Tryd.func49 (by kernel_rfl) rfl #[.int .i64 a0_0, .int .i64 0, .int .i64 5] rfl (by (try simp only [List.map_toArray, List.map_cons, List.map_nil]); first | done | rfl | (simp only [List.length_drop, List.length_take]; rfl)) ?_; (with_reducible refine (impl_within.calls a0_0 0 5 true _ A2.out).mono ?_); rintro e w' ⟨rfl, ⟨nd, rfl⟩⟩; refine ⟨_, rfl, ?_⟩) | ((with_reducible refine gate_callee (f := 49) rfl ?_); refine goesL_ (some 20) rfl rfl Tryd.func49 (by kernel_rfl) rfl #[.int .i64 a0_1, .int .i64 0, .int .i64 0] rfl (by (try simp only [List.map_toArray, List.map_cons, List.map_nil]); first | done | rfl | (simp only [List.length_drop, List.length_take]; rfl)) ?_; (with_reducible refine (impl_within.calls a0_1 0 0 false _ A13.out).mono ?_); rintro e w' ⟨rfl, ⟨nd, rfl⟩⟩; refine ⟨_, rfl, ?_⟩))
     go_ret
     exact ⟨by first | rfl | (simp [errW_none, errW_some] <;> rfl) | (simp [*, errW_none, errW_some] <;> rfl), Lam.al⟩
   ·rw [if_neg c12] at H
    have c12b0 : (a0_0 == 2) = false := beq_eq_false_iff_ne.mpr c12
    have c12b1 : (a0_0 != 2) = true := bne_iff_ne.mpr c12
    by_cases c20 : a0_0 = 4
    ·rw [if_pos c20] at H
     have c20b0 : (a0_0 == 4) = true := beq_iff_eq.mpr c20
     have c20b1 : (a0_0 != 4) = false := bne_eq_false_iff_eq.mpr c20
     clear c20
     replace H := Option.bind_eq_some_iff.mp H
     obtain ⟨t183, A210, H⟩ := H
     replace H : (if t183 = true then ((impl_within.f a0_2 0 20).bind fun t184 => (some t184)) else (some false)) = some r := H
     have A21 := Aside0.mk A210
     clear A210
     by_cases c22 : t183 = true
     ·subst c22
      have H1 : ((impl_within.f a0_2 0 20).bind fun t184 => (some t184)) = some r := by rw [if_pos rfl] at H; exact H
      clear H
      have H := H1
      clear H1
      replace H := Option.bind_eq_some_iff.mp H
      obtain ⟨t184, A230, H⟩ := H
      replace H : (some t184) = some r := H
      have A23 := Aside0.mk A230
      clear A230
      obtain rfl := Option.some.inj H
      go_enter Tryd.func70, Tryd.ntmps70
      go_wp2_with (first | ((with_reducible refine gate_dst (N := 1) rfl ?_); refine box_event ?hg (N := 1) ?hd (cs := #[.int .i64 a0_0, .int .i64 a0_1, .int .i64 a0_2]) (t := 69) ?hr ?_; (case hd => rfl); (case hg => rfl); (case hr => first | (go_simp; done) | (go_simp; rfl)); intro gb177 hg w24 hbox hb; have n0_ := Aside0.mk (below_step (Lam.al) hb); have n1_ := Aside0.mk (hbox); have n2_ := Aside0.mk ((by rw [hg]; exact (below_size (Lam.al)) : w.heap.size ≤ gb177)); have n3_ := Aside0.mk ((by rw [hg]; exact (below_size (Lam.al)) : w.heap.size ≤ gb177)); clear HB; have HB := n0_; have BK177 := n1_; have GW177 := n2_; have GE177 := n3_; clear n0_ n1_ n2_ n3_; clear hb hbox hg; have hcz25_0 : w24.cell? ⟨gb177, 0, none⟩ = some (.int .i64 a0_0) := (blk_cell BK177.out 0).trans rfl; have hcz25_1 : w24.cell? ⟨gb177, 1, none⟩ = some (.int .i64 a0_1) := (blk_cell BK177.out 1).trans rfl; have hcz25_2 : w24.cell? ⟨gb177, 2, none⟩ = some (.int .i64 a0_2) := (blk_cell BK177.out 2).trans rfl; have hfz25_0 := blk_frozen BK177.out 0; have hfz25_1 := blk_frozen BK177.out 1; have hfz25_2 := blk_frozen BK177.out 2) | ((with_reducible refine gate_callee (f := 49) rfl ?_); refine goesL_ (some 7) rfl rfl Tryd.func49 (by kernel_rfl) rfl #[.int .i64 a0_0, .int .i64 0, .int .i64 5] rfl (by (try simp only [List.map_toArray, List.map_cons, List.map_nil]); first | done | rfl | (simp only [List.length_drop, List.length_take]; rfl)) ?_; (with_reducible refine (impl_within.calls a0_0 0 5 true _ A2.out).mono ?_); rintro e w' ⟨rfl, ⟨nd, rfl⟩⟩; refine ⟨_, rfl, ?_⟩) | ((with_reducible refine gate_callee (f := 49) rfl ?_); refine goesL_ (some 20) rfl rfl Tryd.func49 (by kernel_rfl) rfl #[.int .i64 a0_1, .int .i64 0, .int .i64 4] rfl (by (try simp only [List.map_toArray, List.map_cons, List.map_nil]); first | done | rfl | (simp only [List.length_drop, List.length_take]; rfl)) ?_; (with_reducible refine (impl_within.calls a0_1 0 4 true _ A21.out).mono ?_); rintro e w' ⟨rfl, ⟨nd, rfl⟩⟩; refine ⟨_, rfl, ?_⟩) | (go_at_call 49; (with_reducible refine (impl_within.calls a0_2 0 20 t184 _ A23.out).mono ?_); rintro e w' ⟨rfl, ⟨nd, rfl⟩⟩))
      go_ret
      exact ⟨by first | rfl | (simp [errW_none, errW_some] <;> rfl) | (simp [*, errW_none, errW_some] <;> rfl), Lam.al⟩
     ·replace c22 := Bool.eq_false_iff.mpr c22
      subst c22
      have H1 : (some false) = some r := by rw [if_neg (show ¬ (false = true) by decide)] at H; exact H
      clear H
      have H := H1
      clear H1
      obtain rfl := Option.some.inj H
      go_enter Tryd.func70, Tryd.ntmps70
      go_wp2_with (first | ((with_reducible refine gate_dst (N := 1) rfl ?_); refine box_event ?hg (N := 1) ?hd (cs := #[.int .i64 a0_0, .int .i64 a0_1, .int .i64 a0_2]) (t := 69) ?hr ?_; (case hd => rfl); (case hg => rfl); (case hr => first | (go_simp; done) | (go_simp; rfl)); intro gb177 hg w26 hbox hb; have n0_ := Aside0.mk (below_step (Lam.al) hb); have n1_ := Aside0.mk (hbox); have n2_ := Aside0.mk ((by rw [hg]; exact (below_size (Lam.al)) : w.heap.size ≤ gb177)); have n3_ := Aside0.mk ((by rw [hg]; exact (below_size (Lam.al)) : w.heap.size ≤ gb177)); clear HB; have HB := n0_; have BK177 := n1_; have GW177 := n2_; have GE177 := n3_; clear n0_ n1_ n2_ n3_; clear hb hbox hg; have hcz27_0 : w26.cell? ⟨gb177, 0, none⟩ = some (.int .i64 a0_0) := (blk_cell BK177.out 0).trans rfl; have hcz27_1 : w26.cell? ⟨gb177, 1, none⟩ = some (.int .i64 a0_1) := (blk_cell BK177.out 1).trans rfl; have hcz27_2 : w26.cell? ⟨gb177, 2, none⟩ = some (.int .i64 a0_2) := (blk_cell BK177.out 2).trans rfl; have hfz27_0 := blk_frozen BK177.out 0; have hfz27_1 := blk_frozen BK177.out 1; have hfz27_2 := blk_frozen BK177.out 2) | ((with_reducible refine gate_callee (f := 49) rfl ?_); refine goesL_ (some 7) rfl rfl Tryd.func49 (by kernel_rfl) rfl #[.int .i64 a0_0, .int .i64 0, .int .i64 5] rfl (by (try simp only [List.map_toArray, List.map_cons, List.map_nil]); first | done | rfl | (simp only [List.length_drop, List.length_take]; rfl)) ?_; (with_reducible refine (impl_within.calls a0_0 0 5 true _ A2.out).mono ?_); rintro e w' ⟨rfl, ⟨nd, rfl⟩⟩; refine ⟨_, rfl, ?_⟩) | ((with_reducible refine gate_callee (f := 49) rfl ?_); refine goesL_ (some 20) rfl rfl Tryd.func49 (by kernel_rfl) rfl #[.int .i64 a0_1, .int .i64 0, .int .i64 4] rfl (by (try simp only [List.map_toArray, List.map_cons, List.map_nil]); first | done | rfl | (simp only [List.length_drop, List.length_take]; rfl)) ?_; (with_reducible refine (impl_within.calls a0_1 0 4 false _ A21.out).mono ?_); rintro e w' ⟨rfl, ⟨nd, rfl⟩⟩; refine ⟨_, rfl, ?_⟩))
      go_ret
      exact ⟨by first | rfl | (simp [errW_none, errW_some] <;> rfl) | (simp [*, errW_none, errW_some] <;> rfl), Lam.al⟩
    ·rw [if_neg c20] at H
     have c20b0 : (a0_0 == 4) = false := beq_eq_false_iff_ne.mpr c20
     have c20b1 : (a0_0 != 4) = true := bne_iff_ne.mpr c20
     replace H := Option.bind_eq_some_iff.mp H
     obtain ⟨t185, A280, H⟩ := H
     replace H : (if t185 = true then ((impl_within.f a0_2 0 20).bind fun t186 => (some t186)) else (some false)) = some r := H
     have A28 := Aside0.mk A280
     clear A280
     by_cases c29 : t185 = true
     ·subst c29
      have H1 : ((impl_within.f a0_2 0 20).bind fun t186 => (some t186)) = some r := by rw [if_pos rfl] at H; exact H
      clear H
      have H := H1
      clear H1
      replace H := Option.bind_eq_some_iff.mp H
      obtain ⟨t186, A300, H⟩ := H
      replace H : (some t186) = some r := H
      have A30 := Aside0.mk A300
      clear A300
      obtain rfl := Option.some.inj H
      go_enter Tryd.func70, Tryd.ntmps70
      go_wp2_with (first | ((with_reducible refine gate_dst (N := 1) rfl ?_); refine box_event ?hg (N := 1) ?hd (cs := #[.int .i64 a0_0, .int .i64 a0_1, .int .i64 a0_2]) (t := 69) ?hr ?_; (case hd => rfl); (case hg => rfl); (case hr => first | (go_simp; done) | (go_simp; rfl)); intro gb177 hg w31 hbox hb; have n0_ := Aside0.mk (below_step (Lam.al) hb); have n1_ := Aside0.mk (hbox); have n2_ := Aside0.mk ((by rw [hg]; exact (below_size (Lam.al)) : w.heap.size ≤ gb177)); have n3_ := Aside0.mk ((by rw [hg]; exact (below_size (Lam.al)) : w.heap.size ≤ gb177)); clear HB; have HB := n0_; have BK177 := n1_; have GW177 := n2_; have GE177 := n3_; clear n0_ n1_ n2_ n3_; clear hb hbox hg; have hcz32_0 : w31.cell? ⟨gb177, 0, none⟩ = some (.int .i64 a0_0) := (blk_cell BK177.out 0).trans rfl; have hcz32_1 : w31.cell? ⟨gb177, 1, none⟩ = some (.int .i64 a0_1) := (blk_cell BK177.out 1).trans rfl; have hcz32_2 : w31.cell? ⟨gb177, 2, none⟩ = some (.int .i64 a0_2) := (blk_cell BK177.out 2).trans rfl; have hfz32_0 := blk_frozen BK177.out 0; have hfz32_1 := blk_frozen BK177.out 1; have hfz32_2 := blk_frozen BK177.out 2) | ((with_reducible refine gate_callee (f := 49) rfl ?_); refine goesL_ (some 7) rfl rfl Tryd.func49 (by kernel_rfl) rfl #[.int .i64 a0_0, .int .i64 0, .int .i64 5] rfl (by (try simp only [List.map_toArray, List.map_cons, List.map_nil]); first | done | rfl | (simp only [List.length_drop, List.length_take]; rfl)) ?_; (with_reducible refine (impl_within.calls a0_0 0 5 true _ A2.out).mono ?_); rintro e w' ⟨rfl, ⟨nd, rfl⟩⟩; refine ⟨_, rfl, ?_⟩) | ((with_reducible refine gate_callee (f := 49) rfl ?_); refine goesL_ (some 20) rfl rfl Tryd.func49 (by kernel_rfl) rfl #[.int .i64 a0_1, .int .i64 0, .int .i64 0] rfl (by (try simp only [List.map_toArray, List.map_cons, List.map_nil]); first | done | rfl | (simp only [List.length_drop, List.length_take]; rfl)) ?_; (with_reducible refine (impl_within.calls a0_1 0 0 true _ A28.out).mono ?_); rintro e w' ⟨rfl, ⟨nd, rfl⟩⟩; refine ⟨_, rfl, ?_⟩) | (go_at_call 49; (with_reducible refine (impl_within.calls a0_2 0 20 t186 _ A30.out).mono ?_); rintro e w' ⟨rfl, ⟨nd, rfl⟩⟩))
      go_ret
      exact ⟨by first | rfl | (simp [errW_none, errW_some] <;> rfl) | (simp [*, errW_none, errW_some] <;> rfl), Lam.al⟩
     ·replace c29 := Bool.eq_false_iff.mpr c29
      subst c29
      have H1 : (some false) = some r := by rw [if_neg (show ¬ (false = true) by decide)] at H; exact H
      clear H
      have H := H1
      clear H1
      obtain rfl := Option.some.inj H
      go_enter Tryd.func70, Tryd.ntmps70
      go_wp2_with (first | ((with_reducible refine gate_dst (N := 1) rfl ?_); refine box_event ?hg (N := 1) ?hd (cs := #[.int .i64 a0_0, .int .i64 a0_1, .int .i64 a0_2]) (t := 69) ?hr ?_; (case hd => rfl); (case hg => rfl); (case hr => first | (go_simp; done) | (go_simp; rfl)); intro gb177 hg w33 hbox hb; have n0_ := Aside0.mk (below_step (Lam.al) hb); have n1_ := Aside0.mk (hbox); have n2_ := Aside0.mk ((by rw [hg]; exact (below_size (Lam.al)) : w.heap.size ≤ gb177)); have n3_ := Aside0.mk ((by rw [hg]; exact (below_size (Lam.al)) : w.heap.size ≤ gb177)); clear HB; have HB := n0_; have BK177 := n1_; have GW177 := n2_; have GE177 := n3_; clear n0_ n1_ n2_ n3_; clear hb hbox hg; have hcz34_0 : w33.cell? ⟨gb177, 0, none⟩ = some (.int .i64 a0_0) := (blk_cell BK177.out 0).trans rfl; have hcz34_1 : w33.cell? ⟨gb177, 1, none⟩ = some (.int .i64 a0_1) := (blk_cell BK177.out 1).trans rfl; have hcz34_2 : w33.cell? ⟨gb177, 2, none⟩ = some (.int .i64 a0_2) := (blk_cell BK177.out 2).trans rfl; have hfz34_0 := blk_frozen BK177.out 0; have hfz34_1 := blk_frozen BK177.out 1; have hfz34_2 := blk_frozen BK177.out 2) | ((with_reducible refine gate_callee (f := 49) rfl ?_); refine goesL_ (some 7) rfl rfl Tryd.func49 (by kernel_rfl) rfl #[.int .i64 a0_0, .int .i64 0, .int .i64 5] rfl (by (try simp only [List.map_toArray, List.map_cons, List.map_nil]); first | done | rfl | (simp only [List.length_drop, List.length_take]; rfl)) ?_; (with_reducible refine (impl_within.calls a0_0 0 5 true _ A2.out).mono ?_); rintro e w' ⟨rfl, ⟨nd, rfl⟩⟩; refine ⟨_, rfl, ?_⟩) | ((with_reducible refine gate_callee (f := 49) rfl ?_); refine goesL_ (some 20) rfl rfl Tryd.func49 (by kernel_rfl) rfl #[.int .i64 a0_1, .int .i64 0, .int .i64 0] rfl (by (try simp only [List.map_toArray, List.map_cons, List.map_nil]); first | done | rfl | (simp only [List.length_drop, List.length_take]; rfl)) ?_; (with_reducible refine (impl_within.calls a0_1 0 0 false _ A28.out).mono ?_); rintro e w' ⟨rfl, ⟨nd, rfl⟩⟩; refine ⟨_, rfl, ?_⟩))
      go_ret
      exact ⟨by first | rfl | (simp [errW_none, errW_some] <;> rfl) | (simp [*, errW_none, errW_some] <;> rfl), Lam.al⟩
 ·replace c3 := Bool.eq_false_iff.mpr c3
  subst c3
  have H1 : (some false) = some r := by rw [if_neg (show ¬ (false = true) by decide)] at H; exact H
  clear H
  have H := H1
  clear H1
  obtain rfl := Option.some.inj H
  go_enter Tryd.func70, Tryd.ntmps70
  go_wp2_with (first | ((with_reducible refine gate_dst (N := 1) rfl ?_); refine box_event ?hg (N := 1) ?hd (cs := #[.int .i64 a0_0, .int .i64 a0_1, .int .i64 a0_2]) (t := 69) ?hr ?_; (case hd => rfl); (case hg => rfl); (case hr => first | (go_simp; done) | (go_simp; rfl)); intro gb177 hg w35 hbox hb; have n0_ := Aside0.mk (below_step (Lam.al) hb); have n1_ := Aside0.mk (hbox); have n2_ := Aside0.mk ((by rw [hg]; exact (below_size (Lam.al)) : w.heap.size ≤ gb177)); have n3_ := Aside0.mk ((by rw [hg]; exact (below_size (Lam.al)) : w.heap.size ≤ gb177)); clear HB; have HB := n0_; have BK177 := n1_; have GW177 := n2_; have GE177 := n3_; clear n0_ n1_ n2_ n3_; clear hb hbox hg; have hcz36_0 : w35.cell? ⟨gb177, 0, none⟩ = some (.int .i64 a0_0) := (blk_cell BK177.out 0).trans rfl; have hcz36_1 : w35.cell? ⟨gb177, 1, none⟩ = some (.int .i64 a0_1) := (blk_cell BK177.out 1).trans rfl; have hcz36_2 : w35.cell? ⟨gb177, 2, none⟩ = some (.int .i64 a0_2) := (blk_cell BK177.out 2).trans rfl; have hfz36_0 := blk_frozen BK177.out 0; have hfz36_1 := blk_frozen BK177.out 1; have hfz36_2 := blk_frozen BK177.out 2) | ((with_reducible refine gate_callee (f := 49) rfl ?_); refine goesL_ (some 7) rfl rfl Tryd.func49 (by kernel_rfl) rfl #[.int .i64 a0_0, .int .i64 0, .int .i64 5] rfl (by (try simp only [List.map_toArray, List.map_cons, List.map_nil]); first | done | rfl | (simp only [List.length_drop, List.length_take]; rfl)) ?_; (with_reducible refine (impl_within.calls a0_0 0 5 false _ A2.out).mono ?_); rintro e w' ⟨rfl, ⟨nd, rfl⟩⟩; refine ⟨_, rfl, ?_⟩))
  go_ret
  exact ⟨by first | rfl | (simp [errW_none, errW_some] <;> rfl) | (simp [*, errW_none, errW_some] <;> rfl), Lam.al⟩

/-! ### impl_IsPuzzle: function 38 -/
theorem impl_IsClue.total (a b c : Int) : impl_IsClue.f a b c = some ((impl_IsClue.f a b c).getD false) := by
 have hw : ∀ x y z, ∃ r, impl_within.f x y z = some r := fun x y z => by unfold impl_within.f; split <;> exact ⟨_, rfl⟩
 have : ∃ r, impl_IsClue.f a b c = some r := by
  unfold impl_IsClue.f
  repeat' (first
   | exact ⟨_, rfl⟩
   | split
   | (obtain ⟨_, hr⟩ := hw _ _ _; rw [hr, Option.bind_some]; clear hr)
   | rw [Option.bind_some])
 obtain ⟨r, hr⟩ := this
 rw [hr]; rfl
def impl_IsPuzzle.f (l0_0 : List (S69)) : Option (Bool) := some (decide (l0_0.length ≤ 6) && l0_0.all fun c => (impl_IsClue.f c.f0 c.f1 c.f2).getD false)
set_option maxHeartbeats 4000000 in
theorem impl_IsPuzzle.lam (x : S69) (W : World) :
  Calls Tryd.prog 69 #[.agg #[.int .i64 x.f0, .int .i64 x.f1, .int .i64 x.f2]] W fun e w' => e = .returned (.bool (!(impl_IsClue.f x.f0 x.f1 x.f2).getD false)) ∧ Below W.heap.size W w' := by
 have hcall := fun W => impl_IsClue.calls x.f0 x.f1 x.f2 _ W (impl_IsClue.total x.f0 x.f1 x.f2)
 generalize (impl_IsClue.f x.f0 x.f1 x.f2).getD false = q at hcall
 obtain ⟨a, b, c⟩ := x
 dsimp only at hcall ⊢
 go_enter Tryd.func69, Tryd.ntmps69
 go_wp2_with (first
  | ((with_reducible refine gate_dst (N := 1) rfl ?_); refine box_event ?hg (N := 1) ?hd (cs := #[.int .i64 a, .int .i64 b, .int .i64 c]) (t := 69) ?hr ?_; (case hd => rfl); (case hg => rfl); (case hr => first | (go_simp; done) | (go_simp; rfl)); intro g1 hg1 w1 hbox1 hb1; have G1 := Aside0.mk hg1; have X1 := Aside0.mk hbox1; have B1 := Aside0.mk hb1; clear hg1 hbox1 hb1; have hcz1_0 : w1.cell? ⟨g1, 0, none⟩ = some (.int .i64 a) := (blk_cell X1.out 0).trans rfl; have hfz1_0 := blk_frozen X1.out 0; have hcz1_1 : w1.cell? ⟨g1, 1, none⟩ = some (.int .i64 b) := (blk_cell X1.out 1).trans rfl; have hfz1_1 := blk_frozen X1.out 1; have hcz1_2 : w1.cell? ⟨g1, 2, none⟩ = some (.int .i64 c) := (blk_cell X1.out 2).trans rfl; have hfz1_2 := blk_frozen X1.out 2)
  | (go_at_call 70; refine (hcall _).mono ?_; rintro e w' ⟨rfl, hd⟩))
 go_ret
 exact ⟨rfl, Lam.bth B1.out hd⟩
set_option maxHeartbeats 4000000 in
theorem impl_IsPuzzle.calls (A0_0 : Option Addr) (c0_0 : Nat) (l0_0 : List (S69)) (r : Bool) (w : World) (hr0_0 : Kd.C k69 w A0_0 l0_0.length l0_0) (hc0_0 : l0_0.length ≤ c0_0) (h : impl_IsPuzzle.f l0_0 = some r) :
  Calls Tryd.prog 38 #[.agg #[.slice A0_0 l0_0.length c0_0]] w fun e w' => e = .returned (.bool r) ∧ Below w.heap.size w w' := by
 obtain rfl := Option.some.inj h
 have HR0 := Aside0.mk hr0_0
 have eg := enters_of Tryd.func69 (by kernel_rfl) rfl
 clear hr0_0 hc0_0 h
 by_cases c1 : l0_0.length ≤ 6
 ·have d1 : decide ((l0_0.length : Int) ≤ 6) = true := decide_eq_true (by omega)
  have d2 : decide (l0_0.length ≤ 6) = true := decide_eq_true c1
  rw [d2, Bool.true_and]
  clear c1
  have HE := Aside0.mk (List.all_eq_not_any_not (l := l0_0) (p := fun c => (impl_IsClue.f c.f0 c.f1 c.f2).getD false))
  go_enter Tryd.func38, Tryd.ntmps38
  go_wp2_with (first
   | ((with_reducible refine gate_dst (N := 1) rfl ?_); refine box_event ?hg (N := 1) ?hd (cs := #[.slice A0_0 l0_0.length c0_0]) (t := 31) ?hr ?_; (case hd => rfl); (case hg => rfl); (case hr => first | (go_simp; done) | (go_simp; rfl)); intro g1 hg1 w1 hbox1 hb1; have G1 := Aside0.mk hg1; have X1 := Aside0.mk hbox1; have B1 := Aside0.mk hb1; clear hg1 hbox1 hb1; have hcz1_0 : w1.cell? ⟨g1, 0, none⟩ = some (.slice A0_0 l0_0.length c0_0) := (blk_cell X1.out 0).trans rfl; have hfz1_0 := blk_frozen X1.out 0)
   | (go_at_call 68; go_loud (refine (impl_Clue_68.calls A0_0 c0_0 l0_0 _ #[] (fun c => !(impl_IsClue.f c.f0 c.f1 c.f2).getD false) w1 w1 eg (Kd.C_below HR0.out B1.out) (Below.refl _ _) (fun W x _ hW => by rw [Array.append_empty]; exact (impl_IsPuzzle.lam x W).mono (fun _ _ ⟨he, hd⟩ => ⟨he, Lam.bth hW hd⟩))).mono ?_); rintro e w' ⟨rfl, hb'⟩))
  go_ret
  refine ⟨?_, Lam.bth B1.out hb'⟩
  rw [HE.out]; rfl
 ·have d1 : decide ((l0_0.length : Int) ≤ 6) = false := decide_eq_false (by omega)
  have d2 : decide (l0_0.length ≤ 6) = false := decide_eq_false c1
  rw [d2, Bool.false_and]
  clear c1
  go_enter Tryd.func38, Tryd.ntmps38
  go_wp2_with (first
   | ((with_reducible refine gate_dst (N := 1) rfl ?_); refine box_event ?hg (N := 1) ?hd (cs := #[.slice A0_0 l0_0.length c0_0]) (t := 31) ?hr ?_; (case hd => rfl); (case hg => rfl); (case hr => first | (go_simp; done) | (go_simp; rfl)); intro g1 hg1 w1 hbox1 hb1; have G1 := Aside0.mk hg1; have X1 := Aside0.mk hbox1; have B1 := Aside0.mk hb1; clear hg1 hbox1 hb1; have hcz1_0 : w1.cell? ⟨g1, 0, none⟩ = some (.slice A0_0 l0_0.length c0_0) := (blk_cell X1.out 0).trans rfl; have hfz1_0 := blk_frozen X1.out 0))
  go_ret
  exact ⟨rfl, B1.out⟩

/-! ### slices_DeleteFunc_int_int_71: function 71 -/
set_option maxHeartbeats 8000000 in
set_option maxRecDepth 100000 in
theorem slices_DeleteFunc_int_int_71.idx (I : World → Prop) (g n c gf : Nat) (lb : Array Value) (cur0 : Array Value) (pj : Nat → Bool) (w : World) (eg : ∀ args w, (callFunc gf args).run Tryd.prog w = .ok (.enter gf args) w)
  (hn : n ≤ cur0.size) (h64 : (c : Int) ≤ 9223372036854775807) (hnc : n ≤ c) (hsh : ∀ j, j < n → ∃ y0 y1 y2, cur0[j]! = .slice y0 y1 y2) (hI : I w) (hg : w.heap[g]? = some (.cells cur0 38 (0, 0)))
  (hp : ∀ j W, j < n → I W → Calls Tryd.prog gf (#[cur0[j]!] ++ lb) W fun e w' => e = .returned (.bool (pj j)) ∧ I w' ∧ w'.heap[g]? = W.heap[g]?) :
  Calls Tryd.prog 109 #[.slice (some ⟨g, 0, none⟩) n c, .func (.func gf) #[] lb] w fun e w' => I w' ∧ w'.heap[g]? = some (.cells cur0 38 (0, 0)) ∧ ((e = .returned (.int .i64 (-1)) ∧ ∀ j, j < n → pj j = false) ∨ ∃ k, k < n ∧ e = .returned (.int .i64 (k : Int)) ∧ pj k = true ∧ ∀ j, j < k → pj j = false) := by
 have hn64 : (n : Int) ≤ 9223372036854775807 := by omega
 have HI := Aside0.mk hI
 have HG := Aside0.mk hg
 have HP := Aside0.mk hp
 have HSH := Aside0.mk hsh
 have HN := Aside0.mk hn
 clear hI hg hp hsh hn hnc
 go_enter Tryd.func109, Tryd.ntmps109
 go_wp2
 go_loopg [5, 8] n (fun gg _ s8 wr => ∃ kk : Nat, kk ≤ n ∧ n - kk ≤ gg ∧ s8 = .int .i64 kk ∧ Aside0 (I wr) ∧ Aside0 (wr.heap[g]? = some (.cells cur0 38 (0, 0))) ∧ Aside0 (∀ j, j < kk → pj j = false))
 case atStart => exact ⟨0, Nat.zero_le _, by omega, rfl, HI, HG, ⟨fun j hj => absurd hj (Nat.not_lt_zero _)⟩⟩
 case round =>
  clear HI HG
  obtain ⟨kk, hkk, hgg, rfl, HI, HG, HA⟩ := hrel
  by_cases hlt : kk < n
  ·have hltz : (kk : Int) < (n : Int) := by omega
   have hx0 : wr.cell? ⟨g, kk, none⟩ = some cur0[kk]! := (blk_cell HG.out kk).trans (Del.arr_at (by have := HN.out; omega))
   have hcall := HP.out kk wr hlt HI.out
   obtain ⟨y0, y1, y2, hy⟩ := HSH.out kk hlt
   rw [hy] at hx0 hcall
   clear hy
   cases hq : pj kk with
   | true =>
    rw [hq] at hcall
    have HQ := Aside0.mk hq
    clear hq
    go_wp2_with (go_at_fn gf; refine hcall.mono ?_; rintro e w' ⟨rfl, hi', hg'⟩)
    go_ret
    exact ⟨hi', hg'.trans HG.out, .inr ⟨kk, hlt, rfl, HQ.out, HA.out⟩⟩
   | false =>
    rw [hq] at hcall
    have HQ := Aside0.mk hq
    clear hq
    go_wp2_with (go_at_fn gf; refine hcall.mono ?_; rintro e w' ⟨rfl, hi', hg'⟩)
    go_roundg (n - (kk + 1))
    case measure => omega
    case rel =>
     refine ⟨kk + 1, by omega, by omega, by go_num, ⟨hi'⟩, ⟨hg'.trans HG.out⟩, ⟨fun j hj => ?_⟩⟩
     by_cases e : j = kk
     ·rw [e]; exact HQ.out
     ·exact HA.out j (by omega)
  ·have hltz : ¬ (kk : Int) < (n : Int) := by omega
   obtain rfl : kk = n := by omega
   go_wp2
   go_ret
   exact ⟨HI.out, HG.out, .inl ⟨rfl, HA.out⟩⟩
set_option maxHeartbeats 8000000 in
set_option maxRecDepth 100000 in
theorem slices_DeleteFunc_int_int_71.cells (I : World → Prop) (g n c gf : Nat) (lb : Array Value) (cur0 : Array Value) (pj : Nat → Bool) (w : World) (eg : ∀ args w, (callFunc gf args).run Tryd.prog w = .ok (.enter gf args) w)
  (hn : n ≤ cur0.size) (h64 : (c : Int) ≤ 9223372036854775807) (hnc : n ≤ c) (hsh : ∀ j, j < n → ∃ y0 y1 y2, cur0[j]! = .slice y0 y1 y2) (hI : I w) (hg : w.heap[g]? = some (.cells cur0 38 (0, 0)))
  (hp : ∀ j W, j < n → I W → Calls Tryd.prog gf (#[cur0[j]!] ++ lb) W fun e w' => e = .returned (.bool (pj j)) ∧ I w' ∧ w'.heap[g]? = W.heap[g]?) (hset : ∀ W W', I W → W.grownBy W' (some g) → I W') :
  Calls Tryd.prog 71 #[.slice (some ⟨g, 0, none⟩) n c, .func (.func gf) #[] lb] w fun e w' => ∃ m, e = .returned (.slice (some ⟨g, 0, none⟩) m c) ∧ I w' ∧ ∃ cur1, w'.heap[g]? = some (.cells cur1 38 (0, 0)) ∧ cur1.size = cur0.size ∧ (Lib.keptUpTo (fun j => !pj j) cur0 n).length = m ∧ cur1.toList.take m = Lib.keptUpTo (fun j => !pj j) cur0 n := by
 have hn64 : (n : Int) ≤ 9223372036854775807 := by omega
 have hn0 : (0 : Int) ≤ (n : Int) := by omega
 have hidx := slices_DeleteFunc_int_int_71.idx I g n c gf lb cur0 pj w eg hn h64 hnc hsh hI hg hp
 obtain ⟨kp, HK⟩ : ∃ kp : Nat → Bool, Aside0 (kp = fun j => !pj j) := ⟨_, ⟨rfl⟩⟩
 rw [← HK.out]
 have HP := Aside0.mk hp
 have HSH := Aside0.mk hsh
 have HN := Aside0.mk hn
 have HNC := Aside0.mk hnc
 have HSET := Aside0.mk hset
 have hv : ∀ w, (zeroValue 38).run Tryd.prog w = .ok ((.slice none 0 0)) w := Tryd.zeroValue38
 have HV := Aside0.mk hv
 clear hI hg hp hsh hn hset hv
 have HX := Aside0.mk hidx
 clear hidx
 go_enter Tryd.func71, Tryd.ntmps71
 have GO : ∀ (wi : World) (k0 : Nat), True → True := fun _ _ h => h
 clear GO
 go_wp2_with (go_at_call 109; go_loud (refine HX.out.mono ?_); rintro e w1 ⟨hi1, hg1, h1⟩; have HI := Aside0.mk hi1; have HG := Aside0.mk hg1; clear hi1 hg1; rcases h1 with ⟨rfl, hall⟩ | ⟨k0, hk0, rfl, hk1, hk2⟩)
 ·have HA := Aside0.mk hall
  clear hall
  go_wp2
  go_ret
  have e3 : Lib.keptUpTo kp cur0 n = (List.range n).map (cur0[·]!) := Lib.keptUpTo_all kp cur0 n (fun j hj => by rw [HK.out]; show (!pj j) = true; rw [HA.out j hj]; rfl)
  refine ⟨n, rfl, HI.out, cur0, HG.out, rfl, by rw [e3]; simp, ?_⟩
  rw [e3]
  apply List.ext_getElem
  ·have := HN.out; simp; omega
  ·intro i h1 h2
   have : i < cur0.size := by have := HN.out; simp at h2; omega
   simp [getElem!_pos cur0 i this]
 ·have hneg : ¬ ((k0 : Int) = -1) := by omega
  have hk64 : (k0 : Int) + 1 ≤ 9223372036854775807 := by omega
  have HK1 := Aside0.mk hk1
  have HK2 := Aside0.mk hk2
  clear hk1 hk2
  go_wp2
  go_loopg [5, 6, 7] n (fun gg s5 s6 _ wr => ∃ (i j : Nat) (dk : Array Value), s5 = .int .i64 i ∧ s6 = .int .i64 j ∧ j ≤ n ∧ n - j ≤ gg ∧ Aside0 (I wr) ∧ Aside0 (wr.heap[g]? = some (.cells dk 38 (0, 0))) ∧ Aside0 (Lib.KeptInv kp cur0 j i dk))
  case atStart => exact ⟨k0, k0 + 1, cur0, rfl, by go_num, by omega, by omega, HI, HG, ⟨Lib.KeptInv.start (fun j hj => by rw [HK.out]; show (!pj j) = true; rw [HK2.out j hj]; rfl) (by rw [HK.out]; show (!pj k0) = false; rw [HK1.out]; rfl)⟩⟩
  case round =>
   clear HI HG
   obtain ⟨i, j, dk, rfl, rfl, hjd, hgg, HI, HG, I2⟩ := hrel
   have hij := I2.out.lt
   have hds := Aside0.mk I2.out.size
   by_cases hlt : j < n
   ·have hltz : (j : Int) < (n : Int) := by omega
    have hiz : (i : Int) < (n : Int) := by omega
    have hi0 : (0 : Int) ≤ (i : Int) := by omega
    have hi64 : (i : Int) + 1 ≤ 9223372036854775807 := by omega
    have hx0 : wr.cell? ⟨g, j, none⟩ = some cur0[j]! := (blk_cell HG.out j).trans (by rw [Del.arr_at (by have := HN.out; have := hds.out; omega), I2.out.high j (by omega)])
    have hcall := HP.out j wr hlt HI.out
    obtain ⟨y0, y1, y2, hy⟩ := HSH.out j hlt
    rw [hy] at hx0 hcall
    have HY := Aside0.mk hy
    clear hy
    cases hq : pj j with
    | true =>
     rw [hq] at hcall
     have HQ := Aside0.mk hq
     clear hq
     go_wp2_with (go_at_fn gf; refine hcall.mono ?_; rintro e w' ⟨rfl, hi', hg'⟩)
     go_roundg (n - (j + 1))
     case measure => omega
     case rel => exact ⟨i, j + 1, dk, rfl, by go_num, by omega, Nat.le_refl _, ⟨hi'⟩, ⟨hg'.trans HG.out⟩, ⟨I2.out.skip (by rw [HK.out]; show (!pj j) = false; rw [HQ.out]; rfl)⟩⟩
    | false =>
     rw [hq] at hcall
     have HQ := Aside0.mk hq
     clear hq
     go_wp2_with (go_at_fn gf; refine hcall.mono ?_; rintro e w' ⟨rfl, hi', hg'⟩; have hg2 := hg'.trans HG.out; have hci : w'.cell? ⟨g, i, none⟩ = some dk[i]! := (blk_cell hg2 i).trans (Del.arr_at (by have := HN.out; have := hds.out; omega)); have hfi := blk_frozen hg2 i; have HI' := Aside0.mk hi'; have HG' := Aside0.mk hg2; clear hi' hg' hg2)
     go_roundg (n - (j + 1))
     case measure => omega
     case rel =>
      refine ⟨i + 1, j + 1, dk.setIfInBounds i (.slice y0 y1 y2), by go_num, by go_num, by omega, Nat.le_refl _, ⟨HSET.out _ _ HI'.out (Del.grown_set HG'.out i _)⟩, ⟨blk_put HG'.out i _ rfl⟩, ⟨?_⟩⟩
      have h2 := I2.out.keep (by have := HN.out; omega) (by rw [HK.out]; show (!pj j) = true; rw [HQ.out]; rfl)
      rwa [HY.out] at h2
   ·obtain rfl : j = n := by omega
    have hltz : ¬ (j : Int) < (j : Int) := by omega
    have hi0 : (0 : Int) ≤ (i : Int) := by omega
    have hic : (i : Int) ≤ (c : Int) := by omega
    have hij2 : (i : Int) ≤ (j : Int) := by omega
    have hicn : i ≤ c := by omega
    have hijn : i ≤ j := by omega
    have hcl : ∀ ty, (Builtin.clear_ #[26] ty #[.slice (some ⟨g, i, none⟩) (j - i) (c - i)]).run Tryd.prog wr = .ok (.tuple #[]) (wr.setCells g i (List.replicate (j - i) ((.slice none 0 0)))) :=
     fun ty => Lib.run_clear_slice wr 26 38 ty _ Tryd.underlying26 HV.out rfl rfl g i _ _ (by omega) (fun t ht => by rw [blk_cell HG.out (i + t), Del.arr_at (by have := HN.out; have := hds.out; omega)]; rfl) (fun t ht => blk_frozen HG.out (i + t))
    go_wp2
    go_ret
    obtain ⟨cur1, h3, h4, h5⟩ := Del.set_many (zs := List.replicate (j - i) ((.slice none 0 0))) HG.out i (by have := HN.out; have := hds.out; rw [List.length_replicate]; omega)
    refine ⟨i, rfl, HSET.out _ _ HI.out (Del.grown_many HG.out i _), cur1, h3, h4.trans hds.out, I2.out.len, ?_⟩
    rw [h5]
    apply List.ext_getElem?
    intro t
    rw [List.getElem?_take]
    by_cases ht : t < i
    ·rw [if_pos ht, I2.out.low t ht]
     have := Del.arr_at (a := dk) (k := t) (by have := HN.out; have := hds.out; omega)
     rw [← this]; simp
    ·rw [if_neg ht, List.getElem?_eq_none (by rw [I2.out.len]; omega)]
theorem slices_DeleteFunc_int_int_71.ownR (I : World → Prop) (g n c gf base : Nat) (lb : Array Value) (pj : Nat → Bool) (ok : Nat → Prop) (xs : List (List Int)) (w : World) (eg : ∀ args w, (callFunc gf args).run Tryd.prog w = .ok (.enter gf args) w)
  (HO : Kd.R ((Kd.slice 3 (Kd.int .i64))) 38 w base ok (.slice (some ⟨g, 0, none⟩) n c) xs) (hI : I w) (hset : ∀ W W', I W → W.grownBy W' (some g) → I W') (hkeep : ∀ W, I W → ∀ k, ok k → k ≠ g → k < w.heap.size → W.heap[k]? = w.heap[k]?)
  (hp : ∀ j u W, j < n → I W → (((Kd.slice 3 (Kd.int .i64)))).M w base (fun k => ok k ∧ k ≠ g) (xs.getD j []) [u] → Calls Tryd.prog gf (#[u] ++ lb) W fun e w' => e = .returned (.bool (pj j)) ∧ I w' ∧ w'.heap[g]? = W.heap[g]?) :
  Calls Tryd.prog 71 #[.slice (some ⟨g, 0, none⟩) n c, .func (.func gf) #[] lb] w fun e w' => ∃ m, e = .returned (.slice (some ⟨g, 0, none⟩) m c) ∧ I w' ∧ Kd.R ((Kd.slice 3 (Kd.int .i64))) 38 w' base ok (.slice (some ⟨g, 0, none⟩) m c) ((Del.places (fun j => !pj j) n).map (fun j => xs.getD j [])) := by
 obtain ⟨hxn, hnc, hbg, cur0, hg, hn, h64, hK⟩ := Del.row_ofR rfl HO []
 refine (slices_DeleteFunc_int_int_71.cells I g n c gf lb cur0 pj w eg hn h64 hnc (fun j hj => ?_) hI hg (fun j W hj hW => hp j _ W hj hW (hK j hj)) hset).mono ?_
 ·have h1 := hK j hj
  exact Del.shape_row h1
 ·rintro e w' ⟨m, rfl, hi, cur1, h1, h2, h3, h4⟩
  exact ⟨m, rfl, hi, Del.R_kept rfl HO (hkeep w' hi) hg h1 h2 _ m h3 h4 []⟩
theorem slices_DeleteFunc_int_int_71.ownS (I : World → Prop) (g n c gf base : Nat) (lb : Array Value) (pj : Nat → Bool) (ok : Nat → Prop) (xs : List (List Int)) (w : World) (eg : ∀ args w, (callFunc gf args).run Tryd.prog w = .ok (.enter gf args) w)
  (HO : Kd.S ((Kd.slice 3 (Kd.int .i64))) 38 w base ok (.slice (some ⟨g, 0, none⟩) n c) xs) (hI : I w) (hset : ∀ W W', I W → W.grownBy W' (some g) → I W') (hkeep : ∀ W, I W → ∀ k, ok k → k ≠ g → k < w.heap.size → W.heap[k]? = w.heap[k]?)
  (hp : ∀ j u W, j < n → I W → (((Kd.slice 3 (Kd.int .i64)))).M w base (fun k => ok k ∧ k ≠ g) (xs.getD j []) [u] → Calls Tryd.prog gf (#[u] ++ lb) W fun e w' => e = .returned (.bool (pj j)) ∧ I w' ∧ w'.heap[g]? = W.heap[g]?) :
  Calls Tryd.prog 71 #[.slice (some ⟨g, 0, none⟩) n c, .func (.func gf) #[] lb] w fun e w' => ∃ m, e = .returned (.slice (some ⟨g, 0, none⟩) m c) ∧ I w' ∧ Kd.S ((Kd.slice 3 (Kd.int .i64))) 38 w' base ok (.slice (some ⟨g, 0, none⟩) m c) ((Del.places (fun j => !pj j) n).map (fun j => xs.getD j [])) := by
 obtain ⟨hxn, hnc, hbg, cur0, hg, hn, h64, hK⟩ := Del.row_ofS rfl HO []
 refine (slices_DeleteFunc_int_int_71.cells I g n c gf lb cur0 pj w eg hn h64 hnc (fun j hj => ?_) hI hg (fun j W hj hW => hp j _ W hj hW (hK j hj)) hset).mono ?_
 ·have h1 := hK j hj
  exact Del.shape_row h1
 ·rintro e w' ⟨m, rfl, hi, cur1, h1, h2, h3, h4⟩
  exact ⟨m, rfl, hi, Del.S_kept rfl HO (hkeep w' hi) hg h1 h2 _ m h3 h4 []⟩
set_option maxHeartbeats 4000000 in
theorem slices_DeleteFunc_int_int_71.nilrow (gf : Nat) (lb : Array Value) (w : World) : Calls Tryd.prog 71 #[.slice none 0 0, .func (.func gf) #[] lb] w fun e w' => e = .returned (.slice none 0 0) ∧ Below w.heap.size w w' := by
 have hI : Calls Tryd.prog 109 #[.slice none 0 0, .func (.func gf) #[] lb] w fun e w' => e = .returned (.int .i64 (-1)) ∧ Below w.heap.size w w' := by
  have HB := Aside0.mk (Below.refl w.heap.size w)
  go_enter Tryd.func109, Tryd.ntmps109
  go_wp2
  go_loopg [5, 8] 0 (fun gg _ s8 wr => s8 = .int .i64 0 ∧ Aside0 (Below w.heap.size w wr))
  case atStart => exact ⟨rfl, HB⟩
  case round =>
   clear HB
   obtain ⟨rfl, HB⟩ := hrel
   go_wp2
   go_ret
   exact ⟨rfl, HB.out⟩
 go_enter Tryd.func71, Tryd.ntmps71
 go_wp2_with (go_at_call 109; refine hI.mono ?_; rintro e w' ⟨rfl, hb⟩)
 go_ret
 exact ⟨rfl, hb⟩
theorem slices_DeleteFunc_int_int_71.ownS2 (I : World → Prop) (gf base : Nat) (lb : Array Value) (pj : Nat → Bool) (ok : Nat → Prop) (xs : List (List Int)) (v : Value) (w : World) (eg : ∀ args w, (callFunc gf args).run Tryd.prog w = .ok (.enter gf args) w)
  (HO : Kd.S ((Kd.slice 3 (Kd.int .i64))) 38 w base ok v xs) (hI : I w) (hset : ∀ W W', I W → W.grownBy W' v.ownBlock → I W') (hkeep : ∀ W, I W → ∀ k, ok k → some k ≠ v.ownBlock → k < w.heap.size → W.heap[k]? = w.heap[k]?)
  (hp : ∀ j u W, j < xs.length → I W → (((Kd.slice 3 (Kd.int .i64)))).M w base (fun k => ok k ∧ some k ≠ v.ownBlock) (xs.getD j []) [u] → Calls Tryd.prog gf (#[u] ++ lb) W fun e w' => e = .returned (.bool (pj j)) ∧ I w' ∧ ∀ g, v.ownBlock = some g → w'.heap[g]? = W.heap[g]?) :
  Calls Tryd.prog 71 #[v, .func (.func gf) #[] lb] w fun e w' => ∃ v', e = .returned v' ∧ I w' ∧ Kd.S ((Kd.slice 3 (Kd.int .i64))) 38 w' base ok v' ((Del.places (fun j => !pj j) xs.length).map (fun j => xs.getD j [])) ∧ v'.ownBlock = v.ownBlock := by
 rcases Del.row_formS HO with ⟨rfl, rfl⟩ | ⟨g, c, rfl⟩
 ·refine (slices_DeleteFunc_int_int_71.nilrow gf lb w).mono ?_
  rintro e w' ⟨rfl, hb⟩
  exact ⟨_, rfl, hset _ _ hI (Del.grown_below hb), Kd.S_nil _ _ _ _ _, rfl⟩
 ·have hgb : ∀ m : Nat, (Value.slice (some ⟨g, 0, none⟩) m c).ownBlock = some g := fun m => by simp [Value.ownBlock]
  rw [hgb] at hset
  refine (slices_DeleteFunc_int_int_71.ownS I g xs.length c gf base lb pj ok xs w eg HO hI hset (fun W hW k hk hne hlt => hkeep W hW k hk (by rw [hgb]; intro h; exact hne (by injection h)) hlt) (fun j u W hj hW hM => ?_)).mono ?_
  ·refine (hp j u W hj hW ((((Kd.slice 3 (Kd.int .i64)))).M_mono (fun k hk => ⟨hk.1, by rw [hgb]; intro h; exact hk.2 (by injection h)⟩) hM)).mono ?_
   rintro e w' ⟨h1, h2, h3⟩
   exact ⟨h1, h2, h3 g (hgb _)⟩
  ·rintro e w' ⟨m, rfl, h1, h2⟩
   exact ⟨_, rfl, h1, h2, by rw [hgb, hgb]⟩


/-! ### slices_Clone_int_int: function 85 -/
def slices_Clone_int_int.f (l0 : List Int) : Option (List Int) := if l0.length < 17592186044416 then some l0 else none
set_option maxHeartbeats 4000000 in
set_option maxRecDepth 100000 in
theorem slices_Clone_int_int.calls (A0 : Option Addr) (c0 : Nat) (l0 : List Int) (r : List Int) (w : World) (hr0 : Kd.C (Kd.int .i64) w A0 l0.length l0) (hc0 : l0.length ≤ c0) (h : slices_Clone_int_int.f l0 = some r) :
  Calls Tryd.prog 85 #[.slice A0 l0.length c0] w fun e w' => ∃ v0_ : Value, e = .returned (v0_) ∧ Kd.R (Kd.int .i64) 3 w' w.heap.size (fun _ => True) v0_ r ∧ Below w.heap.size w w' := by
 have hq := fun w a n c n' c' => Go.Lib.run_eql_slice_nil (P := Tryd.prog) w 38 3 a n c n' c' Tryd.underlying38
 by_cases c1 : l0.length < 17592186044416
 ·simp only [slices_Clone_int_int.f, if_pos c1] at h
  obtain rfl := Option.some.inj h
  clear h
  cases A0 with
  | none =>
   obtain rfl : l0 = [] := by
    cases l0 with
    | nil => rfl
    | cons x xs => obtain ⟨ad, e, _⟩ := hr0.2.2 (by simp); cases e
   clear hr0 hc0 c1
   go_enter Tryd.func85, Tryd.ntmps85
   go_wp2
   go_ret
   exact ⟨_, rfl, Kd.R_nil _ _ _ _ _, Below.refl _ _⟩
  | some ad =>
   have HR0 := Aside0.mk hr0
   have LM := Aside0.mk c1
   clear hr0 hc0 c1
   have HB := Aside0.mk (Below.refl w.heap.size w)
   go_enter Tryd.func85, Tryd.ntmps85
   go_wp2_with (first | ((with_reducible refine gate_dst (N := 5) rfl ?_); refine Kd.R_lit (Kd.int .i64) _ 3 ?hg (N := 5) ?hd (xs := ([] : List (Int))) (inner := []) (ok := fun _ => True) (okp := fun _ => True) ?hr ?hp (fun _ hk => hk) trivial (Below.refl _ _) (Nat.le_refl _) (by simp) ?_; (case hd => rfl); (case hg => rfl); (case hr => first | (go_simp; done) | (go_simp; rfl)); (case hp => exact (Reps.none _ _)); intro v1 w3 ho4 hb hg_ hnew_; clear hg_ hnew_; have n0_ := Aside0.mk (Kd.R_lower ho4 (below_size (Lam.al))); have n1_ := Aside0.mk (below_step (Lam.al) hb); clear HB; have HO1 := n0_; have HB := n1_; clear n0_ n1_; clear hb ho4) | ((with_reducible refine gate_builtin (b := .append) (xs := #[.tmp 5, .tmp 6]) rfl ?_); at_builtin; refine Kd.R_append_rows (Kd.int .i64) (w0 := w) w.heap.size rfl (.tmp 5) (.tmp 6) 38 3 (.int .i64 0) 8 rfl Tryd.underlying38 info3 rfl (by decide) (by omega) v1 ([] : List (Int)) l0 _ _ _ (fun _ => True) (fun _ => False) rfl rfl ?aO ?aR (fun _ _ h => h) (fun _ h => h.elim) ?aF ?aB ?aS ?aL ?_; (case aR => exact (Kd.C_below HR0.out HB.out)); (case aB => exact (Lam.al)); (case aF => exact (fun _ _ => trivial)); (case aO => exact HO1.out); (case aS => exact (below_size (Lam.al))); (case aL => have := LM.out; simp only [List.length_nil, Nat.zero_add]; omega); intro v2 w5 ho hb hg hat; rw [List.nil_append] at ho; have n0_ := Aside0.mk (hb); have n1_ := Aside0.mk (ho); clear HB; clear HO1; have HB := n0_; have HO2 := n1_; clear n0_ n1_; clear ho hb hg hat))
   go_ret
   exact ⟨_, rfl, HO2.out, HB.out⟩
 ·simp only [slices_Clone_int_int.f, if_neg c1] at h
  exact absurd h (by simp)

end Go.Proofs.YtdikeggkfkkajaaDoor.PFnExactSolutions
