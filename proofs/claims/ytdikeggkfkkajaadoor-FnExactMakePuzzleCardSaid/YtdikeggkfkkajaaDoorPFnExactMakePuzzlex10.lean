-- Made by a program of this session (wip/xprint.py) out of the translation.
import Derived.Test.YtdikeggkfkkajaaDoorPFnExactMakePuzzlex0
import Derived.Test.YtdikeggkfkkajaaDoorPFnExactMakePuzzlex5
import Derived.Test.YtdikeggkfkkajaaDoorPFnExactMakePuzzlex6
import Derived.Test.YtdikeggkfkkajaaDoorPFnExactMakePuzzlex8
import Derived.Test.YtdikeggkfkkajaaDoorPFnExactMakePuzzlex9
namespace Go.Proofs.YtdikeggkfkkajaaDoor.PFnExactMakePuzzle
open Go.RowKit Go.Proofs.YtdikeggkfkkajaaDoorW.PrintWords Go.Proofs.YtdikeggkfkkajaaDoorW.PrintLast Go.Proofs.YtdikeggkfkkajaaDoorW.PrintMore
attribute [local go_sem] max2_int min2_int max_two min_two max_three min_three max_four min_four   -- for this text's walks alone
set_option linter.unusedVariables false
set_option linter.unusedSimpArgs false

/-! ### impl_MakePuzzle: function 19 -/
def impl_MakePuzzle.nx (z : Int) : Int := Int.tmod (wrap64 (wrap64 (z * 283) + 1021)) 10007
def impl_MakePuzzle.arg (kind y : Int) : Int := if kind = 1 then Int.tmod y 4 else if kind = 4 then Int.tmod y 5 else 0
def impl_MakePuzzle.clue (rows : List Int) (z : Int) : S69 := ⟨Int.tmod (impl_MakePuzzle.nx z) 6, impl_MakePuzzle.arg (Int.tmod (impl_MakePuzzle.nx z) 6) (impl_MakePuzzle.nx (impl_MakePuzzle.nx z)), Chomp.told (Int.tmod (impl_MakePuzzle.nx z) 6) (impl_MakePuzzle.arg (Int.tmod (impl_MakePuzzle.nx z) 6) (impl_MakePuzzle.nx (impl_MakePuzzle.nx z))) rows⟩
def impl_MakePuzzle.zs (z : Int) : Nat → Int
 | 0 => z
 | n + 1 => impl_MakePuzzle.nx (impl_MakePuzzle.nx (impl_MakePuzzle.zs z n))
def impl_MakePuzzle.make (rows : List Int) (z : Int) (n : Nat) : List S69 := (List.range n).map fun i => impl_MakePuzzle.clue rows (impl_MakePuzzle.zs z i)
theorem impl_MakePuzzle.nx_in {z : Int} (h0 : 0 ≤ z) (h1 : z ≤ 10006) : impl_MakePuzzle.nx z = (z * 283 + 1021) % 10007 ∧ 0 ≤ impl_MakePuzzle.nx z ∧ impl_MakePuzzle.nx z ≤ 10006 := by
 have e : impl_MakePuzzle.nx z = (z * 283 + 1021) % 10007 := by
  unfold impl_MakePuzzle.nx
  rw [PK.wrap_in (x := z * 283) (by omega) (by omega), PK.wrap_in (by omega) (by omega), Int.tmod_eq_emod_of_nonneg (by omega)]
 rw [e]
 omega
theorem impl_MakePuzzle.zs_in {z : Int} (h0 : 0 ≤ z) (h1 : z ≤ 10006) : ∀ n, 0 ≤ impl_MakePuzzle.zs z n ∧ impl_MakePuzzle.zs z n ≤ 10006 := by
 intro n
 induction n with
 | zero => exact ⟨h0, h1⟩
 | succ n ih =>
  have h2 := impl_MakePuzzle.nx_in ih.1 ih.2
  exact (impl_MakePuzzle.nx_in h2.2.1 h2.2.2).2
theorem impl_MakePuzzle.arg_in {kind y : Int} (h : 0 ≤ y) : 0 ≤ impl_MakePuzzle.arg kind y := by
 unfold impl_MakePuzzle.arg
 rw [Int.tmod_eq_emod_of_nonneg h, Int.tmod_eq_emod_of_nonneg h]
 split
 ·omega
 ·split <;> omega
theorem impl_MakePuzzle.make_len (rows : List Int) (z : Int) (n : Nat) : (impl_MakePuzzle.make rows z n).length = n := by unfold impl_MakePuzzle.make; simp
theorem impl_MakePuzzle.make_succ (rows : List Int) (z : Int) (n : Nat) : impl_MakePuzzle.make rows z (n + 1) = impl_MakePuzzle.make rows z n ++ [impl_MakePuzzle.clue rows (impl_MakePuzzle.zs z n)] := by unfold impl_MakePuzzle.make; rw [List.range_succ, List.map_append]; rfl
set_option maxHeartbeats 4000000 in
set_option maxRecDepth 100000 in
theorem impl_MakePuzzle.lam (z : Int) (g : Nat) (W : World) (hg : W.heap[g]? = some (.cells #[.int .i64 z] 3 (0, 0))) : Calls Tryd.prog 50 #[.pointer (some ⟨g, 0, none⟩)] W fun e w' => e = .returned (.int .i64 (impl_MakePuzzle.nx z)) ∧ w'.heap[g]? = some (.cells #[.int .i64 (impl_MakePuzzle.nx z)] 3 (0, 0)) ∧ Kq.KQ W w' (fun q => q = g) := by
 have HX := Aside0.mk (fun n => (blk_drewN (g := g) hg n))
 have HK := Aside0.mk (Kq.KQ.refl W (fun q => q = g))
 have hcz : W.cell? ⟨g, 0, none⟩ = some (.int .i64 z) := (blk_cell hg 0).trans rfl
 have hfz := blk_frozen hg 0
 have HG := Aside0.mk hg
 clear hg
 go_enter Tryd.func50, Tryd.ntmps50
 go_wp2
 go_ret
 exact ⟨rfl, blk_put (cs := #[.int .i64 z]) HG.out 0 _ rfl, Kq.KQ.setCell HK.out (.inl rfl) _⟩
def impl_MakePuzzle.f (k : Nat) (l0 : List Int) (a1 : Int) (a2 : Int) : Option ((List (S69)) × Bool) := (impl_isHidden.f k l0).bind fun t => if t = true then (impl_within.f a1 0 6).bind fun t1 => if t1 = true then (impl_within.f a2 0 9999).bind fun t2 => if t2 = true then (if Chomp.okB l0 = true ∧ 0 ≤ a1 ∧ a1 ≤ 6 ∧ 0 ≤ a2 ∧ a2 ≤ 9999 then some (impl_MakePuzzle.make l0 a2 a1.toNat, true) else none) else some ([], false) else some ([], false) else some ([], false)
theorem impl_MakePuzzle.mono (k : Nat) (l : List Int) (a b : Int) : LeO (impl_MakePuzzle.f k l a b) (impl_MakePuzzle.f (k + 1) l a b) := by
 unfold impl_MakePuzzle.f
 exact LeO.bind (impl_isHidden.mono _ _) (fun _ => LeO.refl _)
set_option maxHeartbeats 16000000 in
set_option maxRecDepth 100000 in
theorem impl_MakePuzzle.calls (k : Nat) (A0 : Option Addr) (c0 : Nat) (l0 : List Int) (a1 : Int) (a2 : Int) (r1 : List (S69)) (r2 : Bool) (w : World) (hr0 : Kd.C (Kd.int .i64) w A0 l0.length l0) (hc0 : l0.length ≤ c0) (h : impl_MakePuzzle.f k l0 a1 a2 = some (r1, r2)) :
  Calls Tryd.prog 19 #[.slice A0 l0.length c0, .int .i64 a1, .int .i64 a2] w fun e w' => ∃ v0_ : Value, e = .returned (.tuple #[.agg #[v0_], .bool r2]) ∧ Kd.R k69 69 w' w.heap.size (fun _ => True) v0_ r1 ∧ Below w.heap.size w w' := by
 unfold impl_MakePuzzle.f at h
 obtain ⟨t, ht, hz⟩ := Option.bind_eq_some_iff.1 h
 clear h
 have h := hz
 clear hz
 have HHD := Aside0.mk (fun W (hW : Below w.heap.size w W) => impl_isHidden.calls k A0 c0 l0 _ W (Kd.C_below hr0 hW) hc0 ht)
 clear ht
 cases t with
 | false =>
  rw [if_neg (by simp)] at h
  injection h with h
  injection h with h1 h2
  subst h1; subst h2
  clear hr0 hc0
  go_enter Tryd.func19, Tryd.ntmps19
  go_wp2_with (first | ((with_reducible refine gate_dst (N := 5) rfl ?_); refine box_event ?hg (N := 5) ?hd (cs := #[.int .i64 a2]) (t := 3) ?hr ?_; (case hd => rfl); (case hg => rfl); (case hr => first | (go_simp; done) | (go_simp; rfl)); intro g5 hg5 w5 hbox hb; have X5 := Aside0.mk hbox; have B := Aside0.mk hb; have G5 := Aside0.mk (show w.heap.size ≤ g5 by rw [hg5]; exact Nat.le_refl _); clear hbox hb hg5) | ((with_reducible refine gate_dst (N := 6) rfl ?_); refine box_event ?hg (N := 6) ?hd (cs := #[.slice none 0 0]) (t := 31) ?hr ?_; (case hd => rfl); (case hg => rfl); (case hr => first | (go_simp; done) | (go_simp; rfl)); intro g6 hg6 w6 hbox hb'; have NE56 := Aside0.mk (show g5 ≠ g6 by rw [hg6]; exact Nat.ne_of_lt (blk_lt X5.out)); have G6 := Aside0.mk (show w.heap.size ≤ g6 by rw [hg6]; exact B.out.size); have X6 := Aside0.mk hbox; clear hbox hg6; have n0_ := Aside0.mk (below_step B.out hb'); have n1_ := Aside0.mk (blk_below X5.out hb'); clear B X5 hb'; have B := n0_; have X5 := n1_; clear n0_ n1_) | (go_at_call 48; (with_reducible refine (HHD.out _ B.out).mono ?_); rintro e w7 ⟨rfl, hb⟩; have hb' := (show Below _ _ w7 by first | exact hb | exact hb.below); clear hb; have n0_ := Aside0.mk (below_step B.out hb'); have n1_ := Aside0.mk (blk_below X5.out hb'); have n2_ := Aside0.mk (blk_below X6.out hb'); clear B X5 X6 hb'; have B := n0_; have X5 := n1_; have X6 := n2_; clear n0_ n1_ n2_; have hcz6 : w7.cell? ⟨g6, 0, none⟩ = some (.slice none 0 0) := (blk_cell X6.out 0).trans rfl; have hfz6 := blk_frozen X6.out 0))
  refine bodyPost_ret (results_ct rfl _ _ g6 31 #[.slice none 0 0] (0, 0) _ rfl (by (with_reducible repeat (first | refine blk_drewN ?_ _ | refine blk_drew ?_ | refine blk_alloc ?_ _)); refine blk_put (cs := #[.slice none 0 0]) ?_ 0 _ rfl; (with_reducible repeat (first | refine blk_drewN ?_ _ | refine blk_drew ?_ | refine blk_alloc ?_ _)); exact X6.out) Tryd.underlying31 rfl (by kernel_rfl)) rfl ?_
  exact ⟨_, rfl, Kd.R_nil _ _ _ _ _, below_set B.out G6.out⟩
 | true =>
  rw [if_pos rfl] at h
  obtain ⟨t1, ht1, hz⟩ := Option.bind_eq_some_iff.1 h
  clear h
  have h := hz
  clear hz
  have HWA := Aside0.mk (fun W => impl_within.calls a1 0 6 _ W ht1)
  clear ht1
  cases t1 with
  | false =>
   rw [if_neg (by simp)] at h
   injection h with h
   injection h with h1 h2
   subst h1; subst h2
   clear hr0 hc0
   go_enter Tryd.func19, Tryd.ntmps19
   go_wp2_with (first | ((with_reducible refine gate_dst (N := 5) rfl ?_); refine box_event ?hg (N := 5) ?hd (cs := #[.int .i64 a2]) (t := 3) ?hr ?_; (case hd => rfl); (case hg => rfl); (case hr => first | (go_simp; done) | (go_simp; rfl)); intro g5 hg5 w5 hbox hb; have X5 := Aside0.mk hbox; have B := Aside0.mk hb; have G5 := Aside0.mk (show w.heap.size ≤ g5 by rw [hg5]; exact Nat.le_refl _); clear hbox hb hg5) | ((with_reducible refine gate_dst (N := 6) rfl ?_); refine box_event ?hg (N := 6) ?hd (cs := #[.slice none 0 0]) (t := 31) ?hr ?_; (case hd => rfl); (case hg => rfl); (case hr => first | (go_simp; done) | (go_simp; rfl)); intro g6 hg6 w6 hbox hb'; have NE56 := Aside0.mk (show g5 ≠ g6 by rw [hg6]; exact Nat.ne_of_lt (blk_lt X5.out)); have G6 := Aside0.mk (show w.heap.size ≤ g6 by rw [hg6]; exact B.out.size); have X6 := Aside0.mk hbox; clear hbox hg6; have n0_ := Aside0.mk (below_step B.out hb'); have n1_ := Aside0.mk (blk_below X5.out hb'); clear B X5 hb'; have B := n0_; have X5 := n1_; clear n0_ n1_) | (go_at_call 48; (with_reducible refine (HHD.out _ B.out).mono ?_); rintro e w7 ⟨rfl, hb⟩; have hb' := (show Below _ _ w7 by first | exact hb | exact hb.below); clear hb; have n0_ := Aside0.mk (below_step B.out hb'); have n1_ := Aside0.mk (blk_below X5.out hb'); have n2_ := Aside0.mk (blk_below X6.out hb'); clear B X5 X6 hb'; have B := n0_; have X5 := n1_; have X6 := n2_; clear n0_ n1_ n2_) | (go_at_call 49; (with_reducible refine (HWA.out _).mono ?_); rintro e w8 ⟨rfl, hb⟩; have hb' := (show Below _ _ w8 by first | exact hb | exact hb.below); clear hb; have n0_ := Aside0.mk (below_step B.out hb'); have n1_ := Aside0.mk (blk_below X5.out hb'); have n2_ := Aside0.mk (blk_below X6.out hb'); clear B X5 X6 hb'; have B := n0_; have X5 := n1_; have X6 := n2_; clear n0_ n1_ n2_; have hcz5 : w8.cell? ⟨g5, 0, none⟩ = some (.int .i64 a2) := (blk_cell X5.out 0).trans rfl; have hfz5 := blk_frozen X5.out 0; have hcz6 : w8.cell? ⟨g6, 0, none⟩ = some (.slice none 0 0) := (blk_cell X6.out 0).trans rfl; have hfz6 := blk_frozen X6.out 0))
   refine bodyPost_ret (results_ct rfl _ _ g6 31 #[.slice none 0 0] (0, 0) _ rfl (by (with_reducible repeat (first | refine blk_drewN ?_ _ | refine blk_drew ?_ | refine blk_alloc ?_ _)); refine blk_put (cs := #[.slice none 0 0]) ?_ 0 _ rfl; (with_reducible repeat (first | refine blk_drewN ?_ _ | refine blk_drew ?_ | refine blk_alloc ?_ _)); exact X6.out) Tryd.underlying31 rfl (by kernel_rfl)) rfl ?_
   exact ⟨_, rfl, Kd.R_nil _ _ _ _ _, below_set B.out G6.out⟩
  | true =>
   rw [if_pos rfl] at h
   obtain ⟨t2, ht2, hz⟩ := Option.bind_eq_some_iff.1 h
   clear h
   have h := hz
   clear hz
   have HWB := Aside0.mk (fun W => impl_within.calls a2 0 9999 _ W ht2)
   clear ht2
   cases t2 with
   | false =>
    rw [if_neg (by simp)] at h
    injection h with h
    injection h with h1 h2
    subst h1; subst h2
    clear hr0 hc0
    go_enter Tryd.func19, Tryd.ntmps19
    go_wp2_with (first | ((with_reducible refine gate_dst (N := 5) rfl ?_); refine box_event ?hg (N := 5) ?hd (cs := #[.int .i64 a2]) (t := 3) ?hr ?_; (case hd => rfl); (case hg => rfl); (case hr => first | (go_simp; done) | (go_simp; rfl)); intro g5 hg5 w5 hbox hb; have X5 := Aside0.mk hbox; have B := Aside0.mk hb; have G5 := Aside0.mk (show w.heap.size ≤ g5 by rw [hg5]; exact Nat.le_refl _); clear hbox hb hg5) | ((with_reducible refine gate_dst (N := 6) rfl ?_); refine box_event ?hg (N := 6) ?hd (cs := #[.slice none 0 0]) (t := 31) ?hr ?_; (case hd => rfl); (case hg => rfl); (case hr => first | (go_simp; done) | (go_simp; rfl)); intro g6 hg6 w6 hbox hb'; have NE56 := Aside0.mk (show g5 ≠ g6 by rw [hg6]; exact Nat.ne_of_lt (blk_lt X5.out)); have G6 := Aside0.mk (show w.heap.size ≤ g6 by rw [hg6]; exact B.out.size); have X6 := Aside0.mk hbox; clear hbox hg6; have n0_ := Aside0.mk (below_step B.out hb'); have n1_ := Aside0.mk (blk_below X5.out hb'); clear B X5 hb'; have B := n0_; have X5 := n1_; clear n0_ n1_) | (go_at_call 48; (with_reducible refine (HHD.out _ B.out).mono ?_); rintro e w7 ⟨rfl, hb⟩; have hb' := (show Below _ _ w7 by first | exact hb | exact hb.below); clear hb; have n0_ := Aside0.mk (below_step B.out hb'); have n1_ := Aside0.mk (blk_below X5.out hb'); have n2_ := Aside0.mk (blk_below X6.out hb'); clear B X5 X6 hb'; have B := n0_; have X5 := n1_; have X6 := n2_; clear n0_ n1_ n2_) | (go_at_call 49; (with_reducible refine (HWA.out _).mono ?_); rintro e w8 ⟨rfl, hb⟩; have hb' := (show Below _ _ w8 by first | exact hb | exact hb.below); clear hb; have n0_ := Aside0.mk (below_step B.out hb'); have n1_ := Aside0.mk (blk_below X5.out hb'); have n2_ := Aside0.mk (blk_below X6.out hb'); clear B X5 X6 hb'; have B := n0_; have X5 := n1_; have X6 := n2_; clear n0_ n1_ n2_; have hcz5 : w8.cell? ⟨g5, 0, none⟩ = some (.int .i64 a2) := (blk_cell X5.out 0).trans rfl; have hfz5 := blk_frozen X5.out 0) | (go_at_call 49; (with_reducible refine (HWB.out _).mono ?_); rintro e w9 ⟨rfl, hb⟩; have hb' := (show Below _ _ w9 by first | exact hb | exact hb.below); clear hb; have n0_ := Aside0.mk (below_step B.out hb'); have n1_ := Aside0.mk (blk_below X5.out hb'); have n2_ := Aside0.mk (blk_below X6.out hb'); clear B X5 X6 hb'; have B := n0_; have X5 := n1_; have X6 := n2_; clear n0_ n1_ n2_; have hcz6 : w9.cell? ⟨g6, 0, none⟩ = some (.slice none 0 0) := (blk_cell X6.out 0).trans rfl; have hfz6 := blk_frozen X6.out 0))
    refine bodyPost_ret (results_ct rfl _ _ g6 31 #[.slice none 0 0] (0, 0) _ rfl (by (with_reducible repeat (first | refine blk_drewN ?_ _ | refine blk_drew ?_ | refine blk_alloc ?_ _)); refine blk_put (cs := #[.slice none 0 0]) ?_ 0 _ rfl; (with_reducible repeat (first | refine blk_drewN ?_ _ | refine blk_drew ?_ | refine blk_alloc ?_ _)); exact X6.out) Tryd.underlying31 rfl (by kernel_rfl)) rfl ?_
    exact ⟨_, rfl, Kd.R_nil _ _ _ _ _, below_set B.out G6.out⟩
   | true =>
    rw [if_pos rfl] at h
    by_cases hc : Chomp.okB l0 = true ∧ 0 ≤ a1 ∧ a1 ≤ 6 ∧ 0 ≤ a2 ∧ a2 ≤ 9999
    ·rw [if_pos hc] at h
     injection h with h
     injection h with h1 h2
     subst h1; subst h2
     have HT := Aside0.mk (fun kind a b W (h : Below w.heap.size w W) hF ha => impl_fates_told.rec kind a l0 A0 c0 b W (Chomp.okB_iff.1 hc.1) (Kd.C_below hr0 h) hc0 hF ha)
     have HN := Aside0.mk impl_MakePuzzle.lam
     have HA := Aside0.mk hc.2
     obtain ⟨m0, hm0⟩ : ∃ m : Nat, a1 = (m : Int) := ⟨a1.toNat, (Int.toNat_of_nonneg hc.2.1).symm⟩
     subst hm0
     rw [Int.toNat_natCast]
     clear hr0 hc0 hc
     go_enter Tryd.func19, Tryd.ntmps19
     go_wp2_with (first | ((with_reducible refine gate_dst (N := 5) rfl ?_); refine box_event ?hg (N := 5) ?hd (cs := #[.int .i64 a2]) (t := 3) ?hr ?_; (case hd => rfl); (case hg => rfl); (case hr => first | (go_simp; done) | (go_simp; rfl)); intro g5 hg5 w5 hbox hb; have X5 := Aside0.mk hbox; have B := Aside0.mk hb; have G5 := Aside0.mk (show w.heap.size ≤ g5 by rw [hg5]; exact Nat.le_refl _); clear hbox hb hg5) | ((with_reducible refine gate_dst (N := 6) rfl ?_); refine box_event ?hg (N := 6) ?hd (cs := #[.slice none 0 0]) (t := 31) ?hr ?_; (case hd => rfl); (case hg => rfl); (case hr => first | (go_simp; done) | (go_simp; rfl)); intro g6 hg6 w6 hbox hb'; have NE56 := Aside0.mk (show g5 ≠ g6 by rw [hg6]; exact Nat.ne_of_lt (blk_lt X5.out)); have G6 := Aside0.mk (show w.heap.size ≤ g6 by rw [hg6]; exact B.out.size); have X6 := Aside0.mk hbox; clear hbox hg6; have n0_ := Aside0.mk (below_step B.out hb'); have n1_ := Aside0.mk (blk_below X5.out hb'); clear B X5 hb'; have B := n0_; have X5 := n1_; clear n0_ n1_) | (go_at_call 48; (with_reducible refine (HHD.out _ B.out).mono ?_); rintro e w7 ⟨rfl, hb⟩; have hb' := (show Below _ _ w7 by first | exact hb | exact hb.below); clear hb; have n0_ := Aside0.mk (below_step B.out hb'); have n1_ := Aside0.mk (blk_below X5.out hb'); have n2_ := Aside0.mk (blk_below X6.out hb'); clear B X5 X6 hb'; have B := n0_; have X5 := n1_; have X6 := n2_; clear n0_ n1_ n2_) | (go_at_call 49; (with_reducible refine (HWA.out _).mono ?_); rintro e w8 ⟨rfl, hb⟩; have hb' := (show Below _ _ w8 by first | exact hb | exact hb.below); clear hb; have n0_ := Aside0.mk (below_step B.out hb'); have n1_ := Aside0.mk (blk_below X5.out hb'); have n2_ := Aside0.mk (blk_below X6.out hb'); clear B X5 X6 hb'; have B := n0_; have X5 := n1_; have X6 := n2_; clear n0_ n1_ n2_; have hcz5 : w8.cell? ⟨g5, 0, none⟩ = some (.int .i64 a2) := (blk_cell X5.out 0).trans rfl; have hfz5 := blk_frozen X5.out 0) | (go_at_call 49; (with_reducible refine (HWB.out _).mono ?_); rintro e w9 ⟨rfl, hb⟩; have hb' := (show Below _ _ w9 by first | exact hb | exact hb.below); clear hb; have n0_ := Aside0.mk (below_step B.out hb'); have n1_ := Aside0.mk (blk_below X5.out hb'); have n2_ := Aside0.mk (blk_below X6.out hb'); clear B X5 X6 hb'; have B := n0_; have X5 := n1_; have X6 := n2_; clear n0_ n1_ n2_) | ((with_reducible refine gate_dst (N := 30) rfl ?_); refine Fmap.wp_makeM rfl rfl 73 rfl Tryd.prog 9 impl_fates_of.anyEl impl_fates_of.Q ?_; intro gm wm hgm hset hb'; have GM := Aside0.mk (show w.heap.size ≤ gm by rw [hgm]; exact B.out.size); have HF := Aside0.mk hset; clear hgm hset; have n0_ := Aside0.mk (below_step B.out hb'); have n1_ := Aside0.mk (blk_below X5.out hb'); have n2_ := Aside0.mk (blk_below X6.out hb'); clear B X5 X6 hb'; have B := n0_; have X5 := n1_; have X6 := n2_; clear n0_ n1_ n2_) | ((with_reducible refine gate_dst (N := 9) rfl ?_); refine box_event ?hg (N := 9) ?hd (cs := #[.slice none 0 0]) (t := 31) ?hr ?_; (case hd => rfl); (case hg => rfl); (case hr => first | (go_simp; done) | (go_simp; rfl)); intro g9 hg9 w11 hbox hb'; have NE59 := Aside0.mk (show g5 ≠ g9 by rw [hg9]; exact Nat.ne_of_lt (blk_lt X5.out)); have NE69 := Aside0.mk (show g6 ≠ g9 by rw [hg9]; exact Nat.ne_of_lt (blk_lt X6.out)); have G9 := Aside0.mk (show w.heap.size ≤ g9 by rw [hg9]; exact B.out.size); have X9 := Aside0.mk hbox; clear hbox hg9; have f_ := Aside0.mk (HF.out.below hb'); clear HF; have HF := f_; clear f_; have n0_ := Aside0.mk (below_step B.out hb'); have n1_ := Aside0.mk (blk_below X5.out hb'); have n2_ := Aside0.mk (blk_below X6.out hb'); clear B X5 X6 hb'; have B := n0_; have X5 := n1_; have X6 := n2_; clear n0_ n1_ n2_; have hcz9 : w11.cell? ⟨g9, 0, none⟩ = some (.slice none 0 0) := (blk_cell X9.out 0).trans rfl; have hfz9 := blk_frozen X9.out 0))
     have X9' := Aside0.mk (blk_put (cs := #[.slice none 0 0]) X9.out 0 (.slice none 0 0) rfl)
     have X5' := Aside0.mk (blk_far (p := ⟨g9, 0, none⟩) X5.out NE59.out (.slice none 0 0))
     have X6' := Aside0.mk (blk_far (p := ⟨g9, 0, none⟩) X6.out NE69.out (.slice none 0 0))
     have F' := Aside0.mk (HF.out.set (p := ⟨g9, 0, none⟩) (Ne.symm (HF.out.not_cells X9.out)) (.slice none 0 0))
     have B' := Aside0.mk (show Below w.heap.size w (w11.setCell ⟨g9, 0, none⟩ (.slice none 0 0)) from below_set B.out G9.out)
     clear X9 X5 X6 HF B hcz9 hfz9
     go_loopg [32] m0 (fun gg s32 wr => ∃ (kk : Nat) (vp : Value), kk ≤ m0 ∧ m0 - kk ≤ gg ∧ s32 = .int .i64 kk ∧ Aside0 (Below w.heap.size w wr) ∧ Aside0 (wr.heap[g5]? = some (.cells #[.int .i64 (impl_MakePuzzle.zs a2 kk)] 3 (0, 0))) ∧ Aside0 (wr.heap[g6]? = some (.cells #[.slice none 0 0] 31 (0, 0))) ∧ Aside0 (wr.heap[g9]? = some (.cells #[vp] 31 (0, 0))) ∧ Aside0 (Kd.R k69 69 wr w.heap.size (fun _ => True) vp (impl_MakePuzzle.make l0 a2 kk)) ∧ Aside0 (impl_fates_of.IsF wr gm))
     case atStart => exact ⟨0, .slice none 0 0, by omega, by omega, rfl, B', X5', X6', X9', ⟨Kd.R_nil _ _ _ _ _⟩, F'⟩
     case round =>
      clear X9' X5' X6' F' B'
      obtain ⟨kk, vp, hkk, hgg, rfl, B, X5, X6, X9, HP, HF⟩ := hrel
      by_cases hlt : kk < m0
      ·have hltb : decide ((kk : Int) < (m0 : Int)) = true := decide_eq_true (by omega)
       have hZ := impl_MakePuzzle.zs_in (z := a2) (by have := HA.out; omega) (by have := HA.out; omega) kk
       have hsucc0 := impl_MakePuzzle.make_succ l0 a2 kk
       have hzs0 : impl_MakePuzzle.zs a2 (kk + 1) = impl_MakePuzzle.nx (impl_MakePuzzle.nx (impl_MakePuzzle.zs a2 kk)) := rfl
       unfold impl_MakePuzzle.clue at hsucc0
       have hmm : (m0 : Int) ≤ 6 := HA.out.2.1
       generalize impl_MakePuzzle.zs a2 kk = Z at X5 hZ hsucc0 hzs0
       have h1 := impl_MakePuzzle.nx_in hZ.1 hZ.2
       have h2 := impl_MakePuzzle.nx_in h1.2.1 h1.2.2
       have HN1 := Aside0.mk (HN.out Z)
       have HN2 := Aside0.mk (HN.out (impl_MakePuzzle.nx Z))
       generalize impl_MakePuzzle.nx Z = y1 at hsucc0 hzs0 h1 h2 HN1 HN2
       generalize impl_MakePuzzle.nx y1 = y2 at hsucc0 hzs0 h2 HN2
       have hA0 := impl_MakePuzzle.arg_in (kind := Int.tmod y1 6) h2.2.1
       have hAA : impl_MakePuzzle.arg (Int.tmod y1 6) y2 = if Int.tmod y1 6 = 1 then Int.tmod y2 4 else if Int.tmod y1 6 = 4 then Int.tmod y2 5 else 0 := rfl
       generalize impl_MakePuzzle.arg (Int.tmod y1 6) y2 = AA at hsucc0 hA0 hAA
       have HT1 := Aside0.mk (fun b W h hF => HT.out (Int.tmod y1 6) AA b W h hF hA0)
       clear HT HN hA0 h1 h2 hZ
       have HT := HT1
       clear HT1
       generalize Chomp.told (Int.tmod y1 6) AA l0 = tt at hsucc0 HT
       have hsucc := hsucc0.symm
       clear hsucc0
       have HAA := Aside0.mk hAA
       have HSU := Aside0.mk hsucc
       have HZS := Aside0.mk hzs0
       clear hAA hsucc hzs0
       go_upto_region 9 with (first | (go_at_call 50; (refine (HN1.out g5 _ X5.out).mono ?_; rintro e wn ⟨rfl, hx, hk⟩); have n0_ := Aside0.mk hx; have n1_ := Aside0.mk (Kq.blk_kq X6.out hk (Ne.symm NE56.out)); have n2_ := Aside0.mk (Kq.blk_kq X9.out hk (Ne.symm NE59.out)); have n3_ := Aside0.mk (Kd.R_mono (ok' := fun _ => True) (Kq.R_kq (Kd.R_types HP.out X5.out (by decide)) hk (fun _ q => q.2)) (fun _ _ => trivial)); have n4_ := Aside0.mk (HF.out.kept (hk.k.2 _ HF.out.lt (fun e => HF.out.not_cells X5.out e.symm))); have n5_ := Aside0.mk (Kq.KQ.to_below B.out hk (fun q hq => by rw [hq]; exact G5.out)); clear X5 X6 X9 HP HF B hx hk; have X5 := n0_; have X6 := n1_; have X9 := n2_; have HP := n3_; have HF := n4_; have B := n5_; clear n0_ n1_ n2_ n3_ n4_ n5_) | (go_at_call 50; (refine (HN2.out g5 _ X5.out).mono ?_; rintro e wn ⟨rfl, hx, hk⟩); have n0_ := Aside0.mk hx; have n1_ := Aside0.mk (Kq.blk_kq X6.out hk (Ne.symm NE56.out)); have n2_ := Aside0.mk (Kq.blk_kq X9.out hk (Ne.symm NE59.out)); have n3_ := Aside0.mk (Kd.R_mono (ok' := fun _ => True) (Kq.R_kq (Kd.R_types HP.out X5.out (by decide)) hk (fun _ q => q.2)) (fun _ _ => trivial)); have n4_ := Aside0.mk (HF.out.kept (hk.k.2 _ HF.out.lt (fun e => HF.out.not_cells X5.out e.symm))); have n5_ := Aside0.mk (Kq.KQ.to_below B.out hk (fun q hq => by rw [hq]; exact G5.out)); clear X5 X6 X9 HP HF B hx hk; have X5 := n0_; have X6 := n1_; have X9 := n2_; have HP := n3_; have HF := n4_; have B := n5_; clear n0_ n1_ n2_ n3_ n4_ n5_))
       have X5' := X5
       have X6' := X6
       have X9' := X9
       have HP' := HP
       have HF' := HF
       have B' := B
       clear X5 X6 X9 HP HF B HN1 HN2
       by_cases c1 : Int.tmod y1 6 = 1
       ·have e1 : (Int.tmod y1 6 == 1) = true := beq_iff_eq.2 c1
        have hv : AA = Int.tmod y2 4 := by have := HAA.out; rw [if_pos c1] at this; exact this
        clear HAA c1
        subst hv
        go_upto_region 14 with (fail)
        have hsucc := HSU.out
        refine start_ (n := 14) (S := fun w' => w'.cell? ⟨g9, 0, none⟩ = some vp) (ds := [13]) #[false, false, false, false, false, false, false, false, false, false, false, false, false, false] (by kernel_rfl) rfl rfl ((blk_cell X9'.out 0).trans rfl) (fun hHeld => ?_)
        have X5 := Aside0.mk (blk_drew X5'.out)
        have X6 := Aside0.mk (blk_drew X6'.out)
        have X9 := Aside0.mk (blk_drew X9'.out)
        have HP := Aside0.mk (Kd.R_drew HP'.out)
        have HF : Aside0 (impl_fates_of.IsF wn.drew gm) := ⟨HF'.out⟩
        have B := Aside0.mk (below_drew1 B'.out)
        clear X5' X6' X9' HP' HF' B'
        generalize wn.drew = w20 at X5 X6 X9 HP HF B hHeld ⊢
        refine pure_ (i := 0) (N := some 48) (v := ?_) (a' := ?_) #[true, false, false, false, false, false, false, false, false, false, false, false, false, false] rfl rfl (by kernel_rfl) (fun _ _ _ h => h) (Or.inl ⟨by rfl, ?_⟩) ?_ ?_
        rotate_left
        ·intro w'
         go_simp
         with_reducible rfl
        rotate_left
        ·simp only [Act.put, Lam.pa, Lam.pb, Lam.pc, i64_w, i32_w]
         rfl
        refine pure_ (i := 2) (N := some 50) (v := ?_) (a' := ?_) #[true, false, true, false, false, false, false, false, false, false, false, false, false, false] rfl rfl (by kernel_rfl) (fun _ _ _ h => h) (Or.inl ⟨by rfl, ?_⟩) ?_ ?_
        rotate_left
        ·intro w'
         go_simp
         with_reducible rfl
        rotate_left
        ·simp only [Act.put, Lam.pa, Lam.pb, Lam.pc, i64_w, i32_w]
         rfl
        refine pure_ (i := 3) (N := some 51) (v := ?_) (a' := ?_) #[true, false, true, true, false, false, false, false, false, false, false, false, false, false] rfl rfl (by kernel_rfl) (fun _ _ _ h => h) (Or.inl ⟨by rfl, ?_⟩) ?_ ?_
        rotate_left
        ·intro w'
         go_simp
         with_reducible rfl
        rotate_left
        ·simp only [Act.put, Lam.pa, Lam.pb, Lam.pc, i64_w, i32_w]
         rfl
        refine pure_ (i := 4) (N := some 52) (v := ?_) (a' := ?_) #[true, false, true, true, true, false, false, false, false, false, false, false, false, false] rfl rfl (by kernel_rfl) (fun _ _ _ h => h) (Or.inl ⟨by rfl, ?_⟩) ?_ ?_
        rotate_left
        ·intro w'
         go_simp
         with_reducible rfl
        rotate_left
        ·simp only [Act.put, Lam.pa, Lam.pb, Lam.pc, i64_w, i32_w]
         rfl
        refine pure_ (i := 5) (N := some 53) (v := ?_) (a' := ?_) #[true, false, true, true, true, true, false, false, false, false, false, false, false, false] rfl rfl (by kernel_rfl) (fun _ _ _ h => h) (Or.inl ⟨by rfl, ?_⟩) ?_ ?_
        rotate_left
        ·intro w'
         go_simp
         with_reducible rfl
        rotate_left
        ·simp only [Act.put, Lam.pa, Lam.pb, Lam.pc, i64_w, i32_w]
         rfl
        refine pure_ (i := 6) (N := some 54) (v := ?_) (a' := ?_) #[true, false, true, true, true, true, true, false, false, false, false, false, false, false] rfl rfl (by kernel_rfl) (fun _ _ _ h => h) (Or.inl ⟨by rfl, ?_⟩) ?_ ?_
        rotate_left
        ·intro w'
         go_simp
         with_reducible rfl
        rotate_left
        ·simp only [Act.put, Lam.pa, Lam.pb, Lam.pc, i64_w, i32_w]
         rfl
        refine pure_ (i := 7) (N := some 55) (v := ?_) (a' := ?_) #[true, false, true, true, true, true, true, true, false, false, false, false, false, false] rfl rfl (by kernel_rfl) (fun _ _ _ h => h) (Or.inl ⟨by rfl, ?_⟩) ?_ ?_
        rotate_left
        ·intro w'
         go_simp
         with_reducible rfl
        rotate_left
        ·simp only [Act.put, Lam.pa, Lam.pb, Lam.pc, i64_w, i32_w]
         rfl
        refine take_ (i := 1) (N := some 49) (v := ?_) (a' := ?_) #[true, true, true, true, true, true, true, true, false, false, false, false, false, false] rfl rfl (by kernel_rfl) (fun _ _ _ h => h) (Or.inl ⟨by rfl, ?_⟩) hHeld ?_ ?_
        rotate_left
        ·rintro w' s0
         skip
         go_simp
         with_reducible rfl
        rotate_left
        ·simp only [Act.put, Lam.pa, Lam.pb, Lam.pc, i64_w, i32_w]
         rfl
        refine one_ (i := 8) (N := some 56) #[true, true, true, true, true, true, true, true, true, false, false, false, false, false] rfl rfl (by kernel_rfl) (by decide) (fun K hK => ?_)
        refine goes_ Tryd.func51 (by kernel_rfl) rfl #[.map (some gm), .int .i64 (Int.tmod y1 6), .int .i64 (Int.tmod y2 4), .slice A0 l0.length c0] (by rfl) rfl rfl (by (try simp only [List.map_toArray, List.map_cons, List.map_nil]); first | done | rfl | (simp [Act.eval]; done)) ?_
        refine (HT.out gm _ B.out HF.out).mono ?_
        rintro e w25 ⟨rfl, hf, hk⟩
        refine ⟨_, rfl, ?_⟩
        have n1_ := Aside0.mk (Kq.blk_kq X6.out hk (HF.out.not_cells X6.out))
        have n2_ := Aside0.mk (Kq.blk_kq X9.out hk (HF.out.not_cells X9.out))
        have n0_ := Aside0.mk (Kq.blk_kq X5.out hk (HF.out.not_cells X5.out))
        have n3_ := Aside0.mk (Kd.R_mono (ok' := fun _ => True) (Kq.R_kq (Kd.R_bound HP.out) hk (fun k hk => by obtain ⟨_, _, _, q, _, cs, hc⟩ := hk; exact HF.out.not_cells hc)) (fun _ _ => trivial))
        have n5_ := Aside0.mk (Kq.KQ.to_below B.out hk (fun q hq => by rw [hq]; exact GM.out))
        clear X5 X6 X9 HP HF B hk
        have X5 := n0_
        have X6 := n1_
        have X9 := n2_
        have HP := n3_
        have HF := Aside0.mk hf
        have B := n5_
        clear n0_ n1_ n2_ n3_ n5_ hf
        refine hK.out _ _ ((blk_cell X9.out 0).trans rfl) (fun hHeld => ?_)
        clear hK K
        refine norm_ (a' := ?_) ?_ ?_
        rotate_left
        ·show Act.put _ (some 56) _ = _
         simp only [Act.put, Lam.pa, Lam.pb, Lam.pc, i64_w, i32_w]
         rfl
        refine pure_ (i := 9) (N := some 57) (v := ?_) (a' := ?_) #[true, true, true, true, true, true, true, true, true, true, false, false, false, false] rfl rfl (by kernel_rfl) (fun _ _ _ h => h) (Or.inl ⟨by rfl, ?_⟩) ?_ ?_
        rotate_left
        ·intro w'
         go_simp
         with_reducible rfl
        rotate_left
        ·simp only [Act.put, Lam.pa, Lam.pb, Lam.pc, i64_w, i32_w]
         rfl
        refine one_ (i := 10) (N := some 58) #[true, true, true, true, true, true, true, true, true, true, true, false, false, false] rfl rfl (by kernel_rfl) (by decide) (fun K hK => ?_)
        refine value_ (w1 := ?_) (v := ?_) (by rfl) rfl ?_ ?_
        rotate_left 2
        ·go_simp
         constructor
         ·rfl
         ·rfl
        refine hK.out _ _ ((blk_cell (blk_alloc X9.out _) 0).trans rfl) (fun hHeld => ?_)
        clear hK K
        refine norm_ (a' := ?_) ?_ ?_
        rotate_left
        ·show Act.put _ (some 58) _ = _
         simp only [Act.put, Lam.pa, Lam.pb, Lam.pc, i64_w, i32_w]
         rfl
        refine one_ (i := 11) (N := some 59) #[true, true, true, true, true, true, true, true, true, true, true, true, false, false] rfl rfl (by kernel_rfl) (by decide) (fun K hK => ?_)
        refine Kd.R_append_step k69 (w0 := w) w.heap.size (by rfl) (.tmp 49) (.tmp 58) 29 69 (.agg #[(.int .i64 0), (.int .i64 0), (.int .i64 0)]) 24 rfl Tryd.underlying29 info69 rfl (by decide) (by omega) vp (impl_MakePuzzle.make l0 a2 kk) (⟨Int.tmod y1 6, (Int.tmod y2 4), tt⟩ : S69) [.int .i64 (Int.tmod y1 6), .int .i64 (Int.tmod y2 4), .int .i64 tt] (fun _ => True) (fun _ => False) rfl rfl ?aP (fun _ hk => hk.elim) ?aF ?aO ?aB ?aS ?aL ?_
        (case aP => exact k69_mkM _ _ _ (⟨Int.tmod y1 6, (Int.tmod y2 4), tt⟩ : S69))
        (case aB => exact B.out)
        (case aF => exact (fun _ _ => trivial))
        (case aO => exact HP.out)
        (case aS => exact below_size B.out)
        (case aL => rw [impl_MakePuzzle.make_len]; omega)
        intro v185 w26 ho hb hg hat
        rw [hsucc] at ho
        have n0_ := Aside0.mk (blk_grown X5.out hg (Kd.R_ne HP.out X5.out (by decide)))
        have n1_ := Aside0.mk (blk_grown X6.out hg (Kd.R_ne HP.out X6.out (by decide)))
        have n2_ := Aside0.mk (blk_grown X9.out hg (Kd.R_ne HP.out X9.out (by decide)))
        have hfa := HF.out
        have n4_ := Aside0.mk (hfa.kept (hg.block _ hfa.lt (fun e => by obtain ⟨cs, hc⟩ := Kd.R_typed (HP.out) _ e.symm; exact hfa.not_cells hc rfl)))
        have n3_ := Aside0.mk ho
        have n5_ := Aside0.mk hb
        clear X5 X6 X9 HP HF B hfa ho hb hg hat
        have X5 := n0_
        have X6 := n1_
        have X9 := n2_
        have HP := n3_
        have HF := n4_
        have B := n5_
        clear n0_ n1_ n2_ n3_ n4_ n5_
        obtain ⟨Ao, co, eo⟩ := Kd.R_slice HP.out
        subst eo
        refine hK.out _ _ ((blk_cell X9.out 0).trans rfl) (fun hHeld => ?_)
        clear hK K
        refine norm_ (a' := ?_) ?_ ?_
        rotate_left
        ·show Act.put _ (some 59) _ = _
         simp only [Act.put, Lam.pa, Lam.pb, Lam.pc, i64_w, i32_w]
         rfl
        refine pure_ (i := 12) (N := some 60) (v := ?_) (a' := ?_) #[true, true, true, true, true, true, true, true, true, true, true, true, true, false] rfl rfl (by kernel_rfl) (fun _ _ _ h => h) (Or.inl ⟨by rfl, ?_⟩) ?_ ?_
        rotate_left
        ·intro w'
         go_simp
         with_reducible rfl
        rotate_left
        ·simp only [Act.put, Lam.pa, Lam.pb, Lam.pc, i64_w, i32_w]
         rfl
        refine last_ (i := 13) (N := none) #[true, true, true, true, true, true, true, true, true, true, true, true, true, true] rfl rfl (by kernel_rfl) (by decide) (fun K hK => ?_)
        have hs28 : w26.cell? ⟨g9, 0, none⟩ = some vp := (blk_cell X9.out 0).trans rfl
        have hfs28 := blk_frozen X9.out 0
        refine skip_ (w1 := ?_) (by rfl) rfl ?_ ?_
        rotate_left
        ·go_simp
         rfl
        refine hK.out _ _ ?_
        clear hK K
        refine done_ (by kernel_rfl) ?_
        clear hs28 hfs28
        try go_wp2
        go_roundg (m0 - (kk + 1))
        case measure => omega
        case rel => exact ⟨kk + 1, _, by omega, by omega, by go_num, ⟨below_set B.out G9.out⟩, ⟨by rw [HZS.out]; exact blk_far (p := ⟨g9, 0, none⟩) X5.out NE59.out _⟩, ⟨blk_far (p := ⟨g9, 0, none⟩) X6.out NE69.out _⟩, ⟨blk_put (cs := #[vp]) X9.out 0 _ rfl⟩, ⟨Kd.R_mono (Kd.R_far (p := ⟨g9, 0, none⟩) (Kd.R_types HP.out X9.out (by decide)) (fun _ hk => hk.2) _) (fun _ _ => trivial)⟩, ⟨HF.out.set (p := ⟨g9, 0, none⟩) (Ne.symm (HF.out.not_cells X9.out)) _⟩⟩
       ·have e1 : (Int.tmod y1 6 == 1) = false := beq_eq_false_iff_ne.mpr c1
        by_cases c4 : Int.tmod y1 6 = 4
        ·have e4 : (Int.tmod y1 6 == 4) = true := beq_iff_eq.2 c4
         have hv : AA = Int.tmod y2 5 := by have := HAA.out; rw [if_neg c1, if_pos c4] at this; exact this
         clear HAA c1 c4
         subst hv
         go_upto_region 14 with (fail)
         have hsucc := HSU.out
         refine start_ (n := 14) (S := fun w' => w'.cell? ⟨g9, 0, none⟩ = some vp) (ds := [13]) #[false, false, false, false, false, false, false, false, false, false, false, false, false, false] (by kernel_rfl) rfl rfl ((blk_cell X9'.out 0).trans rfl) (fun hHeld => ?_)
         have X5 := Aside0.mk (blk_drew X5'.out)
         have X6 := Aside0.mk (blk_drew X6'.out)
         have X9 := Aside0.mk (blk_drew X9'.out)
         have HP := Aside0.mk (Kd.R_drew HP'.out)
         have HF : Aside0 (impl_fates_of.IsF wn.drew gm) := ⟨HF'.out⟩
         have B := Aside0.mk (below_drew1 B'.out)
         clear X5' X6' X9' HP' HF' B'
         generalize wn.drew = w20 at X5 X6 X9 HP HF B hHeld ⊢
         refine pure_ (i := 0) (N := some 48) (v := ?_) (a' := ?_) #[true, false, false, false, false, false, false, false, false, false, false, false, false, false] rfl rfl (by kernel_rfl) (fun _ _ _ h => h) (Or.inl ⟨by rfl, ?_⟩) ?_ ?_
         rotate_left
         ·intro w'
          go_simp
          with_reducible rfl
         rotate_left
         ·simp only [Act.put, Lam.pa, Lam.pb, Lam.pc, i64_w, i32_w]
          rfl
         refine pure_ (i := 2) (N := some 50) (v := ?_) (a' := ?_) #[true, false, true, false, false, false, false, false, false, false, false, false, false, false] rfl rfl (by kernel_rfl) (fun _ _ _ h => h) (Or.inl ⟨by rfl, ?_⟩) ?_ ?_
         rotate_left
         ·intro w'
          go_simp
          with_reducible rfl
         rotate_left
         ·simp only [Act.put, Lam.pa, Lam.pb, Lam.pc, i64_w, i32_w]
          rfl
         refine pure_ (i := 3) (N := some 51) (v := ?_) (a' := ?_) #[true, false, true, true, false, false, false, false, false, false, false, false, false, false] rfl rfl (by kernel_rfl) (fun _ _ _ h => h) (Or.inl ⟨by rfl, ?_⟩) ?_ ?_
         rotate_left
         ·intro w'
          go_simp
          with_reducible rfl
         rotate_left
         ·simp only [Act.put, Lam.pa, Lam.pb, Lam.pc, i64_w, i32_w]
          rfl
         refine pure_ (i := 4) (N := some 52) (v := ?_) (a' := ?_) #[true, false, true, true, true, false, false, false, false, false, false, false, false, false] rfl rfl (by kernel_rfl) (fun _ _ _ h => h) (Or.inl ⟨by rfl, ?_⟩) ?_ ?_
         rotate_left
         ·intro w'
          go_simp
          with_reducible rfl
         rotate_left
         ·simp only [Act.put, Lam.pa, Lam.pb, Lam.pc, i64_w, i32_w]
          rfl
         refine pure_ (i := 5) (N := some 53) (v := ?_) (a' := ?_) #[true, false, true, true, true, true, false, false, false, false, false, false, false, false] rfl rfl (by kernel_rfl) (fun _ _ _ h => h) (Or.inl ⟨by rfl, ?_⟩) ?_ ?_
         rotate_left
         ·intro w'
          go_simp
          with_reducible rfl
         rotate_left
         ·simp only [Act.put, Lam.pa, Lam.pb, Lam.pc, i64_w, i32_w]
          rfl
         refine pure_ (i := 6) (N := some 54) (v := ?_) (a' := ?_) #[true, false, true, true, true, true, true, false, false, false, false, false, false, false] rfl rfl (by kernel_rfl) (fun _ _ _ h => h) (Or.inl ⟨by rfl, ?_⟩) ?_ ?_
         rotate_left
         ·intro w'
          go_simp
          with_reducible rfl
         rotate_left
         ·simp only [Act.put, Lam.pa, Lam.pb, Lam.pc, i64_w, i32_w]
          rfl
         refine pure_ (i := 7) (N := some 55) (v := ?_) (a' := ?_) #[true, false, true, true, true, true, true, true, false, false, false, false, false, false] rfl rfl (by kernel_rfl) (fun _ _ _ h => h) (Or.inl ⟨by rfl, ?_⟩) ?_ ?_
         rotate_left
         ·intro w'
          go_simp
          with_reducible rfl
         rotate_left
         ·simp only [Act.put, Lam.pa, Lam.pb, Lam.pc, i64_w, i32_w]
          rfl
         refine take_ (i := 1) (N := some 49) (v := ?_) (a' := ?_) #[true, true, true, true, true, true, true, true, false, false, false, false, false, false] rfl rfl (by kernel_rfl) (fun _ _ _ h => h) (Or.inl ⟨by rfl, ?_⟩) hHeld ?_ ?_
         rotate_left
         ·rintro w' s0
          skip
          go_simp
          with_reducible rfl
         rotate_left
         ·simp only [Act.put, Lam.pa, Lam.pb, Lam.pc, i64_w, i32_w]
          rfl
         refine one_ (i := 8) (N := some 56) #[true, true, true, true, true, true, true, true, true, false, false, false, false, false] rfl rfl (by kernel_rfl) (by decide) (fun K hK => ?_)
         refine goes_ Tryd.func51 (by kernel_rfl) rfl #[.map (some gm), .int .i64 (Int.tmod y1 6), .int .i64 (Int.tmod y2 5), .slice A0 l0.length c0] (by rfl) rfl rfl (by (try simp only [List.map_toArray, List.map_cons, List.map_nil]); first | done | rfl | (simp [Act.eval]; done)) ?_
         refine (HT.out gm _ B.out HF.out).mono ?_
         rintro e w25 ⟨rfl, hf, hk⟩
         refine ⟨_, rfl, ?_⟩
         have n1_ := Aside0.mk (Kq.blk_kq X6.out hk (HF.out.not_cells X6.out))
         have n2_ := Aside0.mk (Kq.blk_kq X9.out hk (HF.out.not_cells X9.out))
         have n0_ := Aside0.mk (Kq.blk_kq X5.out hk (HF.out.not_cells X5.out))
         have n3_ := Aside0.mk (Kd.R_mono (ok' := fun _ => True) (Kq.R_kq (Kd.R_bound HP.out) hk (fun k hk => by obtain ⟨_, _, _, q, _, cs, hc⟩ := hk; exact HF.out.not_cells hc)) (fun _ _ => trivial))
         have n5_ := Aside0.mk (Kq.KQ.to_below B.out hk (fun q hq => by rw [hq]; exact GM.out))
         clear X5 X6 X9 HP HF B hk
         have X5 := n0_
         have X6 := n1_
         have X9 := n2_
         have HP := n3_
         have HF := Aside0.mk hf
         have B := n5_
         clear n0_ n1_ n2_ n3_ n5_ hf
         refine hK.out _ _ ((blk_cell X9.out 0).trans rfl) (fun hHeld => ?_)
         clear hK K
         refine norm_ (a' := ?_) ?_ ?_
         rotate_left
         ·show Act.put _ (some 56) _ = _
          simp only [Act.put, Lam.pa, Lam.pb, Lam.pc, i64_w, i32_w]
          rfl
         refine pure_ (i := 9) (N := some 57) (v := ?_) (a' := ?_) #[true, true, true, true, true, true, true, true, true, true, false, false, false, false] rfl rfl (by kernel_rfl) (fun _ _ _ h => h) (Or.inl ⟨by rfl, ?_⟩) ?_ ?_
         rotate_left
         ·intro w'
          go_simp
          with_reducible rfl
         rotate_left
         ·simp only [Act.put, Lam.pa, Lam.pb, Lam.pc, i64_w, i32_w]
          rfl
         refine one_ (i := 10) (N := some 58) #[true, true, true, true, true, true, true, true, true, true, true, false, false, false] rfl rfl (by kernel_rfl) (by decide) (fun K hK => ?_)
         refine value_ (w1 := ?_) (v := ?_) (by rfl) rfl ?_ ?_
         rotate_left 2
         ·go_simp
          constructor
          ·rfl
          ·rfl
         refine hK.out _ _ ((blk_cell (blk_alloc X9.out _) 0).trans rfl) (fun hHeld => ?_)
         clear hK K
         refine norm_ (a' := ?_) ?_ ?_
         rotate_left
         ·show Act.put _ (some 58) _ = _
          simp only [Act.put, Lam.pa, Lam.pb, Lam.pc, i64_w, i32_w]
          rfl
         refine one_ (i := 11) (N := some 59) #[true, true, true, true, true, true, true, true, true, true, true, true, false, false] rfl rfl (by kernel_rfl) (by decide) (fun K hK => ?_)
         refine Kd.R_append_step k69 (w0 := w) w.heap.size (by rfl) (.tmp 49) (.tmp 58) 29 69 (.agg #[(.int .i64 0), (.int .i64 0), (.int .i64 0)]) 24 rfl Tryd.underlying29 info69 rfl (by decide) (by omega) vp (impl_MakePuzzle.make l0 a2 kk) (⟨Int.tmod y1 6, (Int.tmod y2 5), tt⟩ : S69) [.int .i64 (Int.tmod y1 6), .int .i64 (Int.tmod y2 5), .int .i64 tt] (fun _ => True) (fun _ => False) rfl rfl ?aP (fun _ hk => hk.elim) ?aF ?aO ?aB ?aS ?aL ?_
         (case aP => exact k69_mkM _ _ _ (⟨Int.tmod y1 6, (Int.tmod y2 5), tt⟩ : S69))
         (case aB => exact B.out)
         (case aF => exact (fun _ _ => trivial))
         (case aO => exact HP.out)
         (case aS => exact below_size B.out)
         (case aL => rw [impl_MakePuzzle.make_len]; omega)
         intro v185 w26 ho hb hg hat
         rw [hsucc] at ho
         have n0_ := Aside0.mk (blk_grown X5.out hg (Kd.R_ne HP.out X5.out (by decide)))
         have n1_ := Aside0.mk (blk_grown X6.out hg (Kd.R_ne HP.out X6.out (by decide)))
         have n2_ := Aside0.mk (blk_grown X9.out hg (Kd.R_ne HP.out X9.out (by decide)))
         have hfa := HF.out
         have n4_ := Aside0.mk (hfa.kept (hg.block _ hfa.lt (fun e => by obtain ⟨cs, hc⟩ := Kd.R_typed (HP.out) _ e.symm; exact hfa.not_cells hc rfl)))
         have n3_ := Aside0.mk ho
         have n5_ := Aside0.mk hb
         clear X5 X6 X9 HP HF B hfa ho hb hg hat
         have X5 := n0_
         have X6 := n1_
         have X9 := n2_
         have HP := n3_
         have HF := n4_
         have B := n5_
         clear n0_ n1_ n2_ n3_ n4_ n5_
         obtain ⟨Ao, co, eo⟩ := Kd.R_slice HP.out
         subst eo
         refine hK.out _ _ ((blk_cell X9.out 0).trans rfl) (fun hHeld => ?_)
         clear hK K
         refine norm_ (a' := ?_) ?_ ?_
         rotate_left
         ·show Act.put _ (some 59) _ = _
          simp only [Act.put, Lam.pa, Lam.pb, Lam.pc, i64_w, i32_w]
          rfl
         refine pure_ (i := 12) (N := some 60) (v := ?_) (a' := ?_) #[true, true, true, true, true, true, true, true, true, true, true, true, true, false] rfl rfl (by kernel_rfl) (fun _ _ _ h => h) (Or.inl ⟨by rfl, ?_⟩) ?_ ?_
         rotate_left
         ·intro w'
          go_simp
          with_reducible rfl
         rotate_left
         ·simp only [Act.put, Lam.pa, Lam.pb, Lam.pc, i64_w, i32_w]
          rfl
         refine last_ (i := 13) (N := none) #[true, true, true, true, true, true, true, true, true, true, true, true, true, true] rfl rfl (by kernel_rfl) (by decide) (fun K hK => ?_)
         have hs28 : w26.cell? ⟨g9, 0, none⟩ = some vp := (blk_cell X9.out 0).trans rfl
         have hfs28 := blk_frozen X9.out 0
         refine skip_ (w1 := ?_) (by rfl) rfl ?_ ?_
         rotate_left
         ·go_simp
          rfl
         refine hK.out _ _ ?_
         clear hK K
         refine done_ (by kernel_rfl) ?_
         clear hs28 hfs28
         try go_wp2
         go_roundg (m0 - (kk + 1))
         case measure => omega
         case rel => exact ⟨kk + 1, _, by omega, by omega, by go_num, ⟨below_set B.out G9.out⟩, ⟨by rw [HZS.out]; exact blk_far (p := ⟨g9, 0, none⟩) X5.out NE59.out _⟩, ⟨blk_far (p := ⟨g9, 0, none⟩) X6.out NE69.out _⟩, ⟨blk_put (cs := #[vp]) X9.out 0 _ rfl⟩, ⟨Kd.R_mono (Kd.R_far (p := ⟨g9, 0, none⟩) (Kd.R_types HP.out X9.out (by decide)) (fun _ hk => hk.2) _) (fun _ _ => trivial)⟩, ⟨HF.out.set (p := ⟨g9, 0, none⟩) (Ne.symm (HF.out.not_cells X9.out)) _⟩⟩
        ·have e4 : (Int.tmod y1 6 == 4) = false := beq_eq_false_iff_ne.mpr c4
         have hv : AA = 0 := by have := HAA.out; rw [if_neg c1, if_neg c4] at this; exact this
         clear HAA c1 c4
         subst hv
         go_upto_region 14 with (fail)
         have hsucc := HSU.out
         refine start_ (n := 14) (S := fun w' => w'.cell? ⟨g9, 0, none⟩ = some vp) (ds := [13]) #[false, false, false, false, false, false, false, false, false, false, false, false, false, false] (by kernel_rfl) rfl rfl ((blk_cell X9'.out 0).trans rfl) (fun hHeld => ?_)
         have X5 := Aside0.mk (blk_drew X5'.out)
         have X6 := Aside0.mk (blk_drew X6'.out)
         have X9 := Aside0.mk (blk_drew X9'.out)
         have HP := Aside0.mk (Kd.R_drew HP'.out)
         have HF : Aside0 (impl_fates_of.IsF wn.drew gm) := ⟨HF'.out⟩
         have B := Aside0.mk (below_drew1 B'.out)
         clear X5' X6' X9' HP' HF' B'
         generalize wn.drew = w20 at X5 X6 X9 HP HF B hHeld ⊢
         refine pure_ (i := 0) (N := some 48) (v := ?_) (a' := ?_) #[true, false, false, false, false, false, false, false, false, false, false, false, false, false] rfl rfl (by kernel_rfl) (fun _ _ _ h => h) (Or.inl ⟨by rfl, ?_⟩) ?_ ?_
         rotate_left
         ·intro w'
          go_simp
          with_reducible rfl
         rotate_left
         ·simp only [Act.put, Lam.pa, Lam.pb, Lam.pc, i64_w, i32_w]
          rfl
         refine pure_ (i := 2) (N := some 50) (v := ?_) (a' := ?_) #[true, false, true, false, false, false, false, false, false, false, false, false, false, false] rfl rfl (by kernel_rfl) (fun _ _ _ h => h) (Or.inl ⟨by rfl, ?_⟩) ?_ ?_
         rotate_left
         ·intro w'
          go_simp
          with_reducible rfl
         rotate_left
         ·simp only [Act.put, Lam.pa, Lam.pb, Lam.pc, i64_w, i32_w]
          rfl
         refine pure_ (i := 3) (N := some 51) (v := ?_) (a' := ?_) #[true, false, true, true, false, false, false, false, false, false, false, false, false, false] rfl rfl (by kernel_rfl) (fun _ _ _ h => h) (Or.inl ⟨by rfl, ?_⟩) ?_ ?_
         rotate_left
         ·intro w'
          go_simp
          with_reducible rfl
         rotate_left
         ·simp only [Act.put, Lam.pa, Lam.pb, Lam.pc, i64_w, i32_w]
          rfl
         refine pure_ (i := 4) (N := some 52) (v := ?_) (a' := ?_) #[true, false, true, true, true, false, false, false, false, false, false, false, false, false] rfl rfl (by kernel_rfl) (fun _ _ _ h => h) (Or.inl ⟨by rfl, ?_⟩) ?_ ?_
         rotate_left
         ·intro w'
          go_simp
          with_reducible rfl
         rotate_left
         ·simp only [Act.put, Lam.pa, Lam.pb, Lam.pc, i64_w, i32_w]
          rfl
         refine pure_ (i := 5) (N := some 53) (v := ?_) (a' := ?_) #[true, false, true, true, true, true, false, false, false, false, false, false, false, false] rfl rfl (by kernel_rfl) (fun _ _ _ h => h) (Or.inl ⟨by rfl, ?_⟩) ?_ ?_
         rotate_left
         ·intro w'
          go_simp
          with_reducible rfl
         rotate_left
         ·simp only [Act.put, Lam.pa, Lam.pb, Lam.pc, i64_w, i32_w]
          rfl
         refine pure_ (i := 6) (N := some 54) (v := ?_) (a' := ?_) #[true, false, true, true, true, true, true, false, false, false, false, false, false, false] rfl rfl (by kernel_rfl) (fun _ _ _ h => h) (Or.inl ⟨by rfl, ?_⟩) ?_ ?_
         rotate_left
         ·intro w'
          go_simp
          with_reducible rfl
         rotate_left
         ·simp only [Act.put, Lam.pa, Lam.pb, Lam.pc, i64_w, i32_w]
          rfl
         refine pure_ (i := 7) (N := some 55) (v := ?_) (a' := ?_) #[true, false, true, true, true, true, true, true, false, false, false, false, false, false] rfl rfl (by kernel_rfl) (fun _ _ _ h => h) (Or.inl ⟨by rfl, ?_⟩) ?_ ?_
         rotate_left
         ·intro w'
          go_simp
          with_reducible rfl
         rotate_left
         ·simp only [Act.put, Lam.pa, Lam.pb, Lam.pc, i64_w, i32_w]
          rfl
         refine take_ (i := 1) (N := some 49) (v := ?_) (a' := ?_) #[true, true, true, true, true, true, true, true, false, false, false, false, false, false] rfl rfl (by kernel_rfl) (fun _ _ _ h => h) (Or.inl ⟨by rfl, ?_⟩) hHeld ?_ ?_
         rotate_left
         ·rintro w' s0
          skip
          go_simp
          with_reducible rfl
         rotate_left
         ·simp only [Act.put, Lam.pa, Lam.pb, Lam.pc, i64_w, i32_w]
          rfl
         refine one_ (i := 8) (N := some 56) #[true, true, true, true, true, true, true, true, true, false, false, false, false, false] rfl rfl (by kernel_rfl) (by decide) (fun K hK => ?_)
         refine goes_ Tryd.func51 (by kernel_rfl) rfl #[.map (some gm), .int .i64 (Int.tmod y1 6), .int .i64 0, .slice A0 l0.length c0] (by rfl) rfl rfl (by (try simp only [List.map_toArray, List.map_cons, List.map_nil]); first | done | rfl | (simp [Act.eval]; done)) ?_
         refine (HT.out gm _ B.out HF.out).mono ?_
         rintro e w25 ⟨rfl, hf, hk⟩
         refine ⟨_, rfl, ?_⟩
         have n1_ := Aside0.mk (Kq.blk_kq X6.out hk (HF.out.not_cells X6.out))
         have n2_ := Aside0.mk (Kq.blk_kq X9.out hk (HF.out.not_cells X9.out))
         have n0_ := Aside0.mk (Kq.blk_kq X5.out hk (HF.out.not_cells X5.out))
         have n3_ := Aside0.mk (Kd.R_mono (ok' := fun _ => True) (Kq.R_kq (Kd.R_bound HP.out) hk (fun k hk => by obtain ⟨_, _, _, q, _, cs, hc⟩ := hk; exact HF.out.not_cells hc)) (fun _ _ => trivial))
         have n5_ := Aside0.mk (Kq.KQ.to_below B.out hk (fun q hq => by rw [hq]; exact GM.out))
         clear X5 X6 X9 HP HF B hk
         have X5 := n0_
         have X6 := n1_
         have X9 := n2_
         have HP := n3_
         have HF := Aside0.mk hf
         have B := n5_
         clear n0_ n1_ n2_ n3_ n5_ hf
         refine hK.out _ _ ((blk_cell X9.out 0).trans rfl) (fun hHeld => ?_)
         clear hK K
         refine norm_ (a' := ?_) ?_ ?_
         rotate_left
         ·show Act.put _ (some 56) _ = _
          simp only [Act.put, Lam.pa, Lam.pb, Lam.pc, i64_w, i32_w]
          rfl
         refine pure_ (i := 9) (N := some 57) (v := ?_) (a' := ?_) #[true, true, true, true, true, true, true, true, true, true, false, false, false, false] rfl rfl (by kernel_rfl) (fun _ _ _ h => h) (Or.inl ⟨by rfl, ?_⟩) ?_ ?_
         rotate_left
         ·intro w'
          go_simp
          with_reducible rfl
         rotate_left
         ·simp only [Act.put, Lam.pa, Lam.pb, Lam.pc, i64_w, i32_w]
          rfl
         refine one_ (i := 10) (N := some 58) #[true, true, true, true, true, true, true, true, true, true, true, false, false, false] rfl rfl (by kernel_rfl) (by decide) (fun K hK => ?_)
         refine value_ (w1 := ?_) (v := ?_) (by rfl) rfl ?_ ?_
         rotate_left 2
         ·go_simp
          constructor
          ·rfl
          ·rfl
         refine hK.out _ _ ((blk_cell (blk_alloc X9.out _) 0).trans rfl) (fun hHeld => ?_)
         clear hK K
         refine norm_ (a' := ?_) ?_ ?_
         rotate_left
         ·show Act.put _ (some 58) _ = _
          simp only [Act.put, Lam.pa, Lam.pb, Lam.pc, i64_w, i32_w]
          rfl
         refine one_ (i := 11) (N := some 59) #[true, true, true, true, true, true, true, true, true, true, true, true, false, false] rfl rfl (by kernel_rfl) (by decide) (fun K hK => ?_)
         refine Kd.R_append_step k69 (w0 := w) w.heap.size (by rfl) (.tmp 49) (.tmp 58) 29 69 (.agg #[(.int .i64 0), (.int .i64 0), (.int .i64 0)]) 24 rfl Tryd.underlying29 info69 rfl (by decide) (by omega) vp (impl_MakePuzzle.make l0 a2 kk) (⟨Int.tmod y1 6, 0, tt⟩ : S69) [.int .i64 (Int.tmod y1 6), .int .i64 0, .int .i64 tt] (fun _ => True) (fun _ => False) rfl rfl ?aP (fun _ hk => hk.elim) ?aF ?aO ?aB ?aS ?aL ?_
         (case aP => exact k69_mkM _ _ _ (⟨Int.tmod y1 6, 0, tt⟩ : S69))
         (case aB => exact B.out)
         (case aF => exact (fun _ _ => trivial))
         (case aO => exact HP.out)
         (case aS => exact below_size B.out)
         (case aL => rw [impl_MakePuzzle.make_len]; omega)
         intro v185 w26 ho hb hg hat
         rw [hsucc] at ho
         have n0_ := Aside0.mk (blk_grown X5.out hg (Kd.R_ne HP.out X5.out (by decide)))
         have n1_ := Aside0.mk (blk_grown X6.out hg (Kd.R_ne HP.out X6.out (by decide)))
         have n2_ := Aside0.mk (blk_grown X9.out hg (Kd.R_ne HP.out X9.out (by decide)))
         have hfa := HF.out
         have n4_ := Aside0.mk (hfa.kept (hg.block _ hfa.lt (fun e => by obtain ⟨cs, hc⟩ := Kd.R_typed (HP.out) _ e.symm; exact hfa.not_cells hc rfl)))
         have n3_ := Aside0.mk ho
         have n5_ := Aside0.mk hb
         clear X5 X6 X9 HP HF B hfa ho hb hg hat
         have X5 := n0_
         have X6 := n1_
         have X9 := n2_
         have HP := n3_
         have HF := n4_
         have B := n5_
         clear n0_ n1_ n2_ n3_ n4_ n5_
         obtain ⟨Ao, co, eo⟩ := Kd.R_slice HP.out
         subst eo
         refine hK.out _ _ ((blk_cell X9.out 0).trans rfl) (fun hHeld => ?_)
         clear hK K
         refine norm_ (a' := ?_) ?_ ?_
         rotate_left
         ·show Act.put _ (some 59) _ = _
          simp only [Act.put, Lam.pa, Lam.pb, Lam.pc, i64_w, i32_w]
          rfl
         refine pure_ (i := 12) (N := some 60) (v := ?_) (a' := ?_) #[true, true, true, true, true, true, true, true, true, true, true, true, true, false] rfl rfl (by kernel_rfl) (fun _ _ _ h => h) (Or.inl ⟨by rfl, ?_⟩) ?_ ?_
         rotate_left
         ·intro w'
          go_simp
          with_reducible rfl
         rotate_left
         ·simp only [Act.put, Lam.pa, Lam.pb, Lam.pc, i64_w, i32_w]
          rfl
         refine last_ (i := 13) (N := none) #[true, true, true, true, true, true, true, true, true, true, true, true, true, true] rfl rfl (by kernel_rfl) (by decide) (fun K hK => ?_)
         have hs28 : w26.cell? ⟨g9, 0, none⟩ = some vp := (blk_cell X9.out 0).trans rfl
         have hfs28 := blk_frozen X9.out 0
         refine skip_ (w1 := ?_) (by rfl) rfl ?_ ?_
         rotate_left
         ·go_simp
          rfl
         refine hK.out _ _ ?_
         clear hK K
         refine done_ (by kernel_rfl) ?_
         clear hs28 hfs28
         try go_wp2
         go_roundg (m0 - (kk + 1))
         case measure => omega
         case rel => exact ⟨kk + 1, _, by omega, by omega, by go_num, ⟨below_set B.out G9.out⟩, ⟨by rw [HZS.out]; exact blk_far (p := ⟨g9, 0, none⟩) X5.out NE59.out _⟩, ⟨blk_far (p := ⟨g9, 0, none⟩) X6.out NE69.out _⟩, ⟨blk_put (cs := #[vp]) X9.out 0 _ rfl⟩, ⟨Kd.R_mono (Kd.R_far (p := ⟨g9, 0, none⟩) (Kd.R_types HP.out X9.out (by decide)) (fun _ hk => hk.2) _) (fun _ _ => trivial)⟩, ⟨HF.out.set (p := ⟨g9, 0, none⟩) (Ne.symm (HF.out.not_cells X9.out)) _⟩⟩
      ·obtain rfl : kk = m0 := by omega
       have hltb : decide ((kk : Int) < (kk : Int)) = false := by simp
       obtain ⟨Ao, co, eo⟩ := Kd.R_slice HP.out
       subst eo
       have hcz9 : wr.cell? ⟨g9, 0, none⟩ = some (.slice Ao (impl_MakePuzzle.make l0 a2 kk).length co) := (blk_cell X9.out 0).trans rfl
       have hfz9 := blk_frozen X9.out 0
       have hcz6 : wr.cell? ⟨g6, 0, none⟩ = some (.slice none 0 0) := (blk_cell X6.out 0).trans rfl
       have hfz6 := blk_frozen X6.out 0
       go_wp2
       refine bodyPost_ret (results_ct rfl _ _ g6 31 #[.slice Ao (impl_MakePuzzle.make l0 a2 kk).length co] (0, 0) _ rfl (by (with_reducible repeat (first | refine blk_drewN ?_ _ | refine blk_drew ?_ | refine blk_alloc ?_ _)); refine blk_put (cs := #[.slice none 0 0]) ?_ 0 _ rfl; (with_reducible repeat (first | refine blk_drewN ?_ _ | refine blk_drew ?_ | refine blk_alloc ?_ _)); exact X6.out) Tryd.underlying31 rfl (by kernel_rfl)) rfl ?_
       exact ⟨_, rfl, Kd.R_mono (Kd.R_far (p := ⟨g6, 0, none⟩) (Kd.R_types HP.out X6.out (by decide)) (fun _ hk => hk.2) _) (fun _ _ => trivial), below_set B.out G6.out⟩
    ·rw [if_neg hc] at h; cases h

/-! ### laws_eqIntS: function 20 -/
def laws_eqIntS.l0 : Nat → List Int → List Int → Int → Option (Bool)
 | 0, _, _, _ => none
 | k + 1, x0, x1, x5 => if x5 < (x0.length : Int) then (if 0 ≤ x5 then (if x5 < (x1.length : Int) then (if (rd x0 x5) = (rd x1 x5) then (laws_eqIntS.l0 k x0 x1 (wrap64 (x5 + 1))) else (some false)) else (none)) else (none)) else (some true)
def laws_eqIntS.f (k : Nat) (l0 : List Int) (l1 : List Int) : Option (Bool) := if (l0.length : Int) = (l1.length : Int) then (laws_eqIntS.l0 k l0 l1 0) else (some false)
theorem laws_eqIntS.mono_l : ∀ k, (∀ y0 y1 y2, LeO (laws_eqIntS.l0 k y0 y1 y2) (laws_eqIntS.l0 (k + 1) y0 y1 y2))
 | 0 => fun _ _ _ r h => by simp [laws_eqIntS.l0] at h
 | k + 1 => by
  have ih0 := laws_eqIntS.mono_l k
  ·intro y0 y1 y2
   unfold laws_eqIntS.l0
   repeat' first
   | (with_reducible exact ih0 _ _ _)
   | (with_reducible exact LeO.refl _)
   | (with_reducible exact LeO.none _)
   | (with_reducible refine LeO.ite ?_ ?_)
   | (with_reducible refine LeO.bind ?_ (fun _ => ?_))
   | exact ih0 _ _ _
   | exact LeO.none _
   | refine LeO.ite ?_ ?_
   | refine LeO.bind ?_ (fun _ => ?_)
theorem laws_eqIntS.mono : ∀ a0 a1 k, LeO (laws_eqIntS.f k a0 a1) (laws_eqIntS.f (k + 1) a0 a1) := by
 intro a0 a1 k
 have ih0 := laws_eqIntS.mono_l k
 unfold laws_eqIntS.f
 repeat' first
   | (with_reducible exact ih0 _ _ _)
   | (with_reducible exact LeO.refl _)
   | (with_reducible exact LeO.none _)
   | (with_reducible refine LeO.ite ?_ ?_)
   | (with_reducible refine LeO.bind ?_ (fun _ => ?_))
   | exact ih0 _ _ _
   | exact LeO.none _
   | refine LeO.ite ?_ ?_
   | refine LeO.bind ?_ (fun _ => ?_)
set_option maxHeartbeats 8000000 in
set_option maxRecDepth 100000 in
theorem laws_eqIntS.calls (k : Nat) (A0 : Option Addr) (c0 : Nat) (l0 : List Int) (A1 : Option Addr) (c1 : Nat) (l1 : List Int) (r : Bool) (w : World) (hr0 : Kd.C (Kd.int .i64) w A0 l0.length l0) (hc0 : l0.length ≤ c0) (hr1 : Kd.C (Kd.int .i64) w A1 l1.length l1) (hc1 : l1.length ≤ c1) (h : laws_eqIntS.f k l0 l1 = some r) :
  Calls Tryd.prog 20 #[.slice A0 l0.length c0, .slice A1 l1.length c1] w fun e w' => e = .returned (.bool r) ∧ Drawn0 w w' := by
 have HR0 := Aside0.mk hr0
 have HC0 := Aside0.mk hc0
 clear hr0 hc0
 have HR1 := Aside0.mk hr1
 have HC1 := Aside0.mk hc1
 clear hr1 hc1
 have H : (if (l0.length : Int) = (l1.length : Int) then (laws_eqIntS.l0 k l0 l1 0) else (some false)) = some r := h
 clear h
 by_cases c3 : (l0.length : Int) = (l1.length : Int)
 ·rw [if_pos c3] at H
  have c3b0 : ((l0.length : Int) == (l1.length : Int)) = true := beq_iff_eq.mpr c3
  have c3b1 : ((l0.length : Int) != (l1.length : Int)) = false := bne_eq_false_iff_eq.mpr c3
  have c3b2 : (l0.length == l1.length) = true := by first | simpa using c3 | (simp at c3 ⊢; omega)
  clear c3
  have H' := Aside0.mk H
  clear H
  go_enter Tryd.func20, Tryd.ntmps20
  go_wp2
  repeat (go_quiet (fail); try go_wp2)
  go_loopg [5] k (fun kq v5 w' => ∃ (x5_1 : Int), v5 = .int .i64 x5_1 ∧ Aside0 (laws_eqIntS.l0 kq l0 l1 x5_1 = some r) ∧ Aside0 (kq ≤ k) ∧ Drawn0 w w')
  case atStart => exact ⟨(0), (by first | rfl | (simp; done) | (simp [*]; done)), H', ⟨Nat.le_refl _⟩, by repeat (first | exact Drawn0.refl _ | apply Drawn0.step)⟩
  case round =>
   clear H'
   try clear c1
   try clear c2
   try clear p2
   try clear c3
   try clear c3b0
   try clear c3b1
   try clear c3b2
   obtain ⟨x5_1, rfl, HA, HK1, ⟨m1, rfl⟩⟩ := hrel
   cases gk with
   | zero => exact absurd HA.out (by simp [laws_eqIntS.l0])
   | succ k1 =>
    have H := HA.out
    clear HA
    simp only [laws_eqIntS.l0] at H
    by_cases c4 : x5_1 < (l0.length : Int)
    ·rw [if_pos c4] at H
     have c4b0 : decide (x5_1 < (l0.length : Int)) = true := decide_eq_true c4
     clear c4
     by_cases c5 : 0 ≤ x5_1
     ·rw [if_pos c5] at H
      have c5b0 : decide (0 ≤ x5_1) = true := decide_eq_true c5
      clear c5
      by_cases c6 : x5_1 < (l1.length : Int)
      ·rw [if_pos c6] at H
       have c6b0 : decide (x5_1 < (l1.length : Int)) = true := decide_eq_true c6
       clear c6
       by_cases c7 : (rd l0 x5_1) = (rd l1 x5_1)
       ·rw [if_pos c7] at H
        have c7b0 : ((rd l0 x5_1) == (rd l1 x5_1)) = true := beq_iff_eq.mpr c7
        have c7b1 : ((rd l0 x5_1) != (rd l1 x5_1)) = false := bne_eq_false_iff_eq.mpr c7
        clear c7
        have H' := Aside0.mk H
        clear H
        have p227 : 0 ≤ (x5_1 : Int) := of_decide_eq_true (by first | (with_reducible assumption) | assumption)
        have q227 : x5_1 < (l0.length : Int) := of_decide_eq_true (by first | (with_reducible assumption) | assumption)
        obtain ⟨ad227, e227, hx227_0⟩ := Kd.at_int HR0.out x5_1 p227 q227
        cases e227
        replace p227 := eq_true p227
        replace q227 := eq_true q227
        have p228 : 0 ≤ (x5_1 : Int) := of_decide_eq_true (by first | (with_reducible assumption) | assumption)
        have q228 : x5_1 < (l1.length : Int) := of_decide_eq_true (by first | (with_reducible assumption) | assumption)
        obtain ⟨ad228, e228, hx228_0⟩ := Kd.at_int HR1.out x5_1 p228 q228
        cases e228
        replace p228 := eq_true p228
        replace q228 := eq_true q228
        go_wp2
        repeat (go_quiet (fail); try go_wp2)
        go_roundg k1
        case measure => have := HK1.out; omega
        case rel => exact ⟨(wrap64 (x5_1 + 1)), (by first | rfl | (simp; done) | (simp [*]; done)), H', ⟨by have := HK1.out; omega⟩, by repeat (first | exact Drawn0.refl _ | apply Drawn0.step)⟩
       ·rw [if_neg c7] at H
        have c7b0 : ((rd l0 x5_1) == (rd l1 x5_1)) = false := beq_eq_false_iff_ne.mpr c7
        have c7b1 : ((rd l0 x5_1) != (rd l1 x5_1)) = true := bne_iff_ne.mpr c7
        obtain rfl := Option.some.inj H
        have p227 : 0 ≤ (x5_1 : Int) := of_decide_eq_true (by first | (with_reducible assumption) | assumption)
        have q227 : x5_1 < (l0.length : Int) := of_decide_eq_true (by first | (with_reducible assumption) | assumption)
        obtain ⟨ad227, e227, hx227_0⟩ := Kd.at_int HR0.out x5_1 p227 q227
        cases e227
        replace p227 := eq_true p227
        replace q227 := eq_true q227
        have p228 : 0 ≤ (x5_1 : Int) := of_decide_eq_true (by first | (with_reducible assumption) | assumption)
        have q228 : x5_1 < (l1.length : Int) := of_decide_eq_true (by first | (with_reducible assumption) | assumption)
        obtain ⟨ad228, e228, hx228_0⟩ := Kd.at_int HR1.out x5_1 p228 q228
        cases e228
        replace p228 := eq_true p228
        replace q228 := eq_true q228
        go_wp2
        repeat (go_quiet (fail); try go_wp2)
        go_ret
        exact ⟨by first | rfl | (simp; done) | (simp [*]; done), by repeat (first | exact Drawn0.refl _ | apply Drawn0.step)⟩
      ·rw [if_neg c6] at H
       exact absurd H (by simp)
     ·rw [if_neg c5] at H
      exact absurd H (by simp)
    ·rw [if_neg c4] at H
     have c4b0 : decide (x5_1 < (l0.length : Int)) = false := decide_eq_false c4
     clear c4
     obtain rfl := Option.some.inj H
     go_wp2
     repeat (go_quiet (fail); try go_wp2)
     go_ret
     exact ⟨by first | rfl | (simp; done) | (simp [*]; done), by repeat (first | exact Drawn0.refl _ | apply Drawn0.step)⟩
 ·rw [if_neg c3] at H
  have c3b0 : ((l0.length : Int) == (l1.length : Int)) = false := beq_eq_false_iff_ne.mpr c3
  have c3b1 : ((l0.length : Int) != (l1.length : Int)) = true := bne_iff_ne.mpr c3
  have c3b2 : (l0.length == l1.length) = false := by first | simpa using c3 | (simp at c3 ⊢; omega)
  obtain rfl := Option.some.inj H
  go_enter Tryd.func20, Tryd.ntmps20
  go_wp2
  repeat (go_quiet (fail); try go_wp2)
  go_ret
  exact ⟨by first | rfl | (simp; done) | (simp [*]; done), by repeat (first | exact Drawn0.refl _ | apply Drawn0.step)⟩

end Go.Proofs.YtdikeggkfkkajaaDoor.PFnExactMakePuzzle
