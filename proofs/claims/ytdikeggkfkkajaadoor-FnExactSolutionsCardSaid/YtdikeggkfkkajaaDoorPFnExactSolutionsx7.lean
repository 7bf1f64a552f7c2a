-- Made by a program of this session (wip/xprint.py) out of the translation.
import Derived.Test.YtdikeggkfkkajaaDoorPFnExactSolutionsx0
import Derived.Test.YtdikeggkfkkajaaDoorPFnExactSolutionsx6
namespace Go.Proofs.YtdikeggkfkkajaaDoor.PFnExactSolutions
open Go.RowKit Go.Proofs.YtdikeggkfkkajaaDoorW.PrintWords Go.Proofs.YtdikeggkfkkajaaDoorW.PrintLast Go.Proofs.YtdikeggkfkkajaaDoorW.PrintMore
attribute [local go_sem] max2_int min2_int max_two min_two max_three min_three max_four min_four   -- for this text's walks alone
set_option linter.unusedVariables false
set_option linter.unusedSimpArgs false

/-! ### impl_chomps: function 72 -/
abbrev impl_chomps.SS (gl : Nat) (vt : Value) : Nat → Prop := fun q => q = gl ∨ some q = vt.ownBlock
theorem impl_chomps.notS {W : World} {gl base : Nat} {vt : Value} {acc : List (List Int)} {ok : Nat → Prop} {cx cs : Array Value} {q t : Nat} (hx : W.heap[gl]? = some (.cells cx 26 (0, 0))) (ht : Kd.S (Kd.slice 3 (Kd.int .i64)) 38 W base ok vt acc) (hq : W.heap[q]? = some (.cells cs t (0, 0))) (h1 : t ≠ 26) (h2 : t ≠ 38) : ¬ impl_chomps.SS gl vt q := by
 rintro (rfl | h)
 ·rw [hx] at hq; cases hq; exact h1 rfl
 ·obtain ⟨inner, ho⟩ := Kd.S_own ht
  obtain ⟨cells, hc⟩ := own_typed ho q h.symm
  rw [hc] at hq; cases hq; exact h2 rfl
theorem impl_chomps.keepR {w W : World} {gl base : Nat} {vt vb : Value} {acc : List (List Int)} {bg : List Int} {ok : Nat → Prop} {cx : Array Value} (hx : w.heap[gl]? = some (.cells cx 26 (0, 0))) (ht : Kd.S (Kd.slice 3 (Kd.int .i64)) 38 w base ok vt acc) (hb : Kd.R (Kd.int .i64) 3 w base (fun _ => True) vb bg) (hk : Kq.KQ w W (impl_chomps.SS gl vt)) : Kd.R (Kd.int .i64) 3 W base (fun _ => True) vb bg :=
 Kd.R_mono (Kq.R_kq (Kd.R_bound hb) hk (fun k hk => by
  obtain ⟨_, _, _, q, hq, cells, hc⟩ := hk
  have hq : q = 3 := by simpa [Kd.int, Kd.scalar] using hq
  subst hq
  exact impl_chomps.notS hx ht hc (by decide) (by decide))) (fun _ _ => trivial)
theorem impl_chomps.thenS {w W W2 : World} {gl : Nat} {vt vt1 : Value} (h : Kq.KQ w W (impl_chomps.SS gl vt)) (k : Kq.KQ W W2 (impl_chomps.SS gl vt1)) (hat : vt1.ownBlock = vt.ownBlock ∨ ∃ b, vt1.ownBlock = some b ∧ w.heap.size ≤ b) : Kq.KQ w W2 (impl_chomps.SS gl vt) :=
 h.then_ k (fun q hq => by
  rcases hq with hq | hq
  ·exact .inl (.inl hq)
  ·rcases hat with hat | ⟨b, hb, hle⟩
   ·exact .inl (.inr (by rw [hq, hat]))
   ·rw [hb] at hq; cases hq; exact .inr hle)
theorem impl_chomps.atS {w W : World} {v0 v1 v2 : Value} (h : v1.ownBlock = v0.ownBlock ∨ ∃ b, v1.ownBlock = some b ∧ w.heap.size ≤ b) (hs : w.heap.size ≤ W.heap.size) (k : v2.ownBlock = v1.ownBlock ∨ ∃ b, v2.ownBlock = some b ∧ W.heap.size ≤ b) : v2.ownBlock = v0.ownBlock ∨ ∃ b, v2.ownBlock = some b ∧ w.heap.size ≤ b := by
 rcases k with k | ⟨b, hb, hle⟩
 ·rw [k]; exact h
 ·exact .inr ⟨b, hb, Nat.le_trans hs hle⟩
/-- Rows that are elder than a row made since lie apart from it. -/
theorem impl_chomps.apartS {w W : World} {base : Nat} {vt vb : Value} {acc : List (List Int)} {ok : Nat → Prop} (h : Kd.S (Kd.slice 3 (Kd.int .i64)) 38 w base ok vt acc) (hb : Below w.heap.size w W) (hv : ∀ k, vb.ownBlock = some k → w.heap.size ≤ k) : Kd.S (Kd.slice 3 (Kd.int .i64)) 38 W base (fun q => some q ≠ vb.ownBlock) vt acc :=
 Kd.S_mono (Kd.S_below (Kd.S_bound h) hb) (fun k hk e => by have h1 := hv k e.symm; have h2 := hk.2.2.1; omega)
set_option maxHeartbeats 8000000 in
set_option maxRecDepth 100000 in
theorem impl_chomps.rec : ∀ (k wide : Nat) (bg : List Int) (acc r : List (List Int)) (vb vt : Value) (gl gh ga base hi : Nat) (w : World),
  bg.length + k ≤ 1000 → wide ≤ 1000 → bg.length + k = hi → base ≤ w.heap.size →
  w.heap[gh]? = some (.cells #[.int .i64 (hi : Int)] 3 (0, 0)) → w.heap[ga]? = some (.cells #[.func (.func 110) #[] #[.pointer (some ⟨gl, 0, none⟩), .pointer (some ⟨gh, 0, none⟩), .pointer (some ⟨ga, 0, none⟩)]] 124 (0, 0)) →
  Kd.R (Kd.int .i64) 3 w base (fun _ => True) vb bg → w.heap[gl]? = some (.cells #[vt] 26 (0, 0)) → Kd.S (Kd.slice 3 (Kd.int .i64)) 38 w base (fun q => some q ≠ vb.ownBlock) vt acc →
  Comb.look k wide bg acc = some r →
  Calls Tryd.prog 110 #[vb, .int .i64 wide, .pointer (some ⟨gl, 0, none⟩), .pointer (some ⟨gh, 0, none⟩), .pointer (some ⟨ga, 0, none⟩)] w fun e w' => e = .returned (.tuple #[]) ∧ ∃ vt' : Value, w'.heap[gl]? = some (.cells #[vt'] 26 (0, 0)) ∧ Kd.S (Kd.slice 3 (Kd.int .i64)) 38 w' base (fun _ => True) vt' r ∧ (vt'.ownBlock = vt.ownBlock ∨ ∃ b, vt'.ownBlock = some b ∧ w.heap.size ≤ b) ∧ Kq.KQ w w' (impl_chomps.SS gl vt) := by
 intro k
 induction k with
 | zero =>
  intro wide bg acc r vb vt gl gh ga base hi w hk hwd hhi hbase hgh hga hb hx ht h
  have hu38 := Tryd.underlying38
  have hw64 : (wide : Int) ≤ 9223372036854775806 := by omega
  obtain rfl : hi = bg.length := by omega
  clear hhi
  obtain ⟨Ab, cb, rfl⟩ := Kd.R_slice hb
  obtain ⟨At, ct, rfl⟩ := Kd.S_slice ht
  have hacc : acc.length < 1000000000 := by
   rcases Nat.lt_or_ge acc.length 1000000000 with h2 | h2
   ·exact h2
   ·simp only [Comb.look] at h; rw [if_neg (by omega)] at h; cases h
  simp only [Comb.look] at h
  rw [if_pos hacc] at h
  have hcell : w.cell? ⟨gl, 0, none⟩ = some (.slice At acc.length ct) := (blk_cell hx 0).trans rfl
  have hfroz := blk_frozen hx 0
  have HG := Aside0.mk h
  have HGH := Aside0.mk hgh
  have HGA := Aside0.mk hga
  have hch : w.cell? ⟨gh, 0, none⟩ = some (.int .i64 (bg.length : Int)) := (blk_cell hgh 0).trans rfl
  have HCl := Aside0.mk hacc
  have HX := Aside0.mk hx
  have HRb := Aside0.mk hb
  have HRt := Aside0.mk ht
  have HS := Aside0.mk hbase
  have HL := Aside0.mk hk
  have HW := Aside0.mk hwd
  have hown : slices_Clone_int_int.f bg = some bg := by unfold slices_Clone_int_int.f; rw [if_pos (by omega)]
  have HCALL := Aside0.mk (fun W (hW : Kq.KQ w W (impl_chomps.SS gl (.slice At acc.length ct))) => slices_Clone_int_int.calls Ab cb bg bg W (Kd.R_reads' (impl_chomps.keepR hx ht hb hW)).2.2 (Kd.R_reads' hb).2.1 hown)
  clear hgh hga hx hb ht h hacc hbase hk hown hwd
  rcases Nat.eq_zero_or_pos bg.length with c0 | c0
  ·obtain rfl : bg = [] := List.eq_nil_of_length_eq_zero c0
   have X1 := HX
   have K1 := Aside0.mk (Kq.KQ.refl w (impl_chomps.SS gl (.slice At acc.length ct)))
   have R1 := Aside0.mk (Kd.S_mono HRt.out (fun _ _ => trivial) : Kd.S (Kd.slice 3 (Kd.int .i64)) 38 w base (fun _ => True) (.slice At acc.length ct) acc)
   have HG1 := Aside0.mk (show some (acc) = some r from HG.out)
   clear HG c0 hcell hfroz
   simp only [List.length_nil] at hch ⊢
   go_enter Tryd.func110, Tryd.ntmps110
   go_wp2
   have T1 := Aside0.mk (Or.inl rfl : (Value.slice At acc.length ct).ownBlock = (Value.slice At acc.length ct).ownBlock ∨ ∃ b, (Value.slice At acc.length ct).ownBlock = some b ∧ w.heap.size ≤ b)
   (try simp only [Exit.inBlock, Exit.then])
   refine bodyPost_ret (results_none rfl _ _ _) rfl ?_
   obtain rfl := Option.some.inj HG1.out
   exact ⟨rfl, _, X1.out, R1.out, T1.out, K1.out⟩
  ·have cz : ¬ bg.length = 0 := by omega
   have cp : (0 : Int) < (bg.length : Int) := by omega
   have HG1 := Aside0.mk (show some (acc ++ [bg]) = some r from by have h := HG.out; simp only [Comb.put, if_neg cz] at h; exact h)
   clear HG c0 cz
   go_enter Tryd.func110, Tryd.ntmps110
   go_wp2_with (first
     | ((with_reducible refine gate_builtin (b := .append) (xs := #[.tmp 11, .tmp 13]) rfl ?_); at_builtin; go_loud (refine Kd.S_append (Kd.slice 3 (Kd.int .i64)) (w0 := w) base rfl (.tmp 11) (.tmp 13) 26 38 (.slice none 0 0) 24 rfl Tryd.underlying26 info38 rfl (by decide) (by omega) (.slice At acc.length ct) acc bg [.slice Ab bg.length cb] (fun _ => True) (fun k => some k = (Value.slice Ab bg.length cb).ownBlock) rfl rfl ?aP ?aK (fun _ _ => trivial) ?aO (Below.refl _ _) HS.out ?aL ?_); (case aP => exact Kd.M_row (Kd.R_mono (Kd.R_tight rfl HRb.out) (fun _ h => h))); (case aK => exact fun k hk => (Kd.R_apart' HRb.out (Kd.S_typed HRt.out) (by decide)).1 k hk.symm); (case aO => exact Kd.S_mono HRt.out (fun k hk => ⟨trivial, hk⟩)); (case aL => have := HCl.out; omega); intro v1 w1 ho1 hb1 hg1 hat1; obtain ⟨A1, c1, e1⟩ := Kd.S_slice ho1; rw [List.length_append, List.length_singleton] at e1; subst e1; have x1 := blk_grown HX.out hg1 (Kd.S_ne HRt.out HX.out (by decide)); have hcl1 : w1.cell? ⟨gl, 0, none⟩ = some (.slice At acc.length ct) := (blk_cell x1 0).trans rfl; have hfl1 := blk_frozen x1 0; have X1 := Aside0.mk (blk_put (cs := #[.slice At acc.length ct]) x1 0 (.slice A1 (acc.length + 1) c1) rfl); have R1 := Aside0.mk (Kd.S_set ho1 x1 (by simp [Kd.slice, Kd.int, Kd.scalar]) 0 (.slice A1 (acc.length + 1) c1)); have T1 := Aside0.mk hat1; have K1 : Aside0 (Kq.KQ w (w1.setCell ⟨gl, 0, none⟩ (.slice A1 (acc.length + 1) c1)) (impl_chomps.SS gl (.slice At acc.length ct))) := ⟨Kq.KQ.setCell ⟨⟨hg1.size, fun k hk hs => hg1.block k hk (fun e => hs (.inr e))⟩, hg1.os, hg1.tape, hg1.output⟩ (.inl (.inl rfl)) _⟩; have hcs2 : (w1.setCell ⟨gl, 0, none⟩ (.slice A1 (acc.length + 1) c1)).cell? ⟨gh, 0, none⟩ = some (.int .i64 (bg.length : Int)) := (blk_cell (Kq.blk_kq HGH.out K1.out (impl_chomps.notS HX.out HRt.out HGH.out (by decide) (by decide))) 0).trans rfl; clear hcell hfroz ho1 hb1 hg1 hat1 x1))
   clear hcl1 hfl1 hcs2
   generalize (w1.setCell ⟨gl, 0, none⟩ (.slice A1 (acc.length + 1) c1)) = w2 at X1 R1 T1 K1 ⊢
   (try simp only [Exit.inBlock, Exit.then])
   refine bodyPost_ret (results_none rfl _ _ _) rfl ?_
   obtain rfl := Option.some.inj HG1.out
   exact ⟨rfl, _, X1.out, R1.out, T1.out, K1.out⟩
 | succ k ih =>
  have IH := Aside0.mk ih
  intro wide bg acc r vb vt gl gh ga base hi w hk hwd hhi hbase hgh hga hb hx ht h
  have hu38 := Tryd.underlying38
  have hw64 : (wide : Int) ≤ 9223372036854775806 := by omega
  have hne : ¬ (bg.length : Int) = (hi : Int) := by omega
  have HHI := Aside0.mk hhi
  clear hhi
  obtain ⟨Ab, cb, rfl⟩ := Kd.R_slice hb
  obtain ⟨At, ct, rfl⟩ := Kd.S_slice ht
  have hacc : acc.length < 1000000000 := by
   rcases Nat.lt_or_ge acc.length 1000000000 with h2 | h2
   ·exact h2
   ·simp only [Comb.look] at h; rw [if_neg (by omega)] at h; cases h
  simp only [Comb.look] at h
  rw [if_pos hacc] at h
  have hcell : w.cell? ⟨gl, 0, none⟩ = some (.slice At acc.length ct) := (blk_cell hx 0).trans rfl
  have hfroz := blk_frozen hx 0
  have HG := Aside0.mk h
  have HGH := Aside0.mk hgh
  have HGA := Aside0.mk hga
  have hch : w.cell? ⟨gh, 0, none⟩ = some (.int .i64 (hi : Int)) := (blk_cell hgh 0).trans rfl
  have HCl := Aside0.mk hacc
  have HX := Aside0.mk hx
  have HRb := Aside0.mk hb
  have HRt := Aside0.mk ht
  have HS := Aside0.mk hbase
  have HL := Aside0.mk hk
  have HW := Aside0.mk hwd
  have hown : slices_Clone_int_int.f bg = some bg := by unfold slices_Clone_int_int.f; rw [if_pos (by omega)]
  have HCALL := Aside0.mk (fun W (hW : Kq.KQ w W (impl_chomps.SS gl (.slice At acc.length ct))) => slices_Clone_int_int.calls Ab cb bg bg W (Kd.R_reads' (impl_chomps.keepR hx ht hb hW)).2.2 (Kd.R_reads' hb).2.1 hown)
  clear ih hgh hga hx hb ht h hacc hbase hk hown hwd
  rcases Nat.eq_zero_or_pos bg.length with c0 | c0
  ·obtain rfl : bg = [] := List.eq_nil_of_length_eq_zero c0
   have X1 := HX
   have K1 := Aside0.mk (Kq.KQ.refl w (impl_chomps.SS gl (.slice At acc.length ct)))
   have R1 := Aside0.mk (Kd.S_mono HRt.out (fun _ _ => trivial) : Kd.S (Kd.slice 3 (Kd.int .i64)) 38 w base (fun _ => True) (.slice At acc.length ct) acc)
   have HG1 := Aside0.mk (show Comb.go (Comb.look k) [] wide 1 acc = some r from HG.out)
   clear HG c0 hcell hfroz
   simp only [List.length_nil]
   have hne : ¬ (0 : Int) = (hi : Int) := by simpa using hne
   go_enter Tryd.func110, Tryd.ntmps110
   go_wp2
   have T1 := Aside0.mk (Or.inl rfl : (Value.slice At acc.length ct).ownBlock = (Value.slice At acc.length ct).ownBlock ∨ ∃ b, (Value.slice At acc.length ct).ownBlock = some b ∧ w.heap.size ≤ b)
   go_loopg [7] wide (fun gg v w' => ∃ (kk : Nat) (acc1 : List (List Int)) (vt1 : Value), 1 ≤ kk ∧ kk ≤ wide + 1 ∧ wide + 1 - kk ≤ gg ∧ v = .int .i64 kk ∧ Aside0 (Comb.go (Comb.look k) [] (wide + 1 - kk) kk acc1 = some r) ∧ Aside0 (w'.heap[gl]? = some (.cells #[vt1] 26 (0, 0))) ∧ Aside0 (Kd.S (Kd.slice 3 (Kd.int .i64)) 38 w' base (fun _ => True) vt1 acc1) ∧ Aside0 (vt1.ownBlock = (Value.slice At acc.length ct).ownBlock ∨ ∃ b, vt1.ownBlock = some b ∧ w.heap.size ≤ b) ∧ Aside0 (Kq.KQ w w' (impl_chomps.SS gl (.slice At acc.length ct))))
   case atStart => exact ⟨1, _, _, Nat.le_refl _, by omega, by omega, rfl, ⟨HG1.out⟩, X1, R1, T1, K1⟩
   case round =>
    clear X1 R1 T1 K1 HG1
    obtain ⟨kk, acc1, vt1, hk1, hkk, hgg, rfl, HG, HX1, HR1, HT1, HK1⟩ := hrel
    by_cases hlt : kk ≤ wide
    ·have hltz : (kk : Int) ≤ (wide : Int) := by omega
     obtain ⟨m, hm⟩ : ∃ m, wide + 1 - kk = m + 1 := ⟨wide - kk, by omega⟩
     have H := HG.out
     rw [hm] at H
     simp only [Comb.go] at H
     obtain ⟨t, ht_, H⟩ := Option.bind_eq_some_iff.mp H
     have HT := Aside0.mk ht_
     have HG2 := Aside0.mk H
     clear HG ht_ H
     go_wp2
     have HX8 : wr.drew.heap[gl]? = some (.cells #[vt1] 26 (0, 0)) := HX1.out
     have K8 := Kq.KQ.drew HK1.out
     have R8 := Kd.S_drew HR1.out
     have hca : wr.drew.cell? ⟨ga, 0, none⟩ = some (.func (.func 110) #[] #[.pointer (some ⟨gl, 0, none⟩), .pointer (some ⟨gh, 0, none⟩), .pointer (some ⟨ga, 0, none⟩)]) := (blk_cell (Kq.blk_kq HGA.out K8 (impl_chomps.notS HX.out HRt.out HGA.out (by decide) (by decide))) 0).trans rfl
     refine start_ (n := 8) (S := fun w' => w'.cell? ⟨ga, 0, none⟩ = some (.func (.func 110) #[] #[.pointer (some ⟨gl, 0, none⟩), .pointer (some ⟨gh, 0, none⟩), .pointer (some ⟨ga, 0, none⟩)])) (ds := []) #[false, false, false, false, false, false, false, false] (by kernel_rfl) rfl rfl hca (fun hHeld => ?_)
     generalize wr.drew = we at HX8 K8 R8 hca hHeld ⊢
     refine take_ (i := 0) (N := some 24) (v := ?_) (a' := ?_) #[true, false, false, false, false, false, false, false] rfl rfl (by kernel_rfl) (fun _ _ _ h => h) (Or.inl ⟨by rfl, ?_⟩) hHeld ?_ ?_
     rotate_left
     ·rintro w' s0
      go_simp
      with_reducible rfl
     rotate_left
     ·simp only [Act.put, Lam.pa, Lam.pb, Lam.pc, i64_w, i32_w]
      rfl
     refine pure_ (i := 1) (N := some 25) (v := ?_) (a' := ?_) #[true, true, false, false, false, false, false, false] rfl rfl (by kernel_rfl) (fun _ _ _ h => h) (Or.inl ⟨by rfl, ?_⟩) ?_ ?_
     rotate_left
     ·intro w'
      go_simp
      with_reducible rfl
     rotate_left
     ·simp only [Act.put, Lam.pa, Lam.pb, Lam.pc, i64_w, i32_w]
      rfl
     refine pure_ (i := 3) (N := some 27) (v := ?_) (a' := ?_) #[true, true, false, true, false, false, false, false] rfl rfl (by kernel_rfl) (fun _ _ _ h => h) (Or.inl ⟨by rfl, ?_⟩) ?_ ?_
     rotate_left
     ·intro w'
      go_simp
      with_reducible rfl
     rotate_left
     ·simp only [Act.put, Lam.pa, Lam.pb, Lam.pc, i64_w, i32_w]
      rfl
     refine pure_ (i := 6) (N := some 30) (v := ?_) (a' := ?_) #[true, true, false, true, false, false, true, false] rfl rfl (by kernel_rfl) (fun _ _ _ h => h) (Or.inl ⟨by rfl, ?_⟩) ?_ ?_
     rotate_left
     ·intro w'
      go_simp
      with_reducible rfl
     rotate_left
     ·simp only [Act.put, Lam.pa, Lam.pb, Lam.pc, i64_w, i32_w]
      rfl
     refine join_ (σ := Value × Value) 2 #[true, true, true, true, true, false, true, false] (fun s_ => [(26, s_.1), (28, s_.2)]) (fun s_ w' => (w'.cell? ⟨ga, 0, none⟩ = some (.func (.func 110) #[] #[.pointer (some ⟨gl, 0, none⟩), .pointer (some ⟨gh, 0, none⟩), .pointer (some ⟨ga, 0, none⟩)])) ∧ (Kd.R (Kd.int .i64) 3 w' we.heap.size (fun q => some q ≠ (s_.2 : Value).ownBlock) s_.1 []) ∧ (Kd.R (Kd.int .i64) 3 w' we.heap.size (fun _ => True) s_.2 [(kk : Int)]) ∧ Below we.heap.size we w') ?_ ?_
     rotate_left
     ·intro hCont
      refine two_ (i := 2) (j := 4) (Ni := some 26) (Nj := some 28) #[true, true, true, true, false, false, true, false] #[true, true, false, true, true, false, true, false] rfl rfl rfl rfl (by kernel_rfl) (by decide) (by decide) (fun K hK => ?_) (fun K hK => ?_)
      ·refine goes_ Tryd.func85 (by kernel_rfl) rfl #[.slice Ab 0 cb] (by rfl) rfl rfl (by (try simp only [List.map_toArray, List.map_cons, List.map_nil]); first | done | rfl | (simp [Act.eval]; done)) ?_
       refine (HCALL.out _ K8).mono ?_
       rintro e wo ⟨vo, rfl, ho, hb⟩
       refine ⟨_, rfl, ?_⟩
       have hca2 := (hb.cell (World.block_lt_of_cell? we _ hca)).trans hca
       refine hK.out _ _ hca2 (fun hHeld => ?_)
       clear hK K
       refine norm_ (a' := ?_) ?_ ?_
       rotate_left
       ·show Act.put _ (some 26) _ = _
        simp only [Act.put, Lam.pa, Lam.pb, Lam.pc, i64_w, i32_w]
        rfl
       refine one_ (i := 4) (N := some 28) #[true, true, true, true, true, false, true, false] rfl rfl (by kernel_rfl) (by decide) (fun K hK => ?_)
       refine Kd.R_lit_step (Kd.int .i64) (w0 := wo) wo.heap.size 3 ?hg (N := 28) ?hd (xs := [(kk : Int)]) (inner := [.int .i64 (kk : Int)]) (ok := fun _ => True) (okp := fun _ => True) ?hr ?hp (fun _ hk => hk) trivial (Below.refl _ _) (Nat.le_refl _) (by simp) ?_
       case hd => rfl
       case hg => rfl
       case hr => first | (go_simp; done) | (go_simp; rfl)
       case hp => exact (Reps.snoc (Reps.none _ _) (p := (kk : Int)) (c := [.int .i64 (kk : Int)]) rfl rfl)
       intro vl wl hl hb2 hg_ hnew_
       obtain ⟨ob, hob1, hob2⟩ := hnew_
       have hca3 := (hb2.cell (World.block_lt_of_cell? wo _ hca2)).trans hca2
       refine hK.out _ _ hca3 (fun hHeld => ?_)
       clear hK K
       refine norm_ (a' := ?_) ?_ ?_
       rotate_left
       ·show Act.put _ (some 28) _ = _
        simp only [Act.put, Lam.pa, Lam.pb, Lam.pc, i64_w, i32_w]
        rfl
       exact norm_ (by simp only [putAll, Act.put, Lam.pa, Lam.pb, Lam.pc]) (hCont (vo, vl) _ ⟨hca3, Kd.R_below (Kd.R_mono (Kd.R_bound ho) (fun q hq => by rw [hob1]; intro he; injection he with he; have := hq.2.2.1; omega)) hb2, Kd.R_lower hl hb.size, below_step hb hb2⟩)
      ·
       refine Kd.R_lit_step (Kd.int .i64) (w0 := we) we.heap.size 3 ?hg (N := 28) ?hd (xs := [(kk : Int)]) (inner := [.int .i64 (kk : Int)]) (ok := fun _ => True) (okp := fun _ => True) ?hr ?hp (fun _ hk => hk) trivial (Below.refl _ _) (Nat.le_refl _) (by simp) ?_
       case hd => rfl
       case hg => rfl
       case hr => first | (go_simp; done) | (go_simp; rfl)
       case hp => exact (Reps.snoc (Reps.none _ _) (p := (kk : Int)) (c := [.int .i64 (kk : Int)]) rfl rfl)
       intro vl wl hl hb2 hg_ hnew_
       have hca3 := (hb2.cell (World.block_lt_of_cell? we _ hca)).trans hca
       refine hK.out _ _ hca3 (fun hHeld => ?_)
       clear hK K
       refine norm_ (a' := ?_) ?_ ?_
       rotate_left
       ·show Act.put _ (some 28) _ = _
        simp only [Act.put, Lam.pa, Lam.pb, Lam.pc, i64_w, i32_w]
        rfl
       refine one_ (i := 2) (N := some 26) #[true, true, true, true, true, false, true, false] rfl rfl (by kernel_rfl) (by decide) (fun K hK => ?_)
       refine goes_ Tryd.func85 (by kernel_rfl) rfl #[.slice Ab 0 cb] (by rfl) rfl rfl (by (try simp only [List.map_toArray, List.map_cons, List.map_nil]); first | done | rfl | (simp [Act.eval]; done)) ?_
       refine (HCALL.out _ (K8.below hb2)).mono ?_
       rintro e wo ⟨vo, rfl, ho, hb⟩
       refine ⟨_, rfl, ?_⟩
       have hca2 := (hb.cell (World.block_lt_of_cell? wl _ hca3)).trans hca3
       refine hK.out _ _ hca2 (fun hHeld => ?_)
       clear hK K
       refine norm_ (a' := ?_) ?_ ?_
       rotate_left
       ·show Act.put _ (some 26) _ = _
        simp only [Act.put, Lam.pa, Lam.pb, Lam.pc, i64_w, i32_w]
        rfl
       exact norm_ (by simp only [putAll, Act.put, Lam.pa, Lam.pb, Lam.pc]) (hCont (vo, vl) _ ⟨hca2, Kd.R_lower (Kd.R_mono (Kd.R_bound ho) (fun q hq he => by have h1 := Kd.R_lt hl _ he.symm; have := hq.2.1; omega)) hb2.size, Kd.R_below hl hb, below_step hb2 hb⟩)
     rintro ⟨vo, vl⟩ wj ⟨hHeld, ho, hl, hb⟩
     obtain ⟨Al, cl, el⟩ := Kd.R_slice hl
     have el2 : vl = .slice Al [(kk : Int)].length cl := el
     dsimp only at ho hl
     refine norm_ (a' := ?_) ?_ ?_
     rotate_left
     ·simp only [putAll, Act.put, Lam.pa, Lam.pb, Lam.pc]
      rfl
     subst el2
     refine one_ (i := 5) (N := some 29) #[true, true, true, true, true, true, true, false] rfl rfl (by kernel_rfl) (by decide) (fun K hK => ?_)
     refine Kd.R_append_rows_step (Kd.int .i64) (w0 := we) we.heap.size (by rfl) (.tmp 26) (.tmp 28) 38 3 (.int .i64 0) 8 rfl hu38 info3 rfl (by decide) (by omega) vo [] [(kk : Int)] Al _ _ (fun q => some q ≠ (Value.slice Al [(kk : Int)].length cl).ownBlock) (fun _ => False) rfl rfl ho (Kd.R_reads' hl).2.2 (fun _ _ h => h) (fun _ h => h.elim) ?aF hb hb.size ?aL ?_
     case aF => exact fun q hq he => by have h1 := Kd.R_lt hl _ he.symm; omega
     case aL => have := HL.out; simp only [List.length_singleton]; omega
     intro v1 w3 ho1 hb3 hg1 hat1
     have K3 := Kq.KQ.below K8 hb3
     have RN := Kd.R_mono (ok' := fun _ => True) ho1 (fun _ _ => trivial)
     have hca4 : w3.cell? ⟨ga, 0, none⟩ = some (.func (.func 110) #[] #[.pointer (some ⟨gl, 0, none⟩), .pointer (some ⟨gh, 0, none⟩), .pointer (some ⟨ga, 0, none⟩)]) := (hb3.cell (World.block_lt_of_cell? we _ hca)).trans hca
     refine hK.out _ _ hca4 (fun hHeld => ?_)
     clear hK K
     refine norm_ (a' := ?_) ?_ ?_
     rotate_left
     ·show Act.put _ (some 29) _ = _
      simp only [Act.put, Lam.pa, Lam.pb, Lam.pc, i64_w, i32_w]
      rfl
     refine one_ (i := 7) (N := some 31) #[true, true, true, true, true, true, true, true] rfl rfl (by kernel_rfl) (by decide) (fun K hK => ?_)
     refine Kq.goesV_ (x := .tmp 24) (lb := #[.pointer (some ⟨gl, 0, none⟩), .pointer (some ⟨gh, 0, none⟩), .pointer (some ⟨ga, 0, none⟩)]) Tryd.func110 (by kernel_rfl) rfl #[v1, .int .i64 (kk : Int), .pointer (some ⟨gl, 0, none⟩), .pointer (some ⟨gh, 0, none⟩), .pointer (some ⟨ga, 0, none⟩)] (by rfl) rfl rfl rfl (by (try simp only [List.map_toArray, List.map_cons, List.map_nil]); first | done | rfl | (simp [Act.eval]; done)) ?_
     refine (IH.out kk ([] ++ [(kk : Int)]) acc1 t v1 vt1 gl gh ga base hi w3 (by have := HL.out; simp only [List.length_append, List.length_singleton]; omega) (by have := HW.out; omega) (by have := HHI.out; simp only [List.length_append, List.length_singleton]; omega) (Nat.le_trans HS.out K3.size) (Kq.blk_kq HGH.out K3 (impl_chomps.notS HX.out HRt.out HGH.out (by decide) (by decide))) (Kq.blk_kq HGA.out K3 (impl_chomps.notS HX.out HRt.out HGA.out (by decide) (by decide))) (Kd.R_lower RN (Nat.le_trans HS.out K8.size)) (blk_below HX8 hb3) (impl_chomps.apartS R8 hb3 (Kd.R_base RN)) HT.out).mono ?_
     rintro e w5 ⟨rfl, vt2, hx5, hr5, ht5, hk5⟩
     refine ⟨_, rfl, ?_⟩
     have hca5 : w5.cell? ⟨ga, 0, none⟩ = some (.func (.func 110) #[] #[.pointer (some ⟨gl, 0, none⟩), .pointer (some ⟨gh, 0, none⟩), .pointer (some ⟨ga, 0, none⟩)]) := by
      have h1 := Kq.blk_kq HGA.out K3 (impl_chomps.notS HX.out HRt.out HGA.out (by decide) (by decide))
      exact (blk_cell (Kq.blk_kq h1 hk5 (impl_chomps.notS (blk_below HX8 hb3) (Kd.S_below R8 hb3) h1 (by decide) (by decide))) 0).trans rfl
     refine hK.out _ _ hca5 (fun hHeld => ?_)
     clear hK K
     refine norm_ (a' := ?_) ?_ ?_
     rotate_left
     ·show Act.put _ (some 31) _ = _
      simp only [Act.put, Lam.pa, Lam.pb, Lam.pc, i64_w, i32_w]
      rfl
     refine done_ (by kernel_rfl) ?_
     have HX2 := Aside0.mk hx5
     have HR2 := Aside0.mk hr5
     have HT2 := Aside0.mk (impl_chomps.atS HT1.out K3.size ht5)
     have HK2 := Aside0.mk (impl_chomps.thenS K3 hk5 HT1.out)
     clear hHeld hca hca4 hca5 hx5 hr5 ht5 hk5 HX8 K8 R8 K3 RN ho1 hb3 hg1 hat1 ho hl hb HX1 HR1 HK1
     go_wp2
     go_roundg (wide + 1 - (kk + 1))
     case measure => omega
     case rel => exact ⟨kk + 1, t, vt2, by omega, by omega, by omega, by go_num, ⟨by rw [show wide + 1 - (kk + 1) = m by omega]; exact HG2.out⟩, HX2, HR2, HT2, HK2⟩
    ·obtain rfl : kk = wide + 1 := by omega
     have H := HG.out
     rw [Nat.sub_self] at H
     simp only [Comb.go] at H
     obtain rfl := Option.some.inj H
     clear HG H
     have hltz : ¬ ((wide + 1 : Nat) : Int) ≤ (wide : Int) := by omega
     go_wp2
     go_end0
     exact ⟨rfl, vt1, HX1.out, HR1.out, HT1.out, HK1.out⟩
  ·have cz : ¬ bg.length = 0 := by omega
   have cp : (0 : Int) < (bg.length : Int) := by omega
   have HG1 := Aside0.mk (show Comb.go (Comb.look k) bg wide 1 (acc ++ [bg]) = some r from by have h := HG.out; simp only [Comb.put, if_neg cz] at h; exact h)
   clear HG c0 cz
   go_enter Tryd.func110, Tryd.ntmps110
   go_wp2_with (first
     | ((with_reducible refine gate_builtin (b := .append) (xs := #[.tmp 11, .tmp 13]) rfl ?_); at_builtin; go_loud (refine Kd.S_append (Kd.slice 3 (Kd.int .i64)) (w0 := w) base rfl (.tmp 11) (.tmp 13) 26 38 (.slice none 0 0) 24 rfl Tryd.underlying26 info38 rfl (by decide) (by omega) (.slice At acc.length ct) acc bg [.slice Ab bg.length cb] (fun _ => True) (fun k => some k = (Value.slice Ab bg.length cb).ownBlock) rfl rfl ?aP ?aK (fun _ _ => trivial) ?aO (Below.refl _ _) HS.out ?aL ?_); (case aP => exact Kd.M_row (Kd.R_mono (Kd.R_tight rfl HRb.out) (fun _ h => h))); (case aK => exact fun k hk => (Kd.R_apart' HRb.out (Kd.S_typed HRt.out) (by decide)).1 k hk.symm); (case aO => exact Kd.S_mono HRt.out (fun k hk => ⟨trivial, hk⟩)); (case aL => have := HCl.out; omega); intro v1 w1 ho1 hb1 hg1 hat1; obtain ⟨A1, c1, e1⟩ := Kd.S_slice ho1; rw [List.length_append, List.length_singleton] at e1; subst e1; have x1 := blk_grown HX.out hg1 (Kd.S_ne HRt.out HX.out (by decide)); have hcl1 : w1.cell? ⟨gl, 0, none⟩ = some (.slice At acc.length ct) := (blk_cell x1 0).trans rfl; have hfl1 := blk_frozen x1 0; have X1 := Aside0.mk (blk_put (cs := #[.slice At acc.length ct]) x1 0 (.slice A1 (acc.length + 1) c1) rfl); have R1 := Aside0.mk (Kd.S_set ho1 x1 (by simp [Kd.slice, Kd.int, Kd.scalar]) 0 (.slice A1 (acc.length + 1) c1)); have T1 := Aside0.mk hat1; have K1 : Aside0 (Kq.KQ w (w1.setCell ⟨gl, 0, none⟩ (.slice A1 (acc.length + 1) c1)) (impl_chomps.SS gl (.slice At acc.length ct))) := ⟨Kq.KQ.setCell ⟨⟨hg1.size, fun k hk hs => hg1.block k hk (fun e => hs (.inr e))⟩, hg1.os, hg1.tape, hg1.output⟩ (.inl (.inl rfl)) _⟩; have hcs2 : (w1.setCell ⟨gl, 0, none⟩ (.slice A1 (acc.length + 1) c1)).cell? ⟨gh, 0, none⟩ = some (.int .i64 (hi : Int)) := (blk_cell (Kq.blk_kq HGH.out K1.out (impl_chomps.notS HX.out HRt.out HGH.out (by decide) (by decide))) 0).trans rfl; clear hcell hfroz ho1 hb1 hg1 hat1 x1))
   clear hcl1 hfl1 hcs2
   generalize (w1.setCell ⟨gl, 0, none⟩ (.slice A1 (acc.length + 1) c1)) = w2 at X1 R1 T1 K1 ⊢
   go_loopg [7] wide (fun gg v w' => ∃ (kk : Nat) (acc1 : List (List Int)) (vt1 : Value), 1 ≤ kk ∧ kk ≤ wide + 1 ∧ wide + 1 - kk ≤ gg ∧ v = .int .i64 kk ∧ Aside0 (Comb.go (Comb.look k) bg (wide + 1 - kk) kk acc1 = some r) ∧ Aside0 (w'.heap[gl]? = some (.cells #[vt1] 26 (0, 0))) ∧ Aside0 (Kd.S (Kd.slice 3 (Kd.int .i64)) 38 w' base (fun _ => True) vt1 acc1) ∧ Aside0 (vt1.ownBlock = (Value.slice At acc.length ct).ownBlock ∨ ∃ b, vt1.ownBlock = some b ∧ w.heap.size ≤ b) ∧ Aside0 (Kq.KQ w w' (impl_chomps.SS gl (.slice At acc.length ct))))
   case atStart => exact ⟨1, _, _, Nat.le_refl _, by omega, by omega, rfl, ⟨HG1.out⟩, X1, R1, T1, K1⟩
   case round =>
    clear X1 R1 T1 K1 HG1
    obtain ⟨kk, acc1, vt1, hk1, hkk, hgg, rfl, HG, HX1, HR1, HT1, HK1⟩ := hrel
    by_cases hlt : kk ≤ wide
    ·have hltz : (kk : Int) ≤ (wide : Int) := by omega
     obtain ⟨m, hm⟩ : ∃ m, wide + 1 - kk = m + 1 := ⟨wide - kk, by omega⟩
     have H := HG.out
     rw [hm] at H
     simp only [Comb.go] at H
     obtain ⟨t, ht_, H⟩ := Option.bind_eq_some_iff.mp H
     have HT := Aside0.mk ht_
     have HG2 := Aside0.mk H
     clear HG ht_ H
     go_wp2
     have HX8 : wr.drew.heap[gl]? = some (.cells #[vt1] 26 (0, 0)) := HX1.out
     have K8 := Kq.KQ.drew HK1.out
     have R8 := Kd.S_drew HR1.out
     have hca : wr.drew.cell? ⟨ga, 0, none⟩ = some (.func (.func 110) #[] #[.pointer (some ⟨gl, 0, none⟩), .pointer (some ⟨gh, 0, none⟩), .pointer (some ⟨ga, 0, none⟩)]) := (blk_cell (Kq.blk_kq HGA.out K8 (impl_chomps.notS HX.out HRt.out HGA.out (by decide) (by decide))) 0).trans rfl
     refine start_ (n := 8) (S := fun w' => w'.cell? ⟨ga, 0, none⟩ = some (.func (.func 110) #[] #[.pointer (some ⟨gl, 0, none⟩), .pointer (some ⟨gh, 0, none⟩), .pointer (some ⟨ga, 0, none⟩)])) (ds := []) #[false, false, false, false, false, false, false, false] (by kernel_rfl) rfl rfl hca (fun hHeld => ?_)
     generalize wr.drew = we at HX8 K8 R8 hca hHeld ⊢
     refine take_ (i := 0) (N := some 24) (v := ?_) (a' := ?_) #[true, false, false, false, false, false, false, false] rfl rfl (by kernel_rfl) (fun _ _ _ h => h) (Or.inl ⟨by rfl, ?_⟩) hHeld ?_ ?_
     rotate_left
     ·rintro w' s0
      go_simp
      with_reducible rfl
     rotate_left
     ·simp only [Act.put, Lam.pa, Lam.pb, Lam.pc, i64_w, i32_w]
      rfl
     refine pure_ (i := 1) (N := some 25) (v := ?_) (a' := ?_) #[true, true, false, false, false, false, false, false] rfl rfl (by kernel_rfl) (fun _ _ _ h => h) (Or.inl ⟨by rfl, ?_⟩) ?_ ?_
     rotate_left
     ·intro w'
      go_simp
      with_reducible rfl
     rotate_left
     ·simp only [Act.put, Lam.pa, Lam.pb, Lam.pc, i64_w, i32_w]
      rfl
     refine pure_ (i := 3) (N := some 27) (v := ?_) (a' := ?_) #[true, true, false, true, false, false, false, false] rfl rfl (by kernel_rfl) (fun _ _ _ h => h) (Or.inl ⟨by rfl, ?_⟩) ?_ ?_
     rotate_left
     ·intro w'
      go_simp
      with_reducible rfl
     rotate_left
     ·simp only [Act.put, Lam.pa, Lam.pb, Lam.pc, i64_w, i32_w]
      rfl
     refine pure_ (i := 6) (N := some 30) (v := ?_) (a' := ?_) #[true, true, false, true, false, false, true, false] rfl rfl (by kernel_rfl) (fun _ _ _ h => h) (Or.inl ⟨by rfl, ?_⟩) ?_ ?_
     rotate_left
     ·intro w'
      go_simp
      with_reducible rfl
     rotate_left
     ·simp only [Act.put, Lam.pa, Lam.pb, Lam.pc, i64_w, i32_w]
      rfl
     refine join_ (σ := Value × Value) 2 #[true, true, true, true, true, false, true, false] (fun s_ => [(26, s_.1), (28, s_.2)]) (fun s_ w' => (w'.cell? ⟨ga, 0, none⟩ = some (.func (.func 110) #[] #[.pointer (some ⟨gl, 0, none⟩), .pointer (some ⟨gh, 0, none⟩), .pointer (some ⟨ga, 0, none⟩)])) ∧ (Kd.R (Kd.int .i64) 3 w' we.heap.size (fun q => some q ≠ (s_.2 : Value).ownBlock) s_.1 bg) ∧ (Kd.R (Kd.int .i64) 3 w' we.heap.size (fun _ => True) s_.2 [(kk : Int)]) ∧ Below we.heap.size we w') ?_ ?_
     rotate_left
     ·intro hCont
      refine two_ (i := 2) (j := 4) (Ni := some 26) (Nj := some 28) #[true, true, true, true, false, false, true, false] #[true, true, false, true, true, false, true, false] rfl rfl rfl rfl (by kernel_rfl) (by decide) (by decide) (fun K hK => ?_) (fun K hK => ?_)
      ·refine goes_ Tryd.func85 (by kernel_rfl) rfl #[.slice Ab bg.length cb] (by rfl) rfl rfl (by (try simp only [List.map_toArray, List.map_cons, List.map_nil]); first | done | rfl | (simp [Act.eval]; done)) ?_
       refine (HCALL.out _ K8).mono ?_
       rintro e wo ⟨vo, rfl, ho, hb⟩
       refine ⟨_, rfl, ?_⟩
       have hca2 := (hb.cell (World.block_lt_of_cell? we _ hca)).trans hca
       refine hK.out _ _ hca2 (fun hHeld => ?_)
       clear hK K
       refine norm_ (a' := ?_) ?_ ?_
       rotate_left
       ·show Act.put _ (some 26) _ = _
        simp only [Act.put, Lam.pa, Lam.pb, Lam.pc, i64_w, i32_w]
        rfl
       refine one_ (i := 4) (N := some 28) #[true, true, true, true, true, false, true, false] rfl rfl (by kernel_rfl) (by decide) (fun K hK => ?_)
       refine Kd.R_lit_step (Kd.int .i64) (w0 := wo) wo.heap.size 3 ?hg (N := 28) ?hd (xs := [(kk : Int)]) (inner := [.int .i64 (kk : Int)]) (ok := fun _ => True) (okp := fun _ => True) ?hr ?hp (fun _ hk => hk) trivial (Below.refl _ _) (Nat.le_refl _) (by simp) ?_
       case hd => rfl
       case hg => rfl
       case hr => first | (go_simp; done) | (go_simp; rfl)
       case hp => exact (Reps.snoc (Reps.none _ _) (p := (kk : Int)) (c := [.int .i64 (kk : Int)]) rfl rfl)
       intro vl wl hl hb2 hg_ hnew_
       obtain ⟨ob, hob1, hob2⟩ := hnew_
       have hca3 := (hb2.cell (World.block_lt_of_cell? wo _ hca2)).trans hca2
       refine hK.out _ _ hca3 (fun hHeld => ?_)
       clear hK K
       refine norm_ (a' := ?_) ?_ ?_
       rotate_left
       ·show Act.put _ (some 28) _ = _
        simp only [Act.put, Lam.pa, Lam.pb, Lam.pc, i64_w, i32_w]
        rfl
       exact norm_ (by simp only [putAll, Act.put, Lam.pa, Lam.pb, Lam.pc]) (hCont (vo, vl) _ ⟨hca3, Kd.R_below (Kd.R_mono (Kd.R_bound ho) (fun q hq => by rw [hob1]; intro he; injection he with he; have := hq.2.2.1; omega)) hb2, Kd.R_lower hl hb.size, below_step hb hb2⟩)
      ·
       refine Kd.R_lit_step (Kd.int .i64) (w0 := we) we.heap.size 3 ?hg (N := 28) ?hd (xs := [(kk : Int)]) (inner := [.int .i64 (kk : Int)]) (ok := fun _ => True) (okp := fun _ => True) ?hr ?hp (fun _ hk => hk) trivial (Below.refl _ _) (Nat.le_refl _) (by simp) ?_
       case hd => rfl
       case hg => rfl
       case hr => first | (go_simp; done) | (go_simp; rfl)
       case hp => exact (Reps.snoc (Reps.none _ _) (p := (kk : Int)) (c := [.int .i64 (kk : Int)]) rfl rfl)
       intro vl wl hl hb2 hg_ hnew_
       have hca3 := (hb2.cell (World.block_lt_of_cell? we _ hca)).trans hca
       refine hK.out _ _ hca3 (fun hHeld => ?_)
       clear hK K
       refine norm_ (a' := ?_) ?_ ?_
       rotate_left
       ·show Act.put _ (some 28) _ = _
        simp only [Act.put, Lam.pa, Lam.pb, Lam.pc, i64_w, i32_w]
        rfl
       refine one_ (i := 2) (N := some 26) #[true, true, true, true, true, false, true, false] rfl rfl (by kernel_rfl) (by decide) (fun K hK => ?_)
       refine goes_ Tryd.func85 (by kernel_rfl) rfl #[.slice Ab bg.length cb] (by rfl) rfl rfl (by (try simp only [List.map_toArray, List.map_cons, List.map_nil]); first | done | rfl | (simp [Act.eval]; done)) ?_
       refine (HCALL.out _ (K8.below hb2)).mono ?_
       rintro e wo ⟨vo, rfl, ho, hb⟩
       refine ⟨_, rfl, ?_⟩
       have hca2 := (hb.cell (World.block_lt_of_cell? wl _ hca3)).trans hca3
       refine hK.out _ _ hca2 (fun hHeld => ?_)
       clear hK K
       refine norm_ (a' := ?_) ?_ ?_
       rotate_left
       ·show Act.put _ (some 26) _ = _
        simp only [Act.put, Lam.pa, Lam.pb, Lam.pc, i64_w, i32_w]
        rfl
       exact norm_ (by simp only [putAll, Act.put, Lam.pa, Lam.pb, Lam.pc]) (hCont (vo, vl) _ ⟨hca2, Kd.R_lower (Kd.R_mono (Kd.R_bound ho) (fun q hq he => by have h1 := Kd.R_lt hl _ he.symm; have := hq.2.1; omega)) hb2.size, Kd.R_below hl hb, below_step hb2 hb⟩)
     rintro ⟨vo, vl⟩ wj ⟨hHeld, ho, hl, hb⟩
     obtain ⟨Al, cl, el⟩ := Kd.R_slice hl
     have el2 : vl = .slice Al [(kk : Int)].length cl := el
     dsimp only at ho hl
     refine norm_ (a' := ?_) ?_ ?_
     rotate_left
     ·simp only [putAll, Act.put, Lam.pa, Lam.pb, Lam.pc]
      rfl
     subst el2
     refine one_ (i := 5) (N := some 29) #[true, true, true, true, true, true, true, false] rfl rfl (by kernel_rfl) (by decide) (fun K hK => ?_)
     refine Kd.R_append_rows_step (Kd.int .i64) (w0 := we) we.heap.size (by rfl) (.tmp 26) (.tmp 28) 38 3 (.int .i64 0) 8 rfl hu38 info3 rfl (by decide) (by omega) vo bg [(kk : Int)] Al _ _ (fun q => some q ≠ (Value.slice Al [(kk : Int)].length cl).ownBlock) (fun _ => False) rfl rfl ho (Kd.R_reads' hl).2.2 (fun _ _ h => h) (fun _ h => h.elim) ?aF hb hb.size ?aL ?_
     case aF => exact fun q hq he => by have h1 := Kd.R_lt hl _ he.symm; omega
     case aL => have := HL.out; simp only [List.length_singleton]; omega
     intro v1 w3 ho1 hb3 hg1 hat1
     have K3 := Kq.KQ.below K8 hb3
     have RN := Kd.R_mono (ok' := fun _ => True) ho1 (fun _ _ => trivial)
     have hca4 : w3.cell? ⟨ga, 0, none⟩ = some (.func (.func 110) #[] #[.pointer (some ⟨gl, 0, none⟩), .pointer (some ⟨gh, 0, none⟩), .pointer (some ⟨ga, 0, none⟩)]) := (hb3.cell (World.block_lt_of_cell? we _ hca)).trans hca
     refine hK.out _ _ hca4 (fun hHeld => ?_)
     clear hK K
     refine norm_ (a' := ?_) ?_ ?_
     rotate_left
     ·show Act.put _ (some 29) _ = _
      simp only [Act.put, Lam.pa, Lam.pb, Lam.pc, i64_w, i32_w]
      rfl
     refine one_ (i := 7) (N := some 31) #[true, true, true, true, true, true, true, true] rfl rfl (by kernel_rfl) (by decide) (fun K hK => ?_)
     refine Kq.goesV_ (x := .tmp 24) (lb := #[.pointer (some ⟨gl, 0, none⟩), .pointer (some ⟨gh, 0, none⟩), .pointer (some ⟨ga, 0, none⟩)]) Tryd.func110 (by kernel_rfl) rfl #[v1, .int .i64 (kk : Int), .pointer (some ⟨gl, 0, none⟩), .pointer (some ⟨gh, 0, none⟩), .pointer (some ⟨ga, 0, none⟩)] (by rfl) rfl rfl rfl (by (try simp only [List.map_toArray, List.map_cons, List.map_nil]); first | done | rfl | (simp [Act.eval]; done)) ?_
     refine (IH.out kk (bg ++ [(kk : Int)]) acc1 t v1 vt1 gl gh ga base hi w3 (by have := HL.out; simp only [List.length_append, List.length_singleton]; omega) (by have := HW.out; omega) (by have := HHI.out; simp only [List.length_append, List.length_singleton]; omega) (Nat.le_trans HS.out K3.size) (Kq.blk_kq HGH.out K3 (impl_chomps.notS HX.out HRt.out HGH.out (by decide) (by decide))) (Kq.blk_kq HGA.out K3 (impl_chomps.notS HX.out HRt.out HGA.out (by decide) (by decide))) (Kd.R_lower RN (Nat.le_trans HS.out K8.size)) (blk_below HX8 hb3) (impl_chomps.apartS R8 hb3 (Kd.R_base RN)) HT.out).mono ?_
     rintro e w5 ⟨rfl, vt2, hx5, hr5, ht5, hk5⟩
     refine ⟨_, rfl, ?_⟩
     have hca5 : w5.cell? ⟨ga, 0, none⟩ = some (.func (.func 110) #[] #[.pointer (some ⟨gl, 0, none⟩), .pointer (some ⟨gh, 0, none⟩), .pointer (some ⟨ga, 0, none⟩)]) := by
      have h1 := Kq.blk_kq HGA.out K3 (impl_chomps.notS HX.out HRt.out HGA.out (by decide) (by decide))
      exact (blk_cell (Kq.blk_kq h1 hk5 (impl_chomps.notS (blk_below HX8 hb3) (Kd.S_below R8 hb3) h1 (by decide) (by decide))) 0).trans rfl
     refine hK.out _ _ hca5 (fun hHeld => ?_)
     clear hK K
     refine norm_ (a' := ?_) ?_ ?_
     rotate_left
     ·show Act.put _ (some 31) _ = _
      simp only [Act.put, Lam.pa, Lam.pb, Lam.pc, i64_w, i32_w]
      rfl
     refine done_ (by kernel_rfl) ?_
     have HX2 := Aside0.mk hx5
     have HR2 := Aside0.mk hr5
     have HT2 := Aside0.mk (impl_chomps.atS HT1.out K3.size ht5)
     have HK2 := Aside0.mk (impl_chomps.thenS K3 hk5 HT1.out)
     clear hHeld hca hca4 hca5 hx5 hr5 ht5 hk5 HX8 K8 R8 K3 RN ho1 hb3 hg1 hat1 ho hl hb HX1 HR1 HK1
     go_wp2
     go_roundg (wide + 1 - (kk + 1))
     case measure => omega
     case rel => exact ⟨kk + 1, t, vt2, by omega, by omega, by omega, by go_num, ⟨by rw [show wide + 1 - (kk + 1) = m by omega]; exact HG2.out⟩, HX2, HR2, HT2, HK2⟩
    ·obtain rfl : kk = wide + 1 := by omega
     have H := HG.out
     rw [Nat.sub_self] at H
     simp only [Comb.go] at H
     obtain rfl := Option.some.inj H
     clear HG H
     have hltz : ¬ ((wide + 1 : Nat) : Int) ≤ (wide : Int) := by omega
     go_wp2
     go_end0
     exact ⟨rfl, vt1, HX1.out, HR1.out, HT1.out, HK1.out⟩
def impl_chomps.f (a0 : Int) (a1 : Int) : Option ((List (List Int))) := if 0 ≤ a0 ∧ a0 ≤ 1000 ∧ 0 ≤ a1 ∧ a1 ≤ 1000 then Comb.look a1.toNat a0.toNat [] [] else none
set_option maxHeartbeats 8000000 in
set_option maxRecDepth 100000 in
theorem impl_chomps.calls (a0 : Int) (a1 : Int) (r : List (List Int)) (w : World) (h : impl_chomps.f a0 a1 = some r) :
  Calls Tryd.prog 72 #[.int .i64 a0, .int .i64 a1] w fun e w' => ∃ v0_ : Value, e = .returned (v0_) ∧ Kd.S (Kd.slice 3 (Kd.int .i64)) 38 w' w.heap.size (fun _ => True) v0_ r ∧ Below w.heap.size w w' := by
 have hc : 0 ≤ a0 ∧ a0 ≤ 1000 ∧ 0 ≤ a1 ∧ a1 ≤ 1000 := by
  by_cases hc : 0 ≤ a0 ∧ a0 ≤ 1000 ∧ 0 ≤ a1 ∧ a1 ≤ 1000
  ·exact hc
  ·simp only [impl_chomps.f, if_neg hc] at h; cases h
 simp only [impl_chomps.f, if_pos hc] at h
 obtain ⟨wide, rfl⟩ := Int.eq_ofNat_of_zero_le hc.1
 obtain ⟨high, rfl⟩ := Int.eq_ofNat_of_zero_le hc.2.2.1
 rw [Int.toNat_natCast, Int.toNat_natCast] at h
 have HT := Aside0.mk h
 have HC := Aside0.mk hc
 have HB := Aside0.mk (Below.refl w.heap.size w)
 clear h hc
 go_enter Tryd.func72, Tryd.ntmps72
 go_wp2_with (first
  | ((with_reducible refine gate_dst (N := 3) rfl ?_); refine box_event ?hg (N := 3) ?hd (cs := #[.int .i64 (high : Int)]) (t := 3) ?hr ?_; (case hd => rfl); (case hg => rfl); (case hr => first | (go_simp; done) | (go_simp; rfl)); intro g1 hg w1 hbox hb; have n0_ := Aside0.mk (below_step HB.out hb); clear HB; have HB := n0_; clear n0_; have B1 := Aside0.mk hbox; clear hb hbox hg)
  | ((with_reducible refine gate_dst (N := 7) rfl ?_); refine Kd.S_lit (Kd.slice 3 (Kd.int .i64)) _ 38 ?hg (N := 7) ?hd (xs := ([] : List (List Int))) (inner := []) (ok := fun _ => True) (okp := fun _ => True) ?hr ?hp (fun _ hk => hk) trivial (Below.refl _ _) (Nat.le_refl _) (by simp) ?_; (case hd => rfl); (case hg => rfl); (case hr => first | (go_simp; done) | (go_simp; rfl)); (case hp => exact (Reps.none _ _)); intro v2 w2 ho hb hg_ hnew_; clear hg_ hnew_; obtain ⟨A2, c2, e2⟩ := Kd.S_slice ho; obtain rfl : v2 = .slice A2 0 c2 := e2; have HO := Aside0.mk (Kd.S_lower ho HB.out.size); have m0_ := Aside0.mk (blk_below B1.out hb); have n0_ := Aside0.mk (below_step HB.out hb); clear HB B1; have HB := n0_; have B1 := m0_; clear n0_ m0_ hb ho)
  | ((with_reducible refine gate_dst (N := 5) rfl ?_); refine box_event ?hg (N := 5) ?hd (cs := #[.slice none 0 0]) (t := 26) ?hr ?_; (case hd => rfl); (case hg => rfl); (case hr => first | (go_simp; done) | (go_simp; rfl)); intro g3 hg w3 hbox hb; have G3 := Aside0.mk ((by rw [hg]; exact HB.out.size) : w.heap.size ≤ g3); have n0_ := Aside0.mk (below_step HB.out hb); have m0_ := Aside0.mk (blk_below B1.out hb); have mo_ := Aside0.mk (Kd.S_below HO.out hb); clear HB B1 HO; have HB := n0_; have B1 := m0_; have HO := mo_; clear n0_ m0_ mo_; have B3 := Aside0.mk hbox; have hcz3 : w3.cell? ⟨g3, 0, none⟩ = some (.slice none 0 0) := (blk_cell hbox 0).trans rfl; have hfz3 := blk_frozen hbox 0; clear hb hbox hg)
  | ((with_reducible refine gate_dst (N := 6) rfl ?_); refine box_event ?hg (N := 6) ?hd (cs := #[.nilFunc]) (t := 124) ?hr ?_; (case hd => rfl); (case hg => rfl); (case hr => first | (go_simp; done) | (go_simp; rfl)); intro g4 hg w4 hbox hb; have x3_ := blk_put (cs := #[.slice none 0 0]) B3.out 0 (.slice A2 0 c2) rfl; have x1_ := blk_far B1.out (p := ⟨g3, 0, none⟩) (blk_ne B1.out B3.out (by decide)) (.slice A2 0 c2); have xo_ := Kd.S_set HO.out B3.out (by simp [Kd.slice, Kd.int, Kd.scalar]) 0 (.slice A2 0 c2); have xb_ := below_set (j := 0) (v := .slice A2 0 c2) HB.out G3.out; have G4 := Aside0.mk ((by rw [hg]; exact xb_.size) : w.heap.size ≤ g4); have m1_ := Aside0.mk (blk_below x1_ hb); have m3_ := Aside0.mk (blk_below x3_ hb); have mo_ := Aside0.mk (Kd.S_below xo_ hb); have n0_ := Aside0.mk (below_step xb_ hb); clear HB B1 B3 HO x1_ x3_ xo_ xb_ hcz3 hfz3; have HB := n0_; have B1 := m1_; have B3 := m3_; have HO := mo_; clear n0_ m1_ m3_ mo_; have B4 := Aside0.mk hbox; have hcz4 : w4.cell? ⟨g4, 0, none⟩ = some (.nilFunc) := (blk_cell hbox 0).trans rfl; have hfz4 := blk_frozen hbox 0; clear hb hbox hg)
  | (go_at_call 110; have x4_ := blk_put (cs := #[.nilFunc]) B4.out 0 (.func (.func 110) #[] #[.pointer (some ⟨g3, 0, none⟩), .pointer (some ⟨g1, 0, none⟩), .pointer (some ⟨g4, 0, none⟩)]) rfl; have x3_ := blk_far B3.out (p := ⟨g4, 0, none⟩) (blk_ne B3.out B4.out (by decide)) (.func (.func 110) #[] #[.pointer (some ⟨g3, 0, none⟩), .pointer (some ⟨g1, 0, none⟩), .pointer (some ⟨g4, 0, none⟩)]); have x1_ := blk_far B1.out (p := ⟨g4, 0, none⟩) (blk_ne B1.out B4.out (by decide)) (.func (.func 110) #[] #[.pointer (some ⟨g3, 0, none⟩), .pointer (some ⟨g1, 0, none⟩), .pointer (some ⟨g4, 0, none⟩)]); have xo_ := Kd.S_set HO.out B4.out (by simp [Kd.slice, Kd.int, Kd.scalar]) 0 (.func (.func 110) #[] #[.pointer (some ⟨g3, 0, none⟩), .pointer (some ⟨g1, 0, none⟩), .pointer (some ⟨g4, 0, none⟩)]); have xb_ := below_set (j := 0) (v := .func (.func 110) #[] #[.pointer (some ⟨g3, 0, none⟩), .pointer (some ⟨g1, 0, none⟩), .pointer (some ⟨g4, 0, none⟩)]) HB.out G4.out; have hS : ∀ q, impl_chomps.SS g3 (.slice A2 0 c2) q → w.heap.size ≤ q := (fun q hq => by rcases hq with rfl | hq; exact G3.out; rcases Kd.S_base2 xo_ with h0 | ⟨b, hb, hle⟩; rw [h0] at hq; cases hq; rw [hb] at hq; cases hq; exact hle); go_loud (refine (impl_chomps.rec high wide [] [] r (.slice none 0 0) (.slice A2 0 c2) g3 g1 g4 w.heap.size high _ (by have := HC.out; simp; omega) (by have := HC.out; omega) (by simp) xb_.size x1_ x4_ (Kd.R_nil _ _ _ _ _) x3_ (Kd.S_mono xo_ (fun _ _ => by simp [Value.ownBlock])) HT.out).mono ?_; rintro e w7 ⟨rfl, vt, hx, hr, _, hk⟩); have n0_ := Aside0.mk (Kq.KQ.to_below xb_ hk hS); have hcv : w7.cell? ⟨g3, 0, none⟩ = some vt := (blk_cell hx 0).trans rfl; have HR := Aside0.mk hr; clear HB hr hk hx x4_ x3_ x1_ xo_ xb_ hS hcz4 hfz4; have HB := n0_; clear n0_))
 go_ret
 exact ⟨_, rfl, HR.out, HB.out⟩

/-! ### impl_sum: function 80 -/
def impl_sum.l0 : Nat → Int → List Int → Int → Int → Option (Int)
 | 0, _, _, _, _ => none
 | k + 1, x3, x6, x7, x8 => if x8 < x7 then (if 0 ≤ x8 then (if x8 < (x6.length : Int) then (impl_sum.l0 k (wrap64 (x3 + (rd x6 x8))) x6 x7 (wrap64 (x8 + 1))) else (none)) else (none)) else (some x3)
def impl_sum.f (k : Nat) (l0 : List Int) : Option (Int) := impl_sum.l0 k 0 l0 (l0.length : Int) 0
theorem impl_sum.mono_l : ∀ k, (∀ y0 y1 y2 y3, LeO (impl_sum.l0 k y0 y1 y2 y3) (impl_sum.l0 (k + 1) y0 y1 y2 y3))
 | 0 => fun _ _ _ _ r h => by simp [impl_sum.l0] at h
 | k + 1 => by
  have ih0 := impl_sum.mono_l k
  ·intro y0 y1 y2 y3
   unfold impl_sum.l0
   repeat' first
   | (with_reducible exact ih0 _ _ _ _)
   | (with_reducible exact LeO.refl _)
   | (with_reducible exact LeO.none _)
   | (with_reducible refine LeO.ite ?_ ?_)
   | (with_reducible refine LeO.bind ?_ (fun _ => ?_))
   | exact ih0 _ _ _ _
   | exact LeO.none _
   | refine LeO.ite ?_ ?_
   | refine LeO.bind ?_ (fun _ => ?_)
theorem impl_sum.mono : ∀ a0 k, LeO (impl_sum.f k a0) (impl_sum.f (k + 1) a0) := by
 intro a0 k
 have ih0 := impl_sum.mono_l k
 unfold impl_sum.f
 repeat' first
   | (with_reducible exact ih0 _ _ _ _)
   | (with_reducible exact LeO.refl _)
   | (with_reducible exact LeO.none _)
   | (with_reducible refine LeO.ite ?_ ?_)
   | (with_reducible refine LeO.bind ?_ (fun _ => ?_))
   | exact ih0 _ _ _ _
   | exact LeO.none _
   | refine LeO.ite ?_ ?_
   | refine LeO.bind ?_ (fun _ => ?_)
set_option maxHeartbeats 8000000 in
set_option maxRecDepth 100000 in
theorem impl_sum.calls (k : Nat) (A0 : Option Addr) (c0 : Nat) (l0 : List Int) (r : Int) (w : World) (hr0 : Kd.C (Kd.int .i64) w A0 l0.length l0) (hc0 : l0.length ≤ c0) (h : impl_sum.f k l0 = some r) :
  Calls Tryd.prog 80 #[.slice A0 l0.length c0] w fun e w' => e = .returned (.int .i64 r) ∧ Drawn0 w w' := by
 have HR0 := Aside0.mk hr0
 have HC0 := Aside0.mk hc0
 clear hr0 hc0
 have H : (impl_sum.l0 k 0 l0 (l0.length : Int) 0) = some r := h
 clear h
 have H' := Aside0.mk H
 clear H
 go_enter Tryd.func80, Tryd.ntmps80
 go_wp2
 go_loopg [3, 8] k (fun kq v3 v8 w' => ∃ (x3_1 : Int) (x8_1 : Int), v3 = .int .i64 x3_1 ∧ v8 = .int .i64 x8_1 ∧ Aside0 (impl_sum.l0 kq x3_1 l0 (l0.length : Int) x8_1 = some r) ∧ Aside0 (kq ≤ k) ∧ Drawn0 w w')
 case atStart => exact ⟨(0), (0), (by first | rfl | (simp; done) | (simp [*]; done)), (by first | rfl | (simp; done) | (simp [*]; done)), H', ⟨Nat.le_refl _⟩, by repeat (first | exact Drawn0.refl _ | apply Drawn0.step)⟩
 case round =>
  clear H'
  obtain ⟨x3_1, x8_1, rfl, rfl, HA, HK1, ⟨m1, rfl⟩⟩ := hrel
  cases gk with
  | zero => exact absurd HA.out (by simp [impl_sum.l0])
  | succ k1 =>
   have H := HA.out
   clear HA
   simp only [impl_sum.l0] at H
   by_cases c2 : x8_1 < (l0.length : Int)
   ·rw [if_pos c2] at H
    have c2b0 : decide (x8_1 < (l0.length : Int)) = true := decide_eq_true c2
    clear c2
    by_cases c3 : 0 ≤ x8_1
    ·rw [if_pos c3] at H
     have c3b0 : decide (0 ≤ x8_1) = true := decide_eq_true c3
     clear c3
     by_cases c4 : x8_1 < (l0.length : Int)
     ·rw [if_pos c4] at H
      have c4b0 : decide (x8_1 < (l0.length : Int)) = true := decide_eq_true c4
      clear c4
      have H' := Aside0.mk H
      clear H
      have p187 : 0 ≤ (x8_1 : Int) := of_decide_eq_true (by first | (with_reducible assumption) | assumption)
      have q187 : x8_1 < (l0.length : Int) := of_decide_eq_true (by first | (with_reducible assumption) | assumption)
      obtain ⟨ad187, e187, hx187_0⟩ := Kd.at_int HR0.out x8_1 p187 q187
      cases e187
      replace p187 := eq_true p187
      replace q187 := eq_true q187
      go_wp2
      go_roundg k1
      case measure => have := HK1.out; omega
      case rel => exact ⟨(wrap64 (x3_1 + (rd l0 x8_1))), (wrap64 (x8_1 + 1)), (by first | rfl | (simp; done) | (simp [*]; done)), (by first | rfl | (simp; done) | (simp [*]; done)), H', ⟨by have := HK1.out; omega⟩, by repeat (first | exact Drawn0.refl _ | apply Drawn0.step)⟩
     ·rw [if_neg c4] at H
      exact absurd H (by simp)
    ·rw [if_neg c3] at H
     exact absurd H (by simp)
   ·rw [if_neg c2] at H
    have c2b0 : decide (x8_1 < (l0.length : Int)) = false := decide_eq_false c2
    clear c2
    obtain rfl := Option.some.inj H
    go_wp2
    go_ret
    exact ⟨by first | rfl | (simp; done) | (simp [*]; done), by repeat (first | exact Drawn0.refl _ | apply Drawn0.step)⟩

/-! ### impl_row: function 81 -/
def impl_row.f (l0 : List Int) (a1 : Int) : Option (Int) := if a1 ≥ (l0.length : Int) then (some 0) else (if 0 ≤ a1 then (if a1 < (l0.length : Int) then (some (rd l0 a1)) else (none)) else (none))
set_option maxHeartbeats 8000000 in
set_option maxRecDepth 100000 in
theorem impl_row.calls (A0 : Option Addr) (c0 : Nat) (l0 : List Int) (a1 : Int) (r : Int) (w : World) (hr0 : Kd.C (Kd.int .i64) w A0 l0.length l0) (hc0 : l0.length ≤ c0) (h : impl_row.f l0 a1 = some r) :
  Calls Tryd.prog 81 #[.slice A0 l0.length c0, .int .i64 a1] w fun e w' => e = .returned (.int .i64 r) ∧ Drawn0 w w' := by
 have HR0 := Aside0.mk hr0
 have HC0 := Aside0.mk hc0
 clear hr0 hc0
 have H : (if a1 ≥ (l0.length : Int) then (some 0) else (if 0 ≤ a1 then (if a1 < (l0.length : Int) then (some (rd l0 a1)) else (none)) else (none))) = some r := h
 clear h
 by_cases c3 : a1 ≥ (l0.length : Int)
 ·rw [if_pos c3] at H
  have c3b0 : decide ((l0.length : Int) ≤ a1) = true := decide_eq_true c3
  clear c3
  obtain rfl := Option.some.inj H
  go_enter Tryd.func81, Tryd.ntmps81
  go_wp2
  go_ret
  exact ⟨by first | rfl | (simp; done) | (simp [*]; done), by repeat (first | exact Drawn0.refl _ | apply Drawn0.step)⟩
 ·rw [if_neg c3] at H
  have c3b0 : decide ((l0.length : Int) ≤ a1) = false := decide_eq_false c3
  clear c3
  by_cases c4 : 0 ≤ a1
  ·rw [if_pos c4] at H
   have c4b0 : decide (0 ≤ a1) = true := decide_eq_true c4
   clear c4
   by_cases c5 : a1 < (l0.length : Int)
   ·rw [if_pos c5] at H
    have c5b0 : decide (a1 < (l0.length : Int)) = true := decide_eq_true c5
    clear c5
    obtain rfl := Option.some.inj H
    have p188 : 0 ≤ (a1 : Int) := of_decide_eq_true (by first | (with_reducible assumption) | assumption)
    have q188 : a1 < (l0.length : Int) := of_decide_eq_true (by first | (with_reducible assumption) | assumption)
    obtain ⟨ad188, e188, hx188_0⟩ := Kd.at_int HR0.out a1 p188 q188
    cases e188
    replace p188 := eq_true p188
    replace q188 := eq_true q188
    go_enter Tryd.func81, Tryd.ntmps81
    go_wp2
    go_ret
    exact ⟨by first | rfl | (simp; done) | (simp [*]; done), by repeat (first | exact Drawn0.refl _ | apply Drawn0.step)⟩
   ·rw [if_neg c5] at H
    exact absurd H (by simp)
  ·rw [if_neg c4] at H
   exact absurd H (by simp)

/-! ### impl_bit: function 82 -/
def impl_bit.f (a0 : Bool) : Option (Int) := if a0 = true then (some 1) else (some 0)
set_option maxHeartbeats 8000000 in
set_option maxRecDepth 100000 in
theorem impl_bit.calls (a0 : Bool) (r : Int) (w : World) (h : impl_bit.f a0 = some r) :
  Calls Tryd.prog 82 #[.bool a0] w fun e w' => e = .returned (.int .i64 r) ∧ Drawn0 w w' := by
 have H : (if a0 = true then (some 1) else (some 0)) = some r := h
 clear h
 by_cases c2 : a0 = true
 ·subst c2
  have H1 : (some 1) = some r := by rw [if_pos rfl] at H; exact H
  clear H
  have H := H1
  clear H1
  obtain rfl := Option.some.inj H
  go_enter Tryd.func82, Tryd.ntmps82
  go_wp2
  go_ret
  exact ⟨by first | rfl | (simp; done) | (simp [*]; done), by repeat (first | exact Drawn0.refl _ | apply Drawn0.step)⟩
 ·replace c2 := Bool.eq_false_iff.mpr c2
  subst c2
  have H1 : (some 0) = some r := by rw [if_neg (show ¬ (false = true) by decide)] at H; exact H
  clear H
  have H := H1
  clear H1
  obtain rfl := Option.some.inj H
  go_enter Tryd.func82, Tryd.ntmps82
  go_wp2
  go_ret
  exact ⟨by first | rfl | (simp; done) | (simp [*]; done), by repeat (first | exact Drawn0.refl _ | apply Drawn0.step)⟩

/-! ### strconv_Itoa: function 92 -/
def strconv_Itoa.lay_ren : Go.Shelf.Ren := ⟨fun | 171 => 92 | 243 => 121 | 246 => 130 | 283 => 139 | 284 => 140 | 285 => 141 | 286 => 142 | 129 => 152 | 317 => 151 | 318 => 153 | 319 => 154 | 320 => 155 | 337 => 160 | 338 => 161 | n => n, fun | 3 => 3 | 9 => 9 | 2 => 2 | 4 => 4 | 171 => 153 | 0 => 0 | 53 => 154 | 37 => 130 | 5 => 5 | 173 => 157 | 212 => 168 | 51 => 169 | 20 => 20 | 213 => 170 | 46 => 150 | 232 => 183 | 233 => 184 | n => n, fun | 17 => 1 | 18 => 4 | 19 => 5 | n => n⟩
theorem strconv_Itoa.lay : Go.Proofs.Lays.n171 Tryd.prog strconv_Itoa.lay_ren := {
  mixed := by kernel_rfl
  f129 := Tryd.func152.trans (congrArg some (by kernel_rfl))
  f171 := Tryd.func92.trans (congrArg some (by kernel_rfl))
  f243 := Tryd.func121.trans (congrArg some (by kernel_rfl))
  f246 := Tryd.func130.trans (congrArg some (by kernel_rfl))
  f283 := Tryd.func139.trans (congrArg some (by kernel_rfl))
  f284 := Tryd.func140.trans (congrArg some (by kernel_rfl))
  f285 := Tryd.func141.trans (congrArg some (by kernel_rfl))
  f286 := Tryd.func142.trans (congrArg some (by kernel_rfl))
  f317 := Tryd.func151.trans (congrArg some (by kernel_rfl))
  f318 := Tryd.func153.trans (congrArg some (by kernel_rfl))
  f319 := Tryd.func154.trans (congrArg some (by kernel_rfl))
  f320 := Tryd.func155.trans (congrArg some (by kernel_rfl))
  f337 := Tryd.func160.trans (congrArg some (by kernel_rfl))
  f338 := Tryd.func161.trans (congrArg some (by kernel_rfl))
  t0 := Tryd.underlying0
  a0 := Tryd.isAgg0
  z0 := Tryd.sizeOf0
  v0 := Tryd.zeroValue0
  t2 := Tryd.underlying2
  a2 := Tryd.isAgg2
  z2 := Tryd.sizeOf2
  v2 := Tryd.zeroValue2
  t3 := Tryd.underlying3
  a3 := Tryd.isAgg3
  z3 := Tryd.sizeOf3
  v3 := Tryd.zeroValue3
  t4 := Tryd.underlying4
  a4 := Tryd.isAgg4
  z4 := Tryd.sizeOf4
  v4 := Tryd.zeroValue4
  t5 := Tryd.underlying5
  a5 := Tryd.isAgg5
  z5 := Tryd.sizeOf5
  v5 := Tryd.zeroValue5
  t9 := Tryd.underlying9
  a9 := Tryd.isAgg9
  z9 := Tryd.sizeOf9
  v9 := Tryd.zeroValue9
  t20 := Tryd.underlying20
  a20 := Tryd.isAgg20
  z20 := Tryd.sizeOf20
  v20 := Tryd.zeroValue20
  t37 := Tryd.underlying130
  a37 := Tryd.isAgg130
  z37 := Tryd.sizeOf130
  v37 := Tryd.zeroValue130
  t46 := Tryd.underlying150
  a46 := Tryd.isAgg150
  z46 := Tryd.sizeOf150
  v46 := Tryd.zeroValue150
  t51 := Tryd.underlying169
  a51 := Tryd.isAgg169
  z51 := Tryd.sizeOf169
  v51 := Tryd.zeroValue169
  t53 := Tryd.underlying154
  a53 := Tryd.isAgg154
  z53 := Tryd.sizeOf154
  v53 := Tryd.zeroValue154
  t171 := Tryd.underlying153
  a171 := Tryd.isAgg153
  z171 := Tryd.sizeOf153
  v171 := Tryd.zeroValue153
  t173 := Tryd.underlying157
  a173 := Tryd.isAgg157
  z173 := Tryd.sizeOf157
  v173 := Tryd.zeroValue157
  t212 := Tryd.underlying168
  a212 := Tryd.isAgg168
  z212 := Tryd.sizeOf168
  v212 := Tryd.zeroValue168
  t213 := Tryd.underlying170
  a213 := Tryd.isAgg170
  z213 := Tryd.sizeOf170
  t232 := Tryd.underlying183
  a232 := Tryd.isAgg183
  z232 := Tryd.sizeOf183
  v232 := Tryd.zeroValue183
  t233 := Tryd.underlying184
  a233 := Tryd.isAgg184
  z233 := Tryd.sizeOf184
  v233 := Tryd.zeroValue184
  g17 := by kernel_rfl
  g18 := by kernel_rfl
  g19 := by kernel_rfl }
def strconv_Itoa.text (n : Int) : ByteArray := ⟨(Lib.decDigits n.toNat).toArray⟩
def strconv_Itoa.f (a0 : Int) : Option (ByteArray) := if 0 ≤ a0 then if a0 < 100 then some (strconv_Itoa.text a0) else none else none
theorem strconv_Itoa.calls (a0 : Int) (r : ByteArray) (w : World) (h : strconv_Itoa.f a0 = some r) :
  Calls Tryd.prog 92 #[.int .i64 a0] w fun e w' => e = .returned (.string r) ∧ Drawn0 w w' := by
 unfold strconv_Itoa.f at h
 by_cases h0 : 0 ≤ a0
 ·by_cases h1 : a0 < 100
  ·rw [if_pos h0, if_pos h1] at h
   obtain rfl := Option.some.inj h
   have := Any.strconv_Itoa_small strconv_Itoa.lay a0.toNat (by omega) w
   rw [Int.toNat_of_nonneg h0] at this
   refine this.mono ?_
   rintro e w' ⟨rfl, rfl⟩
   exact ⟨rfl, Drawn0.refl _⟩
  ·rw [if_pos h0, if_neg h1] at h; cases h
 ·rw [if_neg h0] at h; cases h

/-! ### strings_Join: function 93 -/
def strings_Join.lay_ren : Go.Shelf.Ren := ⟨fun | 156 => 93 | 165 => 122 | 166 => 123 | 169 => 124 | 240 => 131 | 241 => 132 | 276 => 143 | 277 => 144 | n => n, fun | 31 => 109 | 9 => 9 | 3 => 3 | 4 => 4 | 0 => 0 | 20 => 20 | 72 => 135 | 76 => 139 | 70 => 133 | 37 => 130 | 75 => 138 | 127 => 148 | 164 => 159 | 5 => 5 | 80 => 141 | n => n, fun | n => n⟩
theorem strings_Join.lay : Go.Proofs.Lays.n156 Tryd.prog strings_Join.lay_ren := {
  mixed := by kernel_rfl
  f156 := Tryd.func93.trans (congrArg some (by kernel_rfl))
  f165 := Tryd.func122.trans (congrArg some (by kernel_rfl))
  f166 := Tryd.func123.trans (congrArg some (by kernel_rfl))
  f169 := Tryd.func124.trans (congrArg some (by kernel_rfl))
  f240 := Tryd.func131.trans (congrArg some (by kernel_rfl))
  f241 := Tryd.func132.trans (congrArg some (by kernel_rfl))
  f276 := Tryd.func143.trans (congrArg some (by kernel_rfl))
  f277 := Tryd.func144.trans (congrArg some (by kernel_rfl))
  t0 := Tryd.underlying0
  a0 := Tryd.isAgg0
  z0 := Tryd.sizeOf0
  v0 := Tryd.zeroValue0
  t3 := Tryd.underlying3
  a3 := Tryd.isAgg3
  z3 := Tryd.sizeOf3
  v3 := Tryd.zeroValue3
  t4 := Tryd.underlying4
  a4 := Tryd.isAgg4
  z4 := Tryd.sizeOf4
  v4 := Tryd.zeroValue4
  t9 := Tryd.underlying9
  a9 := Tryd.isAgg9
  z9 := Tryd.sizeOf9
  v9 := Tryd.zeroValue9
  t20 := Tryd.underlying20
  a20 := Tryd.isAgg20
  z20 := Tryd.sizeOf20
  v20 := Tryd.zeroValue20
  t31 := Tryd.underlying109
  a31 := Tryd.isAgg109
  z31 := Tryd.sizeOf109
  v31 := Tryd.zeroValue109
  t37 := Tryd.underlying130
  a37 := Tryd.isAgg130
  z37 := Tryd.sizeOf130
  v37 := Tryd.zeroValue130
  t70 := Tryd.underlying133
  a70 := Tryd.isAgg133
  z70 := Tryd.sizeOf133
  v70 := Tryd.zeroValue133
  t72 := Tryd.underlying135
  a72 := Tryd.isAgg135
  z72 := Tryd.sizeOf135
  v72 := Tryd.zeroValue135
  t75 := Tryd.underlying138
  a75 := Tryd.isAgg138
  z75 := Tryd.sizeOf138
  v75 := Tryd.zeroValue138
  t76 := Tryd.underlying139
  a76 := Tryd.isAgg139
  z76 := Tryd.sizeOf139
  v76 := Tryd.zeroValue139
  t127 := Tryd.underlying148
  a127 := Tryd.isAgg148
  z127 := Tryd.sizeOf148
  v127 := Tryd.zeroValue148
  t164 := Tryd.underlying159
  a164 := Tryd.isAgg159
  z164 := Tryd.sizeOf159
  v164 := Tryd.zeroValue159 }
theorem strings_Join.extra : Builder.Extra Tryd.prog strings_Join.lay_ren where
 sizeBuilder := by kernel_rfl
 liesBuilder := by kernel_rfl
 t5 := Tryd.underlying5
 a5 := Tryd.isAgg5
 z5 := Tryd.sizeOf5
 v5 := Tryd.zeroValue5
 infoByte := by kernel_rfl
 cellsByte := by kernel_rfl
 sizeByte := by kernel_rfl
 neB5 := by decide
def strings_Join.text (l : List ByteArray) (sep : ByteArray) : ByteArray := ⟨(Lib.join (l.map (·.data.toList)) sep.data.toList).toArray⟩
def strings_Join.f (l0 : List ByteArray) (a1 : ByteArray) : Option (ByteArray) := if l0.length ≤ 1000000 then if (Lib.join (l0.map (·.data.toList)) a1.data.toList).length ≤ 140737488355328 then some (strings_Join.text l0 a1) else none else none
theorem strings_Join.calls (A0 : Option Addr) (c0 : Nat) (l0 : List ByteArray) (a1 : ByteArray) (r : ByteArray) (w : World) (hr0 : Kd.C Kd.string w A0 l0.length l0) (hc0 : l0.length ≤ c0) (h : strings_Join.f l0 a1 = some r) :
  Calls Tryd.prog 93 #[.slice A0 l0.length c0, .string a1] w fun e w' => e = .returned (.string r) ∧ Below w.heap.size w w' := by
 unfold strings_Join.f at h
 have hN : l0.length ≤ 1000000 := by
  by_cases hN : l0.length ≤ 1000000
  ·exact hN
  ·rw [if_neg hN] at h; cases h
 rw [if_pos hN] at h
 by_cases h0 : (Lib.join (l0.map (·.data.toList)) a1.data.toList).length ≤ 140737488355328
 ·rw [if_pos h0] at h
  obtain rfl := Option.some.inj h
  cases l0 with
  | nil =>
   refine (Any.strings_Join_none strings_Join.lay strings_Join.extra A0 c0 a1 w).mono ?_
   rintro e w' ⟨rfl, rfl⟩
   exact ⟨rfl, Below.refl _ _⟩
  | cons x xs =>
   obtain ⟨ad, rfl, h1⟩ := hr0.2.2 (by simp)
   have hat : ∀ (j : Nat) y, (x :: xs)[j]? = some y → w.cell? (ad.add j) = some (.string y) := fun j y hj => by
    obtain ⟨c, hl, hK, hc⟩ := h1 j y hj
    obtain rfl : c = [.string y] := hK
    have := hc 0 _ rfl
    rwa [show Kd.string.sz = 1 from rfl, Nat.mul_one, Nat.add_zero] at this
   have h00 := hat 0 x rfl
   obtain ⟨b, off, spot⟩ := ad
   have hspot : spot = none := by simpa [Addr.add] using World.cell?_spot h00
   subst hspot
   have hat2 : ∀ (j : Nat) y, (x :: xs)[j]? = some y → w.cell? ⟨b, off + j, none⟩ = some (.string y) := fun j y hj => by
    have h5 := hat j y hj
    by_cases hj0 : j = 0
    ·subst hj0; simpa [Addr.add] using h5
    ·simpa [Addr.add, hj0] using h5
   refine (Any.strings_Join strings_Join.lay strings_Join.extra b off c0 (x :: xs) a1 w hat2 (World.block_lt_of_cell? _ _ (hat2 0 x rfl)) (by omega) hc0 h0).mono ?_
   rintro e w' ⟨rfl, hw⟩
   exact ⟨rfl, hw⟩
 ·rw [if_neg h0] at h; cases h

/-! ### impl_joined: function 102 -/
def impl_joined.l0 : Nat → ByteArray → List ByteArray → List Int → Int → Int → Option (ByteArray)
 | 0, _, _, _, _, _ => none
 | k + 1, x1, x5, x9, x10, x11 => if x11 < x10 then (if 0 ≤ x11 then (if x11 < (x9.length : Int) then ((strconv_Itoa.f (rd x9 x11)).bind fun t193 => (if x5.length < 8796093022208 then (impl_joined.l0 k x1 (x5 ++ [t193]) x9 x10 (wrap64 (x11 + 1))) else (none))) else (none)) else (none)) else ((strings_Join.f x5 x1).bind fun t197 => (some t197))
def impl_joined.f (k : Nat) (l0 : List Int) (a1 : ByteArray) : Option (ByteArray) := impl_joined.l0 k a1 (([] : List ByteArray)) l0 (l0.length : Int) 0
theorem impl_joined.mono_l : ∀ k, (∀ y0 y1 y2 y3 y4, LeO (impl_joined.l0 k y0 y1 y2 y3 y4) (impl_joined.l0 (k + 1) y0 y1 y2 y3 y4))
 | 0 => fun _ _ _ _ _ r h => by simp [impl_joined.l0] at h
 | k + 1 => by
  have ih0 := impl_joined.mono_l k
  ·intro y0 y1 y2 y3 y4
   unfold impl_joined.l0
   repeat' first
   | (with_reducible exact ih0 _ _ _ _ _)
   | (with_reducible exact LeO.refl _)
   | (with_reducible exact LeO.none _)
   | (with_reducible refine LeO.ite ?_ ?_)
   | (with_reducible refine LeO.bind ?_ (fun _ => ?_))
   | exact ih0 _ _ _ _ _
   | exact LeO.none _
   | refine LeO.ite ?_ ?_
   | refine LeO.bind ?_ (fun _ => ?_)
theorem impl_joined.mono : ∀ a0 a1 k, LeO (impl_joined.f k a0 a1) (impl_joined.f (k + 1) a0 a1) := by
 intro a0 a1 k
 have ih0 := impl_joined.mono_l k
 unfold impl_joined.f
 repeat' first
   | (with_reducible exact ih0 _ _ _ _ _)
   | (with_reducible exact LeO.refl _)
   | (with_reducible exact LeO.none _)
   | (with_reducible refine LeO.ite ?_ ?_)
   | (with_reducible refine LeO.bind ?_ (fun _ => ?_))
   | exact ih0 _ _ _ _ _
   | exact LeO.none _
   | refine LeO.ite ?_ ?_
   | refine LeO.bind ?_ (fun _ => ?_)
set_option maxHeartbeats 8000000 in
set_option maxRecDepth 100000 in
theorem impl_joined.calls (k : Nat) (A0 : Option Addr) (c0 : Nat) (l0 : List Int) (a1 : ByteArray) (r : ByteArray) (w : World) (hr0 : Kd.C (Kd.int .i64) w A0 l0.length l0) (hc0 : l0.length ≤ c0) (h : impl_joined.f k l0 a1 = some r) :
  Calls Tryd.prog 102 #[.slice A0 l0.length c0, .string a1] w fun e w' => e = .returned (.string r) ∧ Below w.heap.size w w' := by
 have HR0 := Aside0.mk hr0
 have HC0 := Aside0.mk hc0
 clear hr0 hc0
 have HB := Aside0.mk (Below.refl w.heap.size w)
 have H : (impl_joined.l0 k a1 (([] : List ByteArray)) l0 (l0.length : Int) 0) = some r := h
 clear h
 obtain ⟨y189, hy189⟩ : ∃ y_ : List ByteArray, y_ = (([] : List ByteArray)) := ⟨_, rfl⟩
 replace H : (impl_joined.l0 k a1 y189 l0 (l0.length : Int) 0) = some r := by first | (rw [hy189]; with_reducible exact H) | (have H2_ := (Option.bind_some _ _).symm.trans H; rw [hy189]; with_reducible exact H2_) | (have H2_ := (Option.bind_some _ _).symm.trans H; with_reducible exact H2_) | with_reducible exact H | (rw [hy189]; exact H) | exact H
 have Ny189 := Aside0.mk hy189
 clear hy189
 have H' := Aside0.mk H
 clear H
 go_enter Tryd.func102, Tryd.ntmps102
 go_wp2_with (first | ((with_reducible refine gate_dst (N := 8) rfl ?_); refine Kd.R_lit Kd.string _ 9 ?hg (N := 8) ?hd (xs := ([] : List ByteArray)) (inner := []) (ok := fun _ => True) (okp := fun _ => True) ?hr ?hp (fun _ hk => hk) trivial (Below.refl _ _) (Nat.le_refl _) (by simp) ?_; (case hd => rfl); (case hg => rfl); (case hr => first | (go_simp; done) | (go_simp; rfl)); (case hp => exact (Reps.none _ _)); intro v190 w3 ho4 hb hg_ hnew_; clear hg_ hnew_; (first | rw [← Ny189.out] at ho4 | (simp only [Int.reduceToNat] at ho4; rw [← Ny189.out] at ho4)); have n0_ := Aside0.mk (Kd.R_lower ho4 (below_size (Lam.al))); have n1_ := Aside0.mk (below_step (Lam.al) hb); clear HB; have HO191 := n0_; have HB := n1_; clear n0_ n1_; clear hb ho4))
 go_loopg [5, 11] k (fun kq v5 v11 w' => ∃ (x5_1 : List ByteArray) (x11_1 : Int), v11 = .int .i64 x11_1 ∧ Aside0 (impl_joined.l0 kq a1 x5_1 l0 (l0.length : Int) x11_1 = some r) ∧ Aside0 (kq ≤ k) ∧ Aside0 (Kd.R Kd.string 9 w' w.heap.size (fun _ => True) v5 x5_1) ∧ Aside0 (Below w.heap.size w w'))
 case atStart => exact ⟨(y189), (0), (by first | rfl | (simp; done) | (simp [*]; done)), H', ⟨Nat.le_refl _⟩, ⟨Lam.rq HO191.out⟩, ⟨Lam.al⟩⟩
 case round =>
  clear H'
  try clear c1
  try clear p2
  obtain ⟨x5_1, x11_1, rfl, HA, HK1, HO_5, HB⟩ := hrel
  cases gk with
  | zero => exact absurd HA.out (by simp [impl_joined.l0])
  | succ k1 =>
   have H := HA.out
   clear HA
   simp only [impl_joined.l0] at H
   by_cases c5 : x11_1 < (l0.length : Int)
   ·rw [if_pos c5] at H
    have c5b0 : decide (x11_1 < (l0.length : Int)) = true := decide_eq_true c5
    clear c5
    by_cases c6 : 0 ≤ x11_1
    ·rw [if_pos c6] at H
     have c6b0 : decide (0 ≤ x11_1) = true := decide_eq_true c6
     clear c6
     by_cases c7 : x11_1 < (l0.length : Int)
     ·rw [if_pos c7] at H
      have c7b0 : decide (x11_1 < (l0.length : Int)) = true := decide_eq_true c7
      clear c7
      replace H := Option.bind_eq_some_iff.mp H
      obtain ⟨t193, A80, H⟩ := H
      replace H : (if x5_1.length < 8796093022208 then (impl_joined.l0 k1 a1 (x5_1 ++ [t193]) l0 (l0.length : Int) (wrap64 (x11_1 + 1))) else (none)) = some r := H
      have A8 := Aside0.mk A80
      clear A80
      by_cases c9 : x5_1.length < 8796093022208
      ·rw [if_pos c9] at H
       have LMc9 := Aside0.mk c9
       clear c9
       obtain ⟨y194, hy194⟩ : ∃ y_ : List ByteArray, y_ = (x5_1 ++ [t193]) := ⟨_, rfl⟩
       replace H : (impl_joined.l0 k1 a1 y194 l0 (l0.length : Int) (wrap64 (x11_1 + 1))) = some r := by first | (rw [hy194]; with_reducible exact H) | (have H2_ := (Option.bind_some _ _).symm.trans H; rw [hy194]; with_reducible exact H2_) | (have H2_ := (Option.bind_some _ _).symm.trans H; with_reducible exact H2_) | with_reducible exact H | (rw [hy194]; exact H) | exact H
       have Ny194 := Aside0.mk hy194
       clear hy194
       have H' := Aside0.mk H
       clear H
       have p192 : 0 ≤ (x11_1 : Int) := of_decide_eq_true (by first | (with_reducible assumption) | assumption)
       have q192 : x11_1 < (l0.length : Int) := of_decide_eq_true (by first | (with_reducible assumption) | assumption)
       obtain ⟨ad192, e192, hx192_0⟩ := Kd.at_int HR0.out x11_1 p192 q192
       cases e192
       replace hx192_0 := (HB.out.cell (World.block_lt_of_cell? w _ hx192_0)).trans hx192_0
       replace p192 := eq_true p192
       replace q192 := eq_true q192
       go_wp2_with (first | ((with_reducible refine gate_callee (f := 92) rfl ?_); refine goesL_ (some 17) rfl rfl Tryd.func92 (by kernel_rfl) rfl #[.int .i64 (rd l0 x11_1)] rfl (by (try simp only [List.map_toArray, List.map_cons, List.map_nil]); first | done | rfl | (simp only [List.length_drop, List.length_take]; rfl)) ?_; (with_reducible refine (strconv_Itoa.calls (rd l0 x11_1) t193 _ A8.out).mono ?_); rintro e w' ⟨rfl, ⟨nd, rfl⟩⟩; refine ⟨_, rfl, ?_⟩) | ((with_reducible refine gate_builtin (b := .append) (xs := #[.tmp 15, .tmp 18]) rfl ?_); at_builtin; refine Kd.R_append Kd.string (w0 := w) w.heap.size rfl (.tmp 15) (.tmp 18) 109 9 (.string ⟨#[]⟩) 16 rfl Tryd.underlying109 info9 rfl (by decide) (by omega) u5 x5_1 t193 [.string t193] (fun _ => True) (fun _ => False) rfl rfl ?aP (fun _ hk => hk.elim) ?aF ?aO ?aB ?aS ?aL ?_; (case aP => exact rfl); (case aB => exact (Lam.al)); (case aF => exact (fun _ _ => trivial)); (case aO => exact (Lam.rq HO_5.out)); (case aS => exact (below_size (Lam.al))); (case aL => have := LMc9.out; omega); intro v195 w10 ho hb hg hat; rw [← Ny194.out] at ho; have n0_ := Aside0.mk (hb); have n1_ := Aside0.mk (ho); clear HB; clear HO_5; have HB := n0_; have HO196 := n1_; clear n0_ n1_; clear ho hb hg hat))
       go_roundg k1
       case measure => have := HK1.out; omega
       case rel => exact ⟨(y194), (wrap64 (x11_1 + 1)), (by first | rfl | (simp; done) | (simp [*]; done)), H', ⟨by have := HK1.out; omega⟩, ⟨Lam.rq HO196.out⟩, ⟨Lam.al⟩⟩
      ·rw [if_neg c9] at H
       exact absurd H (by simp)
     ·rw [if_neg c7] at H
      exact absurd H (by simp)
    ·rw [if_neg c6] at H
     exact absurd H (by simp)
   ·rw [if_neg c5] at H
    have c5b0 : decide (x11_1 < (l0.length : Int)) = false := decide_eq_false c5
    clear c5
    replace H := Option.bind_eq_some_iff.mp H
    obtain ⟨t197, A110, H⟩ := H
    replace H : (some t197) = some r := H
    have A11 := Aside0.mk A110
    clear A110
    obtain rfl := Option.some.inj H
    obtain ⟨Ao12, co12, eo12⟩ := Kd.R_slice HO_5.out
    subst eo12
    go_wp2_with (first | ((with_reducible refine gate_callee (f := 93) rfl ?_); refine goesL_ (some 23) rfl rfl Tryd.func93 (by kernel_rfl) rfl #[.slice Ao12 x5_1.length co12, .string a1] rfl (by (try simp only [List.map_toArray, List.map_cons, List.map_nil]); first | done | rfl | (simp only [List.length_drop, List.length_take]; rfl)) ?_; (with_reducible refine (strings_Join.calls _ _ x5_1 a1 t197 _ ?side1 ?side2 A11.out).mono ?_); (case side1 => repeat (first | exact (Kd.R_reads' HO_5.out).2.2 | (with_reducible refine Kd.C_alloc ?_ _) | (with_reducible refine Kd.C_drewN ?_ _) | (with_reducible refine Kd.C_drew ?_))); (case side2 => exact (Kd.R_reads' HO_5.out).2.1); rintro e w13 ⟨rfl, hb⟩; refine ⟨_, rfl, ?_⟩; have n0_ := Aside0.mk (Kd.R_below (Lam.rq HO_5.out) hb); have n1_ := Aside0.mk (below_step (Lam.al) hb); clear HO_5; clear HB; have HO_5 := n0_; have HB := n1_; clear n0_ n1_; (try clear hb); (try clear hb2); (try clear hk); (try clear hi)))
    go_ret
    exact ⟨by first | rfl | (simp [errW_none, errW_some] <;> rfl) | (simp [*, errW_none, errW_some] <;> rfl), Lam.al⟩

end Go.Proofs.YtdikeggkfkkajaaDoor.PFnExactSolutions
