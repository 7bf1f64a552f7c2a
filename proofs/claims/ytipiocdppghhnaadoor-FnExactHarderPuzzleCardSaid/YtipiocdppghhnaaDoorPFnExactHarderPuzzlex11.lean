-- Made by a program of this session (wip/xprint.py) out of the translation.
import Derived.Test.YtipiocdppghhnaaDoorPFnExactHarderPuzzlex0
import Derived.Test.YtipiocdppghhnaaDoorPFnExactHarderPuzzlex7
import Derived.Test.YtipiocdppghhnaaDoorPFnExactHarderPuzzlex8
import Derived.Test.YtipiocdppghhnaaDoorPFnExactHarderPuzzlex9
import Derived.Test.YtipiocdppghhnaaDoorPFnExactHarderPuzzlex10
namespace Go.Proofs.YtipiocdppghhnaaDoor.PFnExactHarderPuzzle
open Go.RowKit Go.Proofs.YtipiocdppghhnaaDoorW.PrintWords Go.Proofs.YtipiocdppghhnaaDoorW.PrintLast Go.Proofs.YtipiocdppghhnaaDoorW.PrintMore
attribute [local go_sem] max2_int min2_int max_two min_two max_three min_three max_four min_four   -- for this text's walks alone
set_option linter.unusedVariables false
set_option linter.unusedSimpArgs false

/-! ### impl_chomps: function 122 -/
abbrev impl_chomps.SS (gl : Nat) (vt : Value) : Nat → Prop := fun q => q = gl ∨ some q = vt.ownBlock
theorem impl_chomps.notS {W : World} {gl base : Nat} {vt : Value} {acc : List (List Int)} {ok : Nat → Prop} {cx cs : Array Value} {q t : Nat} (hx : W.heap[gl]? = some (.cells cx 67 (0, 0))) (ht : Kd.S (Kd.slice 3 (Kd.int .i64)) 25 W base ok vt acc) (hq : W.heap[q]? = some (.cells cs t (0, 0))) (h1 : t ≠ 67) (h2 : t ≠ 25) : ¬ impl_chomps.SS gl vt q := by
 rintro (rfl | h)
 ·rw [hx] at hq; cases hq; exact h1 rfl
 ·obtain ⟨inner, ho⟩ := Kd.S_own ht
  obtain ⟨cells, hc⟩ := own_typed ho q h.symm
  rw [hc] at hq; cases hq; exact h2 rfl
theorem impl_chomps.keepR {w W : World} {gl base : Nat} {vt vb : Value} {acc : List (List Int)} {bg : List Int} {ok : Nat → Prop} {cx : Array Value} (hx : w.heap[gl]? = some (.cells cx 67 (0, 0))) (ht : Kd.S (Kd.slice 3 (Kd.int .i64)) 25 w base ok vt acc) (hb : Kd.R (Kd.int .i64) 3 w base (fun _ => True) vb bg) (hk : Kq.KQ w W (impl_chomps.SS gl vt)) : Kd.R (Kd.int .i64) 3 W base (fun _ => True) vb bg :=
 Kd.R_mono (Kq.R_kq (Kd.R_bound hb) hk (fun k hk => by
  obtain ⟨_, _, _, q, hq, cells, hc⟩ := hk
  have hq : q = 3 := by simpa [Kd.int, Kd.scalar] using hq
  subst hq
  exact impl_chomps.notS hx ht hc (by decide) (by decide))) (fun _ _ => trivial)
theorem impl_chomps.thenS {w W W2 : World} {gl : Nat} {vt vt1 : Value} (h : Kq.KQ w W (impl_chomps.SS gl vt)) (k : Kq.KQ W W2 (impl_chomps.SS gl vt1)) (hat : vt1.ownBlock = vt.ownBlock ∨ ∃ b, vt1.ownBlock = some b ∧ w.heap.size ≤ b) : Kq.KQ w W2 (impl_chomps.SS gl vt) :=
 h.then_ k (fun q hq => by
  rcases hq with hq | hq
  ·exact .inl (.inl hq)
  ·rcases hat with hat | ⟨b, hb, hle⟩
   ·exact .inl (.inr (by rw [hq, hat]))
   ·rw [hb] at hq; cases hq; exact .inr hle)
theorem impl_chomps.atS {w W : World} {v0 v1 v2 : Value} (h : v1.ownBlock = v0.ownBlock ∨ ∃ b, v1.ownBlock = some b ∧ w.heap.size ≤ b) (hs : w.heap.size ≤ W.heap.size) (k : v2.ownBlock = v1.ownBlock ∨ ∃ b, v2.ownBlock = some b ∧ W.heap.size ≤ b) : v2.ownBlock = v0.ownBlock ∨ ∃ b, v2.ownBlock = some b ∧ w.heap.size ≤ b := by
 rcases k with k | ⟨b, hb, hle⟩
 ·rw [k]; exact h
 ·exact .inr ⟨b, hb, Nat.le_trans hs hle⟩
/-- Rows that are elder than a row made since lie apart from it. -/
theorem impl_chomps.apartS {w W : World} {base : Nat} {vt vb : Value} {acc : List (List Int)} {ok : Nat → Prop} (h : Kd.S (Kd.slice 3 (Kd.int .i64)) 25 w base ok vt acc) (hb : Below w.heap.size w W) (hv : ∀ k, vb.ownBlock = some k → w.heap.size ≤ k) : Kd.S (Kd.slice 3 (Kd.int .i64)) 25 W base (fun q => some q ≠ vb.ownBlock) vt acc :=
 Kd.S_mono (Kd.S_below (Kd.S_bound h) hb) (fun k hk e => by have h1 := hv k e.symm; have h2 := hk.2.2.1; omega)
set_option maxHeartbeats 8000000 in
set_option maxRecDepth 100000 in
theorem impl_chomps.rec : ∀ (k wide : Nat) (bg : List Int) (acc r : List (List Int)) (vb vt : Value) (gl gh ga base hi : Nat) (w : World),
  bg.length + k ≤ 1000 → wide ≤ 1000 → bg.length + k = hi → base ≤ w.heap.size →
  w.heap[gh]? = some (.cells #[.int .i64 (hi : Int)] 3 (0, 0)) → w.heap[ga]? = some (.cells #[.func (.func 145) #[] #[.pointer (some ⟨gl, 0, none⟩), .pointer (some ⟨gh, 0, none⟩), .pointer (some ⟨ga, 0, none⟩)]] 141 (0, 0)) →
  Kd.R (Kd.int .i64) 3 w base (fun _ => True) vb bg → w.heap[gl]? = some (.cells #[vt] 67 (0, 0)) → Kd.S (Kd.slice 3 (Kd.int .i64)) 25 w base (fun q => some q ≠ vb.ownBlock) vt acc →
  Comb.look k wide bg acc = some r →
  Calls Tryd.prog 145 #[vb, .int .i64 wide, .pointer (some ⟨gl, 0, none⟩), .pointer (some ⟨gh, 0, none⟩), .pointer (some ⟨ga, 0, none⟩)] w fun e w' => e = .returned (.tuple #[]) ∧ ∃ vt' : Value, w'.heap[gl]? = some (.cells #[vt'] 67 (0, 0)) ∧ Kd.S (Kd.slice 3 (Kd.int .i64)) 25 w' base (fun _ => True) vt' r ∧ (vt'.ownBlock = vt.ownBlock ∨ ∃ b, vt'.ownBlock = some b ∧ w.heap.size ≤ b) ∧ Kq.KQ w w' (impl_chomps.SS gl vt) := by
 intro k
 induction k with
 | zero =>
  intro wide bg acc r vb vt gl gh ga base hi w hk hwd hhi hbase hgh hga hb hx ht h
  have hu25 := Tryd.underlying25
  have hw64 : (wide : Int) ≤ 9223372036854775806 := by omega
  obtain rfl : hi = bg.length := by omega
  clear hhi
  obtain ⟨Ab, cb, rfl⟩ := Kd.R_slice hb
  obtain ⟨At, ct, rfl⟩ := Kd.S_slice ht
  have hacc : acc.length < 1000000000 := by
   rcases Nat.lt_or_ge acc.length 1000000000 with h2 | h2
   ·exact h2
   ·simp only [Comb.look] at h; rw [if_neg (by omega)] at h; cases h
  simp only [Comb.look] at h
  rw [if_pos hacc] at h
  have hcell : w.cell? ⟨gl, 0, none⟩ = some (.slice At acc.length ct) := (blk_cell hx 0).trans rfl
  have hfroz := blk_frozen hx 0
  have HG := Aside0.mk h
  have HGH := Aside0.mk hgh
  have HGA := Aside0.mk hga
  have hch : w.cell? ⟨gh, 0, none⟩ = some (.int .i64 (bg.length : Int)) := (blk_cell hgh 0).trans rfl
  have HCl := Aside0.mk hacc
  have HX := Aside0.mk hx
  have HRb := Aside0.mk hb
  have HRt := Aside0.mk ht
  have HS := Aside0.mk hbase
  have HL := Aside0.mk hk
  have HW := Aside0.mk hwd
  have hown : slices_Clone_int_int.f bg = some bg := by unfold slices_Clone_int_int.f; rw [if_pos (by omega)]
  have HCALL := Aside0.mk (fun W (hW : Kq.KQ w W (impl_chomps.SS gl (.slice At acc.length ct))) => slices_Clone_int_int.calls Ab cb bg bg W (Kd.R_reads' (impl_chomps.keepR hx ht hb hW)).2.2 (Kd.R_reads' hb).2.1 hown)
  clear hgh hga hx hb ht h hacc hbase hk hown hwd
  rcases Nat.eq_zero_or_pos bg.length with c0 | c0
  ·obtain rfl : bg = [] := List.eq_nil_of_length_eq_zero c0
   have X1 := HX
   have K1 := Aside0.mk (Kq.KQ.refl w (impl_chomps.SS gl (.slice At acc.length ct)))
   have R1 := Aside0.mk (Kd.S_mono HRt.out (fun _ _ => trivial) : Kd.S (Kd.slice 3 (Kd.int .i64)) 25 w base (fun _ => True) (.slice At acc.length ct) acc)
   have HG1 := Aside0.mk (show some (acc) = some r from HG.out)
   clear HG c0 hcell hfroz
   simp only [List.length_nil] at hch ⊢
   go_enter Tryd.func145, Tryd.ntmps145
   go_wp2
   have T1 := Aside0.mk (Or.inl rfl : (Value.slice At acc.length ct).ownBlock = (Value.slice At acc.length ct).ownBlock ∨ ∃ b, (Value.slice At acc.length ct).ownBlock = some b ∧ w.heap.size ≤ b)
   (try simp only [Exit.inBlock, Exit.then])
   refine bodyPost_ret (results_none rfl _ _ _) rfl ?_
   obtain rfl := Option.some.inj HG1.out
   exact ⟨rfl, _, X1.out, R1.out, T1.out, K1.out⟩
  ·have cz : ¬ bg.length = 0 := by omega
   have cp : (0 : Int) < (bg.length : Int) := by omega
   have HG1 := Aside0.mk (show some (acc ++ [bg]) = some r from by have h := HG.out; simp only [Comb.put, if_neg cz] at h; exact h)
   clear HG c0 cz
   go_enter Tryd.func145, Tryd.ntmps145
   go_wp2_with (first
     | ((with_reducible refine gate_builtin (b := .append) (xs := #[.tmp 11, .tmp 13]) rfl ?_); at_builtin; go_loud (refine Kd.S_append (Kd.slice 3 (Kd.int .i64)) (w0 := w) base rfl (.tmp 11) (.tmp 13) 67 25 (.slice none 0 0) 24 rfl Tryd.underlying67 info25 rfl (by decide) (by omega) (.slice At acc.length ct) acc bg [.slice Ab bg.length cb] (fun _ => True) (fun k => some k = (Value.slice Ab bg.length cb).ownBlock) rfl rfl ?aP ?aK (fun _ _ => trivial) ?aO (Below.refl _ _) HS.out ?aL ?_); (case aP => exact Kd.M_row (Kd.R_mono (Kd.R_tight rfl HRb.out) (fun _ h => h))); (case aK => exact fun k hk => (Kd.R_apart' HRb.out (Kd.S_typed HRt.out) (by decide)).1 k hk.symm); (case aO => exact Kd.S_mono HRt.out (fun k hk => ⟨trivial, hk⟩)); (case aL => have := HCl.out; omega); intro v1 w1 ho1 hb1 hg1 hat1; obtain ⟨A1, c1, e1⟩ := Kd.S_slice ho1; rw [List.length_append, List.length_singleton] at e1; subst e1; have x1 := blk_grown HX.out hg1 (Kd.S_ne HRt.out HX.out (by decide)); have hcl1 : w1.cell? ⟨gl, 0, none⟩ = some (.slice At acc.length ct) := (blk_cell x1 0).trans rfl; have hfl1 := blk_frozen x1 0; have X1 := Aside0.mk (blk_put (cs := #[.slice At acc.length ct]) x1 0 (.slice A1 (acc.length + 1) c1) rfl); have R1 := Aside0.mk (Kd.S_set ho1 x1 (by simp [Kd.slice, Kd.int, Kd.scalar]) 0 (.slice A1 (acc.length + 1) c1)); have T1 := Aside0.mk hat1; have K1 : Aside0 (Kq.KQ w (w1.setCell ⟨gl, 0, none⟩ (.slice A1 (acc.length + 1) c1)) (impl_chomps.SS gl (.slice At acc.length ct))) := ⟨Kq.KQ.setCell ⟨⟨hg1.size, fun k hk hs => hg1.block k hk (fun e => hs (.inr e))⟩, hg1.os, hg1.tape, hg1.output⟩ (.inl (.inl rfl)) _⟩; have hcs2 : (w1.setCell ⟨gl, 0, none⟩ (.slice A1 (acc.length + 1) c1)).cell? ⟨gh, 0, none⟩ = some (.int .i64 (bg.length : Int)) := (blk_cell (Kq.blk_kq HGH.out K1.out (impl_chomps.notS HX.out HRt.out HGH.out (by decide) (by decide))) 0).trans rfl; clear hcell hfroz ho1 hb1 hg1 hat1 x1))
   clear hcl1 hfl1 hcs2
   generalize (w1.setCell ⟨gl, 0, none⟩ (.slice A1 (acc.length + 1) c1)) = w2 at X1 R1 T1 K1 ⊢
   (try simp only [Exit.inBlock, Exit.then])
   refine bodyPost_ret (results_none rfl _ _ _) rfl ?_
   obtain rfl := Option.some.inj HG1.out
   exact ⟨rfl, _, X1.out, R1.out, T1.out, K1.out⟩
 | succ k ih =>
  have IH := Aside0.mk ih
  intro wide bg acc r vb vt gl gh ga base hi w hk hwd hhi hbase hgh hga hb hx ht h
  have hu25 := Tryd.underlying25
  have hw64 : (wide : Int) ≤ 9223372036854775806 := by omega
  have hne : ¬ (bg.length : Int) = (hi : Int) := by omega
  have HHI := Aside0.mk hhi
  clear hhi
  obtain ⟨Ab, cb, rfl⟩ := Kd.R_slice hb
  obtain ⟨At, ct, rfl⟩ := Kd.S_slice ht
  have hacc : acc.length < 1000000000 := by
   rcases Nat.lt_or_ge acc.length 1000000000 with h2 | h2
   ·exact h2
   ·simp only [Comb.look] at h; rw [if_neg (by omega)] at h; cases h
  simp only [Comb.look] at h
  rw [if_pos hacc] at h
  have hcell : w.cell? ⟨gl, 0, none⟩ = some (.slice At acc.length ct) := (blk_cell hx 0).trans rfl
  have hfroz := blk_frozen hx 0
  have HG := Aside0.mk h
  have HGH := Aside0.mk hgh
  have HGA := Aside0.mk hga
  have hch : w.cell? ⟨gh, 0, none⟩ = some (.int .i64 (hi : Int)) := (blk_cell hgh 0).trans rfl
  have HCl := Aside0.mk hacc
  have HX := Aside0.mk hx
  have HRb := Aside0.mk hb
  have HRt := Aside0.mk ht
  have HS := Aside0.mk hbase
  have HL := Aside0.mk hk
  have HW := Aside0.mk hwd
  have hown : slices_Clone_int_int.f bg = some bg := by unfold slices_Clone_int_int.f; rw [if_pos (by omega)]
  have HCALL := Aside0.mk (fun W (hW : Kq.KQ w W (impl_chomps.SS gl (.slice At acc.length ct))) => slices_Clone_int_int.calls Ab cb bg bg W (Kd.R_reads' (impl_chomps.keepR hx ht hb hW)).2.2 (Kd.R_reads' hb).2.1 hown)
  clear ih hgh hga hx hb ht h hacc hbase hk hown hwd
  rcases Nat.eq_zero_or_pos bg.length with c0 | c0
  ·obtain rfl : bg = [] := List.eq_nil_of_length_eq_zero c0
   have X1 := HX
   have K1 := Aside0.mk (Kq.KQ.refl w (impl_chomps.SS gl (.slice At acc.length ct)))
   have R1 := Aside0.mk (Kd.S_mono HRt.out (fun _ _ => trivial) : Kd.S (Kd.slice 3 (Kd.int .i64)) 25 w base (fun _ => True) (.slice At acc.length ct) acc)
   have HG1 := Aside0.mk (show Comb.go (Comb.look k) [] wide 1 acc = some r from HG.out)
   clear HG c0 hcell hfroz
   simp only [List.length_nil]
   have hne : ¬ (0 : Int) = (hi : Int) := by simpa using hne
   go_enter Tryd.func145, Tryd.ntmps145
   go_wp2
   have T1 := Aside0.mk (Or.inl rfl : (Value.slice At acc.length ct).ownBlock = (Value.slice At acc.length ct).ownBlock ∨ ∃ b, (Value.slice At acc.length ct).ownBlock = some b ∧ w.heap.size ≤ b)
   go_loopg [7] wide (fun gg v w' => ∃ (kk : Nat) (acc1 : List (List Int)) (vt1 : Value), 1 ≤ kk ∧ kk ≤ wide + 1 ∧ wide + 1 - kk ≤ gg ∧ v = .int .i64 kk ∧ Aside0 (Comb.go (Comb.look k) [] (wide + 1 - kk) kk acc1 = some r) ∧ Aside0 (w'.heap[gl]? = some (.cells #[vt1] 67 (0, 0))) ∧ Aside0 (Kd.S (Kd.slice 3 (Kd.int .i64)) 25 w' base (fun _ => True) vt1 acc1) ∧ Aside0 (vt1.ownBlock = (Value.slice At acc.length ct).ownBlock ∨ ∃ b, vt1.ownBlock = some b ∧ w.heap.size ≤ b) ∧ Aside0 (Kq.KQ w w' (impl_chomps.SS gl (.slice At acc.length ct))))
   case atStart => exact ⟨1, _, _, Nat.le_refl _, by omega, by omega, rfl, ⟨HG1.out⟩, X1, R1, T1, K1⟩
   case round =>
    clear X1 R1 T1 K1 HG1
    obtain ⟨kk, acc1, vt1, hk1, hkk, hgg, rfl, HG, HX1, HR1, HT1, HK1⟩ := hrel
    by_cases hlt : kk ≤ wide
    ·have hltz : (kk : Int) ≤ (wide : Int) := by omega
     obtain ⟨m, hm⟩ : ∃ m, wide + 1 - kk = m + 1 := ⟨wide - kk, by omega⟩
     have H := HG.out
     rw [hm] at H
     simp only [Comb.go] at H
     obtain ⟨t, ht_, H⟩ := Option.bind_eq_some_iff.mp H
     have HT := Aside0.mk ht_
     have HG2 := Aside0.mk H
     clear HG ht_ H
     go_wp2
     have HX8 : wr.drew.heap[gl]? = some (.cells #[vt1] 67 (0, 0)) := HX1.out
     have K8 := Kq.KQ.drew HK1.out
     have R8 := Kd.S_drew HR1.out
     have hca : wr.drew.cell? ⟨ga, 0, none⟩ = some (.func (.func 145) #[] #[.pointer (some ⟨gl, 0, none⟩), .pointer (some ⟨gh, 0, none⟩), .pointer (some ⟨ga, 0, none⟩)]) := (blk_cell (Kq.blk_kq HGA.out K8 (impl_chomps.notS HX.out HRt.out HGA.out (by decide) (by decide))) 0).trans rfl
     refine start_ (n := 8) (S := fun w' => w'.cell? ⟨ga, 0, none⟩ = some (.func (.func 145) #[] #[.pointer (some ⟨gl, 0, none⟩), .pointer (some ⟨gh, 0, none⟩), .pointer (some ⟨ga, 0, none⟩)])) (ds := []) #[false, false, false, false, false, false, false, false] (by kernel_rfl) rfl rfl hca (fun hHeld => ?_)
     generalize wr.drew = we at HX8 K8 R8 hca hHeld ⊢
     refine take_ (i := 0) (N := some 24) (v := ?_) (a' := ?_) #[true, false, false, false, false, false, false, false] rfl rfl (by kernel_rfl) (fun _ _ _ h => h) (Or.inl ⟨by rfl, ?_⟩) hHeld ?_ ?_
     rotate_left
     ·rintro w' s0
      go_simp
      with_reducible rfl
     rotate_left
     ·simp only [Act.put, Lam.pa, Lam.pb, Lam.pc, i64_w, i32_w]
      rfl
     refine pure_ (i := 1) (N := some 25) (v := ?_) (a' := ?_) #[true, true, false, false, false, false, false, false] rfl rfl (by kernel_rfl) (fun _ _ _ h => h) (Or.inl ⟨by rfl, ?_⟩) ?_ ?_
     rotate_left
     ·intro w'
      go_simp
      with_reducible rfl
     rotate_left
     ·simp only [Act.put, Lam.pa, Lam.pb, Lam.pc, i64_w, i32_w]
      rfl
     refine pure_ (i := 3) (N := some 27) (v := ?_) (a' := ?_) #[true, true, false, true, false, false, false, false] rfl rfl (by kernel_rfl) (fun _ _ _ h => h) (Or.inl ⟨by rfl, ?_⟩) ?_ ?_
     rotate_left
     ·intro w'
      go_simp
      with_reducible rfl
     rotate_left
     ·simp only [Act.put, Lam.pa, Lam.pb, Lam.pc, i64_w, i32_w]
      rfl
     refine pure_ (i := 6) (N := some 30) (v := ?_) (a' := ?_) #[true, true, false, true, false, false, true, false] rfl rfl (by kernel_rfl) (fun _ _ _ h => h) (Or.inl ⟨by rfl, ?_⟩) ?_ ?_
     rotate_left
     ·intro w'
      go_simp
      with_reducible rfl
     rotate_left
     ·simp only [Act.put, Lam.pa, Lam.pb, Lam.pc, i64_w, i32_w]
      rfl
     refine join_ (σ := Value × Value) 2 #[true, true, true, true, true, false, true, false] (fun s_ => [(26, s_.1), (28, s_.2)]) (fun s_ w' => (w'.cell? ⟨ga, 0, none⟩ = some (.func (.func 145) #[] #[.pointer (some ⟨gl, 0, none⟩), .pointer (some ⟨gh, 0, none⟩), .pointer (some ⟨ga, 0, none⟩)])) ∧ (Kd.R (Kd.int .i64) 3 w' we.heap.size (fun q => some q ≠ (s_.2 : Value).ownBlock) s_.1 []) ∧ (Kd.R (Kd.int .i64) 3 w' we.heap.size (fun _ => True) s_.2 [(kk : Int)]) ∧ Below we.heap.size we w') ?_ ?_
     rotate_left
     ·intro hCont
      refine two_ (i := 2) (j := 4) (Ni := some 26) (Nj := some 28) #[true, true, true, true, false, false, true, false] #[true, true, false, true, true, false, true, false] rfl rfl rfl rfl (by kernel_rfl) (by decide) (by decide) (fun K hK => ?_) (fun K hK => ?_)
      ·refine goes_ Tryd.func129 (by kernel_rfl) rfl #[.slice Ab 0 cb] (by rfl) rfl rfl (by (try simp only [List.map_toArray, List.map_cons, List.map_nil]); first | done | rfl | (simp [Act.eval]; done)) ?_
       refine (HCALL.out _ K8).mono ?_
       rintro e wo ⟨vo, rfl, ho, hb⟩
       refine ⟨_, rfl, ?_⟩
       have hca2 := (hb.cell (World.block_lt_of_cell? we _ hca)).trans hca
       refine hK.out _ _ hca2 (fun hHeld => ?_)
       clear hK K
       refine norm_ (a' := ?_) ?_ ?_
       rotate_left
       ·show Act.put _ (some 26) _ = _
        simp only [Act.put, Lam.pa, Lam.pb, Lam.pc, i64_w, i32_w]
        rfl
       refine one_ (i := 4) (N := some 28) #[true, true, true, true, true, false, true, false] rfl rfl (by kernel_rfl) (by decide) (fun K hK => ?_)
       refine Kd.R_lit_step (Kd.int .i64) (w0 := wo) wo.heap.size 3 ?hg (N := 28) ?hd (xs := [(kk : Int)]) (inner := [.int .i64 (kk : Int)]) (ok := fun _ => True) (okp := fun _ => True) ?hr ?hp (fun _ hk => hk) trivial (Below.refl _ _) (Nat.le_refl _) (by simp) ?_
       case hd => rfl
       case hg => rfl
       case hr => first | (go_simp; done) | (go_simp; rfl)
       case hp => exact (Reps.snoc (Reps.none _ _) (p := (kk : Int)) (c := [.int .i64 (kk : Int)]) rfl rfl)
       intro vl wl hl hb2 hg_ hnew_
       obtain ⟨ob, hob1, hob2⟩ := hnew_
       have hca3 := (hb2.cell (World.block_lt_of_cell? wo _ hca2)).trans hca2
       refine hK.out _ _ hca3 (fun hHeld => ?_)
       clear hK K
       refine norm_ (a' := ?_) ?_ ?_
       rotate_left
       ·show Act.put _ (some 28) _ = _
        simp only [Act.put, Lam.pa, Lam.pb, Lam.pc, i64_w, i32_w]
        rfl
       exact norm_ (by simp only [putAll, Act.put, Lam.pa, Lam.pb, Lam.pc]) (hCont (vo, vl) _ ⟨hca3, Kd.R_below (Kd.R_mono (Kd.R_bound ho) (fun q hq => by rw [hob1]; intro he; injection he with he; have := hq.2.2.1; omega)) hb2, Kd.R_lower hl hb.size, below_step hb hb2⟩)
      ·
       refine Kd.R_lit_step (Kd.int .i64) (w0 := we) we.heap.size 3 ?hg (N := 28) ?hd (xs := [(kk : Int)]) (inner := [.int .i64 (kk : Int)]) (ok := fun _ => True) (okp := fun _ => True) ?hr ?hp (fun _ hk => hk) trivial (Below.refl _ _) (Nat.le_refl _) (by simp) ?_
       case hd => rfl
       case hg => rfl
       case hr => first | (go_simp; done) | (go_simp; rfl)
       case hp => exact (Reps.snoc (Reps.none _ _) (p := (kk : Int)) (c := [.int .i64 (kk : Int)]) rfl rfl)
       intro vl wl hl hb2 hg_ hnew_
       have hca3 := (hb2.cell (World.block_lt_of_cell? we _ hca)).trans hca
       refine hK.out _ _ hca3 (fun hHeld => ?_)
       clear hK K
       refine norm_ (a' := ?_) ?_ ?_
       rotate_left
       ·show Act.put _ (some 28) _ = _
        simp only [Act.put, Lam.pa, Lam.pb, Lam.pc, i64_w, i32_w]
        rfl
       refine one_ (i := 2) (N := some 26) #[true, true, true, true, true, false, true, false] rfl rfl (by kernel_rfl) (by decide) (fun K hK => ?_)
       refine goes_ Tryd.func129 (by kernel_rfl) rfl #[.slice Ab 0 cb] (by rfl) rfl rfl (by (try simp only [List.map_toArray, List.map_cons, List.map_nil]); first | done | rfl | (simp [Act.eval]; done)) ?_
       refine (HCALL.out _ (K8.below hb2)).mono ?_
       rintro e wo ⟨vo, rfl, ho, hb⟩
       refine ⟨_, rfl, ?_⟩
       have hca2 := (hb.cell (World.block_lt_of_cell? wl _ hca3)).trans hca3
       refine hK.out _ _ hca2 (fun hHeld => ?_)
       clear hK K
       refine norm_ (a' := ?_) ?_ ?_
       rotate_left
       ·show Act.put _ (some 26) _ = _
        simp only [Act.put, Lam.pa, Lam.pb, Lam.pc, i64_w, i32_w]
        rfl
       exact norm_ (by simp only [putAll, Act.put, Lam.pa, Lam.pb, Lam.pc]) (hCont (vo, vl) _ ⟨hca2, Kd.R_lower (Kd.R_mono (Kd.R_bound ho) (fun q hq he => by have h1 := Kd.R_lt hl _ he.symm; have := hq.2.1; omega)) hb2.size, Kd.R_below hl hb, below_step hb2 hb⟩)
     rintro ⟨vo, vl⟩ wj ⟨hHeld, ho, hl, hb⟩
     obtain ⟨Al, cl, el⟩ := Kd.R_slice hl
     have el2 : vl = .slice Al [(kk : Int)].length cl := el
     dsimp only at ho hl
     refine norm_ (a' := ?_) ?_ ?_
     rotate_left
     ·simp only [putAll, Act.put, Lam.pa, Lam.pb, Lam.pc]
      rfl
     subst el2
     refine one_ (i := 5) (N := some 29) #[true, true, true, true, true, true, true, false] rfl rfl (by kernel_rfl) (by decide) (fun K hK => ?_)
     refine Kd.R_append_rows_step (Kd.int .i64) (w0 := we) we.heap.size (by rfl) (.tmp 26) (.tmp 28) 25 3 (.int .i64 0) 8 rfl hu25 info3 rfl (by decide) (by omega) vo [] [(kk : Int)] Al _ _ (fun q => some q ≠ (Value.slice Al [(kk : Int)].length cl).ownBlock) (fun _ => False) rfl rfl ho (Kd.R_reads' hl).2.2 (fun _ _ h => h) (fun _ h => h.elim) ?aF hb hb.size ?aL ?_
     case aF => exact fun q hq he => by have h1 := Kd.R_lt hl _ he.symm; omega
     case aL => have := HL.out; simp only [List.length_singleton]; omega
     intro v1 w3 ho1 hb3 hg1 hat1
     have K3 := Kq.KQ.below K8 hb3
     have RN := Kd.R_mono (ok' := fun _ => True) ho1 (fun _ _ => trivial)
     have hca4 : w3.cell? ⟨ga, 0, none⟩ = some (.func (.func 145) #[] #[.pointer (some ⟨gl, 0, none⟩), .pointer (some ⟨gh, 0, none⟩), .pointer (some ⟨ga, 0, none⟩)]) := (hb3.cell (World.block_lt_of_cell? we _ hca)).trans hca
     refine hK.out _ _ hca4 (fun hHeld => ?_)
     clear hK K
     refine norm_ (a' := ?_) ?_ ?_
     rotate_left
     ·show Act.put _ (some 29) _ = _
      simp only [Act.put, Lam.pa, Lam.pb, Lam.pc, i64_w, i32_w]
      rfl
     refine one_ (i := 7) (N := some 31) #[true, true, true, true, true, true, true, true] rfl rfl (by kernel_rfl) (by decide) (fun K hK => ?_)
     refine Kq.goesV_ (x := .tmp 24) (lb := #[.pointer (some ⟨gl, 0, none⟩), .pointer (some ⟨gh, 0, none⟩), .pointer (some ⟨ga, 0, none⟩)]) Tryd.func145 (by kernel_rfl) rfl #[v1, .int .i64 (kk : Int), .pointer (some ⟨gl, 0, none⟩), .pointer (some ⟨gh, 0, none⟩), .pointer (some ⟨ga, 0, none⟩)] (by rfl) rfl rfl rfl (by (try simp only [List.map_toArray, List.map_cons, List.map_nil]); first | done | rfl | (simp [Act.eval]; done)) ?_
     refine (IH.out kk ([] ++ [(kk : Int)]) acc1 t v1 vt1 gl gh ga base hi w3 (by have := HL.out; simp only [List.length_append, List.length_singleton]; omega) (by have := HW.out; omega) (by have := HHI.out; simp only [List.length_append, List.length_singleton]; omega) (Nat.le_trans HS.out K3.size) (Kq.blk_kq HGH.out K3 (impl_chomps.notS HX.out HRt.out HGH.out (by decide) (by decide))) (Kq.blk_kq HGA.out K3 (impl_chomps.notS HX.out HRt.out HGA.out (by decide) (by decide))) (Kd.R_lower RN (Nat.le_trans HS.out K8.size)) (blk_below HX8 hb3) (impl_chomps.apartS R8 hb3 (Kd.R_base RN)) HT.out).mono ?_
     rintro e w5 ⟨rfl, vt2, hx5, hr5, ht5, hk5⟩
     refine ⟨_, rfl, ?_⟩
     have hca5 : w5.cell? ⟨ga, 0, none⟩ = some (.func (.func 145) #[] #[.pointer (some ⟨gl, 0, none⟩), .pointer (some ⟨gh, 0, none⟩), .pointer (some ⟨ga, 0, none⟩)]) := by
      have h1 := Kq.blk_kq HGA.out K3 (impl_chomps.notS HX.out HRt.out HGA.out (by decide) (by decide))
      exact (blk_cell (Kq.blk_kq h1 hk5 (impl_chomps.notS (blk_below HX8 hb3) (Kd.S_below R8 hb3) h1 (by decide) (by decide))) 0).trans rfl
     refine hK.out _ _ hca5 (fun hHeld => ?_)
     clear hK K
     refine norm_ (a' := ?_) ?_ ?_
     rotate_left
     ·show Act.put _ (some 31) _ = _
      simp only [Act.put, Lam.pa, Lam.pb, Lam.pc, i64_w, i32_w]
      rfl
     refine done_ (by kernel_rfl) ?_
     have HX2 := Aside0.mk hx5
     have HR2 := Aside0.mk hr5
     have HT2 := Aside0.mk (impl_chomps.atS HT1.out K3.size ht5)
     have HK2 := Aside0.mk (impl_chomps.thenS K3 hk5 HT1.out)
     clear hHeld hca hca4 hca5 hx5 hr5 ht5 hk5 HX8 K8 R8 K3 RN ho1 hb3 hg1 hat1 ho hl hb HX1 HR1 HK1
     go_wp2
     go_roundg (wide + 1 - (kk + 1))
     case measure => omega
     case rel => exact ⟨kk + 1, t, vt2, by omega, by omega, by omega, by go_num, ⟨by rw [show wide + 1 - (kk + 1) = m by omega]; exact HG2.out⟩, HX2, HR2, HT2, HK2⟩
    ·obtain rfl : kk = wide + 1 := by omega
     have H := HG.out
     rw [Nat.sub_self] at H
     simp only [Comb.go] at H
     obtain rfl := Option.some.inj H
     clear HG H
     have hltz : ¬ ((wide + 1 : Nat) : Int) ≤ (wide : Int) := by omega
     go_wp2
     go_end0
     exact ⟨rfl, vt1, HX1.out, HR1.out, HT1.out, HK1.out⟩
  ·have cz : ¬ bg.length = 0 := by omega
   have cp : (0 : Int) < (bg.length : Int) := by omega
   have HG1 := Aside0.mk (show Comb.go (Comb.look k) bg wide 1 (acc ++ [bg]) = some r from by have h := HG.out; simp only [Comb.put, if_neg cz] at h; exact h)
   clear HG c0 cz
   go_enter Tryd.func145, Tryd.ntmps145
   go_wp2_with (first
     | ((with_reducible refine gate_builtin (b := .append) (xs := #[.tmp 11, .tmp 13]) rfl ?_); at_builtin; go_loud (refine Kd.S_append (Kd.slice 3 (Kd.int .i64)) (w0 := w) base rfl (.tmp 11) (.tmp 13) 67 25 (.slice none 0 0) 24 rfl Tryd.underlying67 info25 rfl (by decide) (by omega) (.slice At acc.length ct) acc bg [.slice Ab bg.length cb] (fun _ => True) (fun k => some k = (Value.slice Ab bg.length cb).ownBlock) rfl rfl ?aP ?aK (fun _ _ => trivial) ?aO (Below.refl _ _) HS.out ?aL ?_); (case aP => exact Kd.M_row (Kd.R_mono (Kd.R_tight rfl HRb.out) (fun _ h => h))); (case aK => exact fun k hk => (Kd.R_apart' HRb.out (Kd.S_typed HRt.out) (by decide)).1 k hk.symm); (case aO => exact Kd.S_mono HRt.out (fun k hk => ⟨trivial, hk⟩)); (case aL => have := HCl.out; omega); intro v1 w1 ho1 hb1 hg1 hat1; obtain ⟨A1, c1, e1⟩ := Kd.S_slice ho1; rw [List.length_append, List.length_singleton] at e1; subst e1; have x1 := blk_grown HX.out hg1 (Kd.S_ne HRt.out HX.out (by decide)); have hcl1 : w1.cell? ⟨gl, 0, none⟩ = some (.slice At acc.length ct) := (blk_cell x1 0).trans rfl; have hfl1 := blk_frozen x1 0; have X1 := Aside0.mk (blk_put (cs := #[.slice At acc.length ct]) x1 0 (.slice A1 (acc.length + 1) c1) rfl); have R1 := Aside0.mk (Kd.S_set ho1 x1 (by simp [Kd.slice, Kd.int, Kd.scalar]) 0 (.slice A1 (acc.length + 1) c1)); have T1 := Aside0.mk hat1; have K1 : Aside0 (Kq.KQ w (w1.setCell ⟨gl, 0, none⟩ (.slice A1 (acc.length + 1) c1)) (impl_chomps.SS gl (.slice At acc.length ct))) := ⟨Kq.KQ.setCell ⟨⟨hg1.size, fun k hk hs => hg1.block k hk (fun e => hs (.inr e))⟩, hg1.os, hg1.tape, hg1.output⟩ (.inl (.inl rfl)) _⟩; have hcs2 : (w1.setCell ⟨gl, 0, none⟩ (.slice A1 (acc.length + 1) c1)).cell? ⟨gh, 0, none⟩ = some (.int .i64 (hi : Int)) := (blk_cell (Kq.blk_kq HGH.out K1.out (impl_chomps.notS HX.out HRt.out HGH.out (by decide) (by decide))) 0).trans rfl; clear hcell hfroz ho1 hb1 hg1 hat1 x1))
   clear hcl1 hfl1 hcs2
   generalize (w1.setCell ⟨gl, 0, none⟩ (.slice A1 (acc.length + 1) c1)) = w2 at X1 R1 T1 K1 ⊢
   go_loopg [7] wide (fun gg v w' => ∃ (kk : Nat) (acc1 : List (List Int)) (vt1 : Value), 1 ≤ kk ∧ kk ≤ wide + 1 ∧ wide + 1 - kk ≤ gg ∧ v = .int .i64 kk ∧ Aside0 (Comb.go (Comb.look k) bg (wide + 1 - kk) kk acc1 = some r) ∧ Aside0 (w'.heap[gl]? = some (.cells #[vt1] 67 (0, 0))) ∧ Aside0 (Kd.S (Kd.slice 3 (Kd.int .i64)) 25 w' base (fun _ => True) vt1 acc1) ∧ Aside0 (vt1.ownBlock = (Value.slice At acc.length ct).ownBlock ∨ ∃ b, vt1.ownBlock = some b ∧ w.heap.size ≤ b) ∧ Aside0 (Kq.KQ w w' (impl_chomps.SS gl (.slice At acc.length ct))))
   case atStart => exact ⟨1, _, _, Nat.le_refl _, by omega, by omega, rfl, ⟨HG1.out⟩, X1, R1, T1, K1⟩
   case round =>
    clear X1 R1 T1 K1 HG1
    obtain ⟨kk, acc1, vt1, hk1, hkk, hgg, rfl, HG, HX1, HR1, HT1, HK1⟩ := hrel
    by_cases hlt : kk ≤ wide
    ·have hltz : (kk : Int) ≤ (wide : Int) := by omega
     obtain ⟨m, hm⟩ : ∃ m, wide + 1 - kk = m + 1 := ⟨wide - kk, by omega⟩
     have H := HG.out
     rw [hm] at H
     simp only [Comb.go] at H
     obtain ⟨t, ht_, H⟩ := Option.bind_eq_some_iff.mp H
     have HT := Aside0.mk ht_
     have HG2 := Aside0.mk H
     clear HG ht_ H
     go_wp2
     have HX8 : wr.drew.heap[gl]? = some (.cells #[vt1] 67 (0, 0)) := HX1.out
     have K8 := Kq.KQ.drew HK1.out
     have R8 := Kd.S_drew HR1.out
     have hca : wr.drew.cell? ⟨ga, 0, none⟩ = some (.func (.func 145) #[] #[.pointer (some ⟨gl, 0, none⟩), .pointer (some ⟨gh, 0, none⟩), .pointer (some ⟨ga, 0, none⟩)]) := (blk_cell (Kq.blk_kq HGA.out K8 (impl_chomps.notS HX.out HRt.out HGA.out (by decide) (by decide))) 0).trans rfl
     refine start_ (n := 8) (S := fun w' => w'.cell? ⟨ga, 0, none⟩ = some (.func (.func 145) #[] #[.pointer (some ⟨gl, 0, none⟩), .pointer (some ⟨gh, 0, none⟩), .pointer (some ⟨ga, 0, none⟩)])) (ds := []) #[false, false, false, false, false, false, false, false] (by kernel_rfl) rfl rfl hca (fun hHeld => ?_)
     generalize wr.drew = we at HX8 K8 R8 hca hHeld ⊢
     refine take_ (i := 0) (N := some 24) (v := ?_) (a' := ?_) #[true, false, false, false, false, false, false, false] rfl rfl (by kernel_rfl) (fun _ _ _ h => h) (Or.inl ⟨by rfl, ?_⟩) hHeld ?_ ?_
     rotate_left
     ·rintro w' s0
      go_simp
      with_reducible rfl
     rotate_left
     ·simp only [Act.put, Lam.pa, Lam.pb, Lam.pc, i64_w, i32_w]
      rfl
     refine pure_ (i := 1) (N := some 25) (v := ?_) (a' := ?_) #[true, true, false, false, false, false, false, false] rfl rfl (by kernel_rfl) (fun _ _ _ h => h) (Or.inl ⟨by rfl, ?_⟩) ?_ ?_
     rotate_left
     ·intro w'
      go_simp
      with_reducible rfl
     rotate_left
     ·simp only [Act.put, Lam.pa, Lam.pb, Lam.pc, i64_w, i32_w]
      rfl
     refine pure_ (i := 3) (N := some 27) (v := ?_) (a' := ?_) #[true, true, false, true, false, false, false, false] rfl rfl (by kernel_rfl) (fun _ _ _ h => h) (Or.inl ⟨by rfl, ?_⟩) ?_ ?_
     rotate_left
     ·intro w'
      go_simp
      with_reducible rfl
     rotate_left
     ·simp only [Act.put, Lam.pa, Lam.pb, Lam.pc, i64_w, i32_w]
      rfl
     refine pure_ (i := 6) (N := some 30) (v := ?_) (a' := ?_) #[true, true, false, true, false, false, true, false] rfl rfl (by kernel_rfl) (fun _ _ _ h => h) (Or.inl ⟨by rfl, ?_⟩) ?_ ?_
     rotate_left
     ·intro w'
      go_simp
      with_reducible rfl
     rotate_left
     ·simp only [Act.put, Lam.pa, Lam.pb, Lam.pc, i64_w, i32_w]
      rfl
     refine join_ (σ := Value × Value) 2 #[true, true, true, true, true, false, true, false] (fun s_ => [(26, s_.1), (28, s_.2)]) (fun s_ w' => (w'.cell? ⟨ga, 0, none⟩ = some (.func (.func 145) #[] #[.pointer (some ⟨gl, 0, none⟩), .pointer (some ⟨gh, 0, none⟩), .pointer (some ⟨ga, 0, none⟩)])) ∧ (Kd.R (Kd.int .i64) 3 w' we.heap.size (fun q => some q ≠ (s_.2 : Value).ownBlock) s_.1 bg) ∧ (Kd.R (Kd.int .i64) 3 w' we.heap.size (fun _ => True) s_.2 [(kk : Int)]) ∧ Below we.heap.size we w') ?_ ?_
     rotate_left
     ·intro hCont
      refine two_ (i := 2) (j := 4) (Ni := some 26) (Nj := some 28) #[true, true, true, true, false, false, true, false] #[true, true, false, true, true, false, true, false] rfl rfl rfl rfl (by kernel_rfl) (by decide) (by decide) (fun K hK => ?_) (fun K hK => ?_)
      ·refine goes_ Tryd.func129 (by kernel_rfl) rfl #[.slice Ab bg.length cb] (by rfl) rfl rfl (by (try simp only [List.map_toArray, List.map_cons, List.map_nil]); first | done | rfl | (simp [Act.eval]; done)) ?_
       refine (HCALL.out _ K8).mono ?_
       rintro e wo ⟨vo, rfl, ho, hb⟩
       refine ⟨_, rfl, ?_⟩
       have hca2 := (hb.cell (World.block_lt_of_cell? we _ hca)).trans hca
       refine hK.out _ _ hca2 (fun hHeld => ?_)
       clear hK K
       refine norm_ (a' := ?_) ?_ ?_
       rotate_left
       ·show Act.put _ (some 26) _ = _
        simp only [Act.put, Lam.pa, Lam.pb, Lam.pc, i64_w, i32_w]
        rfl
       refine one_ (i := 4) (N := some 28) #[true, true, true, true, true, false, true, false] rfl rfl (by kernel_rfl) (by decide) (fun K hK => ?_)
       refine Kd.R_lit_step (Kd.int .i64) (w0 := wo) wo.heap.size 3 ?hg (N := 28) ?hd (xs := [(kk : Int)]) (inner := [.int .i64 (kk : Int)]) (ok := fun _ => True) (okp := fun _ => True) ?hr ?hp (fun _ hk => hk) trivial (Below.refl _ _) (Nat.le_refl _) (by simp) ?_
       case hd => rfl
       case hg => rfl
       case hr => first | (go_simp; done) | (go_simp; rfl)
       case hp => exact (Reps.snoc (Reps.none _ _) (p := (kk : Int)) (c := [.int .i64 (kk : Int)]) rfl rfl)
       intro vl wl hl hb2 hg_ hnew_
       obtain ⟨ob, hob1, hob2⟩ := hnew_
       have hca3 := (hb2.cell (World.block_lt_of_cell? wo _ hca2)).trans hca2
       refine hK.out _ _ hca3 (fun hHeld => ?_)
       clear hK K
       refine norm_ (a' := ?_) ?_ ?_
       rotate_left
       ·show Act.put _ (some 28) _ = _
        simp only [Act.put, Lam.pa, Lam.pb, Lam.pc, i64_w, i32_w]
        rfl
       exact norm_ (by simp only [putAll, Act.put, Lam.pa, Lam.pb, Lam.pc]) (hCont (vo, vl) _ ⟨hca3, Kd.R_below (Kd.R_mono (Kd.R_bound ho) (fun q hq => by rw [hob1]; intro he; injection he with he; have := hq.2.2.1; omega)) hb2, Kd.R_lower hl hb.size, below_step hb hb2⟩)
      ·
       refine Kd.R_lit_step (Kd.int .i64) (w0 := we) we.heap.size 3 ?hg (N := 28) ?hd (xs := [(kk : Int)]) (inner := [.int .i64 (kk : Int)]) (ok := fun _ => True) (okp := fun _ => True) ?hr ?hp (fun _ hk => hk) trivial (Below.refl _ _) (Nat.le_refl _) (by simp) ?_
       case hd => rfl
       case hg => rfl
       case hr => first | (go_simp; done) | (go_simp; rfl)
       case hp => exact (Reps.snoc (Reps.none _ _) (p := (kk : Int)) (c := [.int .i64 (kk : Int)]) rfl rfl)
       intro vl wl hl hb2 hg_ hnew_
       have hca3 := (hb2.cell (World.block_lt_of_cell? we _ hca)).trans hca
       refine hK.out _ _ hca3 (fun hHeld => ?_)
       clear hK K
       refine norm_ (a' := ?_) ?_ ?_
       rotate_left
       ·show Act.put _ (some 28) _ = _
        simp only [Act.put, Lam.pa, Lam.pb, Lam.pc, i64_w, i32_w]
        rfl
       refine one_ (i := 2) (N := some 26) #[true, true, true, true, true, false, true, false] rfl rfl (by kernel_rfl) (by decide) (fun K hK => ?_)
       refine goes_ Tryd.func129 (by kernel_rfl) rfl #[.slice Ab bg.length cb] (by rfl) rfl rfl (by (try simp only [List.map_toArray, List.map_cons, List.map_nil]); first | done | rfl | (simp [Act.eval]; done)) ?_
       refine (HCALL.out _ (K8.below hb2)).mono ?_
       rintro e wo ⟨vo, rfl, ho, hb⟩
       refine ⟨_, rfl, ?_⟩
       have hca2 := (hb.cell (World.block_lt_of_cell? wl _ hca3)).trans hca3
       refine hK.out _ _ hca2 (fun hHeld => ?_)
       clear hK K
       refine norm_ (a' := ?_) ?_ ?_
       rotate_left
       ·show Act.put _ (some 26) _ = _
        simp only [Act.put, Lam.pa, Lam.pb, Lam.pc, i64_w, i32_w]
        rfl
       exact norm_ (by simp only [putAll, Act.put, Lam.pa, Lam.pb, Lam.pc]) (hCont (vo, vl) _ ⟨hca2, Kd.R_lower (Kd.R_mono (Kd.R_bound ho) (fun q hq he => by have h1 := Kd.R_lt hl _ he.symm; have := hq.2.1; omega)) hb2.size, Kd.R_below hl hb, below_step hb2 hb⟩)
     rintro ⟨vo, vl⟩ wj ⟨hHeld, ho, hl, hb⟩
     obtain ⟨Al, cl, el⟩ := Kd.R_slice hl
     have el2 : vl = .slice Al [(kk : Int)].length cl := el
     dsimp only at ho hl
     refine norm_ (a' := ?_) ?_ ?_
     rotate_left
     ·simp only [putAll, Act.put, Lam.pa, Lam.pb, Lam.pc]
      rfl
     subst el2
     refine one_ (i := 5) (N := some 29) #[true, true, true, true, true, true, true, false] rfl rfl (by kernel_rfl) (by decide) (fun K hK => ?_)
     refine Kd.R_append_rows_step (Kd.int .i64) (w0 := we) we.heap.size (by rfl) (.tmp 26) (.tmp 28) 25 3 (.int .i64 0) 8 rfl hu25 info3 rfl (by decide) (by omega) vo bg [(kk : Int)] Al _ _ (fun q => some q ≠ (Value.slice Al [(kk : Int)].length cl).ownBlock) (fun _ => False) rfl rfl ho (Kd.R_reads' hl).2.2 (fun _ _ h => h) (fun _ h => h.elim) ?aF hb hb.size ?aL ?_
     case aF => exact fun q hq he => by have h1 := Kd.R_lt hl _ he.symm; omega
     case aL => have := HL.out; simp only [List.length_singleton]; omega
     intro v1 w3 ho1 hb3 hg1 hat1
     have K3 := Kq.KQ.below K8 hb3
     have RN := Kd.R_mono (ok' := fun _ => True) ho1 (fun _ _ => trivial)
     have hca4 : w3.cell? ⟨ga, 0, none⟩ = some (.func (.func 145) #[] #[.pointer (some ⟨gl, 0, none⟩), .pointer (some ⟨gh, 0, none⟩), .pointer (some ⟨ga, 0, none⟩)]) := (hb3.cell (World.block_lt_of_cell? we _ hca)).trans hca
     refine hK.out _ _ hca4 (fun hHeld => ?_)
     clear hK K
     refine norm_ (a' := ?_) ?_ ?_
     rotate_left
     ·show Act.put _ (some 29) _ = _
      simp only [Act.put, Lam.pa, Lam.pb, Lam.pc, i64_w, i32_w]
      rfl
     refine one_ (i := 7) (N := some 31) #[true, true, true, true, true, true, true, true] rfl rfl (by kernel_rfl) (by decide) (fun K hK => ?_)
     refine Kq.goesV_ (x := .tmp 24) (lb := #[.pointer (some ⟨gl, 0, none⟩), .pointer (some ⟨gh, 0, none⟩), .pointer (some ⟨ga, 0, none⟩)]) Tryd.func145 (by kernel_rfl) rfl #[v1, .int .i64 (kk : Int), .pointer (some ⟨gl, 0, none⟩), .pointer (some ⟨gh, 0, none⟩), .pointer (some ⟨ga, 0, none⟩)] (by rfl) rfl rfl rfl (by (try simp only [List.map_toArray, List.map_cons, List.map_nil]); first | done | rfl | (simp [Act.eval]; done)) ?_
     refine (IH.out kk (bg ++ [(kk : Int)]) acc1 t v1 vt1 gl gh ga base hi w3 (by have := HL.out; simp only [List.length_append, List.length_singleton]; omega) (by have := HW.out; omega) (by have := HHI.out; simp only [List.length_append, List.length_singleton]; omega) (Nat.le_trans HS.out K3.size) (Kq.blk_kq HGH.out K3 (impl_chomps.notS HX.out HRt.out HGH.out (by decide) (by decide))) (Kq.blk_kq HGA.out K3 (impl_chomps.notS HX.out HRt.out HGA.out (by decide) (by decide))) (Kd.R_lower RN (Nat.le_trans HS.out K8.size)) (blk_below HX8 hb3) (impl_chomps.apartS R8 hb3 (Kd.R_base RN)) HT.out).mono ?_
     rintro e w5 ⟨rfl, vt2, hx5, hr5, ht5, hk5⟩
     refine ⟨_, rfl, ?_⟩
     have hca5 : w5.cell? ⟨ga, 0, none⟩ = some (.func (.func 145) #[] #[.pointer (some ⟨gl, 0, none⟩), .pointer (some ⟨gh, 0, none⟩), .pointer (some ⟨ga, 0, none⟩)]) := by
      have h1 := Kq.blk_kq HGA.out K3 (impl_chomps.notS HX.out HRt.out HGA.out (by decide) (by decide))
      exact (blk_cell (Kq.blk_kq h1 hk5 (impl_chomps.notS (blk_below HX8 hb3) (Kd.S_below R8 hb3) h1 (by decide) (by decide))) 0).trans rfl
     refine hK.out _ _ hca5 (fun hHeld => ?_)
     clear hK K
     refine norm_ (a' := ?_) ?_ ?_
     rotate_left
     ·show Act.put _ (some 31) _ = _
      simp only [Act.put, Lam.pa, Lam.pb, Lam.pc, i64_w, i32_w]
      rfl
     refine done_ (by kernel_rfl) ?_
     have HX2 := Aside0.mk hx5
     have HR2 := Aside0.mk hr5
     have HT2 := Aside0.mk (impl_chomps.atS HT1.out K3.size ht5)
     have HK2 := Aside0.mk (impl_chomps.thenS K3 hk5 HT1.out)
     clear hHeld hca hca4 hca5 hx5 hr5 ht5 hk5 HX8 K8 R8 K3 RN ho1 hb3 hg1 hat1 ho hl hb HX1 HR1 HK1
     go_wp2
     go_roundg (wide + 1 - (kk + 1))
     case measure => omega
     case rel => exact ⟨kk + 1, t, vt2, by omega, by omega, by omega, by go_num, ⟨by rw [show wide + 1 - (kk + 1) = m by omega]; exact HG2.out⟩, HX2, HR2, HT2, HK2⟩
    ·obtain rfl : kk = wide + 1 := by omega
     have H := HG.out
     rw [Nat.sub_self] at H
     simp only [Comb.go] at H
     obtain rfl := Option.some.inj H
     clear HG H
     have hltz : ¬ ((wide + 1 : Nat) : Int) ≤ (wide : Int) := by omega
     go_wp2
     go_end0
     exact ⟨rfl, vt1, HX1.out, HR1.out, HT1.out, HK1.out⟩
def impl_chomps.f (a0 : Int) (a1 : Int) : Option ((List (List Int))) := if 0 ≤ a0 ∧ a0 ≤ 1000 ∧ 0 ≤ a1 ∧ a1 ≤ 1000 then Comb.look a1.toNat a0.toNat [] [] else none
set_option maxHeartbeats 8000000 in
set_option maxRecDepth 100000 in
theorem impl_chomps.calls (a0 : Int) (a1 : Int) (r : List (List Int)) (w : World) (h : impl_chomps.f a0 a1 = some r) :
  Calls Tryd.prog 122 #[.int .i64 a0, .int .i64 a1] w fun e w' => ∃ v0_ : Value, e = .returned (v0_) ∧ Kd.S (Kd.slice 3 (Kd.int .i64)) 25 w' w.heap.size (fun _ => True) v0_ r ∧ Below w.heap.size w w' := by
 have hc : 0 ≤ a0 ∧ a0 ≤ 1000 ∧ 0 ≤ a1 ∧ a1 ≤ 1000 := by
  by_cases hc : 0 ≤ a0 ∧ a0 ≤ 1000 ∧ 0 ≤ a1 ∧ a1 ≤ 1000
  ·exact hc
  ·simp only [impl_chomps.f, if_neg hc] at h; cases h
 simp only [impl_chomps.f, if_pos hc] at h
 obtain ⟨wide, rfl⟩ := Int.eq_ofNat_of_zero_le hc.1
 obtain ⟨high, rfl⟩ := Int.eq_ofNat_of_zero_le hc.2.2.1
 rw [Int.toNat_natCast, Int.toNat_natCast] at h
 have HT := Aside0.mk h
 have HC := Aside0.mk hc
 have HB := Aside0.mk (Below.refl w.heap.size w)
 clear h hc
 go_enter Tryd.func122, Tryd.ntmps122
 go_wp2_with (first
  | ((with_reducible refine gate_dst (N := 3) rfl ?_); refine box_event ?hg (N := 3) ?hd (cs := #[.int .i64 (high : Int)]) (t := 3) ?hr ?_; (case hd => rfl); (case hg => rfl); (case hr => first | (go_simp; done) | (go_simp; rfl)); intro g1 hg w1 hbox hb; have n0_ := Aside0.mk (below_step HB.out hb); clear HB; have HB := n0_; clear n0_; have B1 := Aside0.mk hbox; clear hb hbox hg)
  | ((with_reducible refine gate_dst (N := 7) rfl ?_); refine Kd.S_lit (Kd.slice 3 (Kd.int .i64)) _ 25 ?hg (N := 7) ?hd (xs := ([] : List (List Int))) (inner := []) (ok := fun _ => True) (okp := fun _ => True) ?hr ?hp (fun _ hk => hk) trivial (Below.refl _ _) (Nat.le_refl _) (by simp) ?_; (case hd => rfl); (case hg => rfl); (case hr => first | (go_simp; done) | (go_simp; rfl)); (case hp => exact (Reps.none _ _)); intro v2 w2 ho hb hg_ hnew_; clear hg_ hnew_; obtain ⟨A2, c2, e2⟩ := Kd.S_slice ho; obtain rfl : v2 = .slice A2 0 c2 := e2; have HO := Aside0.mk (Kd.S_lower ho HB.out.size); have m0_ := Aside0.mk (blk_below B1.out hb); have n0_ := Aside0.mk (below_step HB.out hb); clear HB B1; have HB := n0_; have B1 := m0_; clear n0_ m0_ hb ho)
  | ((with_reducible refine gate_dst (N := 5) rfl ?_); refine box_event ?hg (N := 5) ?hd (cs := #[.slice none 0 0]) (t := 67) ?hr ?_; (case hd => rfl); (case hg => rfl); (case hr => first | (go_simp; done) | (go_simp; rfl)); intro g3 hg w3 hbox hb; have G3 := Aside0.mk ((by rw [hg]; exact HB.out.size) : w.heap.size ≤ g3); have n0_ := Aside0.mk (below_step HB.out hb); have m0_ := Aside0.mk (blk_below B1.out hb); have mo_ := Aside0.mk (Kd.S_below HO.out hb); clear HB B1 HO; have HB := n0_; have B1 := m0_; have HO := mo_; clear n0_ m0_ mo_; have B3 := Aside0.mk hbox; have hcz3 : w3.cell? ⟨g3, 0, none⟩ = some (.slice none 0 0) := (blk_cell hbox 0).trans rfl; have hfz3 := blk_frozen hbox 0; clear hb hbox hg)
  | ((with_reducible refine gate_dst (N := 6) rfl ?_); refine box_event ?hg (N := 6) ?hd (cs := #[.nilFunc]) (t := 141) ?hr ?_; (case hd => rfl); (case hg => rfl); (case hr => first | (go_simp; done) | (go_simp; rfl)); intro g4 hg w4 hbox hb; have x3_ := blk_put (cs := #[.slice none 0 0]) B3.out 0 (.slice A2 0 c2) rfl; have x1_ := blk_far B1.out (p := ⟨g3, 0, none⟩) (blk_ne B1.out B3.out (by decide)) (.slice A2 0 c2); have xo_ := Kd.S_set HO.out B3.out (by simp [Kd.slice, Kd.int, Kd.scalar]) 0 (.slice A2 0 c2); have xb_ := below_set (j := 0) (v := .slice A2 0 c2) HB.out G3.out; have G4 := Aside0.mk ((by rw [hg]; exact xb_.size) : w.heap.size ≤ g4); have m1_ := Aside0.mk (blk_below x1_ hb); have m3_ := Aside0.mk (blk_below x3_ hb); have mo_ := Aside0.mk (Kd.S_below xo_ hb); have n0_ := Aside0.mk (below_step xb_ hb); clear HB B1 B3 HO x1_ x3_ xo_ xb_ hcz3 hfz3; have HB := n0_; have B1 := m1_; have B3 := m3_; have HO := mo_; clear n0_ m1_ m3_ mo_; have B4 := Aside0.mk hbox; have hcz4 : w4.cell? ⟨g4, 0, none⟩ = some (.nilFunc) := (blk_cell hbox 0).trans rfl; have hfz4 := blk_frozen hbox 0; clear hb hbox hg)
  | (go_at_call 145; have x4_ := blk_put (cs := #[.nilFunc]) B4.out 0 (.func (.func 145) #[] #[.pointer (some ⟨g3, 0, none⟩), .pointer (some ⟨g1, 0, none⟩), .pointer (some ⟨g4, 0, none⟩)]) rfl; have x3_ := blk_far B3.out (p := ⟨g4, 0, none⟩) (blk_ne B3.out B4.out (by decide)) (.func (.func 145) #[] #[.pointer (some ⟨g3, 0, none⟩), .pointer (some ⟨g1, 0, none⟩), .pointer (some ⟨g4, 0, none⟩)]); have x1_ := blk_far B1.out (p := ⟨g4, 0, none⟩) (blk_ne B1.out B4.out (by decide)) (.func (.func 145) #[] #[.pointer (some ⟨g3, 0, none⟩), .pointer (some ⟨g1, 0, none⟩), .pointer (some ⟨g4, 0, none⟩)]); have xo_ := Kd.S_set HO.out B4.out (by simp [Kd.slice, Kd.int, Kd.scalar]) 0 (.func (.func 145) #[] #[.pointer (some ⟨g3, 0, none⟩), .pointer (some ⟨g1, 0, none⟩), .pointer (some ⟨g4, 0, none⟩)]); have xb_ := below_set (j := 0) (v := .func (.func 145) #[] #[.pointer (some ⟨g3, 0, none⟩), .pointer (some ⟨g1, 0, none⟩), .pointer (some ⟨g4, 0, none⟩)]) HB.out G4.out; have hS : ∀ q, impl_chomps.SS g3 (.slice A2 0 c2) q → w.heap.size ≤ q := (fun q hq => by rcases hq with rfl | hq; exact G3.out; rcases Kd.S_base2 xo_ with h0 | ⟨b, hb, hle⟩; rw [h0] at hq; cases hq; rw [hb] at hq; cases hq; exact hle); go_loud (refine (impl_chomps.rec high wide [] [] r (.slice none 0 0) (.slice A2 0 c2) g3 g1 g4 w.heap.size high _ (by have := HC.out; simp; omega) (by have := HC.out; omega) (by simp) xb_.size x1_ x4_ (Kd.R_nil _ _ _ _ _) x3_ (Kd.S_mono xo_ (fun _ _ => by simp [Value.ownBlock])) HT.out).mono ?_; rintro e w7 ⟨rfl, vt, hx, hr, _, hk⟩); have n0_ := Aside0.mk (Kq.KQ.to_below xb_ hk hS); have hcv : w7.cell? ⟨g3, 0, none⟩ = some vt := (blk_cell hx 0).trans rfl; have HR := Aside0.mk hr; clear HB hr hk hx x4_ x3_ x1_ xo_ xb_ hS hcz4 hfz4; have HB := n0_; clear n0_))
 go_ret
 exact ⟨_, rfl, HR.out, HB.out⟩

/-! ### impl_solutions: function 84 -/
def impl_solutions.fit (c : S42) (r : List Int) : Bool := Chomp.told c.f0 c.f1 r == c.f2
def impl_solutions.bad (l : List S42) (r : List Int) : Bool := l.any fun c => !(impl_solutions.fit c r)
def impl_solutions.all (l : List S42) : List (List Int) := (All.all 5 4).filter fun r => !(impl_solutions.bad l r)
set_option maxHeartbeats 4000000 in
set_option maxRecDepth 100000 in
theorem impl_solutions.lam2 (x : S42) (rows : List Int) (A0 : Option Addr) (c0 b g3 gr : Nat) (W : World) (hr : Chomp.Ok rows) (hC : Kd.C (Kd.int .i64) W A0 rows.length rows) (hc : rows.length ≤ c0) (hF : impl_fates_of.IsF W b) (ha : 0 ≤ x.f1)
  (h3 : W.heap[g3]? = some (.cells #[.map (some b)] 89 (0, 0))) (hg : W.heap[gr]? = some (.cells #[.slice A0 rows.length c0] 25 (0, 0))) :
  Calls Tryd.prog 124 #[.agg #[.int .i64 x.f0, .int .i64 x.f1, .int .i64 x.f2], .pointer (some ⟨g3, 0, none⟩), .pointer (some ⟨gr, 0, none⟩)] W fun e w' => e = .returned (.bool (!(impl_solutions.fit x rows))) ∧ impl_fates_of.IsF w' b ∧ Kq.KQ W w' (fun q => q = b) := by
 have HT := Aside0.mk (fun w (hb : Below W.heap.size W w) => impl_fates_fits.rec x.f0 x.f1 x.f2 rows A0 c0 b w hr (Kd.C_below hC hb) hc (hF.below hb) ha)
 have H3 := Aside0.mk h3
 have HG := Aside0.mk hg
 clear hr hC hc hF ha h3 hg
 unfold impl_solutions.fit
 obtain ⟨xa, xb, xc⟩ := x
 dsimp only at HT ⊢
 generalize (Chomp.told xa xb rows == xc) = q at HT ⊢
 go_enter Tryd.func124, Tryd.ntmps124
 go_wp2_with (first
  | (((with_reducible refine gate_dst (N := 3) rfl ?_); refine box_event ?hg (N := 3) ?hd (cs := #[.int .i64 xa, .int .i64 xb, .int .i64 xc]) (t := 42) ?hr ?_; (case hd => rfl); (case hg => rfl); (case hr => first | (go_simp; done) | (go_simp; rfl)); intro g5 hg5 w5 hbox5 hb5; have G5 := Aside0.mk hg5; have X5 := Aside0.mk hbox5; have B5 := Aside0.mk hb5; clear hg5 hbox5 hb5; have hcz5_0 : w5.cell? ⟨g5, 0, none⟩ = some (.int .i64 xa) := (blk_cell X5.out 0).trans rfl; have hfz5_0 := blk_frozen X5.out 0; have hcz5_1 : w5.cell? ⟨g5, 1, none⟩ = some (.int .i64 xb) := (blk_cell X5.out 1).trans rfl; have hfz5_1 := blk_frozen X5.out 1; have hcz5_2 : w5.cell? ⟨g5, 2, none⟩ = some (.int .i64 xc) := (blk_cell X5.out 2).trans rfl; have hfz5_2 := blk_frozen X5.out 2); have hcz3 : w5.cell? ⟨g3, 0, none⟩ = some (.map (some b)) := (blk_cell (blk_below H3.out B5.out) 0).trans rfl; have hczr : w5.cell? ⟨gr, 0, none⟩ = some (.slice A0 rows.length c0) := (blk_cell (blk_below HG.out B5.out) 0).trans rfl)
  | (go_at_call 76; go_loud (refine (HT.out _ B5.out).mono ?_; rintro e w8 ⟨rfl, hf8, hk8⟩); have F8 := Aside0.mk hf8; have K8 := Aside0.mk ((Kq.KQ.below (Kq.KQ.refl W (fun q => q = b)) B5.out).then_ hk8 (fun _ h => .inl h)); clear hf8 hk8))
 go_ret
 exact ⟨rfl, F8.out, K8.out⟩
set_option maxHeartbeats 4000000 in
set_option maxRecDepth 100000 in
theorem impl_solutions.lam1 (l0 : List S42) (A1 : Option Addr) (c1 : Nat) (rows : List Int) (A0 : Option Addr) (c0 b g1 g3 : Nat) (W : World) (hr : Chomp.Ok rows) (hC : Kd.C (Kd.int .i64) W A0 rows.length rows) (hc : rows.length ≤ c0) (hF : impl_fates_of.IsF W b)
  (hl : (l0.length : Int) ≤ 9223372036854775807) (hcl : ∀ W', Kq.KQ W W' (fun q => q = b) → Kd.C k42 W' A1 l0.length l0) (hpos : ∀ c ∈ l0, 0 ≤ c.f1)
  (h1 : W.heap[g1]? = some (.cells #[.slice A1 l0.length c1] 53 (0, 0))) (h3 : W.heap[g3]? = some (.cells #[.map (some b)] 89 (0, 0))) (eg : ∀ args w, (callFunc 124 args).run Tryd.prog w = .ok (.enter 124 args) w) :
  Calls Tryd.prog 123 #[.slice A0 rows.length c0, .pointer (some ⟨g1, 0, none⟩), .pointer (some ⟨g3, 0, none⟩)] W fun e w' => e = .returned (.bool (impl_solutions.bad l0 rows)) ∧ impl_fates_of.IsF w' b ∧ Kq.KQ W w' (fun q => q = b) := by
 have HR := Aside0.mk hr
 have HC := Aside0.mk hC
 have HCC := Aside0.mk hc
 have HF := Aside0.mk hF
 have HL := Aside0.mk hl
 have HCL := Aside0.mk hcl
 have HP := Aside0.mk hpos
 have H1 := Aside0.mk h1
 have H3 := Aside0.mk h3
 have EG := Aside0.mk eg
 clear hr hC hc hF hcl hpos h1 h3 eg
 go_enter Tryd.func123, Tryd.ntmps123
 go_wp2_with (first
  | (((with_reducible refine gate_dst (N := 3) rfl ?_); refine box_event ?hg (N := 3) ?hd (cs := #[.slice A0 rows.length c0]) (t := 25) ?hr ?_; (case hd => rfl); (case hg => rfl); (case hr => first | (go_simp; done) | (go_simp; rfl)); intro g5 hg5 w5 hbox5 hb5; have G5 := Aside0.mk hg5; have X5 := Aside0.mk hbox5; have B5 := Aside0.mk hb5; clear hg5 hbox5 hb5; have hcz5_0 : w5.cell? ⟨g5, 0, none⟩ = some (.slice A0 rows.length c0) := (blk_cell X5.out 0).trans rfl; have hfz5_0 := blk_frozen X5.out 0); have hcz1 : w5.cell? ⟨g1, 0, none⟩ = some (.slice A1 l0.length c1) := (blk_cell (blk_below H1.out B5.out) 0).trans rfl)
  | (go_at_call 119; go_loud (refine (impl_Clue_119.callsI A1 c1 l0 124 #[.pointer (some ⟨g3, 0, none⟩), .pointer (some ⟨g5, 0, none⟩)] (fun c => !(impl_solutions.fit c rows)) (fun w => impl_fates_of.IsF w b ∧ Kq.KQ w5 w (fun q => q = b)) w5 EG.out HL.out (fun w h => HCL.out w ((Kq.KQ.below (Kq.KQ.refl W (fun q => q = b)) B5.out).then_ h.2 (fun _ h => .inl h))) ⟨HF.out.below B5.out, Kq.KQ.refl _ _⟩ (fun w x hx h => (impl_solutions.lam2 x rows A0 c0 b g3 g5 w HR.out (Fmap.C_kq_map (Kd.C_below HC.out B5.out) (HF.out.below B5.out) h.2) HCC.out h.1 (HP.out x hx) (Kq.blk_kq (blk_below H3.out B5.out) h.2 (fun e => (HF.out.not_cells H3.out) e)) (Kq.blk_kq X5.out h.2 (fun e => ((HF.out.below B5.out).not_cells X5.out) e))).mono (fun e w' hh => ⟨hh.1, hh.2.1, h.2.then_ hh.2.2 (fun _ h => .inl h)⟩))).mono ?_; rintro e w8 ⟨rfl, hf8, hk8⟩); have F8 := Aside0.mk hf8; have K8 := Aside0.mk ((Kq.KQ.below (Kq.KQ.refl W (fun q => q = b)) B5.out).then_ hk8 (fun _ h => .inl h)); clear hf8 hk8))
 go_ret
 exact ⟨rfl, F8.out, K8.out⟩
theorem impl_solutions.del (l0 : List S42) (A1 : Option Addr) (c1 b g1 g3 base : Nat) (L : List (List Int)) (v : Value) (w : World) (hl : (l0.length : Int) ≤ 9223372036854775807)
  (hcl : ∀ W, Kq.KQ w W (fun q => q = b ∨ some q = v.ownBlock) → Kd.C k42 W A1 l0.length l0) (hpos : ∀ c ∈ l0, 0 ≤ c.f1) (hF : impl_fates_of.IsF w b)
  (h1 : w.heap[g1]? = some (.cells #[.slice A1 l0.length c1] 53 (0, 0))) (h3 : w.heap[g3]? = some (.cells #[.map (some b)] 89 (0, 0))) (o1 : g1 < base) (o3 : g3 < base) (ob : b < base)
  (HS : Kd.S (Kd.slice 3 (Kd.int .i64)) 25 w base (fun k => base ≤ k) v L) (hok : ∀ r ∈ L, Chomp.Ok r)
  (eg : ∀ args w, (callFunc 123 args).run Tryd.prog w = .ok (.enter 123 args) w) (eg2 : ∀ args w, (callFunc 124 args).run Tryd.prog w = .ok (.enter 124 args) w) :
  Calls Tryd.prog 121 #[v, .func (.func 123) #[] #[.pointer (some ⟨g1, 0, none⟩), .pointer (some ⟨g3, 0, none⟩)]] w fun e w' => ∃ v' : Value, e = .returned v' ∧ Kd.S (Kd.slice 3 (Kd.int .i64)) 25 w' base (fun _ => True) v' (L.filter fun r => !(impl_solutions.bad l0 r)) ∧ Kq.KQ w w' (fun q => q = b ∨ some q = v.ownBlock) := by
 have hown : ∀ k, v.ownBlock = some k → base ≤ k := Kd.S_base HS
 have hbo : some b ≠ v.ownBlock := fun e => by have := hown b e.symm; omega
 have hne : ∀ g, g < base → ¬ g = b → ¬ (g = b ∨ some g = v.ownBlock) := fun g h1 h2 h => by
  rcases h with h | h
  ·exact h2 h
  ·have := hown g h.symm; omega
 refine (slices_DeleteFunc_int_int_121.ownS2 (fun W => impl_fates_of.IsF W b ∧ Kq.KQ w W (fun q => q = b ∨ some q = v.ownBlock)) 123 base #[.pointer (some ⟨g1, 0, none⟩), .pointer (some ⟨g3, 0, none⟩)] (fun j => impl_solutions.bad l0 (L.getD j [])) (fun k => base ≤ k) L v w eg HS ⟨hF, Kq.KQ.refl _ _⟩ ?_ ?_ ?_).mono ?_
 ·exact fun W W' h hg => ⟨h.1.kept (hg.block b h.1.lt hbo), h.2.then_ (Fmap.kq_of_grown hg) (fun q hq => .inl (.inr hq))⟩
 ·exact fun W h k hk hne2 hlt => h.2.k.2 k hlt (by
   rintro (e | e)
   ·omega
   ·exact hne2 e)
 ·intro j u W hj hW hM
  obtain ⟨vm, hu, hRm⟩ := hM
  have hmem := Lam.getD_mem hj ([] : List Int)
  injection hu with hu
  subst hu
  generalize L.getD j [] = rows at hRm hmem ⊢
  obtain ⟨A0, c0, rfl⟩ := Kd.R_slice hRm
  have hRW := Kq.R_kq hRm hW.2 (fun k hk => by
   rintro (e | e)
   ·have := hk.1; omega
   ·exact hk.2 e)
  obtain ⟨_, r1, r2⟩ := Kd.R_reads' hRW
  refine (impl_solutions.lam1 l0 A1 c1 rows A0 c0 b g1 g3 W (hok rows hmem) r2 r1 hW.1 hl (fun W' hk => hcl W' (hW.2.then_ hk (fun q hq => .inl (.inl hq)))) hpos (Kq.blk_kq h1 hW.2 (hne g1 o1 (hF.not_cells h1))) (Kq.blk_kq h3 hW.2 (hne g3 o3 (hF.not_cells h3))) eg2).mono ?_
  rintro e w' ⟨rfl, h6, h7⟩
  exact ⟨rfl, ⟨h6, hW.2.then_ h7 (fun q hq => .inl (.inl hq))⟩, fun g hg => h7.k.2 g (Nat.lt_of_lt_of_le (Kd.S_lt HS g hg) hW.2.size) (show ¬ g = b from fun e => hbo (by rw [← e, hg]))⟩
 ·rintro e w' ⟨v', rfl, h6, h7, _⟩
  refine ⟨v', rfl, ?_, h6.2⟩
  rw [Del.places_filter ([] : List Int) (fun m => impl_solutions.bad l0 m) L] at h7
  exact Kd.S_mono h7 (fun _ _ => trivial)
def impl_solutions.f (l0 : List (S42)) : Option ((List (List Int))) := if l0.all (fun c => decide (0 ≤ c.f1)) then some (impl_solutions.all l0) else none
set_option maxHeartbeats 8000000 in
set_option maxRecDepth 100000 in
theorem impl_solutions.calls (A0 : Option Addr) (c0 : Nat) (l0 : List (S42)) (r : List (List Int)) (w : World) (hr0 : Kd.C k42 w A0 l0.length l0) (hc0 : l0.length ≤ c0) (h : impl_solutions.f l0 = some r) :
  Calls Tryd.prog 84 #[.slice A0 l0.length c0] w fun e w' => ∃ v0_ : Value, e = .returned (v0_) ∧ Kd.S (Kd.slice 3 (Kd.int .i64)) 25 w' w.heap.size (fun _ => True) v0_ r ∧ Below w.heap.size w w' := by
 have hcond : l0.all (fun c => decide (0 ≤ c.f1)) = true := by
  by_cases hc : l0.all (fun c => decide (0 ≤ c.f1)) = true
  ·exact hc
  ·simp only [impl_solutions.f, if_neg hc] at h; cases h
 simp only [impl_solutions.f, if_pos hcond] at h
 obtain rfl := Option.some.inj h
 have hpos : ∀ c ∈ l0, 0 ≤ c.f1 := fun c hc => by simpa using List.all_eq_true.1 hcond c hc
 have hch : impl_chomps.f 5 4 = some (All.all 5 4) := by
  unfold impl_chomps.f
  rw [if_pos (by omega)]
  exact All.look_all 5 4 (by decide)
 have HCH := Aside0.mk (fun W => impl_chomps.calls 5 4 _ W hch)
 have HC := Aside0.mk hr0
 have HP := Aside0.mk hpos
 have HL := Aside0.mk (show (l0.length : Int) ≤ 9223372036854775807 by have := hr0.2.1; omega)
 have eg := enters_of Tryd.func123 (by kernel_rfl) rfl
 have eg2 := enters_of Tryd.func124 (by kernel_rfl) rfl
 have EG := Aside0.mk eg
 have EG2 := Aside0.mk eg2
 have HB := Aside0.mk (Below.refl w.heap.size w)
 clear hr0 hc0 h hcond hpos hch eg eg2
 go_enter Tryd.func84, Tryd.ntmps84
 go_wp2_with (first
  | (((with_reducible refine gate_dst (N := 1) rfl ?_); refine box_event ?hg (N := 1) ?hd (cs := #[.slice A0 l0.length c0]) (t := 53) ?hr ?_; (case hd => rfl); (case hg => rfl); (case hr => first | (go_simp; done) | (go_simp; rfl)); intro g1 hg1 w1 hbox1 hb1; have G1 := Aside0.mk hg1; have X1 := Aside0.mk hbox1; have B1 := Aside0.mk hb1; clear hg1 hbox1 hb1; have hcz1_0 : w1.cell? ⟨g1, 0, none⟩ = some (.slice A0 l0.length c0) := (blk_cell X1.out 0).trans rfl; have hfz1_0 := blk_frozen X1.out 0); clear hcz1_0 hfz1_0)
  | ((with_reducible refine gate_dst (N := 4) rfl ?_); refine Fmap.wp_makeM rfl rfl 89 rfl Tryd.prog 9 impl_fates_of.anyEl impl_fates_of.Q ?_; intro gm wm hgm hset hbm; have GM := Aside0.mk hgm; have BM := Aside0.mk (below_step B1.out hbm); have F4 := Aside0.mk hset; have Y1 := Aside0.mk (blk_below X1.out hbm); clear hgm hset hbm)
  | ((with_reducible refine gate_dst (N := 3) rfl ?_); refine box_event ?hg (N := 3) ?hd (cs := #[.map none]) (t := 89) ?hr ?_; (case hd => rfl); (case hg => rfl); (case hr => first | (go_simp; done) | (go_simp; rfl)); intro g3 hg3 w3 hbox3 hb3; have G3 := Aside0.mk hg3; have X3 := Aside0.mk hbox3; have B3 := Aside0.mk hb3; have hcz3_0 : w3.cell? ⟨g3, 0, none⟩ = some (.map none) := (blk_cell X3.out 0).trans rfl; have hfz3_0 := blk_frozen X3.out 0; clear hg3 hbox3 hb3)
  | (go_at_call 122; go_loud (refine (HCH.out _).mono ?_; rintro e w5 ⟨v5, rfl, ho, hb⟩; have Z3 := Aside0.mk (blk_below (blk_put (cs := #[.map none]) X3.out 0 (.map (some gm)) rfl) hb); have NE := Aside0.mk ((F4.out.below B3.out).not_cells X3.out); have B35 := Aside0.mk (below_set (g := g3) (j := 0) (v := .map (some gm)) (below_step BM.out B3.out) (by rw [G3.out]; exact BM.out.size)); have Z1 := Aside0.mk (blk_below (blk_far (blk_below Y1.out B3.out) (p := ⟨g3, 0, none⟩) (show g1 ≠ g3 from fun e => by have h1 := blk_lt Y1.out; have h2 := G3.out; omega) (.map (some gm))) hb); have F5 := Aside0.mk (((F4.out.below B3.out).set (p := ⟨g3, 0, none⟩) (show gm ≠ g3 from fun e => NE.out e.symm) (.map (some gm))).below hb); have B5 := Aside0.mk (below_step B35.out hb); have SO := Aside0.mk ho; clear ho hb))
  | (go_at_call 121; go_loud (refine (impl_solutions.del l0 A0 c0 gm g1 g3 (w3.setCell ⟨g3, 0, none⟩ (.map (some gm))).heap.size (All.all 5 4) v5 w5 HL.out (fun W hk => Kd.C_below HC.out (Kq.KQ.to_below B5.out hk (fun q hq => by
     rcases hq with hq | hq
     ·rw [hq, GM.out]; exact B1.out.size
     ·exact Nat.le_trans B35.out.size (Kd.S_base SO.out q hq.symm)))) HP.out F5.out Z1.out Z3.out (Nat.lt_of_lt_of_le (blk_lt Y1.out) (Nat.le_trans B3.out.size (by simp [World.setCell]))) (by have := blk_lt X3.out; simpa [World.setCell] using this) (Nat.lt_of_lt_of_le F4.out.lt (Nat.le_trans B3.out.size (by simp [World.setCell]))) (Kd.S_mono (Kd.S_bound SO.out) (fun k hk => hk.2.1)) (fun r hr => All.ok_all hr (by decide) (by decide)) EG.out EG2.out).mono ?_; rintro e w9 ⟨v9, rfl, hs9, hk9⟩)))
 go_ret
 exact ⟨_, rfl, Kd.S_lower hs9 B35.out.size, Kq.KQ.to_below B5.out hk9 (fun q hq => by
  rcases hq with hq | hq
  ·rw [hq, GM.out]; exact B1.out.size
  ·exact Nat.le_trans B35.out.size (Kd.S_base SO.out q hq.symm))⟩

/-! ### impl_Solutions: function 45 -/
def impl_Solutions.f (l0_0 : List (S42)) : Option ((List (List Int)) × Bool) := (impl_IsPuzzle.f l0_0).bind fun t246 => (if t246 = true then ((impl_solutions.f l0_0).bind fun t247 => (some (t247, true))) else (some (([] : List (List Int)), false)))
set_option maxHeartbeats 8000000 in
set_option maxRecDepth 100000 in
theorem impl_Solutions.calls (A0_0 : Option Addr) (c0_0 : Nat) (l0_0 : List (S42)) (r1 : List (List Int)) (r2 : Bool) (w : World) (hr0_0 : Kd.C k42 w A0_0 l0_0.length l0_0) (hc0_0 : l0_0.length ≤ c0_0) (h : impl_Solutions.f l0_0 = some (r1, r2)) :
  Calls Tryd.prog 45 #[.agg #[.slice A0_0 l0_0.length c0_0]] w fun e w' => ∃ v0_ : Value, e = .returned (.tuple #[v0_, .bool r2]) ∧ Kd.S (Kd.slice 3 (Kd.int .i64)) 25 w' w.heap.size (fun _ => True) v0_ r1 ∧ Below w.heap.size w w' := by
 have hu55 := Tryd.underlying55
 have HR0_0 := Aside0.mk hr0_0
 have HC0_0 := Aside0.mk hc0_0
 clear hr0_0 hc0_0
 have HB := Aside0.mk (Below.refl w.heap.size w)
 have H : ((impl_IsPuzzle.f l0_0).bind fun t246 => (if t246 = true then ((impl_solutions.f l0_0).bind fun t247 => (some (t247, true))) else (some (([] : List (List Int)), false)))) = some (r1, r2) := h
 clear h
 replace H := Option.bind_eq_some_iff.mp H
 obtain ⟨t246, A20, H⟩ := H
 replace H : (if t246 = true then ((impl_solutions.f l0_0).bind fun t247 => (some (t247, true))) else (some (([] : List (List Int)), false))) = some (r1, r2) := H
 have A2 := Aside0.mk A20
 clear A20
 by_cases c3 : t246 = true
 ·subst c3
  have H1 : ((impl_solutions.f l0_0).bind fun t247 => (some (t247, true))) = some (r1, r2) := by rw [if_pos rfl] at H; exact H
  clear H
  have H := H1
  clear H1
  replace H := Option.bind_eq_some_iff.mp H
  obtain ⟨t247, A40, H⟩ := H
  replace H : (some (t247, true)) = some (r1, r2) := H
  have A4 := Aside0.mk A40
  clear A40
  simp only [Option.some.injEq, Prod.mk.injEq] at H
  obtain ⟨rfl, rfl⟩ := H
  go_enter Tryd.func45, Tryd.ntmps45
  go_wp2_with (first | ((with_reducible refine gate_dst (N := 1) rfl ?_); refine box_event ?hg (N := 1) ?hd (cs := #[.slice A0_0 l0_0.length c0_0]) (t := 55) ?hr ?_; (case hd => rfl); (case hg => rfl); (case hr => first | (go_simp; done) | (go_simp; rfl)); intro gb245 hg w5 hbox hb; have n0_ := Aside0.mk (below_step (Lam.al) hb); have n1_ := Aside0.mk (hbox); have n2_ := Aside0.mk ((by rw [hg]; exact (below_size (Lam.al)) : w.heap.size ≤ gb245)); have n3_ := Aside0.mk ((by rw [hg]; exact (below_size (Lam.al)) : w.heap.size ≤ gb245)); clear HB; have HB := n0_; have BK245 := n1_; have GW245 := n2_; have GE245 := n3_; clear n0_ n1_ n2_ n3_; clear hb hbox hg; have hcz6_0 : w5.cell? ⟨gb245, 0, none⟩ = some (.slice A0_0 l0_0.length c0_0) := (blk_cell BK245.out 0).trans rfl; have hfz6_0 := blk_frozen BK245.out 0) | ((with_reducible refine gate_callee (f := 83) rfl ?_); refine goesL_ (some 5) rfl rfl Tryd.func83 (by kernel_rfl) rfl #[.agg #[.slice A0_0 l0_0.length c0_0]] rfl (by (try simp only [List.map_toArray, List.map_cons, List.map_nil]); first | done | rfl | (simp only [List.length_drop, List.length_take]; rfl)) ?_; (with_reducible refine (impl_IsPuzzle.calls _ _ l0_0 true _ ?side1 ?side2 A2.out).mono ?_); (case side1 => repeat (first | exact (Kd.C_below HR0_0.out HB.out) | (with_reducible refine Kd.C_alloc ?_ _) | (with_reducible refine Kd.C_drewN ?_ _) | (with_reducible refine Kd.C_drew ?_))); (case side2 => exact HC0_0.out); rintro e w7 ⟨rfl, hb⟩; refine ⟨_, rfl, ?_⟩; have n0_ := Aside0.mk (blk_below (g := gb245) (o := .cells #[.slice A0_0 l0_0.length c0_0] 55 (0, 0)) (Lam.bq BK245.out) hb); have n1_ := Aside0.mk (below_step (Lam.al) hb); clear BK245; clear HB; have BK245 := n0_; have HB := n1_; clear n0_ n1_; (try clear hb); (try clear hb2); (try clear hk); (try clear hi); have hcz8_0 : w7.cell? ⟨gb245, 0, none⟩ = some (.slice A0_0 l0_0.length c0_0) := (blk_cell BK245.out 0).trans rfl; have hfz8_0 := blk_frozen BK245.out 0) | ((with_reducible refine gate_callee (f := 84) rfl ?_); refine goesL_ (some 9) rfl rfl Tryd.func84 (by kernel_rfl) rfl #[.slice A0_0 l0_0.length c0_0] rfl (by (try simp only [List.map_toArray, List.map_cons, List.map_nil]); first | done | rfl | (simp only [List.length_drop, List.length_take]; rfl)) ?_; (with_reducible refine (impl_solutions.calls _ _ l0_0 t247 _ ?side1 ?side2 A4.out).mono ?_); (case side1 => repeat (first | exact (Kd.C_below HR0_0.out HB.out) | (with_reducible refine Kd.C_alloc ?_ _) | (with_reducible refine Kd.C_drewN ?_ _) | (with_reducible refine Kd.C_drew ?_))); (case side2 => exact HC0_0.out); rintro e w9 ⟨v248, rfl, ho0, hb⟩; refine ⟨_, rfl, ?_⟩; have n0_ := Aside0.mk (Kd.S_lower ho0 (below_size (Lam.al))); have n1_ := Aside0.mk (blk_below (g := gb245) (o := .cells #[.slice A0_0 l0_0.length c0_0] 55 (0, 0)) (Lam.bq BK245.out) hb); have n2_ := Aside0.mk (below_step (Lam.al) hb); clear BK245; clear HB; have HO249 := n0_; have BK245 := n1_; have HB := n2_; clear n0_ n1_ n2_; (try clear hb); (try clear hb2); (try clear hk); (try clear hi); (try clear ho0)))
  go_ret2
  exact ⟨_, by first | rfl | (simp [errW_none, errW_some] <;> rfl) | (simp [*, errW_none, errW_some] <;> rfl), by (with_reducible repeat (first | apply Kd.S_alloc | apply Kd.S_drewN | apply Kd.S_drew)); exact HO249.out, Lam.al⟩
 ·replace c3 := Bool.eq_false_iff.mpr c3
  subst c3
  have H1 : (some (([] : List (List Int)), false)) = some (r1, r2) := by rw [if_neg (show ¬ (false = true) by decide)] at H; exact H
  clear H
  have H := H1
  clear H1
  simp only [Option.some.injEq, Prod.mk.injEq] at H
  obtain ⟨rfl, rfl⟩ := H
  go_enter Tryd.func45, Tryd.ntmps45
  go_wp2_with (first | ((with_reducible refine gate_dst (N := 1) rfl ?_); refine box_event ?hg (N := 1) ?hd (cs := #[.slice A0_0 l0_0.length c0_0]) (t := 55) ?hr ?_; (case hd => rfl); (case hg => rfl); (case hr => first | (go_simp; done) | (go_simp; rfl)); intro gb245 hg w10 hbox hb; have n0_ := Aside0.mk (below_step (Lam.al) hb); have n1_ := Aside0.mk (hbox); have n2_ := Aside0.mk ((by rw [hg]; exact (below_size (Lam.al)) : w.heap.size ≤ gb245)); have n3_ := Aside0.mk ((by rw [hg]; exact (below_size (Lam.al)) : w.heap.size ≤ gb245)); clear HB; have HB := n0_; have BK245 := n1_; have GW245 := n2_; have GE245 := n3_; clear n0_ n1_ n2_ n3_; clear hb hbox hg; have hcz11_0 : w10.cell? ⟨gb245, 0, none⟩ = some (.slice A0_0 l0_0.length c0_0) := (blk_cell BK245.out 0).trans rfl; have hfz11_0 := blk_frozen BK245.out 0) | ((with_reducible refine gate_callee (f := 83) rfl ?_); refine goesL_ (some 5) rfl rfl Tryd.func83 (by kernel_rfl) rfl #[.agg #[.slice A0_0 l0_0.length c0_0]] rfl (by (try simp only [List.map_toArray, List.map_cons, List.map_nil]); first | done | rfl | (simp only [List.length_drop, List.length_take]; rfl)) ?_; (with_reducible refine (impl_IsPuzzle.calls _ _ l0_0 false _ ?side1 ?side2 A2.out).mono ?_); (case side1 => repeat (first | exact (Kd.C_below HR0_0.out HB.out) | (with_reducible refine Kd.C_alloc ?_ _) | (with_reducible refine Kd.C_drewN ?_ _) | (with_reducible refine Kd.C_drew ?_))); (case side2 => exact HC0_0.out); rintro e w12 ⟨rfl, hb⟩; refine ⟨_, rfl, ?_⟩; have n0_ := Aside0.mk (blk_below (g := gb245) (o := .cells #[.slice A0_0 l0_0.length c0_0] 55 (0, 0)) (Lam.bq BK245.out) hb); have n1_ := Aside0.mk (below_step (Lam.al) hb); clear BK245; clear HB; have BK245 := n0_; have HB := n1_; clear n0_ n1_; (try clear hb); (try clear hb2); (try clear hk); (try clear hi)))
  go_ret2
  exact ⟨_, by first | rfl | (simp [errW_none, errW_some] <;> rfl) | (simp [*, errW_none, errW_some] <;> rfl), by first | exact Kd.S_nil _ _ _ _ _ | exact Kd.N_nil _ _ _ _ _ | exact Kd.V_nil _ _ _ _ _ | exact Kd.Q_nil _ _ _ _ _ | exact Kd.R_nil _ _ _ _ _, Lam.al⟩

/-! ### impl_CountSolutions: function 28 -/
def impl_CountSolutions.f (l0_0 : List (S42)) : Option (Int × Bool) := (impl_Solutions.f l0_0).bind fun bt251 => (some ((bt251.1.length : Int), bt251.2))
set_option maxHeartbeats 8000000 in
set_option maxRecDepth 100000 in
theorem impl_CountSolutions.calls (A0_0 : Option Addr) (c0_0 : Nat) (l0_0 : List (S42)) (r1 : Int) (r2 : Bool) (w : World) (hr0_0 : Kd.C k42 w A0_0 l0_0.length l0_0) (hc0_0 : l0_0.length ≤ c0_0) (h : impl_CountSolutions.f l0_0 = some (r1, r2)) :
  Calls Tryd.prog 28 #[.agg #[.slice A0_0 l0_0.length c0_0]] w fun e w' => e = .returned (.tuple #[.int .i64 r1, .bool r2]) ∧ Below w.heap.size w w' := by
 have hu55 := Tryd.underlying55
 have HR0_0 := Aside0.mk hr0_0
 have HC0_0 := Aside0.mk hc0_0
 clear hr0_0 hc0_0
 have HB := Aside0.mk (Below.refl w.heap.size w)
 have H : ((impl_Solutions.f l0_0).bind fun bt251 => (some ((bt251.1.length : Int), bt251.2))) = some (r1, r2) := h
 clear h
 replace H := Option.bind_eq_some_iff.mp H
 obtain ⟨⟨t251, t254⟩, A20, H⟩ := H
 replace H : (some ((t251.length : Int), t254)) = some (r1, r2) := H
 have A2 := Aside0.mk A20
 clear A20
 simp only [Option.some.injEq, Prod.mk.injEq] at H
 obtain ⟨rfl, rfl⟩ := H
 go_enter Tryd.func28, Tryd.ntmps28
 go_wp2_with (first | ((with_reducible refine gate_dst (N := 1) rfl ?_); refine box_event ?hg (N := 1) ?hd (cs := #[.slice A0_0 l0_0.length c0_0]) (t := 55) ?hr ?_; (case hd => rfl); (case hg => rfl); (case hr => first | (go_simp; done) | (go_simp; rfl)); intro gb250 hg w3 hbox hb; have n0_ := Aside0.mk (below_step (Lam.al) hb); have n1_ := Aside0.mk (hbox); have n2_ := Aside0.mk ((by rw [hg]; exact (below_size (Lam.al)) : w.heap.size ≤ gb250)); have n3_ := Aside0.mk ((by rw [hg]; exact (below_size (Lam.al)) : w.heap.size ≤ gb250)); clear HB; have HB := n0_; have BK250 := n1_; have GW250 := n2_; have GE250 := n3_; clear n0_ n1_ n2_ n3_; clear hb hbox hg; have hcz4_0 : w3.cell? ⟨gb250, 0, none⟩ = some (.slice A0_0 l0_0.length c0_0) := (blk_cell BK250.out 0).trans rfl; have hfz4_0 := blk_frozen BK250.out 0) | ((with_reducible refine gate_callee (f := 45) rfl ?_); refine goesL_ (some 8) rfl rfl Tryd.func45 (by kernel_rfl) rfl #[.agg #[.slice A0_0 l0_0.length c0_0]] rfl (by (try simp only [List.map_toArray, List.map_cons, List.map_nil]); first | done | rfl | (simp only [List.length_drop, List.length_take]; rfl)) ?_; (with_reducible refine (impl_Solutions.calls _ _ l0_0 t251 t254 _ ?side1 ?side2 A2.out).mono ?_); (case side1 => repeat (first | exact (Kd.C_below HR0_0.out HB.out) | (with_reducible refine Kd.C_alloc ?_ _) | (with_reducible refine Kd.C_drewN ?_ _) | (with_reducible refine Kd.C_drew ?_))); (case side2 => exact HC0_0.out); rintro e w5 ⟨v252, rfl, ho0, hb⟩; refine ⟨_, rfl, ?_⟩; have n0_ := Aside0.mk (Kd.S_lower ho0 (below_size (Lam.al))); have n1_ := Aside0.mk (blk_below (g := gb250) (o := .cells #[.slice A0_0 l0_0.length c0_0] 55 (0, 0)) (Lam.bq BK250.out) hb); have n2_ := Aside0.mk (below_step (Lam.al) hb); clear BK250; clear HB; have HO253 := n0_; have BK250 := n1_; have HB := n2_; clear n0_ n1_ n2_; (try clear hb); (try clear hb2); (try clear hk); (try clear hi); (try clear ho0); obtain ⟨Ao6, co6, eo6⟩ := Kd.S_slice HO253.out; subst eo6))
 go_ret2
 exact ⟨by first | rfl | (simp [errW_none, errW_some] <;> rfl) | (simp [*, errW_none, errW_some] <;> rfl), Lam.al⟩

/-! ### impl_IsSolved: function 31 -/
def impl_IsSolved.f (l0_0 : List (S42)) : Option (Bool × Bool) := (impl_CountSolutions.f l0_0).bind fun bt256 => (some ((bt256.1 == 1), bt256.2))
set_option maxHeartbeats 8000000 in
set_option maxRecDepth 100000 in
theorem impl_IsSolved.calls (A0_0 : Option Addr) (c0_0 : Nat) (l0_0 : List (S42)) (r1 : Bool) (r2 : Bool) (w : World) (hr0_0 : Kd.C k42 w A0_0 l0_0.length l0_0) (hc0_0 : l0_0.length ≤ c0_0) (h : impl_IsSolved.f l0_0 = some (r1, r2)) :
  Calls Tryd.prog 31 #[.agg #[.slice A0_0 l0_0.length c0_0]] w fun e w' => e = .returned (.tuple #[.bool r1, .bool r2]) ∧ Below w.heap.size w w' := by
 have hu55 := Tryd.underlying55
 have HR0_0 := Aside0.mk hr0_0
 have HC0_0 := Aside0.mk hc0_0
 clear hr0_0 hc0_0
 have HB := Aside0.mk (Below.refl w.heap.size w)
 have H : ((impl_CountSolutions.f l0_0).bind fun bt256 => (some ((bt256.1 == 1), bt256.2))) = some (r1, r2) := h
 clear h
 replace H := Option.bind_eq_some_iff.mp H
 obtain ⟨⟨t256, t257⟩, A20, H⟩ := H
 replace H : (some ((t256 == 1), t257)) = some (r1, r2) := H
 have A2 := Aside0.mk A20
 clear A20
 simp only [Option.some.injEq, Prod.mk.injEq] at H
 obtain ⟨rfl, rfl⟩ := H
 go_enter Tryd.func31, Tryd.ntmps31
 go_wp2_with (first | ((with_reducible refine gate_dst (N := 1) rfl ?_); refine box_event ?hg (N := 1) ?hd (cs := #[.slice A0_0 l0_0.length c0_0]) (t := 55) ?hr ?_; (case hd => rfl); (case hg => rfl); (case hr => first | (go_simp; done) | (go_simp; rfl)); intro gb255 hg w3 hbox hb; have n0_ := Aside0.mk (below_step (Lam.al) hb); have n1_ := Aside0.mk (hbox); have n2_ := Aside0.mk ((by rw [hg]; exact (below_size (Lam.al)) : w.heap.size ≤ gb255)); have n3_ := Aside0.mk ((by rw [hg]; exact (below_size (Lam.al)) : w.heap.size ≤ gb255)); clear HB; have HB := n0_; have BK255 := n1_; have GW255 := n2_; have GE255 := n3_; clear n0_ n1_ n2_ n3_; clear hb hbox hg; have hcz4_0 : w3.cell? ⟨gb255, 0, none⟩ = some (.slice A0_0 l0_0.length c0_0) := (blk_cell BK255.out 0).trans rfl; have hfz4_0 := blk_frozen BK255.out 0) | ((with_reducible refine gate_callee (f := 28) rfl ?_); refine goesL_ (some 8) rfl rfl Tryd.func28 (by kernel_rfl) rfl #[.agg #[.slice A0_0 l0_0.length c0_0]] rfl (by (try simp only [List.map_toArray, List.map_cons, List.map_nil]); first | done | rfl | (simp only [List.length_drop, List.length_take]; rfl)) ?_; (with_reducible refine (impl_CountSolutions.calls _ _ l0_0 t256 t257 _ ?side1 ?side2 A2.out).mono ?_); (case side1 => repeat (first | exact (Kd.C_below HR0_0.out HB.out) | (with_reducible refine Kd.C_alloc ?_ _) | (with_reducible refine Kd.C_drewN ?_ _) | (with_reducible refine Kd.C_drew ?_))); (case side2 => exact HC0_0.out); rintro e w5 ⟨rfl, hb⟩; refine ⟨_, rfl, ?_⟩; have n0_ := Aside0.mk (blk_below (g := gb255) (o := .cells #[.slice A0_0 l0_0.length c0_0] 55 (0, 0)) (Lam.bq BK255.out) hb); have n1_ := Aside0.mk (below_step (Lam.al) hb); clear BK255; clear HB; have BK255 := n0_; have HB := n1_; clear n0_ n1_; (try clear hb); (try clear hb2); (try clear hk); (try clear hi)))
 go_ret2
 exact ⟨by first | rfl | (simp [errW_none, errW_some] <;> rfl) | (simp [*, errW_none, errW_some] <;> rfl), Lam.al⟩

/-! ### impl_Clue_98: function 98 -/
def impl_Clue_98.f (l0 : List (S42)) : Option ((List (S42))) := if l0.length < 5864062014805 then some l0 else none
set_option maxHeartbeats 4000000 in
set_option maxRecDepth 100000 in
theorem impl_Clue_98.calls (A0 : Option Addr) (c0 : Nat) (l0 : List (S42)) (r : List (S42)) (w : World) (hr0 : Kd.C k42 w A0 l0.length l0) (hc0 : l0.length ≤ c0) (h : impl_Clue_98.f l0 = some r) :
  Calls Tryd.prog 98 #[.slice A0 l0.length c0] w fun e w' => ∃ v0_ : Value, e = .returned (v0_) ∧ Kd.R k42 42 w' w.heap.size (fun _ => True) v0_ r ∧ Below w.heap.size w w' := by
 have hq := fun w a n c n' c' => Go.Lib.run_eql_slice_nil (P := Tryd.prog) w 53 42 a n c n' c' Tryd.underlying53
 by_cases c1 : l0.length < 5864062014805
 ·simp only [impl_Clue_98.f, if_pos c1] at h
  obtain rfl := Option.some.inj h
  clear h
  cases A0 with
  | none =>
   obtain rfl : l0 = [] := by
    cases l0 with
    | nil => rfl
    | cons x xs => obtain ⟨ad, e, _⟩ := hr0.2.2 (by simp); cases e
   clear hr0 hc0 c1
   go_enter Tryd.func98, Tryd.ntmps98
   go_wp2
   go_ret
   exact ⟨_, rfl, Kd.R_nil _ _ _ _ _, Below.refl _ _⟩
  | some ad =>
   have HR0 := Aside0.mk hr0
   have LM := Aside0.mk c1
   clear hr0 hc0 c1
   have HB := Aside0.mk (Below.refl w.heap.size w)
   go_enter Tryd.func98, Tryd.ntmps98
   go_wp2_with (first | ((with_reducible refine gate_dst (N := 5) rfl ?_); refine Kd.R_lit k42 _ 42 ?hg (N := 5) ?hd (xs := ([] : List (S42))) (inner := []) (ok := fun _ => True) (okp := fun _ => True) ?hr ?hp (fun _ hk => hk) trivial (Below.refl _ _) (Nat.le_refl _) (by simp) ?_; (case hd => rfl); (case hg => rfl); (case hr => first | (go_simp; done) | (go_simp; rfl)); (case hp => exact (Reps.none _ _)); intro v1 w3 ho4 hb hg_ hnew_; clear hg_ hnew_; have n0_ := Aside0.mk (Kd.R_lower ho4 (below_size (Lam.al))); have n1_ := Aside0.mk (below_step (Lam.al) hb); clear HB; have HO1 := n0_; have HB := n1_; clear n0_ n1_; clear hb ho4) | ((with_reducible refine gate_builtin (b := .append) (xs := #[.tmp 5, .tmp 6]) rfl ?_); at_builtin; refine Kd.R_append_rows k42 (w0 := w) w.heap.size rfl (.tmp 5) (.tmp 6) 53 42 (.agg #[(.int .i64 0), (.int .i64 0), (.int .i64 0)]) 24 rfl Tryd.underlying53 info42 rfl (by decide) (by omega) v1 ([] : List (S42)) l0 _ _ _ (fun _ => True) (fun _ => False) rfl rfl ?aO ?aR (fun _ _ h => h) (fun _ h => h.elim) ?aF ?aB ?aS ?aL ?_; (case aR => exact (Kd.C_below HR0.out HB.out)); (case aB => exact (Lam.al)); (case aF => exact (fun _ _ => trivial)); (case aO => exact HO1.out); (case aS => exact (below_size (Lam.al))); (case aL => have := LM.out; simp only [List.length_nil, Nat.zero_add]; omega); intro v2 w5 ho hb hg hat; rw [List.nil_append] at ho; have n0_ := Aside0.mk (hb); have n1_ := Aside0.mk (ho); clear HB; clear HO1; have HB := n0_; have HO2 := n1_; clear n0_ n1_; clear ho hb hg hat))
   go_ret
   exact ⟨_, rfl, HO2.out, HB.out⟩
 ·simp only [impl_Clue_98.f, if_neg c1] at h
  exact absurd h (by simp)

/-! ### impl_Clue_133: function 133 -/
set_option maxHeartbeats 4000000 in
set_option maxRecDepth 100000 in
theorem impl_Clue_133.own (g m c k : Nat) (xs : List (S42)) (base : Nat) (w0 W : World) (HO : Kd.R k42 42 W base (fun _ => True) (.slice (some ⟨g, 0, none⟩) (m + 1) c) xs) (hk : k ≤ m) (HB : Below base w0 W) (hbase : base ≤ W.heap.size) :
  Calls Tryd.prog 133 #[.slice (some ⟨g, 0, none⟩) (m + 1) c, .int .i64 (k : Int), .int .i64 ((k : Int) + 1)] W fun e w' => e = .returned (.slice (some ⟨g, 0, none⟩) m c) ∧ Kd.R k42 42 w' base (fun _ => True) (.slice (some ⟨g, 0, none⟩) m c) (xs.eraseIdx k) ∧ Below base w0 w' := by
 obtain ⟨hxn, hnc, hrest⟩ := Kd.R_reads' HO
 have hcm : c ≤ 9223372036854775807 := by
  obtain ⟨_, inner, hown, _⟩ := HO
  rcases hown.2 with ⟨h, _⟩ | ⟨g', cap', cur, h, _, _, _, h2, _⟩
  ·cases h
  ·injection h with _ _ h; subst h; simpa [maxLen] using h2
 have hv : ∀ w, (zeroValue 42).run Tryd.prog w = .ok (.agg #[(.int .i64 0), (.int .i64 0), (.int .i64 0)]) w := Tryd.zeroValue42
 have H0 := Aside0.mk HO
 have B0 := Aside0.mk HB
 have HV := Aside0.mk hv
 have HS := Aside0.mk hbase
 clear HO HB hrest hxn hv hbase
 have hz1 : ∀ u ∈ ((.agg #[(.int .i64 0), (.int .i64 0), (.int .i64 0)]) : Value).cells.toList, u.oneCell' = true := by intro u hu; simp [Value.cells] at hu; subst hu; rfl
 have HZ := Aside0.mk hz1
 clear hz1
 have e1 : (k : Int) + 1 ≤ (m : Int) + 1 := by omega
 have e2 : (m : Int) + 1 ≤ (c : Int) := by omega
 have e3 : ((k : Int) == (k : Int) + 1) = false := beq_eq_false_iff_ne.mpr (by omega)
 have e4 : ¬ ((k : Int) = (k : Int) + 1) := by omega
 have f9 : (0 : Int) ≤ (k : Int) + 1 := by omega
 have f1 : k ≤ c := by omega
 have f2 : k + 1 ≤ c := by omega
 have f3 : k ≤ m + 1 := by omega
 have f4 : k + 1 ≤ m + 1 := by omega
 have f5 : (k : Int) ≤ (k : Int) + 1 := by omega
 have f6 : (k : Int) ≤ (c : Int) := by omega
 have f7 : (k : Int) ≤ (m : Int) + 1 := by omega
 have f8 : (k : Int) + 1 ≤ (c : Int) := by omega
 have f10 : (0 : Int) ≤ (m : Int) + 1 := by omega
 have f11 : m ≤ c := by omega
 have f12 : (m : Int) ≤ (m : Int) + 1 := by omega
 have f13 : m ≤ m + 1 := by omega
 have f14 : m + 1 ≤ c := by omega
 have f15 : (m : Int) ≤ (c : Int) := by omega
 have f16 : ¬ c = m := by omega
 by_cases hck : c = k + 1
 ·obtain rfl : k = m := by omega
  subst hck
  go_enter Tryd.func133, Tryd.ntmps133
  go_wp2_with fail
  go_region_law (apply Kd.R_delete_step k42 (w0 := w0) base (s := .tmp 22) (x := .tmp 25) (t := 53) (e := 42) (g := g) (n := k + 1) (c := (k + 1)) (k := k) (xs := xs) (ok := fun _ => True); (case hw => simp [Region.wanted]); (case ho => rfl); (case ht => exact Tryd.underlying53); (case hinfo => kernel_rfl); (case hs => simp [Act.eval, Act.put]); (case hx => simp [Act.eval, Act.put]; exact ⟨rfl, rfl, rfl⟩); (case hA => first | (simp; done) | (rw [if_neg hck, Option.map_some, add_plain]; rfl)); (case hm => omega); (case HO => exact Lam.rq H0.out); (case hk => omega); (case HB => exact below_drew B0.out); (case hbase => exact HS.out); intro w1 ho hb hg)
  rw [Nat.add_sub_cancel] at ho
  have HR := Aside0.mk ho
  have HBB := Aside0.mk hb
  have HGG := Aside0.mk hg
  clear ho hb hg
  obtain ⟨w2, hrun, ho2, hg2⟩ := Lam.R_clear1 k42 53 42 (.agg #[(.int .i64 0), (.int .i64 0), (.int .i64 0)]) Tryd.underlying53 HV.out rfl HZ.out HR.out (by omega) (1)
  have HR2 := Aside0.mk ho2
  have HG2 := Aside0.mk hg2
  clear ho2 hg2
  have hsz : k * (k42).sz = k * 3 := rfl
  rw [hsz] at hrun
  clear hsz
  have g1 : k + 1 - k = 1 := by omega
  go_wp2
  go_ret
  exact ⟨rfl, HR2.out, Below.grown HBB.out HG2.out (by have h1 := HGG.out.size; have h2 := HS.out; exact Nat.le_trans h2 h1) (fun q hq => by injection hq with hq; subst hq; exact Kd.R_base HR.out _ (by simp [Value.ownBlock]))⟩
 ·have hck' : (c == k + 1) = false := beq_eq_false_iff_ne.mpr hck
  go_enter Tryd.func133, Tryd.ntmps133
  go_wp2_with fail
  go_region_law (apply Kd.R_delete_step k42 (w0 := w0) base (s := .tmp 22) (x := .tmp 25) (t := 53) (e := 42) (g := g) (n := m + 1) (c := c) (k := k) (xs := xs) (ok := fun _ => True); (case hw => simp [Region.wanted]); (case ho => rfl); (case ht => exact Tryd.underlying53); (case hinfo => kernel_rfl); (case hs => simp [Act.eval, Act.put]); (case hx => simp [Act.eval, Act.put]; exact ⟨rfl, rfl, rfl⟩); (case hA => first | (simp; done) | (rw [if_neg hck, Option.map_some, add_plain]; rfl)); (case hm => omega); (case HO => exact Lam.rq H0.out); (case hk => omega); (case HB => exact below_drew B0.out); (case hbase => exact HS.out); intro w1 ho hb hg)
  rw [Nat.add_sub_cancel] at ho
  have HR := Aside0.mk ho
  have HBB := Aside0.mk hb
  have HGG := Aside0.mk hg
  clear ho hb hg
  obtain ⟨w2, hrun, ho2, hg2⟩ := Lam.R_clear1 k42 53 42 (.agg #[(.int .i64 0), (.int .i64 0), (.int .i64 0)]) Tryd.underlying53 HV.out rfl HZ.out HR.out (by omega) (c - m)
  have HR2 := Aside0.mk ho2
  have HG2 := Aside0.mk hg2
  clear ho2 hg2
  have hsz : m * (k42).sz = m * 3 := rfl
  rw [hsz] at hrun
  clear hsz
  have g1 : m + 1 - m = 1 := by omega
  go_wp2
  go_ret
  exact ⟨rfl, HR2.out, Below.grown HBB.out HG2.out (by have h1 := HGG.out.size; have h2 := HS.out; exact Nat.le_trans h2 h1) (fun q hq => by injection hq with hq; subst hq; exact Kd.R_base HR.out _ (by simp [Value.ownBlock]))⟩

/-! ### impl_dropped: function 97 -/
def impl_dropped.f (l0 : List (S42)) (a1 : Int) : Option ((List (S42))) := if 0 ≤ a1 ∧ a1 < (l0.length : Int) then (impl_Clue_98.f l0).bind fun t => some (t.eraseIdx a1.toNat) else none
set_option maxHeartbeats 4000000 in
set_option maxRecDepth 100000 in
theorem impl_dropped.calls (A0 : Option Addr) (c0 : Nat) (l0 : List (S42)) (a1 : Int) (r : List (S42)) (w : World) (hr0 : Kd.C k42 w A0 l0.length l0) (hc0 : l0.length ≤ c0) (h : impl_dropped.f l0 a1 = some r) :
  Calls Tryd.prog 97 #[.slice A0 l0.length c0, .int .i64 a1] w fun e w' => ∃ v0_ : Value, e = .returned (v0_) ∧ Kd.R k42 42 w' w.heap.size (fun _ => True) v0_ r ∧ Below w.heap.size w w' := by
 by_cases hc : 0 ≤ a1 ∧ a1 < (l0.length : Int)
 ·simp only [impl_dropped.f, if_pos hc] at h
  obtain ⟨t, ht, hr⟩ := Option.bind_eq_some_iff.1 h
  obtain rfl := Option.some.inj hr
  have htl : t = l0 := by
   unfold impl_Clue_98.f at ht
   split at ht
   ·exact (Option.some.inj ht).symm
   ·cases ht
  obtain ⟨k, rfl⟩ := Int.eq_ofNat_of_zero_le hc.1
  obtain ⟨m, hm⟩ : ∃ m, t.length = m + 1 := ⟨t.length - 1, by rw [htl]; have := hc.2; omega⟩
  have hkm : k ≤ m := by have := hc.2; rw [← htl] at this; omega
  have hm64 : (m : Int) + 1 ≤ 9223372036854775807 := by have := hr0.2.1; rw [← htl] at this; omega
  have hk64 : (k : Int) + 1 ≤ 9223372036854775807 := by omega
  have hcall := impl_Clue_98.calls A0 c0 l0 t w hr0 hc0 ht
  have HM := Aside0.mk hm
  clear hr0 hc0 h ht hr hc hm htl
  rw [Int.toNat_natCast]
  go_enter Tryd.func97, Tryd.ntmps97
  go_wp2_with (first
   | (go_at_call 98; refine hcall.mono ?_; rintro e w1 ⟨v1, rfl, HO, hb⟩; obtain ⟨g, c, ev, _⟩ := Kd.R_form HO (by have := HM.out; omega); rw [HM.out] at ev; subst ev; have hO := Aside0.mk HO; have hB := Aside0.mk hb; clear HO hb)
   | (go_at_call 133; refine (impl_Clue_133.own g m c k t w.heap.size w w1 hO.out hkm hB.out hB.out.size).mono ?_; rintro e w2 ⟨rfl, HO2, hb2⟩))
  go_ret
  exact ⟨_, rfl, HO2, hb2⟩
 ·simp only [impl_dropped.f, if_neg hc] at h
  exact absurd h (by simp)

end Go.Proofs.YtipiocdppghhnaaDoor.PFnExactHarderPuzzle
