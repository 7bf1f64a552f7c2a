-- Made by a program of this session (wip/xprint.py) out of the translation.
import Derived.Test.YtipiocdppghhnaaDoorPFnExactHarderPuzzlex0
import Derived.Test.YtipiocdppghhnaaDoorPFnExactHarderPuzzlex2
import Derived.Test.YtipiocdppghhnaaDoorPFnExactHarderPuzzlex3
import Derived.Test.YtipiocdppghhnaaDoorPFnExactHarderPuzzlex4
namespace Go.Proofs.YtipiocdppghhnaaDoor.PFnExactHarderPuzzle
open Go.RowKit Go.Proofs.YtipiocdppghhnaaDoorW.PrintWords Go.Proofs.YtipiocdppghhnaaDoorW.PrintLast Go.Proofs.YtipiocdppghhnaaDoorW.PrintMore
attribute [local go_sem] max2_int min2_int max_two min_two max_three min_three max_four min_four   -- for this text's walks alone
set_option linter.unusedVariables false
set_option linter.unusedSimpArgs false

/-! ### spec_pzValue: function 72 -/
theorem spec_pzValue.sumF {r : List Int} (hr : Chomp.Ok r) : ∀ k : Nat, 6 < k → spec_cmSum.f k r = some r.sum := by
 have hb := Chomp.sum_le hr.2.2
 have h6 := hr.2.1
 have key : ∀ (d i k : Nat) (s : Int), i + d = r.length → d < k → s = (r.take i).sum → spec_cmSum.l0 k s r (r.length : Int) (i : Int) = some r.sum := by
  intro d
  induction d with
  | zero =>
   intro i k s hi hk hs
   obtain ⟨k, rfl⟩ : ∃ q, k = q + 1 := ⟨k - 1, by omega⟩
   obtain rfl : i = r.length := by omega
   simp only [spec_cmSum.l0]
   rw [if_neg (by omega), hs, List.take_length]
  | succ d ih =>
   intro i k s hi hk hs
   obtain ⟨k, rfl⟩ : ∃ q, k = q + 1 := ⟨k - 1, by omega⟩
   have hlt : i < r.length := by omega
   have ht : r.take (i + 1) = r.take i ++ [r[i]] := by rw [List.take_add_one, List.getElem?_eq_getElem hlt]; rfl
   have hs2 : (r.take (i + 1)).sum = s + r[i] := by rw [ht, List.sum_append, hs]; simp
   have hb2 := Chomp.sum_le (r := r.take (i + 1)) (fun x hx => hr.2.2 x (List.mem_of_mem_take hx))
   rw [List.length_take] at hb2
   have hrd : rd r (i : Int) = r[i] := PK.rd_at hlt
   simp only [spec_cmSum.l0]
   rw [if_pos (by omega), if_pos (by omega), if_pos (by omega), hrd, PK.w1 hlt (by omega), PK.wrap_in (by omega) (by omega)]
   exact ih (i + 1) k _ (by omega) (by omega) hs2.symm
 intro k hk
 unfold spec_cmSum.f
 have := key r.length 0 k 0 (by omega) (by omega) (by simp)
 exact this
theorem spec_pzValue.count_step {α : Type} {L : List α} {p : α → Bool} {j : Nat} {y : α} (h : j < L.length) (hy : L[j] = y) : (((L.take (j + 1)).filter p).length : Int) = (((L.take j).filter p).length : Int) + (if p y = true then 1 else 0) := by
 rw [List.take_add_one, List.getElem?_eq_getElem h, List.filter_append, List.length_append, hy]
 by_cases c : p y = true
 ·simp [c]
 ·simp [c]
def spec_pzValue.f (a0 : Int) (a1 : Int) (l2 : List Int) (l3 : List Int) : Option (Int) := if Chomp.okB l2 = true ∧ 0 ≤ a1 ∧ l2 ∈ All.all 5 4 ∧ l3 = All.tab (All.all 5 4) then some (Chomp.told a0 a1 l2) else none
set_option maxHeartbeats 16000000 in
set_option maxRecDepth 100000 in
theorem spec_pzValue.calls (a0 : Int) (a1 : Int) (A2 : Option Addr) (c2 : Nat) (l2 : List Int) (A3 : Option Addr) (c3 : Nat) (l3 : List Int) (r : Int) (w : World) (hr2 : Kd.C (Kd.int .i64) w A2 l2.length l2) (hc2 : l2.length ≤ c2) (hr3 : Kd.C (Kd.int .i64) w A3 l3.length l3) (hc3 : l3.length ≤ c3) (h : spec_pzValue.f a0 a1 l2 l3 = some r) :
  Calls Tryd.prog 72 #[.int .i64 a0, .int .i64 a1, .slice A2 l2.length c2, .slice A3 l3.length c3] w fun e w' => e = .returned (.int .i64 r) ∧ Below w.heap.size w w' := by
 have hcond : Chomp.okB l2 = true ∧ 0 ≤ a1 ∧ l2 ∈ All.all 5 4 ∧ l3 = All.tab (All.all 5 4) := by
  by_cases hc : Chomp.okB l2 = true ∧ 0 ≤ a1 ∧ l2 ∈ All.all 5 4 ∧ l3 = All.tab (All.all 5 4)
  ·exact hc
  ·simp only [spec_pzValue.f, if_neg hc] at h; cases h
 simp only [spec_pzValue.f, if_pos hcond] at h
 obtain rfl := Option.some.inj h
 clear h
 obtain ⟨hokb, ha, hmem, hl3⟩ := hcond
 have hr := Chomp.okB_iff.1 hokb
 have HR2 := Aside0.mk hr2
 have HC2 := Aside0.mk hc2
 have HR3 := Aside0.mk hr3
 have HB := Aside0.mk (Below.refl w.heap.size w)
 have h6 := hr.2.1
 have hH := Chomp.H_le hr
 have hkey := All.key_lt hr
 have hT : l3.length = 117649 := by rw [hl3]; exact All.tab_len _
 have htab := All.tab_all (by decide) (by decide) hmem
 rw [← hl3] at htab
 have hl64 : (l2.length : Int) ≤ 9223372036854775807 := by omega
 have hT64 : (l3.length : Int) = 117649 := by omega
 have HKY := Aside0.mk (fun W (hW : Below w.heap.size w W) => spec_cmKey.calls 7 A2 c2 l2 _ W (Kd.C_below hr2 hW) hc2 (spec_cmHeaps.keyF hr 7 (by omega)))
 by_cases c0_ : a0 = 0
 ·subst c0_
  have HS := Aside0.mk (fun W (hW : Below w.heap.size w W) => spec_cmSum.calls 7 A2 c2 l2 _ W (Kd.C_below hr2 hW) hc2 (spec_pzValue.sumF hr 7 (by omega)))
  have ht : Chomp.told 0 a1 l2 = l2.sum := rfl
  rw [ht]
  clear ht hr2 hr3 hc2 hc3 htab hmem hokb hkey
  go_enter Tryd.func72, Tryd.ntmps72
  go_wp2_with (go_at_call 111; go_loud (refine (HS.out _ HB.out).mono ?_; rintro e w7 ⟨rfl, hb⟩); have n0_ := Aside0.mk hb.below; clear hb)
  go_ret
  exact ⟨rfl, n0_.out⟩
 by_cases c1_ : a0 = 1
 ·subst c1_
  clear hr3 hc3 htab hmem hokb hkey c0_
  by_cases c : a1 < (l2.length : Int)
  ·have ht : Chomp.told 1 a1 l2 = l2.getD a1.toNat 0 := by
    show (if a1 < (l2.length : Int) then l2.getD a1.toNat 0 else 0) = _
    rw [if_pos c]
   rw [ht]
   clear ht
   obtain ⟨ad, cs_, e_, _, hK_, hc_⟩ := Kd.C_get hr2 (0 : Int) a1 ha c
   subst e_
   obtain rfl : cs_ = [.int .i64 (l2.getD a1.toNat 0)] := hK_
   have hx0 := hc_ 0 _ rfl
   rw [show (a1.toNat * (Kd.int .i64).sz + 0) = a1.toNat from by show a1.toNat * 1 + 0 = a1.toNat; omega] at hx0
   generalize l2.getD a1.toNat 0 = q at hx0 ⊢
   clear hc_ hr2 hc2
   go_enter Tryd.func72, Tryd.ntmps72
   go_wp2
   go_ret
   exact ⟨rfl, HB.out⟩
  ·have ht : Chomp.told 1 a1 l2 = 0 := by
    show (if a1 < (l2.length : Int) then l2.getD a1.toNat 0 else 0) = _
    rw [if_neg c]
   rw [ht]
   clear ht hr2 hc2
   go_enter Tryd.func72, Tryd.ntmps72
   go_wp2
   go_ret
   exact ⟨rfl, HB.out⟩
 obtain ⟨q, hq⟩ := Int.eq_ofNat_of_zero_le hkey.1
 have hq117 : (q : Int) < (l3.length : Int) := by rw [hT64, ← hq]; exact hkey.2
 have hq0 : (q : Int) < 117649 := by omega
 obtain ⟨ad, cs_, e_, _, hK_, hc_⟩ := Kd.C_get hr3 (0 : Int) (q : Int) (by omega) hq117
 subst e_
 obtain rfl : cs_ = [.int .i64 (l3.getD (q : Int).toNat 0)] := hK_
 have hx0 := hc_ 0 _ rfl
 rw [show ((q : Int).toNat * (Kd.int .i64).sz + 0) = q from by show q * 1 + 0 = q; omega] at hx0
 have hg : l3.getD (q : Int).toNat 0 = (Chomp.H l2 : Int) + 1 := by rw [← htab, hq]
 rw [hg] at hx0
 have HX := Aside0.mk hx0
 rw [hq] at HKY
 clear hc_ hx0 hg
 by_cases c2_ : a0 = 2
 ·subst c2_
  clear hr2 hr3 hc2 hc3 htab hmem hokb hkey c0_ c1_ hq hl3 hT hT64
  by_cases c : 0 < Chomp.H l2
  ·have ht : Chomp.told 2 a1 l2 = 1 := by
    show (if 0 < Chomp.H l2 then (1 : Int) else 0) = _
    rw [if_pos c]
   rw [ht]
   clear ht
   have c' : (Chomp.H l2 : Int) + 1 > 1 := by omega
   clear c
   generalize Chomp.H l2 = H at HX c' hH
   go_enter Tryd.func72, Tryd.ntmps72
   go_wp2_with (go_at_call 112; go_loud (refine (HKY.out _ HB.out).mono ?_; rintro e w7 ⟨rfl, hb⟩); have n0_ := Aside0.mk hb.below; have hx1 : w7.cell? (ad.add q) = some (.int .i64 ((H : Int) + 1)) := (n0_.out.cell (World.block_lt_of_cell? _ _ HX.out)).trans HX.out; clear hb)
   go_ret
   exact ⟨rfl, n0_.out⟩
  ·have ht : Chomp.told 2 a1 l2 = 0 := by
    show (if 0 < Chomp.H l2 then (1 : Int) else 0) = _
    rw [if_neg c]
   rw [ht]
   clear ht
   have c' : ¬ (Chomp.H l2 : Int) + 1 > 1 := by omega
   clear c hH
   generalize (Chomp.H l2 : Int) + 1 = H1 at HX c'
   have d' : decide (H1 > 1) = false := decide_eq_false c'
   clear c'
   go_enter Tryd.func72, Tryd.ntmps72
   go_wp2_with (go_at_call 112; go_loud (refine (HKY.out _ HB.out).mono ?_; rintro e w7 ⟨rfl, hb⟩); have n0_ := Aside0.mk hb.below; have hx1 : w7.cell? (ad.add q) = some (.int .i64 H1) := (n0_.out.cell (World.block_lt_of_cell? _ _ HX.out)).trans HX.out; clear hb)
   go_ret
   exact ⟨rfl, n0_.out⟩
 by_cases c3_ : a0 = 3
 ·subst c3_
  clear hr2 hr3 hc2 hc3 htab hmem hokb hkey c0_ c1_ c2_ hq hl3 hT hT64
  have ht : Chomp.told 3 a1 l2 = (Chomp.H l2 : Int) := rfl
  rw [ht]
  clear ht
  generalize Chomp.H l2 = H at HX hH ⊢
  have e9 : wrap64 (H : Int) = H := PK.wrap_in (by omega) (by omega)
  go_enter Tryd.func72, Tryd.ntmps72
  go_wp2_with (go_at_call 112; go_loud (refine (HKY.out _ HB.out).mono ?_; rintro e w7 ⟨rfl, hb⟩); have n0_ := Aside0.mk hb.below; have hx1 : w7.cell? (ad.add q) = some (.int .i64 ((H : Int) + 1)) := (n0_.out.cell (World.block_lt_of_cell? _ _ HX.out)).trans HX.out; clear hb)
  go_ret
  exact ⟨by first | rfl | (simp [i64_w, e9]), n0_.out⟩
 by_cases c4_ : a0 = 4
 ·subst c4_
  clear hr3 hc3 htab hmem hokb hkey c0_ c1_ c2_ c3_ hq HKY HX hl3 hT hT64 hq117 hq0
  have ht : Chomp.told 4 a1 l2 = ((l2.filter fun n => !(decide (n ≤ a1))).length : Int) := rfl
  rw [ht]
  clear ht
  go_enter Tryd.func72, Tryd.ntmps72
  go_wp2
  go_loopg [9, 72] l2.length (fun gg s9 s72 wr => ∃ jj : Nat, jj ≤ l2.length ∧ l2.length - jj ≤ gg ∧ s72 = .int .i64 jj ∧ s9 = .int .i64 (((l2.take jj).filter fun n => !(decide (n ≤ a1))).length : Int) ∧ wr = w)
  case atStart => exact ⟨0, Nat.zero_le _, by omega, rfl, rfl, rfl⟩
  case round =>
   obtain ⟨jj, hjj, hgg, rfl, rfl, hw⟩ := hrel
   subst hw
   by_cases hlt : jj < l2.length
   ·have hltz : (jj : Int) < (l2.length : Int) := by omega
    have hle : ((l2.take jj).filter fun n => !(decide (n ≤ a1))).length ≤ 6 := Nat.le_trans (List.length_filter_le _ _) (by rw [List.length_take]; omega)
    obtain ⟨ad2, cs_, e_, _, hK_, hc_⟩ := Kd.C_get HR2.out (0 : Int) (jj : Int) (by omega) hltz
    subst e_
    have hyj : l2[jj] = l2.getD (jj : Int).toNat 0 := by rw [Int.toNat_natCast, List.getD_eq_getElem?_getD, List.getElem?_eq_getElem hlt]; rfl
    obtain rfl : cs_ = [.int .i64 (l2.getD (jj : Int).toNat 0)] := hK_
    have hx0 := hc_ 0 _ rfl
    rw [show ((jj : Int).toNat * (Kd.int .i64).sz + 0) = jj from by show jj * 1 + 0 = jj; omega] at hx0
    have hst := spec_pzValue.count_step (p := fun n => !(decide (n ≤ a1))) hlt hyj
    have HST := Aside0.mk hst
    clear hst hc_ hyj
    generalize l2.getD (jj : Int).toNat 0 = y at hx0 HST
    generalize ((l2.take jj).filter fun n => !(decide (n ≤ a1))).length = cnt at hle HST
    by_cases cy : y > a1
    ·go_wp2
     go_roundg (l2.length - (jj + 1))
     case measure => omega
     case rel =>
      refine ⟨jj + 1, by omega, by omega, by go_num, ?_, rfl⟩
      rw [HST.out, if_pos (by simp; omega)]
    ·go_wp2
     go_roundg (l2.length - (jj + 1))
     case measure => omega
     case rel =>
      refine ⟨jj + 1, by omega, by omega, by go_num, ?_, rfl⟩
      rw [HST.out, if_neg (by simp; omega), Int.add_zero]
   ·have hltz : ¬ (jj : Int) < (l2.length : Int) := by omega
    obtain rfl : jj = l2.length := by omega
    rw [List.take_length]
    go_wp2
    go_ret
    exact ⟨rfl, HB.out⟩
 have b0 : (a0 == 0) = false := beq_eq_false_iff_ne.mpr c0_
 have b1 : (a0 == 1) = false := beq_eq_false_iff_ne.mpr c1_
 have b2 : (a0 == 2) = false := beq_eq_false_iff_ne.mpr c2_
 have b3 : (a0 == 3) = false := beq_eq_false_iff_ne.mpr c3_
 have b4 : (a0 == 4) = false := beq_eq_false_iff_ne.mpr c4_
 have ht : Chomp.told a0 a1 l2 = (((Chomp.moves l2).filter (Chomp.isGood l2)).length : Int) := by
  unfold Chomp.told
  rw [if_neg c0_, if_neg c1_, if_neg c2_, if_neg c3_, if_neg c4_]
 rw [ht]
 have HMV := Aside0.mk (spec_cmMoves.calls 121 A2 c2 l2 _ w hr2 hc2 (spec_cmHeaps.movesF hr 121 (by omega)))
 have HBT := Aside0.mk (fun (x y : Nat) (W : World) (hW : Below w.heap.size w W) => spec_cmBite.calls 7 A2 c2 l2 (x : Int) (y : Int) (Chomp.bit l2 (x : Int) y) W (Kd.C_below hr2 hW) hc2 (spec_cmHeaps.biteF hr (by omega) y 7 (by omega)))
 have HBA := Aside0.mk (fun m (hm : m ∈ Chomp.moves l2) => (All.bit_all hmem hm).1)
 have HTB := Aside0.mk (fun r (hm : r ∈ All.all 5 4) => (show l3.getD (All.key r).toNat 0 = (Chomp.H r : Int) + 1 by rw [hl3]; exact All.tab_all (by decide) (by decide) hm))
 have HML := Aside0.mk (Chomp.moves_len hr)
 have HR := Aside0.mk hr
 have TL := Aside0.mk hT
 clear hr2 hr3 hc2 hc3 htab hmem hokb hkey hq HKY HX ht hl3 hr hq117 hq0
 obtain ⟨M, hM⟩ : ∃ M, Chomp.moves l2 = M := ⟨_, rfl⟩
 rw [hM] at HMV HBA HML ⊢
 have HM := Aside0.mk hM
 clear hM
 have hM64 : (M.length : Int) ≤ 9223372036854775807 := by have := HML.out; omega
 go_enter Tryd.func72, Tryd.ntmps72
 go_wp2_with (go_at_call 113; go_loud (refine (HMV.out).mono ?_; rintro e w4 ⟨v4, rfl, ho, hb⟩; obtain ⟨A4, c4, e4⟩ := Kd.S_slice ho; subst e4; have HS := Aside0.mk ho; have B4 := Aside0.mk hb; clear ho hb))
 go_loopg [9, 18] M.length (fun gg s9 s18 wr => ∃ jj : Nat, jj ≤ M.length ∧ M.length - jj ≤ gg ∧ s18 = .int .i64 jj ∧ s9 = .int .i64 (((M.take jj).filter (Chomp.isGood l2)).length : Int) ∧ Aside0 (Below w4.heap.size w4 wr))
 case atStart => exact ⟨0, Nat.zero_le _, by omega, rfl, rfl, ⟨Below.refl _ _⟩⟩
 case round =>
  obtain ⟨jj, hjj, hgg, rfl, rfl, HBJ⟩ := hrel
  by_cases hlt : jj < M.length
  ·have hltz : (jj : Int) < (M.length : Int) := by omega
   rcases Del.row_formS HS.out with ⟨_, h2⟩ | ⟨gm, cm, hv⟩
   ·rw [h2] at hlt; simp at hlt
   injection hv with hA hn hc4
   clear hn
   subst hA; subst hc4
   have hle : ((M.take jj).filter (Chomp.isGood l2)).length ≤ 36 := Nat.le_trans (List.length_filter_le _ _) (by have := HML.out; rw [List.length_take]; omega)
   obtain ⟨-, -, -, curm, hgm, hnm, -, hMm⟩ := Del.row_ofS rfl HS.out ([] : List Int)
   have hm := hMm jj hlt
   have hmj : M[jj] = M.getD jj [] := by rw [List.getD_eq_getElem?_getD, List.getElem?_eq_getElem hlt]; rfl
   have hmem : M.getD jj [] ∈ Chomp.moves l2 := by rw [HM.out]; exact Lam.getD_mem hlt ([] : List Int)
   have hba := HBA.out _ (Lam.getD_mem hlt ([] : List Int))
   obtain ⟨x, y, hxy, hy, hx, hp⟩ := Chomp.moves_mem hmem
   have HST := Aside0.mk (spec_pzValue.count_step (p := Chomp.isGood l2) hlt (hmj.trans hxy))
   rw [hxy] at hm hba
   have hba' : Chomp.bit l2 (x : Int) y ∈ All.all 5 4 := hba
   obtain ⟨vm, hvm, hRm⟩ := hm
   have hx0 : wr.cell? ⟨gm, jj, none⟩ = some curm[jj]! := (blk_cell (blk_below hgm HBJ.out) jj).trans (Del.arr_at (by omega))
   injection hvm with hvm
   rw [hvm] at hx0
   rcases Del.row_formR hRm with ⟨_, h3⟩ | ⟨gq, cq, hq⟩
   ·cases h3
   have hq' : vm = .slice (some ⟨gq, 0, none⟩) 2 cq := hq
   clear hq
   subst hq'
   obtain ⟨-, -, -, curq, hgq, hnq, -, hMq⟩ := Del.row_ofR rfl hRm (0 : Int)
   have HQ0 := Aside0.mk (show curq[0]? = some (.int .i64 (x : Int)) by have h9 : [curq[0]!] = [Value.int .i64 (x : Int)] := hMq 0 (by omega); injection h9 with h9; rw [Del.arr_at (by omega), h9])
   have HQ1 := Aside0.mk (show curq[1]? = some (.int .i64 (y : Int)) by have h9 : [curq[1]!] = [Value.int .i64 (y : Int)] := hMq 1 (by omega); injection h9 with h9; rw [Del.arr_at (by omega), h9])
   have HGQ := Aside0.mk (blk_below hgq HBJ.out)
   have hbok := All.ok_all hba' (by decide) (by decide)
   have htb := HTB.out _ hba'
   have hkb := spec_cmHeaps.keyF hbok 7 (by omega)
   have hkl := All.key_lt hbok
   have hH36 := Chomp.H_le hbok
   have hgood : Chomp.isGood l2 [(x : Int), (y : Int)] = !(decide (0 < Chomp.H (Chomp.bit l2 (x : Int) y))) := rfl
   rw [hgood] at HST
   obtain ⟨qb, hqb⟩ := Int.eq_ofNat_of_zero_le hkl.1
   rw [hqb] at htb hkb hkl
   have hqb117 : (qb : Int) < (l3.length : Int) := by rw [hT64]; exact hkl.2
   have hqb0 : (qb : Int) < 117649 := hkl.2
   obtain ⟨ad3, cs_, e_, _, hK_, hc_⟩ := Kd.C_get HR3.out (0 : Int) (qb : Int) (by omega) hqb117
   injection e_ with e_
   subst e_
   obtain rfl : cs_ = [.int .i64 (l3.getD (qb : Int).toNat 0)] := hK_
   have hx3 := hc_ 0 _ rfl
   rw [show ((qb : Int).toNat * (Kd.int .i64).sz + 0) = qb from by show qb * 1 + 0 = qb; omega, htb] at hx3
   have HX3 := Aside0.mk hx3
   have HKB := Aside0.mk (fun A c W h1 h2 => spec_cmKey.calls 7 A c (Chomp.bit l2 (x : Int) y) _ W h1 h2 hkb)
   have HB2 := Aside0.mk (HBT.out x y)
   clear hc_ hx3 hMm hMq hRm hmj hmem hba hba' hxy hy hx hp hgm hgq hnm hnq hvm hbok htb hkb hkl hgood hqb
   generalize Chomp.H (Chomp.bit l2 (x : Int) y) = hh at HST HX3 hH36
   generalize ((M.take jj).filter (Chomp.isGood l2)).length = cnt at hle HST
   have BW := Aside0.mk (below_step B4.out HBJ.out)
   go_wp2
   have BZ : Below wr.heap.size wr wr.drew := below_drew (Below.refl _ _)
   refine start_ (n := 13) (S := fun w' => Below wr.heap.size wr w') (ds := []) #[false, false, false, false, false, false, false, false, false, false, false, false, false] (by kernel_rfl) rfl rfl BZ (fun hHeld => ?_)
   generalize wr.drew = we at BZ hHeld ⊢
   refine pure_ (i := 0) (N := some 22) (v := ?_) (a' := ?_) #[true, false, false, false, false, false, false, false, false, false, false, false, false] rfl rfl (by kernel_rfl) (fun _ _ _ h => h) (Or.inl ⟨by rfl, ?_⟩) ?_ ?_
   rotate_left
   ·intro w'
    go_simp
    with_reducible rfl
   rotate_left
   ·simp only [Act.put, Lam.pa, Lam.pb, Lam.pc, i64_w, i32_w]
    rfl
   refine pure_ (i := 1) (N := some 23) (v := ?_) (a' := ?_) #[true, true, false, false, false, false, false, false, false, false, false, false, false] rfl rfl (by kernel_rfl) (fun _ _ _ h => h) (Or.inl ⟨by rfl, ?_⟩) ?_ ?_
   rotate_left
   ·intro w'
    go_simp
    with_reducible rfl
   rotate_left
   ·simp only [Act.put, Lam.pa, Lam.pb, Lam.pc, i64_w, i32_w]
    rfl
   refine pure_ (i := 2) (N := some 24) (v := ?_) (a' := ?_) #[true, true, true, false, false, false, false, false, false, false, false, false, false] rfl rfl (by kernel_rfl) (fun _ _ _ h => h) (Or.inl ⟨by rfl, ?_⟩) ?_ ?_
   rotate_left
   ·intro w'
    go_simp
    with_reducible rfl
   rotate_left
   ·simp only [Act.put, Lam.pa, Lam.pb, Lam.pc, i64_w, i32_w]
    rfl
   refine pure_ (i := 3) (N := some 25) (v := ?_) (a' := ?_) #[true, true, true, true, false, false, false, false, false, false, false, false, false] rfl rfl (by kernel_rfl) (fun _ _ _ h => h) (Or.inl ⟨by rfl, ?_⟩) ?_ ?_
   rotate_left
   ·intro w'
    go_simp
    with_reducible rfl
   rotate_left
   ·simp only [Act.put, Lam.pa, Lam.pb, Lam.pc, i64_w, i32_w]
    rfl
   refine take_ (i := 4) (N := some 26) (v := ?_) (a' := ?_) #[true, true, true, true, true, false, false, false, false, false, false, false, false] rfl rfl (by kernel_rfl) (fun _ _ _ h => h) (Or.inl ⟨by rfl, ?_⟩) hHeld ?_ ?_
   rotate_left
   ·rintro w' s0
    have s1 := (blk_cell (blk_below HGQ.out s0) 0).trans HQ0.out
    go_simp
    with_reducible rfl
   rotate_left
   ·simp only [Act.put, Lam.pa, Lam.pb, Lam.pc, i64_w, i32_w]
    rfl
   refine pure_ (i := 5) (N := some 27) (v := ?_) (a' := ?_) #[true, true, true, true, true, true, false, false, false, false, false, false, false] rfl rfl (by kernel_rfl) (fun _ _ _ h => h) (Or.inl ⟨by rfl, ?_⟩) ?_ ?_
   rotate_left
   ·intro w'
    go_simp
    with_reducible rfl
   rotate_left
   ·simp only [Act.put, Lam.pa, Lam.pb, Lam.pc, i64_w, i32_w]
    rfl
   refine pure_ (i := 6) (N := some 28) (v := ?_) (a' := ?_) #[true, true, true, true, true, true, true, false, false, false, false, false, false] rfl rfl (by kernel_rfl) (fun _ _ _ h => h) (Or.inl ⟨by rfl, ?_⟩) ?_ ?_
   rotate_left
   ·intro w'
    go_simp
    with_reducible rfl
   rotate_left
   ·simp only [Act.put, Lam.pa, Lam.pb, Lam.pc, i64_w, i32_w]
    rfl
   refine take_ (i := 7) (N := some 29) (v := ?_) (a' := ?_) #[true, true, true, true, true, true, true, true, false, false, false, false, false] rfl rfl (by kernel_rfl) (fun _ _ _ h => h) (Or.inl ⟨by rfl, ?_⟩) hHeld ?_ ?_
   rotate_left
   ·rintro w' s0
    have s1 := (blk_cell (blk_below HGQ.out s0) 1).trans HQ1.out
    go_simp
    with_reducible rfl
   rotate_left
   ·simp only [Act.put, Lam.pa, Lam.pb, Lam.pc, i64_w, i32_w]
    rfl
   refine one_ (i := 8) (N := some 30) #[true, true, true, true, true, true, true, true, true, false, false, false, false] rfl rfl (by kernel_rfl) (by decide) (fun K hK => ?_)
   refine goes_ Tryd.func114 (by kernel_rfl) rfl #[.slice A2 l2.length c2, .int .i64 (x : Int), .int .i64 (y : Int)] (by rfl) rfl rfl (by (try simp only [List.map_toArray, List.map_cons, List.map_nil]); first | done | rfl | (simp [Act.eval]; done)) ?_
   refine (HB2.out we (below_step BW.out hHeld)).mono ?_
   rintro e w5 ⟨v5, rfl, ho5, hb5⟩
   obtain ⟨A5, c5, e5⟩ := Kd.R_slice ho5
   subst e5
   refine ⟨_, rfl, ?_⟩
   refine hK.out _ _ (below_step hHeld hb5) (fun hHeld => ?_)
   clear hK K
   refine norm_ (a' := ?_) ?_ ?_
   rotate_left
   ·show Act.put _ (some 30) _ = _
    simp only [Act.put, Lam.pa, Lam.pb, Lam.pc, i64_w, i32_w]
    rfl
   refine one_ (i := 9) (N := some 31) #[true, true, true, true, true, true, true, true, true, true, false, false, false] rfl rfl (by kernel_rfl) (by decide) (fun K hK => ?_)
   refine goes_ Tryd.func112 (by kernel_rfl) rfl #[.slice A5 (Chomp.bit l2 (x : Int) y).length c5] (by rfl) rfl rfl (by (try simp only [List.map_toArray, List.map_cons, List.map_nil]); first | done | rfl | (simp [Act.eval]; done)) ?_
   refine (HKB.out A5 c5 w5 (Kd.R_reads' ho5).2.2 (Kd.R_reads' ho5).2.1).mono ?_
   rintro e w6 ⟨rfl, hd6⟩
   refine ⟨_, rfl, ?_⟩
   refine hK.out _ _ (below_step hHeld hd6.below) (fun hHeld => ?_)
   clear hK K ho5 hb5 hd6 BZ
   refine norm_ (a' := ?_) ?_ ?_
   rotate_left
   ·show Act.put _ (some 31) _ = _
    simp only [Act.put, Lam.pa, Lam.pb, Lam.pc, i64_w, i32_w]
    rfl
   refine pure_ (i := 10) (N := some 32) (v := ?_) (a' := ?_) #[true, true, true, true, true, true, true, true, true, true, true, false, false] rfl rfl (by kernel_rfl) (fun _ _ _ h => h) (Or.inl ⟨by rfl, ?_⟩) ?_ ?_
   rotate_left
   ·intro w'
    go_simp
    with_reducible rfl
   rotate_left
   ·simp only [Act.put, Lam.pa, Lam.pb, Lam.pc, i64_w, i32_w]
    rfl
   refine take_ (i := 11) (N := some 33) (v := ?_) (a' := ?_) #[true, true, true, true, true, true, true, true, true, true, true, true, false] rfl rfl (by kernel_rfl) (fun _ _ _ h => h) (Or.inl ⟨by rfl, ?_⟩) hHeld ?_ ?_
   rotate_left
   ·rintro w' s0
    have hz := below_step BW.out s0; have s1 := (hz.cell (World.block_lt_of_cell? _ _ HX3.out)).trans HX3.out
    go_simp
    with_reducible rfl
   rotate_left
   ·simp only [Act.put, Lam.pa, Lam.pb, Lam.pc, i64_w, i32_w]
    rfl
   refine pure_ (i := 12) (N := some 34) (v := ?_) (a' := ?_) #[true, true, true, true, true, true, true, true, true, true, true, true, true] rfl rfl (by kernel_rfl) (fun _ _ _ h => h) (Or.inl ⟨by rfl, ?_⟩) ?_ ?_
   rotate_left
   ·intro w'
    go_simp
    with_reducible rfl
   rotate_left
   ·simp only [Act.put, Lam.pa, Lam.pb, Lam.pc, i64_w, i32_w]
    rfl
   refine done_ (by kernel_rfl) ?_
   have BN := Aside0.mk (below_step HBJ.out hHeld)
   clear hHeld
   by_cases cy : hh = 0
   ·have cz : ((hh : Int) + 1 == 1) = true := by rw [beq_iff_eq]; omega
    have HCY := Aside0.mk cy
    rw [cz]
    clear cy hH36 cz HX3
    go_wp2
    go_roundg (M.length - (jj + 1))
    case measure => omega
    case rel =>
     refine ⟨jj + 1, by omega, by omega, by go_num, ?_, BN⟩
     rw [HST.out, if_pos (by rw [HCY.out]; rfl)]
   ·have cz : ((hh : Int) + 1 == 1) = false := by rw [beq_eq_false_iff_ne]; omega
    have HCY := Aside0.mk cy
    rw [cz]
    clear cy hH36 cz HX3
    go_wp2
    go_roundg (M.length - (jj + 1))
    case measure => omega
    case rel =>
     refine ⟨jj + 1, by omega, by omega, by go_num, ?_, BN⟩
     rw [HST.out, if_neg (by have := HCY.out; simp; omega), Int.add_zero]
  ·have hltz : ¬ (jj : Int) < (M.length : Int) := by omega
   obtain rfl : jj = M.length := by omega
   rw [List.take_length]
   have BF := Aside0.mk (below_step B4.out HBJ.out)
   go_wp2
   go_ret
   exact ⟨rfl, BF.out⟩

/-! ### spec_pzHeaps: function 73 -/
def spec_pzHeaps.f  : Option (List Int) := (spec_cmHeaps.f 5 4).bind fun t170 => (some t170)
set_option maxHeartbeats 8000000 in
set_option maxRecDepth 100000 in
theorem spec_pzHeaps.calls  (r : List Int) (w : World) (h : spec_pzHeaps.f  = some r) :
  Calls Tryd.prog 73 #[] w fun e w' => ∃ v0_ : Value, e = .returned (v0_) ∧ Kd.R (Kd.int .i64) 3 w' w.heap.size (fun _ => True) v0_ r ∧ Below w.heap.size w w' := by
 have HB := Aside0.mk (Below.refl w.heap.size w)
 have H : ((spec_cmHeaps.f 5 4).bind fun t170 => (some t170)) = some r := h
 clear h
 replace H := Option.bind_eq_some_iff.mp H
 obtain ⟨t170, A10, H⟩ := H
 replace H : (some t170) = some r := H
 have A1 := Aside0.mk A10
 clear A10
 obtain rfl := Option.some.inj H
 go_enter Tryd.func73, Tryd.ntmps73
 go_wp2_with (first | ((with_reducible refine gate_callee (f := 115) rfl ?_); refine goesL_ (some 1) rfl rfl Tryd.func115 (by kernel_rfl) rfl #[.int .i64 5, .int .i64 4] rfl (by (try simp only [List.map_toArray, List.map_cons, List.map_nil]); first | done | rfl | (simp only [List.length_drop, List.length_take]; rfl)) ?_; (with_reducible refine (spec_cmHeaps.calls 5 4 t170 _ A1.out).mono ?_); rintro e w2 ⟨v171, rfl, ho0, hb⟩; refine ⟨_, rfl, ?_⟩; have n0_ := Aside0.mk (Kd.R_lower ho0 (below_size (Lam.al))); have n1_ := Aside0.mk (below_step (Lam.al) hb); clear HB; have HO172 := n0_; have HB := n1_; clear n0_ n1_; (try clear hb); (try clear hb2); (try clear hk); (try clear hi); (try clear ho0)))
 go_ret
 exact ⟨_, by first | rfl | (simp [errW_none, errW_some] <;> rfl) | (simp [*, errW_none, errW_some] <;> rfl), by (with_reducible repeat (first | apply Kd.R_alloc | apply Kd.R_drewN | apply Kd.R_drew)); exact HO172.out, Lam.al⟩

/-! ### spec_pzAll: function 79 -/
theorem spec_pzAll.heapsF : spec_pzHeaps.f = some (All.tab (All.all 5 4)) := by
 unfold spec_pzHeaps.f spec_cmHeaps.f
 rw [if_pos (by omega)]; rfl
theorem spec_pzAll.valueF {r : List Int} (hm : r ∈ All.all 5 4) (kind a : Int) (ha : 0 ≤ a) : spec_pzValue.f kind a r (All.tab (All.all 5 4)) = some (Chomp.told kind a r) := by
 unfold spec_pzValue.f
 rw [if_pos ⟨Chomp.okB_iff.2 (All.ok_all hm (by decide) (by decide)), ha, hm, rfl⟩]
def spec_pzAll.fit (c : S42) (r : List Int) : Bool := Chomp.told c.f0 c.f1 r == c.f2
theorem spec_pzAll.take_snoc {α : Type} {L : List α} {k : Nat} (h : k < L.length) : L.take (k + 1) = L.take k ++ [L[k]] := by rw [List.take_add_one, List.getElem?_eq_getElem h]; rfl
def spec_pzAll.f (l0 : List (S42)) : Option ((List (List Int))) := if l0.all (fun c => decide (0 ≤ c.f1)) then some ((All.all 5 4).filter fun r => l0.all fun c => spec_pzAll.fit c r) else none
set_option maxHeartbeats 16000000 in
set_option maxRecDepth 100000 in
theorem spec_pzAll.calls (A0 : Option Addr) (c0 : Nat) (l0 : List (S42)) (r : List (List Int)) (w : World) (hr0 : Kd.C k42 w A0 l0.length l0) (hc0 : l0.length ≤ c0) (h : spec_pzAll.f l0 = some r) :
  Calls Tryd.prog 79 #[.slice A0 l0.length c0] w fun e w' => ∃ v0_ : Value, e = .returned (v0_) ∧ Kd.S (Kd.slice 3 (Kd.int .i64)) 25 w' w.heap.size (fun _ => True) v0_ r ∧ Below w.heap.size w w' := by
 have hcond : l0.all (fun c => decide (0 ≤ c.f1)) = true := by
  by_cases hc : l0.all (fun c => decide (0 ≤ c.f1)) = true
  ·exact hc
  ·simp only [spec_pzAll.f, if_neg hc] at h; cases h
 simp only [spec_pzAll.f, if_pos hcond] at h
 obtain rfl := Option.some.inj h
 have hpos : ∀ c ∈ l0, 0 ≤ c.f1 := fun c hc => by simpa using List.all_eq_true.1 hcond c hc
 have hall : spec_cmAll.f 5 4 = some (All.all 5 4) := by
  unfold spec_cmAll.f
  rw [if_pos (by omega)]
  exact All.look_all 5 4 (by decide)
 have HALL := Aside0.mk (fun W => spec_cmAll.calls 5 4 _ W hall)
 have HHP := Aside0.mk (fun W => spec_pzHeaps.calls _ W spec_pzAll.heapsF)
 have HVAL := Aside0.mk (fun r (hr : r ∈ All.all 5 4) (kind a : Int) (ha : 0 ≤ a) => spec_pzAll.valueF hr kind a ha)
 have HOK := Aside0.mk (fun r (hr : r ∈ All.all 5 4) => All.ok_all hr (by decide) (by decide))
 have HLEN := Aside0.mk (show (All.all 5 4).length ≤ 1296 by
  have h1 := All.tails_len 4 5
  have h3 : ((5 + 1) ^ 4 : Nat) = 1296 := by decide
  unfold All.all
  rw [List.length_tail]; omega)
 have HC := Aside0.mk hr0
 have HP := Aside0.mk hpos
 have HL := Aside0.mk (show (l0.length : Int) ≤ 9223372036854775807 by have := hr0.2.1; omega)
 have hl64 : (l0.length : Int) ≤ 9223372036854775807 := HL.out
 have HB := Aside0.mk (Below.refl w.heap.size w)
 clear hr0 hc0 h hcond hpos hall
 generalize hT : All.tab (All.all 5 4) = T at HHP HVAL
 have HTL := Aside0.mk (show T.length = 117649 by rw [← hT]; exact All.tab_len _)
 clear hT
 generalize All.all 5 4 = L at HALL HVAL HOK HLEN ⊢
 have hL64 : (L.length : Int) ≤ 9223372036854775807 := by have := HLEN.out; omega
 go_enter Tryd.func79, Tryd.ntmps79
 go_wp2_with (first
  | (go_at_call 73; go_loud (refine (HHP.out _).mono ?_; rintro e w1 ⟨v1, rfl, ho, hb⟩; obtain ⟨A1, c1, e1⟩ := Kd.R_slice ho; subst e1; have CT := Aside0.mk (Kd.R_reads' ho).2.2; have CTC := Aside0.mk (Kd.R_reads' ho).2.1; have B1 := Aside0.mk hb; clear ho hb))
  | (go_at_call 117; go_loud (refine (HALL.out _).mono ?_; rintro e w2 ⟨v2, rfl, ho, hb⟩; obtain ⟨A2, c2, e2⟩ := Kd.S_slice ho; subst e2; have B12 := Aside0.mk hb; have B2 := Aside0.mk (below_step B1.out hb); obtain ⟨f, hf⟩ := ho; have HS := Aside0.mk (Kd.R_bound hf); clear hf hb)))
 go_loopg [3, 13] L.length (fun gg s3 s13 wr => ∃ (kk : Nat) (vo : Value), kk ≤ L.length ∧ L.length - kk ≤ gg ∧ s13 = .int .i64 kk ∧ vo = s3 ∧ Aside0 (Below w2.heap.size w2 wr) ∧ Aside0 (∀ k, vo.ownBlock = some k → w2.heap.size ≤ k) ∧ Aside0 (Kd.S (Kd.slice 3 (Kd.int .i64)) 25 wr w.heap.size (fun k => k < w2.heap.size → f k < kk) vo ((L.take kk).filter fun r => l0.all fun c => spec_pzAll.fit c r)))
 case atStart => exact ⟨0, _, Nat.zero_le _, by omega, rfl, rfl, ⟨Below.refl _ _⟩, ⟨fun k hk => by simp [Value.ownBlock] at hk⟩, ⟨Kd.S_nil _ _ _ _ _⟩⟩
 case round =>
  obtain ⟨kk, vo, hkk, hgg, rfl, rfl, HBZ, HOW, HO⟩ := hrel
  by_cases hlt : kk < L.length
  ·have hltz : (kk : Int) < (L.length : Int) := by omega
   rcases Del.row_formR HS.out with ⟨_, h2⟩ | ⟨gv, cv, hv⟩
   ·have : L.zipIdx.length = 0 := by rw [h2]; rfl
    rw [List.length_zipIdx] at this; omega
   injection hv with hA hn hc2
   clear hn
   subst hA; subst hc2
   have HS2 : (Kd.tag f (Kd.slice 3 (Kd.int .i64))).R 25 w2 w1.heap.size _ (.slice (some ⟨gv, 0, none⟩) L.length c2) L.zipIdx := HS.out
   obtain ⟨-, -, -, curv, hgv, hnv, -, hMv⟩ := Del.row_ofR rfl HS2 (([] : List Int), 0)
   have hm := hMv kk hlt
   have hzip : L.zipIdx.getD kk ([], 0) = (L.getD kk [], kk) := by
    rw [List.getD_eq_getElem?_getD, Kd.zip_at (List.getElem?_eq_getElem hlt), List.getD_eq_getElem?_getD, List.getElem?_eq_getElem hlt]; rfl
   rw [hzip] at hm
   have hmem := Lam.getD_mem hlt ([] : List Int)
   have hok := HOK.out _ hmem
   have HV := Aside0.mk (HVAL.out _ hmem)
   have hrk : L[kk] = L.getD kk [] := by rw [List.getD_eq_getElem?_getD, List.getElem?_eq_getElem hlt]; rfl
   have HRK := Aside0.mk hrk
   clear hrk
   generalize hrr : L.getD kk [] = r at hm hok HRK HV
   obtain ⟨vr, hvr, hRr⟩ := hm
   have hx0 : wr.cell? ⟨gv, kk, none⟩ = some curv[kk]! := (blk_cell (blk_below hgv HBZ.out) kk).trans (Del.arr_at (by omega))
   injection hvr with hvr
   rw [hvr] at hx0
   rcases Del.row_formR hRr with ⟨_, h3⟩ | ⟨g0, c0r, hq⟩
   ·exact absurd h3 hok.1
   have hq' : vr = .slice (some ⟨g0, 0, none⟩) r.length c0r := hq
   clear hq
   subst hq'
   have hok0 := hRr.1 g0 (by simp [Value.ownBlock])
   have G0 := Aside0.mk (⟨hok0.1.1.2.2.1, hok0.2⟩ : g0 < w2.heap.size ∧ f g0 = kk)
   have HRt := Aside0.mk (Kd.R_tight rfl hRr)
   have LEN := Aside0.mk hlt
   have RCAP := Aside0.mk (Kd.R_reads' hRr).2.1
   clear hMv hnv hgv hok0 hRr hrr hvr hzip hok HS2 hmem
   go_wp2
   obtain ⟨wo, hwo⟩ : ∃ wo, wo = wr := ⟨wr, rfl⟩
   subst hwo
   go_loopg [7, 19] l0.length (fun gg2 s7 s19 wz => ∃ jj : Nat, jj ≤ l0.length ∧ l0.length - jj ≤ gg2 ∧ s19 = .int .i64 jj ∧ s7 = .bool ((l0.take jj).all fun c => spec_pzAll.fit c r) ∧ Aside0 (Below wo.heap.size wo wz))
   case atStart => exact ⟨0, Nat.zero_le _, by omega, rfl, rfl, ⟨Below.refl _ _⟩⟩
   case round =>
    obtain ⟨jj, hjj, hgg2, rfl, rfl, HBJ⟩ := hrel
    have BZ2 := Aside0.mk (below_step HBZ.out HBJ.out)
    by_cases hlt2 : jj < l0.length
    ·have hltz2 : (jj : Int) < (l0.length : Int) := by omega
     obtain ⟨ad, cs_, e_, _, hK_, hc_⟩ := Kd.C_get (Kd.C_below HC.out (below_step B2.out BZ2.out)) z42 (jj : Int) (by omega) hltz2
     have hmem2 := Lam.getD_mem hlt2 z42
     have hcpos := HP.out _ hmem2
     have hck : l0[jj] = l0.getD jj z42 := by rw [List.getD_eq_getElem?_getD, List.getElem?_eq_getElem hlt2]; rfl
     have hK2 : (k42).K wr (l0.getD jj z42) cs_ := hK_
     have HCK := Aside0.mk hck
     clear hck
     generalize l0.getD jj z42 = y at hK2 hcpos HCK
     clear hmem2 hK_
     obtain rfl := k42_open hK2
     have hx0 := hc_ 0 _ rfl
     rw [show ((jj : Int).toNat * (k42).sz + 0) = jj * 3 + 0 from rfl] at hx0
     rw [Nat.add_zero] at hx0
     have hx1 := hc_ 1 _ rfl
     rw [show ((jj : Int).toNat * (k42).sz + 1) = jj * 3 + 1 from rfl] at hx1
     rw [add_field _ _ 1 (by omega)] at hx1
     have hx2 := hc_ 2 _ rfl
     rw [show ((jj : Int).toNat * (k42).sz + 2) = jj * 3 + 2 from rfl] at hx2
     rw [add_field _ _ 2 (by omega)] at hx2
     clear hc_ hK2
     subst e_
     have LEN2 := Aside0.mk hlt2
     obtain ⟨ya, yb, yc⟩ := y
     dsimp only at hx0 hx1 hx2 hcpos
     generalize hall : ((l0.take jj).all fun c => spec_pzAll.fit c r) = fb
     have HFB := Aside0.mk hall
     clear hall
     have HVV := Aside0.mk (HV.out ya yb hcpos)
     cases fb with
     | true =>
      go_wp2_with (first
       | ((with_reducible refine gate_dst (N := 9) rfl ?_); refine box_event ?hg (N := 9) ?hd (cs := #[.int .i64 0, .int .i64 0, .int .i64 0]) (t := 42) ?hr ?_; (case hd => rfl); (case hg => rfl); (case hr => first | (go_simp; done) | (go_simp; rfl)); intro g9 hg9 w9 hbox hb; have G9 := Aside0.mk hg9; have X9 := Aside0.mk hbox; have B9 := Aside0.mk hb; have hcz0 : w9.cell? ⟨g9, 0, none⟩ = some (.int .i64 0) := (blk_cell hbox 0).trans rfl; have hcz1 : w9.cell? ⟨g9, 1, none⟩ = some (.int .i64 0) := (blk_cell hbox 1).trans rfl; have hcz2 : w9.cell? ⟨g9, 2, none⟩ = some (.int .i64 0) := (blk_cell hbox 2).trans rfl; have hfz0 := blk_frozen hbox 0; have hfz1 := blk_frozen hbox 1; have hfz2 := blk_frozen hbox 2; clear hg9 hbox hb))
      have XX : ((((w9.setCell ⟨g9, 0, none⟩ (.int .i64 ya)).setCell ⟨g9, 1, none⟩ (.int .i64 yb)).setCell ⟨g9, 2, none⟩ (.int .i64 yc)).drew).heap[g9]? = some (.cells #[.int .i64 ya, .int .i64 yb, .int .i64 yc] 42 (0, 0)) := by
       refine blk_put (cs := #[.int .i64 ya, .int .i64 yb, .int .i64 0]) ?_ 2 _ rfl
       refine blk_put (cs := #[.int .i64 ya, .int .i64 0, .int .i64 0]) ?_ 1 _ rfl
       refine blk_put (cs := #[.int .i64 0, .int .i64 0, .int .i64 0]) ?_ 0 _ rfl
       exact X9.out
      have BB : Below wo.heap.size wo ((((w9.setCell ⟨g9, 0, none⟩ (.int .i64 ya)).setCell ⟨g9, 1, none⟩ (.int .i64 yb)).setCell ⟨g9, 2, none⟩ (.int .i64 yc)).drew) := by
       have hg : wo.heap.size ≤ g9 := by rw [G9.out]; exact HBJ.out.size
       exact below_drew (below_set (g := g9) (below_set (g := g9) (below_set (g := g9) (below_step HBJ.out B9.out) hg) hg) hg)
      refine start_ (n := 14) (S := fun w' => w'.heap[g9]? = some (.cells #[.int .i64 ya, .int .i64 yb, .int .i64 yc] 42 (0, 0))) (ds := []) #[false, false, false, false, false, false, false, false, false, false, false, false, false, false] (by kernel_rfl) rfl rfl XX (fun hHeld => ?_)
      clear hcz0 hcz1 hcz2 hfz0 hfz1 hfz2 hx0 hx1 hx2
      generalize ((((w9.setCell ⟨g9, 0, none⟩ (.int .i64 ya)).setCell ⟨g9, 1, none⟩ (.int .i64 yb)).setCell ⟨g9, 2, none⟩ (.int .i64 yc)).drew) = we at XX BB hHeld ⊢
      refine pure_ (i := 0) (N := some 23) (v := ?_) (a' := ?_) #[true, false, false, false, false, false, false, false, false, false, false, false, false, false] rfl rfl (by kernel_rfl) (fun _ _ _ h => h) (Or.inl ⟨by rfl, ?_⟩) ?_ ?_
      rotate_left
      ·intro w'
       go_simp
       with_reducible rfl
      rotate_left
      ·simp only [Act.put, Lam.pa, Lam.pb, Lam.pc, i64_w, i32_w]
       rfl
      refine pure_ (i := 1) (N := some 24) (v := ?_) (a' := ?_) #[true, true, false, false, false, false, false, false, false, false, false, false, false, false] rfl rfl (by kernel_rfl) (fun _ _ _ h => h) (Or.inl ⟨by rfl, ?_⟩) ?_ ?_
      rotate_left
      ·intro w'
       go_simp
       with_reducible rfl
      rotate_left
      ·simp only [Act.put, Lam.pa, Lam.pb, Lam.pc, i64_w, i32_w]
       rfl
      refine pure_ (i := 2) (N := some 25) (v := ?_) (a' := ?_) #[true, true, true, false, false, false, false, false, false, false, false, false, false, false] rfl rfl (by kernel_rfl) (fun _ _ _ h => h) (Or.inl ⟨by rfl, ?_⟩) ?_ ?_
      rotate_left
      ·intro w'
       go_simp
       with_reducible rfl
      rotate_left
      ·simp only [Act.put, Lam.pa, Lam.pb, Lam.pc, i64_w, i32_w]
       rfl
      refine take_ (i := 3) (N := some 26) (v := ?_) (a' := ?_) #[true, true, true, true, false, false, false, false, false, false, false, false, false, false] rfl rfl (by kernel_rfl) (fun _ _ _ h => h) (Or.inl ⟨by rfl, ?_⟩) hHeld ?_ ?_
      rotate_left
      ·rintro w' s0
       have s1 := (blk_cell s0 0).trans rfl
       go_simp
       with_reducible rfl
      rotate_left
      ·simp only [Act.put, Lam.pa, Lam.pb, Lam.pc, i64_w, i32_w]
       rfl
      refine pure_ (i := 4) (N := some 27) (v := ?_) (a' := ?_) #[true, true, true, true, true, false, false, false, false, false, false, false, false, false] rfl rfl (by kernel_rfl) (fun _ _ _ h => h) (Or.inl ⟨by rfl, ?_⟩) ?_ ?_
      rotate_left
      ·intro w'
       go_simp
       with_reducible rfl
      rotate_left
      ·simp only [Act.put, Lam.pa, Lam.pb, Lam.pc, i64_w, i32_w]
       rfl
      refine take_ (i := 5) (N := some 28) (v := ?_) (a' := ?_) #[true, true, true, true, true, true, false, false, false, false, false, false, false, false] rfl rfl (by kernel_rfl) (fun _ _ _ h => h) (Or.inl ⟨by rfl, ?_⟩) hHeld ?_ ?_
      rotate_left
      ·rintro w' s0
       have s1 := (blk_cell s0 1).trans rfl
       go_simp
       with_reducible rfl
      rotate_left
      ·simp only [Act.put, Lam.pa, Lam.pb, Lam.pc, i64_w, i32_w]
       rfl
      refine pure_ (i := 6) (N := some 29) (v := ?_) (a' := ?_) #[true, true, true, true, true, true, true, false, false, false, false, false, false, false] rfl rfl (by kernel_rfl) (fun _ _ _ h => h) (Or.inl ⟨by rfl, ?_⟩) ?_ ?_
      rotate_left
      ·intro w'
       go_simp
       with_reducible rfl
      rotate_left
      ·simp only [Act.put, Lam.pa, Lam.pb, Lam.pc, i64_w, i32_w]
       rfl
      refine pure_ (i := 7) (N := some 30) (v := ?_) (a' := ?_) #[true, true, true, true, true, true, true, true, false, false, false, false, false, false] rfl rfl (by kernel_rfl) (fun _ _ _ h => h) (Or.inl ⟨by rfl, ?_⟩) ?_ ?_
      rotate_left
      ·intro w'
       go_simp
       with_reducible rfl
      rotate_left
      ·simp only [Act.put, Lam.pa, Lam.pb, Lam.pc, i64_w, i32_w]
       rfl
      refine pure_ (i := 9) (N := some 32) (v := ?_) (a' := ?_) #[true, true, true, true, true, true, true, true, false, true, false, false, false, false] rfl rfl (by kernel_rfl) (fun _ _ _ h => h) (Or.inl ⟨by rfl, ?_⟩) ?_ ?_
      rotate_left
      ·intro w'
       go_simp
       with_reducible rfl
      rotate_left
      ·simp only [Act.put, Lam.pa, Lam.pb, Lam.pc, i64_w, i32_w]
       rfl
      refine take_ (i := 10) (N := some 33) (v := ?_) (a' := ?_) #[true, true, true, true, true, true, true, true, false, true, true, false, false, false] rfl rfl (by kernel_rfl) (fun _ _ _ h => h) (Or.inl ⟨by rfl, ?_⟩) hHeld ?_ ?_
      rotate_left
      ·rintro w' s0
       have s1 := (blk_cell s0 2).trans rfl
       go_simp
       with_reducible rfl
      rotate_left
      ·simp only [Act.put, Lam.pa, Lam.pb, Lam.pc, i64_w, i32_w]
       rfl
      refine one_ (i := 8) (N := some 31) #[true, true, true, true, true, true, true, true, true, true, true, false, false, false] rfl rfl (by kernel_rfl) (by decide) (fun K hK => ?_)
      refine goes_ Tryd.func72 (by kernel_rfl) rfl #[.int .i64 ya, .int .i64 yb, .slice (some ⟨g0, 0, none⟩) r.length c0r, .slice A1 T.length c1] (by rfl) rfl rfl (by (try simp only [List.map_toArray, List.map_cons, List.map_nil]); first | done | rfl | (simp [Act.eval]; done)) ?_
      have BW2 : Below w2.heap.size w2 we := below_step HBZ.out BB
      refine (spec_pzValue.calls ya yb (some ⟨g0, 0, none⟩) c0r r A1 c1 T _ we (Kd.R_reads' (Kd.R_below HRt.out BW2)).2.2 RCAP.out (Kd.C_below CT.out (below_step B12.out BW2)) CTC.out HVV.out).mono ?_
      rintro e w6 ⟨rfl, hb6⟩
      have hb6' : Below we.heap.size we w6 := by first | exact hb6 | exact hb6.below
      refine ⟨_, rfl, ?_⟩
      refine hK.out _ _ (blk_below hHeld hb6') (fun hHeld => ?_)
      clear hK K
      refine norm_ (a' := ?_) ?_ ?_
      rotate_left
      ·show Act.put _ (some 31) _ = _
       simp only [Act.put, Lam.pa, Lam.pb, Lam.pc, i64_w, i32_w]
       rfl
      refine pure_ (i := 11) (N := some 34) (v := ?_) (a' := ?_) #[true, true, true, true, true, true, true, true, true, true, true, true, false, false] rfl rfl (by kernel_rfl) (fun _ _ _ h => h) (Or.inl ⟨by rfl, ?_⟩) ?_ ?_
      rotate_left
      ·intro w'
       go_simp
       with_reducible rfl
      rotate_left
      ·simp only [Act.put, Lam.pa, Lam.pb, Lam.pc, i64_w, i32_w]
       rfl
      refine pure_ (i := 12) (N := some 35) (v := ?_) (a' := ?_) #[true, true, true, true, true, true, true, true, true, true, true, true, true, false] rfl rfl (by kernel_rfl) (fun _ _ _ h => h) (Or.inl ⟨by rfl, ?_⟩) ?_ ?_
      rotate_left
      ·intro w'
       go_simp
       with_reducible rfl
      rotate_left
      ·simp only [Act.put, Lam.pa, Lam.pb, Lam.pc, i64_w, i32_w]
       rfl
      refine pure_ (i := 13) (N := some 7) (v := ?_) (a' := ?_) #[true, true, true, true, true, true, true, true, true, true, true, true, true, true] rfl rfl (by kernel_rfl) (fun _ _ _ h => h) (Or.inl ⟨by rfl, ?_⟩) ?_ ?_
      rotate_left
      ·intro w'
       go_simp
       with_reducible rfl
      rotate_left
      ·simp only [Act.put, Lam.pa, Lam.pb, Lam.pc, i64_w, i32_w]
       rfl
      refine done_ (by kernel_rfl) ?_
      have BW := Aside0.mk (below_step BB hb6')
      clear hHeld XX BB hb6 hb6' BW2
      go_wp2
      go_roundg (l0.length - (jj + 1))
      case measure => omega
      case rel =>
       refine ⟨jj + 1, by omega, by omega, by go_num, ?_, BW⟩
       rw [spec_pzAll.take_snoc LEN2.out, List.all_append, HFB.out, HCK.out]
       simp [spec_pzAll.fit]
     | false =>
      go_wp2_with (first
       | ((with_reducible refine gate_dst (N := 9) rfl ?_); refine box_event ?hg (N := 9) ?hd (cs := #[.int .i64 0, .int .i64 0, .int .i64 0]) (t := 42) ?hr ?_; (case hd => rfl); (case hg => rfl); (case hr => first | (go_simp; done) | (go_simp; rfl)); intro g9 hg9 w9 hbox hb; have G9 := Aside0.mk hg9; have B9 := Aside0.mk hb; have hcz0 : w9.cell? ⟨g9, 0, none⟩ = some (.int .i64 0) := (blk_cell hbox 0).trans rfl; have hcz1 : w9.cell? ⟨g9, 1, none⟩ = some (.int .i64 0) := (blk_cell hbox 1).trans rfl; have hcz2 : w9.cell? ⟨g9, 2, none⟩ = some (.int .i64 0) := (blk_cell hbox 2).trans rfl; have hfz0 := blk_frozen hbox 0; have hfz1 := blk_frozen hbox 1; have hfz2 := blk_frozen hbox 2; clear hg9 hbox hb))
      have BB : Below wo.heap.size wo ((((w9.setCell ⟨g9, 0, none⟩ (.int .i64 ya)).setCell ⟨g9, 1, none⟩ (.int .i64 yb)).setCell ⟨g9, 2, none⟩ (.int .i64 yc)).drew) := by
       have hg : wo.heap.size ≤ g9 := by rw [G9.out]; exact HBJ.out.size
       exact below_drew (below_set (g := g9) (below_set (g := g9) (below_set (g := g9) (below_step HBJ.out B9.out) hg) hg) hg)
      refine start_ (n := 14) (S := fun _ => True) (ds := []) #[false, false, false, false, false, false, false, false, false, false, false, false, false, false] (by kernel_rfl) rfl rfl trivial (fun hHeld => ?_)
      clear hcz0 hcz1 hcz2 hfz0 hfz1 hfz2 hx0 hx1 hx2
      generalize ((((w9.setCell ⟨g9, 0, none⟩ (.int .i64 ya)).setCell ⟨g9, 1, none⟩ (.int .i64 yb)).setCell ⟨g9, 2, none⟩ (.int .i64 yc)).drew) = we at BB hHeld ⊢
      refine pure_ (i := 0) (N := some 23) (v := ?_) (a' := ?_) #[true, false, false, false, false, false, false, false, false, false, false, false, false, false] rfl rfl (by kernel_rfl) (fun _ _ _ h => h) (Or.inl ⟨by rfl, ?_⟩) ?_ ?_
      rotate_left
      ·intro w'
       go_simp
       with_reducible rfl
      rotate_left
      ·simp only [Act.put, Lam.pa, Lam.pb, Lam.pc, i64_w, i32_w]
       rfl
      refine pure_ (i := 1) (N := some 24) (v := ?_) (a' := ?_) #[true, true, false, false, false, false, false, false, false, false, false, false, false, false] rfl rfl (by kernel_rfl) (fun _ _ _ h => h) (Or.inl ⟨by rfl, ?_⟩) ?_ ?_
      rotate_left
      ·intro w'
       go_simp
       with_reducible rfl
      rotate_left
      ·simp only [Act.put, Lam.pa, Lam.pb, Lam.pc, i64_w, i32_w]
       rfl
      refine pure_ (i := 2) (N := some 25) (v := undef) (a' := ?_) #[true, true, true, false, false, false, false, false, false, false, false, false, false, false] rfl rfl (by kernel_rfl) (fun _ _ _ h => h) (Or.inr ⟨by rfl, by rfl⟩) ?_ ?_
      rotate_left
      ·simp only [Act.put, Lam.pa, Lam.pb, Lam.pc, i64_w, i32_w]
       rfl
      refine pure_ (i := 3) (N := some 26) (v := undef) (a' := ?_) #[true, true, true, true, false, false, false, false, false, false, false, false, false, false] rfl rfl (by kernel_rfl) (fun _ _ _ h => h) (Or.inr ⟨by rfl, by rfl⟩) ?_ ?_
      rotate_left
      ·simp only [Act.put, Lam.pa, Lam.pb, Lam.pc, i64_w, i32_w]
       rfl
      refine pure_ (i := 4) (N := some 27) (v := undef) (a' := ?_) #[true, true, true, true, true, false, false, false, false, false, false, false, false, false] rfl rfl (by kernel_rfl) (fun _ _ _ h => h) (Or.inr ⟨by rfl, by rfl⟩) ?_ ?_
      rotate_left
      ·simp only [Act.put, Lam.pa, Lam.pb, Lam.pc, i64_w, i32_w]
       rfl
      refine pure_ (i := 5) (N := some 28) (v := undef) (a' := ?_) #[true, true, true, true, true, true, false, false, false, false, false, false, false, false] rfl rfl (by kernel_rfl) (fun _ _ _ h => h) (Or.inr ⟨by rfl, by rfl⟩) ?_ ?_
      rotate_left
      ·simp only [Act.put, Lam.pa, Lam.pb, Lam.pc, i64_w, i32_w]
       rfl
      refine pure_ (i := 6) (N := some 29) (v := undef) (a' := ?_) #[true, true, true, true, true, true, true, false, false, false, false, false, false, false] rfl rfl (by kernel_rfl) (fun _ _ _ h => h) (Or.inr ⟨by rfl, by rfl⟩) ?_ ?_
      rotate_left
      ·simp only [Act.put, Lam.pa, Lam.pb, Lam.pc, i64_w, i32_w]
       rfl
      refine pure_ (i := 7) (N := some 30) (v := undef) (a' := ?_) #[true, true, true, true, true, true, true, true, false, false, false, false, false, false] rfl rfl (by kernel_rfl) (fun _ _ _ h => h) (Or.inr ⟨by rfl, by rfl⟩) ?_ ?_
      rotate_left
      ·simp only [Act.put, Lam.pa, Lam.pb, Lam.pc, i64_w, i32_w]
       rfl
      refine pure_ (i := 8) (N := some 31) (v := undef) (a' := ?_) #[true, true, true, true, true, true, true, true, true, false, false, false, false, false] rfl rfl (by kernel_rfl) (fun _ _ _ h => h) (Or.inr ⟨by rfl, by rfl⟩) ?_ ?_
      rotate_left
      ·simp only [Act.put, Lam.pa, Lam.pb, Lam.pc, i64_w, i32_w]
       rfl
      refine pure_ (i := 9) (N := some 32) (v := undef) (a' := ?_) #[true, true, true, true, true, true, true, true, true, true, false, false, false, false] rfl rfl (by kernel_rfl) (fun _ _ _ h => h) (Or.inr ⟨by rfl, by rfl⟩) ?_ ?_
      rotate_left
      ·simp only [Act.put, Lam.pa, Lam.pb, Lam.pc, i64_w, i32_w]
       rfl
      refine pure_ (i := 10) (N := some 33) (v := undef) (a' := ?_) #[true, true, true, true, true, true, true, true, true, true, true, false, false, false] rfl rfl (by kernel_rfl) (fun _ _ _ h => h) (Or.inr ⟨by rfl, by rfl⟩) ?_ ?_
      rotate_left
      ·simp only [Act.put, Lam.pa, Lam.pb, Lam.pc, i64_w, i32_w]
       rfl
      refine pure_ (i := 11) (N := some 34) (v := undef) (a' := ?_) #[true, true, true, true, true, true, true, true, true, true, true, true, false, false] rfl rfl (by kernel_rfl) (fun _ _ _ h => h) (Or.inr ⟨by rfl, by rfl⟩) ?_ ?_
      rotate_left
      ·simp only [Act.put, Lam.pa, Lam.pb, Lam.pc, i64_w, i32_w]
       rfl
      refine pure_ (i := 12) (N := some 35) (v := ?_) (a' := ?_) #[true, true, true, true, true, true, true, true, true, true, true, true, true, false] rfl rfl (by kernel_rfl) (fun _ _ _ h => h) (Or.inl ⟨by rfl, ?_⟩) ?_ ?_
      rotate_left
      ·intro w'
       go_simp
       with_reducible rfl
      rotate_left
      ·simp only [Act.put, Lam.pa, Lam.pb, Lam.pc, i64_w, i32_w]
       rfl
      refine pure_ (i := 13) (N := some 7) (v := ?_) (a' := ?_) #[true, true, true, true, true, true, true, true, true, true, true, true, true, true] rfl rfl (by kernel_rfl) (fun _ _ _ h => h) (Or.inl ⟨by rfl, ?_⟩) ?_ ?_
      rotate_left
      ·intro w'
       go_simp
       with_reducible rfl
      rotate_left
      ·simp only [Act.put, Lam.pa, Lam.pb, Lam.pc, i64_w, i32_w]
       rfl
      refine done_ (by kernel_rfl) ?_
      have BW := Aside0.mk BB
      clear hHeld BB
      go_wp2
      go_roundg (l0.length - (jj + 1))
      case measure => omega
      case rel =>
       refine ⟨jj + 1, by omega, by omega, by go_num, ?_, BW⟩
       rw [spec_pzAll.take_snoc LEN2.out, List.all_append, HFB.out, Bool.false_and]
    ·have hltz2 : ¬ (jj : Int) < (l0.length : Int) := by omega
     obtain rfl : jj = l0.length := by omega
     rw [List.take_length]
     have hfil : (L.take (kk + 1)).filter (fun r => l0.all fun c => spec_pzAll.fit c r) = ((L.take kk).filter fun r => l0.all fun c => spec_pzAll.fit c r) ++ (if (l0.all fun c => spec_pzAll.fit c r) = true then [r] else []) := by
      rw [spec_pzAll.take_snoc LEN.out, List.filter_append, HRK.out, List.filter_cons, List.filter_nil]
     have HFIL := Aside0.mk hfil
     have HOZ := Aside0.mk (Kd.S_below HO.out HBJ.out)
     clear hfil
     cases hall : (l0.all fun c => spec_pzAll.fit c r) with
     | false =>
      have HFA := Aside0.mk hall
      clear hall
      go_wp2
      go_roundg (L.length - (kk + 1))
      case measure => omega
      case rel =>
       refine ⟨kk + 1, vo, by omega, by omega, by go_num, rfl, BZ2, HOW, ⟨?_⟩⟩
       rw [HFIL.out, HFA.out, if_neg (by simp), List.append_nil]
       exact Kd.S_mono HOZ.out (fun k hk hlt => by have := hk hlt; omega)
     | true =>
      have HFA := Aside0.mk hall
      clear hall
      have hown1 := (Kd.S_R HO.out).1
      obtain ⟨Ao, co, eo⟩ := Kd.S_slice HO.out
      generalize hfl : ((L.take kk).filter fun r => l0.all fun c => spec_pzAll.fit c r) = acc at HFIL HOZ eo
      have hacc : acc.length ≤ 1296 := by rw [← hfl]; refine Nat.le_trans (List.length_filter_le _ _) ?_; rw [List.length_take]; have := HLEN.out; omega
      have HACC := Aside0.mk hacc
      clear hfl hacc
      subst eo
      have HOWN := Aside0.mk (show some g0 ≠ (Value.slice Ao acc.length co).ownBlock from fun e => by have := hown1 g0 e.symm G0.out.1; have := G0.out.2; omega)
      clear hown1
      have AK := Aside0.mk (show ∀ k, some k = (Value.slice (some ⟨g0, 0, none⟩) r.length c0r).ownBlock → (k < w2.heap.size → f k < kk + 1) ∧ some k ≠ (Value.slice Ao acc.length co).ownBlock from fun k hk => by
       have hk' : k = g0 := by simpa [Value.ownBlock] using hk
       subst hk'
       exact ⟨fun _ => by have := G0.out.2; omega, HOWN.out⟩)
      have AF := Aside0.mk (show ∀ k, wr.heap.size ≤ k → (k < w2.heap.size → f k < kk + 1) from fun k hk hlt => by have := BZ2.out.size; omega)
      have AO := Aside0.mk (Kd.S_mono HOZ.out (ok' := fun k => (k < w2.heap.size → f k < kk + 1) ∧ ¬ (some k = (Value.slice (some ⟨g0, 0, none⟩) r.length c0r).ownBlock)) (fun k hk => ⟨fun hlt => by have := hk hlt; omega, fun e => by
       have hk' : k = g0 := by simpa [Value.ownBlock] using e
       subst hk'
       have := hk G0.out.1; have := G0.out.2; omega⟩))
      have AB := Aside0.mk (below_step B2.out BZ2.out)
      have AS := Aside0.mk (Nat.le_trans B2.out.size BZ2.out.size)
      have AP := Aside0.mk (Kd.M_row (Kd.R_lower (Kd.R_below HRt.out BZ2.out) B1.out.size))
      go_wp2_with (first
       | ((with_reducible refine gate_builtin (b := .append) (xs := #[.tmp 38, .tmp 40]) rfl ?_); at_builtin; go_loud (refine Kd.S_append (Kd.slice 3 (Kd.int .i64)) (w0 := w) w.heap.size rfl (.tmp 38) (.tmp 40) 67 25 (.slice none 0 0) 24 rfl Tryd.underlying67 info25 rfl (by decide) (by omega) (.slice Ao acc.length co) acc r [.slice (some ⟨g0, 0, none⟩) r.length c0r] (fun k => k < w2.heap.size → f k < kk + 1) (fun k => some k = (Value.slice (some ⟨g0, 0, none⟩) r.length c0r).ownBlock) rfl rfl AP.out AK.out AF.out AO.out AB.out AS.out ?aL ?_); (case aL => have := HACC.out; omega); intro v1 w8 ho1 hb1 hg1 hat1; have O1 := Aside0.mk ho1; have BG := Aside0.mk (Below.grown BZ2.out hg1 BZ2.out.size (fun q hq => HOW.out q hq)); have AT1 := Aside0.mk hat1; clear ho1 hb1 hg1 hat1))
      have OW1 := Aside0.mk (show ∀ k, v1.ownBlock = some k → w2.heap.size ≤ k from fun k hk => by
       rcases AT1.out with h | ⟨b, hb, hle⟩
       ·exact HOW.out k (by rw [← h]; exact hk)
       ·rw [hb] at hk
        injection hk with hk
        have := BZ2.out.size; omega)
      go_roundg (L.length - (kk + 1))
      case measure => omega
      case rel =>
       refine ⟨kk + 1, v1, by omega, by omega, by go_num, rfl, BG, OW1, ⟨?_⟩⟩
       rw [HFIL.out, HFA.out, if_pos rfl]
       exact O1.out
  ·have hltz : ¬ (kk : Int) < (L.length : Int) := by omega
   obtain rfl : kk = L.length := by omega
   have ho := HO.out
   rw [List.take_length] at ho
   have HO2 := Aside0.mk (Kd.S_mono ho (fun _ _ => trivial) : Kd.S (Kd.slice 3 (Kd.int .i64)) 25 wr w.heap.size (fun _ => True) _ _)
   have BF := Aside0.mk (below_step B2.out HBZ.out)
   clear ho
   go_wp2
   go_ret
   exact ⟨_, rfl, HO2.out, BF.out⟩

end Go.Proofs.YtipiocdppghhnaaDoor.PFnExactHarderPuzzle
