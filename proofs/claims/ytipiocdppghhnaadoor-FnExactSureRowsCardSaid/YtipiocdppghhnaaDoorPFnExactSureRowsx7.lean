-- Made by a program of this session (wip/xprint.py) out of the translation.
import Derived.Test.YtipiocdppghhnaaDoorPFnExactSureRowsx0
import Derived.Test.YtipiocdppghhnaaDoorPFnExactSureRowsx2
import Derived.Test.YtipiocdppghhnaaDoorPFnExactSureRowsx4
import Derived.Test.YtipiocdppghhnaaDoorPFnExactSureRowsx5
import Derived.Test.YtipiocdppghhnaaDoorPFnExactSureRowsx6
namespace Go.Proofs.YtipiocdppghhnaaDoor.PFnExactSureRows
open Go.RowKit Go.Proofs.YtipiocdppghhnaaDoorW.PrintWords Go.Proofs.YtipiocdppghhnaaDoorW.PrintLast Go.Proofs.YtipiocdppghhnaaDoorW.PrintMore
attribute [local go_sem] max2_int min2_int max_two min_two max_three min_three max_four min_four   -- for this text's walks alone
set_option linter.unusedVariables false
set_option linter.unusedSimpArgs false

/-! ### spec_pzAll: function 79 -/
theorem spec_pzAll.heapsF : spec_pzHeaps.f = some (All.tab (All.all 5 4)) := by
 unfold spec_pzHeaps.f spec_cmHeaps.f
 rw [if_pos (by omega)]; rfl
theorem spec_pzAll.sumF {r : List Int} (hr : Chomp.Ok r) (k : Nat) (hk : 6 < k) : spec_cmSum.f k r = some r.sum := by
 have hb := Chomp.sum_le hr.2.2
 have h6 := hr.2.1
 have key : ∀ (d i k : Nat) (s : Int), i + d = r.length → d < k → s = (r.take i).sum → spec_cmSum.l0 k s r (r.length : Int) (i : Int) = some r.sum := by
  intro d
  induction d with
  | zero =>
   intro i k s hi hk hs
   obtain ⟨k, rfl⟩ : ∃ q, k = q + 1 := ⟨k - 1, by omega⟩
   obtain rfl : i = r.length := by omega
   simp only [spec_cmSum.l0]
   rw [if_neg (by omega), hs, List.take_length]
  | succ d ih =>
   intro i k s hi hk hs
   obtain ⟨k, rfl⟩ : ∃ q, k = q + 1 := ⟨k - 1, by omega⟩
   have hlt : i < r.length := by omega
   have ht : r.take (i + 1) = r.take i ++ [r[i]] := by rw [List.take_add_one, List.getElem?_eq_getElem hlt]; rfl
   have hs2 : (r.take (i + 1)).sum = s + r[i] := by rw [ht, List.sum_append, hs]; simp
   have hb2 := Chomp.sum_le (r := r.take (i + 1)) (fun x hx => hr.2.2 x (List.mem_of_mem_take hx))
   rw [List.length_take] at hb2
   have hrd : rd r (i : Int) = r[i] := PK.rd_at hlt
   simp only [spec_cmSum.l0]
   rw [if_pos (by omega), if_pos (by omega), if_pos (by omega), hrd, PK.w1 hlt (by omega), PK.wrap_in (by omega) (by omega)]
   exact ih (i + 1) k _ (by omega) (by omega) hs2.symm
 unfold spec_cmSum.f
 have := key r.length 0 k 0 (by omega) (by omega) (by simp)
 exact this
/-- A loop that counts. -/
theorem spec_pzAll.count_loop {α : Type} (xs : List α) (F : Nat → Int → Int → Option Int) (m : Nat) (p : α → Bool)
  (hs : ∀ k i (h : i < xs.length) (c : Int), m ≤ k → 0 ≤ c → c ≤ (i : Int) → F (k + 1) c (i : Int) = F k (if p xs[i] = true then c + 1 else c) ((i + 1 : Nat) : Int))
  (he : ∀ k c, m ≤ k → F (k + 1) c (xs.length : Int) = some c) : ∀ d k i (c : Int), i + d = xs.length → d + m < k → c = (((xs.take i).filter p).length : Int) → F k c (i : Int) = some ((xs.filter p).length : Int) := by
 intro d
 induction d with
 | zero =>
  intro k i c hi hk hc
  obtain ⟨k, rfl⟩ : ∃ q, k = q + 1 := ⟨k - 1, by omega⟩
  obtain rfl : i = xs.length := by omega
  rw [he k c (by omega), hc, List.take_length]
 | succ d ih =>
  intro k i c hi hk hc
  obtain ⟨k, rfl⟩ : ∃ q, k = q + 1 := ⟨k - 1, by omega⟩
  have hlt : i < xs.length := by omega
  have hle : ((xs.take i).filter p).length ≤ i := Nat.le_trans (List.length_filter_le _ _) (by rw [List.length_take]; omega)
  rw [hs k i hlt c (by omega) (by omega) (by omega)]
  refine ih k (i + 1) _ (by omega) (by omega) ?_
  rw [List.take_add_one, List.getElem?_eq_getElem hlt, List.filter_append, List.length_append]
  by_cases c1 : p xs[i] = true
  ·rw [if_pos c1]; simp [c1, hc]
  ·rw [if_neg c1]; simp [c1, hc]
theorem spec_pzAll.valueF {r : List Int} (hm : r ∈ All.all 5 4) (kind a : Int) (ha : 0 ≤ a) (k : Nat) (hk : 1000 < k) : spec_pzValue.f k kind a r (All.tab (All.all 5 4)) = some (Chomp.told kind a r) := by
 have hr := All.ok_all hm (by decide) (by decide)
 have hkey := All.key_lt hr
 have ht := All.tab_all (by decide) (by decide) hm
 have hl := All.tab_len (All.all 5 4)
 have hH := Chomp.H_le hr
 have h6 := hr.2.1
 have hrd : rd (All.tab (All.all 5 4)) (All.key r) = (Chomp.H r : Int) + 1 := ht
 unfold spec_pzValue.f Chomp.told
 by_cases c0 : kind = 0
 ·rw [if_pos c0, if_pos c0, spec_pzAll.sumF hr k (by omega)]; rfl
 rw [if_neg c0, if_neg c0]
 by_cases c1 : kind = 1
 ·rw [if_pos c1, if_pos c1]
  by_cases c : a < (r.length : Int)
  ·rw [if_pos c, if_pos c, if_pos ha]; rfl
  ·rw [if_neg c, if_neg c]
 rw [if_neg c1, if_neg c1]
 by_cases c2 : kind = 2
 ·rw [if_pos c2, if_pos c2, spec_cmHeaps.keyF hr k (by omega), Option.bind_some, if_pos hkey.1, if_pos (by rw [hl]; exact hkey.2), hrd]
  by_cases c : 0 < Chomp.H r
  ·rw [if_pos (by omega), if_pos c]
  ·rw [if_neg (by omega), if_neg c]
 rw [if_neg c2, if_neg c2]
 by_cases c3 : kind = 3
 ·rw [if_pos c3, if_pos c3, spec_cmHeaps.keyF hr k (by omega), Option.bind_some, if_pos hkey.1, if_pos (by rw [hl]; exact hkey.2), hrd, PK.wrap_in (by omega) (by omega), Int.add_sub_cancel]
 rw [if_neg c3, if_neg c3]
 by_cases c4 : kind = 4
 ·rw [if_pos c4, if_pos c4]
  have h := spec_pzAll.count_loop r (fun k c i => spec_pzValue.l0 k a c r (r.length : Int) i) 0 (fun n => !(decide (n ≤ a)))
   (fun k i hi c _ h0 h1 => by
    try dsimp only
    simp only [spec_pzValue.l0]
    rw [if_pos (by omega), if_pos (by omega), if_pos (by omega), PK.rd_at hi, PK.w1 hi (by omega)]
    by_cases q : r[i] > a
    ·rw [if_pos q, PK.wrap_in (by omega) (by omega), if_pos (by simp; omega)]
    ·rw [if_neg q, if_neg (by simp; omega)])
   (fun k c _ => by
    try dsimp only
    simp only [spec_pzValue.l0]
    rw [if_neg (by omega)]) r.length k 0 0 (by omega) (by omega) (by simp)
  exact h
 rw [if_neg c4, if_neg c4, spec_cmHeaps.movesF hr k (by omega), Option.bind_some]
 have hml := Chomp.moves_len hr
 have h := spec_pzAll.count_loop (Chomp.moves r) (fun k c i => spec_pzValue.l1 k r (All.tab (All.all 5 4)) c (Chomp.moves r) ((Chomp.moves r).length : Int) i) 10 (Chomp.isGood r)
  (fun k i hi c hk h0 h1 => by
   try dsimp only
   have hmem : (Chomp.moves r)[i] ∈ Chomp.moves r := List.getElem_mem hi
   have hb := (All.bit_all hm hmem).1
   have hbt := All.tab_all (by decide) (by decide) hb
   have hbo := All.ok_all hb (by decide) (by decide)
   have hbk := All.key_lt hbo
   obtain ⟨x, y, hxy, hy, hx, hp⟩ := Chomp.moves_mem hmem
   have hg : rd_L3 (Chomp.moves r) (i : Int) = [(x : Int), (y : Int)] := by
    rw [← hxy]
    unfold rd_L3
    exact PK.getD_at hi _
   rw [hxy] at hbt hbo hbk ⊢
   have e0 : rd [(x : Int), (y : Int)] 0 = x := rfl
   have e1 : rd [(x : Int), (y : Int)] 1 = y := rfl
   have e2 : Chomp.bit r (([(x : Int), (y : Int)] : List Int).getD 0 0) (([(x : Int), (y : Int)] : List Int).getD 1 0).toNat = Chomp.bit r (x : Int) y := rfl
   rw [e2] at hbt hbo hbk
   have hrd2 : rd (All.tab (All.all 5 4)) (All.key (Chomp.bit r (x : Int) y)) = (Chomp.H (Chomp.bit r (x : Int) y) : Int) + 1 := hbt
   have hgd : Chomp.isGood r [(x : Int), (y : Int)] = !(decide (0 < Chomp.H (Chomp.bit r (x : Int) y))) := rfl
   simp only [spec_pzValue.l1]
   rw [if_pos (by omega), if_pos (by omega), if_pos (by omega), hg, if_pos (by simp), if_pos (by simp), e0, e1, spec_cmHeaps.biteF hr (by omega) y k (by omega), Option.bind_some, spec_cmHeaps.keyF hbo k (by omega), Option.bind_some, if_pos hbk.1, if_pos (by rw [hl]; exact hbk.2), hrd2, PK.w1 hi (by omega), hgd]
   by_cases q : 0 < Chomp.H (Chomp.bit r (x : Int) y)
   ·rw [if_neg (by omega), if_neg (by simp [q])]
   ·rw [if_pos (by omega), PK.wrap_in (by omega) (by omega), if_pos (by simp; omega)])
  (fun k c _ => by
   try dsimp only
   simp only [spec_pzValue.l1]
   rw [if_neg (by omega)]) (Chomp.moves r).length k 0 0 (by omega) (by omega) (by simp)
 exact h
def spec_pzAll.fit (c : S42) (r : List Int) : Bool := Chomp.told c.f0 c.f1 r == c.f2
theorem spec_pzAll.take_snoc {α : Type} {L : List α} {k : Nat} (h : k < L.length) : L.take (k + 1) = L.take k ++ [L[k]] := by rw [List.take_add_one, List.getElem?_eq_getElem h]; rfl
def spec_pzAll.f (l0 : List (S42)) : Option ((List (List Int))) := if l0.all (fun c => decide (0 ≤ c.f1)) then some ((All.all 5 4).filter fun r => l0.all fun c => spec_pzAll.fit c r) else none
set_option maxHeartbeats 16000000 in
set_option maxRecDepth 100000 in
theorem spec_pzAll.calls (A0 : Option Addr) (c0 : Nat) (l0 : List (S42)) (r : List (List Int)) (w : World) (hr0 : Kd.C k42 w A0 l0.length l0) (hc0 : l0.length ≤ c0) (h : spec_pzAll.f l0 = some r) :
  Calls Tryd.prog 79 #[.slice A0 l0.length c0] w fun e w' => ∃ v0_ : Value, e = .returned (v0_) ∧ Kd.S (Kd.slice 3 (Kd.int .i64)) 25 w' w.heap.size (fun _ => True) v0_ r ∧ Below w.heap.size w w' := by
 have hcond : l0.all (fun c => decide (0 ≤ c.f1)) = true := by
  by_cases hc : l0.all (fun c => decide (0 ≤ c.f1)) = true
  ·exact hc
  ·simp only [spec_pzAll.f, if_neg hc] at h; cases h
 simp only [spec_pzAll.f, if_pos hcond] at h
 obtain rfl := Option.some.inj h
 have hpos : ∀ c ∈ l0, 0 ≤ c.f1 := fun c hc => by simpa using List.all_eq_true.1 hcond c hc
 have hall : spec_cmAll.f 5 4 = some (All.all 5 4) := by
  unfold spec_cmAll.f
  rw [if_pos (by omega)]
  exact All.look_all 5 4 (by decide)
 have HALL := Aside0.mk (fun W => spec_cmAll.calls 5 4 _ W hall)
 have HHP := Aside0.mk (fun W => spec_pzHeaps.calls _ W spec_pzAll.heapsF)
 have HVAL := Aside0.mk (fun r (hr : r ∈ All.all 5 4) (kind a : Int) (ha : 0 ≤ a) => spec_pzAll.valueF hr kind a ha 1001 (by omega))
 have HOK := Aside0.mk (fun r (hr : r ∈ All.all 5 4) => All.ok_all hr (by decide) (by decide))
 have HLEN := Aside0.mk (show (All.all 5 4).length ≤ 1296 by
  have h1 := All.tails_len 4 5
  have h3 : ((5 + 1) ^ 4 : Nat) = 1296 := by decide
  unfold All.all
  rw [List.length_tail]; omega)
 have HC := Aside0.mk hr0
 have HP := Aside0.mk hpos
 have HL := Aside0.mk (show (l0.length : Int) ≤ 9223372036854775807 by have := hr0.2.1; omega)
 have hl64 : (l0.length : Int) ≤ 9223372036854775807 := HL.out
 have HB := Aside0.mk (Below.refl w.heap.size w)
 clear hr0 hc0 h hcond hpos hall
 generalize hT : All.tab (All.all 5 4) = T at HHP HVAL
 have HTL := Aside0.mk (show T.length = 117649 by rw [← hT]; exact All.tab_len _)
 clear hT
 generalize All.all 5 4 = L at HALL HVAL HOK HLEN ⊢
 have hL64 : (L.length : Int) ≤ 9223372036854775807 := by have := HLEN.out; omega
 go_enter Tryd.func79, Tryd.ntmps79
 go_wp2_with (first
  | (go_at_call 73; go_loud (refine (HHP.out _).mono ?_; rintro e w1 ⟨v1, rfl, ho, hb⟩; obtain ⟨A1, c1, e1⟩ := Kd.R_slice ho; subst e1; have CT := Aside0.mk (Kd.R_reads' ho).2.2; have CTC := Aside0.mk (Kd.R_reads' ho).2.1; have B1 := Aside0.mk hb; clear ho hb))
  | (go_at_call 117; go_loud (refine (HALL.out _).mono ?_; rintro e w2 ⟨v2, rfl, ho, hb⟩; obtain ⟨A2, c2, e2⟩ := Kd.S_slice ho; subst e2; have B12 := Aside0.mk hb; have B2 := Aside0.mk (below_step B1.out hb); obtain ⟨f, hf⟩ := ho; have HS := Aside0.mk (Kd.R_bound hf); clear hf hb)))
 go_loopg [3, 13] L.length (fun gg s3 s13 wr => ∃ (kk : Nat) (vo : Value), kk ≤ L.length ∧ L.length - kk ≤ gg ∧ s13 = .int .i64 kk ∧ vo = s3 ∧ Aside0 (Below w2.heap.size w2 wr) ∧ Aside0 (∀ k, vo.ownBlock = some k → w2.heap.size ≤ k) ∧ Aside0 (Kd.S (Kd.slice 3 (Kd.int .i64)) 25 wr w.heap.size (fun k => k < w2.heap.size → f k < kk) vo ((L.take kk).filter fun r => l0.all fun c => spec_pzAll.fit c r)))
 case atStart => exact ⟨0, _, Nat.zero_le _, by omega, rfl, rfl, ⟨Below.refl _ _⟩, ⟨fun k hk => by simp [Value.ownBlock] at hk⟩, ⟨Kd.S_nil _ _ _ _ _⟩⟩
 case round =>
  obtain ⟨kk, vo, hkk, hgg, rfl, rfl, HBZ, HOW, HO⟩ := hrel
  by_cases hlt : kk < L.length
  ·have hltz : (kk : Int) < (L.length : Int) := by omega
   rcases Del.row_formR HS.out with ⟨_, h2⟩ | ⟨gv, cv, hv⟩
   ·have : L.zipIdx.length = 0 := by rw [h2]; rfl
    rw [List.length_zipIdx] at this; omega
   injection hv with hA hn hc2
   clear hn
   subst hA; subst hc2
   have HS2 : (Kd.tag f (Kd.slice 3 (Kd.int .i64))).R 25 w2 w1.heap.size _ (.slice (some ⟨gv, 0, none⟩) L.length c2) L.zipIdx := HS.out
   obtain ⟨-, -, -, curv, hgv, hnv, -, hMv⟩ := Del.row_ofR rfl HS2 (([] : List Int), 0)
   have hm := hMv kk hlt
   have hzip : L.zipIdx.getD kk ([], 0) = (L.getD kk [], kk) := by
    rw [List.getD_eq_getElem?_getD, Kd.zip_at (List.getElem?_eq_getElem hlt), List.getD_eq_getElem?_getD, List.getElem?_eq_getElem hlt]; rfl
   rw [hzip] at hm
   have hmem := Lam.getD_mem hlt ([] : List Int)
   have hok := HOK.out _ hmem
   have HV := Aside0.mk (HVAL.out _ hmem)
   have hrk : L[kk] = L.getD kk [] := by rw [List.getD_eq_getElem?_getD, List.getElem?_eq_getElem hlt]; rfl
   have HRK := Aside0.mk hrk
   clear hrk
   generalize hrr : L.getD kk [] = r at hm hok HRK HV
   obtain ⟨vr, hvr, hRr⟩ := hm
   have hx0 : wr.cell? ⟨gv, kk, none⟩ = some curv[kk]! := (blk_cell (blk_below hgv HBZ.out) kk).trans (Del.arr_at (by omega))
   injection hvr with hvr
   rw [hvr] at hx0
   rcases Del.row_formR hRr with ⟨_, h3⟩ | ⟨g0, c0r, hq⟩
   ·exact absurd h3 hok.1
   have hq' : vr = .slice (some ⟨g0, 0, none⟩) r.length c0r := hq
   clear hq
   subst hq'
   have hok0 := hRr.1 g0 (by simp [Value.ownBlock])
   have G0 := Aside0.mk (⟨hok0.1.1.2.2.1, hok0.2⟩ : g0 < w2.heap.size ∧ f g0 = kk)
   have HRt := Aside0.mk (Kd.R_tight rfl hRr)
   have LEN := Aside0.mk hlt
   have RCAP := Aside0.mk (Kd.R_reads' hRr).2.1
   clear hMv hnv hgv hok0 hRr hrr hvr hzip hok HS2 hmem
   go_wp2
   obtain ⟨wo, hwo⟩ : ∃ wo, wo = wr := ⟨wr, rfl⟩
   subst hwo
   go_loopg [7, 19] l0.length (fun gg2 s7 s19 wz => ∃ jj : Nat, jj ≤ l0.length ∧ l0.length - jj ≤ gg2 ∧ s19 = .int .i64 jj ∧ s7 = .bool ((l0.take jj).all fun c => spec_pzAll.fit c r) ∧ Aside0 (Below wo.heap.size wo wz))
   case atStart => exact ⟨0, Nat.zero_le _, by omega, rfl, rfl, ⟨Below.refl _ _⟩⟩
   case round =>
    obtain ⟨jj, hjj, hgg2, rfl, rfl, HBJ⟩ := hrel
    have BZ2 := Aside0.mk (below_step HBZ.out HBJ.out)
    by_cases hlt2 : jj < l0.length
    ·have hltz2 : (jj : Int) < (l0.length : Int) := by omega
     obtain ⟨ad, cs_, e_, _, hK_, hc_⟩ := Kd.C_get (Kd.C_below HC.out (below_step B2.out BZ2.out)) z42 (jj : Int) (by omega) hltz2
     have hmem2 := Lam.getD_mem hlt2 z42
     have hcpos := HP.out _ hmem2
     have hck : l0[jj] = l0.getD jj z42 := by rw [List.getD_eq_getElem?_getD, List.getElem?_eq_getElem hlt2]; rfl
     have hK2 : (k42).K wr (l0.getD jj z42) cs_ := hK_
     have HCK := Aside0.mk hck
     clear hck
     generalize l0.getD jj z42 = y at hK2 hcpos HCK
     clear hmem2 hK_
     obtain rfl := k42_open hK2
     have hx0 := hc_ 0 _ rfl
     rw [show ((jj : Int).toNat * (k42).sz + 0) = jj * 3 + 0 from rfl] at hx0
     rw [Nat.add_zero] at hx0
     have hx1 := hc_ 1 _ rfl
     rw [show ((jj : Int).toNat * (k42).sz + 1) = jj * 3 + 1 from rfl] at hx1
     rw [add_field _ _ 1 (by omega)] at hx1
     have hx2 := hc_ 2 _ rfl
     rw [show ((jj : Int).toNat * (k42).sz + 2) = jj * 3 + 2 from rfl] at hx2
     rw [add_field _ _ 2 (by omega)] at hx2
     clear hc_ hK2
     subst e_
     have LEN2 := Aside0.mk hlt2
     obtain ⟨ya, yb, yc⟩ := y
     dsimp only at hx0 hx1 hx2 hcpos
     generalize hall : ((l0.take jj).all fun c => spec_pzAll.fit c r) = fb
     have HFB := Aside0.mk hall
     clear hall
     have HVV := Aside0.mk (HV.out ya yb hcpos)
     cases fb with
     | true =>
      go_wp2_with (first
       | ((with_reducible refine gate_dst (N := 9) rfl ?_); refine box_event ?hg (N := 9) ?hd (cs := #[.int .i64 0, .int .i64 0, .int .i64 0]) (t := 42) ?hr ?_; (case hd => rfl); (case hg => rfl); (case hr => first | (go_simp; done) | (go_simp; rfl)); intro g9 hg9 w9 hbox hb; have G9 := Aside0.mk hg9; have X9 := Aside0.mk hbox; have B9 := Aside0.mk hb; have hcz0 : w9.cell? ⟨g9, 0, none⟩ = some (.int .i64 0) := (blk_cell hbox 0).trans rfl; have hcz1 : w9.cell? ⟨g9, 1, none⟩ = some (.int .i64 0) := (blk_cell hbox 1).trans rfl; have hcz2 : w9.cell? ⟨g9, 2, none⟩ = some (.int .i64 0) := (blk_cell hbox 2).trans rfl; have hfz0 := blk_frozen hbox 0; have hfz1 := blk_frozen hbox 1; have hfz2 := blk_frozen hbox 2; clear hg9 hbox hb))
      have XX : ((((w9.setCell ⟨g9, 0, none⟩ (.int .i64 ya)).setCell ⟨g9, 1, none⟩ (.int .i64 yb)).setCell ⟨g9, 2, none⟩ (.int .i64 yc)).drew).heap[g9]? = some (.cells #[.int .i64 ya, .int .i64 yb, .int .i64 yc] 42 (0, 0)) := by
       refine blk_put (cs := #[.int .i64 ya, .int .i64 yb, .int .i64 0]) ?_ 2 _ rfl
       refine blk_put (cs := #[.int .i64 ya, .int .i64 0, .int .i64 0]) ?_ 1 _ rfl
       refine blk_put (cs := #[.int .i64 0, .int .i64 0, .int .i64 0]) ?_ 0 _ rfl
       exact X9.out
      have BB : Below wo.heap.size wo ((((w9.setCell ⟨g9, 0, none⟩ (.int .i64 ya)).setCell ⟨g9, 1, none⟩ (.int .i64 yb)).setCell ⟨g9, 2, none⟩ (.int .i64 yc)).drew) := by
       have hg : wo.heap.size ≤ g9 := by rw [G9.out]; exact HBJ.out.size
       exact below_drew (below_set (g := g9) (below_set (g := g9) (below_set (g := g9) (below_step HBJ.out B9.out) hg) hg) hg)
      refine start_ (n := 14) (S := fun w' => w'.heap[g9]? = some (.cells #[.int .i64 ya, .int .i64 yb, .int .i64 yc] 42 (0, 0))) (ds := []) #[false, false, false, false, false, false, false, false, false, false, false, false, false, false] (by kernel_rfl) rfl rfl XX (fun hHeld => ?_)
      clear hcz0 hcz1 hcz2 hfz0 hfz1 hfz2 hx0 hx1 hx2
      generalize ((((w9.setCell ⟨g9, 0, none⟩ (.int .i64 ya)).setCell ⟨g9, 1, none⟩ (.int .i64 yb)).setCell ⟨g9, 2, none⟩ (.int .i64 yc)).drew) = we at XX BB hHeld ⊢
      refine pure_ (i := 0) (N := some 23) (v := ?_) (a' := ?_) #[true, false, false, false, false, false, false, false, false, false, false, false, false, false] rfl rfl (by kernel_rfl) (fun _ _ _ h => h) (Or.inl ⟨by rfl, ?_⟩) ?_ ?_
      rotate_left
      ·intro w'
       go_simp
       with_reducible rfl
      rotate_left
      ·simp only [Act.put, Lam.pa, Lam.pb, Lam.pc, i64_w, i32_w]
       rfl
      refine pure_ (i := 1) (N := some 24) (v := ?_) (a' := ?_) #[true, true, false, false, false, false, false, false, false, false, false, false, false, false] rfl rfl (by kernel_rfl) (fun _ _ _ h => h) (Or.inl ⟨by rfl, ?_⟩) ?_ ?_
      rotate_left
      ·intro w'
       go_simp
       with_reducible rfl
      rotate_left
      ·simp only [Act.put, Lam.pa, Lam.pb, Lam.pc, i64_w, i32_w]
       rfl
      refine pure_ (i := 2) (N := some 25) (v := ?_) (a' := ?_) #[true, true, true, false, false, false, false, false, false, false, false, false, false, false] rfl rfl (by kernel_rfl) (fun _ _ _ h => h) (Or.inl ⟨by rfl, ?_⟩) ?_ ?_
      rotate_left
      ·intro w'
       go_simp
       with_reducible rfl
      rotate_left
      ·simp only [Act.put, Lam.pa, Lam.pb, Lam.pc, i64_w, i32_w]
       rfl
      refine take_ (i := 3) (N := some 26) (v := ?_) (a' := ?_) #[true, true, true, true, false, false, false, false, false, false, false, false, false, false] rfl rfl (by kernel_rfl) (fun _ _ _ h => h) (Or.inl ⟨by rfl, ?_⟩) hHeld ?_ ?_
      rotate_left
      ·rintro w' s0
       have s1 := (blk_cell s0 0).trans rfl
       go_simp
       with_reducible rfl
      rotate_left
      ·simp only [Act.put, Lam.pa, Lam.pb, Lam.pc, i64_w, i32_w]
       rfl
      refine pure_ (i := 4) (N := some 27) (v := ?_) (a' := ?_) #[true, true, true, true, true, false, false, false, false, false, false, false, false, false] rfl rfl (by kernel_rfl) (fun _ _ _ h => h) (Or.inl ⟨by rfl, ?_⟩) ?_ ?_
      rotate_left
      ·intro w'
       go_simp
       with_reducible rfl
      rotate_left
      ·simp only [Act.put, Lam.pa, Lam.pb, Lam.pc, i64_w, i32_w]
       rfl
      refine take_ (i := 5) (N := some 28) (v := ?_) (a' := ?_) #[true, true, true, true, true, true, false, false, false, false, false, false, false, false] rfl rfl (by kernel_rfl) (fun _ _ _ h => h) (Or.inl ⟨by rfl, ?_⟩) hHeld ?_ ?_
      rotate_left
      ·rintro w' s0
       have s1 := (blk_cell s0 1).trans rfl
       go_simp
       with_reducible rfl
      rotate_left
      ·simp only [Act.put, Lam.pa, Lam.pb, Lam.pc, i64_w, i32_w]
       rfl
      refine pure_ (i := 6) (N := some 29) (v := ?_) (a' := ?_) #[true, true, true, true, true, true, true, false, false, false, false, false, false, false] rfl rfl (by kernel_rfl) (fun _ _ _ h => h) (Or.inl ⟨by rfl, ?_⟩) ?_ ?_
      rotate_left
      ·intro w'
       go_simp
       with_reducible rfl
      rotate_left
      ·simp only [Act.put, Lam.pa, Lam.pb, Lam.pc, i64_w, i32_w]
       rfl
      refine pure_ (i := 7) (N := some 30) (v := ?_) (a' := ?_) #[true, true, true, true, true, true, true, true, false, false, false, false, false, false] rfl rfl (by kernel_rfl) (fun _ _ _ h => h) (Or.inl ⟨by rfl, ?_⟩) ?_ ?_
      rotate_left
      ·intro w'
       go_simp
       with_reducible rfl
      rotate_left
      ·simp only [Act.put, Lam.pa, Lam.pb, Lam.pc, i64_w, i32_w]
       rfl
      refine pure_ (i := 9) (N := some 32) (v := ?_) (a' := ?_) #[true, true, true, true, true, true, true, true, false, true, false, false, false, false] rfl rfl (by kernel_rfl) (fun _ _ _ h => h) (Or.inl ⟨by rfl, ?_⟩) ?_ ?_
      rotate_left
      ·intro w'
       go_simp
       with_reducible rfl
      rotate_left
      ·simp only [Act.put, Lam.pa, Lam.pb, Lam.pc, i64_w, i32_w]
       rfl
      refine take_ (i := 10) (N := some 33) (v := ?_) (a' := ?_) #[true, true, true, true, true, true, true, true, false, true, true, false, false, false] rfl rfl (by kernel_rfl) (fun _ _ _ h => h) (Or.inl ⟨by rfl, ?_⟩) hHeld ?_ ?_
      rotate_left
      ·rintro w' s0
       have s1 := (blk_cell s0 2).trans rfl
       go_simp
       with_reducible rfl
      rotate_left
      ·simp only [Act.put, Lam.pa, Lam.pb, Lam.pc, i64_w, i32_w]
       rfl
      refine one_ (i := 8) (N := some 31) #[true, true, true, true, true, true, true, true, true, true, true, false, false, false] rfl rfl (by kernel_rfl) (by decide) (fun K hK => ?_)
      refine goes_ Tryd.func72 (by kernel_rfl) rfl #[.int .i64 ya, .int .i64 yb, .slice (some ⟨g0, 0, none⟩) r.length c0r, .slice A1 T.length c1] (by rfl) rfl rfl (by (try simp only [List.map_toArray, List.map_cons, List.map_nil]); first | done | rfl | (simp [Act.eval]; done)) ?_
      have BW2 : Below w2.heap.size w2 we := below_step HBZ.out BB
      refine (spec_pzValue.calls 1001 ya yb (some ⟨g0, 0, none⟩) c0r r A1 c1 T _ we (Kd.R_reads' (Kd.R_below HRt.out BW2)).2.2 RCAP.out (Kd.C_below CT.out (below_step B12.out BW2)) CTC.out HVV.out).mono ?_
      rintro e w6 ⟨rfl, hb6⟩
      have hb6' : Below we.heap.size we w6 := by first | exact hb6 | exact hb6.below
      refine ⟨_, rfl, ?_⟩
      refine hK.out _ _ (blk_below hHeld hb6') (fun hHeld => ?_)
      clear hK K
      refine norm_ (a' := ?_) ?_ ?_
      rotate_left
      ·show Act.put _ (some 31) _ = _
       simp only [Act.put, Lam.pa, Lam.pb, Lam.pc, i64_w, i32_w]
       rfl
      refine pure_ (i := 11) (N := some 34) (v := ?_) (a' := ?_) #[true, true, true, true, true, true, true, true, true, true, true, true, false, false] rfl rfl (by kernel_rfl) (fun _ _ _ h => h) (Or.inl ⟨by rfl, ?_⟩) ?_ ?_
      rotate_left
      ·intro w'
       go_simp
       with_reducible rfl
      rotate_left
      ·simp only [Act.put, Lam.pa, Lam.pb, Lam.pc, i64_w, i32_w]
       rfl
      refine pure_ (i := 12) (N := some 35) (v := ?_) (a' := ?_) #[true, true, true, true, true, true, true, true, true, true, true, true, true, false] rfl rfl (by kernel_rfl) (fun _ _ _ h => h) (Or.inl ⟨by rfl, ?_⟩) ?_ ?_
      rotate_left
      ·intro w'
       go_simp
       with_reducible rfl
      rotate_left
      ·simp only [Act.put, Lam.pa, Lam.pb, Lam.pc, i64_w, i32_w]
       rfl
      refine pure_ (i := 13) (N := some 7) (v := ?_) (a' := ?_) #[true, true, true, true, true, true, true, true, true, true, true, true, true, true] rfl rfl (by kernel_rfl) (fun _ _ _ h => h) (Or.inl ⟨by rfl, ?_⟩) ?_ ?_
      rotate_left
      ·intro w'
       go_simp
       with_reducible rfl
      rotate_left
      ·simp only [Act.put, Lam.pa, Lam.pb, Lam.pc, i64_w, i32_w]
       rfl
      refine done_ (by kernel_rfl) ?_
      have BW := Aside0.mk (below_step BB hb6')
      clear hHeld XX BB hb6 hb6' BW2
      go_wp2
      go_roundg (l0.length - (jj + 1))
      case measure => omega
      case rel =>
       refine ⟨jj + 1, by omega, by omega, by go_num, ?_, BW⟩
       rw [spec_pzAll.take_snoc LEN2.out, List.all_append, HFB.out, HCK.out]
       simp [spec_pzAll.fit]
     | false =>
      go_wp2_with (first
       | ((with_reducible refine gate_dst (N := 9) rfl ?_); refine box_event ?hg (N := 9) ?hd (cs := #[.int .i64 0, .int .i64 0, .int .i64 0]) (t := 42) ?hr ?_; (case hd => rfl); (case hg => rfl); (case hr => first | (go_simp; done) | (go_simp; rfl)); intro g9 hg9 w9 hbox hb; have G9 := Aside0.mk hg9; have B9 := Aside0.mk hb; have hcz0 : w9.cell? ⟨g9, 0, none⟩ = some (.int .i64 0) := (blk_cell hbox 0).trans rfl; have hcz1 : w9.cell? ⟨g9, 1, none⟩ = some (.int .i64 0) := (blk_cell hbox 1).trans rfl; have hcz2 : w9.cell? ⟨g9, 2, none⟩ = some (.int .i64 0) := (blk_cell hbox 2).trans rfl; have hfz0 := blk_frozen hbox 0; have hfz1 := blk_frozen hbox 1; have hfz2 := blk_frozen hbox 2; clear hg9 hbox hb))
      have BB : Below wo.heap.size wo ((((w9.setCell ⟨g9, 0, none⟩ (.int .i64 ya)).setCell ⟨g9, 1, none⟩ (.int .i64 yb)).setCell ⟨g9, 2, none⟩ (.int .i64 yc)).drew) := by
       have hg : wo.heap.size ≤ g9 := by rw [G9.out]; exact HBJ.out.size
       exact below_drew (below_set (g := g9) (below_set (g := g9) (below_set (g := g9) (below_step HBJ.out B9.out) hg) hg) hg)
      refine start_ (n := 14) (S := fun _ => True) (ds := []) #[false, false, false, false, false, false, false, false, false, false, false, false, false, false] (by kernel_rfl) rfl rfl trivial (fun hHeld => ?_)
      clear hcz0 hcz1 hcz2 hfz0 hfz1 hfz2 hx0 hx1 hx2
      generalize ((((w9.setCell ⟨g9, 0, none⟩ (.int .i64 ya)).setCell ⟨g9, 1, none⟩ (.int .i64 yb)).setCell ⟨g9, 2, none⟩ (.int .i64 yc)).drew) = we at BB hHeld ⊢
      refine pure_ (i := 0) (N := some 23) (v := ?_) (a' := ?_) #[true, false, false, false, false, false, false, false, false, false, false, false, false, false] rfl rfl (by kernel_rfl) (fun _ _ _ h => h) (Or.inl ⟨by rfl, ?_⟩) ?_ ?_
      rotate_left
      ·intro w'
       go_simp
       with_reducible rfl
      rotate_left
      ·simp only [Act.put, Lam.pa, Lam.pb, Lam.pc, i64_w, i32_w]
       rfl
      refine pure_ (i := 1) (N := some 24) (v := ?_) (a' := ?_) #[true, true, false, false, false, false, false, false, false, false, false, false, false, false] rfl rfl (by kernel_rfl) (fun _ _ _ h => h) (Or.inl ⟨by rfl, ?_⟩) ?_ ?_
      rotate_left
      ·intro w'
       go_simp
       with_reducible rfl
      rotate_left
      ·simp only [Act.put, Lam.pa, Lam.pb, Lam.pc, i64_w, i32_w]
       rfl
      refine pure_ (i := 2) (N := some 25) (v := undef) (a' := ?_) #[true, true, true, false, false, false, false, false, false, false, false, false, false, false] rfl rfl (by kernel_rfl) (fun _ _ _ h => h) (Or.inr ⟨by rfl, by rfl⟩) ?_ ?_
      rotate_left
      ·simp only [Act.put, Lam.pa, Lam.pb, Lam.pc, i64_w, i32_w]
       rfl
      refine pure_ (i := 3) (N := some 26) (v := undef) (a' := ?_) #[true, true, true, true, false, false, false, false, false, false, false, false, false, false] rfl rfl (by kernel_rfl) (fun _ _ _ h => h) (Or.inr ⟨by rfl, by rfl⟩) ?_ ?_
      rotate_left
      ·simp only [Act.put, Lam.pa, Lam.pb, Lam.pc, i64_w, i32_w]
       rfl
      refine pure_ (i := 4) (N := some 27) (v := undef) (a' := ?_) #[true, true, true, true, true, false, false, false, false, false, false, false, false, false] rfl rfl (by kernel_rfl) (fun _ _ _ h => h) (Or.inr ⟨by rfl, by rfl⟩) ?_ ?_
      rotate_left
      ·simp only [Act.put, Lam.pa, Lam.pb, Lam.pc, i64_w, i32_w]
       rfl
      refine pure_ (i := 5) (N := some 28) (v := undef) (a' := ?_) #[true, true, true, true, true, true, false, false, false, false, false, false, false, false] rfl rfl (by kernel_rfl) (fun _ _ _ h => h) (Or.inr ⟨by rfl, by rfl⟩) ?_ ?_
      rotate_left
      ·simp only [Act.put, Lam.pa, Lam.pb, Lam.pc, i64_w, i32_w]
       rfl
      refine pure_ (i := 6) (N := some 29) (v := undef) (a' := ?_) #[true, true, true, true, true, true, true, false, false, false, false, false, false, false] rfl rfl (by kernel_rfl) (fun _ _ _ h => h) (Or.inr ⟨by rfl, by rfl⟩) ?_ ?_
      rotate_left
      ·simp only [Act.put, Lam.pa, Lam.pb, Lam.pc, i64_w, i32_w]
       rfl
      refine pure_ (i := 7) (N := some 30) (v := undef) (a' := ?_) #[true, true, true, true, true, true, true, true, false, false, false, false, false, false] rfl rfl (by kernel_rfl) (fun _ _ _ h => h) (Or.inr ⟨by rfl, by rfl⟩) ?_ ?_
      rotate_left
      ·simp only [Act.put, Lam.pa, Lam.pb, Lam.pc, i64_w, i32_w]
       rfl
      refine pure_ (i := 8) (N := some 31) (v := undef) (a' := ?_) #[true, true, true, true, true, true, true, true, true, false, false, false, false, false] rfl rfl (by kernel_rfl) (fun _ _ _ h => h) (Or.inr ⟨by rfl, by rfl⟩) ?_ ?_
      rotate_left
      ·simp only [Act.put, Lam.pa, Lam.pb, Lam.pc, i64_w, i32_w]
       rfl
      refine pure_ (i := 9) (N := some 32) (v := undef) (a' := ?_) #[true, true, true, true, true, true, true, true, true, true, false, false, false, false] rfl rfl (by kernel_rfl) (fun _ _ _ h => h) (Or.inr ⟨by rfl, by rfl⟩) ?_ ?_
      rotate_left
      ·simp only [Act.put, Lam.pa, Lam.pb, Lam.pc, i64_w, i32_w]
       rfl
      refine pure_ (i := 10) (N := some 33) (v := undef) (a' := ?_) #[true, true, true, true, true, true, true, true, true, true, true, false, false, false] rfl rfl (by kernel_rfl) (fun _ _ _ h => h) (Or.inr ⟨by rfl, by rfl⟩) ?_ ?_
      rotate_left
      ·simp only [Act.put, Lam.pa, Lam.pb, Lam.pc, i64_w, i32_w]
       rfl
      refine pure_ (i := 11) (N := some 34) (v := undef) (a' := ?_) #[true, true, true, true, true, true, true, true, true, true, true, true, false, false] rfl rfl (by kernel_rfl) (fun _ _ _ h => h) (Or.inr ⟨by rfl, by rfl⟩) ?_ ?_
      rotate_left
      ·simp only [Act.put, Lam.pa, Lam.pb, Lam.pc, i64_w, i32_w]
       rfl
      refine pure_ (i := 12) (N := some 35) (v := ?_) (a' := ?_) #[true, true, true, true, true, true, true, true, true, true, true, true, true, false] rfl rfl (by kernel_rfl) (fun _ _ _ h => h) (Or.inl ⟨by rfl, ?_⟩) ?_ ?_
      rotate_left
      ·intro w'
       go_simp
       with_reducible rfl
      rotate_left
      ·simp only [Act.put, Lam.pa, Lam.pb, Lam.pc, i64_w, i32_w]
       rfl
      refine pure_ (i := 13) (N := some 7) (v := ?_) (a' := ?_) #[true, true, true, true, true, true, true, true, true, true, true, true, true, true] rfl rfl (by kernel_rfl) (fun _ _ _ h => h) (Or.inl ⟨by rfl, ?_⟩) ?_ ?_
      rotate_left
      ·intro w'
       go_simp
       with_reducible rfl
      rotate_left
      ·simp only [Act.put, Lam.pa, Lam.pb, Lam.pc, i64_w, i32_w]
       rfl
      refine done_ (by kernel_rfl) ?_
      have BW := Aside0.mk BB
      clear hHeld BB
      go_wp2
      go_roundg (l0.length - (jj + 1))
      case measure => omega
      case rel =>
       refine ⟨jj + 1, by omega, by omega, by go_num, ?_, BW⟩
       rw [spec_pzAll.take_snoc LEN2.out, List.all_append, HFB.out, Bool.false_and]
    ·have hltz2 : ¬ (jj : Int) < (l0.length : Int) := by omega
     obtain rfl : jj = l0.length := by omega
     rw [List.take_length]
     have hfil : (L.take (kk + 1)).filter (fun r => l0.all fun c => spec_pzAll.fit c r) = ((L.take kk).filter fun r => l0.all fun c => spec_pzAll.fit c r) ++ (if (l0.all fun c => spec_pzAll.fit c r) = true then [r] else []) := by
      rw [spec_pzAll.take_snoc LEN.out, List.filter_append, HRK.out, List.filter_cons, List.filter_nil]
     have HFIL := Aside0.mk hfil
     have HOZ := Aside0.mk (Kd.S_below HO.out HBJ.out)
     clear hfil
     cases hall : (l0.all fun c => spec_pzAll.fit c r) with
     | false =>
      have HFA := Aside0.mk hall
      clear hall
      go_wp2
      go_roundg (L.length - (kk + 1))
      case measure => omega
      case rel =>
       refine ⟨kk + 1, vo, by omega, by omega, by go_num, rfl, BZ2, HOW, ⟨?_⟩⟩
       rw [HFIL.out, HFA.out, if_neg (by simp), List.append_nil]
       exact Kd.S_mono HOZ.out (fun k hk hlt => by have := hk hlt; omega)
     | true =>
      have HFA := Aside0.mk hall
      clear hall
      have hown1 := (Kd.S_R HO.out).1
      obtain ⟨Ao, co, eo⟩ := Kd.S_slice HO.out
      generalize hfl : ((L.take kk).filter fun r => l0.all fun c => spec_pzAll.fit c r) = acc at HFIL HOZ eo
      have hacc : acc.length ≤ 1296 := by rw [← hfl]; refine Nat.le_trans (List.length_filter_le _ _) ?_; rw [List.length_take]; have := HLEN.out; omega
      have HACC := Aside0.mk hacc
      clear hfl hacc
      subst eo
      have HOWN := Aside0.mk (show some g0 ≠ (Value.slice Ao acc.length co).ownBlock from fun e => by have := hown1 g0 e.symm G0.out.1; have := G0.out.2; omega)
      clear hown1
      have AK := Aside0.mk (show ∀ k, some k = (Value.slice (some ⟨g0, 0, none⟩) r.length c0r).ownBlock → (k < w2.heap.size → f k < kk + 1) ∧ some k ≠ (Value.slice Ao acc.length co).ownBlock from fun k hk => by
       have hk' : k = g0 := by simpa [Value.ownBlock] using hk
       subst hk'
       exact ⟨fun _ => by have := G0.out.2; omega, HOWN.out⟩)
      have AF := Aside0.mk (show ∀ k, wr.heap.size ≤ k → (k < w2.heap.size → f k < kk + 1) from fun k hk hlt => by have := BZ2.out.size; omega)
      have AO := Aside0.mk (Kd.S_mono HOZ.out (ok' := fun k => (k < w2.heap.size → f k < kk + 1) ∧ ¬ (some k = (Value.slice (some ⟨g0, 0, none⟩) r.length c0r).ownBlock)) (fun k hk => ⟨fun hlt => by have := hk hlt; omega, fun e => by
       have hk' : k = g0 := by simpa [Value.ownBlock] using e
       subst hk'
       have := hk G0.out.1; have := G0.out.2; omega⟩))
      have AB := Aside0.mk (below_step B2.out BZ2.out)
      have AS := Aside0.mk (Nat.le_trans B2.out.size BZ2.out.size)
      have AP := Aside0.mk (Kd.M_row (Kd.R_lower (Kd.R_below HRt.out BZ2.out) B1.out.size))
      go_wp2_with (first
       | ((with_reducible refine gate_builtin (b := .append) (xs := #[.tmp 38, .tmp 40]) rfl ?_); at_builtin; go_loud (refine Kd.S_append (Kd.slice 3 (Kd.int .i64)) (w0 := w) w.heap.size rfl (.tmp 38) (.tmp 40) 67 25 (.slice none 0 0) 24 rfl Tryd.underlying67 info25 rfl (by decide) (by omega) (.slice Ao acc.length co) acc r [.slice (some ⟨g0, 0, none⟩) r.length c0r] (fun k => k < w2.heap.size → f k < kk + 1) (fun k => some k = (Value.slice (some ⟨g0, 0, none⟩) r.length c0r).ownBlock) rfl rfl AP.out AK.out AF.out AO.out AB.out AS.out ?aL ?_); (case aL => have := HACC.out; omega); intro v1 w8 ho1 hb1 hg1 hat1; have O1 := Aside0.mk ho1; have BG := Aside0.mk (Below.grown BZ2.out hg1 BZ2.out.size (fun q hq => HOW.out q hq)); have AT1 := Aside0.mk hat1; clear ho1 hb1 hg1 hat1))
      have OW1 := Aside0.mk (show ∀ k, v1.ownBlock = some k → w2.heap.size ≤ k from fun k hk => by
       rcases AT1.out with h | ⟨b, hb, hle⟩
       ·exact HOW.out k (by rw [← h]; exact hk)
       ·rw [hb] at hk
        injection hk with hk
        have := BZ2.out.size; omega)
      go_roundg (L.length - (kk + 1))
      case measure => omega
      case rel =>
       refine ⟨kk + 1, v1, by omega, by omega, by go_num, rfl, BG, OW1, ⟨?_⟩⟩
       rw [HFIL.out, HFA.out, if_pos rfl]
       exact O1.out
  ·have hltz : ¬ (kk : Int) < (L.length : Int) := by omega
   obtain rfl : kk = L.length := by omega
   have ho := HO.out
   rw [List.take_length] at ho
   have HO2 := Aside0.mk (Kd.S_mono ho (fun _ _ => trivial) : Kd.S (Kd.slice 3 (Kd.int .i64)) 25 wr w.heap.size (fun _ => True) _ _)
   have BF := Aside0.mk (below_step B2.out HBZ.out)
   clear ho
   go_wp2
   go_ret
   exact ⟨_, rfl, HO2.out, BF.out⟩

end Go.Proofs.YtipiocdppghhnaaDoor.PFnExactSureRows
