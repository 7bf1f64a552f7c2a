-- Made by a program of this session (wip/xprint.py) out of the translation.
import Derived.Test.YtdikeggkfkkajaaDoorPFnExactSolutionsx0
import Derived.Test.YtdikeggkfkkajaaDoorPFnExactSolutionsx1
import Derived.Test.YtdikeggkfkkajaaDoorPFnExactSolutionsx3
import Derived.Test.YtdikeggkfkkajaaDoorPFnExactSolutionsx4
namespace Go.Proofs.YtdikeggkfkkajaaDoor.PFnExactSolutions
open Go.RowKit Go.Proofs.YtdikeggkfkkajaaDoorW.PrintWords Go.Proofs.YtdikeggkfkkajaaDoorW.PrintLast Go.Proofs.YtdikeggkfkkajaaDoorW.PrintMore
attribute [local go_sem] max2_int min2_int max_two min_two max_three min_three max_four min_four   -- for this text's walks alone
set_option linter.unusedVariables false
set_option linter.unusedSimpArgs false

/-! ### spec_pzAll: function 36 -/
theorem spec_pzAll.heapsF : spec_pzHeaps.f = some (All.tab (All.all 5 4)) := by
 unfold spec_pzHeaps.f spec_cmHeaps.f
 rw [if_pos (by omega)]; rfl
theorem spec_pzAll.sumF {r : List Int} (hr : Chomp.Ok r) (k : Nat) (hk : 6 < k) : spec_cmSum.f k r = some r.sum := by
 have hb := Chomp.sum_le hr.2.2
 have h6 := hr.2.1
 have key : ∀ (d i k : Nat) (s : Int), i + d = r.length → d < k → s = (r.take i).sum → spec_cmSum.l0 k s r (r.length : Int) (i : Int) = some r.sum := by
  intro d
  induction d with
  | zero =>
   intro i k s hi hk hs
   obtain ⟨k, rfl⟩ : ∃ q, k = q + 1 := ⟨k - 1, by omega⟩
   obtain rfl : i = r.length := by omega
   simp only [spec_cmSum.l0]
   rw [if_neg (by omega), hs, List.take_length]
  | succ d ih =>
   intro i k s hi hk hs
   obtain ⟨k, rfl⟩ : ∃ q, k = q + 1 := ⟨k - 1, by omega⟩
   have hlt : i < r.length := by omega
   have ht : r.take (i + 1) = r.take i ++ [r[i]] := by rw [List.take_add_one, List.getElem?_eq_getElem hlt]; rfl
   have hs2 : (r.take (i + 1)).sum = s + r[i] := by rw [ht, List.sum_append, hs]; simp
   have hb2 := Chomp.sum_le (r := r.take (i + 1)) (fun x hx => hr.2.2 x (List.mem_of_mem_take hx))
   rw [List.length_take] at hb2
   have hrd : rd r (i : Int) = r[i] := PK.rd_at hlt
   simp only [spec_cmSum.l0]
   rw [if_pos (by omega), if_pos (by omega), if_pos (by omega), hrd, PK.w1 hlt (by omega), PK.wrap_in (by omega) (by omega)]
   exact ih (i + 1) k _ (by omega) (by omega) hs2.symm
 unfold spec_cmSum.f
 have := key r.length 0 k 0 (by omega) (by omega) (by simp)
 exact this
/-- A loop that counts. -/
theorem spec_pzAll.count_loop {α : Type} (xs : List α) (F : Nat → Int → Int → Option Int) (m : Nat) (p : α → Bool)
  (hs : ∀ k i (h : i < xs.length) (c : Int), m ≤ k → 0 ≤ c → c ≤ (i : Int) → F (k + 1) c (i : Int) = F k (if p xs[i] = true then c + 1 else c) ((i + 1 : Nat) : Int))
  (he : ∀ k c, m ≤ k → F (k + 1) c (xs.length : Int) = some c) : ∀ d k i (c : Int), i + d = xs.length → d + m < k → c = (((xs.take i).filter p).length : Int) → F k c (i : Int) = some ((xs.filter p).length : Int) := by
 intro d
 induction d with
 | zero =>
  intro k i c hi hk hc
  obtain ⟨k, rfl⟩ : ∃ q, k = q + 1 := ⟨k - 1, by omega⟩
  obtain rfl : i = xs.length := by omega
  rw [he k c (by omega), hc, List.take_length]
 | succ d ih =>
  intro k i c hi hk hc
  obtain ⟨k, rfl⟩ : ∃ q, k = q + 1 := ⟨k - 1, by omega⟩
  have hlt : i < xs.length := by omega
  have hle : ((xs.take i).filter p).length ≤ i := Nat.le_trans (List.length_filter_le _ _) (by rw [List.length_take]; omega)
  rw [hs k i hlt c (by omega) (by omega) (by omega)]
  refine ih k (i + 1) _ (by omega) (by omega) ?_
  rw [List.take_add_one, List.getElem?_eq_getElem hlt, List.filter_append, List.length_append]
  by_cases c1 : p xs[i] = true
  ·rw [if_pos c1]; simp [c1, hc]
  ·rw [if_neg c1]; simp [c1, hc]
theorem spec_pzAll.valueF {r : List Int} (hm : r ∈ All.all 5 4) (kind a : Int) (ha : 0 ≤ a) (k : Nat) (hk : 1000 < k) : spec_pzValue.f k kind a r (All.tab (All.all 5 4)) = some (Chomp.told kind a r) := by
 have hr := All.ok_all hm (by decide) (by decide)
 have hkey := All.key_lt hr
 have ht := All.tab_all (by decide) (by decide) hm
 have hl := All.tab_len (All.all 5 4)
 have hH := Chomp.H_le hr
 have h6 := hr.2.1
 have hrd : rd (All.tab (All.all 5 4)) (All.key r) = (Chomp.H r : Int) + 1 := ht
 unfold spec_pzValue.f Chomp.told
 by_cases c0 : kind = 0
 ·rw [if_pos c0, if_pos c0, spec_pzAll.sumF hr k (by omega)]; rfl
 rw [if_neg c0, if_neg c0]
 by_cases c1 : kind = 1
 ·rw [if_pos c1, if_pos c1]
  by_cases c : a < (r.length : Int)
  ·rw [if_pos c, if_pos c, if_pos ha]; rfl
  ·rw [if_neg c, if_neg c]
 rw [if_neg c1, if_neg c1]
 by_cases c2 : kind = 2
 ·rw [if_pos c2, if_pos c2, spec_cmHeaps.keyF hr k (by omega), Option.bind_some, if_pos hkey.1, if_pos (by rw [hl]; exact hkey.2), hrd]
  by_cases c : 0 < Chomp.H r
  ·rw [if_pos (by omega), if_pos c]
  ·rw [if_neg (by omega), if_neg c]
 rw [if_neg c2, if_neg c2]
 by_cases c3 : kind = 3
 ·rw [if_pos c3, if_pos c3, spec_cmHeaps.keyF hr k (by omega), Option.bind_some, if_pos hkey.1, if_pos (by rw [hl]; exact hkey.2), hrd, PK.wrap_in (by omega) (by omega), Int.add_sub_cancel]
 rw [if_neg c3, if_neg c3]
 by_cases c4 : kind = 4
 ·rw [if_pos c4, if_pos c4]
  have h := spec_pzAll.count_loop r (fun k c i => spec_pzValue.l0 k a c r (r.length : Int) i) 0 (fun n => !(decide (n ≤ a)))
   (fun k i hi c _ h0 h1 => by
    try dsimp only
    simp only [spec_pzValue.l0]
    rw [if_pos (by omega), if_pos (by omega), if_pos (by omega), PK.rd_at hi, PK.w1 hi (by omega)]
    by_cases q : r[i] > a
    ·rw [if_pos q, PK.wrap_in (by omega) (by omega), if_pos (by simp; omega)]
    ·rw [if_neg q, if_neg (by simp; omega)])
   (fun k c _ => by
    try dsimp only
    simp only [spec_pzValue.l0]
    rw [if_neg (by omega)]) r.length k 0 0 (by omega) (by omega) (by simp)
  exact h
 rw [if_neg c4, if_neg c4, spec_cmHeaps.movesF hr k (by omega), Option.bind_some]
 have hml := Chomp.moves_len hr
 have h := spec_pzAll.count_loop (Chomp.moves r) (fun k c i => spec_pzValue.l1 k r (All.tab (All.all 5 4)) c (Chomp.moves r) ((Chomp.moves r).length : Int) i) 10 (Chomp.isGood r)
  (fun k i hi c hk h0 h1 => by
   try dsimp only
   have hmem : (Chomp.moves r)[i] ∈ Chomp.moves r := List.getElem_mem hi
   have hb := (All.bit_all hm hmem).1
   have hbt := All.tab_all (by decide) (by decide) hb
   have hbo := All.ok_all hb (by decide) (by decide)
   have hbk := All.key_lt hbo
   obtain ⟨x, y, hxy, hy, hx, hp⟩ := Chomp.moves_mem hmem
   have hg : rd_L3 (Chomp.moves r) (i : Int) = [(x : Int), (y : Int)] := by
    rw [← hxy]
    unfold rd_L3
    exact PK.getD_at hi _
   rw [hxy] at hbt hbo hbk ⊢
   have e0 : rd [(x : Int), (y : Int)] 0 = x := rfl
   have e1 : rd [(x : Int), (y : Int)] 1 = y := rfl
   have e2 : Chomp.bit r (([(x : Int), (y : Int)] : List Int).getD 0 0) (([(x : Int), (y : Int)] : List Int).getD 1 0).toNat = Chomp.bit r (x : Int) y := rfl
   rw [e2] at hbt hbo hbk
   have hrd2 : rd (All.tab (All.all 5 4)) (All.key (Chomp.bit r (x : Int) y)) = (Chomp.H (Chomp.bit r (x : Int) y) : Int) + 1 := hbt
   have hgd : Chomp.isGood r [(x : Int), (y : Int)] = !(decide (0 < Chomp.H (Chomp.bit r (x : Int) y))) := rfl
   simp only [spec_pzValue.l1]
   rw [if_pos (by omega), if_pos (by omega), if_pos (by omega), hg, if_pos (by simp), if_pos (by simp), e0, e1, spec_cmHeaps.biteF hr (by omega) y k (by omega), Option.bind_some, spec_cmHeaps.keyF hbo k (by omega), Option.bind_some, if_pos hbk.1, if_pos (by rw [hl]; exact hbk.2), hrd2, PK.w1 hi (by omega), hgd]
   by_cases q : 0 < Chomp.H (Chomp.bit r (x : Int) y)
   ·rw [if_neg (by omega), if_neg (by simp [q])]
   ·rw [if_pos (by omega), PK.wrap_in (by omega) (by omega), if_pos (by simp; omega)])
  (fun k c _ => by
   try dsimp only
   simp only [spec_pzValue.l1]
   rw [if_neg (by omega)]) (Chomp.moves r).length k 0 0 (by omega) (by omega) (by simp)
 exact h
def spec_pzAll.fit (c : S69) (r : List Int) : Bool := Chomp.told c.f0 c.f1 r == c.f2
theorem spec_pzAll.take_snoc {α : Type} {L : List α} {k : Nat} (h : k < L.length) : L.take (k + 1) = L.take k ++ [L[k]] := by rw [List.take_add_one, List.getElem?_eq_getElem h]; rfl
def spec_pzAll.f (l0 : List (S69)) : Option ((List (List Int))) := if l0.all (fun c => decide (0 ≤ c.f1)) then some ((All.all 5 4).filter fun r => l0.all fun c => spec_pzAll.fit c r) else none
set_option maxHeartbeats 16000000 in
set_option maxRecDepth 100000 in
theorem spec_pzAll.calls (A0 : Option Addr) (c0 : Nat) (l0 : List (S69)) (r : List (List Int)) (w : World) (hr0 : Kd.C k69 w A0 l0.length l0) (hc0 : l0.length ≤ c0) (h : spec_pzAll.f l0 = some r) :
  Calls Tryd.prog 36 #[.slice A0 l0.length c0] w fun e w' => ∃ v0_ : Value, e = .returned (v0_) ∧ Kd.S (Kd.slice 3 (Kd.int .i64)) 38 w' w.heap.size (fun _ => True) v0_ r ∧ Below w.heap.size w w' := by
 have hcond : l0.all (fun c => decide (0 ≤ c.f1)) = true := by
  by_cases hc : l0.all (fun c => decide (0 ≤ c.f1)) = true
  ·exact hc
  ·simp only [spec_pzAll.f, if_neg hc] at h; cases h
 simp only [spec_pzAll.f, if_pos hcond] at h
 obtain rfl := Option.some.inj h
 have hpos : ∀ c ∈ l0, 0 ≤ c.f1 := fun c hc => by simpa using List.all_eq_true.1 hcond c hc
 have hall : spec_cmAll.f 5 4 = some (All.all 5 4) := by
  unfold spec_cmAll.f
  rw [if_pos (by omega)]
  exact All.look_all 5 4 (by decide)
 have HALL := Aside0.mk (fun W => spec_cmAll.calls 5 4 _ W hall)
 have HHP := Aside0.mk (fun W => spec_pzHeaps.calls _ W spec_pzAll.heapsF)
 have HVAL := Aside0.mk (fun r (hr : r ∈ All.all 5 4) (kind a : Int) (ha : 0 ≤ a) => spec_pzAll.valueF hr kind a ha 1001 (by omega))
 have HOK := Aside0.mk (fun r (hr : r ∈ All.all 5 4) => All.ok_all hr (by decide) (by decide))
 have HLEN := Aside0.mk (show (All.all 5 4).length ≤ 1296 by
  have h1 := All.tails_len 4 5
  have h3 : ((5 + 1) ^ 4 : Nat) = 1296 := by decide
  unfold All.all
  rw [List.length_tail]; omega)
 have HC := Aside0.mk hr0
 have HP := Aside0.mk hpos
 have HL := Aside0.mk (show (l0.length : Int) ≤ 9223372036854775807 by have := hr0.2.1; omega)
 have hl64 : (l0.length : Int) ≤ 9223372036854775807 := HL.out
 have HB := Aside0.mk (Below.refl w.heap.size w)
 clear hr0 hc0 h hcond hpos hall
 generalize hT : All.tab (All.all 5 4) = T at HHP HVAL
 have HTL := Aside0.mk (show T.length = 117649 by rw [← hT]; exact All.tab_len _)
 clear hT
 generalize All.all 5 4 = L at HALL HVAL HOK HLEN ⊢
 have hL64 : (L.length : Int) ≤ 9223372036854775807 := by have := HLEN.out; omega
 go_enter Tryd.func36, Tryd.ntmps36
 go_wp2_with (first
  | (go_at_call 45; go_loud (refine (HHP.out _).mono ?_; rintro e w1 ⟨v1, rfl, ho, hb⟩; obtain ⟨A1, c1, e1⟩ := Kd.R_slice ho; subst e1; have CT := Aside0.mk (Kd.R_reads' ho).2.2; have CTC := Aside0.mk (Kd.R_reads' ho).2.1; have B1 := Aside0.mk hb; clear ho hb))
  | (go_at_call 65; go_loud (refine (HALL.out _).mono ?_; rintro e w2 ⟨v2, rfl, ho, hb⟩; obtain ⟨A2, c2, e2⟩ := Kd.S_slice ho; subst e2; have B12 := Aside0.mk hb; have B2 := Aside0.mk (below_step B1.out hb); obtain ⟨f, hf⟩ := ho; have HS := Aside0.mk (Kd.R_bound hf); clear hf hb)))
 go_loopg [3, 13] L.length (fun gg s3 s13 wr => ∃ (kk : Nat) (vo : Value), kk ≤ L.length ∧ L.length - kk ≤ gg ∧ s13 = .int .i64 kk ∧ vo = s3 ∧ Aside0 (Below w2.heap.size w2 wr) ∧ Aside0 (∀ k, vo.ownBlock = some k → w2.heap.size ≤ k) ∧ Aside0 (Kd.S (Kd.slice 3 (Kd.int .i64)) 38 wr w.heap.size (fun k => k < w2.heap.size → f k < kk) vo ((L.take kk).filter fun r => l0.all fun c => spec_pzAll.fit c r)))
 case atStart => exact ⟨0, _, Nat.zero_le _, by omega, rfl, rfl, ⟨Below.refl _ _⟩, ⟨fun k hk => by simp [Value.ownBlock] at hk⟩, ⟨Kd.S_nil _ _ _ _ _⟩⟩
 case round =>
  obtain ⟨kk, vo, hkk, hgg, rfl, rfl, HBZ, HOW, HO⟩ := hrel
  by_cases hlt : kk < L.length
  ·have hltz : (kk : Int) < (L.length : Int) := by omega
   rcases Del.row_formR HS.out with ⟨_, h2⟩ | ⟨gv, cv, hv⟩
   ·have : L.zipIdx.length = 0 := by rw [h2]; rfl
    rw [List.length_zipIdx] at this; omega
   injection hv with hA hn hc2
   clear hn
   subst hA; subst hc2
   have HS2 : (Kd.tag f (Kd.slice 3 (Kd.int .i64))).R 38 w2 w1.heap.size _ (.slice (some ⟨gv, 0, none⟩) L.length c2) L.zipIdx := HS.out
   obtain ⟨-, -, -, curv, hgv, hnv, -, hMv⟩ := Del.row_ofR rfl HS2 (([] : List Int), 0)
   have hm := hMv kk hlt
   have hzip : L.zipIdx.getD kk ([], 0) = (L.getD kk [], kk) := by
    rw [List.getD_eq_getElem?_getD, Kd.zip_at (List.getElem?_eq_getElem hlt), List.getD_eq_getElem?_getD, List.getElem?_eq_getElem hlt]; rfl
   rw [hzip] at hm
   have hmem := Lam.getD_mem hlt ([] : List Int)
   have hok := HOK.out _ hmem
   have HV := Aside0.mk (HVAL.out _ hmem)
   have hrk : L[kk] = L.getD kk [] := by rw [List.getD_eq_getElem?_getD, List.getElem?_eq_getElem hlt]; rfl
   have HRK := Aside0.mk hrk
   clear hrk
   generalize hrr : L.getD kk [] = r at hm hok HRK HV
   obtain ⟨vr, hvr, hRr⟩ := hm
   have hx0 : wr.cell? ⟨gv, kk, none⟩ = some curv[kk]! := (blk_cell (blk_below hgv HBZ.out) kk).trans (Del.arr_at (by omega))
   injection hvr with hvr
   rw [hvr] at hx0
   rcases Del.row_formR hRr with ⟨_, h3⟩ | ⟨g0, c0r, hq⟩
   ·exact absurd h3 hok.1
   have hq' : vr = .slice (some ⟨g0, 0, none⟩) r.length c0r := hq
   clear hq
   subst hq'
   have hok0 := hRr.1 g0 (by simp [Value.ownBlock])
   have G0 := Aside0.mk (⟨hok0.1.1.2.2.1, hok0.2⟩ : g0 < w2.heap.size ∧ f g0 = kk)
   have HRt := Aside0.mk (Kd.R_tight rfl hRr)
   have LEN := Aside0.mk hlt
   have RCAP := Aside0.mk (Kd.R_reads' hRr).2.1
   clear hMv hnv hgv hok0 hRr hrr hvr hzip hok HS2 hmem
   go_wp2
   obtain ⟨wo, hwo⟩ : ∃ wo, wo = wr := ⟨wr, rfl⟩
   subst hwo
   go_loopg [7, 19] l0.length (fun gg2 s7 s19 wz => ∃ jj : Nat, jj ≤ l0.length ∧ l0.length - jj ≤ gg2 ∧ s19 = .int .i64 jj ∧ s7 = .bool ((l0.take jj).all fun c => spec_pzAll.fit c r) ∧ Aside0 (Below wo.heap.size wo wz))
   case atStart => exact ⟨0, Nat.zero_le _, by omega, rfl, rfl, ⟨Below.refl _ _⟩⟩
   case round =>
    obtain ⟨jj, hjj, hgg2, rfl, rfl, HBJ⟩ := hrel
    have BZ2 := Aside0.mk (below_step HBZ.out HBJ.out)
    by_cases hlt2 : jj < l0.length
    ·have hltz2 : (jj : Int) < (l0.length : Int) := by omega
     obtain ⟨ad, cs_, e_, _, hK_, hc_⟩ := Kd.C_get (Kd.C_below HC.out (below_step B2.out BZ2.out)) z69 (jj : Int) (by omega) hltz2
     have hmem2 := Lam.getD_mem hlt2 z69
     have hcpos := HP.out _ hmem2
     have hck : l0[jj] = l0.getD jj z69 := by rw [List.getD_eq_getElem?_getD, List.getElem?_eq_getElem hlt2]; rfl
     have hK2 : (k69).K wr (l0.getD jj z69) cs_ := hK_
     have HCK := Aside0.mk hck
     clear hck
     generalize l0.getD jj z69 = y at hK2 hcpos HCK
     clear hmem2 hK_
     obtain rfl := k69_open hK2
     have hx0 := hc_ 0 _ rfl
     rw [show ((jj : Int).toNat * (k69).sz + 0) = jj * 3 + 0 from rfl] at hx0
     rw [Nat.add_zero] at hx0
     have hx1 := hc_ 1 _ rfl
     rw [show ((jj : Int).toNat * (k69).sz + 1) = jj * 3 + 1 from rfl] at hx1
     rw [add_field _ _ 1 (by omega)] at hx1
     have hx2 := hc_ 2 _ rfl
     rw [show ((jj : Int).toNat * (k69).sz + 2) = jj * 3 + 2 from rfl] at hx2
     rw [add_field _ _ 2 (by omega)] at hx2
     clear hc_ hK2
     subst e_
     have LEN2 := Aside0.mk hlt2
     obtain ⟨ya, yb, yc⟩ := y
     dsimp only at hx0 hx1 hx2 hcpos
     generalize hall : ((l0.take jj).all fun c => spec_pzAll.fit c r) = fb
     have HFB := Aside0.mk hall
     clear hall
     have HVV := Aside0.mk (HV.out ya yb hcpos)
     cases fb with
     | true =>
      go_wp2_with (first
       | ((with_reducible refine gate_dst (N := 9) rfl ?_); refine box_event ?hg (N := 9) ?hd (cs := #[.int .i64 0, .int .i64 0, .int .i64 0]) (t := 69) ?hr ?_; (case hd => rfl); (case hg => rfl); (case hr => first | (go_simp; done) | (go_simp; rfl)); intro g9 hg9 w9 hbox hb; have G9 := Aside0.mk hg9; have X9 := Aside0.mk hbox; have B9 := Aside0.mk hb; have hcz0 : w9.cell? ⟨g9, 0, none⟩ = some (.int .i64 0) := (blk_cell hbox 0).trans rfl; have hcz1 : w9.cell? ⟨g9, 1, none⟩ = some (.int .i64 0) := (blk_cell hbox 1).trans rfl; have hcz2 : w9.cell? ⟨g9, 2, none⟩ = some (.int .i64 0) := (blk_cell hbox 2).trans rfl; have hfz0 := blk_frozen hbox 0; have hfz1 := blk_frozen hbox 1; have hfz2 := blk_frozen hbox 2; clear hg9 hbox hb))
      have XX : ((((w9.setCell ⟨g9, 0, none⟩ (.int .i64 ya)).setCell ⟨g9, 1, none⟩ (.int .i64 yb)).setCell ⟨g9, 2, none⟩ (.int .i64 yc)).drew).heap[g9]? = some (.cells #[.int .i64 ya, .int .i64 yb, .int .i64 yc] 69 (0, 0)) := by
       refine blk_put (cs := #[.int .i64 ya, .int .i64 yb, .int .i64 0]) ?_ 2 _ rfl
       refine blk_put (cs := #[.int .i64 ya, .int .i64 0, .int .i64 0]) ?_ 1 _ rfl
       refine blk_put (cs := #[.int .i64 0, .int .i64 0, .int .i64 0]) ?_ 0 _ rfl
       exact X9.out
      have BB : Below wo.heap.size wo ((((w9.setCell ⟨g9, 0, none⟩ (.int .i64 ya)).setCell ⟨g9, 1, none⟩ (.int .i64 yb)).setCell ⟨g9, 2, none⟩ (.int .i64 yc)).drew) := by
       have hg : wo.heap.size ≤ g9 := by rw [G9.out]; exact HBJ.out.size
       exact below_drew (below_set (g := g9) (below_set (g := g9) (below_set (g := g9) (below_step HBJ.out B9.out) hg) hg) hg)
      refine start_ (n := 14) (S := fun w' => w'.heap[g9]? = some (.cells #[.int .i64 ya, .int .i64 yb, .int .i64 yc] 69 (0, 0))) (ds := []) #[false, false, false, false, false, false, false, false, false, false, false, false, false, false] (by kernel_rfl) rfl rfl XX (fun hHeld => ?_)
      clear hcz0 hcz1 hcz2 hfz0 hfz1 hfz2 hx0 hx1 hx2
      generalize ((((w9.setCell ⟨g9, 0, none⟩ (.int .i64 ya)).setCell ⟨g9, 1, none⟩ (.int .i64 yb)).setCell ⟨g9, 2, none⟩ (.int .i64 yc)).drew) = we at XX BB hHeld ⊢
      refine pure_ (i := 0) (N := some 23) (v := ?_) (a' := ?_) #[true, false, false, false, false, false, false, false, false, false, false, false, false, false] rfl rfl (by kernel_rfl) (fun _ _ _ h => h) (Or.inl ⟨by rfl, ?_⟩) ?_ ?_
      rotate_left
      ·intro w'
       go_simp
       with_reducible rfl
      rotate_left
      ·simp only [Act.put, Lam.pa, Lam.pb, Lam.pc, i64_w, i32_w]
       rfl
      refine pure_ (i := 1) (N := some 24) (v := ?_) (a' := ?_) #[true, true, false, false, false, false, false, false, false, false, false, false, false, false] rfl rfl (by kernel_rfl) (fun _ _ _ h => h) (Or.inl ⟨by rfl, ?_⟩) ?_ ?_
      rotate_left
      ·intro w'
       go_simp
       with_reducible rfl
      rotate_left
      ·simp only [Act.put, Lam.pa, Lam.pb, Lam.pc, i64_w, i32_w]
       rfl
      refine pure_ (i := 2) (N := some 25) (v := ?_) (a' := ?_) #[true, true, true, false, false, false, false, false, false, false, false, false, false, false] rfl rfl (by kernel_rfl) (fun _ _ _ h => h) (Or.inl ⟨by rfl, ?_⟩) ?_ ?_
      rotate_left
      ·intro w'
       go_simp
       with_reducible rfl
      rotate_left
      ·simp only [Act.put, Lam.pa, Lam.pb, Lam.pc, i64_w, i32_w]
       rfl
      refine take_ (i := 3) (N := some 26) (v := ?_) (a' := ?_) #[true, true, true, true, false, false, false, false, false, false, false, false, false, false] rfl rfl (by kernel_rfl) (fun _ _ _ h => h) (Or.inl ⟨by rfl, ?_⟩) hHeld ?_ ?_
      rotate_left
      ·rintro w' s0
       have s1 := (blk_cell s0 0).trans rfl
       go_simp
       with_reducible rfl
      rotate_left
      ·simp only [Act.put, Lam.pa, Lam.pb, Lam.pc, i64_w, i32_w]
       rfl
      refine pure_ (i := 4) (N := some 27) (v := ?_) (a' := ?_) #[true, true, true, true, true, false, false, false, false, false, false, false, false, false] rfl rfl (by kernel_rfl) (fun _ _ _ h => h) (Or.inl ⟨by rfl, ?_⟩) ?_ ?_
      rotate_left
      ·intro w'
       go_simp
       with_reducible rfl
      rotate_left
      ·simp only [Act.put, Lam.pa, Lam.pb, Lam.pc, i64_w, i32_w]
       rfl
      refine take_ (i := 5) (N := some 28) (v := ?_) (a' := ?_) #[true, true, true, true, true, true, false, false, false, false, false, false, false, false] rfl rfl (by kernel_rfl) (fun _ _ _ h => h) (Or.inl ⟨by rfl, ?_⟩) hHeld ?_ ?_
      rotate_left
      ·rintro w' s0
       have s1 := (blk_cell s0 1).trans rfl
       go_simp
       with_reducible rfl
      rotate_left
      ·simp only [Act.put, Lam.pa, Lam.pb, Lam.pc, i64_w, i32_w]
       rfl
      refine pure_ (i := 6) (N := some 29) (v := ?_) (a' := ?_) #[true, true, true, true, true, true, true, false, false, false, false, false, false, false] rfl rfl (by kernel_rfl) (fun _ _ _ h => h) (Or.inl ⟨by rfl, ?_⟩) ?_ ?_
      rotate_left
      ·intro w'
       go_simp
       with_reducible rfl
      rotate_left
      ·simp only [Act.put, Lam.pa, Lam.pb, Lam.pc, i64_w, i32_w]
       rfl
      refine pure_ (i := 7) (N := some 30) (v := ?_) (a' := ?_) #[true, true, true, true, true, true, true, true, false, false, false, false, false, false] rfl rfl (by kernel_rfl) (fun _ _ _ h => h) (Or.inl ⟨by rfl, ?_⟩) ?_ ?_
      rotate_left
      ·intro w'
       go_simp
       with_reducible rfl
      rotate_left
      ·simp only [Act.put, Lam.pa, Lam.pb, Lam.pc, i64_w, i32_w]
       rfl
      refine pure_ (i := 9) (N := some 32) (v := ?_) (a' := ?_) #[true, true, true, true, true, true, true, true, false, true, false, false, false, false] rfl rfl (by kernel_rfl) (fun _ _ _ h => h) (Or.inl ⟨by rfl, ?_⟩) ?_ ?_
      rotate_left
      ·intro w'
       go_simp
       with_reducible rfl
      rotate_left
      ·simp only [Act.put, Lam.pa, Lam.pb, Lam.pc, i64_w, i32_w]
       rfl
      refine take_ (i := 10) (N := some 33) (v := ?_) (a' := ?_) #[true, true, true, true, true, true, true, true, false, true, true, false, false, false] rfl rfl (by kernel_rfl) (fun _ _ _ h => h) (Or.inl ⟨by rfl, ?_⟩) hHeld ?_ ?_
      rotate_left
      ·rintro w' s0
       have s1 := (blk_cell s0 2).trans rfl
       go_simp
       with_reducible rfl
      rotate_left
      ·simp only [Act.put, Lam.pa, Lam.pb, Lam.pc, i64_w, i32_w]
       rfl
      refine one_ (i := 8) (N := some 31) #[true, true, true, true, true, true, true, true, true, true, true, false, false, false] rfl rfl (by kernel_rfl) (by decide) (fun K hK => ?_)
      refine goes_ Tryd.func66 (by kernel_rfl) rfl #[.int .i64 ya, .int .i64 yb, .slice (some ⟨g0, 0, none⟩) r.length c0r, .slice A1 T.length c1] (by rfl) rfl rfl (by (try simp only [List.map_toArray, List.map_cons, List.map_nil]); first | done | rfl | (simp [Act.eval]; done)) ?_
      have BW2 : Below w2.heap.size w2 we := below_step HBZ.out BB
      refine (spec_pzValue.calls 1001 ya yb (some ⟨g0, 0, none⟩) c0r r A1 c1 T _ we (Kd.R_reads' (Kd.R_below HRt.out BW2)).2.2 RCAP.out (Kd.C_below CT.out (below_step B12.out BW2)) CTC.out HVV.out).mono ?_
      rintro e w6 ⟨rfl, hb6⟩
      have hb6' : Below we.heap.size we w6 := by first | exact hb6 | exact hb6.below
      refine ⟨_, rfl, ?_⟩
      refine hK.out _ _ (blk_below hHeld hb6') (fun hHeld => ?_)
      clear hK K
      refine norm_ (a' := ?_) ?_ ?_
      rotate_left
      ·show Act.put _ (some 31) _ = _
       simp only [Act.put, Lam.pa, Lam.pb, Lam.pc, i64_w, i32_w]
       rfl
      refine pure_ (i := 11) (N := some 34) (v := ?_) (a' := ?_) #[true, true, true, true, true, true, true, true, true, true, true, true, false, false] rfl rfl (by kernel_rfl) (fun _ _ _ h => h) (Or.inl ⟨by rfl, ?_⟩) ?_ ?_
      rotate_left
      ·intro w'
       go_simp
       with_reducible rfl
      rotate_left
      ·simp only [Act.put, Lam.pa, Lam.pb, Lam.pc, i64_w, i32_w]
       rfl
      refine pure_ (i := 12) (N := some 35) (v := ?_) (a' := ?_) #[true, true, true, true, true, true, true, true, true, true, true, true, true, false] rfl rfl (by kernel_rfl) (fun _ _ _ h => h) (Or.inl ⟨by rfl, ?_⟩) ?_ ?_
      rotate_left
      ·intro w'
       go_simp
       with_reducible rfl
      rotate_left
      ·simp only [Act.put, Lam.pa, Lam.pb, Lam.pc, i64_w, i32_w]
       rfl
      refine pure_ (i := 13) (N := some 7) (v := ?_) (a' := ?_) #[true, true, true, true, true, true, true, true, true, true, true, true, true, true] rfl rfl (by kernel_rfl) (fun _ _ _ h => h) (Or.inl ⟨by rfl, ?_⟩) ?_ ?_
      rotate_left
      ·intro w'
       go_simp
       with_reducible rfl
      rotate_left
      ·simp only [Act.put, Lam.pa, Lam.pb, Lam.pc, i64_w, i32_w]
       rfl
      refine done_ (by kernel_rfl) ?_
      have BW := Aside0.mk (below_step BB hb6')
      clear hHeld XX BB hb6 hb6' BW2
      go_wp2
      go_roundg (l0.length - (jj + 1))
      case measure => omega
      case rel =>
       refine ⟨jj + 1, by omega, by omega, by go_num, ?_, BW⟩
       rw [spec_pzAll.take_snoc LEN2.out, List.all_append, HFB.out, HCK.out]
       simp [spec_pzAll.fit]
     | false =>
      go_wp2_with (first
       | ((with_reducible refine gate_dst (N := 9) rfl ?_); refine box_event ?hg (N := 9) ?hd (cs := #[.int .i64 0, .int .i64 0, .int .i64 0]) (t := 69) ?hr ?_; (case hd => rfl); (case hg => rfl); (case hr => first | (go_simp; done) | (go_simp; rfl)); intro g9 hg9 w9 hbox hb; have G9 := Aside0.mk hg9; have B9 := Aside0.mk hb; have hcz0 : w9.cell? ⟨g9, 0, none⟩ = some (.int .i64 0) := (blk_cell hbox 0).trans rfl; have hcz1 : w9.cell? ⟨g9, 1, none⟩ = some (.int .i64 0) := (blk_cell hbox 1).trans rfl; have hcz2 : w9.cell? ⟨g9, 2, none⟩ = some (.int .i64 0) := (blk_cell hbox 2).trans rfl; have hfz0 := blk_frozen hbox 0; have hfz1 := blk_frozen hbox 1; have hfz2 := blk_frozen hbox 2; clear hg9 hbox hb))
      have BB : Below wo.heap.size wo ((((w9.setCell ⟨g9, 0, none⟩ (.int .i64 ya)).setCell ⟨g9, 1, none⟩ (.int .i64 yb)).setCell ⟨g9, 2, none⟩ (.int .i64 yc)).drew) := by
       have hg : wo.heap.size ≤ g9 := by rw [G9.out]; exact HBJ.out.size
       exact below_drew (below_set (g := g9) (below_set (g := g9) (below_set (g := g9) (below_step HBJ.out B9.out) hg) hg) hg)
      refine start_ (n := 14) (S := fun _ => True) (ds := []) #[false, false, false, false, false, false, false, false, false, false, false, false, false, false] (by kernel_rfl) rfl rfl trivial (fun hHeld => ?_)
      clear hcz0 hcz1 hcz2 hfz0 hfz1 hfz2 hx0 hx1 hx2
      generalize ((((w9.setCell ⟨g9, 0, none⟩ (.int .i64 ya)).setCell ⟨g9, 1, none⟩ (.int .i64 yb)).setCell ⟨g9, 2, none⟩ (.int .i64 yc)).drew) = we at BB hHeld ⊢
      refine pure_ (i := 0) (N := some 23) (v := ?_) (a' := ?_) #[true, false, false, false, false, false, false, false, false, false, false, false, false, false] rfl rfl (by kernel_rfl) (fun _ _ _ h => h) (Or.inl ⟨by rfl, ?_⟩) ?_ ?_
      rotate_left
      ·intro w'
       go_simp
       with_reducible rfl
      rotate_left
      ·simp only [Act.put, Lam.pa, Lam.pb, Lam.pc, i64_w, i32_w]
       rfl
      refine pure_ (i := 1) (N := some 24) (v := ?_) (a' := ?_) #[true, true, false, false, false, false, false, false, false, false, false, false, false, false] rfl rfl (by kernel_rfl) (fun _ _ _ h => h) (Or.inl ⟨by rfl, ?_⟩) ?_ ?_
      rotate_left
      ·intro w'
       go_simp
       with_reducible rfl
      rotate_left
      ·simp only [Act.put, Lam.pa, Lam.pb, Lam.pc, i64_w, i32_w]
       rfl
      refine pure_ (i := 2) (N := some 25) (v := undef) (a' := ?_) #[true, true, true, false, false, false, false, false, false, false, false, false, false, false] rfl rfl (by kernel_rfl) (fun _ _ _ h => h) (Or.inr ⟨by rfl, by rfl⟩) ?_ ?_
      rotate_left
      ·simp only [Act.put, Lam.pa, Lam.pb, Lam.pc, i64_w, i32_w]
       rfl
      refine pure_ (i := 3) (N := some 26) (v := undef) (a' := ?_) #[true, true, true, true, false, false, false, false, false, false, false, false, false, false] rfl rfl (by kernel_rfl) (fun _ _ _ h => h) (Or.inr ⟨by rfl, by rfl⟩) ?_ ?_
      rotate_left
      ·simp only [Act.put, Lam.pa, Lam.pb, Lam.pc, i64_w, i32_w]
       rfl
      refine pure_ (i := 4) (N := some 27) (v := undef) (a' := ?_) #[true, true, true, true, true, false, false, false, false, false, false, false, false, false] rfl rfl (by kernel_rfl) (fun _ _ _ h => h) (Or.inr ⟨by rfl, by rfl⟩) ?_ ?_
      rotate_left
      ·simp only [Act.put, Lam.pa, Lam.pb, Lam.pc, i64_w, i32_w]
       rfl
      refine pure_ (i := 5) (N := some 28) (v := undef) (a' := ?_) #[true, true, true, true, true, true, false, false, false, false, false, false, false, false] rfl rfl (by kernel_rfl) (fun _ _ _ h => h) (Or.inr ⟨by rfl, by rfl⟩) ?_ ?_
      rotate_left
      ·simp only [Act.put, Lam.pa, Lam.pb, Lam.pc, i64_w, i32_w]
       rfl
      refine pure_ (i := 6) (N := some 29) (v := undef) (a' := ?_) #[true, true, true, true, true, true, true, false, false, false, false, false, false, false] rfl rfl (by kernel_rfl) (fun _ _ _ h => h) (Or.inr ⟨by rfl, by rfl⟩) ?_ ?_
      rotate_left
      ·simp only [Act.put, Lam.pa, Lam.pb, Lam.pc, i64_w, i32_w]
       rfl
      refine pure_ (i := 7) (N := some 30) (v := undef) (a' := ?_) #[true, true, true, true, true, true, true, true, false, false, false, false, false, false] rfl rfl (by kernel_rfl) (fun _ _ _ h => h) (Or.inr ⟨by rfl, by rfl⟩) ?_ ?_
      rotate_left
      ·simp only [Act.put, Lam.pa, Lam.pb, Lam.pc, i64_w, i32_w]
       rfl
      refine pure_ (i := 8) (N := some 31) (v := undef) (a' := ?_) #[true, true, true, true, true, true, true, true, true, false, false, false, false, false] rfl rfl (by kernel_rfl) (fun _ _ _ h => h) (Or.inr ⟨by rfl, by rfl⟩) ?_ ?_
      rotate_left
      ·simp only [Act.put, Lam.pa, Lam.pb, Lam.pc, i64_w, i32_w]
       rfl
      refine pure_ (i := 9) (N := some 32) (v := undef) (a' := ?_) #[true, true, true, true, true, true, true, true, true, true, false, false, false, false] rfl rfl (by kernel_rfl) (fun _ _ _ h => h) (Or.inr ⟨by rfl, by rfl⟩) ?_ ?_
      rotate_left
      ·simp only [Act.put, Lam.pa, Lam.pb, Lam.pc, i64_w, i32_w]
       rfl
      refine pure_ (i := 10) (N := some 33) (v := undef) (a' := ?_) #[true, true, true, true, true, true, true, true, true, true, true, false, false, false] rfl rfl (by kernel_rfl) (fun _ _ _ h => h) (Or.inr ⟨by rfl, by rfl⟩) ?_ ?_
      rotate_left
      ·simp only [Act.put, Lam.pa, Lam.pb, Lam.pc, i64_w, i32_w]
       rfl
      refine pure_ (i := 11) (N := some 34) (v := undef) (a' := ?_) #[true, true, true, true, true, true, true, true, true, true, true, true, false, false] rfl rfl (by kernel_rfl) (fun _ _ _ h => h) (Or.inr ⟨by rfl, by rfl⟩) ?_ ?_
      rotate_left
      ·simp only [Act.put, Lam.pa, Lam.pb, Lam.pc, i64_w, i32_w]
       rfl
      refine pure_ (i := 12) (N := some 35) (v := ?_) (a' := ?_) #[true, true, true, true, true, true, true, true, true, true, true, true, true, false] rfl rfl (by kernel_rfl) (fun _ _ _ h => h) (Or.inl ⟨by rfl, ?_⟩) ?_ ?_
      rotate_left
      ·intro w'
       go_simp
       with_reducible rfl
      rotate_left
      ·simp only [Act.put, Lam.pa, Lam.pb, Lam.pc, i64_w, i32_w]
       rfl
      refine pure_ (i := 13) (N := some 7) (v := ?_) (a' := ?_) #[true, true, true, true, true, true, true, true, true, true, true, true, true, true] rfl rfl (by kernel_rfl) (fun _ _ _ h => h) (Or.inl ⟨by rfl, ?_⟩) ?_ ?_
      rotate_left
      ·intro w'
       go_simp
       with_reducible rfl
      rotate_left
      ·simp only [Act.put, Lam.pa, Lam.pb, Lam.pc, i64_w, i32_w]
       rfl
      refine done_ (by kernel_rfl) ?_
      have BW := Aside0.mk BB
      clear hHeld BB
      go_wp2
      go_roundg (l0.length - (jj + 1))
      case measure => omega
      case rel =>
       refine ⟨jj + 1, by omega, by omega, by go_num, ?_, BW⟩
       rw [spec_pzAll.take_snoc LEN2.out, List.all_append, HFB.out, Bool.false_and]
    ·have hltz2 : ¬ (jj : Int) < (l0.length : Int) := by omega
     obtain rfl : jj = l0.length := by omega
     rw [List.take_length]
     have hfil : (L.take (kk + 1)).filter (fun r => l0.all fun c => spec_pzAll.fit c r) = ((L.take kk).filter fun r => l0.all fun c => spec_pzAll.fit c r) ++ (if (l0.all fun c => spec_pzAll.fit c r) = true then [r] else []) := by
      rw [spec_pzAll.take_snoc LEN.out, List.filter_append, HRK.out, List.filter_cons, List.filter_nil]
     have HFIL := Aside0.mk hfil
     have HOZ := Aside0.mk (Kd.S_below HO.out HBJ.out)
     clear hfil
     cases hall : (l0.all fun c => spec_pzAll.fit c r) with
     | false =>
      have HFA := Aside0.mk hall
      clear hall
      go_wp2
      go_roundg (L.length - (kk + 1))
      case measure => omega
      case rel =>
       refine ⟨kk + 1, vo, by omega, by omega, by go_num, rfl, BZ2, HOW, ⟨?_⟩⟩
       rw [HFIL.out, HFA.out, if_neg (by simp), List.append_nil]
       exact Kd.S_mono HOZ.out (fun k hk hlt => by have := hk hlt; omega)
     | true =>
      have HFA := Aside0.mk hall
      clear hall
      have hown1 := (Kd.S_R HO.out).1
      obtain ⟨Ao, co, eo⟩ := Kd.S_slice HO.out
      generalize hfl : ((L.take kk).filter fun r => l0.all fun c => spec_pzAll.fit c r) = acc at HFIL HOZ eo
      have hacc : acc.length ≤ 1296 := by rw [← hfl]; refine Nat.le_trans (List.length_filter_le _ _) ?_; rw [List.length_take]; have := HLEN.out; omega
      have HACC := Aside0.mk hacc
      clear hfl hacc
      subst eo
      have HOWN := Aside0.mk (show some g0 ≠ (Value.slice Ao acc.length co).ownBlock from fun e => by have := hown1 g0 e.symm G0.out.1; have := G0.out.2; omega)
      clear hown1
      have AK := Aside0.mk (show ∀ k, some k = (Value.slice (some ⟨g0, 0, none⟩) r.length c0r).ownBlock → (k < w2.heap.size → f k < kk + 1) ∧ some k ≠ (Value.slice Ao acc.length co).ownBlock from fun k hk => by
       have hk' : k = g0 := by simpa [Value.ownBlock] using hk
       subst hk'
       exact ⟨fun _ => by have := G0.out.2; omega, HOWN.out⟩)
      have AF := Aside0.mk (show ∀ k, wr.heap.size ≤ k → (k < w2.heap.size → f k < kk + 1) from fun k hk hlt => by have := BZ2.out.size; omega)
      have AO := Aside0.mk (Kd.S_mono HOZ.out (ok' := fun k => (k < w2.heap.size → f k < kk + 1) ∧ ¬ (some k = (Value.slice (some ⟨g0, 0, none⟩) r.length c0r).ownBlock)) (fun k hk => ⟨fun hlt => by have := hk hlt; omega, fun e => by
       have hk' : k = g0 := by simpa [Value.ownBlock] using e
       subst hk'
       have := hk G0.out.1; have := G0.out.2; omega⟩))
      have AB := Aside0.mk (below_step B2.out BZ2.out)
      have AS := Aside0.mk (Nat.le_trans B2.out.size BZ2.out.size)
      have AP := Aside0.mk (Kd.M_row (Kd.R_lower (Kd.R_below HRt.out BZ2.out) B1.out.size))
      go_wp2_with (first
       | ((with_reducible refine gate_builtin (b := .append) (xs := #[.tmp 38, .tmp 40]) rfl ?_); at_builtin; go_loud (refine Kd.S_append (Kd.slice 3 (Kd.int .i64)) (w0 := w) w.heap.size rfl (.tmp 38) (.tmp 40) 26 38 (.slice none 0 0) 24 rfl Tryd.underlying26 info38 rfl (by decide) (by omega) (.slice Ao acc.length co) acc r [.slice (some ⟨g0, 0, none⟩) r.length c0r] (fun k => k < w2.heap.size → f k < kk + 1) (fun k => some k = (Value.slice (some ⟨g0, 0, none⟩) r.length c0r).ownBlock) rfl rfl AP.out AK.out AF.out AO.out AB.out AS.out ?aL ?_); (case aL => have := HACC.out; omega); intro v1 w8 ho1 hb1 hg1 hat1; have O1 := Aside0.mk ho1; have BG := Aside0.mk (Below.grown BZ2.out hg1 BZ2.out.size (fun q hq => HOW.out q hq)); have AT1 := Aside0.mk hat1; clear ho1 hb1 hg1 hat1))
      have OW1 := Aside0.mk (show ∀ k, v1.ownBlock = some k → w2.heap.size ≤ k from fun k hk => by
       rcases AT1.out with h | ⟨b, hb, hle⟩
       ·exact HOW.out k (by rw [← h]; exact hk)
       ·rw [hb] at hk
        injection hk with hk
        have := BZ2.out.size; omega)
      go_roundg (L.length - (kk + 1))
      case measure => omega
      case rel =>
       refine ⟨kk + 1, v1, by omega, by omega, by go_num, rfl, BG, OW1, ⟨?_⟩⟩
       rw [HFIL.out, HFA.out, if_pos rfl]
       exact O1.out
  ·have hltz : ¬ (kk : Int) < (L.length : Int) := by omega
   obtain rfl : kk = L.length := by omega
   have ho := HO.out
   rw [List.take_length] at ho
   have HO2 := Aside0.mk (Kd.S_mono ho (fun _ _ => trivial) : Kd.S (Kd.slice 3 (Kd.int .i64)) 38 wr w.heap.size (fun _ => True) _ _)
   have BF := Aside0.mk (below_step B2.out HBZ.out)
   clear ho
   go_wp2
   go_ret
   exact ⟨_, rfl, HO2.out, BF.out⟩

/-! ### spec_Solutions: function 9 -/
def spec_Solutions.f (k : Nat) (l0_0 : List (S69)) : Option ((List (List Int)) × Bool) := (spec_pzGood.f k l0_0).bind fun t156 => (if t156 = true then ((spec_pzAll.f l0_0).bind fun t157 => (some (t157, true))) else (some (([] : List (List Int)), false)))
theorem spec_Solutions.mono : ∀ a0 k, LeO (spec_Solutions.f k a0) (spec_Solutions.f (k + 1) a0) := by
 intro a0 k
 unfold spec_Solutions.f
 repeat' first
   | (with_reducible exact spec_pzGood.mono _ _)
   | (with_reducible exact LeO.refl _)
   | (with_reducible exact LeO.none _)
   | (with_reducible refine LeO.ite ?_ ?_)
   | (with_reducible refine LeO.bind ?_ (fun _ => ?_))
   | exact spec_pzGood.mono _ _
   | exact LeO.none _
   | refine LeO.ite ?_ ?_
   | refine LeO.bind ?_ (fun _ => ?_)
set_option maxHeartbeats 8000000 in
set_option maxRecDepth 100000 in
theorem spec_Solutions.calls (k : Nat) (A0_0 : Option Addr) (c0_0 : Nat) (l0_0 : List (S69)) (r1 : List (List Int)) (r2 : Bool) (w : World) (hr0_0 : Kd.C k69 w A0_0 l0_0.length l0_0) (hc0_0 : l0_0.length ≤ c0_0) (h : spec_Solutions.f k l0_0 = some (r1, r2)) :
  Calls Tryd.prog 9 #[.agg #[.slice A0_0 l0_0.length c0_0]] w fun e w' => ∃ v0_ : Value, e = .returned (.tuple #[v0_, .bool r2]) ∧ Kd.S (Kd.slice 3 (Kd.int .i64)) 38 w' w.heap.size (fun _ => True) v0_ r1 ∧ Below w.heap.size w w' := by
 have hu31 := Tryd.underlying31
 have HR0_0 := Aside0.mk hr0_0
 have HC0_0 := Aside0.mk hc0_0
 clear hr0_0 hc0_0
 have HB := Aside0.mk (Below.refl w.heap.size w)
 have H : ((spec_pzGood.f k l0_0).bind fun t156 => (if t156 = true then ((spec_pzAll.f l0_0).bind fun t157 => (some (t157, true))) else (some (([] : List (List Int)), false)))) = some (r1, r2) := h
 clear h
 replace H := Option.bind_eq_some_iff.mp H
 obtain ⟨t156, A20, H⟩ := H
 replace H : (if t156 = true then ((spec_pzAll.f l0_0).bind fun t157 => (some (t157, true))) else (some (([] : List (List Int)), false))) = some (r1, r2) := H
 have A2 := Aside0.mk A20
 clear A20
 by_cases c3 : t156 = true
 ·subst c3
  have H1 : ((spec_pzAll.f l0_0).bind fun t157 => (some (t157, true))) = some (r1, r2) := by rw [if_pos rfl] at H; exact H
  clear H
  have H := H1
  clear H1
  replace H := Option.bind_eq_some_iff.mp H
  obtain ⟨t157, A40, H⟩ := H
  replace H : (some (t157, true)) = some (r1, r2) := H
  have A4 := Aside0.mk A40
  clear A40
  simp only [Option.some.injEq, Prod.mk.injEq] at H
  obtain ⟨rfl, rfl⟩ := H
  go_enter Tryd.func9, Tryd.ntmps9
  go_wp2_with (first | ((with_reducible refine gate_dst (N := 1) rfl ?_); refine box_event ?hg (N := 1) ?hd (cs := #[.slice A0_0 l0_0.length c0_0]) (t := 31) ?hr ?_; (case hd => rfl); (case hg => rfl); (case hr => first | (go_simp; done) | (go_simp; rfl)); intro gb155 hg w5 hbox hb; have n0_ := Aside0.mk (below_step (Lam.al) hb); have n1_ := Aside0.mk (hbox); have n2_ := Aside0.mk ((by rw [hg]; exact (below_size (Lam.al)) : w.heap.size ≤ gb155)); have n3_ := Aside0.mk ((by rw [hg]; exact (below_size (Lam.al)) : w.heap.size ≤ gb155)); clear HB; have HB := n0_; have BK155 := n1_; have GW155 := n2_; have GE155 := n3_; clear n0_ n1_ n2_ n3_; clear hb hbox hg; have hcz6_0 : w5.cell? ⟨gb155, 0, none⟩ = some (.slice A0_0 l0_0.length c0_0) := (blk_cell BK155.out 0).trans rfl; have hfz6_0 := blk_frozen BK155.out 0) | ((with_reducible refine gate_callee (f := 35) rfl ?_); refine goesL_ (some 5) rfl rfl Tryd.func35 (by kernel_rfl) rfl #[.agg #[.slice A0_0 l0_0.length c0_0]] rfl (by (try simp only [List.map_toArray, List.map_cons, List.map_nil]); first | done | rfl | (simp only [List.length_drop, List.length_take]; rfl)) ?_; (with_reducible refine (spec_pzGood.calls k _ _ l0_0 true _ ?side1 ?side2 A2.out).mono ?_); (case side1 => repeat (first | exact (Kd.C_below HR0_0.out HB.out) | (with_reducible refine Kd.C_alloc ?_ _) | (with_reducible refine Kd.C_drewN ?_ _) | (with_reducible refine Kd.C_drew ?_))); (case side2 => exact HC0_0.out); rintro e w7 ⟨rfl, hb⟩; refine ⟨_, rfl, ?_⟩; have n0_ := Aside0.mk (blk_below (g := gb155) (o := .cells #[.slice A0_0 l0_0.length c0_0] 31 (0, 0)) (Lam.bq BK155.out) hb); have n1_ := Aside0.mk (below_step (Lam.al) hb); clear BK155; clear HB; have BK155 := n0_; have HB := n1_; clear n0_ n1_; (try clear hb); (try clear hb2); (try clear hk); (try clear hi); have hcz8_0 : w7.cell? ⟨gb155, 0, none⟩ = some (.slice A0_0 l0_0.length c0_0) := (blk_cell BK155.out 0).trans rfl; have hfz8_0 := blk_frozen BK155.out 0) | ((with_reducible refine gate_callee (f := 36) rfl ?_); refine goesL_ (some 9) rfl rfl Tryd.func36 (by kernel_rfl) rfl #[.slice A0_0 l0_0.length c0_0] rfl (by (try simp only [List.map_toArray, List.map_cons, List.map_nil]); first | done | rfl | (simp only [List.length_drop, List.length_take]; rfl)) ?_; (with_reducible refine (spec_pzAll.calls _ _ l0_0 t157 _ ?side1 ?side2 A4.out).mono ?_); (case side1 => repeat (first | exact (Kd.C_below HR0_0.out HB.out) | (with_reducible refine Kd.C_alloc ?_ _) | (with_reducible refine Kd.C_drewN ?_ _) | (with_reducible refine Kd.C_drew ?_))); (case side2 => exact HC0_0.out); rintro e w9 ⟨v158, rfl, ho0, hb⟩; refine ⟨_, rfl, ?_⟩; have n0_ := Aside0.mk (Kd.S_lower ho0 (below_size (Lam.al))); have n1_ := Aside0.mk (blk_below (g := gb155) (o := .cells #[.slice A0_0 l0_0.length c0_0] 31 (0, 0)) (Lam.bq BK155.out) hb); have n2_ := Aside0.mk (below_step (Lam.al) hb); clear BK155; clear HB; have HO159 := n0_; have BK155 := n1_; have HB := n2_; clear n0_ n1_ n2_; (try clear hb); (try clear hb2); (try clear hk); (try clear hi); (try clear ho0)))
  go_ret2
  exact ⟨_, by first | rfl | (simp [errW_none, errW_some] <;> rfl) | (simp [*, errW_none, errW_some] <;> rfl), by (with_reducible repeat (first | apply Kd.S_alloc | apply Kd.S_drewN | apply Kd.S_drew)); exact HO159.out, Lam.al⟩
 ·replace c3 := Bool.eq_false_iff.mpr c3
  subst c3
  have H1 : (some (([] : List (List Int)), false)) = some (r1, r2) := by rw [if_neg (show ¬ (false = true) by decide)] at H; exact H
  clear H
  have H := H1
  clear H1
  simp only [Option.some.injEq, Prod.mk.injEq] at H
  obtain ⟨rfl, rfl⟩ := H
  go_enter Tryd.func9, Tryd.ntmps9
  go_wp2_with (first | ((with_reducible refine gate_dst (N := 1) rfl ?_); refine box_event ?hg (N := 1) ?hd (cs := #[.slice A0_0 l0_0.length c0_0]) (t := 31) ?hr ?_; (case hd => rfl); (case hg => rfl); (case hr => first | (go_simp; done) | (go_simp; rfl)); intro gb155 hg w10 hbox hb; have n0_ := Aside0.mk (below_step (Lam.al) hb); have n1_ := Aside0.mk (hbox); have n2_ := Aside0.mk ((by rw [hg]; exact (below_size (Lam.al)) : w.heap.size ≤ gb155)); have n3_ := Aside0.mk ((by rw [hg]; exact (below_size (Lam.al)) : w.heap.size ≤ gb155)); clear HB; have HB := n0_; have BK155 := n1_; have GW155 := n2_; have GE155 := n3_; clear n0_ n1_ n2_ n3_; clear hb hbox hg; have hcz11_0 : w10.cell? ⟨gb155, 0, none⟩ = some (.slice A0_0 l0_0.length c0_0) := (blk_cell BK155.out 0).trans rfl; have hfz11_0 := blk_frozen BK155.out 0) | ((with_reducible refine gate_callee (f := 35) rfl ?_); refine goesL_ (some 5) rfl rfl Tryd.func35 (by kernel_rfl) rfl #[.agg #[.slice A0_0 l0_0.length c0_0]] rfl (by (try simp only [List.map_toArray, List.map_cons, List.map_nil]); first | done | rfl | (simp only [List.length_drop, List.length_take]; rfl)) ?_; (with_reducible refine (spec_pzGood.calls k _ _ l0_0 false _ ?side1 ?side2 A2.out).mono ?_); (case side1 => repeat (first | exact (Kd.C_below HR0_0.out HB.out) | (with_reducible refine Kd.C_alloc ?_ _) | (with_reducible refine Kd.C_drewN ?_ _) | (with_reducible refine Kd.C_drew ?_))); (case side2 => exact HC0_0.out); rintro e w12 ⟨rfl, hb⟩; refine ⟨_, rfl, ?_⟩; have n0_ := Aside0.mk (blk_below (g := gb155) (o := .cells #[.slice A0_0 l0_0.length c0_0] 31 (0, 0)) (Lam.bq BK155.out) hb); have n1_ := Aside0.mk (below_step (Lam.al) hb); clear BK155; clear HB; have BK155 := n0_; have HB := n1_; clear n0_ n1_; (try clear hb); (try clear hb2); (try clear hk); (try clear hi)))
  go_ret2
  exact ⟨_, by first | rfl | (simp [errW_none, errW_some] <;> rfl) | (simp [*, errW_none, errW_some] <;> rfl), by first | exact Kd.S_nil _ _ _ _ _ | exact Kd.N_nil _ _ _ _ _ | exact Kd.V_nil _ _ _ _ _ | exact Kd.Q_nil _ _ _ _ _ | exact Kd.R_nil _ _ _ _ _, Lam.al⟩

/-! ### laws_toClue: function 67 -/
def laws_toClue.f (a0_0 : Int) (a0_1 : Int) (a0_2 : Int) : Option (Int × Int × Int) := some (a0_0, a0_1, a0_2)
set_option maxHeartbeats 8000000 in
set_option maxRecDepth 100000 in
theorem laws_toClue.calls (a0_0 : Int) (a0_1 : Int) (a0_2 : Int) (r1 : Int) (r2 : Int) (r3 : Int) (w : World) (h : laws_toClue.f a0_0 a0_1 a0_2 = some (r1, r2, r3)) :
  Calls Tryd.prog 67 #[.agg #[.int .i64 a0_0, .int .i64 a0_1, .int .i64 a0_2]] w fun e w' => e = .returned (.agg #[.int .i64 r1, .int .i64 r2, .int .i64 r3]) ∧ Below w.heap.size w w' := by
 have hu92 := Tryd.underlying92
 have hu69 := Tryd.underlying69
 have HB := Aside0.mk (Below.refl w.heap.size w)
 have H : (some (a0_0, a0_1, a0_2)) = some (r1, r2, r3) := h
 clear h
 simp only [Option.some.injEq, Prod.mk.injEq] at H
 obtain ⟨rfl, rfl, rfl⟩ := H
 go_enter Tryd.func67, Tryd.ntmps67
 go_wp2_with (first | ((with_reducible refine gate_dst (N := 1) rfl ?_); refine box_event ?hg (N := 1) ?hd (cs := #[.int .i64 a0_0, .int .i64 a0_1, .int .i64 a0_2]) (t := 92) ?hr ?_; (case hd => rfl); (case hg => rfl); (case hr => first | (go_simp; done) | (go_simp; rfl)); intro gb160 hg w2 hbox hb; have n0_ := Aside0.mk (below_step (Lam.al) hb); have n1_ := Aside0.mk (hbox); have n2_ := Aside0.mk ((by rw [hg]; exact (below_size (Lam.al)) : w.heap.size ≤ gb160)); have n3_ := Aside0.mk ((by rw [hg]; exact (below_size (Lam.al)) : w.heap.size ≤ gb160)); clear HB; have HB := n0_; have BK160 := n1_; have GW160 := n2_; have GE160 := n3_; clear n0_ n1_ n2_ n3_; clear hb hbox hg) | ((with_reducible refine gate_dst (N := 2) rfl ?_); refine box_event ?hg (N := 2) ?hd (cs := #[.int .i64 0, .int .i64 0, .int .i64 0]) (t := 69) ?hr ?_; (case hd => rfl); (case hg => rfl); (case hr => first | (go_simp; done) | (go_simp; rfl)); intro gb161 hg w3 hbox hb; have n0_ := Aside0.mk (blk_below (g := gb160) (o := .cells #[.int .i64 a0_0, .int .i64 a0_1, .int .i64 a0_2] 92 (0, 0)) (Lam.bq BK160.out) hb); have n1_ := Aside0.mk (below_step (Lam.al) hb); have n2_ := Aside0.mk (hbox); have n3_ := Aside0.mk ((by rw [hg]; exact (below_size (Lam.al)) : w.heap.size ≤ gb161)); have n4_ := Aside0.mk ((by rw [hg]; exact (below_size (Lam.al)) : w.heap.size ≤ gb161)); have n5_ := Aside0.mk ((by rw [hg]; exact Nat.ne_of_lt (blk_lt (g := gb160) (o := .cells #[.int .i64 a0_0, .int .i64 a0_1, .int .i64 a0_2] 92 (0, 0)) (Lam.bq BK160.out)) : gb160 ≠ gb161)); have n6_ := Aside0.mk ((by rw [hg]; exact Nat.ne_of_gt (blk_lt (g := gb160) (o := .cells #[.int .i64 a0_0, .int .i64 a0_1, .int .i64 a0_2] 92 (0, 0)) (Lam.bq BK160.out)) : gb161 ≠ gb160)); clear BK160; clear HB; have BK160 := n0_; have HB := n1_; have BK161 := n2_; have GW161 := n3_; have GE161 := n4_; have NB160_161 := n5_; have NB161_160 := n6_; clear n0_ n1_ n2_ n3_ n4_ n5_ n6_; clear hb hbox hg) | ((with_reducible refine gate_dst (N := 3) rfl ?_); refine box_event ?hg (N := 3) ?hd (cs := #[.int .i64 0, .int .i64 0, .int .i64 0]) (t := 69) ?hr ?_; (case hd => rfl); (case hg => rfl); (case hr => first | (go_simp; done) | (go_simp; rfl)); intro gb162 hg w4 hbox hb; have n0_ := Aside0.mk (blk_below (g := gb160) (o := .cells #[.int .i64 a0_0, .int .i64 a0_1, .int .i64 a0_2] 92 (0, 0)) (Lam.bq BK160.out) hb); have n1_ := Aside0.mk (blk_below (g := gb161) (o := .cells #[.int .i64 0, .int .i64 0, .int .i64 0] 69 (0, 0)) (Lam.bq BK161.out) hb); have n2_ := Aside0.mk (below_step (Lam.al) hb); have n3_ := Aside0.mk (hbox); have n4_ := Aside0.mk ((by rw [hg]; exact (below_size (Lam.al)) : w.heap.size ≤ gb162)); have n5_ := Aside0.mk ((by rw [hg]; exact (below_size (Lam.al)) : w.heap.size ≤ gb162)); have n6_ := Aside0.mk ((by rw [hg]; exact Nat.ne_of_lt (blk_lt (g := gb160) (o := .cells #[.int .i64 a0_0, .int .i64 a0_1, .int .i64 a0_2] 92 (0, 0)) (Lam.bq BK160.out)) : gb160 ≠ gb162)); have n7_ := Aside0.mk ((by rw [hg]; exact Nat.ne_of_gt (blk_lt (g := gb160) (o := .cells #[.int .i64 a0_0, .int .i64 a0_1, .int .i64 a0_2] 92 (0, 0)) (Lam.bq BK160.out)) : gb162 ≠ gb160)); have n8_ := Aside0.mk ((by rw [hg]; exact Nat.ne_of_lt (blk_lt (g := gb161) (o := .cells #[.int .i64 0, .int .i64 0, .int .i64 0] 69 (0, 0)) (Lam.bq BK161.out)) : gb161 ≠ gb162)); have n9_ := Aside0.mk ((by rw [hg]; exact Nat.ne_of_gt (blk_lt (g := gb161) (o := .cells #[.int .i64 0, .int .i64 0, .int .i64 0] 69 (0, 0)) (Lam.bq BK161.out)) : gb162 ≠ gb161)); clear BK160; clear BK161; clear HB; have BK160 := n0_; have BK161 := n1_; have HB := n2_; have BK162 := n3_; have GW162 := n4_; have GE162 := n5_; have NB160_162 := n6_; have NB162_160 := n7_; have NB161_162 := n8_; have NB162_161 := n9_; clear n0_ n1_ n2_ n3_ n4_ n5_ n6_ n7_ n8_ n9_; clear hb hbox hg; have hnb5 := NB160_161.out; have hnc5 := NB161_160.out; have hnb6 := NB160_162.out; have hnc6 := NB162_160.out; have hcz7_0 : w4.cell? ⟨gb160, 0, none⟩ = some (.int .i64 a0_0) := (blk_cell BK160.out 0).trans rfl; have hcz7_1 : w4.cell? ⟨gb160, 1, none⟩ = some (.int .i64 a0_1) := (blk_cell BK160.out 1).trans rfl; have hcz7_2 : w4.cell? ⟨gb160, 2, none⟩ = some (.int .i64 a0_2) := (blk_cell BK160.out 2).trans rfl; have hfz7_0 := blk_frozen BK160.out 0; have hfz7_1 := blk_frozen BK160.out 1; have hfz7_2 := blk_frozen BK160.out 2; have hnb8 := NB162_161.out; have hnc8 := NB161_162.out; have hcz9_0 : w4.cell? ⟨gb162, 0, none⟩ = some (.int .i64 0) := (blk_cell BK162.out 0).trans rfl; have hcz9_1 : w4.cell? ⟨gb162, 1, none⟩ = some (.int .i64 0) := (blk_cell BK162.out 1).trans rfl; have hcz9_2 : w4.cell? ⟨gb162, 2, none⟩ = some (.int .i64 0) := (blk_cell BK162.out 2).trans rfl; have hfz9_0 := blk_frozen BK162.out 0; have hfz9_1 := blk_frozen BK162.out 1; have hfz9_2 := blk_frozen BK162.out 2; have hcz10_0 : w4.cell? ⟨gb161, 0, none⟩ = some (.int .i64 0) := (blk_cell BK161.out 0).trans rfl; have hcz10_1 : w4.cell? ⟨gb161, 1, none⟩ = some (.int .i64 0) := (blk_cell BK161.out 1).trans rfl; have hcz10_2 : w4.cell? ⟨gb161, 2, none⟩ = some (.int .i64 0) := (blk_cell BK161.out 2).trans rfl; have hfz10_0 := blk_frozen BK161.out 0; have hfz10_1 := blk_frozen BK161.out 1; have hfz10_2 := blk_frozen BK161.out 2))
 refine bodyPost_ret (results_cell_row rfl _ _ gb161 69 #[.int .i64 a0_0, .int .i64 a0_1, .int .i64 a0_2] (0, 0) _ rfl (by (with_reducible repeat (first | refine blk_drewN ?_ _ | refine blk_drew ?_ | refine blk_alloc ?_ _)); refine blk_put (cs := #[.int .i64 a0_0, .int .i64 a0_1, .int .i64 0]) ?_ 2 _ rfl; (with_reducible repeat (first | refine blk_drewN ?_ _ | refine blk_drew ?_ | refine blk_alloc ?_ _)); refine blk_put (cs := #[.int .i64 a0_0, .int .i64 0, .int .i64 0]) ?_ 1 _ rfl; (with_reducible repeat (first | refine blk_drewN ?_ _ | refine blk_drew ?_ | refine blk_alloc ?_ _)); refine blk_put (cs := #[.int .i64 0, .int .i64 0, .int .i64 0]) ?_ 0 _ rfl; (with_reducible repeat (first | refine blk_drewN ?_ _ | refine blk_drew ?_ | refine blk_alloc ?_ _)); refine blk_far ?_ NB161_162.out _; (with_reducible repeat (first | refine blk_drewN ?_ _ | refine blk_drew ?_ | refine blk_alloc ?_ _)); refine blk_far ?_ NB161_162.out _; (with_reducible repeat (first | refine blk_drewN ?_ _ | refine blk_drew ?_ | refine blk_alloc ?_ _)); refine blk_far ?_ NB161_162.out _; (with_reducible repeat (first | refine blk_drewN ?_ _ | refine blk_drew ?_ | refine blk_alloc ?_ _)); exact BK161.out) Tryd.underlying69 rfl (by kernel_rfl)) rfl ?_
 exact ⟨by first | rfl | (simp [errW_none, errW_some] <;> rfl) | (simp [*, errW_none, errW_some] <;> rfl), Lam.al⟩

/-! ### laws_toClueS: function 37 -/
def laws_toClueS.l0 : Nat → List (S92) → List (S69) → Int → Option ((List (S69)))
 | 0, _, _, _ => none
 | k + 1, x0, x3, x4 => if x4 < (x0.length : Int) then (if 0 ≤ x4 then ((laws_toClue.f ((rd_T92 x0 x4).f0) ((rd_T92 x0 x4).f1) ((rd_T92 x0 x4).f2)).bind fun bt167 => (if x4 < (x3.length : Int) then (laws_toClueS.l0 k x0 (x3.set (x4 : Int).toNat (⟨bt167.1, bt167.2.1, bt167.2.2⟩ : S69)) (wrap64 (x4 + 1))) else (none))) else (none)) else (some x3)
def laws_toClueS.f (k : Nat) (l0 : List (S92)) : Option ((List (S69))) := if 0 ≤ (l0.length : Int) then (if ((l0.length : Int) : Int).toNat ≤ 11728124029610 then (laws_toClueS.l0 k l0 (List.replicate ((l0.length : Int) : Int).toNat z69) 0) else (none)) else (none)
theorem laws_toClueS.mono_l : ∀ k, (∀ y0 y1 y2, LeO (laws_toClueS.l0 k y0 y1 y2) (laws_toClueS.l0 (k + 1) y0 y1 y2))
 | 0 => fun _ _ _ r h => by simp [laws_toClueS.l0] at h
 | k + 1 => by
  have ih0 := laws_toClueS.mono_l k
  ·intro y0 y1 y2
   unfold laws_toClueS.l0
   repeat' first
   | (with_reducible exact ih0 _ _ _)
   | (with_reducible exact LeO.refl _)
   | (with_reducible exact LeO.none _)
   | (with_reducible refine LeO.ite ?_ ?_)
   | (with_reducible refine LeO.bind ?_ (fun _ => ?_))
   | exact ih0 _ _ _
   | exact LeO.none _
   | refine LeO.ite ?_ ?_
   | refine LeO.bind ?_ (fun _ => ?_)
theorem laws_toClueS.mono : ∀ a0 k, LeO (laws_toClueS.f k a0) (laws_toClueS.f (k + 1) a0) := by
 intro a0 k
 have ih0 := laws_toClueS.mono_l k
 unfold laws_toClueS.f
 repeat' first
   | (with_reducible exact ih0 _ _ _)
   | (with_reducible exact LeO.refl _)
   | (with_reducible exact LeO.none _)
   | (with_reducible refine LeO.ite ?_ ?_)
   | (with_reducible refine LeO.bind ?_ (fun _ => ?_))
   | exact ih0 _ _ _
   | exact LeO.none _
   | refine LeO.ite ?_ ?_
   | refine LeO.bind ?_ (fun _ => ?_)
set_option maxHeartbeats 8000000 in
set_option maxRecDepth 100000 in
theorem laws_toClueS.calls (k : Nat) (A0 : Option Addr) (c0 : Nat) (l0 : List (S92)) (r : List (S69)) (w : World) (hr0 : Kd.C k92 w A0 l0.length l0) (hc0 : l0.length ≤ c0) (h : laws_toClueS.f k l0 = some r) :
  Calls Tryd.prog 37 #[.slice A0 l0.length c0] w fun e w' => ∃ v0_ : Value, e = .returned (v0_) ∧ Kd.R k69 69 w' w.heap.size (fun _ => True) v0_ r ∧ Below w.heap.size w w' := by
 have hu92 := Tryd.underlying92
 have hu69 := Tryd.underlying69
 have HR0 := Aside0.mk hr0
 have HC0 := Aside0.mk hc0
 clear hr0 hc0
 have HB := Aside0.mk (Below.refl w.heap.size w)
 have H : (if 0 ≤ (l0.length : Int) then (if ((l0.length : Int) : Int).toNat ≤ 11728124029610 then (laws_toClueS.l0 k l0 (List.replicate ((l0.length : Int) : Int).toNat z69) 0) else (none)) else (none)) = some r := h
 clear h
 by_cases c2 : 0 ≤ (l0.length : Int)
 ·rw [if_pos c2] at H
  have c2b0 := eq_true c2
  have c2b1 : decide (0 ≤ (l0.length : Int)) = true := decide_eq_true c2
  clear c2
  by_cases c3 : ((l0.length : Int) : Int).toNat ≤ 11728124029610
  ·rw [if_pos c3] at H
   have c3b0 := eq_true c3
   have c3b1 : decide (((l0.length : Int) : Int).toNat ≤ 11728124029610) = true := decide_eq_true c3
   clear c3
   obtain ⟨y163, hy163⟩ : ∃ y_ : List (S69), y_ = (List.replicate ((l0.length : Int) : Int).toNat z69) := ⟨_, rfl⟩
   replace H : (laws_toClueS.l0 k l0 y163 0) = some r := by first | (rw [hy163]; with_reducible exact H) | (have H2_ := (Option.bind_some _ _).symm.trans H; rw [hy163]; with_reducible exact H2_) | (have H2_ := (Option.bind_some _ _).symm.trans H; with_reducible exact H2_) | with_reducible exact H | (rw [hy163]; exact H) | exact H
   have Ny163 := Aside0.mk hy163
   clear hy163
   have H' := Aside0.mk H
   clear H
   go_enter Tryd.func37, Tryd.ntmps37
   go_wp2_with (first | ((with_reducible refine gate_dst (N := 7) rfl ?_); refine Kd.R_make k69 _ 69 rfl (N := 7) rfl 29 _ _ rfl (l0.length : Int) rfl rfl Tryd.underlying29 (.agg #[(.int .i64 0), (.int .i64 0), (.int .i64 0)]) 24 info69 rfl (by decide) (by omega) z69 (ok := fun _ => True) (okp := fun _ => True) (k69_mkM _ _ _ z69 ) (fun _ hk => hk) trivial (of_decide_eq_true (by first | (with_reducible assumption) | assumption)) (Nat.le_trans (Nat.mul_le_mul_right _ (of_decide_eq_true (by first | (with_reducible assumption) | assumption) : (l0.length : Int).toNat ≤ 11728124029610)) (by omega)) (Below.refl _ _) (Nat.le_refl _) ?_; intro v164 w4 ho5 hb hg_ hnew_; clear hg_ hnew_; (first | rw [← Ny163.out] at ho5 | (simp only [Int.reduceToNat] at ho5; rw [← Ny163.out] at ho5)); have n0_ := Aside0.mk (Kd.R_lower ho5 (below_size (Lam.al))); have n1_ := Aside0.mk (below_step (Lam.al) hb); clear HB; have HO165 := n0_; have HB := n1_; clear n0_ n1_; clear hb ho5))
   go_loopg [4] k (fun kq v4 w' => ∃ (x3_1 : List (S69)) (x4_1 : Int), v4 = .int .i64 x4_1 ∧ Aside0 (laws_toClueS.l0 kq l0 x3_1 x4_1 = some r) ∧ Aside0 (kq ≤ k) ∧ Aside0 (Kd.R k69 69 w' w.heap.size (fun _ => True) v164 x3_1) ∧ Aside0 (Below w.heap.size w w'))
   case atStart => exact ⟨(y163), (0), (by first | rfl | (simp; done) | (simp [*]; done)), H', ⟨Nat.le_refl _⟩, ⟨Lam.rq HO165.out⟩, ⟨Lam.al⟩⟩
   case round =>
    clear H'
    try clear c2
    try clear c2b0
    try clear c2b1
    try clear p2
    try clear c3
    try clear c3b0
    try clear c3b1
    obtain ⟨x3_1, x4_1, rfl, HA, HK1, HO_3, HB⟩ := hrel
    cases gk with
    | zero => exact absurd HA.out (by simp [laws_toClueS.l0])
    | succ k1 =>
     have H := HA.out
     clear HA
     simp only [laws_toClueS.l0] at H
     by_cases c6 : x4_1 < (l0.length : Int)
     ·rw [if_pos c6] at H
      have c6b0 : decide (x4_1 < (l0.length : Int)) = true := decide_eq_true c6
      clear c6
      by_cases c7 : 0 ≤ x4_1
      ·rw [if_pos c7] at H
       have c7b0 : decide (0 ≤ x4_1) = true := decide_eq_true c7
       clear c7
       replace H := Option.bind_eq_some_iff.mp H
       obtain ⟨⟨t167, t168, t169⟩, A80, H⟩ := H
       replace H : (if x4_1 < (x3_1.length : Int) then (laws_toClueS.l0 k1 l0 (x3_1.set (x4_1 : Int).toNat (⟨t167, t168, t169⟩ : S69)) (wrap64 (x4_1 + 1))) else (none)) = some r := H
       have A8 := Aside0.mk A80
       clear A80
       by_cases c9 : x4_1 < (x3_1.length : Int)
       ·rw [if_pos c9] at H
        have c9b0 : decide (x4_1 < (x3_1.length : Int)) = true := decide_eq_true c9
        clear c9
        obtain ⟨y170, hy170⟩ : ∃ y_ : List (S69), y_ = (x3_1.set (x4_1 : Int).toNat (⟨t167, t168, t169⟩ : S69)) := ⟨_, rfl⟩
        replace H : (laws_toClueS.l0 k1 l0 y170 (wrap64 (x4_1 + 1))) = some r := by first | (rw [hy170]; with_reducible exact H) | (have H2_ := (Option.bind_some _ _).symm.trans H; rw [hy170]; with_reducible exact H2_) | (have H2_ := (Option.bind_some _ _).symm.trans H; with_reducible exact H2_) | with_reducible exact H | (rw [hy170]; exact H) | exact H
        have Ny170 := Aside0.mk hy170
        clear hy170
        have H' := Aside0.mk H
        clear H
        have p166 : 0 ≤ (x4_1 : Int) := of_decide_eq_true (by first | (with_reducible assumption) | assumption)
        have q166 : x4_1 < (l0.length : Int) := of_decide_eq_true (by first | (with_reducible assumption) | assumption)
        obtain ⟨ad166, e166, hx166_0, hx166_1, hx166_2⟩ := at_T92 HR0.out x4_1 p166 q166
        cases e166
        replace hx166_0 := (HB.out.cell (World.block_lt_of_cell? w _ hx166_0)).trans hx166_0
        replace hx166_1 := (HB.out.cell (World.block_lt_of_cell? w _ hx166_1)).trans hx166_1
        replace hx166_2 := (HB.out.cell (World.block_lt_of_cell? w _ hx166_2)).trans hx166_2
        replace p166 := eq_true p166
        replace q166 := eq_true q166
        go_wp2_with (first | ((with_reducible refine gate_callee (f := 67) rfl ?_); refine goesL_ (some 20) rfl rfl Tryd.func67 (by kernel_rfl) rfl #[.agg #[.int .i64 ((rd_T92 l0 x4_1).f0), .int .i64 ((rd_T92 l0 x4_1).f1), .int .i64 ((rd_T92 l0 x4_1).f2)]] rfl (by (try simp only [List.map_toArray, List.map_cons, List.map_nil]); first | done | rfl | (simp only [List.length_drop, List.length_take]; rfl)) ?_; (with_reducible refine (laws_toClue.calls ((rd_T92 l0 x4_1).f0) ((rd_T92 l0 x4_1).f1) ((rd_T92 l0 x4_1).f2) t167 t168 t169 _ A8.out).mono ?_); rintro e w11 ⟨rfl, hb⟩; refine ⟨_, rfl, ?_⟩; have n0_ := Aside0.mk (Kd.R_below (Lam.rq HO_3.out) hb); have n1_ := Aside0.mk (below_step (Lam.al) hb); clear HO_3; clear HB; have HO_3 := n0_; have HB := n1_; clear n0_ n1_; (try clear hb); (try clear hb2); (try clear hk); (try clear hi); have p10 : 0 ≤ (x4_1 : Int) := of_decide_eq_true (by first | (with_reducible assumption) | assumption); have q10 : (x4_1 : Int) < ((x3_1.length : Int) : Int) := of_decide_eq_true (by first | (with_reducible assumption) | assumption); obtain ⟨go10, co10, eo10, gb10, gl10, cl10, HG10⟩ := Kd.R_form HO_3.out (by omega); (first | cases eo10 | (injection eo10 with ea_ en_ ec_; (first | subst ea_ | (injection ea_ with ea_; subst ea_)); subst ec_; clear en_)); have GB10 := Aside0.mk gb10; have GG10 := Aside0.mk HG10; clear gb10 gl10 HG10; obtain ⟨ce10, hcl10, hM10, hcc10, hfr10⟩ := Kd.R_elem HO_3.out z69 (x4_1 : Int) p10 q10; obtain rfl := k69_openM hM10; have hx10_0 : w11.cell? ⟨go10, (x4_1 : Int).toNat * 3, none⟩ = some (.int .i64 ((rd_T69 x3_1 x4_1).f0)) := hcc10 0 _ rfl; have hx10_1 : w11.cell? ⟨go10, (x4_1 : Int).toNat * 3 + 1, none⟩ = some (.int .i64 ((rd_T69 x3_1 x4_1).f1)) := hcc10 1 _ rfl; have hx10_2 : w11.cell? ⟨go10, (x4_1 : Int).toNat * 3 + 2, none⟩ = some (.int .i64 ((rd_T69 x3_1 x4_1).f2)) := hcc10 2 _ rfl; have hf10_0 : w11.frozen? ⟨go10, (x4_1 : Int).toNat * 3, none⟩ = false := hfr10 0; have hf10_1 : w11.frozen? ⟨go10, (x4_1 : Int).toNat * 3 + 1, none⟩ = false := hfr10 1; have hf10_2 : w11.frozen? ⟨go10, (x4_1 : Int).toNat * 3 + 2, none⟩ = false := hfr10 2; clear hcl10 hcc10 hfr10 hM10; replace p10 := eq_true p10; replace q10 := eq_true q10; have HX12 := Aside0.mk (show Kd.R k69 69 w11 w.heap.size (fun _ => True) (.slice (some ⟨go10, 0, none⟩) x3_1.length co10) x3_1 from (Lam.rq HO_3.out)); obtain ⟨ce12, hcl12, hM12, hcc12, hfr12⟩ := Kd.R_elem HX12.out z69 (x4_1 : Int) (of_decide_eq_true (by first | (with_reducible assumption) | assumption)) (by have h_ : (x4_1 : Int) < ((x3_1.length : Int) : Int) := of_decide_eq_true (by first | (with_reducible assumption) | assumption); first | exact h_ | (have e_ := (Kd.R_reads' HO_3.out).1; omega) | simpa using h_); obtain rfl := k69_openM hM12; have HP12 := Kd.R_seg HX12.out (x4_1 : Int) (of_decide_eq_true (by first | (with_reducible assumption) | assumption)) (by have h_ : (x4_1 : Int) < ((x3_1.length : Int) : Int) := of_decide_eq_true (by first | (with_reducible assumption) | assumption); first | exact h_ | (have e_ := (Kd.R_reads' HO_3.out).1; omega) | simpa using h_) (seg := [.int .i64 t167, .int .i64 t168, .int .i64 t169]) (j := 0) hcl12 hcc12 (show 3 ≤ 3 from by decide) (x' := (⟨t167, t168, t169⟩ : S69)) (k69_mkM _ _ _ (⟨t167, t168, t169⟩ : S69) ) (fun _ hk => hk); have hx12_0 := hcc12 0 _ rfl; (try simp only [show (k69).sz = 3 from rfl, Nat.mul_one, Nat.add_zero] at hx12_0); have hf12_0 := hfr12 0; (try simp only [show (k69).sz = 3 from rfl, Nat.mul_one, Nat.add_zero] at hf12_0); have hx12_1 := hcc12 1 _ rfl; (try simp only [show (k69).sz = 3 from rfl, Nat.mul_one, Nat.add_zero] at hx12_1); have hf12_1 := hfr12 1; (try simp only [show (k69).sz = 3 from rfl, Nat.mul_one, Nat.add_zero] at hf12_1); have hx12_2 := hcc12 2 _ rfl; (try simp only [show (k69).sz = 3 from rfl, Nat.mul_one, Nat.add_zero] at hx12_2); have hf12_2 := hfr12 2; (try simp only [show (k69).sz = 3 from rfl, Nat.mul_one, Nat.add_zero] at hf12_2); clear hcl12 hcc12 hfr12 hM12) | ((with_reducible refine gate_store (t := 69) (p := 21) rfl ?_); refine store_event (t := 69) (p := 21) (v := ?vo_w13) (w1 := (((w11.setCell ⟨go10, (x4_1 : Int).toNat * 3, none⟩ (.int .i64 t167)).setCell ⟨go10, (x4_1 : Int).toNat * 3 + 1, none⟩ (.int .i64 t168)).setCell ⟨go10, (x4_1 : Int).toNat * 3 + 2, none⟩ (.int .i64 t169))) ?hg ?ho ?hn ?hr ?_; (case ho => rfl); (case hg => rfl); (case hn => rfl); (case hr => first | (go_simp; done) | (go_simp; rfl)); intro w13 hw; have hg : w11.grownBy w13 (some go10) := (by rw [hw]; exact HP12.2); have hp_ : Kd.R k69 69 w13 w.heap.size (fun _ => True) (.slice (some ⟨go10, 0, none⟩) x3_1.length co10) y170 := (by rw [hw, Ny170.out]; exact HP12.1); clear HP12; have n0_ := Aside0.mk (hp_); have n1_ := Aside0.mk ((by rw [hw]; exact below_set (below_set (below_set (HB.out) GB10.out) GB10.out) GB10.out : Below w.heap.size w w13)); clear HO_3; clear HB; have HO_3 := n0_; have HB := n1_; clear n0_ n1_; clear hg hw hp_))
        go_roundg k1
        case measure => have := HK1.out; omega
        case rel => exact ⟨(y170), (wrap64 (x4_1 + 1)), (by first | rfl | (simp; done) | (simp [*]; done)), H', ⟨by have := HK1.out; omega⟩, ⟨Lam.rq HO_3.out⟩, ⟨Lam.al⟩⟩
       ·rw [if_neg c9] at H
        exact absurd H (by simp)
      ·rw [if_neg c7] at H
       exact absurd H (by simp)
     ·rw [if_neg c6] at H
      have c6b0 : decide (x4_1 < (l0.length : Int)) = false := decide_eq_false c6
      clear c6
      obtain rfl := Option.some.inj H
      go_wp2
      go_ret
      exact ⟨_, by first | rfl | (simp [errW_none, errW_some] <;> rfl) | (simp [*, errW_none, errW_some] <;> rfl), by (with_reducible repeat (first | apply Kd.R_alloc | apply Kd.R_drewN | apply Kd.R_drew)); exact HO_3.out, Lam.al⟩
  ·rw [if_neg c3] at H
   exact absurd H (by simp)
 ·rw [if_neg c2] at H
  exact absurd H (by simp)

/-! ### laws_toPuzzle: function 10 -/
def laws_toPuzzle.f (k : Nat) (l0_0 : List (S92)) : Option ((List (S69))) := (laws_toClueS.f k l0_0).bind fun t174 => (some t174)
theorem laws_toPuzzle.mono : ∀ a0 k, LeO (laws_toPuzzle.f k a0) (laws_toPuzzle.f (k + 1) a0) := by
 intro a0 k
 unfold laws_toPuzzle.f
 repeat' first
   | (with_reducible exact laws_toClueS.mono _ _)
   | (with_reducible exact LeO.refl _)
   | (with_reducible exact LeO.none _)
   | (with_reducible refine LeO.ite ?_ ?_)
   | (with_reducible refine LeO.bind ?_ (fun _ => ?_))
   | exact laws_toClueS.mono _ _
   | exact LeO.none _
   | refine LeO.ite ?_ ?_
   | refine LeO.bind ?_ (fun _ => ?_)
set_option maxHeartbeats 8000000 in
set_option maxRecDepth 100000 in
theorem laws_toPuzzle.calls (k : Nat) (A0_0 : Option Addr) (c0_0 : Nat) (l0_0 : List (S92)) (r : List (S69)) (w : World) (hr0_0 : Kd.C k92 w A0_0 l0_0.length l0_0) (hc0_0 : l0_0.length ≤ c0_0) (h : laws_toPuzzle.f k l0_0 = some r) :
  Calls Tryd.prog 10 #[.agg #[.slice A0_0 l0_0.length c0_0]] w fun e w' => ∃ v0_ : Value, e = .returned (.agg #[v0_]) ∧ Kd.R k69 69 w' w.heap.size (fun _ => True) v0_ r ∧ Below w.heap.size w w' := by
 have hu24 := Tryd.underlying24
 have hu31 := Tryd.underlying31
 have HR0_0 := Aside0.mk hr0_0
 have HC0_0 := Aside0.mk hc0_0
 clear hr0_0 hc0_0
 have HB := Aside0.mk (Below.refl w.heap.size w)
 have H : ((laws_toClueS.f k l0_0).bind fun t174 => (some t174)) = some r := h
 clear h
 replace H := Option.bind_eq_some_iff.mp H
 obtain ⟨t174, A20, H⟩ := H
 replace H : (some t174) = some r := H
 have A2 := Aside0.mk A20
 clear A20
 obtain rfl := Option.some.inj H
 go_enter Tryd.func10, Tryd.ntmps10
 go_wp2_with (first | ((with_reducible refine gate_dst (N := 1) rfl ?_); refine box_event ?hg (N := 1) ?hd (cs := #[.slice A0_0 l0_0.length c0_0]) (t := 24) ?hr ?_; (case hd => rfl); (case hg => rfl); (case hr => first | (go_simp; done) | (go_simp; rfl)); intro gb171 hg w3 hbox hb; have n0_ := Aside0.mk (below_step (Lam.al) hb); have n1_ := Aside0.mk (hbox); have n2_ := Aside0.mk ((by rw [hg]; exact (below_size (Lam.al)) : w.heap.size ≤ gb171)); have n3_ := Aside0.mk ((by rw [hg]; exact (below_size (Lam.al)) : w.heap.size ≤ gb171)); clear HB; have HB := n0_; have BK171 := n1_; have GW171 := n2_; have GE171 := n3_; clear n0_ n1_ n2_ n3_; clear hb hbox hg) | ((with_reducible refine gate_dst (N := 2) rfl ?_); refine box_event ?hg (N := 2) ?hd (cs := #[.slice none 0 0]) (t := 31) ?hr ?_; (case hd => rfl); (case hg => rfl); (case hr => first | (go_simp; done) | (go_simp; rfl)); intro gb172 hg w4 hbox hb; have n0_ := Aside0.mk (blk_below (g := gb171) (o := .cells #[.slice A0_0 l0_0.length c0_0] 24 (0, 0)) (Lam.bq BK171.out) hb); have n1_ := Aside0.mk (below_step (Lam.al) hb); have n2_ := Aside0.mk (hbox); have n3_ := Aside0.mk ((by rw [hg]; exact (below_size (Lam.al)) : w.heap.size ≤ gb172)); have n4_ := Aside0.mk ((by rw [hg]; exact (below_size (Lam.al)) : w.heap.size ≤ gb172)); have n5_ := Aside0.mk ((by rw [hg]; exact Nat.ne_of_lt (blk_lt (g := gb171) (o := .cells #[.slice A0_0 l0_0.length c0_0] 24 (0, 0)) (Lam.bq BK171.out)) : gb171 ≠ gb172)); have n6_ := Aside0.mk ((by rw [hg]; exact Nat.ne_of_gt (blk_lt (g := gb171) (o := .cells #[.slice A0_0 l0_0.length c0_0] 24 (0, 0)) (Lam.bq BK171.out)) : gb172 ≠ gb171)); clear BK171; clear HB; have BK171 := n0_; have HB := n1_; have BK172 := n2_; have GW172 := n3_; have GE172 := n4_; have NB171_172 := n5_; have NB172_171 := n6_; clear n0_ n1_ n2_ n3_ n4_ n5_ n6_; clear hb hbox hg) | ((with_reducible refine gate_dst (N := 3) rfl ?_); refine box_event ?hg (N := 3) ?hd (cs := #[.slice none 0 0]) (t := 31) ?hr ?_; (case hd => rfl); (case hg => rfl); (case hr => first | (go_simp; done) | (go_simp; rfl)); intro gb173 hg w5 hbox hb; have n0_ := Aside0.mk (blk_below (g := gb171) (o := .cells #[.slice A0_0 l0_0.length c0_0] 24 (0, 0)) (Lam.bq BK171.out) hb); have n1_ := Aside0.mk (blk_below (g := gb172) (o := .cells #[.slice none 0 0] 31 (0, 0)) (Lam.bq BK172.out) hb); have n2_ := Aside0.mk (below_step (Lam.al) hb); have n3_ := Aside0.mk (hbox); have n4_ := Aside0.mk ((by rw [hg]; exact (below_size (Lam.al)) : w.heap.size ≤ gb173)); have n5_ := Aside0.mk ((by rw [hg]; exact (below_size (Lam.al)) : w.heap.size ≤ gb173)); have n6_ := Aside0.mk ((by rw [hg]; exact Nat.ne_of_lt (blk_lt (g := gb171) (o := .cells #[.slice A0_0 l0_0.length c0_0] 24 (0, 0)) (Lam.bq BK171.out)) : gb171 ≠ gb173)); have n7_ := Aside0.mk ((by rw [hg]; exact Nat.ne_of_gt (blk_lt (g := gb171) (o := .cells #[.slice A0_0 l0_0.length c0_0] 24 (0, 0)) (Lam.bq BK171.out)) : gb173 ≠ gb171)); have n8_ := Aside0.mk ((by rw [hg]; exact Nat.ne_of_lt (blk_lt (g := gb172) (o := .cells #[.slice none 0 0] 31 (0, 0)) (Lam.bq BK172.out)) : gb172 ≠ gb173)); have n9_ := Aside0.mk ((by rw [hg]; exact Nat.ne_of_gt (blk_lt (g := gb172) (o := .cells #[.slice none 0 0] 31 (0, 0)) (Lam.bq BK172.out)) : gb173 ≠ gb172)); clear BK171; clear BK172; clear HB; have BK171 := n0_; have BK172 := n1_; have HB := n2_; have BK173 := n3_; have GW173 := n4_; have GE173 := n5_; have NB171_173 := n6_; have NB173_171 := n7_; have NB172_173 := n8_; have NB173_172 := n9_; clear n0_ n1_ n2_ n3_ n4_ n5_ n6_ n7_ n8_ n9_; clear hb hbox hg; have hnb6 := NB171_172.out; have hnc6 := NB172_171.out; have hnb7 := NB171_173.out; have hnc7 := NB173_171.out; have hcz8_0 : w5.cell? ⟨gb171, 0, none⟩ = some (.slice A0_0 l0_0.length c0_0) := (blk_cell BK171.out 0).trans rfl; have hfz8_0 := blk_frozen BK171.out 0) | ((with_reducible refine gate_callee (f := 37) rfl ?_); refine goesL_ (some 6) rfl rfl Tryd.func37 (by kernel_rfl) rfl #[.slice A0_0 l0_0.length c0_0] rfl (by (try simp only [List.map_toArray, List.map_cons, List.map_nil]); first | done | rfl | (simp only [List.length_drop, List.length_take]; rfl)) ?_; (with_reducible refine (laws_toClueS.calls k _ _ l0_0 t174 _ ?side1 ?side2 A2.out).mono ?_); (case side1 => repeat (first | exact (Kd.C_below HR0_0.out HB.out) | (with_reducible refine Kd.C_alloc ?_ _) | (with_reducible refine Kd.C_drewN ?_ _) | (with_reducible refine Kd.C_drew ?_))); (case side2 => exact HC0_0.out); rintro e w9 ⟨v175, rfl, ho0, hb⟩; refine ⟨_, rfl, ?_⟩; have n0_ := Aside0.mk (Kd.R_lower ho0 (below_size (Lam.al))); have n1_ := Aside0.mk (blk_below (g := gb171) (o := .cells #[.slice A0_0 l0_0.length c0_0] 24 (0, 0)) (Lam.bq BK171.out) hb); have n2_ := Aside0.mk (blk_below (g := gb172) (o := .cells #[.slice none 0 0] 31 (0, 0)) (Lam.bq BK172.out) hb); have n3_ := Aside0.mk (blk_below (g := gb173) (o := .cells #[.slice none 0 0] 31 (0, 0)) (Lam.bq BK173.out) hb); have n4_ := Aside0.mk (below_step (Lam.al) hb); clear BK171; clear BK172; clear BK173; clear HB; have HO176 := n0_; have BK171 := n1_; have BK172 := n2_; have BK173 := n3_; have HB := n4_; clear n0_ n1_ n2_ n3_ n4_; (try clear hb); (try clear hb2); (try clear hk); (try clear hi); (try clear ho0); obtain ⟨Ao10, co10, eo10⟩ := Kd.R_slice HO176.out; subst eo10; have hnb11 := NB173_172.out; have hnc11 := NB172_173.out; have hcz12_0 : w9.cell? ⟨gb173, 0, none⟩ = some (.slice none 0 0) := (blk_cell BK173.out 0).trans rfl; have hfz12_0 := blk_frozen BK173.out 0; have hcz13_0 : w9.cell? ⟨gb172, 0, none⟩ = some (.slice none 0 0) := (blk_cell BK172.out 0).trans rfl; have hfz13_0 := blk_frozen BK172.out 0))
 refine bodyPost_ret (results_cell_row rfl _ _ gb172 31 #[.slice Ao10 t174.length co10] (0, 0) _ rfl (by (with_reducible repeat (first | refine blk_drewN ?_ _ | refine blk_drew ?_ | refine blk_alloc ?_ _)); refine blk_put (cs := #[.slice none 0 0]) ?_ 0 _ rfl; (with_reducible repeat (first | refine blk_drewN ?_ _ | refine blk_drew ?_ | refine blk_alloc ?_ _)); refine blk_far ?_ NB172_173.out _; (with_reducible repeat (first | refine blk_drewN ?_ _ | refine blk_drew ?_ | refine blk_alloc ?_ _)); exact BK172.out) Tryd.underlying31 rfl (by kernel_rfl)) rfl ?_
 exact ⟨_, by first | rfl | (simp [errW_none, errW_some] <;> rfl) | (simp [*, errW_none, errW_some] <;> rfl), by (with_reducible repeat (first | apply Kd.R_alloc | apply Kd.R_drewN | apply Kd.R_drew)); exact Kd.R_mono (Kd.R_far (p := ⟨gb172, 0, none⟩) (Kd.R_far (p := ⟨gb173, 0, none⟩) (Kd.R_types (Kd.R_types HO176.out BK173.out (by decide)) BK172.out (by decide)) (fun _ hk => hk.1.2) (.slice Ao10 t174.length co10)) (fun _ hk => hk.2) (.slice Ao10 t174.length co10)) (fun _ hk => trivial), Lam.al⟩

end Go.Proofs.YtdikeggkfkkajaaDoor.PFnExactSolutions
