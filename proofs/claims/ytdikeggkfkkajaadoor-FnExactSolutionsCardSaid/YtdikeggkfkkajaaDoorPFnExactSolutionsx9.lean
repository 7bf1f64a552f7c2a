-- Made by a program of this session (wip/xprint.py) out of the translation.
import Derived.Test.YtdikeggkfkkajaaDoorPFnExactSolutionsx0
import Derived.Test.YtdikeggkfkkajaaDoorPFnExactSolutionsx6
import Derived.Test.YtdikeggkfkkajaaDoorPFnExactSolutionsx7
import Derived.Test.YtdikeggkfkkajaaDoorPFnExactSolutionsx8
namespace Go.Proofs.YtdikeggkfkkajaaDoor.PFnExactSolutions
open Go.RowKit Go.Proofs.YtdikeggkfkkajaaDoorW.PrintWords Go.Proofs.YtdikeggkfkkajaaDoorW.PrintLast Go.Proofs.YtdikeggkfkkajaaDoorW.PrintMore
attribute [local go_sem] max2_int min2_int max_two min_two max_three min_three max_four min_four   -- for this text's walks alone
set_option linter.unusedVariables false
set_option linter.unusedSimpArgs false

/-! ### impl_fates_of: function 83 -/
abbrev impl_fates_of.Q : Value → Value → Prop := fun key v => ∃ r, Chomp.Ok r ∧ key = .string (Chomp.text r) ∧ ∃ b : Int, v = .agg #[.int .i64 (Chomp.H r : Int), .int .i64 b]
abbrev impl_fates_of.hf (rows : List Int) : List Int → Int := fun m => (Chomp.H (Chomp.bit rows (m.getD 0 0) (m.getD 1 0).toNat) : Int)
abbrev impl_fates_of.anyEl : Fmap.El := fun _ => some (.lit (.bool true), [])
/-- Block b is a map of fates each of which is right. -/
abbrev impl_fates_of.IsF (w : World) (b : Nat) : Prop := Fmap.MapIs Tryd.prog 9 impl_fates_of.anyEl impl_fates_of.Q w b
theorem impl_fates_of.num_lt : ∀ key v, impl_fates_of.Q key v → Chomp.num key < 117649 := by
 rintro key v ⟨r, hr, rfl, _⟩
 exact Chomp.num_lt hr
theorem impl_fates_of.num_inj : ∀ key v key' v', impl_fates_of.Q key v → impl_fates_of.Q key' v' → Chomp.num key = Chomp.num key' → key = key' := by
 rintro key v key' v' ⟨r, hr, rfl, _⟩ ⟨r', hr', rfl, _⟩ h
 rw [Chomp.num_text hr hr' h]
theorem impl_fates_of.key_of {r : List Int} (hr : Chomp.Ok r) : Fmap.HasKey Tryd.prog 9 (.string (Chomp.text r)) := Fmap.str_key Tryd.underlying9 (by
 have h1 := Chomp.text_len r
 have h2 := hr.2.1
 have h3 : (Chomp.text r).data.toList.length = (Chomp.text r).size := by rw [Array.length_toList]; rfl
 unfold maxLen; omega)
theorem impl_fates_of.field0 (a b : Int) (w : World) : (Instr.field 101 (.agg #[.int .i64 a, .int .i64 b]) 0).run Tryd.prog w = .ok (.int .i64 a) w := by kernel_rfl
/-! the text of a chomp -/
theorem impl_fates_of.digit {n : Int} (h : 1 ≤ n ∧ n ≤ 6) : strconv_Itoa.f n = some ⟨#[UInt8.ofNat (48 + n.toNat)]⟩ := by
 obtain ⟨k, rfl⟩ := Int.eq_ofNat_of_zero_le (show 0 ≤ n by omega)
 unfold strconv_Itoa.f
 rw [if_pos (by omega), if_pos (by omega)]
 unfold strconv_Itoa.text
 rw [Int.toNat_natCast, Lib.decDigits, dif_pos (by omega)]
theorem impl_fates_of.join_nil : ∀ l : List (List UInt8), Lib.join l [] = l.flatten
 | [] => rfl
 | x :: r => by
  rw [Lib.join_cons]
  simp [Lib.joinTail]
theorem impl_fates_of.textF {r : List Int} (hr : Chomp.Ok r) : ∃ k, impl_chompText.f k r = some (Chomp.text r) := by
 have loop : ∀ (d k i : Nat) (acc : List ByteArray), i + d = r.length → d < k → acc = (r.take i).map (fun n => (⟨#[UInt8.ofNat (48 + n.toNat)]⟩ : ByteArray)) → impl_joined.l0 k ⟨#[]⟩ acc r (r.length : Int) (i : Int) = some (Chomp.text r) := by
  intro d
  induction d with
  | zero =>
   intro k i acc hi hk ha
   obtain ⟨k, rfl⟩ : ∃ q, k = q + 1 := ⟨k - 1, by omega⟩
   obtain rfl : i = r.length := by omega
   simp only [impl_joined.l0]
   rw [if_neg (by omega), ha, List.take_length]
   have hj : Lib.join ((r.map (fun n => (⟨#[UInt8.ofNat (48 + n.toNat)]⟩ : ByteArray))).map (·.data.toList)) [] = r.map fun n => UInt8.ofNat (48 + n.toNat) := by
    rw [impl_fates_of.join_nil, List.map_map]
    clear hi hk ha hr
    induction r with
    | nil => rfl
    | cons a r ih => simp only [List.map_cons, List.flatten_cons, ih]; rfl
   unfold strings_Join.f strings_Join.text
   have h6 := hr.2.1
   rw [if_pos (by rw [List.length_map]; omega)]
   show ((if (Lib.join ((r.map (fun n => (⟨#[UInt8.ofNat (48 + n.toNat)]⟩ : ByteArray))).map (·.data.toList)) []).length ≤ 140737488355328 then some (⟨(Lib.join ((r.map (fun n => (⟨#[UInt8.ofNat (48 + n.toNat)]⟩ : ByteArray))).map (·.data.toList)) []).toArray⟩ : ByteArray) else none).bind fun t => some t) = some (Chomp.text r)
   rw [hj, if_pos (by rw [List.length_map]; omega)]
   rfl
  | succ d ih =>
   intro k i acc hi hk ha
   obtain ⟨k, rfl⟩ : ∃ q, k = q + 1 := ⟨k - 1, by omega⟩
   have hlt : i < r.length := by omega
   have hrd : rd r (i : Int) = r[i] := by
    show r.getD i 0 = r[i]
    rw [List.getD_eq_getElem?_getD, List.getElem?_eq_getElem hlt]; rfl
   have hw : wrap64 ((i : Int) + 1) = ((i + 1 : Nat) : Int) := by have := hr.2.1; rw [PK.wrap_in (by omega) (by omega)]; omega
   have hal : acc.length ≤ 6 := by rw [ha, List.length_map, List.length_take]; have := hr.2.1; omega
   simp only [impl_joined.l0]
   rw [if_pos (by omega), if_pos (by omega), if_pos (by omega), hrd, impl_fates_of.digit (hr.2.2 _ (List.getElem_mem hlt)), Option.bind_some, if_pos (by omega), hw]
   refine ih k (i + 1) _ (by omega) (by omega) ?_
   rw [ha, List.take_add_one, List.getElem?_eq_getElem hlt, List.map_append]
   rfl
 refine ⟨r.length + 1, ?_⟩
 unfold impl_chompText.f impl_joined.f
 have := loop r.length (r.length + 1) 0 [] (by omega) (by omega) (by simp)
 have e0 : ((0 : Nat) : Int) = 0 := rfl
 rw [e0] at this
 rw [this]; rfl
theorem impl_fates_of.take_step {rows : List Int} {L : List (List Int)} {kk x y : Nat} (h : kk < L.length) (hxy : L.getD kk [] = [(x : Int), (y : Int)]) : (L.take kk).map (impl_fates_of.hf rows) ++ [((Chomp.H (Chomp.bit rows (x : Int) y) : Nat) : Int)] = (L.take (kk + 1)).map (impl_fates_of.hf rows) := by
 rw [List.take_add_one, List.getElem?_eq_getElem h, List.map_append]
 have : L[kk] = [(x : Int), (y : Int)] := by
  rw [← hxy, List.getD_eq_getElem?_getD, List.getElem?_eq_getElem h]; rfl
 rw [this]
 simp [impl_fates_of.hf]
/-! all bites -/
theorem impl_fates_of.bitesF {r : List Int} (hr : Chomp.Ok r) : ∃ k, impl_bites.f k r = some (Chomp.moves r) := by
 have h6 := hr.2.1
 have inner : ∀ (y : Nat) (d x k : Nat) (acc : List (List Int)), y < r.length → x + d = (r.getD y 0).toNat → d < k → acc.length + d ≤ 1000 →
   impl_bites.l1 k acc (y : Int) r (r.length : Int) (y : Int) (r.getD y 0) (x : Int) = impl_bites.l0 (k - d - 1) (acc ++ (((List.range' x d).filter fun x => decide (0 < x + y)).map fun (x : Nat) => [(x : Int), (y : Int)])) r (r.length : Int) ((y + 1 : Nat) : Int) := by
  intro y d
  induction d with
  | zero =>
   intro x k acc hy hx hk ha
   obtain ⟨k, rfl⟩ : ∃ q, k = q + 1 := ⟨k - 1, by omega⟩
   have hw : wrap64 ((y : Int) + 1) = ((y + 1 : Nat) : Int) := by rw [PK.wrap_in (by omega) (by omega)]; omega
   simp only [impl_bites.l1]
   rw [if_neg (by omega), hw]
   simp
  | succ d ih =>
   intro x k acc hy hx hk ha
   obtain ⟨k, rfl⟩ : ∃ q, k = q + 1 := ⟨k - 1, by omega⟩
   have hr6 : r.getD y 0 ≤ 6 := by
    rw [List.getD_eq_getElem?_getD, List.getElem?_eq_getElem hy]
    exact (hr.2.2 _ (List.getElem_mem hy)).2
   have hw : wrap64 ((x : Int) + 1) = ((x + 1 : Nat) : Int) := by rw [PK.wrap_in (by omega) (by omega)]; omega
   simp only [impl_bites.l1]
   rw [if_pos (by omega), hw, List.range'_succ]
   by_cases h1 : 0 < x
   ·rw [if_pos (by omega), if_pos (by omega), ih (x + 1) k _ hy (by omega) (by omega) (by rw [List.length_append]; simp; omega), List.filter_cons, if_pos (by simp; omega)]
    rw [show k + 1 - (d + 1) - 1 = k - d - 1 by omega]
    simp
   ·rw [if_neg (by omega)]
    obtain rfl : x = 0 := by omega
    by_cases h2 : 0 < y
    ·rw [if_pos (by omega), if_pos (by omega), ih (0 + 1) k _ hy (by omega) (by omega) (by rw [List.length_append]; simp; omega), List.filter_cons, if_pos (by simp; omega)]
     rw [show k + 1 - (d + 1) - 1 = k - d - 1 by omega]
     simp
    ·rw [if_neg (by omega), ih (0 + 1) k _ hy (by omega) (by omega) (by omega), List.filter_cons, if_neg (by simp; omega)]
     rw [show k + 1 - (d + 1) - 1 = k - d - 1 by omega]
 have outer : ∀ (d y k : Nat) (acc : List (List Int)), y + d = r.length → 20 * d < k → acc.length ≤ 6 * y → impl_bites.l0 k acc r (r.length : Int) (y : Int) = some (acc ++ (List.range' y d).flatMap (Chomp.movesAt r)) := by
  intro d
  induction d with
  | zero =>
   intro y k acc hy hk ha
   obtain ⟨k, rfl⟩ : ∃ q, k = q + 1 := ⟨k - 1, by omega⟩
   simp only [impl_bites.l0]
   rw [if_neg (by omega)]; simp
  | succ d ih =>
   intro y k acc hy hk ha
   obtain ⟨k, rfl⟩ : ∃ q, k = q + 1 := ⟨k - 1, by omega⟩
   have hlt : y < r.length := by omega
   have hr6 : (r.getD y 0).toNat ≤ 6 := by
    rw [List.getD_eq_getElem?_getD, List.getElem?_eq_getElem hlt]
    have := (hr.2.2 _ (List.getElem_mem hlt)).2
    simp; omega
   have hrd : rd r (y : Int) = r.getD y 0 := rfl
   have hi := inner y (r.getD y 0).toNat 0 k acc hlt (by omega) (by omega) (by omega)
   have e0 : ((0 : Nat) : Int) = 0 := rfl
   rw [e0] at hi
   simp only [impl_bites.l0]
   rw [if_pos (by omega), if_pos (by omega), if_pos (by omega), hrd, hi]
   have hm : (((List.range' 0 (r.getD y 0).toNat).filter fun x => decide (0 < x + y)).map fun (x : Nat) => [(x : Int), (y : Int)]) = Chomp.movesAt r y := by unfold Chomp.movesAt; rw [List.range_eq_range']
   rw [hm, ih (y + 1) _ _ (by omega) (by omega) (by have := Chomp.movesAt_len hr.2.2 y; rw [List.length_append]; omega), List.range'_succ, List.flatMap_cons, List.append_assoc]
 refine ⟨20 * r.length + 1, ?_⟩
 unfold impl_bites.f
 have := outer r.length 0 (20 * r.length + 1) [] (by omega) (by omega) (by simp)
 have e0 : ((0 : Nat) : Int) = 0 := rfl
 rw [e0] at this
 rw [this, List.nil_append]
 unfold Chomp.moves
 rw [List.range_eq_range']
set_option maxHeartbeats 8000000 in
set_option maxRecDepth 100000 in
theorem impl_fates_of.rec : ∀ (n : Nat) (rows : List Int) (A0 : Option Addr) (c0 b : Nat) (w : World), Chomp.Ok rows → Chomp.sq rows ≤ n → Kd.C (Kd.int .i64) w A0 rows.length rows → rows.length ≤ c0 → impl_fates_of.IsF w b →
  Calls Tryd.prog 83 #[.map (some b), .slice A0 rows.length c0] w fun e w' => ∃ bi : Int, e = .returned (.agg #[.int .i64 (Chomp.H rows : Int), .int .i64 bi]) ∧ impl_fates_of.IsF w' b ∧ Kq.KQ w w' (fun q => q = b) := by
 intro n
 induction n with
 | zero =>
  intro rows _ _ _ _ hr hs
  exact absurd (Chomp.sq_pos hr) (by omega)
 | succ n ih =>
  intro rows A0 c0 b w hr hs hC hc hF
  have IH := Aside0.mk ih
  have HO := Aside0.mk hr
  have HSQ := Aside0.mk hs
  have HF0 := Aside0.mk hF
  have HC0 := Aside0.mk hC
  have HCC := Aside0.mk hc
  have HLT := Aside0.mk hF.lt
  obtain ⟨kt, htx⟩ := impl_fates_of.textF hr
  obtain ⟨kb, hbt⟩ := impl_fates_of.bitesF hr
  obtain ⟨L, hL⟩ : ∃ L, Chomp.moves rows = L := ⟨_, rfl⟩
  have hl36 : L.length ≤ 36 := by rw [← hL]; exact Chomp.moves_len hr
  have hl64 : (L.length : Int) ≤ 9223372036854775807 := by omega
  have HSS := Aside0.mk (show Chomp.H rows = Chomp.mex (L.map (impl_fates_of.hf rows)) by rw [Chomp.H_eq hr, hL])
  rw [hL] at hbt
  have HL := Aside0.mk hL
  have HL36 := Aside0.mk hl36
  clear hL hl36
  have HTX := Aside0.mk (fun W (hW : Kq.KQ w W (fun q => q = b)) => impl_chompText.calls kt A0 c0 rows _ W (Fmap.C_kq_map hC hF hW) hc htx)
  have HBT := Aside0.mk (fun W (hW : Kq.KQ w W (fun q => q = b)) => impl_bites.calls kb A0 c0 rows _ W (Fmap.C_kq_map hC hF hW) hc hbt)
  have HBI := Aside0.mk (fun (x : Int) (y : Nat) W (hW : Kq.KQ w W (fun q => q = b)) => impl_bitten.calls A0 c0 rows x (y : Int) (Chomp.bit rows x y) W (Fmap.C_kq_map hC hF hW) hc (by unfold impl_bitten.f; rw [if_pos (by have := hr.2.1; omega)]; rfl))
  have hkey := Aside0.mk (impl_fates_of.key_of hr)
  have HK := Aside0.mk (Kq.KQ.refl w (fun q => q = b))
  have HF := Aside0.mk hF
  clear ih hr hs hC hc hF htx hbt
  go_enter Tryd.func83, Tryd.ntmps83
  go_wp2_with (first
   | ((with_reducible refine gate_dst (N := 4) rfl ?_); refine box_event ?hg (N := 4) ?hd (cs := #[.int .i64 0, .int .i64 0]) (t := 101) ?hr ?_; (case hd => rfl); (case hg => rfl); (case hr => first | (go_simp; done) | (go_simp; rfl)); intro g4 hg w4 hbox hb; have G4 := Aside0.mk ((by rw [hg]; exact HK.out.size) : w.heap.size ≤ g4); have X4 := Aside0.mk hbox; have n0_ := Aside0.mk (Kq.KQ.below HK.out hb); have n1_ := Aside0.mk (HF.out.below hb); clear HK HF; have HK := n0_; have HF := n1_; clear n0_ n1_ hb hbox hg)
   | (go_at_call 113; go_loud (refine (HTX.out _ HK.out).mono ?_; rintro e w5 ⟨rfl, hb⟩); have n0_ := Aside0.mk (Kq.KQ.below HK.out hb); have n1_ := Aside0.mk (HF.out.below hb); have n2_ := Aside0.mk (blk_below X4.out hb); clear HK HF X4; have HK := n0_; have HF := n1_; have X4 := n2_; clear n0_ n1_ n2_ hb)
   | (at_lookup; refine Fmap.wp_look rfl (.tmp 18) (.tmp 19) 73 101 rfl (Go.Maps.string_keyed Tryd.underlying9) Tryd.underlying73 (fun w => Tryd.zeroValue101 w) rfl HF.out rfl hkey.out ?_ ?_; rotate_left; rintro v ⟨r', hok', hk', bi, rfl⟩; obtain rfl : rows = r' := Chomp.text_inj HO.out hok' (by injection hk'); clear hok' hk'; have FOUND := Aside0.mk trivial; rotate_right)
   | ((with_reducible refine gate_dst (N := 6) rfl ?_); have hfd_ := FOUND.out; refine box_event ?hg (N := 6) ?hd (cs := #[.int .i64 0, .int .i64 0]) (t := 101) ?hr ?_; (case hd => rfl); (case hg => rfl); (case hr => first | (go_simp; done) | (go_simp; rfl)); intro g6 hg w6 hbox hb; have G6 := Aside0.mk ((by rw [hg]; exact HK.out.size) : w.heap.size ≤ g6); have N46 : ¬ g4 = g6 := (by have := blk_lt X4.out; omega); have N64 : ¬ g6 = g4 := (fun h => N46 h.symm); have n0_ := Aside0.mk (Kq.KQ.below HK.out hb); have n1_ := Aside0.mk (HF.out.below hb); have n2_ := Aside0.mk (blk_below X4.out hb); clear HK HF X4; have HK := n0_; have HF := n1_; have X4 := n2_; clear n0_ n1_ n2_; have X6 := Aside0.mk hbox; have hc60 : w6.cell? ⟨g6, 0, none⟩ = some (.int .i64 0) := (blk_cell hbox 0).trans rfl; have hc61 : w6.cell? ⟨g6, 1, none⟩ = some (.int .i64 0) := (blk_cell hbox 1).trans rfl; have hf60 := blk_frozen hbox 0; have hf61 := blk_frozen hbox 1; have hc40 : w6.cell? ⟨g4, 0, none⟩ = some (.int .i64 0) := (blk_cell X4.out 0).trans rfl; have hc41 : w6.cell? ⟨g4, 1, none⟩ = some (.int .i64 0) := (blk_cell X4.out 1).trans rfl; have hf40 := blk_frozen X4.out 0; have hf41 := blk_frozen X4.out 1; clear hb hbox hg hfd_)
   | ((with_reducible refine gate_dst (N := 25) rfl ?_); refine Fmap.wp_make rfl rfl 128 rfl Tryd.prog 3 4 ?_; intro gm wm hgm hset hbm; have bb := below_step (below_alloc (Below.refl w5.heap.size w5) _) hbm; have GM := Aside0.mk ((by rw [hgm]; exact Nat.le_trans HK.out.size (below_alloc (Below.refl w5.heap.size w5) _).size) : w.heap.size ≤ gm); have n0_ := Aside0.mk (Kq.KQ.below HK.out bb); have n1_ := Aside0.mk (HF.out.below bb); have n2_ := Aside0.mk (blk_below X4.out bb); clear HK HF X4; have HK := n0_; have HF := n1_; have X4 := n2_; have HSET := Aside0.mk hset; clear n0_ n1_ n2_ bb hset hbm hgm)
   | (go_at_call 114; go_loud (refine (HBT.out _ HK.out).mono ?_; rintro e w7 ⟨vb, rfl, ho, hb⟩); obtain ⟨Ab, cb, eb⟩ := Kd.S_slice ho; subst eb; have HR := Aside0.mk (Kd.S_lower ho HK.out.size); have n0_ := Aside0.mk (Kq.KQ.below HK.out hb); have n1_ := Aside0.mk (HF.out.below hb); have n2_ := Aside0.mk (blk_below X4.out hb); have n3_ := Aside0.mk (HSET.out.below hb); clear HK HF X4 HSET; have HK := n0_; have HF := n1_; have X4 := n2_; have HSET := n3_; clear n0_ n1_ n2_ n3_ hb ho))
  rotate_left
  ·refine bodyPost_ret (v := .agg #[.int .i64 (Chomp.H rows : Int), .int .i64 bi]) (by simp [results, Tryd.f83, go_sem, hc40, hc41, hf40, hf41, N46, N64]) rfl ?_
   have HNb4 : b ≠ g4 := by have := HLT.out; have := G4.out; omega
   have HNb6 : b ≠ g6 := by have := HLT.out; have := G6.out; omega
   exact ⟨bi, rfl, (((HF.out.set (p := ⟨g6, 0, none⟩) HNb6 _).set (p := ⟨g6, 1, none⟩) HNb6 _).set (p := ⟨g4, 0, none⟩) HNb4 _).set (p := ⟨g4, 1, none⟩) HNb4 _, Kq.KQ.setCell (Kq.KQ.setCell (Kq.KQ.setCell (Kq.KQ.setCell HK.out (p := ⟨g6, 0, none⟩) (.inr G6.out) _) (p := ⟨g6, 1, none⟩) (.inr G6.out) _) (p := ⟨g4, 0, none⟩) (.inr G4.out) _) (p := ⟨g4, 1, none⟩) (.inr G4.out) _⟩
  go_loopg [9, 10, 29] L.length (fun gg v9 v10 v29 w' => ∃ (kk : Nat) (lg qk : Int), kk ≤ L.length ∧ L.length - kk ≤ gg ∧ v29 = .int .i64 kk ∧ v9 = .int .i64 lg ∧ v10 = .int .i64 qk ∧ Aside0 (impl_fates_of.IsF w' b) ∧ Aside0 (Fmap.SetIs Tryd.prog 3 4 w' gm kk ((L.take kk).map (impl_fates_of.hf rows))) ∧ Aside0 (Kq.KQ w w' (fun q => q = b)) ∧ Aside0 (Kd.S (Kd.slice 3 (Kd.int .i64)) 38 w' w.heap.size (fun _ => True) (.slice Ab L.length cb) L) ∧ Aside0 (w'.heap[g4]? = some (.cells #[.int .i64 0, .int .i64 0] 101 (0, 0))))
  case atStart => exact ⟨0, _, _, Nat.zero_le _, by omega, rfl, rfl, rfl, HF, HSET, HK, HR, X4⟩
  case round =>
   clear HK HF X4 HSET HR
   obtain ⟨kk, lg, qk, hkk, hgg, rfl, rfl, rfl, HF, HSET, HK, HR, X4⟩ := hrel
   by_cases hlt : kk < L.length
   ·have hltz : (kk : Int) < (L.length : Int) := by omega
    rcases Del.row_formS HR.out with ⟨_, h2⟩ | ⟨gv, cv, hv⟩
    ·rw [h2] at hlt; simp at hlt
    injection hv with hA hn hc2
    clear hn
    subst hA; subst hc2
    obtain ⟨_, _, _, curv, hgv, hnv, _, hMv⟩ := Del.row_ofS rfl HR.out ([] : List Int)
    have hm := hMv kk hlt
    have hmem : L.getD kk [] ∈ Chomp.moves rows := by rw [HL.out]; exact Lam.getD_mem hlt ([] : List Int)
    obtain ⟨x, y, hxy0, hy, hx, hp⟩ := Chomp.moves_mem hmem
    have hxy := Aside0.mk hxy0
    rw [hxy0] at hm
    obtain ⟨vm, hvm, hRm⟩ := hm
    have hx0 : wr.cell? ⟨gv, kk, none⟩ = some curv[kk]! := (blk_cell hgv kk).trans (Del.arr_at (by omega))
    injection hvm with hvm
    rw [hvm] at hx0
    rcases Del.row_formR hRm with ⟨_, h3⟩ | ⟨gq, cq, hq⟩
    ·cases h3
    have hq' : vm = .slice (some ⟨gq, 0, none⟩) 2 cq := hq
    clear hq
    subst hq'
    obtain ⟨_, _, hbq, curq, hgq, hnq, _, hMq⟩ := Del.row_ofR rfl hRm (0 : Int)
    have HQ0 := Aside0.mk (show curq[0]? = some (.int .i64 (x : Int)) by have h9 : [curq[0]!] = [Value.int .i64 (x : Int)] := hMq 0 (by omega); injection h9 with h9; rw [Del.arr_at (by omega), h9])
    have HQ1 := Aside0.mk (show curq[1]? = some (.int .i64 (y : Int)) by have h9 : [curq[1]!] = [Value.int .i64 (y : Int)] := hMq 1 (by omega); injection h9 with h9; rw [Del.arr_at (by omega), h9])
    have BOK := Aside0.mk (Chomp.bit_Ok HO.out (x := (x : Int)) (y := y) (by omega) (by omega))
    have BLT := Aside0.mk (show Chomp.sq (Chomp.bit rows (x : Int) y) ≤ n by have := Chomp.bit_lt (r := rows) (x := (x : Int)) (y := y) (by omega) hy hx; have := HSQ.out; omega)
    have NQB := Aside0.mk (show ¬ gq = b by have := HLT.out; omega)
    clear hMv hMq hRm hmem hxy0 hvm hy hx hp hbq hnq hnv
    go_wp2
    have F8 := HF.out.kept (w' := wr.drew) rfl
    have S8 := HSET.out.kept (w' := wr.drew) rfl
    have K8 := Kq.KQ.drew HK.out
    have R8 := Kd.S_drew HR.out
    have X8 : wr.drew.heap[g4]? = some (.cells #[.int .i64 0, .int .i64 0] 101 (0, 0)) := X4.out
    have q8 : wr.drew.heap[gq]? = some (.cells curq 3 (0, 0)) := hgq
    refine start_ (n := 12) (S := fun w' => w'.heap[gq]? = some (.cells curq 3 (0, 0))) (ds := []) #[false, false, false, false, false, false, false, false, false, false, false, false] (by kernel_rfl) rfl rfl q8 (fun hHeld => ?_)
    generalize wr.drew = we at F8 S8 K8 R8 X8 q8 hHeld ⊢
    clear HF HSET HK HR X4 hgq hx0 hgv
    refine pure_ (i := 0) (N := some 33) (v := ?_) (a' := ?_) #[true, false, false, false, false, false, false, false, false, false, false, false] rfl rfl (by kernel_rfl) (fun _ _ _ h => h) (Or.inl ⟨by rfl, ?_⟩) ?_ ?_
    rotate_left
    ·intro w'
     go_simp
     with_reducible rfl
    rotate_left
    ·simp only [Act.put, Lam.pa, Lam.pb, Lam.pc, i64_w, i32_w]
     rfl
    refine pure_ (i := 1) (N := some 34) (v := ?_) (a' := ?_) #[true, true, false, false, false, false, false, false, false, false, false, false] rfl rfl (by kernel_rfl) (fun _ _ _ h => h) (Or.inl ⟨by rfl, ?_⟩) ?_ ?_
    rotate_left
    ·intro w'
     go_simp
     with_reducible rfl
    rotate_left
    ·simp only [Act.put, Lam.pa, Lam.pb, Lam.pc, i64_w, i32_w]
     rfl
    refine pure_ (i := 2) (N := some 35) (v := ?_) (a' := ?_) #[true, true, true, false, false, false, false, false, false, false, false, false] rfl rfl (by kernel_rfl) (fun _ _ _ h => h) (Or.inl ⟨by rfl, ?_⟩) ?_ ?_
    rotate_left
    ·intro w'
     go_simp
     with_reducible rfl
    rotate_left
    ·simp only [Act.put, Lam.pa, Lam.pb, Lam.pc, i64_w, i32_w]
     rfl
    refine pure_ (i := 3) (N := some 36) (v := ?_) (a' := ?_) #[true, true, true, true, false, false, false, false, false, false, false, false] rfl rfl (by kernel_rfl) (fun _ _ _ h => h) (Or.inl ⟨by rfl, ?_⟩) ?_ ?_
    rotate_left
    ·intro w'
     go_simp
     with_reducible rfl
    rotate_left
    ·simp only [Act.put, Lam.pa, Lam.pb, Lam.pc, i64_w, i32_w]
     rfl
    refine take_ (i := 4) (N := some 37) (v := ?_) (a' := ?_) #[true, true, true, true, true, false, false, false, false, false, false, false] rfl rfl (by kernel_rfl) (fun _ _ _ h => h) (Or.inl ⟨by rfl, ?_⟩) hHeld ?_ ?_
    rotate_left
    ·rintro w' s0
     have s1 := (blk_cell s0 0).trans HQ0.out
     go_simp
     with_reducible rfl
    rotate_left
    ·simp only [Act.put, Lam.pa, Lam.pb, Lam.pc, i64_w, i32_w]
     rfl
    refine pure_ (i := 5) (N := some 38) (v := ?_) (a' := ?_) #[true, true, true, true, true, true, false, false, false, false, false, false] rfl rfl (by kernel_rfl) (fun _ _ _ h => h) (Or.inl ⟨by rfl, ?_⟩) ?_ ?_
    rotate_left
    ·intro w'
     go_simp
     with_reducible rfl
    rotate_left
    ·simp only [Act.put, Lam.pa, Lam.pb, Lam.pc, i64_w, i32_w]
     rfl
    refine pure_ (i := 6) (N := some 39) (v := ?_) (a' := ?_) #[true, true, true, true, true, true, true, false, false, false, false, false] rfl rfl (by kernel_rfl) (fun _ _ _ h => h) (Or.inl ⟨by rfl, ?_⟩) ?_ ?_
    rotate_left
    ·intro w'
     go_simp
     with_reducible rfl
    rotate_left
    ·simp only [Act.put, Lam.pa, Lam.pb, Lam.pc, i64_w, i32_w]
     rfl
    refine take_ (i := 7) (N := some 40) (v := ?_) (a' := ?_) #[true, true, true, true, true, true, true, true, false, false, false, false] rfl rfl (by kernel_rfl) (fun _ _ _ h => h) (Or.inl ⟨by rfl, ?_⟩) hHeld ?_ ?_
    rotate_left
    ·rintro w' s0
     have s1 := (blk_cell s0 1).trans HQ1.out
     go_simp
     with_reducible rfl
    rotate_left
    ·simp only [Act.put, Lam.pa, Lam.pb, Lam.pc, i64_w, i32_w]
     rfl
    refine join_ (σ := Value × Int × Nat) 1 #[true, true, true, true, true, true, true, true, true, true, true, false] (fun s_ => [(41, s_.1), (42, .agg #[.int .i64 ((Chomp.H (Chomp.bit rows (x : Int) y) : Nat) : Int), .int .i64 s_.2.1]), (13, .pointer (some ⟨s_.2.2, 0, none⟩))]) (fun s_ w' => (w'.heap[gq]? = some (.cells curq 3 (0, 0))) ∧ impl_fates_of.IsF w' b ∧ w'.heap[s_.2.2]? = some (.cells #[.int .i64 0, .int .i64 0] 101 (0, 0)) ∧ we.heap.size ≤ s_.2.2 ∧ Kq.KQ we w' (fun q => q = b)) ?_ ?_
    rotate_left
    ·intro hCont
     refine two_ (i := 8) (j := 10) (Ni := some 41) (Nj := some 13) #[true, true, true, true, true, true, true, true, true, false, false, false] #[true, true, true, true, true, true, true, true, false, false, true, false] rfl rfl rfl rfl (by kernel_rfl) (by decide) (by decide) (fun K hK => ?_) (fun K hK => ?_)
     ·refine goes_ Tryd.func115 (by kernel_rfl) rfl #[.slice A0 rows.length c0, .int .i64 (x : Int), .int .i64 (y : Int)] (by rfl) rfl rfl (by (try simp only [List.map_toArray, List.map_cons, List.map_nil]); first | done | rfl | (simp [Act.eval]; done)) ?_
      refine (HBI.out (x : Int) y _ K8).mono ?_
      rintro e w1 ⟨v1, rfl, ho1, hb1⟩
      obtain ⟨A1, c1, e1⟩ := Kd.R_slice ho1
      subst e1
      refine ⟨_, rfl, ?_⟩
      have q1 := blk_below q8 hb1
      refine hK.out _ _ q1 (fun hHeld => ?_)
      clear hK K
      refine norm_ (a' := ?_) ?_ ?_
      rotate_left
      ·show Act.put _ (some 41) _ = _
       simp only [Act.put, Lam.pa, Lam.pb, Lam.pc, i64_w, i32_w]
       rfl
      have F1 := F8.below hb1
      refine two_ (i := 9) (j := 10) (Ni := some 42) (Nj := some 13) #[true, true, true, true, true, true, true, true, true, true, false, false] #[true, true, true, true, true, true, true, true, true, false, true, false] rfl rfl rfl rfl (by kernel_rfl) (by decide) (by decide) (fun K hK => ?_) (fun K hK => ?_)
      ·refine goes_ Tryd.func83 (by kernel_rfl) rfl #[.map (some b), .slice A1 (Chomp.bit rows (x : Int) y).length c1] (by rfl) rfl rfl (by (try simp only [List.map_toArray, List.map_cons, List.map_nil]); first | done | rfl | (simp [Act.eval]; done)) ?_
       refine (IH.out (Chomp.bit rows (x : Int) y) A1 c1 b w1 BOK.out BLT.out (Kd.R_reads' ho1).2.2 (Kd.R_reads' ho1).2.1 F1).mono ?_
       rintro e w2 ⟨bi, rfl, F2, k2⟩
       refine ⟨_, rfl, ?_⟩
       have q2 := Kq.blk_kq q1 k2 NQB.out
       refine hK.out _ _ q2 (fun hHeld => ?_)
       clear hK K
       refine norm_ (a' := ?_) ?_ ?_
       rotate_left
       ·show Act.put _ (some 42) _ = _
        simp only [Act.put, Lam.pa, Lam.pb, Lam.pc, i64_w, i32_w]
        rfl
       refine one_ (i := 10) (N := some 13) #[true, true, true, true, true, true, true, true, true, true, true, false] rfl rfl (by kernel_rfl) (by decide) (fun K hK => ?_)
       refine box_step (N := 13) (cs := #[.int .i64 0, .int .i64 0]) (t := 101) ?hw ?hd ?hr ?_
       case hw => rfl
       case hd => rfl
       case hr => first | (go_simp; done) | (go_simp; rfl)
       intro g13 hg13 w3 hx3 hb3
       have q3 := blk_below q2 hb3
       refine hK.out _ _ q3 (fun hHeld => ?_)
       clear hK K
       refine norm_ (a' := ?_) ?_ ?_
       rotate_left
       ·show Act.put _ (some 13) _ = _
        simp only [Act.put, Lam.pa, Lam.pb, Lam.pc, i64_w, i32_w]
        rfl
       exact norm_ (by simp only [putAll, Act.put, Lam.pa, Lam.pb, Lam.pc]) (hCont (.slice A1 (Chomp.bit rows (x : Int) y).length c1, bi, g13) _ ⟨q3, F2.below hb3, hx3, (by rw [hg13]; exact Nat.le_trans hb1.size k2.size), Kq.KQ.below ((Kq.KQ.below (Kq.KQ.refl _ _) hb1).then_ k2 (fun _ h => .inl h)) hb3⟩)
      ·refine box_step (N := 13) (cs := #[.int .i64 0, .int .i64 0]) (t := 101) ?hw ?hd ?hr ?_
       case hw => rfl
       case hd => rfl
       case hr => first | (go_simp; done) | (go_simp; rfl)
       intro g13 hg13 w2 hx2 hb2
       have q2 := blk_below q1 hb2
       refine hK.out _ _ q2 (fun hHeld => ?_)
       clear hK K
       refine norm_ (a' := ?_) ?_ ?_
       rotate_left
       ·show Act.put _ (some 13) _ = _
        simp only [Act.put, Lam.pa, Lam.pb, Lam.pc, i64_w, i32_w]
        rfl
       refine one_ (i := 9) (N := some 42) #[true, true, true, true, true, true, true, true, true, true, true, false] rfl rfl (by kernel_rfl) (by decide) (fun K hK => ?_)
       refine goes_ Tryd.func83 (by kernel_rfl) rfl #[.map (some b), .slice A1 (Chomp.bit rows (x : Int) y).length c1] (by rfl) rfl rfl (by (try simp only [List.map_toArray, List.map_cons, List.map_nil]); first | done | rfl | (simp [Act.eval]; done)) ?_
       refine (IH.out (Chomp.bit rows (x : Int) y) A1 c1 b w2 BOK.out BLT.out (Kd.R_reads' (Kd.R_below ho1 hb2)).2.2 (Kd.R_reads' (Kd.R_below ho1 hb2)).2.1 (F1.below hb2)).mono ?_
       rintro e w3 ⟨bi, rfl, F3, k3⟩
       refine ⟨_, rfl, ?_⟩
       have q3 := Kq.blk_kq q2 k3 NQB.out
       refine hK.out _ _ q3 (fun hHeld => ?_)
       clear hK K
       refine norm_ (a' := ?_) ?_ ?_
       rotate_left
       ·show Act.put _ (some 42) _ = _
        simp only [Act.put, Lam.pa, Lam.pb, Lam.pc, i64_w, i32_w]
        rfl
       have hge : we.heap.size ≤ g13 := by rw [hg13]; exact hb1.size
       exact norm_ (by simp only [putAll, Act.put, Lam.pa, Lam.pb, Lam.pc]) (hCont (.slice A1 (Chomp.bit rows (x : Int) y).length c1, bi, g13) _ ⟨q3, F3, Kq.blk_kq hx2 k3 (show ¬ g13 = b by have := HLT.out; have := K8.size; omega), hge, (Kq.KQ.below (Kq.KQ.below (Kq.KQ.refl _ _) hb1) hb2).then_ k3 (fun _ h => .inl h)⟩)
     ·refine box_step (N := 13) (cs := #[.int .i64 0, .int .i64 0]) (t := 101) ?hw ?hd ?hr ?_
      case hw => rfl
      case hd => rfl
      case hr => first | (go_simp; done) | (go_simp; rfl)
      intro g13 hg13 w1 hx1 hb1
      have q1 := blk_below q8 hb1
      refine hK.out _ _ q1 (fun hHeld => ?_)
      clear hK K
      refine norm_ (a' := ?_) ?_ ?_
      rotate_left
      ·show Act.put _ (some 13) _ = _
       simp only [Act.put, Lam.pa, Lam.pb, Lam.pc, i64_w, i32_w]
       rfl
      refine one_ (i := 8) (N := some 41) #[true, true, true, true, true, true, true, true, true, false, true, false] rfl rfl (by kernel_rfl) (by decide) (fun K hK => ?_)
      refine goes_ Tryd.func115 (by kernel_rfl) rfl #[.slice A0 rows.length c0, .int .i64 (x : Int), .int .i64 (y : Int)] (by rfl) rfl rfl (by (try simp only [List.map_toArray, List.map_cons, List.map_nil]); first | done | rfl | (simp [Act.eval]; done)) ?_
      refine (HBI.out (x : Int) y _ (Kq.KQ.below K8 hb1)).mono ?_
      rintro e w2 ⟨v1, rfl, ho2, hb2⟩
      obtain ⟨A1, c1, e1⟩ := Kd.R_slice ho2
      subst e1
      refine ⟨_, rfl, ?_⟩
      have q2 := blk_below q1 hb2
      refine hK.out _ _ q2 (fun hHeld => ?_)
      clear hK K
      refine norm_ (a' := ?_) ?_ ?_
      rotate_left
      ·show Act.put _ (some 41) _ = _
       simp only [Act.put, Lam.pa, Lam.pb, Lam.pc, i64_w, i32_w]
       rfl
      refine one_ (i := 9) (N := some 42) #[true, true, true, true, true, true, true, true, true, true, true, false] rfl rfl (by kernel_rfl) (by decide) (fun K hK => ?_)
      refine goes_ Tryd.func83 (by kernel_rfl) rfl #[.map (some b), .slice A1 (Chomp.bit rows (x : Int) y).length c1] (by rfl) rfl rfl (by (try simp only [List.map_toArray, List.map_cons, List.map_nil]); first | done | rfl | (simp [Act.eval]; done)) ?_
      refine (IH.out (Chomp.bit rows (x : Int) y) A1 c1 b w2 BOK.out BLT.out (Kd.R_reads' ho2).2.2 (Kd.R_reads' ho2).2.1 ((F8.below hb1).below hb2)).mono ?_
      rintro e w3 ⟨bi, rfl, F3, k3⟩
      refine ⟨_, rfl, ?_⟩
      have q3 := Kq.blk_kq q2 k3 NQB.out
      refine hK.out _ _ q3 (fun hHeld => ?_)
      clear hK K
      refine norm_ (a' := ?_) ?_ ?_
      rotate_left
      ·show Act.put _ (some 42) _ = _
       simp only [Act.put, Lam.pa, Lam.pb, Lam.pc, i64_w, i32_w]
       rfl
      have hge : we.heap.size ≤ g13 := by rw [hg13]; exact Nat.le_refl _
      exact norm_ (by simp only [putAll, Act.put, Lam.pa, Lam.pb, Lam.pc]) (hCont (.slice A1 (Chomp.bit rows (x : Int) y).length c1, bi, g13) _ ⟨q3, F3, Kq.blk_kq (blk_below hx1 hb2) k3 (show ¬ g13 = b by have := HLT.out; have := K8.size; omega), hge, (Kq.KQ.below (Kq.KQ.below (Kq.KQ.refl _ _) hb1) hb2).then_ k3 (fun _ h => .inl h)⟩)
    rintro ⟨v1, bi, g13⟩ w3 ⟨hHeld, F3, hx13, hg13, k3⟩
    dsimp only at F3 hx13 hg13
    refine norm_ (a' := ?_) ?_ ?_
    rotate_left
    ·simp only [putAll, Act.put, Lam.pa, Lam.pb, Lam.pc]
     rfl
    have hc0 : w3.cell? ⟨g13, 0, none⟩ = some (.int .i64 0) := (blk_cell hx13 0).trans rfl
    have hc1 : w3.cell? ⟨g13, 1, none⟩ = some (.int .i64 0) := (blk_cell hx13 1).trans rfl
    have hf0 := blk_frozen hx13 0
    have hf1 := blk_frozen hx13 1
    have hne : gq ≠ g13 := by have := blk_lt q8; omega
    refine one_ (i := 11) (N := none) #[true, true, true, true, true, true, true, true, true, true, true, true] rfl rfl (by kernel_rfl) (by decide) (fun K hK => ?_)
    refine skip_ (w1 := (w3.setCell ⟨g13, 0, none⟩ (.int .i64 ((Chomp.H (Chomp.bit rows (x : Int) y) : Nat) : Int))).setCell ⟨g13, 1, none⟩ (.int .i64 bi)) (by rfl) rfl ?hr ?_
    case hr => first | (go_simp; done) | (go_simp; rfl)
    refine hK.out _ _ (blk_far (blk_far hHeld (p := ⟨g13, 0, none⟩) hne _) (p := ⟨g13, 1, none⟩) hne _) (fun hHeld => ?_)
    clear hK K
    refine done_ (by kernel_rfl) ?_
    have G13 : w.heap.size ≤ g13 := Nat.le_trans K8.size hg13
    have hb13 : b ≠ g13 := by have := HLT.out; omega
    have hb4 : ¬ g4 = b := by have := HLT.out; have := G4.out; omega
    have hbm : ¬ gm = b := by have := HLT.out; have := GM.out; omega
    have h4n : g4 ≠ g13 := by have := blk_lt X8; omega
    have hmn : gm ≠ g13 := by have := S8.lt; omega
    have X13 := blk_put (cs := #[.int .i64 ((Chomp.H (Chomp.bit rows (x : Int) y) : Nat) : Int), .int .i64 0]) (blk_put (cs := #[.int .i64 0, .int .i64 0]) hx13 0 (.int .i64 ((Chomp.H (Chomp.bit rows (x : Int) y) : Nat) : Int)) rfl) 1 (.int .i64 bi) rfl
    have F4 := (F3.set (p := ⟨g13, 0, none⟩) hb13 (.int .i64 ((Chomp.H (Chomp.bit rows (x : Int) y) : Nat) : Int))).set (p := ⟨g13, 1, none⟩) hb13 (.int .i64 bi)
    have S4 := ((S8.kept (k3.k.2 gm S8.lt hbm)).set (p := ⟨g13, 0, none⟩) hmn (.int .i64 ((Chomp.H (Chomp.bit rows (x : Int) y) : Nat) : Int))).set (p := ⟨g13, 1, none⟩) hmn (.int .i64 bi)
    have K4 := Kq.KQ.setCell (Kq.KQ.setCell (K8.then_ k3 (fun _ h => .inl h)) (p := ⟨g13, 0, none⟩) (.inr G13) (.int .i64 ((Chomp.H (Chomp.bit rows (x : Int) y) : Nat) : Int))) (p := ⟨g13, 1, none⟩) (.inr G13) (.int .i64 bi)
    have X44 := blk_far (blk_far (Kq.blk_kq X8 k3 hb4) (p := ⟨g13, 0, none⟩) h4n (.int .i64 ((Chomp.H (Chomp.bit rows (x : Int) y) : Nat) : Int))) (p := ⟨g13, 1, none⟩) h4n (.int .i64 bi)
    have R4 := Kd.S_mono (ok' := fun _ => True) (Kd.S_move (w1 := (w3.setCell ⟨g13, 0, none⟩ (.int .i64 ((Chomp.H (Chomp.bit rows (x : Int) y) : Nat) : Int))).setCell ⟨g13, 1, none⟩ (.int .i64 bi)) (Kd.S_bound R8) (fun k hk => by
     have h1 : k ≠ g13 := by have := hk.2.2.1; omega
     have h2 : ¬ k = b := by have := hk.2.1; have := HLT.out; omega
     exact ((Below.heap_setCell _ ⟨g13, 1, none⟩ _ k h1).trans (Below.heap_setCell _ ⟨g13, 0, none⟩ _ k h1)).trans (k3.k.2 k hk.2.2.1 h2))) (fun _ _ => trivial)
    generalize (w3.setCell ⟨g13, 0, none⟩ (.int .i64 ((Chomp.H (Chomp.bit rows (x : Int) y) : Nat) : Int))).setCell ⟨g13, 1, none⟩ (.int .i64 bi) = w4 at X13 F4 S4 K4 X44 R4 ⊢
    have HST := Aside0.mk (impl_fates_of.take_step hlt hxy.out (rows := rows))
    have hh36 := Chomp.H_le BOK.out
    clear F3 hx13 hg13 k3 hc0 hc1 hf0 hf1 hne F8 S8 K8 R8 X8 q8 hHeld h4n hmn
    obtain ⟨hv, hhv⟩ : ∃ hv : Int, ((Chomp.H (Chomp.bit rows (x : Int) y) : Nat) : Int) = hv := ⟨_, rfl⟩
    have hwf := Aside0.mk (show (Lit.int .i64 hv).wf = true from WalkArith.wf_i64 (by omega))
    rw [hhv] at X13 HST
    try rw [hhv]
    clear hhv hh36
    have S5 := Aside0.mk S4
    have F5 := Aside0.mk F4
    have K5 := Aside0.mk K4
    have R5 := Aside0.mk R4
    have X5 := Aside0.mk X13
    have X45 := Aside0.mk X44
    have HB4 := Aside0.mk hb4
    have HBM := Aside0.mk hbm
    have HB13 := Aside0.mk hb13
    have hz0 : w4.cell? ⟨g13, 0, none⟩ = some (.int .i64 hv) := (blk_cell X13 0).trans rfl
    have hz1 : w4.cell? ⟨g13, 1, none⟩ = some (.int .i64 bi) := (blk_cell X13 1).trans rfl
    obtain ⟨z, hz⟩ : ∃ z, wrap64 (bi + 1) = z := ⟨_, rfl⟩
    clear S4 F4 K4 R4 X13 X44 hb4 hbm hb13
    cases h1 : (hv == 0) <;> cases h2 : decide (qk < 0) <;> cases h3 : decide (z < qk) <;> by_cases h4 : lg < z
    all_goals
     go_wp2_with (first
      | (at_mapUpdate; refine Fmap.wp_add rfl (.tmp 43) (.tmp 45) _ 128 rfl Tryd.underlying3 Tryd.underlying4 Tryd.underlying128 rfl S5.out (by have := HL36.out; unfold maxLen; omega) rfl rfl hwf.out ?_; intro w6 hs6 hg6; have S6 := Aside0.mk hs6; have K6 := Aside0.mk (Fmap.kq_grown K5.out hg6 (.inr GM.out)); have F6 := Aside0.mk (F5.out.kept (hg6.block b F5.out.lt (fun h => HBM.out (by injection h with h; exact h.symm)))); have R6 := Aside0.mk (Kd.S_mono (ok' := fun _ => True) (Kd.S_move (w1 := w6) (Kd.S_bound R5.out) (fun k hk => hg6.block k hk.2.2.1 (fun h => by injection h with h; obtain ⟨q_, _, cells_, hcells_⟩ := hk.2.2.2; exact S5.out.not_cells hcells_ h))) (fun _ _ => trivial)); have X6 := Aside0.mk ((hg6.block g13 (blk_lt X5.out) (fun h => by injection h with h; exact S5.out.not_cells X5.out h)).trans X5.out); have X46 := Aside0.mk ((hg6.block g4 (blk_lt X45.out) (fun h => by injection h with h; exact S5.out.not_cells X45.out h)).trans X45.out); have hy0 : w6.cell? ⟨g13, 0, none⟩ = some (.int .i64 hv) := (blk_cell X6.out 0).trans rfl; have hy1 : w6.cell? ⟨g13, 1, none⟩ = some (.int .i64 bi) := (blk_cell X6.out 1).trans rfl; clear hs6 hg6 hz0 hz1))
     go_roundg (L.length - (kk + 1))
     case measure => omega
     case rel => exact ⟨kk + 1, _, _, by omega, by omega, by go_num, rfl, rfl, F6, ⟨by rw [← HST.out]; exact S6.out⟩, K6, R6, X46⟩
   ·obtain rfl : kk = L.length := by omega
    have hltz : ¬ (L.length : Int) < (L.length : Int) := by omega
    have hs := HSET.out
    rw [List.take_length] at hs
    have HS2 := Aside0.mk hs
    clear hs HSET HR
    go_wp2_with (first
     | ((with_reducible refine gate_dst (N := 14) rfl ?_); refine box_event ?hg (N := 14) ?hd (cs := #[.int .i64 0, .int .i64 0]) (t := 101) ?hr ?_; (case hd => rfl); (case hg => rfl); (case hr => first | (go_simp; done) | (go_simp; rfl)); intro g14 hg w8 hbox hb; have G14 := Aside0.mk ((by rw [hg]; exact HK.out.size) : w.heap.size ≤ g14); have N4 := Aside0.mk (show g4 ≠ g14 by have := blk_lt X4.out; omega); have n0_ := Aside0.mk (Kq.KQ.below HK.out hb); have n1_ := Aside0.mk (HF.out.below hb); have n2_ := Aside0.mk (blk_below X4.out hb); have n3_ := Aside0.mk (HS2.out.below hb); clear HK HF X4 HS2; have HK := n0_; have HF := n1_; have X4 := n2_; have HS2 := n3_; clear n0_ n1_ n2_ n3_; have X14 := Aside0.mk hbox; have hc0 : w8.cell? ⟨g14, 0, none⟩ = some (.int .i64 0) := (blk_cell hbox 0).trans rfl; have hc1 : w8.cell? ⟨g14, 1, none⟩ = some (.int .i64 0) := (blk_cell hbox 1).trans rfl; have hf0 := blk_frozen hbox 0; have hf1 := blk_frozen hbox 1; clear hb hbox hg))
    have hb14 : b ≠ g14 := by have := HLT.out; have := G14.out; omega
    have hm14 : gm ≠ g14 := fun h => HS2.out.not_cells X14.out h.symm
    have Y14 := Aside0.mk (blk_put (cs := #[.int .i64 0, .int .i64 0]) (blk_put (cs := #[.int .i64 0, .int .i64 0]) X14.out 0 (.int .i64 0) rfl) 1 (.int .i64 lg) rfl)
    have YF := Aside0.mk ((HF.out.set (p := ⟨g14, 0, none⟩) hb14 (.int .i64 0)).set (p := ⟨g14, 1, none⟩) hb14 (.int .i64 lg))
    have YS := Aside0.mk ((HS2.out.set (p := ⟨g14, 0, none⟩) hm14 (.int .i64 0)).set (p := ⟨g14, 1, none⟩) hm14 (.int .i64 lg))
    have YK := Aside0.mk (Kq.KQ.setCell (Kq.KQ.setCell HK.out (p := ⟨g14, 0, none⟩) (.inr G14.out) (.int .i64 0)) (p := ⟨g14, 1, none⟩) (.inr G14.out) (.int .i64 lg))
    have Y4 := Aside0.mk (blk_far (blk_far X4.out (p := ⟨g14, 0, none⟩) N4.out (.int .i64 0)) (p := ⟨g14, 1, none⟩) N4.out (.int .i64 lg))
    have M14 := Aside0.mk hm14
    have B14 := Aside0.mk hb14
    clear X14 HF HS2 HK X4 hc0 hc1 hf0 hf1 hb14 hm14
    go_loopg [71] 40 (fun gg _ w' => ∃ h : Nat, 37 - h ≤ gg ∧ Aside0 (∀ j : Nat, j < h → (j : Int) ∈ L.map (impl_fates_of.hf rows)) ∧ Aside0 (w'.heap[g14]? = some (.cells #[.int .i64 (h : Int), .int .i64 lg] 101 (0, 0))) ∧ Aside0 (impl_fates_of.IsF w' b) ∧ Aside0 (Fmap.SetIs Tryd.prog 3 4 w' gm L.length (L.map (impl_fates_of.hf rows))) ∧ Aside0 (Kq.KQ w w' (fun q => q = b)) ∧ Aside0 (w'.heap[g4]? = some (.cells #[.int .i64 0, .int .i64 0] 101 (0, 0))))
    case atStart => exact ⟨0, by omega, ⟨fun j hj => absurd hj (Nat.not_lt_zero _)⟩, Y14, YF, YS, YK, Y4⟩
    case round =>
     clear Y14 YF YS YK Y4
     obtain ⟨h, hgg2, HIN, X14, HF, HS2, HK, X4⟩ := hrel
     have hh36 : h ≤ 36 := by have h1 := Chomp.le_len h _ HIN.out; have := HL36.out; rw [List.length_map] at h1; omega
     have hh64 : (h : Int) + 1 ≤ 9223372036854775807 := by omega
     have hwf := Aside0.mk (show (Lit.int .i64 (h : Int)).wf = true from WalkArith.wf_i64 (by omega))
     have HGG2 := Aside0.mk hgg2
     have HH36 := Aside0.mk hh36
     clear hgg2 hh36
     have hc0 : wr.cell? ⟨g14, 0, none⟩ = some (.int .i64 (h : Int)) := (blk_cell X14.out 0).trans rfl
     have hc1 : wr.cell? ⟨g14, 1, none⟩ = some (.int .i64 lg) := (blk_cell X14.out 1).trans rfl
     have hf0 := blk_frozen X14.out 0
     have hf1 := blk_frozen X14.out 1
     by_cases hin : (h : Int) ∈ L.map (impl_fates_of.hf rows)
     ·have hd : decide ((h : Int) ∈ L.map (impl_fates_of.hf rows)) = true := decide_eq_true hin
      have HM := Aside0.mk hin
      clear hin
      generalize hq : L.map (impl_fates_of.hf rows) = SS at HIN HS2 hd HM ⊢
      have HQ := Aside0.mk hq
      have HD := Aside0.mk hd
      clear hq hd
      go_wp2_with (first
       | (at_lookup; refine Fmap.wp_ask rfl (.tmp 71) (.tmp 73) 128 rfl Tryd.underlying3 Tryd.underlying4 Tryd.underlying128 (fun w => Tryd.zeroValue4 w) rfl HS2.out rfl hwf.out ?_; rw [HD.out]; simp only [Act.put, Lam.pa, Lam.pb, Lam.pc]))
      go_roundg (37 - (h + 1))
      case measure => have := HGG2.out; have := HH36.out; omega
      case rel =>
       have hq := HQ.out
       subst hq
       exact ⟨h + 1, Nat.le_refl _, ⟨fun j hj => by
        by_cases e : j = h
        ·rw [e]; exact HM.out
        ·exact HIN.out j (by omega)⟩, ⟨blk_put X14.out 0 _ (by simp)⟩, ⟨HF.out.set (p := ⟨g14, 0, none⟩) B14.out _⟩, ⟨HS2.out.set (p := ⟨g14, 0, none⟩) M14.out _⟩, ⟨Kq.KQ.setCell HK.out (p := ⟨g14, 0, none⟩) (.inr G14.out) _⟩, ⟨blk_far X4.out (p := ⟨g14, 0, none⟩) N4.out _⟩⟩
     ·have hd : decide ((h : Int) ∈ L.map (impl_fates_of.hf rows)) = false := decide_eq_false hin
      have hmex : h = Chomp.H rows := by rw [HSS.out]; exact Chomp.mex_is hin HIN.out
      have HM := Aside0.mk hmex
      clear hin hmex HIN
      generalize hq : L.map (impl_fates_of.hf rows) = SS at HS2 hd ⊢
      have HQ := Aside0.mk hq
      have HD := Aside0.mk hd
      clear hq hd
      have hc40 : wr.cell? ⟨g4, 0, none⟩ = some (.int .i64 0) := (blk_cell X4.out 0).trans rfl
      have hc41 : wr.cell? ⟨g4, 1, none⟩ = some (.int .i64 0) := (blk_cell X4.out 1).trans rfl
      have hf40 := blk_frozen X4.out 0
      have hf41 := blk_frozen X4.out 1
      cases h5 : decide (qk ≥ 0)
      ·have XF := Aside0.mk HF.out
       have XK := Aside0.mk HK.out
       have XX := Aside0.mk X14.out
       have X44 := Aside0.mk X4.out
       go_wp2_with (first
        | (at_lookup; refine Fmap.wp_ask rfl (.tmp 71) (.tmp 73) 128 rfl Tryd.underlying3 Tryd.underlying4 Tryd.underlying128 (fun w => Tryd.zeroValue4 w) rfl HS2.out rfl hwf.out ?_; rw [HD.out]; simp only [Act.put, Lam.pa, Lam.pb, Lam.pc])
        | (at_mapUpdate; go_loud (refine Fmap.wp_put rfl (.tmp 83) (.tmp 84) (.tmp 85) 73 101 rfl (Go.Maps.string_keyed Tryd.underlying9) Tryd.underlying73 rfl XF.out (N := 117649) (by unfold maxLen; omega) Chomp.num impl_fates_of.num_lt impl_fates_of.num_inj rfl rfl hkey.out rfl ⟨rows, HO.out, rfl, lg, (by show Value.agg #[.int .i64 (h : Int), .int .i64 _] = _; rw [HM.out])⟩ ?_); intro w9 hf9 hg9; have F9 := Aside0.mk hf9; have K9 := Aside0.mk (Fmap.kq_grown XK.out hg9 (.inl rfl)); have X9 := (hg9.block g14 (blk_lt XX.out) (fun h => by injection h with h; exact B14.out h.symm)).trans XX.out; have X49 := (hg9.block g4 (blk_lt X44.out) (fun h => by injection h with h; have := HLT.out; have := G4.out; omega)).trans X44.out; have hy0 : w9.cell? ⟨g14, 0, none⟩ = some (.int .i64 (h : Int)) := (blk_cell X9 0).trans rfl; have hy1 : w9.cell? ⟨g14, 1, none⟩ = some (.int .i64 lg) := (blk_cell X9 1).trans rfl; have hy40 : w9.cell? ⟨g4, 0, none⟩ = some (.int .i64 0) := (blk_cell X49 0).trans rfl; have hy41 : w9.cell? ⟨g4, 1, none⟩ = some (.int .i64 0) := (blk_cell X49 1).trans rfl; have hg40 := blk_frozen X49 0; have hg41 := blk_frozen X49 1; clear hc0 hc1 hf0 hf1 hc40 hc41 hf40 hf41 hf9 hg9 X9 X49))
       refine bodyPost_ret (v := .agg #[.int .i64 (h : Int), .int .i64 lg]) (by simp [results, Tryd.f83, go_sem, hy0, hy1, hy40, hy41, hg40, hg41]) rfl ?_
       have hb4 : b ≠ g4 := by have := HLT.out; have := G4.out; omega
       exact ⟨_, by rw [HM.out], (F9.out.set (p := ⟨g4, 0, none⟩) hb4 _).set (p := ⟨g4, 1, none⟩) hb4 _, Kq.KQ.setCell (Kq.KQ.setCell K9.out (p := ⟨g4, 0, none⟩) (.inr G4.out) _) (p := ⟨g4, 1, none⟩) (.inr G4.out) _⟩
      ·have XF := Aside0.mk (HF.out.set (p := ⟨g14, 1, none⟩) B14.out (.int .i64 qk))
       have XK := Aside0.mk (Kq.KQ.setCell HK.out (p := ⟨g14, 1, none⟩) (.inr G14.out) (.int .i64 qk))
       have XX := Aside0.mk (blk_put X14.out 1 (.int .i64 qk) rfl)
       have X44 := Aside0.mk (blk_far X4.out (p := ⟨g14, 1, none⟩) N4.out (.int .i64 qk))
       go_wp2_with (first
        | (at_lookup; refine Fmap.wp_ask rfl (.tmp 71) (.tmp 73) 128 rfl Tryd.underlying3 Tryd.underlying4 Tryd.underlying128 (fun w => Tryd.zeroValue4 w) rfl HS2.out rfl hwf.out ?_; rw [HD.out]; simp only [Act.put, Lam.pa, Lam.pb, Lam.pc])
        | (at_mapUpdate; go_loud (refine Fmap.wp_put rfl (.tmp 83) (.tmp 84) (.tmp 85) 73 101 rfl (Go.Maps.string_keyed Tryd.underlying9) Tryd.underlying73 rfl XF.out (N := 117649) (by unfold maxLen; omega) Chomp.num impl_fates_of.num_lt impl_fates_of.num_inj rfl rfl hkey.out rfl ⟨rows, HO.out, rfl, qk, (by show Value.agg #[.int .i64 (h : Int), .int .i64 _] = _; rw [HM.out])⟩ ?_); intro w9 hf9 hg9; have F9 := Aside0.mk hf9; have K9 := Aside0.mk (Fmap.kq_grown XK.out hg9 (.inl rfl)); have X9 := (hg9.block g14 (blk_lt XX.out) (fun h => by injection h with h; exact B14.out h.symm)).trans XX.out; have X49 := (hg9.block g4 (blk_lt X44.out) (fun h => by injection h with h; have := HLT.out; have := G4.out; omega)).trans X44.out; have hy0 : w9.cell? ⟨g14, 0, none⟩ = some (.int .i64 (h : Int)) := (blk_cell X9 0).trans rfl; have hy1 : w9.cell? ⟨g14, 1, none⟩ = some (.int .i64 qk) := (blk_cell X9 1).trans rfl; have hy40 : w9.cell? ⟨g4, 0, none⟩ = some (.int .i64 0) := (blk_cell X49 0).trans rfl; have hy41 : w9.cell? ⟨g4, 1, none⟩ = some (.int .i64 0) := (blk_cell X49 1).trans rfl; have hg40 := blk_frozen X49 0; have hg41 := blk_frozen X49 1; clear hc0 hc1 hf0 hf1 hc40 hc41 hf40 hf41 hf9 hg9 X9 X49))
       refine bodyPost_ret (v := .agg #[.int .i64 (h : Int), .int .i64 qk]) (by simp [results, Tryd.f83, go_sem, hy0, hy1, hy40, hy41, hg40, hg41]) rfl ?_
       have hb4 : b ≠ g4 := by have := HLT.out; have := G4.out; omega
       exact ⟨_, by rw [HM.out], (F9.out.set (p := ⟨g4, 0, none⟩) hb4 _).set (p := ⟨g4, 1, none⟩) hb4 _, Kq.KQ.setCell (Kq.KQ.setCell K9.out (p := ⟨g4, 0, none⟩) (.inr G4.out) _) (p := ⟨g4, 1, none⟩) (.inr G4.out) _⟩

/-! ### impl_fates_good: function 87 -/
def impl_fates_good.sel (rows : List Int) : List Int → Bool := fun m => decide (0 < Chomp.H (Chomp.bit rows (m.getD 0 0) (m.getD 1 0).toNat))
set_option maxHeartbeats 8000000 in
set_option maxRecDepth 100000 in
theorem impl_fates_good.lam (rows : List Int) (A0 : Option Addr) (c0 b g2 g3 gq cq x y : Nat) (curq : Array Value) (W : World) (hr : Chomp.Ok rows) (hC : Kd.C (Kd.int .i64) W A0 rows.length rows) (hc : rows.length ≤ c0) (hF : impl_fates_of.IsF W b)
  (h2 : W.heap[g2]? = some (.cells #[.map (some b)] 73 (0, 0))) (h3 : W.heap[g3]? = some (.cells #[.slice A0 rows.length c0] 38 (0, 0))) (hq : W.heap[gq]? = some (.cells curq 3 (0, 0)))
  (hq0 : curq[0]? = some (.int .i64 (x : Int))) (hq1 : curq[1]? = some (.int .i64 (y : Int))) (hy : y < rows.length) (hx : (x : Int) < rows.getD y 0) (hp : 0 < x + y) :
  Calls Tryd.prog 117 #[.slice (some ⟨gq, 0, none⟩) 2 cq, .pointer (some ⟨g2, 0, none⟩), .pointer (some ⟨g3, 0, none⟩)] W fun e w' => e = .returned (.bool (impl_fates_good.sel rows [(x : Int), (y : Int)])) ∧ impl_fates_of.IsF w' b ∧ Kq.KQ W w' (fun q => q = b) := by
 have hbit := impl_bitten.calls A0 c0 rows (x : Int) (y : Int) (Chomp.bit rows (x : Int) y)
 have hbok : impl_bitten.f rows (x : Int) (y : Int) = some (Chomp.bit rows (x : Int) y) := by unfold impl_bitten.f; rw [if_pos (by have := hr.2.1; omega)]; rfl
 have HB := Aside0.mk (fun W' (h : Kd.C (Kd.int .i64) W' A0 rows.length rows) => hbit W' h hc hbok)
 have BOK := Chomp.bit_Ok hr (x := (x : Int)) (y := y) (by omega) (by omega)
 have HO := Aside0.mk (impl_fates_of.rec (Chomp.sq (Chomp.bit rows (x : Int) y)) (Chomp.bit rows (x : Int) y))
 have BK := Aside0.mk BOK
 have hb2 : ¬ g2 = b := hF.not_cells h2
 have hb3 : ¬ g3 = b := hF.not_cells h3
 have hbq : ¬ gq = b := hF.not_cells hq
 have HF := Aside0.mk hF
 have HC := Aside0.mk hC
 have HQ0 := Aside0.mk hq0
 have HQ1 := Aside0.mk hq1
 have H2 := Aside0.mk h2
 have H3 := Aside0.mk h3
 have HQ := Aside0.mk hq
 have HN := Aside0.mk (⟨hb2, hb3, hbq⟩ : (¬ g2 = b) ∧ (¬ g3 = b) ∧ ¬ gq = b)
 clear hbit hbok hr hC hc hF h2 h3 hq hq0 hq1 hy hx hp BOK hb2 hb3 hbq
 have hfd := impl_fates_of.field0
 go_enter Tryd.func117, Tryd.ntmps117
 go_wp2
 have hS : (W.drew.heap[g2]? = some (.cells #[.map (some b)] 73 (0, 0))) ∧ (W.drew.heap[g3]? = some (.cells #[.slice A0 rows.length c0] 38 (0, 0))) ∧ (W.drew.heap[gq]? = some (.cells curq 3 (0, 0))) := ⟨H2.out, H3.out, HQ.out⟩
 have F8 := HF.out.kept (w' := W.drew) rfl
 have C8 : Kd.C (Kd.int .i64) W.drew A0 rows.length rows := Kd.C_below HC.out (below_drew (Below.refl _ _))
 have K8 := Kq.KQ.drew (Kq.KQ.refl W (fun q => q = b))
 refine start_ (n := 13) (S := fun w' => (w'.heap[g2]? = some (.cells #[.map (some b)] 73 (0, 0))) ∧ (w'.heap[g3]? = some (.cells #[.slice A0 rows.length c0] 38 (0, 0))) ∧ (w'.heap[gq]? = some (.cells curq 3 (0, 0)))) (ds := []) #[false, false, false, false, false, false, false, false, false, false, false, false, false] (by kernel_rfl) rfl rfl hS (fun hHeld => ?_)
 generalize W.drew = we at hS F8 C8 K8 hHeld ⊢
 refine take_ (i := 0) (N := some 5) (v := ?_) (a' := ?_) #[true, false, false, false, false, false, false, false, false, false, false, false, false] rfl rfl (by kernel_rfl) (fun _ _ _ h => h) (Or.inl ⟨by rfl, ?_⟩) hHeld ?_ ?_
 rotate_left
 ·rintro w' s0
  have s1 := (blk_cell s0.1 0).trans rfl
  go_simp
  with_reducible rfl
 rotate_left
 ·simp only [Act.put, Lam.pa, Lam.pb, Lam.pc, i64_w, i32_w]
  rfl
 refine take_ (i := 1) (N := some 6) (v := ?_) (a' := ?_) #[true, true, false, false, false, false, false, false, false, false, false, false, false] rfl rfl (by kernel_rfl) (fun _ _ _ h => h) (Or.inl ⟨by rfl, ?_⟩) hHeld ?_ ?_
 rotate_left
 ·rintro w' s0
  have s1 := (blk_cell s0.2.1 0).trans rfl
  go_simp
  with_reducible rfl
 rotate_left
 ·simp only [Act.put, Lam.pa, Lam.pb, Lam.pc, i64_w, i32_w]
  rfl
 refine pure_ (i := 2) (N := some 7) (v := ?_) (a' := ?_) #[true, true, true, false, false, false, false, false, false, false, false, false, false] rfl rfl (by kernel_rfl) (fun _ _ _ h => h) (Or.inl ⟨by rfl, ?_⟩) ?_ ?_
 rotate_left
 ·intro w'
  go_simp
  with_reducible rfl
 rotate_left
 ·simp only [Act.put, Lam.pa, Lam.pb, Lam.pc, i64_w, i32_w]
  rfl
 refine pure_ (i := 3) (N := some 8) (v := ?_) (a' := ?_) #[true, true, true, true, false, false, false, false, false, false, false, false, false] rfl rfl (by kernel_rfl) (fun _ _ _ h => h) (Or.inl ⟨by rfl, ?_⟩) ?_ ?_
 rotate_left
 ·intro w'
  go_simp
  with_reducible rfl
 rotate_left
 ·simp only [Act.put, Lam.pa, Lam.pb, Lam.pc, i64_w, i32_w]
  rfl
 refine take_ (i := 4) (N := some 9) (v := ?_) (a' := ?_) #[true, true, true, true, true, false, false, false, false, false, false, false, false] rfl rfl (by kernel_rfl) (fun _ _ _ h => h) (Or.inl ⟨by rfl, ?_⟩) hHeld ?_ ?_
 rotate_left
 ·rintro w' s0
  have s1 := (blk_cell s0.2.2 0).trans HQ0.out
  go_simp
  with_reducible rfl
 rotate_left
 ·simp only [Act.put, Lam.pa, Lam.pb, Lam.pc, i64_w, i32_w]
  rfl
 refine pure_ (i := 5) (N := some 10) (v := ?_) (a' := ?_) #[true, true, true, true, true, true, false, false, false, false, false, false, false] rfl rfl (by kernel_rfl) (fun _ _ _ h => h) (Or.inl ⟨by rfl, ?_⟩) ?_ ?_
 rotate_left
 ·intro w'
  go_simp
  with_reducible rfl
 rotate_left
 ·simp only [Act.put, Lam.pa, Lam.pb, Lam.pc, i64_w, i32_w]
  rfl
 refine pure_ (i := 6) (N := some 11) (v := ?_) (a' := ?_) #[true, true, true, true, true, true, true, false, false, false, false, false, false] rfl rfl (by kernel_rfl) (fun _ _ _ h => h) (Or.inl ⟨by rfl, ?_⟩) ?_ ?_
 rotate_left
 ·intro w'
  go_simp
  with_reducible rfl
 rotate_left
 ·simp only [Act.put, Lam.pa, Lam.pb, Lam.pc, i64_w, i32_w]
  rfl
 refine take_ (i := 7) (N := some 12) (v := ?_) (a' := ?_) #[true, true, true, true, true, true, true, true, false, false, false, false, false] rfl rfl (by kernel_rfl) (fun _ _ _ h => h) (Or.inl ⟨by rfl, ?_⟩) hHeld ?_ ?_
 rotate_left
 ·rintro w' s0
  have s1 := (blk_cell s0.2.2 1).trans HQ1.out
  go_simp
  with_reducible rfl
 rotate_left
 ·simp only [Act.put, Lam.pa, Lam.pb, Lam.pc, i64_w, i32_w]
  rfl
 refine one_ (i := 8) (N := some 13) #[true, true, true, true, true, true, true, true, true, false, false, false, false] rfl rfl (by kernel_rfl) (by decide) (fun K hK => ?_)
 refine goes_ Tryd.func115 (by kernel_rfl) rfl #[.slice A0 rows.length c0, .int .i64 (x : Int), .int .i64 (y : Int)] (by rfl) rfl rfl (by (try simp only [List.map_toArray, List.map_cons, List.map_nil]); first | done | rfl | (simp [Act.eval]; done)) ?_
 refine (HB.out _ C8).mono ?_
 rintro e w1 ⟨v1, rfl, ho1, hb1⟩
 obtain ⟨A1, c1, e1⟩ := Kd.R_slice ho1
 subst e1
 refine ⟨_, rfl, ?_⟩
 refine hK.out _ _ ⟨blk_below hS.1 hb1, blk_below hS.2.1 hb1, blk_below hS.2.2 hb1⟩ (fun hHeld => ?_)
 clear hK K
 refine norm_ (a' := ?_) ?_ ?_
 rotate_left
 ·show Act.put _ (some 13) _ = _
  simp only [Act.put, Lam.pa, Lam.pb, Lam.pc, i64_w, i32_w]
  rfl
 refine one_ (i := 9) (N := some 14) #[true, true, true, true, true, true, true, true, true, true, false, false, false] rfl rfl (by kernel_rfl) (by decide) (fun K hK => ?_)
 refine goes_ Tryd.func83 (by kernel_rfl) rfl #[.map (some b), .slice A1 (Chomp.bit rows (x : Int) y).length c1] (by rfl) rfl rfl (by (try simp only [List.map_toArray, List.map_cons, List.map_nil]); first | done | rfl | (simp [Act.eval]; done)) ?_
 refine (HO.out A1 c1 b w1 BK.out (Nat.le_refl _) (Kd.R_reads' ho1).2.2 (Kd.R_reads' ho1).2.1 (F8.below hb1)).mono ?_
 rintro e w2 ⟨bi, rfl, F2, k2⟩
 refine ⟨_, rfl, ?_⟩
 refine hK.out _ _ ⟨Kq.blk_kq hHeld.1 k2 HN.out.1, Kq.blk_kq hHeld.2.1 k2 HN.out.2.1, Kq.blk_kq hHeld.2.2 k2 HN.out.2.2⟩ (fun hHeld => ?_)
 clear hK K
 refine norm_ (a' := ?_) ?_ ?_
 rotate_left
 ·show Act.put _ (some 14) _ = _
  simp only [Act.put, Lam.pa, Lam.pb, Lam.pc, i64_w, i32_w]
  rfl
 refine pure_ (i := 10) (N := some 15) (v := ?_) (a' := ?_) #[true, true, true, true, true, true, true, true, true, true, true, false, false] rfl rfl (by kernel_rfl) (fun _ _ _ h => h) (Or.inl ⟨by rfl, ?_⟩) ?_ ?_
 rotate_left
 ·intro w'
  go_simp
  with_reducible rfl
 rotate_left
 ·simp only [Act.put, Lam.pa, Lam.pb, Lam.pc, i64_w, i32_w]
  rfl
 refine pure_ (i := 11) (N := some 16) (v := ?_) (a' := ?_) #[true, true, true, true, true, true, true, true, true, true, true, true, false] rfl rfl (by kernel_rfl) (fun _ _ _ h => h) (Or.inl ⟨by rfl, ?_⟩) ?_ ?_
 rotate_left
 ·intro w'
  go_simp
  with_reducible rfl
 rotate_left
 ·simp only [Act.put, Lam.pa, Lam.pb, Lam.pc, i64_w, i32_w]
  rfl
 refine pure_ (i := 12) (N := some 4) (v := ?_) (a' := ?_) #[true, true, true, true, true, true, true, true, true, true, true, true, true] rfl rfl (by kernel_rfl) (fun _ _ _ h => h) (Or.inl ⟨by rfl, ?_⟩) ?_ ?_
 rotate_left
 ·intro w'
  go_simp
  with_reducible rfl
 rotate_left
 ·simp only [Act.put, Lam.pa, Lam.pb, Lam.pc, i64_w, i32_w]
  rfl
 refine done_ (by kernel_rfl) ?_
 have KF := Aside0.mk ((Kq.KQ.below K8 hb1).then_ k2 (fun _ h => .inl h))
 have FF := Aside0.mk F2
 clear hHeld hS F8 C8 K8 ho1 hb1 F2 k2
 go_wp2
 go_ret
 exact ⟨rfl, FF.out, KF.out⟩
theorem impl_fates_good.del (rows : List Int) (A0 : Option Addr) (c0 b g2 g3 base : Nat) (v : Value) (w : World) (hr : Chomp.Ok rows) (hC : ∀ W, Kq.KQ w W (fun q => q = b ∨ some q = v.ownBlock) → Kd.C (Kd.int .i64) W A0 rows.length rows) (hc : rows.length ≤ c0) (hF : impl_fates_of.IsF w b)
  (h2 : w.heap[g2]? = some (.cells #[.map (some b)] 73 (0, 0))) (h3 : w.heap[g3]? = some (.cells #[.slice A0 rows.length c0] 38 (0, 0))) (o2 : g2 < base) (o3 : g3 < base) (ob : b < base)
  (HS : Kd.S (Kd.slice 3 (Kd.int .i64)) 38 w base (fun k => base ≤ k) v (Chomp.moves rows)) (eg : ∀ args w, (callFunc 117 args).run Tryd.prog w = .ok (.enter 117 args) w) :
  Calls Tryd.prog 71 #[v, .func (.func 117) #[] #[.pointer (some ⟨g2, 0, none⟩), .pointer (some ⟨g3, 0, none⟩)]] w fun e w' => ∃ v' : Value, e = .returned v' ∧ Kd.S (Kd.slice 3 (Kd.int .i64)) 38 w' base (fun _ => True) v' ((Chomp.moves rows).filter fun m => !(impl_fates_good.sel rows m)) ∧ impl_fates_of.IsF w' b ∧ Kq.KQ w w' (fun q => q = b ∨ some q = v.ownBlock) := by
 have hown : ∀ k, v.ownBlock = some k → base ≤ k := Kd.S_base HS
 have hbo : some b ≠ v.ownBlock := fun e => by have := hown b e.symm; omega
 have hne : ∀ g, g < base → ¬ g = b → ¬ (g = b ∨ some g = v.ownBlock) := fun g h1 h2 h => by
  rcases h with h | h
  ·exact h2 h
  ·have := hown g h.symm; omega
 refine (slices_DeleteFunc_int_int_71.ownS2 (fun W => impl_fates_of.IsF W b ∧ Kq.KQ w W (fun q => q = b ∨ some q = v.ownBlock)) 117 base #[.pointer (some ⟨g2, 0, none⟩), .pointer (some ⟨g3, 0, none⟩)] (fun j => impl_fates_good.sel rows ((Chomp.moves rows).getD j [])) (fun k => base ≤ k) (Chomp.moves rows) v w eg HS ⟨hF, Kq.KQ.refl _ _⟩ ?_ ?_ ?_).mono ?_
 ·exact fun W W' h hg => ⟨h.1.kept (hg.block b h.1.lt hbo), h.2.then_ (Fmap.kq_of_grown hg) (fun q hq => .inl (.inr hq))⟩
 ·exact fun W h k hk hne2 hlt => h.2.k.2 k hlt (by
   rintro (e | e)
   ·omega
   ·exact hne2 e)
 ·intro j u W hj hW hM
  obtain ⟨vm, hu, hRm⟩ := hM
  have hmem := Lam.getD_mem hj ([] : List Int)
  obtain ⟨x, y, hxy, hy, hx, hp⟩ := Chomp.moves_mem hmem
  injection hu with hu
  subst hu
  rw [hxy] at hRm
  rcases Del.row_formR hRm with ⟨_, h5⟩ | ⟨gq, cq, hq⟩
  ·cases h5
  have hq' : u = .slice (some ⟨gq, 0, none⟩) 2 cq := hq
  clear hq
  subst hq'
  obtain ⟨_, hcq, hbq, curq, hgq, hnq, _, hMq⟩ := Del.row_ofR rfl hRm (0 : Int)
  have hokq := hRm.1 gq (by simp [Value.ownBlock])
  have e0 : curq[0]? = some (.int .i64 (x : Int)) := by
   have h9 : [curq[0]!] = [Value.int .i64 (x : Int)] := hMq 0 (by omega)
   injection h9 with h9; rw [Del.arr_at (by omega), h9]
  have e1 : curq[1]? = some (.int .i64 (y : Int)) := by
   have h9 : [curq[1]!] = [Value.int .i64 (y : Int)] := hMq 1 (by omega)
   injection h9 with h9; rw [Del.arr_at (by omega), h9]
  have hgqW := Kq.blk_kq hgq hW.2 (by
   rintro (e | e)
   ·omega
   ·exact hokq.2 e)
  have hsel : impl_fates_good.sel rows ((Chomp.moves rows).getD j []) = impl_fates_good.sel rows [(x : Int), (y : Int)] := by rw [hxy]
  refine (impl_fates_good.lam rows A0 c0 b g2 g3 gq cq x y curq W hr (hC W hW.2) hc hW.1 (Kq.blk_kq h2 hW.2 (hne g2 o2 (hF.not_cells h2))) (Kq.blk_kq h3 hW.2 (hne g3 o3 (hF.not_cells h3))) hgqW e0 e1 hy hx hp).mono ?_
  rintro e w' ⟨rfl, h6, h7⟩
  refine ⟨by rw [hsel], ⟨h6, hW.2.then_ h7 (fun q hq => .inl (.inl hq))⟩, fun g hg => h7.k.2 g (Nat.lt_of_lt_of_le (Kd.S_lt HS g hg) hW.2.size) (show ¬ g = b from fun e => hbo (by rw [← e, hg]))⟩
 ·rintro e w' ⟨v', rfl, h6, h7, _⟩
  refine ⟨v', rfl, ?_, h6.1, h6.2⟩
  rw [Del.places_filter ([] : List Int) (fun m => impl_fates_good.sel rows m) (Chomp.moves rows)] at h7
  exact Kd.S_mono h7 (fun _ _ => trivial)
set_option maxHeartbeats 8000000 in
set_option maxRecDepth 100000 in
theorem impl_fates_good.rec (rows : List Int) (A0 : Option Addr) (c0 b : Nat) (w : World) (hr : Chomp.Ok rows) (hC : Kd.C (Kd.int .i64) w A0 rows.length rows) (hc : rows.length ≤ c0) (hF : impl_fates_of.IsF w b) :
  Calls Tryd.prog 87 #[.map (some b), .slice A0 rows.length c0] w fun e w' => ∃ v : Value, e = .returned v ∧ Kd.S (Kd.slice 3 (Kd.int .i64)) 38 w' w.heap.size (fun _ => True) v ((Chomp.moves rows).filter fun m => !(impl_fates_good.sel rows m)) ∧ impl_fates_of.IsF w' b ∧ Kq.KQ w w' (fun q => q = b) := by
 obtain ⟨kb, hbt⟩ := impl_fates_of.bitesF hr
 have HBT := Aside0.mk (fun W (hW : Below w.heap.size w W) => impl_bites.calls kb A0 c0 rows _ W (Kd.C_below hC hW) hc hbt)
 have eg := enters_of Tryd.func117 (by kernel_rfl) rfl
 have EG := Aside0.mk eg
 have HR := Aside0.mk hr
 have HC := Aside0.mk hC
 have HCC := Aside0.mk hc
 have HF := Aside0.mk hF
 have HB := Aside0.mk (Below.refl w.heap.size w)
 clear hr hC hc hF hbt eg
 go_enter Tryd.func87, Tryd.ntmps87
 go_wp2_with (first
  | ((with_reducible refine gate_dst (N := 2) rfl ?_); refine box_event ?hg (N := 2) ?hd (cs := #[.map (some b)]) (t := 73) ?hr ?_; (case hd => rfl); (case hg => rfl); (case hr => first | (go_simp; done) | (go_simp; rfl)); intro g2 hg w2 hbox hb; have n0_ := Aside0.mk (below_step HB.out hb); clear HB; have HB := n0_; clear n0_; have B2 := Aside0.mk hbox; clear hb hbox hg)
  | ((with_reducible refine gate_dst (N := 3) rfl ?_); refine box_event ?hg (N := 3) ?hd (cs := #[.slice A0 rows.length c0]) (t := 38) ?hr ?_; (case hd => rfl); (case hg => rfl); (case hr => first | (go_simp; done) | (go_simp; rfl)); intro g3 hg w3 hbox hb; have m2_ := Aside0.mk (blk_below B2.out hb); have n0_ := Aside0.mk (below_step HB.out hb); clear HB B2; have HB := n0_; have B2 := m2_; clear n0_ m2_; have B3 := Aside0.mk hbox; have hcz3 : w3.cell? ⟨g3, 0, none⟩ = some (.slice A0 rows.length c0) := (blk_cell hbox 0).trans rfl; clear hb hbox hg)
  | (go_at_call 114; go_loud (refine (HBT.out _ HB.out).mono ?_; rintro e w7 ⟨vb, rfl, ho, hb⟩); have HS := Aside0.mk (Kd.S_mono (Kd.S_bound ho) (fun k hk => hk.2.1)); have m2_ := Aside0.mk (blk_below B2.out hb); have m3_ := Aside0.mk (blk_below B3.out hb); have OLD2 := Aside0.mk (blk_lt B2.out); have OLD3 := Aside0.mk (blk_lt B3.out); have n0_ := Aside0.mk (below_step HB.out hb); have SZ := Aside0.mk HB.out.size; have BO := Aside0.mk HB.out; have B7 := Aside0.mk hb; clear HB B2 B3 ho hb hcz3; have HB := n0_; have B2 := m2_; have B3 := m3_; clear n0_ m2_ m3_)
  | (go_at_call 71; go_loud (refine (impl_fates_good.del rows A0 c0 b g2 g3 w3.heap.size vb w7 HR.out (fun W hk => Fmap.C_kq_old (Kd.C_below HC.out BO.out) (HF.out.below BO.out) B7.out hk (fun q hq => by rcases hq with hq | hq; exact .inl hq; exact .inr (Kd.S_base HS.out q hq.symm))) HCC.out (HF.out.below HB.out) B2.out B3.out OLD2.out OLD3.out (Nat.lt_of_lt_of_le HF.out.lt SZ.out) HS.out EG.out).mono ?_; rintro e w9 ⟨v9, rfl, hs9, hf9, hk9⟩)))
 go_ret
 exact ⟨_, rfl, Kd.S_lower hs9 SZ.out, hf9, (Kq.KQ.below (Kq.KQ.refl w (fun q => q = b)) HB.out).then_ hk9 (fun q hq => by rcases hq with hq | hq; exact .inl hq; exact .inr (Nat.le_trans SZ.out (Kd.S_base HS.out q hq.symm)))⟩

end Go.Proofs.YtdikeggkfkkajaaDoor.PFnExactSolutions
