-- Made by a program of this session (wip/xprint.py) out of the translation.
import Derived.Test.YtdikeggkfkkajaaDoorPFnExactMakePuzzlex0
import Derived.Test.YtdikeggkfkkajaaDoorPFnExactMakePuzzlex6
import Derived.Test.YtdikeggkfkkajaaDoorPFnExactMakePuzzlex7
namespace Go.Proofs.YtdikeggkfkkajaaDoor.PFnExactMakePuzzle
open Go.RowKit Go.Proofs.YtdikeggkfkkajaaDoorW.PrintWords Go.Proofs.YtdikeggkfkkajaaDoorW.PrintLast Go.Proofs.YtdikeggkfkkajaaDoorW.PrintMore
attribute [local go_sem] max2_int min2_int max_two min_two max_three min_three max_four min_four   -- for this text's walks alone
set_option linter.unusedVariables false
set_option linter.unusedSimpArgs false

/-! ### impl_fates_of: function 83 -/
abbrev impl_fates_of.Q : Value → Value → Prop := fun key v => ∃ r, Chomp.Ok r ∧ key = .string (Chomp.text r) ∧ ∃ b : Int, v = .agg #[.int .i64 (Chomp.H r : Int), .int .i64 b]
abbrev impl_fates_of.hf (rows : List Int) : List Int → Int := fun m => (Chomp.H (Chomp.bit rows (m.getD 0 0) (m.getD 1 0).toNat) : Int)
abbrev impl_fates_of.anyEl : Fmap.El := fun _ => some (.lit (.bool true), [])
/-- Block b is a map of fates each of which is right. -/
abbrev impl_fates_of.IsF (w : World) (b : Nat) : Prop := Fmap.MapIs Tryd.prog 9 impl_fates_of.anyEl impl_fates_of.Q w b
theorem impl_fates_of.num_lt : ∀ key v, impl_fates_of.Q key v → Chomp.num key < 117649 := by
 rintro key v ⟨r, hr, rfl, _⟩
 exact Chomp.num_lt hr
theorem impl_fates_of.num_inj : ∀ key v key' v', impl_fates_of.Q key v → impl_fates_of.Q key' v' → Chomp.num key = Chomp.num key' → key = key' := by
 rintro key v key' v' ⟨r, hr, rfl, _⟩ ⟨r', hr', rfl, _⟩ h
 rw [Chomp.num_text hr hr' h]
theorem impl_fates_of.key_of {r : List Int} (hr : Chomp.Ok r) : Fmap.HasKey Tryd.prog 9 (.string (Chomp.text r)) := Fmap.str_key Tryd.underlying9 (by
 have h1 := Chomp.text_len r
 have h2 := hr.2.1
 have h3 : (Chomp.text r).data.toList.length = (Chomp.text r).size := by rw [Array.length_toList]; rfl
 unfold maxLen; omega)
theorem impl_fates_of.field0 (a b : Int) (w : World) : (Instr.field 101 (.agg #[.int .i64 a, .int .i64 b]) 0).run Tryd.prog w = .ok (.int .i64 a) w := by kernel_rfl
/-! the text of a chomp -/
theorem impl_fates_of.digit {n : Int} (h : 1 ≤ n ∧ n ≤ 6) : strconv_Itoa.f n = some ⟨#[UInt8.ofNat (48 + n.toNat)]⟩ := by
 obtain ⟨k, rfl⟩ := Int.eq_ofNat_of_zero_le (show 0 ≤ n by omega)
 unfold strconv_Itoa.f
 rw [if_pos (by omega), if_pos (by omega)]
 unfold strconv_Itoa.text
 rw [Int.toNat_natCast, Lib.decDigits, dif_pos (by omega)]
theorem impl_fates_of.join_nil : ∀ l : List (List UInt8), Lib.join l [] = l.flatten
 | [] => rfl
 | x :: r => by
  rw [Lib.join_cons]
  simp [Lib.joinTail]
theorem impl_fates_of.textF {r : List Int} (hr : Chomp.Ok r) : ∃ k, impl_chompText.f k r = some (Chomp.text r) := by
 have loop : ∀ (d k i : Nat) (acc : List ByteArray), i + d = r.length → d < k → acc = (r.take i).map (fun n => (⟨#[UInt8.ofNat (48 + n.toNat)]⟩ : ByteArray)) → impl_joined.l0 k ⟨#[]⟩ acc r (r.length : Int) (i : Int) = some (Chomp.text r) := by
  intro d
  induction d with
  | zero =>
   intro k i acc hi hk ha
   obtain ⟨k, rfl⟩ : ∃ q, k = q + 1 := ⟨k - 1, by omega⟩
   obtain rfl : i = r.length := by omega
   simp only [impl_joined.l0]
   rw [if_neg (by omega), ha, List.take_length]
   have hj : Lib.join ((r.map (fun n => (⟨#[UInt8.ofNat (48 + n.toNat)]⟩ : ByteArray))).map (·.data.toList)) [] = r.map fun n => UInt8.ofNat (48 + n.toNat) := by
    rw [impl_fates_of.join_nil, List.map_map]
    clear hi hk ha hr
    induction r with
    | nil => rfl
    | cons a r ih => simp only [List.map_cons, List.flatten_cons, ih]; rfl
   unfold strings_Join.f strings_Join.text
   have h6 := hr.2.1
   rw [if_pos (by rw [List.length_map]; omega)]
   show ((if (Lib.join ((r.map (fun n => (⟨#[UInt8.ofNat (48 + n.toNat)]⟩ : ByteArray))).map (·.data.toList)) []).length ≤ 140737488355328 then some (⟨(Lib.join ((r.map (fun n => (⟨#[UInt8.ofNat (48 + n.toNat)]⟩ : ByteArray))).map (·.data.toList)) []).toArray⟩ : ByteArray) else none).bind fun t => some t) = some (Chomp.text r)
   rw [hj, if_pos (by rw [List.length_map]; omega)]
   rfl
  | succ d ih =>
   intro k i acc hi hk ha
   obtain ⟨k, rfl⟩ : ∃ q, k = q + 1 := ⟨k - 1, by omega⟩
   have hlt : i < r.length := by omega
   have hrd : rd r (i : Int) = r[i] := by
    show r.getD i 0 = r[i]
    rw [List.getD_eq_getElem?_getD, List.getElem?_eq_getElem hlt]; rfl
   have hw : wrap64 ((i : Int) + 1) = ((i + 1 : Nat) : Int) := by have := hr.2.1; rw [PK.wrap_in (by omega) (by omega)]; omega
   have hal : acc.length ≤ 6 := by rw [ha, List.length_map, List.length_take]; have := hr.2.1; omega
   simp only [impl_joined.l0]
   rw [if_pos (by omega), if_pos (by omega), if_pos (by omega), hrd, impl_fates_of.digit (hr.2.2 _ (List.getElem_mem hlt)), Option.bind_some, if_pos (by omega), hw]
   refine ih k (i + 1) _ (by omega) (by omega) ?_
   rw [ha, List.take_add_one, List.getElem?_eq_getElem hlt, List.map_append]
   rfl
 refine ⟨r.length + 1, ?_⟩
 unfold impl_chompText.f impl_joined.f
 have := loop r.length (r.length + 1) 0 [] (by omega) (by omega) (by simp)
 have e0 : ((0 : Nat) : Int) = 0 := rfl
 rw [e0] at this
 rw [this]; rfl
theorem impl_fates_of.take_step {rows : List Int} {L : List (List Int)} {kk x y : Nat} (h : kk < L.length) (hxy : L.getD kk [] = [(x : Int), (y : Int)]) : (L.take kk).map (impl_fates_of.hf rows) ++ [((Chomp.H (Chomp.bit rows (x : Int) y) : Nat) : Int)] = (L.take (kk + 1)).map (impl_fates_of.hf rows) := by
 rw [List.take_add_one, List.getElem?_eq_getElem h, List.map_append]
 have : L[kk] = [(x : Int), (y : Int)] := by
  rw [← hxy, List.getD_eq_getElem?_getD, List.getElem?_eq_getElem h]; rfl
 rw [this]
 simp [impl_fates_of.hf]
/-! all bites -/
theorem impl_fates_of.bitesF {r : List Int} (hr : Chomp.Ok r) : ∃ k, impl_bites.f k r = some (Chomp.moves r) := by
 have h6 := hr.2.1
 have inner : ∀ (y : Nat) (d x k : Nat) (acc : List (List Int)), y < r.length → x + d = (r.getD y 0).toNat → d < k → acc.length + d ≤ 1000 →
   impl_bites.l1 k acc (y : Int) r (r.length : Int) (y : Int) (r.getD y 0) (x : Int) = impl_bites.l0 (k - d - 1) (acc ++ (((List.range' x d).filter fun x => decide (0 < x + y)).map fun (x : Nat) => [(x : Int), (y : Int)])) r (r.length : Int) ((y + 1 : Nat) : Int) := by
  intro y d
  induction d with
  | zero =>
   intro x k acc hy hx hk ha
   obtain ⟨k, rfl⟩ : ∃ q, k = q + 1 := ⟨k - 1, by omega⟩
   have hw : wrap64 ((y : Int) + 1) = ((y + 1 : Nat) : Int) := by rw [PK.wrap_in (by omega) (by omega)]; omega
   simp only [impl_bites.l1]
   rw [if_neg (by omega), hw]
   simp
  | succ d ih =>
   intro x k acc hy hx hk ha
   obtain ⟨k, rfl⟩ : ∃ q, k = q + 1 := ⟨k - 1, by omega⟩
   have hr6 : r.getD y 0 ≤ 6 := by
    rw [List.getD_eq_getElem?_getD, List.getElem?_eq_getElem hy]
    exact (hr.2.2 _ (List.getElem_mem hy)).2
   have hw : wrap64 ((x : Int) + 1) = ((x + 1 : Nat) : Int) := by rw [PK.wrap_in (by omega) (by omega)]; omega
   simp only [impl_bites.l1]
   rw [if_pos (by omega), hw, List.range'_succ]
   by_cases h1 : 0 < x
   ·rw [if_pos (by omega), if_pos (by omega), ih (x + 1) k _ hy (by omega) (by omega) (by rw [List.length_append]; simp; omega), List.filter_cons, if_pos (by simp; omega)]
    rw [show k + 1 - (d + 1) - 1 = k - d - 1 by omega]
    simp
   ·rw [if_neg (by omega)]
    obtain rfl : x = 0 := by omega
    by_cases h2 : 0 < y
    ·rw [if_pos (by omega), if_pos (by omega), ih (0 + 1) k _ hy (by omega) (by omega) (by rw [List.length_append]; simp; omega), List.filter_cons, if_pos (by simp; omega)]
     rw [show k + 1 - (d + 1) - 1 = k - d - 1 by omega]
     simp
    ·rw [if_neg (by omega), ih (0 + 1) k _ hy (by omega) (by omega) (by omega), List.filter_cons, if_neg (by simp; omega)]
     rw [show k + 1 - (d + 1) - 1 = k - d - 1 by omega]
 have outer : ∀ (d y k : Nat) (acc : List (List Int)), y + d = r.length → 20 * d < k → acc.length ≤ 6 * y → impl_bites.l0 k acc r (r.length : Int) (y : Int) = some (acc ++ (List.range' y d).flatMap (Chomp.movesAt r)) := by
  intro d
  induction d with
  | zero =>
   intro y k acc hy hk ha
   obtain ⟨k, rfl⟩ : ∃ q, k = q + 1 := ⟨k - 1, by omega⟩
   simp only [impl_bites.l0]
   rw [if_neg (by omega)]; simp
  | succ d ih =>
   intro y k acc hy hk ha
   obtain ⟨k, rfl⟩ : ∃ q, k = q + 1 := ⟨k - 1, by omega⟩
   have hlt : y < r.length := by omega
   have hr6 : (r.getD y 0).toNat ≤ 6 := by
    rw [List.getD_eq_getElem?_getD, List.getElem?_eq_getElem hlt]
    have := (hr.2.2 _ (List.getElem_mem hlt)).2
    simp; omega
   have hrd : rd r (y : Int) = r.getD y 0 := rfl
   have hi := inner y (r.getD y 0).toNat 0 k acc hlt (by omega) (by omega) (by omega)
   have e0 : ((0 : Nat) : Int) = 0 := rfl
   rw [e0] at hi
   simp only [impl_bites.l0]
   rw [if_pos (by omega), if_pos (by omega), if_pos (by omega), hrd, hi]
   have hm : (((List.range' 0 (r.getD y 0).toNat).filter fun x => decide (0 < x + y)).map fun (x : Nat) => [(x : Int), (y : Int)]) = Chomp.movesAt r y := by unfold Chomp.movesAt; rw [List.range_eq_range']
   rw [hm, ih (y + 1) _ _ (by omega) (by omega) (by have := Chomp.movesAt_len hr.2.2 y; rw [List.length_append]; omega), List.range'_succ, List.flatMap_cons, List.append_assoc]
 refine ⟨20 * r.length + 1, ?_⟩
 unfold impl_bites.f
 have := outer r.length 0 (20 * r.length + 1) [] (by omega) (by omega) (by simp)
 have e0 : ((0 : Nat) : Int) = 0 := rfl
 rw [e0] at this
 rw [this, List.nil_append]
 unfold Chomp.moves
 rw [List.range_eq_range']
set_option maxHeartbeats 8000000 in
set_option maxRecDepth 100000 in
theorem impl_fates_of.rec : ∀ (n : Nat) (rows : List Int) (A0 : Option Addr) (c0 b : Nat) (w : World), Chomp.Ok rows → Chomp.sq rows ≤ n → Kd.C (Kd.int .i64) w A0 rows.length rows → rows.length ≤ c0 → impl_fates_of.IsF w b →
  Calls Tryd.prog 83 #[.map (some b), .slice A0 rows.length c0] w fun e w' => ∃ bi : Int, e = .returned (.agg #[.int .i64 (Chomp.H rows : Int), .int .i64 bi]) ∧ impl_fates_of.IsF w' b ∧ Kq.KQ w w' (fun q => q = b) := by
 intro n
 induction n with
 | zero =>
  intro rows _ _ _ _ hr hs
  exact absurd (Chomp.sq_pos hr) (by omega)
 | succ n ih =>
  intro rows A0 c0 b w hr hs hC hc hF
  have IH := Aside0.mk ih
  have HO := Aside0.mk hr
  have HSQ := Aside0.mk hs
  have HF0 := Aside0.mk hF
  have HC0 := Aside0.mk hC
  have HCC := Aside0.mk hc
  have HLT := Aside0.mk hF.lt
  obtain ⟨kt, htx⟩ := impl_fates_of.textF hr
  obtain ⟨kb, hbt⟩ := impl_fates_of.bitesF hr
  obtain ⟨L, hL⟩ : ∃ L, Chomp.moves rows = L := ⟨_, rfl⟩
  have hl36 : L.length ≤ 36 := by rw [← hL]; exact Chomp.moves_len hr
  have hl64 : (L.length : Int) ≤ 9223372036854775807 := by omega
  have HSS := Aside0.mk (show Chomp.H rows = Chomp.mex (L.map (impl_fates_of.hf rows)) by rw [Chomp.H_eq hr, hL])
  rw [hL] at hbt
  have HL := Aside0.mk hL
  have HL36 := Aside0.mk hl36
  clear hL hl36
  have HTX := Aside0.mk (fun W (hW : Kq.KQ w W (fun q => q = b)) => impl_chompText.calls kt A0 c0 rows _ W (Fmap.C_kq_map hC hF hW) hc htx)
  have HBT := Aside0.mk (fun W (hW : Kq.KQ w W (fun q => q = b)) => impl_bites.calls kb A0 c0 rows _ W (Fmap.C_kq_map hC hF hW) hc hbt)
  have HBI := Aside0.mk (fun (x : Int) (y : Nat) W (hW : Kq.KQ w W (fun q => q = b)) => impl_bitten.calls A0 c0 rows x (y : Int) (Chomp.bit rows x y) W (Fmap.C_kq_map hC hF hW) hc (by unfold impl_bitten.f; rw [if_pos (by have := hr.2.1; omega)]; rfl))
  have hkey := Aside0.mk (impl_fates_of.key_of hr)
  have HK := Aside0.mk (Kq.KQ.refl w (fun q => q = b))
  have HF := Aside0.mk hF
  clear ih hr hs hC hc hF htx hbt
  go_enter Tryd.func83, Tryd.ntmps83
  go_wp2_with (first
   | ((with_reducible refine gate_dst (N := 4) rfl ?_); refine box_event ?hg (N := 4) ?hd (cs := #[.int .i64 0, .int .i64 0]) (t := 101) ?hr ?_; (case hd => rfl); (case hg => rfl); (case hr => first | (go_simp; done) | (go_simp; rfl)); intro g4 hg w4 hbox hb; have G4 := Aside0.mk ((by rw [hg]; exact HK.out.size) : w.heap.size ≤ g4); have X4 := Aside0.mk hbox; have n0_ := Aside0.mk (Kq.KQ.below HK.out hb); have n1_ := Aside0.mk (HF.out.below hb); clear HK HF; have HK := n0_; have HF := n1_; clear n0_ n1_ hb hbox hg)
   | (go_at_call 113; go_loud (refine (HTX.out _ HK.out).mono ?_; rintro e w5 ⟨rfl, hb⟩); have n0_ := Aside0.mk (Kq.KQ.below HK.out hb); have n1_ := Aside0.mk (HF.out.below hb); have n2_ := Aside0.mk (blk_below X4.out hb); clear HK HF X4; have HK := n0_; have HF := n1_; have X4 := n2_; clear n0_ n1_ n2_ hb)
   | (at_lookup; refine Fmap.wp_look rfl (.tmp 18) (.tmp 19) 73 101 rfl (Go.Maps.string_keyed Tryd.underlying9) Tryd.underlying73 (fun w => Tryd.zeroValue101 w) rfl HF.out rfl hkey.out ?_ ?_; rotate_left; rintro v ⟨r', hok', hk', bi, rfl⟩; obtain rfl : rows = r' := Chomp.text_inj HO.out hok' (by injection hk'); clear hok' hk'; have FOUND := Aside0.mk trivial; rotate_right)
   | ((with_reducible refine gate_dst (N := 6) rfl ?_); have hfd_ := FOUND.out; refine box_event ?hg (N := 6) ?hd (cs := #[.int .i64 0, .int .i64 0]) (t := 101) ?hr ?_; (case hd => rfl); (case hg => rfl); (case hr => first | (go_simp; done) | (go_simp; rfl)); intro g6 hg w6 hbox hb; have G6 := Aside0.mk ((by rw [hg]; exact HK.out.size) : w.heap.size ≤ g6); have N46 : ¬ g4 = g6 := (by have := blk_lt X4.out; omega); have N64 : ¬ g6 = g4 := (fun h => N46 h.symm); have n0_ := Aside0.mk (Kq.KQ.below HK.out hb); have n1_ := Aside0.mk (HF.out.below hb); have n2_ := Aside0.mk (blk_below X4.out hb); clear HK HF X4; have HK := n0_; have HF := n1_; have X4 := n2_; clear n0_ n1_ n2_; have X6 := Aside0.mk hbox; have hc60 : w6.cell? ⟨g6, 0, none⟩ = some (.int .i64 0) := (blk_cell hbox 0).trans rfl; have hc61 : w6.cell? ⟨g6, 1, none⟩ = some (.int .i64 0) := (blk_cell hbox 1).trans rfl; have hf60 := blk_frozen hbox 0; have hf61 := blk_frozen hbox 1; have hc40 : w6.cell? ⟨g4, 0, none⟩ = some (.int .i64 0) := (blk_cell X4.out 0).trans rfl; have hc41 : w6.cell? ⟨g4, 1, none⟩ = some (.int .i64 0) := (blk_cell X4.out 1).trans rfl; have hf40 := blk_frozen X4.out 0; have hf41 := blk_frozen X4.out 1; clear hb hbox hg hfd_)
   | ((with_reducible refine gate_dst (N := 25) rfl ?_); refine Fmap.wp_make rfl rfl 128 rfl Tryd.prog 3 4 ?_; intro gm wm hgm hset hbm; have bb := below_step (below_alloc (Below.refl w5.heap.size w5) _) hbm; have GM := Aside0.mk ((by rw [hgm]; exact Nat.le_trans HK.out.size (below_alloc (Below.refl w5.heap.size w5) _).size) : w.heap.size ≤ gm); have n0_ := Aside0.mk (Kq.KQ.below HK.out bb); have n1_ := Aside0.mk (HF.out.below bb); have n2_ := Aside0.mk (blk_below X4.out bb); clear HK HF X4; have HK := n0_; have HF := n1_; have X4 := n2_; have HSET := Aside0.mk hset; clear n0_ n1_ n2_ bb hset hbm hgm)
   | (go_at_call 114; go_loud (refine (HBT.out _ HK.out).mono ?_; rintro e w7 ⟨vb, rfl, ho, hb⟩); obtain ⟨Ab, cb, eb⟩ := Kd.S_slice ho; subst eb; have HR := Aside0.mk (Kd.S_lower ho HK.out.size); have n0_ := Aside0.mk (Kq.KQ.below HK.out hb); have n1_ := Aside0.mk (HF.out.below hb); have n2_ := Aside0.mk (blk_below X4.out hb); have n3_ := Aside0.mk (HSET.out.below hb); clear HK HF X4 HSET; have HK := n0_; have HF := n1_; have X4 := n2_; have HSET := n3_; clear n0_ n1_ n2_ n3_ hb ho))
  rotate_left
  ·refine bodyPost_ret (v := .agg #[.int .i64 (Chomp.H rows : Int), .int .i64 bi]) (by simp [results, Tryd.f83, go_sem, hc40, hc41, hf40, hf41, N46, N64]) rfl ?_
   have HNb4 : b ≠ g4 := by have := HLT.out; have := G4.out; omega
   have HNb6 : b ≠ g6 := by have := HLT.out; have := G6.out; omega
   exact ⟨bi, rfl, (((HF.out.set (p := ⟨g6, 0, none⟩) HNb6 _).set (p := ⟨g6, 1, none⟩) HNb6 _).set (p := ⟨g4, 0, none⟩) HNb4 _).set (p := ⟨g4, 1, none⟩) HNb4 _, Kq.KQ.setCell (Kq.KQ.setCell (Kq.KQ.setCell (Kq.KQ.setCell HK.out (p := ⟨g6, 0, none⟩) (.inr G6.out) _) (p := ⟨g6, 1, none⟩) (.inr G6.out) _) (p := ⟨g4, 0, none⟩) (.inr G4.out) _) (p := ⟨g4, 1, none⟩) (.inr G4.out) _⟩
  go_loopg [9, 10, 29] L.length (fun gg v9 v10 v29 w' => ∃ (kk : Nat) (lg qk : Int), kk ≤ L.length ∧ L.length - kk ≤ gg ∧ v29 = .int .i64 kk ∧ v9 = .int .i64 lg ∧ v10 = .int .i64 qk ∧ Aside0 (impl_fates_of.IsF w' b) ∧ Aside0 (Fmap.SetIs Tryd.prog 3 4 w' gm kk ((L.take kk).map (impl_fates_of.hf rows))) ∧ Aside0 (Kq.KQ w w' (fun q => q = b)) ∧ Aside0 (Kd.S (Kd.slice 3 (Kd.int .i64)) 38 w' w.heap.size (fun _ => True) (.slice Ab L.length cb) L) ∧ Aside0 (w'.heap[g4]? = some (.cells #[.int .i64 0, .int .i64 0] 101 (0, 0))))
  case atStart => exact ⟨0, _, _, Nat.zero_le _, by omega, rfl, rfl, rfl, HF, HSET, HK, HR, X4⟩
  case round =>
   clear HK HF X4 HSET HR
   obtain ⟨kk, lg, qk, hkk, hgg, rfl, rfl, rfl, HF, HSET, HK, HR, X4⟩ := hrel
   by_cases hlt : kk < L.length
   ·have hltz : (kk : Int) < (L.length : Int) := by omega
    rcases Del.row_formS HR.out with ⟨_, h2⟩ | ⟨gv, cv, hv⟩
    ·rw [h2] at hlt; simp at hlt
    injection hv with hA hn hc2
    clear hn
    subst hA; subst hc2
    obtain ⟨_, _, _, curv, hgv, hnv, _, hMv⟩ := Del.row_ofS rfl HR.out ([] : List Int)
    have hm := hMv kk hlt
    have hmem : L.getD kk [] ∈ Chomp.moves rows := by rw [HL.out]; exact Lam.getD_mem hlt ([] : List Int)
    obtain ⟨x, y, hxy0, hy, hx, hp⟩ := Chomp.moves_mem hmem
    have hxy := Aside0.mk hxy0
    rw [hxy0] at hm
    obtain ⟨vm, hvm, hRm⟩ := hm
    have hx0 : wr.cell? ⟨gv, kk, none⟩ = some curv[kk]! := (blk_cell hgv kk).trans (Del.arr_at (by omega))
    injection hvm with hvm
    rw [hvm] at hx0
    rcases Del.row_formR hRm with ⟨_, h3⟩ | ⟨gq, cq, hq⟩
    ·cases h3
    have hq' : vm = .slice (some ⟨gq, 0, none⟩) 2 cq := hq
    clear hq
    subst hq'
    obtain ⟨_, _, hbq, curq, hgq, hnq, _, hMq⟩ := Del.row_ofR rfl hRm (0 : Int)
    have HQ0 := Aside0.mk (show curq[0]? = some (.int .i64 (x : Int)) by have h9 : [curq[0]!] = [Value.int .i64 (x : Int)] := hMq 0 (by omega); injection h9 with h9; rw [Del.arr_at (by omega), h9])
    have HQ1 := Aside0.mk (show curq[1]? = some (.int .i64 (y : Int)) by have h9 : [curq[1]!] = [Value.int .i64 (y : Int)] := hMq 1 (by omega); injection h9 with h9; rw [Del.arr_at (by omega), h9])
    have BOK := Aside0.mk (Chomp.bit_Ok HO.out (x := (x : Int)) (y := y) (by omega) (by omega))
    have BLT := Aside0.mk (show Chomp.sq (Chomp.bit rows (x : Int) y) ≤ n by have := Chomp.bit_lt (r := rows) (x := (x : Int)) (y := y) (by omega) hy hx; have := HSQ.out; omega)
    have NQB := Aside0.mk (show ¬ gq = b by have := HLT.out; omega)
    clear hMv hMq hRm hmem hxy0 hvm hy hx hp hbq hnq hnv
    go_wp2
    have F8 := HF.out.kept (w' := wr.drew) rfl
    have S8 := HSET.out.kept (w' := wr.drew) rfl
    have K8 := Kq.KQ.drew HK.out
    have R8 := Kd.S_drew HR.out
    have X8 : wr.drew.heap[g4]? = some (.cells #[.int .i64 0, .int .i64 0] 101 (0, 0)) := X4.out
    have q8 : wr.drew.heap[gq]? = some (.cells curq 3 (0, 0)) := hgq
    refine start_ (n := 12) (S := fun w' => w'.heap[gq]? = some (.cells curq 3 (0, 0))) (ds := []) #[false, false, false, false, false, false, false, false, false, false, false, false] (by kernel_rfl) rfl rfl q8 (fun hHeld => ?_)
    generalize wr.drew = we at F8 S8 K8 R8 X8 q8 hHeld ⊢
    clear HF HSET HK HR X4 hgq hx0 hgv
    refine pure_ (i := 0) (N := some 33) (v := ?_) (a' := ?_) #[true, false, false, false, false, false, false, false, false, false, false, false] rfl rfl (by kernel_rfl) (fun _ _ _ h => h) (Or.inl ⟨by rfl, ?_⟩) ?_ ?_
    rotate_left
    ·intro w'
     go_simp
     with_reducible rfl
    rotate_left
    ·simp only [Act.put, Lam.pa, Lam.pb, Lam.pc, i64_w, i32_w]
     rfl
    refine pure_ (i := 1) (N := some 34) (v := ?_) (a' := ?_) #[true, true, false, false, false, false, false, false, false, false, false, false] rfl rfl (by kernel_rfl) (fun _ _ _ h => h) (Or.inl ⟨by rfl, ?_⟩) ?_ ?_
    rotate_left
    ·intro w'
     go_simp
     with_reducible rfl
    rotate_left
    ·simp only [Act.put, Lam.pa, Lam.pb, Lam.pc, i64_w, i32_w]
     rfl
    refine pure_ (i := 2) (N := some 35) (v := ?_) (a' := ?_) #[true, true, true, false, false, false, false, false, false, false, false, false] rfl rfl (by kernel_rfl) (fun _ _ _ h => h) (Or.inl ⟨by rfl, ?_⟩) ?_ ?_
    rotate_left
    ·intro w'
     go_simp
     with_reducible rfl
    rotate_left
    ·simp only [Act.put, Lam.pa, Lam.pb, Lam.pc, i64_w, i32_w]
     rfl
    refine pure_ (i := 3) (N := some 36) (v := ?_) (a' := ?_) #[true, true, true, true, false, false, false, false, false, false, false, false] rfl rfl (by kernel_rfl) (fun _ _ _ h => h) (Or.inl ⟨by rfl, ?_⟩) ?_ ?_
    rotate_left
    ·intro w'
     go_simp
     with_reducible rfl
    rotate_left
    ·simp only [Act.put, Lam.pa, Lam.pb, Lam.pc, i64_w, i32_w]
     rfl
    refine take_ (i := 4) (N := some 37) (v := ?_) (a' := ?_) #[true, true, true, true, true, false, false, false, false, false, false, false] rfl rfl (by kernel_rfl) (fun _ _ _ h => h) (Or.inl ⟨by rfl, ?_⟩) hHeld ?_ ?_
    rotate_left
    ·rintro w' s0
     have s1 := (blk_cell s0 0).trans HQ0.out
     go_simp
     with_reducible rfl
    rotate_left
    ·simp only [Act.put, Lam.pa, Lam.pb, Lam.pc, i64_w, i32_w]
     rfl
    refine pure_ (i := 5) (N := some 38) (v := ?_) (a' := ?_) #[true, true, true, true, true, true, false, false, false, false, false, false] rfl rfl (by kernel_rfl) (fun _ _ _ h => h) (Or.inl ⟨by rfl, ?_⟩) ?_ ?_
    rotate_left
    ·intro w'
     go_simp
     with_reducible rfl
    rotate_left
    ·simp only [Act.put, Lam.pa, Lam.pb, Lam.pc, i64_w, i32_w]
     rfl
    refine pure_ (i := 6) (N := some 39) (v := ?_) (a' := ?_) #[true, true, true, true, true, true, true, false, false, false, false, false] rfl rfl (by kernel_rfl) (fun _ _ _ h => h) (Or.inl ⟨by rfl, ?_⟩) ?_ ?_
    rotate_left
    ·intro w'
     go_simp
     with_reducible rfl
    rotate_left
    ·simp only [Act.put, Lam.pa, Lam.pb, Lam.pc, i64_w, i32_w]
     rfl
    refine take_ (i := 7) (N := some 40) (v := ?_) (a' := ?_) #[true, true, true, true, true, true, true, true, false, false, false, false] rfl rfl (by kernel_rfl) (fun _ _ _ h => h) (Or.inl ⟨by rfl, ?_⟩) hHeld ?_ ?_
    rotate_left
    ·rintro w' s0
     have s1 := (blk_cell s0 1).trans HQ1.out
     go_simp
     with_reducible rfl
    rotate_left
    ·simp only [Act.put, Lam.pa, Lam.pb, Lam.pc, i64_w, i32_w]
     rfl
    refine join_ (σ := Value × Int × Nat) 1 #[true, true, true, true, true, true, true, true, true, true, true, false] (fun s_ => [(41, s_.1), (42, .agg #[.int .i64 ((Chomp.H (Chomp.bit rows (x : Int) y) : Nat) : Int), .int .i64 s_.2.1]), (13, .pointer (some ⟨s_.2.2, 0, none⟩))]) (fun s_ w' => (w'.heap[gq]? = some (.cells curq 3 (0, 0))) ∧ impl_fates_of.IsF w' b ∧ w'.heap[s_.2.2]? = some (.cells #[.int .i64 0, .int .i64 0] 101 (0, 0)) ∧ we.heap.size ≤ s_.2.2 ∧ Kq.KQ we w' (fun q => q = b)) ?_ ?_
    rotate_left
    ·intro hCont
     refine two_ (i := 8) (j := 10) (Ni := some 41) (Nj := some 13) #[true, true, true, true, true, true, true, true, true, false, false, false] #[true, true, true, true, true, true, true, true, false, false, true, false] rfl rfl rfl rfl (by kernel_rfl) (by decide) (by decide) (fun K hK => ?_) (fun K hK => ?_)
     ·refine goes_ Tryd.func115 (by kernel_rfl) rfl #[.slice A0 rows.length c0, .int .i64 (x : Int), .int .i64 (y : Int)] (by rfl) rfl rfl (by (try simp only [List.map_toArray, List.map_cons, List.map_nil]); first | done | rfl | (simp [Act.eval]; done)) ?_
      refine (HBI.out (x : Int) y _ K8).mono ?_
      rintro e w1 ⟨v1, rfl, ho1, hb1⟩
      obtain ⟨A1, c1, e1⟩ := Kd.R_slice ho1
      subst e1
      refine ⟨_, rfl, ?_⟩
      have q1 := blk_below q8 hb1
      refine hK.out _ _ q1 (fun hHeld => ?_)
      clear hK K
      refine norm_ (a' := ?_) ?_ ?_
      rotate_left
      ·show Act.put _ (some 41) _ = _
       simp only [Act.put, Lam.pa, Lam.pb, Lam.pc, i64_w, i32_w]
       rfl
      have F1 := F8.below hb1
      refine two_ (i := 9) (j := 10) (Ni := some 42) (Nj := some 13) #[true, true, true, true, true, true, true, true, true, true, false, false] #[true, true, true, true, true, true, true, true, true, false, true, false] rfl rfl rfl rfl (by kernel_rfl) (by decide) (by decide) (fun K hK => ?_) (fun K hK => ?_)
      ·refine goes_ Tryd.func83 (by kernel_rfl) rfl #[.map (some b), .slice A1 (Chomp.bit rows (x : Int) y).length c1] (by rfl) rfl rfl (by (try simp only [List.map_toArray, List.map_cons, List.map_nil]); first | done | rfl | (simp [Act.eval]; done)) ?_
       refine (IH.out (Chomp.bit rows (x : Int) y) A1 c1 b w1 BOK.out BLT.out (Kd.R_reads' ho1).2.2 (Kd.R_reads' ho1).2.1 F1).mono ?_
       rintro e w2 ⟨bi, rfl, F2, k2⟩
       refine ⟨_, rfl, ?_⟩
       have q2 := Kq.blk_kq q1 k2 NQB.out
       refine hK.out _ _ q2 (fun hHeld => ?_)
       clear hK K
       refine norm_ (a' := ?_) ?_ ?_
       rotate_left
       ·show Act.put _ (some 42) _ = _
        simp only [Act.put, Lam.pa, Lam.pb, Lam.pc, i64_w, i32_w]
        rfl
       refine one_ (i := 10) (N := some 13) #[true, true, true, true, true, true, true, true, true, true, true, false] rfl rfl (by kernel_rfl) (by decide) (fun K hK => ?_)
       refine box_step (N := 13) (cs := #[.int .i64 0, .int .i64 0]) (t := 101) ?hw ?hd ?hr ?_
       case hw => rfl
       case hd => rfl
       case hr => first | (go_simp; done) | (go_simp; rfl)
       intro g13 hg13 w3 hx3 hb3
       have q3 := blk_below q2 hb3
       refine hK.out _ _ q3 (fun hHeld => ?_)
       clear hK K
       refine norm_ (a' := ?_) ?_ ?_
       rotate_left
       ·show Act.put _ (some 13) _ = _
        simp only [Act.put, Lam.pa, Lam.pb, Lam.pc, i64_w, i32_w]
        rfl
       exact norm_ (by simp only [putAll, Act.put, Lam.pa, Lam.pb, Lam.pc]) (hCont (.slice A1 (Chomp.bit rows (x : Int) y).length c1, bi, g13) _ ⟨q3, F2.below hb3, hx3, (by rw [hg13]; exact Nat.le_trans hb1.size k2.size), Kq.KQ.below ((Kq.KQ.below (Kq.KQ.refl _ _) hb1).then_ k2 (fun _ h => .inl h)) hb3⟩)
      ·refine box_step (N := 13) (cs := #[.int .i64 0, .int .i64 0]) (t := 101) ?hw ?hd ?hr ?_
       case hw => rfl
       case hd => rfl
       case hr => first | (go_simp; done) | (go_simp; rfl)
       intro g13 hg13 w2 hx2 hb2
       have q2 := blk_below q1 hb2
       refine hK.out _ _ q2 (fun hHeld => ?_)
       clear hK K
       refine norm_ (a' := ?_) ?_ ?_
       rotate_left
       ·show Act.put _ (some 13) _ = _
        simp only [Act.put, Lam.pa, Lam.pb, Lam.pc, i64_w, i32_w]
        rfl
       refine one_ (i := 9) (N := some 42) #[true, true, true, true, true, true, true, true, true, true, true, false] rfl rfl (by kernel_rfl) (by decide) (fun K hK => ?_)
       refine goes_ Tryd.func83 (by kernel_rfl) rfl #[.map (some b), .slice A1 (Chomp.bit rows (x : Int) y).length c1] (by rfl) rfl rfl (by (try simp only [List.map_toArray, List.map_cons, List.map_nil]); first | done | rfl | (simp [Act.eval]; done)) ?_
       refine (IH.out (Chomp.bit rows (x : Int) y) A1 c1 b w2 BOK.out BLT.out (Kd.R_reads' (Kd.R_below ho1 hb2)).2.2 (Kd.R_reads' (Kd.R_below ho1 hb2)).2.1 (F1.below hb2)).mono ?_
       rintro e w3 ⟨bi, rfl, F3, k3⟩
       refine ⟨_, rfl, ?_⟩
       have q3 := Kq.blk_kq q2 k3 NQB.out
       refine hK.out _ _ q3 (fun hHeld => ?_)
       clear hK K
       refine norm_ (a' := ?_) ?_ ?_
       rotate_left
       ·show Act.put _ (some 42) _ = _
        simp only [Act.put, Lam.pa, Lam.pb, Lam.pc, i64_w, i32_w]
        rfl
       have hge : we.heap.size ≤ g13 := by rw [hg13]; exact hb1.size
       exact norm_ (by simp only [putAll, Act.put, Lam.pa, Lam.pb, Lam.pc]) (hCont (.slice A1 (Chomp.bit rows (x : Int) y).length c1, bi, g13) _ ⟨q3, F3, Kq.blk_kq hx2 k3 (show ¬ g13 = b by have := HLT.out; have := K8.size; omega), hge, (Kq.KQ.below (Kq.KQ.below (Kq.KQ.refl _ _) hb1) hb2).then_ k3 (fun _ h => .inl h)⟩)
     ·refine box_step (N := 13) (cs := #[.int .i64 0, .int .i64 0]) (t := 101) ?hw ?hd ?hr ?_
      case hw => rfl
      case hd => rfl
      case hr => first | (go_simp; done) | (go_simp; rfl)
      intro g13 hg13 w1 hx1 hb1
      have q1 := blk_below q8 hb1
      refine hK.out _ _ q1 (fun hHeld => ?_)
      clear hK K
      refine norm_ (a' := ?_) ?_ ?_
      rotate_left
      ·show Act.put _ (some 13) _ = _
       simp only [Act.put, Lam.pa, Lam.pb, Lam.pc, i64_w, i32_w]
       rfl
      refine one_ (i := 8) (N := some 41) #[true, true, true, true, true, true, true, true, true, false, true, false] rfl rfl (by kernel_rfl) (by decide) (fun K hK => ?_)
      refine goes_ Tryd.func115 (by kernel_rfl) rfl #[.slice A0 rows.length c0, .int .i64 (x : Int), .int .i64 (y : Int)] (by rfl) rfl rfl (by (try simp only [List.map_toArray, List.map_cons, List.map_nil]); first | done | rfl | (simp [Act.eval]; done)) ?_
      refine (HBI.out (x : Int) y _ (Kq.KQ.below K8 hb1)).mono ?_
      rintro e w2 ⟨v1, rfl, ho2, hb2⟩
      obtain ⟨A1, c1, e1⟩ := Kd.R_slice ho2
      subst e1
      refine ⟨_, rfl, ?_⟩
      have q2 := blk_below q1 hb2
      refine hK.out _ _ q2 (fun hHeld => ?_)
      clear hK K
      refine norm_ (a' := ?_) ?_ ?_
      rotate_left
      ·show Act.put _ (some 41) _ = _
       simp only [Act.put, Lam.pa, Lam.pb, Lam.pc, i64_w, i32_w]
       rfl
      refine one_ (i := 9) (N := some 42) #[true, true, true, true, true, true, true, true, true, true, true, false] rfl rfl (by kernel_rfl) (by decide) (fun K hK => ?_)
      refine goes_ Tryd.func83 (by kernel_rfl) rfl #[.map (some b), .slice A1 (Chomp.bit rows (x : Int) y).length c1] (by rfl) rfl rfl (by (try simp only [List.map_toArray, List.map_cons, List.map_nil]); first | done | rfl | (simp [Act.eval]; done)) ?_
      refine (IH.out (Chomp.bit rows (x : Int) y) A1 c1 b w2 BOK.out BLT.out (Kd.R_reads' ho2).2.2 (Kd.R_reads' ho2).2.1 ((F8.below hb1).below hb2)).mono ?_
      rintro e w3 ⟨bi, rfl, F3, k3⟩
      refine ⟨_, rfl, ?_⟩
      have q3 := Kq.blk_kq q2 k3 NQB.out
      refine hK.out _ _ q3 (fun hHeld => ?_)
      clear hK K
      refine norm_ (a' := ?_) ?_ ?_
      rotate_left
      ·show Act.put _ (some 42) _ = _
       simp only [Act.put, Lam.pa, Lam.pb, Lam.pc, i64_w, i32_w]
       rfl
      have hge : we.heap.size ≤ g13 := by rw [hg13]; exact Nat.le_refl _
      exact norm_ (by simp only [putAll, Act.put, Lam.pa, Lam.pb, Lam.pc]) (hCont (.slice A1 (Chomp.bit rows (x : Int) y).length c1, bi, g13) _ ⟨q3, F3, Kq.blk_kq (blk_below hx1 hb2) k3 (show ¬ g13 = b by have := HLT.out; have := K8.size; omega), hge, (Kq.KQ.below (Kq.KQ.below (Kq.KQ.refl _ _) hb1) hb2).then_ k3 (fun _ h => .inl h)⟩)
    rintro ⟨v1, bi, g13⟩ w3 ⟨hHeld, F3, hx13, hg13, k3⟩
    dsimp only at F3 hx13 hg13
    refine norm_ (a' := ?_) ?_ ?_
    rotate_left
    ·simp only [putAll, Act.put, Lam.pa, Lam.pb, Lam.pc]
     rfl
    have hc0 : w3.cell? ⟨g13, 0, none⟩ = some (.int .i64 0) := (blk_cell hx13 0).trans rfl
    have hc1 : w3.cell? ⟨g13, 1, none⟩ = some (.int .i64 0) := (blk_cell hx13 1).trans rfl
    have hf0 := blk_frozen hx13 0
    have hf1 := blk_frozen hx13 1
    have hne : gq ≠ g13 := by have := blk_lt q8; omega
    refine one_ (i := 11) (N := none) #[true, true, true, true, true, true, true, true, true, true, true, true] rfl rfl (by kernel_rfl) (by decide) (fun K hK => ?_)
    refine skip_ (w1 := (w3.setCell ⟨g13, 0, none⟩ (.int .i64 ((Chomp.H (Chomp.bit rows (x : Int) y) : Nat) : Int))).setCell ⟨g13, 1, none⟩ (.int .i64 bi)) (by rfl) rfl ?hr ?_
    case hr => first | (go_simp; done) | (go_simp; rfl)
    refine hK.out _ _ (blk_far (blk_far hHeld (p := ⟨g13, 0, none⟩) hne _) (p := ⟨g13, 1, none⟩) hne _) (fun hHeld => ?_)
    clear hK K
    refine done_ (by kernel_rfl) ?_
    have G13 : w.heap.size ≤ g13 := Nat.le_trans K8.size hg13
    have hb13 : b ≠ g13 := by have := HLT.out; omega
    have hb4 : ¬ g4 = b := by have := HLT.out; have := G4.out; omega
    have hbm : ¬ gm = b := by have := HLT.out; have := GM.out; omega
    have h4n : g4 ≠ g13 := by have := blk_lt X8; omega
    have hmn : gm ≠ g13 := by have := S8.lt; omega
    have X13 := blk_put (cs := #[.int .i64 ((Chomp.H (Chomp.bit rows (x : Int) y) : Nat) : Int), .int .i64 0]) (blk_put (cs := #[.int .i64 0, .int .i64 0]) hx13 0 (.int .i64 ((Chomp.H (Chomp.bit rows (x : Int) y) : Nat) : Int)) rfl) 1 (.int .i64 bi) rfl
    have F4 := (F3.set (p := ⟨g13, 0, none⟩) hb13 (.int .i64 ((Chomp.H (Chomp.bit rows (x : Int) y) : Nat) : Int))).set (p := ⟨g13, 1, none⟩) hb13 (.int .i64 bi)
    have S4 := ((S8.kept (k3.k.2 gm S8.lt hbm)).set (p := ⟨g13, 0, none⟩) hmn (.int .i64 ((Chomp.H (Chomp.bit rows (x : Int) y) : Nat) : Int))).set (p := ⟨g13, 1, none⟩) hmn (.int .i64 bi)
    have K4 := Kq.KQ.setCell (Kq.KQ.setCell (K8.then_ k3 (fun _ h => .inl h)) (p := ⟨g13, 0, none⟩) (.inr G13) (.int .i64 ((Chomp.H (Chomp.bit rows (x : Int) y) : Nat) : Int))) (p := ⟨g13, 1, none⟩) (.inr G13) (.int .i64 bi)
    have X44 := blk_far (blk_far (Kq.blk_kq X8 k3 hb4) (p := ⟨g13, 0, none⟩) h4n (.int .i64 ((Chomp.H (Chomp.bit rows (x : Int) y) : Nat) : Int))) (p := ⟨g13, 1, none⟩) h4n (.int .i64 bi)
    have R4 := Kd.S_mono (ok' := fun _ => True) (Kd.S_move (w1 := (w3.setCell ⟨g13, 0, none⟩ (.int .i64 ((Chomp.H (Chomp.bit rows (x : Int) y) : Nat) : Int))).setCell ⟨g13, 1, none⟩ (.int .i64 bi)) (Kd.S_bound R8) (fun k hk => by
     have h1 : k ≠ g13 := by have := hk.2.2.1; omega
     have h2 : ¬ k = b := by have := hk.2.1; have := HLT.out; omega
     exact ((Below.heap_setCell _ ⟨g13, 1, none⟩ _ k h1).trans (Below.heap_setCell _ ⟨g13, 0, none⟩ _ k h1)).trans (k3.k.2 k hk.2.2.1 h2))) (fun _ _ => trivial)
    generalize (w3.setCell ⟨g13, 0, none⟩ (.int .i64 ((Chomp.H (Chomp.bit rows (x : Int) y) : Nat) : Int))).setCell ⟨g13, 1, none⟩ (.int .i64 bi) = w4 at X13 F4 S4 K4 X44 R4 ⊢
    have HST := Aside0.mk (impl_fates_of.take_step hlt hxy.out (rows := rows))
    have hh36 := Chomp.H_le BOK.out
    clear F3 hx13 hg13 k3 hc0 hc1 hf0 hf1 hne F8 S8 K8 R8 X8 q8 hHeld h4n hmn
    obtain ⟨hv, hhv⟩ : ∃ hv : Int, ((Chomp.H (Chomp.bit rows (x : Int) y) : Nat) : Int) = hv := ⟨_, rfl⟩
    have hwf := Aside0.mk (show (Lit.int .i64 hv).wf = true from WalkArith.wf_i64 (by omega))
    rw [hhv] at X13 HST
    try rw [hhv]
    clear hhv hh36
    have S5 := Aside0.mk S4
    have F5 := Aside0.mk F4
    have K5 := Aside0.mk K4
    have R5 := Aside0.mk R4
    have X5 := Aside0.mk X13
    have X45 := Aside0.mk X44
    have HB4 := Aside0.mk hb4
    have HBM := Aside0.mk hbm
    have HB13 := Aside0.mk hb13
    have hz0 : w4.cell? ⟨g13, 0, none⟩ = some (.int .i64 hv) := (blk_cell X13 0).trans rfl
    have hz1 : w4.cell? ⟨g13, 1, none⟩ = some (.int .i64 bi) := (blk_cell X13 1).trans rfl
    obtain ⟨z, hz⟩ : ∃ z, wrap64 (bi + 1) = z := ⟨_, rfl⟩
    clear S4 F4 K4 R4 X13 X44 hb4 hbm hb13
    cases h1 : (hv == 0) <;> cases h2 : decide (qk < 0) <;> cases h3 : decide (z < qk) <;> by_cases h4 : lg < z
    all_goals
     go_wp2_with (first
      | (at_mapUpdate; refine Fmap.wp_add rfl (.tmp 43) (.tmp 45) _ 128 rfl Tryd.underlying3 Tryd.underlying4 Tryd.underlying128 rfl S5.out (by have := HL36.out; unfold maxLen; omega) rfl rfl hwf.out ?_; intro w6 hs6 hg6; have S6 := Aside0.mk hs6; have K6 := Aside0.mk (Fmap.kq_grown K5.out hg6 (.inr GM.out)); have F6 := Aside0.mk (F5.out.kept (hg6.block b F5.out.lt (fun h => HBM.out (by injection h with h; exact h.symm)))); have R6 := Aside0.mk (Kd.S_mono (ok' := fun _ => True) (Kd.S_move (w1 := w6) (Kd.S_bound R5.out) (fun k hk => hg6.block k hk.2.2.1 (fun h => by injection h with h; obtain ⟨q_, _, cells_, hcells_⟩ := hk.2.2.2; exact S5.out.not_cells hcells_ h))) (fun _ _ => trivial)); have X6 := Aside0.mk ((hg6.block g13 (blk_lt X5.out) (fun h => by injection h with h; exact S5.out.not_cells X5.out h)).trans X5.out); have X46 := Aside0.mk ((hg6.block g4 (blk_lt X45.out) (fun h => by injection h with h; exact S5.out.not_cells X45.out h)).trans X45.out); have hy0 : w6.cell? ⟨g13, 0, none⟩ = some (.int .i64 hv) := (blk_cell X6.out 0).trans rfl; have hy1 : w6.cell? ⟨g13, 1, none⟩ = some (.int .i64 bi) := (blk_cell X6.out 1).trans rfl; clear hs6 hg6 hz0 hz1))
     go_roundg (L.length - (kk + 1))
     case measure => omega
     case rel => exact ⟨kk + 1, _, _, by omega, by omega, by go_num, rfl, rfl, F6, ⟨by rw [← HST.out]; exact S6.out⟩, K6, R6, X46⟩
   ·obtain rfl : kk = L.length := by omega
    have hltz : ¬ (L.length : Int) < (L.length : Int) := by omega
    have hs := HSET.out
    rw [List.take_length] at hs
    have HS2 := Aside0.mk hs
    clear hs HSET HR
    go_wp2_with (first
     | ((with_reducible refine gate_dst (N := 14) rfl ?_); refine box_event ?hg (N := 14) ?hd (cs := #[.int .i64 0, .int .i64 0]) (t := 101) ?hr ?_; (case hd => rfl); (case hg => rfl); (case hr => first | (go_simp; done) | (go_simp; rfl)); intro g14 hg w8 hbox hb; have G14 := Aside0.mk ((by rw [hg]; exact HK.out.size) : w.heap.size ≤ g14); have N4 := Aside0.mk (show g4 ≠ g14 by have := blk_lt X4.out; omega); have n0_ := Aside0.mk (Kq.KQ.below HK.out hb); have n1_ := Aside0.mk (HF.out.below hb); have n2_ := Aside0.mk (blk_below X4.out hb); have n3_ := Aside0.mk (HS2.out.below hb); clear HK HF X4 HS2; have HK := n0_; have HF := n1_; have X4 := n2_; have HS2 := n3_; clear n0_ n1_ n2_ n3_; have X14 := Aside0.mk hbox; have hc0 : w8.cell? ⟨g14, 0, none⟩ = some (.int .i64 0) := (blk_cell hbox 0).trans rfl; have hc1 : w8.cell? ⟨g14, 1, none⟩ = some (.int .i64 0) := (blk_cell hbox 1).trans rfl; have hf0 := blk_frozen hbox 0; have hf1 := blk_frozen hbox 1; clear hb hbox hg))
    have hb14 : b ≠ g14 := by have := HLT.out; have := G14.out; omega
    have hm14 : gm ≠ g14 := fun h => HS2.out.not_cells X14.out h.symm
    have Y14 := Aside0.mk (blk_put (cs := #[.int .i64 0, .int .i64 0]) (blk_put (cs := #[.int .i64 0, .int .i64 0]) X14.out 0 (.int .i64 0) rfl) 1 (.int .i64 lg) rfl)
    have YF := Aside0.mk ((HF.out.set (p := ⟨g14, 0, none⟩) hb14 (.int .i64 0)).set (p := ⟨g14, 1, none⟩) hb14 (.int .i64 lg))
    have YS := Aside0.mk ((HS2.out.set (p := ⟨g14, 0, none⟩) hm14 (.int .i64 0)).set (p := ⟨g14, 1, none⟩) hm14 (.int .i64 lg))
    have YK := Aside0.mk (Kq.KQ.setCell (Kq.KQ.setCell HK.out (p := ⟨g14, 0, none⟩) (.inr G14.out) (.int .i64 0)) (p := ⟨g14, 1, none⟩) (.inr G14.out) (.int .i64 lg))
    have Y4 := Aside0.mk (blk_far (blk_far X4.out (p := ⟨g14, 0, none⟩) N4.out (.int .i64 0)) (p := ⟨g14, 1, none⟩) N4.out (.int .i64 lg))
    have M14 := Aside0.mk hm14
    have B14 := Aside0.mk hb14
    clear X14 HF HS2 HK X4 hc0 hc1 hf0 hf1 hb14 hm14
    go_loopg [71] 40 (fun gg _ w' => ∃ h : Nat, 37 - h ≤ gg ∧ Aside0 (∀ j : Nat, j < h → (j : Int) ∈ L.map (impl_fates_of.hf rows)) ∧ Aside0 (w'.heap[g14]? = some (.cells #[.int .i64 (h : Int), .int .i64 lg] 101 (0, 0))) ∧ Aside0 (impl_fates_of.IsF w' b) ∧ Aside0 (Fmap.SetIs Tryd.prog 3 4 w' gm L.length (L.map (impl_fates_of.hf rows))) ∧ Aside0 (Kq.KQ w w' (fun q => q = b)) ∧ Aside0 (w'.heap[g4]? = some (.cells #[.int .i64 0, .int .i64 0] 101 (0, 0))))
    case atStart => exact ⟨0, by omega, ⟨fun j hj => absurd hj (Nat.not_lt_zero _)⟩, Y14, YF, YS, YK, Y4⟩
    case round =>
     clear Y14 YF YS YK Y4
     obtain ⟨h, hgg2, HIN, X14, HF, HS2, HK, X4⟩ := hrel
     have hh36 : h ≤ 36 := by have h1 := Chomp.le_len h _ HIN.out; have := HL36.out; rw [List.length_map] at h1; omega
     have hh64 : (h : Int) + 1 ≤ 9223372036854775807 := by omega
     have hwf := Aside0.mk (show (Lit.int .i64 (h : Int)).wf = true from WalkArith.wf_i64 (by omega))
     have HGG2 := Aside0.mk hgg2
     have HH36 := Aside0.mk hh36
     clear hgg2 hh36
     have hc0 : wr.cell? ⟨g14, 0, none⟩ = some (.int .i64 (h : Int)) := (blk_cell X14.out 0).trans rfl
     have hc1 : wr.cell? ⟨g14, 1, none⟩ = some (.int .i64 lg) := (blk_cell X14.out 1).trans rfl
     have hf0 := blk_frozen X14.out 0
     have hf1 := blk_frozen X14.out 1
     by_cases hin : (h : Int) ∈ L.map (impl_fates_of.hf rows)
     ·have hd : decide ((h : Int) ∈ L.map (impl_fates_of.hf rows)) = true := decide_eq_true hin
      have HM := Aside0.mk hin
      clear hin
      generalize hq : L.map (impl_fates_of.hf rows) = SS at HIN HS2 hd HM ⊢
      have HQ := Aside0.mk hq
      have HD := Aside0.mk hd
      clear hq hd
      go_wp2_with (first
       | (at_lookup; refine Fmap.wp_ask rfl (.tmp 71) (.tmp 73) 128 rfl Tryd.underlying3 Tryd.underlying4 Tryd.underlying128 (fun w => Tryd.zeroValue4 w) rfl HS2.out rfl hwf.out ?_; rw [HD.out]; simp only [Act.put, Lam.pa, Lam.pb, Lam.pc]))
      go_roundg (37 - (h + 1))
      case measure => have := HGG2.out; have := HH36.out; omega
      case rel =>
       have hq := HQ.out
       subst hq
       exact ⟨h + 1, Nat.le_refl _, ⟨fun j hj => by
        by_cases e : j = h
        ·rw [e]; exact HM.out
        ·exact HIN.out j (by omega)⟩, ⟨blk_put X14.out 0 _ (by simp)⟩, ⟨HF.out.set (p := ⟨g14, 0, none⟩) B14.out _⟩, ⟨HS2.out.set (p := ⟨g14, 0, none⟩) M14.out _⟩, ⟨Kq.KQ.setCell HK.out (p := ⟨g14, 0, none⟩) (.inr G14.out) _⟩, ⟨blk_far X4.out (p := ⟨g14, 0, none⟩) N4.out _⟩⟩
     ·have hd : decide ((h : Int) ∈ L.map (impl_fates_of.hf rows)) = false := decide_eq_false hin
      have hmex : h = Chomp.H rows := by rw [HSS.out]; exact Chomp.mex_is hin HIN.out
      have HM := Aside0.mk hmex
      clear hin hmex HIN
      generalize hq : L.map (impl_fates_of.hf rows) = SS at HS2 hd ⊢
      have HQ := Aside0.mk hq
      have HD := Aside0.mk hd
      clear hq hd
      have hc40 : wr.cell? ⟨g4, 0, none⟩ = some (.int .i64 0) := (blk_cell X4.out 0).trans rfl
      have hc41 : wr.cell? ⟨g4, 1, none⟩ = some (.int .i64 0) := (blk_cell X4.out 1).trans rfl
      have hf40 := blk_frozen X4.out 0
      have hf41 := blk_frozen X4.out 1
      cases h5 : decide (qk ≥ 0)
      ·have XF := Aside0.mk HF.out
       have XK := Aside0.mk HK.out
       have XX := Aside0.mk X14.out
       have X44 := Aside0.mk X4.out
       go_wp2_with (first
        | (at_lookup; refine Fmap.wp_ask rfl (.tmp 71) (.tmp 73) 128 rfl Tryd.underlying3 Tryd.underlying4 Tryd.underlying128 (fun w => Tryd.zeroValue4 w) rfl HS2.out rfl hwf.out ?_; rw [HD.out]; simp only [Act.put, Lam.pa, Lam.pb, Lam.pc])
        | (at_mapUpdate; go_loud (refine Fmap.wp_put rfl (.tmp 83) (.tmp 84) (.tmp 85) 73 101 rfl (Go.Maps.string_keyed Tryd.underlying9) Tryd.underlying73 rfl XF.out (N := 117649) (by unfold maxLen; omega) Chomp.num impl_fates_of.num_lt impl_fates_of.num_inj rfl rfl hkey.out rfl ⟨rows, HO.out, rfl, lg, (by show Value.agg #[.int .i64 (h : Int), .int .i64 _] = _; rw [HM.out])⟩ ?_); intro w9 hf9 hg9; have F9 := Aside0.mk hf9; have K9 := Aside0.mk (Fmap.kq_grown XK.out hg9 (.inl rfl)); have X9 := (hg9.block g14 (blk_lt XX.out) (fun h => by injection h with h; exact B14.out h.symm)).trans XX.out; have X49 := (hg9.block g4 (blk_lt X44.out) (fun h => by injection h with h; have := HLT.out; have := G4.out; omega)).trans X44.out; have hy0 : w9.cell? ⟨g14, 0, none⟩ = some (.int .i64 (h : Int)) := (blk_cell X9 0).trans rfl; have hy1 : w9.cell? ⟨g14, 1, none⟩ = some (.int .i64 lg) := (blk_cell X9 1).trans rfl; have hy40 : w9.cell? ⟨g4, 0, none⟩ = some (.int .i64 0) := (blk_cell X49 0).trans rfl; have hy41 : w9.cell? ⟨g4, 1, none⟩ = some (.int .i64 0) := (blk_cell X49 1).trans rfl; have hg40 := blk_frozen X49 0; have hg41 := blk_frozen X49 1; clear hc0 hc1 hf0 hf1 hc40 hc41 hf40 hf41 hf9 hg9 X9 X49))
       refine bodyPost_ret (v := .agg #[.int .i64 (h : Int), .int .i64 lg]) (by simp [results, Tryd.f83, go_sem, hy0, hy1, hy40, hy41, hg40, hg41]) rfl ?_
       have hb4 : b ≠ g4 := by have := HLT.out; have := G4.out; omega
       exact ⟨_, by rw [HM.out], (F9.out.set (p := ⟨g4, 0, none⟩) hb4 _).set (p := ⟨g4, 1, none⟩) hb4 _, Kq.KQ.setCell (Kq.KQ.setCell K9.out (p := ⟨g4, 0, none⟩) (.inr G4.out) _) (p := ⟨g4, 1, none⟩) (.inr G4.out) _⟩
      ·have XF := Aside0.mk (HF.out.set (p := ⟨g14, 1, none⟩) B14.out (.int .i64 qk))
       have XK := Aside0.mk (Kq.KQ.setCell HK.out (p := ⟨g14, 1, none⟩) (.inr G14.out) (.int .i64 qk))
       have XX := Aside0.mk (blk_put X14.out 1 (.int .i64 qk) rfl)
       have X44 := Aside0.mk (blk_far X4.out (p := ⟨g14, 1, none⟩) N4.out (.int .i64 qk))
       go_wp2_with (first
        | (at_lookup; refine Fmap.wp_ask rfl (.tmp 71) (.tmp 73) 128 rfl Tryd.underlying3 Tryd.underlying4 Tryd.underlying128 (fun w => Tryd.zeroValue4 w) rfl HS2.out rfl hwf.out ?_; rw [HD.out]; simp only [Act.put, Lam.pa, Lam.pb, Lam.pc])
        | (at_mapUpdate; go_loud (refine Fmap.wp_put rfl (.tmp 83) (.tmp 84) (.tmp 85) 73 101 rfl (Go.Maps.string_keyed Tryd.underlying9) Tryd.underlying73 rfl XF.out (N := 117649) (by unfold maxLen; omega) Chomp.num impl_fates_of.num_lt impl_fates_of.num_inj rfl rfl hkey.out rfl ⟨rows, HO.out, rfl, qk, (by show Value.agg #[.int .i64 (h : Int), .int .i64 _] = _; rw [HM.out])⟩ ?_); intro w9 hf9 hg9; have F9 := Aside0.mk hf9; have K9 := Aside0.mk (Fmap.kq_grown XK.out hg9 (.inl rfl)); have X9 := (hg9.block g14 (blk_lt XX.out) (fun h => by injection h with h; exact B14.out h.symm)).trans XX.out; have X49 := (hg9.block g4 (blk_lt X44.out) (fun h => by injection h with h; have := HLT.out; have := G4.out; omega)).trans X44.out; have hy0 : w9.cell? ⟨g14, 0, none⟩ = some (.int .i64 (h : Int)) := (blk_cell X9 0).trans rfl; have hy1 : w9.cell? ⟨g14, 1, none⟩ = some (.int .i64 qk) := (blk_cell X9 1).trans rfl; have hy40 : w9.cell? ⟨g4, 0, none⟩ = some (.int .i64 0) := (blk_cell X49 0).trans rfl; have hy41 : w9.cell? ⟨g4, 1, none⟩ = some (.int .i64 0) := (blk_cell X49 1).trans rfl; have hg40 := blk_frozen X49 0; have hg41 := blk_frozen X49 1; clear hc0 hc1 hf0 hf1 hc40 hc41 hf40 hf41 hf9 hg9 X9 X49))
       refine bodyPost_ret (v := .agg #[.int .i64 (h : Int), .int .i64 qk]) (by simp [results, Tryd.f83, go_sem, hy0, hy1, hy40, hy41, hg40, hg41]) rfl ?_
       have hb4 : b ≠ g4 := by have := HLT.out; have := G4.out; omega
       exact ⟨_, by rw [HM.out], (F9.out.set (p := ⟨g4, 0, none⟩) hb4 _).set (p := ⟨g4, 1, none⟩) hb4 _, Kq.KQ.setCell (Kq.KQ.setCell K9.out (p := ⟨g4, 0, none⟩) (.inr G4.out) _) (p := ⟨g4, 1, none⟩) (.inr G4.out) _⟩

/-! ### slices_DeleteFunc_int_int_71: function 71 -/
set_option maxHeartbeats 8000000 in
set_option maxRecDepth 100000 in
theorem slices_DeleteFunc_int_int_71.idx (I : World → Prop) (g n c gf : Nat) (lb : Array Value) (cur0 : Array Value) (pj : Nat → Bool) (w : World) (eg : ∀ args w, (callFunc gf args).run Tryd.prog w = .ok (.enter gf args) w)
  (hn : n ≤ cur0.size) (h64 : (c : Int) ≤ 9223372036854775807) (hnc : n ≤ c) (hsh : ∀ j, j < n → ∃ y0 y1 y2, cur0[j]! = .slice y0 y1 y2) (hI : I w) (hg : w.heap[g]? = some (.cells cur0 38 (0, 0)))
  (hp : ∀ j W, j < n → I W → Calls Tryd.prog gf (#[cur0[j]!] ++ lb) W fun e w' => e = .returned (.bool (pj j)) ∧ I w' ∧ w'.heap[g]? = W.heap[g]?) :
  Calls Tryd.prog 109 #[.slice (some ⟨g, 0, none⟩) n c, .func (.func gf) #[] lb] w fun e w' => I w' ∧ w'.heap[g]? = some (.cells cur0 38 (0, 0)) ∧ ((e = .returned (.int .i64 (-1)) ∧ ∀ j, j < n → pj j = false) ∨ ∃ k, k < n ∧ e = .returned (.int .i64 (k : Int)) ∧ pj k = true ∧ ∀ j, j < k → pj j = false) := by
 have hn64 : (n : Int) ≤ 9223372036854775807 := by omega
 have HI := Aside0.mk hI
 have HG := Aside0.mk hg
 have HP := Aside0.mk hp
 have HSH := Aside0.mk hsh
 have HN := Aside0.mk hn
 clear hI hg hp hsh hn hnc
 go_enter Tryd.func109, Tryd.ntmps109
 go_wp2
 go_loopg [5, 8] n (fun gg _ s8 wr => ∃ kk : Nat, kk ≤ n ∧ n - kk ≤ gg ∧ s8 = .int .i64 kk ∧ Aside0 (I wr) ∧ Aside0 (wr.heap[g]? = some (.cells cur0 38 (0, 0))) ∧ Aside0 (∀ j, j < kk → pj j = false))
 case atStart => exact ⟨0, Nat.zero_le _, by omega, rfl, HI, HG, ⟨fun j hj => absurd hj (Nat.not_lt_zero _)⟩⟩
 case round =>
  clear HI HG
  obtain ⟨kk, hkk, hgg, rfl, HI, HG, HA⟩ := hrel
  by_cases hlt : kk < n
  ·have hltz : (kk : Int) < (n : Int) := by omega
   have hx0 : wr.cell? ⟨g, kk, none⟩ = some cur0[kk]! := (blk_cell HG.out kk).trans (Del.arr_at (by have := HN.out; omega))
   have hcall := HP.out kk wr hlt HI.out
   obtain ⟨y0, y1, y2, hy⟩ := HSH.out kk hlt
   rw [hy] at hx0 hcall
   clear hy
   cases hq : pj kk with
   | true =>
    rw [hq] at hcall
    have HQ := Aside0.mk hq
    clear hq
    go_wp2_with (go_at_fn gf; refine hcall.mono ?_; rintro e w' ⟨rfl, hi', hg'⟩)
    go_ret
    exact ⟨hi', hg'.trans HG.out, .inr ⟨kk, hlt, rfl, HQ.out, HA.out⟩⟩
   | false =>
    rw [hq] at hcall
    have HQ := Aside0.mk hq
    clear hq
    go_wp2_with (go_at_fn gf; refine hcall.mono ?_; rintro e w' ⟨rfl, hi', hg'⟩)
    go_roundg (n - (kk + 1))
    case measure => omega
    case rel =>
     refine ⟨kk + 1, by omega, by omega, by go_num, ⟨hi'⟩, ⟨hg'.trans HG.out⟩, ⟨fun j hj => ?_⟩⟩
     by_cases e : j = kk
     ·rw [e]; exact HQ.out
     ·exact HA.out j (by omega)
  ·have hltz : ¬ (kk : Int) < (n : Int) := by omega
   obtain rfl : kk = n := by omega
   go_wp2
   go_ret
   exact ⟨HI.out, HG.out, .inl ⟨rfl, HA.out⟩⟩
set_option maxHeartbeats 8000000 in
set_option maxRecDepth 100000 in
theorem slices_DeleteFunc_int_int_71.cells (I : World → Prop) (g n c gf : Nat) (lb : Array Value) (cur0 : Array Value) (pj : Nat → Bool) (w : World) (eg : ∀ args w, (callFunc gf args).run Tryd.prog w = .ok (.enter gf args) w)
  (hn : n ≤ cur0.size) (h64 : (c : Int) ≤ 9223372036854775807) (hnc : n ≤ c) (hsh : ∀ j, j < n → ∃ y0 y1 y2, cur0[j]! = .slice y0 y1 y2) (hI : I w) (hg : w.heap[g]? = some (.cells cur0 38 (0, 0)))
  (hp : ∀ j W, j < n → I W → Calls Tryd.prog gf (#[cur0[j]!] ++ lb) W fun e w' => e = .returned (.bool (pj j)) ∧ I w' ∧ w'.heap[g]? = W.heap[g]?) (hset : ∀ W W', I W → W.grownBy W' (some g) → I W') :
  Calls Tryd.prog 71 #[.slice (some ⟨g, 0, none⟩) n c, .func (.func gf) #[] lb] w fun e w' => ∃ m, e = .returned (.slice (some ⟨g, 0, none⟩) m c) ∧ I w' ∧ ∃ cur1, w'.heap[g]? = some (.cells cur1 38 (0, 0)) ∧ cur1.size = cur0.size ∧ (Lib.keptUpTo (fun j => !pj j) cur0 n).length = m ∧ cur1.toList.take m = Lib.keptUpTo (fun j => !pj j) cur0 n := by
 have hn64 : (n : Int) ≤ 9223372036854775807 := by omega
 have hn0 : (0 : Int) ≤ (n : Int) := by omega
 have hidx := slices_DeleteFunc_int_int_71.idx I g n c gf lb cur0 pj w eg hn h64 hnc hsh hI hg hp
 obtain ⟨kp, HK⟩ : ∃ kp : Nat → Bool, Aside0 (kp = fun j => !pj j) := ⟨_, ⟨rfl⟩⟩
 rw [← HK.out]
 have HP := Aside0.mk hp
 have HSH := Aside0.mk hsh
 have HN := Aside0.mk hn
 have HNC := Aside0.mk hnc
 have HSET := Aside0.mk hset
 have hv : ∀ w, (zeroValue 38).run Tryd.prog w = .ok ((.slice none 0 0)) w := Tryd.zeroValue38
 have HV := Aside0.mk hv
 clear hI hg hp hsh hn hset hv
 have HX := Aside0.mk hidx
 clear hidx
 go_enter Tryd.func71, Tryd.ntmps71
 have GO : ∀ (wi : World) (k0 : Nat), True → True := fun _ _ h => h
 clear GO
 go_wp2_with (go_at_call 109; go_loud (refine HX.out.mono ?_); rintro e w1 ⟨hi1, hg1, h1⟩; have HI := Aside0.mk hi1; have HG := Aside0.mk hg1; clear hi1 hg1; rcases h1 with ⟨rfl, hall⟩ | ⟨k0, hk0, rfl, hk1, hk2⟩)
 ·have HA := Aside0.mk hall
  clear hall
  go_wp2
  go_ret
  have e3 : Lib.keptUpTo kp cur0 n = (List.range n).map (cur0[·]!) := Lib.keptUpTo_all kp cur0 n (fun j hj => by rw [HK.out]; show (!pj j) = true; rw [HA.out j hj]; rfl)
  refine ⟨n, rfl, HI.out, cur0, HG.out, rfl, by rw [e3]; simp, ?_⟩
  rw [e3]
  apply List.ext_getElem
  ·have := HN.out; simp; omega
  ·intro i h1 h2
   have : i < cur0.size := by have := HN.out; simp at h2; omega
   simp [getElem!_pos cur0 i this]
 ·have hneg : ¬ ((k0 : Int) = -1) := by omega
  have hk64 : (k0 : Int) + 1 ≤ 9223372036854775807 := by omega
  have HK1 := Aside0.mk hk1
  have HK2 := Aside0.mk hk2
  clear hk1 hk2
  go_wp2
  go_loopg [5, 6, 7] n (fun gg s5 s6 _ wr => ∃ (i j : Nat) (dk : Array Value), s5 = .int .i64 i ∧ s6 = .int .i64 j ∧ j ≤ n ∧ n - j ≤ gg ∧ Aside0 (I wr) ∧ Aside0 (wr.heap[g]? = some (.cells dk 38 (0, 0))) ∧ Aside0 (Lib.KeptInv kp cur0 j i dk))
  case atStart => exact ⟨k0, k0 + 1, cur0, rfl, by go_num, by omega, by omega, HI, HG, ⟨Lib.KeptInv.start (fun j hj => by rw [HK.out]; show (!pj j) = true; rw [HK2.out j hj]; rfl) (by rw [HK.out]; show (!pj k0) = false; rw [HK1.out]; rfl)⟩⟩
  case round =>
   clear HI HG
   obtain ⟨i, j, dk, rfl, rfl, hjd, hgg, HI, HG, I2⟩ := hrel
   have hij := I2.out.lt
   have hds := Aside0.mk I2.out.size
   by_cases hlt : j < n
   ·have hltz : (j : Int) < (n : Int) := by omega
    have hiz : (i : Int) < (n : Int) := by omega
    have hi0 : (0 : Int) ≤ (i : Int) := by omega
    have hi64 : (i : Int) + 1 ≤ 9223372036854775807 := by omega
    have hx0 : wr.cell? ⟨g, j, none⟩ = some cur0[j]! := (blk_cell HG.out j).trans (by rw [Del.arr_at (by have := HN.out; have := hds.out; omega), I2.out.high j (by omega)])
    have hcall := HP.out j wr hlt HI.out
    obtain ⟨y0, y1, y2, hy⟩ := HSH.out j hlt
    rw [hy] at hx0 hcall
    have HY := Aside0.mk hy
    clear hy
    cases hq : pj j with
    | true =>
     rw [hq] at hcall
     have HQ := Aside0.mk hq
     clear hq
     go_wp2_with (go_at_fn gf; refine hcall.mono ?_; rintro e w' ⟨rfl, hi', hg'⟩)
     go_roundg (n - (j + 1))
     case measure => omega
     case rel => exact ⟨i, j + 1, dk, rfl, by go_num, by omega, Nat.le_refl _, ⟨hi'⟩, ⟨hg'.trans HG.out⟩, ⟨I2.out.skip (by rw [HK.out]; show (!pj j) = false; rw [HQ.out]; rfl)⟩⟩
    | false =>
     rw [hq] at hcall
     have HQ := Aside0.mk hq
     clear hq
     go_wp2_with (go_at_fn gf; refine hcall.mono ?_; rintro e w' ⟨rfl, hi', hg'⟩; have hg2 := hg'.trans HG.out; have hci : w'.cell? ⟨g, i, none⟩ = some dk[i]! := (blk_cell hg2 i).trans (Del.arr_at (by have := HN.out; have := hds.out; omega)); have hfi := blk_frozen hg2 i; have HI' := Aside0.mk hi'; have HG' := Aside0.mk hg2; clear hi' hg' hg2)
     go_roundg (n - (j + 1))
     case measure => omega
     case rel =>
      refine ⟨i + 1, j + 1, dk.setIfInBounds i (.slice y0 y1 y2), by go_num, by go_num, by omega, Nat.le_refl _, ⟨HSET.out _ _ HI'.out (Del.grown_set HG'.out i _)⟩, ⟨blk_put HG'.out i _ rfl⟩, ⟨?_⟩⟩
      have h2 := I2.out.keep (by have := HN.out; omega) (by rw [HK.out]; show (!pj j) = true; rw [HQ.out]; rfl)
      rwa [HY.out] at h2
   ·obtain rfl : j = n := by omega
    have hltz : ¬ (j : Int) < (j : Int) := by omega
    have hi0 : (0 : Int) ≤ (i : Int) := by omega
    have hic : (i : Int) ≤ (c : Int) := by omega
    have hij2 : (i : Int) ≤ (j : Int) := by omega
    have hicn : i ≤ c := by omega
    have hijn : i ≤ j := by omega
    have hcl : ∀ ty, (Builtin.clear_ #[26] ty #[.slice (some ⟨g, i, none⟩) (j - i) (c - i)]).run Tryd.prog wr = .ok (.tuple #[]) (wr.setCells g i (List.replicate (j - i) ((.slice none 0 0)))) :=
     fun ty => Lib.run_clear_slice wr 26 38 ty _ Tryd.underlying26 HV.out rfl rfl g i _ _ (by omega) (fun t ht => by rw [blk_cell HG.out (i + t), Del.arr_at (by have := HN.out; have := hds.out; omega)]; rfl) (fun t ht => blk_frozen HG.out (i + t))
    go_wp2
    go_ret
    obtain ⟨cur1, h3, h4, h5⟩ := Del.set_many (zs := List.replicate (j - i) ((.slice none 0 0))) HG.out i (by have := HN.out; have := hds.out; rw [List.length_replicate]; omega)
    refine ⟨i, rfl, HSET.out _ _ HI.out (Del.grown_many HG.out i _), cur1, h3, h4.trans hds.out, I2.out.len, ?_⟩
    rw [h5]
    apply List.ext_getElem?
    intro t
    rw [List.getElem?_take]
    by_cases ht : t < i
    ·rw [if_pos ht, I2.out.low t ht]
     have := Del.arr_at (a := dk) (k := t) (by have := HN.out; have := hds.out; omega)
     rw [← this]; simp
    ·rw [if_neg ht, List.getElem?_eq_none (by rw [I2.out.len]; omega)]
theorem slices_DeleteFunc_int_int_71.ownR (I : World → Prop) (g n c gf base : Nat) (lb : Array Value) (pj : Nat → Bool) (ok : Nat → Prop) (xs : List (List Int)) (w : World) (eg : ∀ args w, (callFunc gf args).run Tryd.prog w = .ok (.enter gf args) w)
  (HO : Kd.R ((Kd.slice 3 (Kd.int .i64))) 38 w base ok (.slice (some ⟨g, 0, none⟩) n c) xs) (hI : I w) (hset : ∀ W W', I W → W.grownBy W' (some g) → I W') (hkeep : ∀ W, I W → ∀ k, ok k → k ≠ g → k < w.heap.size → W.heap[k]? = w.heap[k]?)
  (hp : ∀ j u W, j < n → I W → (((Kd.slice 3 (Kd.int .i64)))).M w base (fun k => ok k ∧ k ≠ g) (xs.getD j []) [u] → Calls Tryd.prog gf (#[u] ++ lb) W fun e w' => e = .returned (.bool (pj j)) ∧ I w' ∧ w'.heap[g]? = W.heap[g]?) :
  Calls Tryd.prog 71 #[.slice (some ⟨g, 0, none⟩) n c, .func (.func gf) #[] lb] w fun e w' => ∃ m, e = .returned (.slice (some ⟨g, 0, none⟩) m c) ∧ I w' ∧ Kd.R ((Kd.slice 3 (Kd.int .i64))) 38 w' base ok (.slice (some ⟨g, 0, none⟩) m c) ((Del.places (fun j => !pj j) n).map (fun j => xs.getD j [])) := by
 obtain ⟨hxn, hnc, hbg, cur0, hg, hn, h64, hK⟩ := Del.row_ofR rfl HO []
 refine (slices_DeleteFunc_int_int_71.cells I g n c gf lb cur0 pj w eg hn h64 hnc (fun j hj => ?_) hI hg (fun j W hj hW => hp j _ W hj hW (hK j hj)) hset).mono ?_
 ·have h1 := hK j hj
  exact Del.shape_row h1
 ·rintro e w' ⟨m, rfl, hi, cur1, h1, h2, h3, h4⟩
  exact ⟨m, rfl, hi, Del.R_kept rfl HO (hkeep w' hi) hg h1 h2 _ m h3 h4 []⟩
theorem slices_DeleteFunc_int_int_71.ownS (I : World → Prop) (g n c gf base : Nat) (lb : Array Value) (pj : Nat → Bool) (ok : Nat → Prop) (xs : List (List Int)) (w : World) (eg : ∀ args w, (callFunc gf args).run Tryd.prog w = .ok (.enter gf args) w)
  (HO : Kd.S ((Kd.slice 3 (Kd.int .i64))) 38 w base ok (.slice (some ⟨g, 0, none⟩) n c) xs) (hI : I w) (hset : ∀ W W', I W → W.grownBy W' (some g) → I W') (hkeep : ∀ W, I W → ∀ k, ok k → k ≠ g → k < w.heap.size → W.heap[k]? = w.heap[k]?)
  (hp : ∀ j u W, j < n → I W → (((Kd.slice 3 (Kd.int .i64)))).M w base (fun k => ok k ∧ k ≠ g) (xs.getD j []) [u] → Calls Tryd.prog gf (#[u] ++ lb) W fun e w' => e = .returned (.bool (pj j)) ∧ I w' ∧ w'.heap[g]? = W.heap[g]?) :
  Calls Tryd.prog 71 #[.slice (some ⟨g, 0, none⟩) n c, .func (.func gf) #[] lb] w fun e w' => ∃ m, e = .returned (.slice (some ⟨g, 0, none⟩) m c) ∧ I w' ∧ Kd.S ((Kd.slice 3 (Kd.int .i64))) 38 w' base ok (.slice (some ⟨g, 0, none⟩) m c) ((Del.places (fun j => !pj j) n).map (fun j => xs.getD j [])) := by
 obtain ⟨hxn, hnc, hbg, cur0, hg, hn, h64, hK⟩ := Del.row_ofS rfl HO []
 refine (slices_DeleteFunc_int_int_71.cells I g n c gf lb cur0 pj w eg hn h64 hnc (fun j hj => ?_) hI hg (fun j W hj hW => hp j _ W hj hW (hK j hj)) hset).mono ?_
 ·have h1 := hK j hj
  exact Del.shape_row h1
 ·rintro e w' ⟨m, rfl, hi, cur1, h1, h2, h3, h4⟩
  exact ⟨m, rfl, hi, Del.S_kept rfl HO (hkeep w' hi) hg h1 h2 _ m h3 h4 []⟩
set_option maxHeartbeats 4000000 in
theorem slices_DeleteFunc_int_int_71.nilrow (gf : Nat) (lb : Array Value) (w : World) : Calls Tryd.prog 71 #[.slice none 0 0, .func (.func gf) #[] lb] w fun e w' => e = .returned (.slice none 0 0) ∧ Below w.heap.size w w' := by
 have hI : Calls Tryd.prog 109 #[.slice none 0 0, .func (.func gf) #[] lb] w fun e w' => e = .returned (.int .i64 (-1)) ∧ Below w.heap.size w w' := by
  have HB := Aside0.mk (Below.refl w.heap.size w)
  go_enter Tryd.func109, Tryd.ntmps109
  go_wp2
  go_loopg [5, 8] 0 (fun gg _ s8 wr => s8 = .int .i64 0 ∧ Aside0 (Below w.heap.size w wr))
  case atStart => exact ⟨rfl, HB⟩
  case round =>
   clear HB
   obtain ⟨rfl, HB⟩ := hrel
   go_wp2
   go_ret
   exact ⟨rfl, HB.out⟩
 go_enter Tryd.func71, Tryd.ntmps71
 go_wp2_with (go_at_call 109; refine hI.mono ?_; rintro e w' ⟨rfl, hb⟩)
 go_ret
 exact ⟨rfl, hb⟩
theorem slices_DeleteFunc_int_int_71.ownS2 (I : World → Prop) (gf base : Nat) (lb : Array Value) (pj : Nat → Bool) (ok : Nat → Prop) (xs : List (List Int)) (v : Value) (w : World) (eg : ∀ args w, (callFunc gf args).run Tryd.prog w = .ok (.enter gf args) w)
  (HO : Kd.S ((Kd.slice 3 (Kd.int .i64))) 38 w base ok v xs) (hI : I w) (hset : ∀ W W', I W → W.grownBy W' v.ownBlock → I W') (hkeep : ∀ W, I W → ∀ k, ok k → some k ≠ v.ownBlock → k < w.heap.size → W.heap[k]? = w.heap[k]?)
  (hp : ∀ j u W, j < xs.length → I W → (((Kd.slice 3 (Kd.int .i64)))).M w base (fun k => ok k ∧ some k ≠ v.ownBlock) (xs.getD j []) [u] → Calls Tryd.prog gf (#[u] ++ lb) W fun e w' => e = .returned (.bool (pj j)) ∧ I w' ∧ ∀ g, v.ownBlock = some g → w'.heap[g]? = W.heap[g]?) :
  Calls Tryd.prog 71 #[v, .func (.func gf) #[] lb] w fun e w' => ∃ v', e = .returned v' ∧ I w' ∧ Kd.S ((Kd.slice 3 (Kd.int .i64))) 38 w' base ok v' ((Del.places (fun j => !pj j) xs.length).map (fun j => xs.getD j [])) ∧ v'.ownBlock = v.ownBlock := by
 rcases Del.row_formS HO with ⟨rfl, rfl⟩ | ⟨g, c, rfl⟩
 ·refine (slices_DeleteFunc_int_int_71.nilrow gf lb w).mono ?_
  rintro e w' ⟨rfl, hb⟩
  exact ⟨_, rfl, hset _ _ hI (Del.grown_below hb), Kd.S_nil _ _ _ _ _, rfl⟩
 ·have hgb : ∀ m : Nat, (Value.slice (some ⟨g, 0, none⟩) m c).ownBlock = some g := fun m => by simp [Value.ownBlock]
  rw [hgb] at hset
  refine (slices_DeleteFunc_int_int_71.ownS I g xs.length c gf base lb pj ok xs w eg HO hI hset (fun W hW k hk hne hlt => hkeep W hW k hk (by rw [hgb]; intro h; exact hne (by injection h)) hlt) (fun j u W hj hW hM => ?_)).mono ?_
  ·refine (hp j u W hj hW ((((Kd.slice 3 (Kd.int .i64)))).M_mono (fun k hk => ⟨hk.1, by rw [hgb]; intro h; exact hk.2 (by injection h)⟩) hM)).mono ?_
   rintro e w' ⟨h1, h2, h3⟩
   exact ⟨h1, h2, h3 g (hgb _)⟩
  ·rintro e w' ⟨m, rfl, h1, h2⟩
   exact ⟨_, rfl, h1, h2, by rw [hgb, hgb]⟩


end Go.Proofs.YtdikeggkfkkajaaDoor.PFnExactMakePuzzle
