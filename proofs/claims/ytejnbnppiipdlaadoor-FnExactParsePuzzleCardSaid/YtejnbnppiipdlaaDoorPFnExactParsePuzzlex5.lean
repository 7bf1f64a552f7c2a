-- Made by a program of this session (wip/xprint.py) out of the translation.
import Derived.Test.YtejnbnppiipdlaaDoorEnv
import Derived.Test.YtejnbnppiipdlaaDoorPFnExactParsePuzzlex0
namespace Go.Proofs.YtejnbnppiipdlaaDoor.PFnExactParsePuzzle
open Go.RowKit Go.Proofs.YtejnbnppiipdlaaDoorW.PrintWords Go.Proofs.YtejnbnppiipdlaaDoorW.PrintLast Go.Proofs.YtejnbnppiipdlaaDoorW.PrintMore
attribute [local go_sem] max2_int min2_int max_two min_two max_three min_three max_four min_four   -- for this text's walks alone
set_option linter.unusedVariables false
set_option linter.unusedSimpArgs false

/-! ### impl_numbers: function 16 -/
def impl_numbers.lay_ren : Go.Shelf.Ren := ⟨fun | 151 => 32 | 152 => 49 | 137 => 61 | 119 => 62 | 224 => 63 | 225 => 64 | 217 => 71 | 266 => 83 | n => n, fun | 9 => 9 | 21 => 21 | 4 => 4 | 3 => 3 | 5 => 5 | 0 => 0 | 46 => 91 | n => n, fun | n => n⟩
theorem impl_numbers.lay : Go.Proofs.Lays.n151 Tryd.prog impl_numbers.lay_ren := {
 mixed := by kernel_rfl
 f119 := Tryd.func62.trans (congrArg some (by kernel_rfl))
 f137 := Tryd.func61.trans (congrArg some (by kernel_rfl))
 f151 := Tryd.func32.trans (congrArg some (by kernel_rfl))
 f152 := Tryd.func49.trans (congrArg some (by kernel_rfl))
 f217 := Tryd.func71.trans (congrArg some (by kernel_rfl))
 f224 := Tryd.func63.trans (congrArg some (by kernel_rfl))
 f225 := Tryd.func64.trans (congrArg some (by kernel_rfl))
 f266 := Tryd.func83.trans (congrArg some (by kernel_rfl))
 t0 := Tryd.underlying0
 a0 := Tryd.isAgg0
 z0 := Tryd.sizeOf0
 v0 := Tryd.zeroValue0
 t3 := Tryd.underlying3
 a3 := Tryd.isAgg3
 z3 := Tryd.sizeOf3
 v3 := Tryd.zeroValue3
 t4 := Tryd.underlying4
 a4 := Tryd.isAgg4
 z4 := Tryd.sizeOf4
 v4 := Tryd.zeroValue4
 t5 := Tryd.underlying5
 a5 := Tryd.isAgg5
 z5 := Tryd.sizeOf5
 v5 := Tryd.zeroValue5
 t9 := Tryd.underlying9
 a9 := Tryd.isAgg9
 z9 := Tryd.sizeOf9
 v9 := Tryd.zeroValue9
 t21 := Tryd.underlying21
 a21 := Tryd.isAgg21
 z21 := Tryd.sizeOf21
 v21 := Tryd.zeroValue21
 t46 := Tryd.underlying91
 a46 := Tryd.isAgg91
 z46 := Tryd.sizeOf91
 v46 := Tryd.zeroValue91 }
set_option maxHeartbeats 2000000 in
theorem impl_numbers.valid (r : Int) (w : World) : Calls Tryd.prog 62 #[.int .i32 r] w fun e w' => e = .returned (.bool ((decide (0 ≤ r) && decide (r < 55296)) || (decide (57343 < r) && decide (r ≤ 1114111)))) ∧ w' = w := by
 go_enter Tryd.func62, Tryd.ntmps62
 by_cases h1 : 0 ≤ r
 ·by_cases h2 : r < 55296
  ·go_wp2
   go_ret
   simp [h1, h2]
  ·by_cases h3 : 57343 < r
   ·by_cases h4 : r ≤ 1114111
    ·go_wp2
     go_ret
     simp [h3, h4]
    ·go_wp2
     go_ret
     simp [h2, h4]
   ·go_wp2
    go_ret
    simp [h3]
    omega
 ·have h3 : ¬ 57343 < r := by omega
  go_wp2
  go_ret
  simp
  omega
set_option maxHeartbeats 8000000 in
set_option maxRecDepth 1000000 in
theorem impl_numbers.bad (s : ByteArray) (w : World) (h8 : s.size ≤ 2) (hascii : ∀ (j : Nat) b, s.data.toList[j]? = some b → b.toNat < 128) :
  Calls Tryd.prog 49 #[.string s, .int .i32 65533] w fun e w' => e = .returned (.int .i64 (-1)) ∧ Below w.heap.size w w' := by
 have HA : Aside (∀ (j : Nat) b, s.data.toList[j]? = some b → b.toNat < 128) := hascii
 clear hascii
 go_enter Tryd.func49, Tryd.ntmps49
 go_wp2
 go_loopg [5, 6] s.size (fun g _ _ wx => ∃ i : Nat, i + g = s.size ∧ wx = w.iter s i)
 case atStart => exact ⟨0, by omega, rfl⟩
 case round =>
  obtain ⟨i, hig, rfl⟩ := hrel
  cases gk with
  | zero =>
   obtain rfl : i = s.size := by omega
   have hnx := fun ty => run_next_end (P := Tryd.prog) w s s.size ty (by omega)
   go_wp2
   go_ret
   exact ⟨rfl, below_alloc (Below.refl _ _) _⟩
  | succ g =>
   have hi : i < s.size := by omega
   obtain ⟨x, hx⟩ : ∃ x : UInt8, s[i]'hi = x := ⟨_, rfl⟩
   have hxl : s.data.toList[i]? = some x := by rw [← hx]; exact Lib.data_getElem? s i hi
   have hx128 : x.toNat < 128 := HA.out i x hxl
   have hnx := fun ty => run_next_ascii (P := Tryd.prog) w s i ty hi (by rw [hx]; exact hx128)
   rw [hx] at hnx
   have hne : ((x.toNat : Int) == 65533) = false := beq_eq_false_iff_ne.2 (by omega)
   go_wp2
   go_roundg g
   case measure => omega
   case rel => exact ⟨i + 1, by omega, rfl⟩
set_option maxHeartbeats 8000000 in
set_option maxRecDepth 1000000 in
theorem impl_numbers.inval (s : ByteArray) (r : Int) (w : World) (h1 : ¬ r < 128) (h2 : ¬ r = 65533) (h0 : 0 ≤ r) (hv : ((decide (0 ≤ r) && decide (r < 55296)) || (decide (57343 < r) && decide (r ≤ 1114111))) = false) :
  Calls Tryd.prog 49 #[.string s, .int .i32 r] w fun e w' => e = .returned (.int .i64 (-1)) ∧ Below w.heap.size w w' := by
 have HV := Aside0.mk hv
 have h3 : (r == 65533) = false := beq_eq_false_iff_ne.2 h2
 clear hv h2
 go_enter Tryd.func49, Tryd.ntmps49
 go_wp2_with (go_at_call 62; refine (impl_numbers.valid _ _).mono ?_; rintro e w' ⟨rfl, hw⟩; rw [hw, HV.out])
 go_ret
 exact ⟨rfl, Below.refl _ _⟩
set_option maxHeartbeats 8000000 in
set_option maxRecDepth 1000000 in
theorem impl_numbers.none_ (s : ByteArray) (r : Int) (w : World) (h1 : ¬ r < 128) (h2 : ¬ r = 65533) (h0 : 0 ≤ r) (hv : ((decide (0 ≤ r) && decide (r < 55296)) || (decide (57343 < r) && decide (r ≤ 1114111))) = true) (h8 : s.size ≤ 2) (hascii : ∀ b ∈ s.data.toList, b.toNat < 128) :
  Calls Tryd.prog 49 #[.string s, .int .i32 r] w fun e w' => e = .returned (.int .i64 (-1)) ∧ Below w.heap.size w w' := by
 have HA := Aside0.mk hascii
 have HV := Aside0.mk hv
 have h3 : (r == 65533) = false := beq_eq_false_iff_ne.2 h2
 have hval : Utf8.valid r = true := by
  rw [validRune_eq]; unfold validRune
  simp only [Bool.or_eq_true, Bool.and_eq_true, decide_eq_true_eq] at hv ⊢
  exact hv
 obtain ⟨f1, f2, f3⟩ := encode_facts r hval (by omega)
 have F3 := Aside0.mk f3
 have hu21 : (Tryd.prog.underlying 21).isSome = true := by kernel_rfl
 have hcv := fun W => run_convert_int_string (P := Tryd.prog) W 21 9 .i32 r hu21 Tryd.underlying9
 generalize Utf8.encode r = RS at f1 f2 F3 hcv
 clear hascii hv h2 hval f3
 go_enter Tryd.func49, Tryd.ntmps49
 go_wp2_with (go_at_call 62; refine (impl_numbers.valid _ _).mono ?_; rintro e w' ⟨rfl, hw⟩; rw [hw, HV.out])
 clear HV
 by_cases hlt : RS.size ≤ s.size
 ·obtain ⟨h2⟩ : Nonempty (RS.size = 2) := ⟨by omega⟩
  obtain ⟨h5⟩ : Nonempty (s.size = 2) := ⟨by omega⟩
  have hx : 1 < RS.size := by omega
  have hy : 1 < s.size := by omega
  obtain ⟨c, hc⟩ : ∃ c : UInt8, RS[1]'hx = c := ⟨_, rfl⟩
  obtain ⟨d, hd⟩ : ∃ d : UInt8, s[1]'hy = d := ⟨_, rfl⟩
  have hc128 : 128 ≤ c.toNat := by
   have := F3.out (by omega)
   simp only [h2] at this
   rw [← hc]; exact this
  have hd128 : d.toNat < 128 := HA.out d (by rw [← hd]; exact Array.getElem_mem_toList (xs := s.data) hy)
  have hne : ((d.toNat : Int) == (c.toNat : Int)) = false := beq_eq_false_iff_ne.2 (by omega)
  go_step3
  go_wp2
  go_loopg [9] 1 (fun g v9 wx => wx = w ∧ v9 = .int .i64 1)
  case atStart => exact ⟨rfl, rfl⟩
  case round =>
   obtain ⟨rfl, rfl⟩ := hrel
   have hx0 : decide ((0 : Int) ≤ 1) = true := rfl
   have hx1 : (1 : Int) < (RS.size : Int) := by omega
   have hy1 : (1 : Int) < (s.size : Int) := by omega
   go_wp2
   go_step3
   go_wp2
   go_quiet (fail)
   go_wp2
   have hy2 : (2 : Int) ≤ (s.size : Int) := by omega
   have hsl := fun W => run_slice_string_from_if (P := Tryd.prog) (w := W) 9 s .i64 2 Tryd.underlying9
   simp only [show (0 : Int) ≤ 2 ∧ (2 : Int) ≤ (s.size : Int) from ⟨by omega, hy2⟩, if_true, and_self] at hsl
   go_region_with (go_at_call 61; refine (Any.strings_IndexByte { impl_numbers.lay with } _ _ _).mono ?_; rintro e w' ⟨rfl, rfl⟩)
   all_goals
    go_wp2
    rw [Exit.noGoto_ret]
    try (dsimp only [Exit.inBlock, Exit.then])
    try rw [Exit.noGoto_ret]
    go_ret
    exact ⟨rfl, by first | exact Below.refl _ _ | (repeat (first | exact Below.refl _ _ | apply pw_below_drewN | apply below_drew1))⟩
 ·have hge : ¬ ((RS.size : Int) - 1 < (s.size : Int)) := by omega
  go_step3
  go_wp2
  go_loopg [9] 1 (fun g v9 wx => wx = w ∧ v9 = .int .i64 ((RS.size : Int) - 1))
  case atStart => exact ⟨rfl, rfl⟩
  case round =>
   obtain ⟨rfl, rfl⟩ := hrel
   go_wp2
   rw [Exit.noGoto_ret]
   go_ret
   exact ⟨rfl, Below.refl _ _⟩
theorem impl_numbers.ascii_at {s : ByteArray} (h : ∀ b ∈ s.data.toList, b.toNat < 128) : ∀ (j : Nat) b, s.data.toList[j]? = some b → b.toNat < 128 := fun j b hb => h b (List.mem_of_getElem? hb)
def impl_numbers.isSign (s : ByteArray) (x : Nat) : Bool := decide (x < 128) && s.data.toList.contains x.toUInt8
set_option maxHeartbeats 2000000 in
theorem impl_numbers.index (s : ByteArray) (x : Nat) (w : World) (hx : x ≤ 1114111) (h8 : s.size ≤ 2) (hascii : ∀ b ∈ s.data.toList, b.toNat < 128) :
  Calls Tryd.prog 49 #[.string s, .int .i32 (x : Int)] w fun e w' => (∃ i, e = .returned (.int .i64 i) ∧ decide (0 ≤ i) = impl_numbers.isSign s x) ∧ Below w.heap.size w w' := by
 by_cases h1 : x < 128
 ·refine (Any.strings_IndexRune_ascii { impl_numbers.lay with } s (x : Int) w (by omega) (by omega)).mono ?_
  rintro e w' ⟨rfl, rfl⟩
  refine ⟨⟨_, rfl, ?_⟩, Below.refl _ _⟩
  unfold impl_numbers.isSign
  rw [decide_eq_true h1, Bool.true_and, Int.toNat_natCast, ← Lib.contains_iff_indexByte]
 ·have hp : impl_numbers.isSign s x = false := by unfold impl_numbers.isSign; rw [decide_eq_false h1]; rfl
  by_cases h2 : x = 65533
  ·subst h2
   refine (impl_numbers.bad s w h8 (impl_numbers.ascii_at hascii)).mono ?_
   rintro e w' ⟨rfl, hb⟩
   exact ⟨⟨_, rfl, by rw [hp]; rfl⟩, hb⟩
  ·by_cases hv : ((decide (0 ≤ (x : Int)) && decide ((x : Int) < 55296)) || (decide (57343 < (x : Int)) && decide ((x : Int) ≤ 1114111))) = true
   ·refine (impl_numbers.none_ s (x : Int) w (by omega) (by omega) (by omega) hv h8 hascii).mono ?_
    rintro e w' ⟨rfl, hb⟩
    exact ⟨⟨_, rfl, by rw [hp]; rfl⟩, hb⟩
   ·refine (impl_numbers.inval s (x : Int) w (by omega) (by omega) (by omega) (Bool.eq_false_iff.2 hv)).mono ?_
    rintro e w' ⟨rfl, hb⟩
    exact ⟨⟨_, rfl, by rw [hp]; rfl⟩, hb⟩
set_option maxHeartbeats 2000000 in
theorem impl_numbers.contains (s : ByteArray) (x : Nat) (w : World) (hx : x ≤ 1114111) (h8 : s.size ≤ 2) (hascii : ∀ b ∈ s.data.toList, b.toNat < 128) :
  Calls Tryd.prog 32 #[.string s, .int .i32 (x : Int)] w fun e w' => e = .returned (.bool (impl_numbers.isSign s x)) ∧ Below w.heap.size w w' := by
 have HI := Aside0.mk (fun W => impl_numbers.index s x W hx h8 hascii)
 clear hascii
 go_enter Tryd.func32, Tryd.ntmps32
 go_wp2_with (go_at_call 49; refine (HI.out _).mono ?_; rintro e w1 ⟨⟨i, rfl, hi⟩, hb⟩; have HX := Aside0.mk hi; have HB := Aside0.mk hb; clear hi hb)
 go_ret
 exact ⟨by first | rfl | (rw [HX.out]; rfl), HB.out⟩
set_option maxHeartbeats 2000000 in
theorem impl_numbers.lam (s : ByteArray) (B x : Nat) (w : World) (hx : x ≤ 1114111) (h8 : s.size ≤ 2) (hascii : ∀ b ∈ s.data.toList, b.toNat < 128) (hc : w.cell? ⟨B, 0, none⟩ = some (.string s)) :
  Calls Tryd.prog 31 #[.int .i32 (x : Int), .pointer (some ⟨B, 0, none⟩)] w fun e w' => e = .returned (.bool (impl_numbers.isSign s x)) ∧ Below w.heap.size w w' := by
 have HI := Aside0.mk (fun W => impl_numbers.contains s x W hx h8 hascii)
 clear hascii
 go_enter Tryd.func31, Tryd.ntmps31
 go_wp2_with (go_at_call 32; refine (HI.out _).mono ?_; rintro e w1 ⟨rfl, hb⟩; have HB := Aside0.mk hb; clear hb)
 go_ret
 exact ⟨rfl, HB.out⟩
def impl_numbers.alay_ren : Go.Shelf.Ren := ⟨fun | 172 => 50 | 244 => 65 | 245 => 66 | 247 => 72 | 279 => 73 | 280 => 74 | 281 => 75 | 282 => 76 | 287 => 84 | 316 => 85 | 171 => 39 | 205 => 86 | 321 => 92 | 322 => 93 | 243 => 54 | 246 => 68 | 283 => 77 | 284 => 78 | 285 => 79 | 286 => 80 | 129 => 88 | 317 => 87 | 318 => 89 | 319 => 90 | 320 => 91 | 337 => 94 | 338 => 95 | n => n, fun | 9 => 9 | 3 => 3 | 75 => 76 | 76 => 77 | 4 => 4 | 5 => 5 | 167 => 97 | 37 => 83 | 0 => 0 | 85 => 98 | 2 => 2 | 168 => 100 | 53 => 104 | 175 => 112 | 46 => 91 | 210 => 116 | 127 => 96 | 145 => 126 | 143 => 124 | 21 => 21 | 171 => 103 | 173 => 107 | 212 => 119 | 51 => 120 | 20 => 20 | 213 => 121 | 232 => 128 | 233 => 129 | 80 => 87 | n => n, fun | 15 => 1 | 16 => 2 | 17 => 3 | 18 => 4 | 19 => 5 | n => n⟩
theorem impl_numbers.alay : Go.Proofs.LaysC.n172 Tryd.prog impl_numbers.alay_ren := {
 mixed := by kernel_rfl
 f129 := Tryd.func88.trans (congrArg some (by kernel_rfl))
 f171 := Tryd.func39.trans (congrArg some (by kernel_rfl))
 f172 := Tryd.func50.trans (congrArg some (by kernel_rfl))
 f205 := Tryd.func86.trans (congrArg some (by kernel_rfl))
 f243 := Tryd.func54.trans (congrArg some (by kernel_rfl))
 f244 := Tryd.func65.trans (congrArg some (by kernel_rfl))
 f245 := Tryd.func66.trans (congrArg some (by kernel_rfl))
 f246 := Tryd.func68.trans (congrArg some (by kernel_rfl))
 f247 := Tryd.func72.trans (congrArg some (by kernel_rfl))
 f279 := Tryd.func73.trans (congrArg some (by kernel_rfl))
 f280 := Tryd.func74.trans (congrArg some (by kernel_rfl))
 f281 := Tryd.func75.trans (congrArg some (by kernel_rfl))
 f282 := Tryd.func76.trans (congrArg some (by kernel_rfl))
 f283 := Tryd.func77.trans (congrArg some (by kernel_rfl))
 f284 := Tryd.func78.trans (congrArg some (by kernel_rfl))
 f285 := Tryd.func79.trans (congrArg some (by kernel_rfl))
 f286 := Tryd.func80.trans (congrArg some (by kernel_rfl))
 f287 := Tryd.func84.trans (congrArg some (by kernel_rfl))
 f316 := Tryd.func85.trans (congrArg some (by kernel_rfl))
 f317 := Tryd.func87.trans (congrArg some (by kernel_rfl))
 f318 := Tryd.func89.trans (congrArg some (by kernel_rfl))
 f319 := Tryd.func90.trans (congrArg some (by kernel_rfl))
 f320 := Tryd.func91.trans (congrArg some (by kernel_rfl))
 f321 := Tryd.func92.trans (congrArg some (by kernel_rfl))
 f322 := Tryd.func93.trans (congrArg some (by kernel_rfl))
 f337 := Tryd.func94.trans (congrArg some (by kernel_rfl))
 f338 := Tryd.func95.trans (congrArg some (by kernel_rfl))
 t0 := Tryd.underlying0
 a0 := Tryd.isAgg0
 z0 := Tryd.sizeOf0
 v0 := Tryd.zeroValue0
 t2 := Tryd.underlying2
 a2 := Tryd.isAgg2
 z2 := Tryd.sizeOf2
 v2 := Tryd.zeroValue2
 t3 := Tryd.underlying3
 a3 := Tryd.isAgg3
 z3 := Tryd.sizeOf3
 v3 := Tryd.zeroValue3
 t4 := Tryd.underlying4
 a4 := Tryd.isAgg4
 z4 := Tryd.sizeOf4
 v4 := Tryd.zeroValue4
 t5 := Tryd.underlying5
 a5 := Tryd.isAgg5
 z5 := Tryd.sizeOf5
 v5 := Tryd.zeroValue5
 t9 := Tryd.underlying9
 a9 := Tryd.isAgg9
 z9 := Tryd.sizeOf9
 v9 := Tryd.zeroValue9
 t20 := Tryd.underlying20
 a20 := Tryd.isAgg20
 z20 := Tryd.sizeOf20
 v20 := Tryd.zeroValue20
 t21 := Tryd.underlying21
 a21 := Tryd.isAgg21
 z21 := Tryd.sizeOf21
 v21 := Tryd.zeroValue21
 t37 := Tryd.underlying83
 a37 := Tryd.isAgg83
 z37 := Tryd.sizeOf83
 v37 := Tryd.zeroValue83
 t46 := Tryd.underlying91
 a46 := Tryd.isAgg91
 z46 := Tryd.sizeOf91
 v46 := Tryd.zeroValue91
 t51 := Tryd.underlying120
 a51 := Tryd.isAgg120
 z51 := Tryd.sizeOf120
 v51 := Tryd.zeroValue120
 t53 := Tryd.underlying104
 a53 := Tryd.isAgg104
 z53 := Tryd.sizeOf104
 v53 := Tryd.zeroValue104
 t75 := Tryd.underlying76
 a75 := Tryd.isAgg76
 z75 := Tryd.sizeOf76
 v75 := Tryd.zeroValue76
 t76 := Tryd.underlying77
 a76 := Tryd.isAgg77
 z76 := Tryd.sizeOf77
 v76 := Tryd.zeroValue77
 t85 := Tryd.underlying98
 a85 := Tryd.isAgg98
 z85 := Tryd.sizeOf98
 v85 := Tryd.zeroValue98
 t127 := Tryd.underlying96
 a127 := Tryd.isAgg96
 z127 := Tryd.sizeOf96
 v127 := Tryd.zeroValue96
 t143 := Tryd.underlying124
 a143 := Tryd.isAgg124
 z143 := Tryd.sizeOf124
 v143 := Tryd.zeroValue124
 t145 := Tryd.underlying126
 a145 := Tryd.isAgg126
 z145 := Tryd.sizeOf126
 v145 := Tryd.zeroValue126
 t167 := Tryd.underlying97
 a167 := Tryd.isAgg97
 z167 := Tryd.sizeOf97
 v167 := Tryd.zeroValue97
 t168 := Tryd.underlying100
 a168 := Tryd.isAgg100
 z168 := Tryd.sizeOf100
 v168 := Tryd.zeroValue100
 t171 := Tryd.underlying103
 a171 := Tryd.isAgg103
 z171 := Tryd.sizeOf103
 v171 := Tryd.zeroValue103
 t173 := Tryd.underlying107
 a173 := Tryd.isAgg107
 z173 := Tryd.sizeOf107
 v173 := Tryd.zeroValue107
 t175 := Tryd.underlying112
 a175 := Tryd.isAgg112
 z175 := Tryd.sizeOf112
 v175 := Tryd.zeroValue112
 t210 := Tryd.underlying116
 a210 := Tryd.isAgg116
 z210 := Tryd.sizeOf116
 v210 := Tryd.zeroValue116
 t212 := Tryd.underlying119
 a212 := Tryd.isAgg119
 z212 := Tryd.sizeOf119
 v212 := Tryd.zeroValue119
 t213 := Tryd.underlying121
 a213 := Tryd.isAgg121
 z213 := Tryd.sizeOf121
 t232 := Tryd.underlying128
 a232 := Tryd.isAgg128
 z232 := Tryd.sizeOf128
 v232 := Tryd.zeroValue128
 t233 := Tryd.underlying129
 a233 := Tryd.isAgg129
 z233 := Tryd.sizeOf129
 v233 := Tryd.zeroValue129
 g15 := by kernel_rfl
 g16 := by kernel_rfl
 g17 := by kernel_rfl
 g18 := by kernel_rfl
 g19 := by kernel_rfl
 t80 := Tryd.underlying87
 a80 := Tryd.isAgg87
 z80 := Tryd.sizeOf87
 v80 := Tryd.zeroValue87
 i0 := by kernel_rfl
 i2 := by kernel_rfl
 i3 := by kernel_rfl
 i4 := by kernel_rfl
 i5 := by kernel_rfl
 i9 := by kernel_rfl
 i20 := by kernel_rfl
 i21 := by kernel_rfl
 i37 := by kernel_rfl
 i46 := by kernel_rfl
 i51 := by kernel_rfl
 i53 := by kernel_rfl
 i75 := by kernel_rfl
 i76 := by kernel_rfl
 i80 := by kernel_rfl
 i85 := by kernel_rfl
 i127 := by kernel_rfl
 i143 := by kernel_rfl
 i145 := by kernel_rfl
 i167 := by kernel_rfl
 i168 := by kernel_rfl
 i171 := by kernel_rfl
 i173 := by kernel_rfl
 i175 := by kernel_rfl
 i210 := by kernel_rfl
 i212 := by kernel_rfl
 i232 := by kernel_rfl
 i233 := by kernel_rfl
 m15 := by kernel_rfl
 m16 := by kernel_rfl
 m17 := by kernel_rfl
 m18 := by kernel_rfl
 m19 := by kernel_rfl
 c0 := by kernel_rfl
 c2 := by kernel_rfl
 c3 := by kernel_rfl
 c4 := by kernel_rfl
 c5 := by kernel_rfl
 c9 := by kernel_rfl
 c20 := by kernel_rfl
 c21 := by kernel_rfl
 c37 := by kernel_rfl
 c46 := by kernel_rfl
 c51 := by kernel_rfl
 c53 := by kernel_rfl
 c75 := by kernel_rfl
 c76 := by kernel_rfl
 c80 := by kernel_rfl
 c85 := by kernel_rfl
 c127 := by kernel_rfl
 c143 := by kernel_rfl
 c145 := by kernel_rfl
 c167 := by kernel_rfl
 c168 := by kernel_rfl
 c171 := by kernel_rfl
 c173 := by kernel_rfl
 c175 := by kernel_rfl
 c210 := by kernel_rfl
 c212 := by kernel_rfl
 c213 := by kernel_rfl
 c232 := by kernel_rfl
 c233 := by kernel_rfl }
def impl_numbers.ilay_ren : Go.Shelf.Ren := ⟨fun | 171 => 39 | 243 => 54 | 246 => 68 | 283 => 77 | 284 => 78 | 285 => 79 | 286 => 80 | 129 => 88 | 317 => 87 | 318 => 89 | 319 => 90 | 320 => 91 | 337 => 94 | 338 => 95 | n => n, fun | 3 => 3 | 9 => 9 | 2 => 2 | 4 => 4 | 171 => 103 | 0 => 0 | 53 => 104 | 37 => 83 | 5 => 5 | 173 => 107 | 212 => 119 | 51 => 120 | 20 => 20 | 213 => 121 | 46 => 91 | 232 => 128 | 233 => 129 | n => n, fun | 17 => 3 | 18 => 4 | 19 => 5 | n => n⟩
theorem impl_numbers.ilay : Go.Proofs.LaysM.n171 Tryd.prog impl_numbers.ilay_ren := {
 mixed := by kernel_rfl
 f129 := Tryd.func88.trans (congrArg some (by kernel_rfl))
 f171 := Tryd.func39.trans (congrArg some (by kernel_rfl))
 f243 := Tryd.func54.trans (congrArg some (by kernel_rfl))
 f246 := Tryd.func68.trans (congrArg some (by kernel_rfl))
 f283 := Tryd.func77.trans (congrArg some (by kernel_rfl))
 f284 := Tryd.func78.trans (congrArg some (by kernel_rfl))
 f285 := Tryd.func79.trans (congrArg some (by kernel_rfl))
 f286 := Tryd.func80.trans (congrArg some (by kernel_rfl))
 f317 := Tryd.func87.trans (congrArg some (by kernel_rfl))
 f318 := Tryd.func89.trans (congrArg some (by kernel_rfl))
 f319 := Tryd.func90.trans (congrArg some (by kernel_rfl))
 f320 := Tryd.func91.trans (congrArg some (by kernel_rfl))
 f337 := Tryd.func94.trans (congrArg some (by kernel_rfl))
 f338 := Tryd.func95.trans (congrArg some (by kernel_rfl))
 t0 := Tryd.underlying0
 a0 := Tryd.isAgg0
 z0 := Tryd.sizeOf0
 v0 := Tryd.zeroValue0
 t2 := Tryd.underlying2
 a2 := Tryd.isAgg2
 z2 := Tryd.sizeOf2
 v2 := Tryd.zeroValue2
 t3 := Tryd.underlying3
 a3 := Tryd.isAgg3
 z3 := Tryd.sizeOf3
 v3 := Tryd.zeroValue3
 t4 := Tryd.underlying4
 a4 := Tryd.isAgg4
 z4 := Tryd.sizeOf4
 v4 := Tryd.zeroValue4
 t5 := Tryd.underlying5
 a5 := Tryd.isAgg5
 z5 := Tryd.sizeOf5
 v5 := Tryd.zeroValue5
 t9 := Tryd.underlying9
 a9 := Tryd.isAgg9
 z9 := Tryd.sizeOf9
 v9 := Tryd.zeroValue9
 t20 := Tryd.underlying20
 a20 := Tryd.isAgg20
 z20 := Tryd.sizeOf20
 v20 := Tryd.zeroValue20
 t37 := Tryd.underlying83
 a37 := Tryd.isAgg83
 z37 := Tryd.sizeOf83
 v37 := Tryd.zeroValue83
 t46 := Tryd.underlying91
 a46 := Tryd.isAgg91
 z46 := Tryd.sizeOf91
 v46 := Tryd.zeroValue91
 t51 := Tryd.underlying120
 a51 := Tryd.isAgg120
 z51 := Tryd.sizeOf120
 v51 := Tryd.zeroValue120
 t53 := Tryd.underlying104
 a53 := Tryd.isAgg104
 z53 := Tryd.sizeOf104
 v53 := Tryd.zeroValue104
 t171 := Tryd.underlying103
 a171 := Tryd.isAgg103
 z171 := Tryd.sizeOf103
 v171 := Tryd.zeroValue103
 t173 := Tryd.underlying107
 a173 := Tryd.isAgg107
 z173 := Tryd.sizeOf107
 v173 := Tryd.zeroValue107
 t212 := Tryd.underlying119
 a212 := Tryd.isAgg119
 z212 := Tryd.sizeOf119
 v212 := Tryd.zeroValue119
 t213 := Tryd.underlying121
 a213 := Tryd.isAgg121
 z213 := Tryd.sizeOf121
 t232 := Tryd.underlying128
 a232 := Tryd.isAgg128
 z232 := Tryd.sizeOf128
 v232 := Tryd.zeroValue128
 t233 := Tryd.underlying129
 a233 := Tryd.isAgg129
 z233 := Tryd.sizeOf129
 v233 := Tryd.zeroValue129
 g17 := by kernel_rfl
 g18 := by kernel_rfl
 g19 := by kernel_rfl
 i0 := by kernel_rfl
 i2 := by kernel_rfl
 i3 := by kernel_rfl
 i4 := by kernel_rfl
 i5 := by kernel_rfl
 i9 := by kernel_rfl
 i20 := by kernel_rfl
 i37 := by kernel_rfl
 i46 := by kernel_rfl
 i51 := by kernel_rfl
 i53 := by kernel_rfl
 i171 := by kernel_rfl
 i173 := by kernel_rfl
 i212 := by kernel_rfl
 i232 := by kernel_rfl
 i233 := by kernel_rfl
 m17 := by kernel_rfl
 m18 := by kernel_rfl
 m19 := by kernel_rfl }
def impl_numbers.itoa (n : Int) : ByteArray := ⟨(Lib.itoa n).toArray⟩
def impl_numbers.num (s : ByteArray) (most : Int) : Int × Bool :=
 match Lib.atoiAll s.data.toList with
 | .ok v => if impl_numbers.itoa v = s ∧ 0 ≤ v ∧ v ≤ most then (v, true) else (0, false)
 | _ => (0, false)
theorem impl_numbers.toList_inj {a b : ByteArray} (h : a.toList = b.toList) : a = b := by
 rw [Lib.toList_data, Lib.toList_data] at h
 obtain ⟨⟨x⟩⟩ := a
 obtain ⟨⟨y⟩⟩ := b
 simp only at h
 rw [h]
theorem impl_numbers.below_grow {w : World} (k : Nat) (os : Array Obj) : Below w.heap.size w (Sort.grow (w.drewN k) os) :=
 ⟨rfl, rfl, rfl, by simp [Sort.grow], fun j hj => Sort.heap_grow_old _ _ (by simpa using hj)⟩
set_option maxHeartbeats 4000000 in
theorem impl_numbers.within (x a b : Int) (w : World) : Calls Tryd.prog 35 #[.int .i64 x, .int .i64 a, .int .i64 b] w fun e w' => e = .returned (.bool (decide (a ≤ x ∧ x ≤ b))) ∧ w' = w := by
 go_enter Tryd.func35, Tryd.ntmps35
 by_cases h1 : a ≤ x
 ·go_wp2
  go_ret
  simp [h1]
 ·go_wp2
  go_ret
  simp
  omega
set_option maxHeartbeats 4000000 in
set_option maxRecDepth 100000 in
theorem impl_numbers.number (s : ByteArray) (most : Int) (w : World) (hs : s.size ≤ 281474976710656) (he : Env.Is w) :
  Calls Tryd.prog 33 #[.string s, .int .i64 most] w fun e w' => e = .returned (.tuple #[.int .i64 (impl_numbers.num s most).1, .bool (impl_numbers.num s most).2]) ∧ Below w.heap.size w w' := by
 have HE := Aside0.mk he
 obtain ⟨_, ⟨tp, p, hes⟩, ⟨tr, q, her⟩⟩ := he
 unfold impl_numbers.num
 cases h : Lib.atoiAll s.data.toList
 rotate_left
 ·have HC := Aside0.mk (Any.strconv_Atoi_syntax_var impl_numbers.alay s hs h tp p w hes)
  clear h hes her
  go_enter Tryd.func33, Tryd.ntmps33
  go_wp2_with (go_at_call 50; refine HC.out.mono ?_; rintro e w1 ⟨N, rfl, _, _, hb⟩; have HB := Aside0.mk hb; clear hb)
  go_ret2
  exact ⟨rfl, HB.out⟩
 ·have HC := Aside0.mk (Any.strconv_Atoi_range_var impl_numbers.alay s hs h tr q w her)
  clear h hes her
  go_enter Tryd.func33, Tryd.ntmps33
  go_wp2_with (go_at_call 50; refine HC.out.mono ?_; rintro e w1 ⟨N, rfl, _, _, hb⟩; have HB := Aside0.mk hb; clear hb)
  go_ret2
  exact ⟨rfl, HB.out⟩
 ·rename_i v
  obtain ⟨b0, b1⟩ := Lib.atoiAll_bounds h
  have HC := Aside0.mk (Any.strconv_Atoi_ok impl_numbers.alay s (by omega) v h w)
  have HI := Aside0.mk (fun W hW => Any.strconv_Itoa impl_numbers.ilay v b0 b1 W hW)
  clear h hes her b0 b1
  dsimp only
  by_cases c1 : impl_numbers.itoa v = s
  ·have c1b : ((impl_numbers.itoa v).toList == s.toList) = true := beq_iff_eq.2 (by rw [c1])
   by_cases c2 : 0 ≤ v ∧ v ≤ most
   ·rw [if_pos ⟨c1, c2⟩]
    have HW := Aside0.mk (fun W => impl_numbers.within v 0 most W)
    rw [decide_eq_true c2] at HW
    clear c1 c2
    go_enter Tryd.func33, Tryd.ntmps33
    go_wp2_with (first
     | (go_at_call 50; refine HC.out.mono ?_; rintro e w1 ⟨rfl, hb⟩; have HB := Aside0.mk (show Below w.heap.size w w1 by rcases hb with rfl | ⟨t, rfl⟩ <;> first | exact Below.refl _ _ | exact Lib.bytesWorld_below _ _ _); clear hb)
     | (go_at_call 39; refine (HI.out _ (HE.out.below HB.out).tab).mono ?_; rintro e w2 ⟨rfl, k, os, hw⟩; have HB2 := Aside0.mk (show Below w.heap.size w w2 from hw ▸ below_step HB.out (impl_numbers.below_grow k os)); clear hw; rw [show (⟨(Lib.itoa v).toArray⟩ : ByteArray) = impl_numbers.itoa v from rfl])
     | (go_at_call 35; refine (HW.out _).mono ?_; rintro e w3 ⟨rfl, hw⟩; have HB3 := Aside0.mk (show Below w.heap.size w w3 by rw [hw]; exact HB2.out); clear hw))
    go_ret2
    exact ⟨rfl, HB3.out⟩
   ·rw [if_neg (fun h => c2 h.2)]
    have HW := Aside0.mk (fun W => impl_numbers.within v 0 most W)
    rw [decide_eq_false c2] at HW
    clear c1 c2
    go_enter Tryd.func33, Tryd.ntmps33
    go_wp2_with (first
     | (go_at_call 50; refine HC.out.mono ?_; rintro e w1 ⟨rfl, hb⟩; have HB := Aside0.mk (show Below w.heap.size w w1 by rcases hb with rfl | ⟨t, rfl⟩ <;> first | exact Below.refl _ _ | exact Lib.bytesWorld_below _ _ _); clear hb)
     | (go_at_call 39; refine (HI.out _ (HE.out.below HB.out).tab).mono ?_; rintro e w2 ⟨rfl, k, os, hw⟩; have HB2 := Aside0.mk (show Below w.heap.size w w2 from hw ▸ below_step HB.out (impl_numbers.below_grow k os)); clear hw; rw [show (⟨(Lib.itoa v).toArray⟩ : ByteArray) = impl_numbers.itoa v from rfl])
     | (go_at_call 35; refine (HW.out _).mono ?_; rintro e w3 ⟨rfl, hw⟩; have HB3 := Aside0.mk (show Below w.heap.size w w3 by rw [hw]; exact HB2.out); clear hw))
    go_ret2
    exact ⟨rfl, HB3.out⟩
  ·rw [if_neg (fun h => c1 h.1)]
   have c1b : ((impl_numbers.itoa v).toList == s.toList) = false := beq_eq_false_iff_ne.2 (fun h => c1 (impl_numbers.toList_inj h))
   clear c1
   go_enter Tryd.func33, Tryd.ntmps33
   go_wp2_with (first
    | (go_at_call 50; refine HC.out.mono ?_; rintro e w1 ⟨rfl, hb⟩; have HB := Aside0.mk (show Below w.heap.size w w1 by rcases hb with rfl | ⟨t, rfl⟩ <;> first | exact Below.refl _ _ | exact Lib.bytesWorld_below _ _ _); clear hb)
    | (go_at_call 39; refine (HI.out _ (HE.out.below HB.out).tab).mono ?_; rintro e w2 ⟨rfl, k, os, hw⟩; have HB2 := Aside0.mk (show Below w.heap.size w w2 from hw ▸ below_step HB.out (impl_numbers.below_grow k os)); clear hw; rw [show (⟨(Lib.itoa v).toArray⟩ : ByteArray) = impl_numbers.itoa v from rfl]))
   go_ret2
   exact ⟨rfl, HB2.out⟩
def impl_numbers.flay_ren : Go.Shelf.Ren := ⟨fun | 229 => 30 | n => n, fun | 9 => 9 | 40 => 57 | 31 => 52 | 152 => 71 | 3 => 3 | 0 => 0 | 4 => 4 | 21 => 21 | 154 => 73 | n => n, fun | n => n⟩
theorem impl_numbers.flay : Go.Proofs.Lays.n229 Tryd.prog impl_numbers.flay_ren := {
 mixed := by kernel_rfl
 f229 := Tryd.func30.trans (congrArg some (by kernel_rfl))
 t0 := Tryd.underlying0
 a0 := Tryd.isAgg0
 z0 := Tryd.sizeOf0
 v0 := Tryd.zeroValue0
 t3 := Tryd.underlying3
 a3 := Tryd.isAgg3
 z3 := Tryd.sizeOf3
 v3 := Tryd.zeroValue3
 t4 := Tryd.underlying4
 a4 := Tryd.isAgg4
 z4 := Tryd.sizeOf4
 v4 := Tryd.zeroValue4
 t9 := Tryd.underlying9
 a9 := Tryd.isAgg9
 z9 := Tryd.sizeOf9
 v9 := Tryd.zeroValue9
 t21 := Tryd.underlying21
 a21 := Tryd.isAgg21
 z21 := Tryd.sizeOf21
 v21 := Tryd.zeroValue21
 t31 := Tryd.underlying52
 a31 := Tryd.isAgg52
 z31 := Tryd.sizeOf52
 v31 := Tryd.zeroValue52
 t40 := Tryd.underlying57
 a40 := Tryd.isAgg57
 z40 := Tryd.sizeOf57
 v40 := Tryd.zeroValue57
 t152 := Tryd.underlying71
 a152 := Tryd.isAgg71
 z152 := Tryd.sizeOf71
 v152 := Tryd.zeroValue71
 t154 := Tryd.underlying73
 a154 := Tryd.isAgg73
 z154 := Tryd.sizeOf73
 v154 := Tryd.zeroValue73 }
theorem impl_numbers.info3_ : (Tryd.prog.info? 3).map (fun i => (i.zero, i.size, i.bytes)) = some (some (.int .i64 0), 1, 8) := by kernel_rfl
def impl_numbers.good (most : Int) (l : List ByteArray) : Bool := l.all fun x => (impl_numbers.num x most).2
def impl_numbers.vals (most : Int) (l : List ByteArray) : List Int := l.map fun x => (impl_numbers.num x most).1
def impl_numbers.nums (s signs : ByteArray) (most : Int) : List Int × Bool :=
 if impl_numbers.good most (Lib.goFieldsP (impl_numbers.isSign signs) s) = true then (impl_numbers.vals most (Lib.goFieldsP (impl_numbers.isSign signs) s), true) else ([], false)
theorem impl_numbers.reps_string {P : ByteArray → List Value → Prop} (hP : ∀ x, P x [Value.string x]) : ∀ l : List ByteArray, Reps P 1 l (l.map Value.string) := by
 intro l
 refine ⟨by rw [List.length_map, Nat.mul_one], fun j p hj => ?_⟩
 have hlt := (List.getElem?_eq_some_iff.1 hj).1
 have hp := (List.getElem?_eq_some_iff.1 hj).2
 rw [Nat.mul_one, List.drop_eq_getElem_cons (by rw [List.length_map]; exact hlt), List.getElem_map, hp]
 exact hP p
theorem impl_numbers.span_le (p : Nat → Bool) (s : ByteArray) : ∀ x ∈ Lib.goFieldsP p s, x.size ≤ s.size := by
 intro x hx
 unfold Lib.goFieldsP at hx
 obtain ⟨⟨a, b⟩, _, rfl⟩ := List.mem_map.1 hx
 rw [ByteArray.size_extract]
 omega
theorem impl_numbers.spans_len (p : Nat → Bool) (s : ByteArray) : ∀ (f pos : Nat) (st : Option Nat) (acc : List (Nat × Nat)), pos ≤ s.size → (st = none → acc.length ≤ pos) → (∀ a, st = some a → acc.length + 1 ≤ pos) → (Lib.closeSpans s (Lib.spansFromP p s f pos st acc)).length ≤ s.size
 | 0, pos, st, acc, hp, h1, h2 => by
  cases st with
  | none => have := h1 rfl; simp [Lib.spansFromP, Lib.closeSpans]; omega
  | some a => have := h2 a rfl; simp [Lib.spansFromP, Lib.closeSpans]; omega
 | f + 1, pos, st, acc, hp, h1, h2 => by
  by_cases hlt : pos < s.size
  ·have hw := Lib.width_pos s pos
   have hwn : pos + (Utf8.decode s pos).2 ≤ s.size := by
    have := Lib.decodeN_le_n' (s.size - pos) (s.get! pos).toNat (s.get! (pos + 1)).toNat (s.get! (pos + 2)).toNat (s.get! (pos + 3)).toNat (by omega)
    rw [← Lib.decode_at] at this
    omega
   simp only [Lib.spansFromP, if_pos hlt]
   cases hsp : p (Utf8.decode s pos).1 with
   | true =>
    simp only [if_true]
    cases st with
    | none => exact impl_numbers.spans_len p s f _ none acc hwn (fun _ => by have := h1 rfl; omega) (fun a h => by cases h)
    | some a => exact impl_numbers.spans_len p s f _ none _ hwn (fun _ => by rw [List.length_append, List.length_singleton]; have := h2 a rfl; omega) (fun a h => by cases h)
   | false =>
    simp only [Bool.false_eq_true, if_false]
    cases st with
    | none => exact impl_numbers.spans_len p s f _ (some pos) acc hwn (fun h => by cases h) (fun _ _ => by have := h1 rfl; omega)
    | some a => exact impl_numbers.spans_len p s f _ (some a) acc hwn (fun h => by cases h) (fun _ _ => by have := h2 a rfl; omega)
  ·rw [Lib.spansFromP_end p s _ _ _ _ hlt]
   cases st with
   | none => have := h1 rfl; simp [Lib.closeSpans]; omega
   | some a => have := h2 a rfl; simp [Lib.closeSpans]; omega
theorem impl_numbers.words_le (p : Nat → Bool) (s : ByteArray) : (Lib.goFieldsP p s).length ≤ s.size := by
 unfold Lib.goFieldsP Lib.spansOfP
 rw [List.length_map]
 exact impl_numbers.spans_len p s s.size 0 none [] (Nat.zero_le _) (fun _ => Nat.le_refl _) (fun _ h => by cases h)
theorem impl_numbers.words_row {v13 : Value} {w4 w5 : World} {ws : List ByteArray} {A b : Nat} {l : List Int} (HO : Kd.R (Kd.int .i64) 3 w4 b (fun _ => True) v13 l) (hA : w4.heap.size ≤ A)
  (how : w5.ownsRow w4.heap.size 9 1 (.slice (some ⟨A, 0, none⟩) ws.length ws.length) ws.length (ws.map Value.string)) : Kd.R Kd.string 9 w5 w4.heap.size (fun k => some k ≠ v13.ownBlock) (.slice (some ⟨A, 0, none⟩) ws.length ws.length) ws := by
 refine ⟨fun k hk he => ?_, ws.map Value.string, how, impl_numbers.reps_string (P := fun x cs => cs = [Value.string x]) (fun x => rfl) ws⟩
 have h1 := Kd.R_lt HO k he.symm
 have h2 : A = k := by simpa [Value.ownBlock] using hk
 omega
set_option maxHeartbeats 8000000 in
set_option maxRecDepth 100000 in
theorem impl_numbers.numbers (s signs : ByteArray) (most : Int) (w : World) (hs : s.size ≤ 4294967296) (h8 : signs.size ≤ 2) (hascii : ∀ b ∈ signs.data.toList, b.toNat < 128) (he : Env.Is w) :
  Calls Tryd.prog 16 #[.string s, .string signs, .int .i64 most] w fun e w' => ∃ v0_ : Value, e = .returned (.tuple #[v0_, .bool (impl_numbers.nums s signs most).2]) ∧ Kd.R (Kd.int .i64) 3 w' w.heap.size (fun _ => True) v0_ (impl_numbers.nums s signs most).1 ∧ Below w.heap.size w w' := by
 have HE := Aside0.mk he
 have HB := Aside0.mk (Below.refl w.heap.size w)
 have HSL := Aside0.mk hs
 have HA := Aside0.mk hascii
 have eg := enters_of Tryd.func31 (by kernel_rfl) rfl
 have EG := Aside0.mk eg
 have HW1 := Aside0.mk (impl_numbers.words_le (impl_numbers.isSign signs) s)
 have HW2 := Aside0.mk (impl_numbers.span_le (impl_numbers.isSign signs) s)
 have HFF := Aside0.mk (fun (g : Nat) W (hp : PredGrows Tryd.prog 31 #[.pointer (some ⟨g, 0, none⟩)] (impl_numbers.isSign signs) W) => Any.strings_FieldsFunc_grows impl_numbers.flay 31 #[.pointer (some ⟨g, 0, none⟩)] eg (impl_numbers.isSign signs) s W hs hp (by kernel_rfl) (by kernel_rfl))
 have H8 := Aside0.mk h8
 unfold impl_numbers.nums
 generalize Lib.goFieldsP (impl_numbers.isSign signs) s = ws at HFF HW1 HW2 ⊢
 generalize hR : (if impl_numbers.good most ws = true then (impl_numbers.vals most ws, true) else ([], false)) = R
 have HR := Aside0.mk hR
 obtain ⟨R1, R2⟩ := R
 dsimp only
 clear he hascii hs eg h8 hR
 go_enter Tryd.func16, Tryd.ntmps16
 go_wp2_with (first
  | ((with_reducible refine gate_dst (N := 4) rfl ?_); refine box_event ?hg (N := 4) ?hd (cs := #[.string signs]) (t := 9) ?hr ?_; (case hd => rfl); (case hg => rfl); (case hr => first | (go_simp; done) | (go_simp; rfl)); intro gb hg w3 hbox hb; have HB3 := Aside0.mk hb; have BK := Aside0.mk hbox; have GE := Aside0.mk (by rw [hg]; exact Nat.le_refl _ : w.heap.size ≤ gb); clear hb hbox hg)
  | ((with_reducible refine gate_dst (N := 13) rfl ?_); refine Kd.R_lit (Kd.int .i64) _ 3 ?hg (N := 13) ?hd (xs := ([] : List Int)) (inner := []) (ok := fun _ => True) (okp := fun _ => True) ?hr ?hp (fun _ hk => hk) trivial (Below.refl _ _) (Nat.le_refl _) (by simp) ?_; (case hd => rfl); (case hg => rfl); (case hr => first | (go_simp; done) | (go_simp; rfl)); (case hp => exact (Reps.none _ _)); intro v13 w4 ho5 hb hg_ hnew_; clear hg_ hnew_; have HO := Aside0.mk (Kd.R_lower ho5 HB3.out.size); have BK4 := Aside0.mk (blk_below (g := gb) (o := .cells #[.string signs] 9 (0, 0)) BK.out hb); have HB4 := Aside0.mk (below_step HB3.out hb); clear ho5 hb)
  | (go_at_call 30; refine (HFF.out gb w4 (fun W x hx hb => impl_numbers.lam signs gb x W hx H8.out HA.out (Lam.capc BK4.out hb))).mono ?_; rintro e w5 ⟨A, rfl, hA, how, hb⟩; have HO5 := Aside0.mk (Kd.R_below HO.out hb); have HWS := Aside0.mk (impl_numbers.words_row HO.out hA how); have HB5 := Aside0.mk (below_step HB4.out hb); have HS5 := Aside0.mk HB4.out.size; clear how hb hA))
 generalize (⟨A, 0, none⟩ : Addr) = ad at HWS ⊢
 go_loopg [8, 18] ws.length (fun gk v8 v18 wx => ∃ i : Nat, i + gk = ws.length ∧ v18 = .int .i64 (i : Int) ∧ Aside0 (impl_numbers.good most (ws.take i) = true) ∧ Aside0 (Kd.R (Kd.int .i64) 3 wx w.heap.size (fun _ => True) v8 (impl_numbers.vals most (ws.take i))) ∧ Aside0 (Kd.R Kd.string 9 wx w.heap.size (fun k => some k ≠ (v8 : Value).ownBlock) (.slice (some ad) ws.length ws.length) ws) ∧ Aside0 (Below w.heap.size w wx))
 case atStart => exact ⟨0, by omega, rfl, ⟨rfl⟩, ⟨HO5.out⟩, ⟨Kd.R_lower HWS.out HS5.out⟩, HB5⟩
 case round =>
  obtain ⟨i, hig, rfl, HG, HO8, HW8, HBX⟩ := hrel
  have HLW := Aside0.mk (show ws.length ≤ 4294967296 from Nat.le_trans HW1.out HSL.out)
  cases gk with
  | zero =>
   obtain rfl : i = ws.length := by omega
   have hcd : decide ((ws.length : Int) < (ws.length : Int)) = false := decide_eq_false (by omega)
   rw [List.take_length] at HG HO8
   go_wp2
   go_ret2
   have e1 := HR.out
   rw [if_pos HG.out] at e1
   injection e1 with e1 e2
   subst e1; subst e2
   exact ⟨_, rfl, HO8.out, HBX.out⟩
  | succ g =>
   have hlt : i < ws.length := by omega
   have hcd : decide ((i : Int) < (ws.length : Int)) = true := decide_eq_true (by omega)
   obtain ⟨ad1, ead, hx⟩ := Kd.at_string (Kd.R_reads' HW8.out).2.2 (i : Int) (by omega) (by omega)
   cases ead
   obtain ⟨x, hxe⟩ : ∃ x, rdOf ByteArray.empty ws (i : Int) = x := ⟨_, rfl⟩
   have hxw : ws[i] = x := by rw [← hxe]; exact (PK.rdOf_at hlt _).symm
   have hxm : x.size ≤ 281474976710656 := Nat.le_trans (HW2.out x (by rw [← hxw]; exact List.getElem_mem hlt)) (Nat.le_trans HSL.out (by decide))
   rw [hxe, Int.toNat_natCast] at hx
   have HN := Aside0.mk (fun W hW => impl_numbers.number x most W hxm hW)
   have htk : ws.take (i + 1) = ws.take i ++ [x] := by rw [List.take_add_one, List.getElem?_eq_getElem hlt, hxw]; rfl
   have HTG := Aside0.mk (show impl_numbers.good most (ws.take (i + 1)) = (impl_numbers.good most (ws.take i) && (impl_numbers.num x most).2) by rw [htk]; unfold impl_numbers.good; rw [List.all_append]; simp)
   have HTV := Aside0.mk (show impl_numbers.vals most (ws.take (i + 1)) = impl_numbers.vals most (ws.take i) ++ [(impl_numbers.num x most).1] by rw [htk]; unfold impl_numbers.vals; rw [List.map_append]; rfl)
   have HVL := Aside0.mk (show (impl_numbers.vals most (ws.take i)).length ≤ 4294967296 by unfold impl_numbers.vals; rw [List.length_map, List.length_take]; have := HLW.out; omega)
   have HNG := Aside0.mk (show (impl_numbers.num x most).2 = false → ¬ impl_numbers.good most ws = true by
    intro h1 h2
    have := List.all_eq_true.1 h2 x (by rw [← hxw]; exact List.getElem_mem hlt)
    rw [h1] at this; cases this)
   clear hxe hxw hxm htk
   generalize hq : impl_numbers.num x most = q at HN HTG HTV HNG
   obtain ⟨n, b⟩ := q
   cases b with
   | false =>
    go_wp2_with (first
     | (go_at_call 33; refine (HN.out _ (HE.out.below HBX.out)).mono ?_; rintro e w6 ⟨rfl, hb⟩; have HB6 := Aside0.mk (below_step HBX.out hb); clear hb))
    go_ret2
    have e1 := HR.out
    rw [if_neg (HNG.out (by simp))] at e1
    injection e1 with e1 e2
    subst e1; subst e2
    exact ⟨_, rfl, Kd.R_nil _ _ _ _ _, HB6.out⟩
   | true =>
    generalize hvv : impl_numbers.vals most (ws.take i) = out at HO8 HTV HVL
    go_wp2_with (first
     | (go_at_call 33; refine (HN.out _ (HE.out.below HBX.out)).mono ?_; rintro e w6 ⟨rfl, hb⟩; have HB6 := Aside0.mk (below_step HBX.out hb); have HO6 := Aside0.mk (Kd.R_below HO8.out hb); have HW6 := Aside0.mk (Kd.R_below HW8.out hb); clear hb)
     | ((with_reducible refine gate_builtin (b := .append) (xs := #[.tmp 30, .tmp 32]) rfl ?_); at_builtin; refine Kd.R_append (Kd.int .i64) (w0 := w) w.heap.size rfl (.tmp 30) (.tmp 32) 35 3 (.int .i64 0) 8 rfl Tryd.underlying35 impl_numbers.info3_ rfl (by decide) (by omega) u8 out n [.int .i64 n] (fun _ => True) (fun _ => False) rfl rfl ?aP (fun _ hk => hk.elim) ?aF ?aO ?aB ?aS ?aL ?_; (case aP => exact rfl); (case aB => exact HB6.out); (case aF => exact (fun _ _ => trivial)); (case aO => exact HO6.out); (case aS => exact (below_size HB6.out)); (case aL => have := HVL.out; omega); intro v7 w7 ho hb hg hat; have HB7 := Aside0.mk hb; have HW7 := Aside0.mk (Kd.R_after (ok := (fun _ => True)) (Kd.R_mono (Lam.rq HW6.out) (fun _ hk => ⟨trivial, hk⟩)) hg hat); have HO7 := Aside0.mk ho; clear ho hb hg hat))
    go_roundg g
    case measure => omega
    case rel => exact ⟨i + 1, by omega, by rw [PK.w1 hlt (by have := HLW.out; omega)], ⟨by rw [HTG.out, HG.out]; rfl⟩, ⟨by rw [HTV.out]; exact HO7.out⟩, ⟨Kd.R_mono HW7.out (fun _ hk => hk.2)⟩, HB7⟩
def impl_numbers.okSigns (s : ByteArray) : Bool := decide (s.size ≤ 2) && s.data.toList.all fun b => decide (b.toNat < 128)
def impl_numbers.f (a0 : ByteArray) (a1 : ByteArray) (a2 : Int) : Option (List Int × Bool) := if a0.size ≤ 4294967296 ∧ impl_numbers.okSigns a1 = true then some (impl_numbers.nums a0 a1 a2) else none
theorem impl_numbers.calls (a0 : ByteArray) (a1 : ByteArray) (a2 : Int) (r1 : List Int) (r2 : Bool) (w : World) (henv : Env.Is w) (h : impl_numbers.f a0 a1 a2 = some (r1, r2)) :
  Calls Tryd.prog 16 #[.string a0, .string a1, .int .i64 a2] w fun e w' => ∃ v0_ : Value, e = .returned (.tuple #[v0_, .bool r2]) ∧ Kd.R (Kd.int .i64) 3 w' w.heap.size (fun _ => True) v0_ r1 ∧ Below w.heap.size w w' := by
 unfold impl_numbers.f at h
 by_cases c : a0.size ≤ 4294967296 ∧ impl_numbers.okSigns a1 = true
 ·rw [if_pos c] at h
  have h2 := c.2
  unfold impl_numbers.okSigns at h2
  rw [Bool.and_eq_true, decide_eq_true_eq, List.all_eq_true] at h2
  have e := Option.some.inj h
  have := impl_numbers.numbers a0 a1 a2 w c.1 h2.1 (fun b hb => of_decide_eq_true (h2.2 b hb)) henv
  rw [e] at this
  exact this
 ·rw [if_neg c] at h; cases h

/-! ### impl_Clue_60: function 60 -/
set_option maxHeartbeats 4000000 in
set_option maxRecDepth 100000 in
theorem impl_Clue_60.calls (A0 : Option Addr) (c0 : Nat) (l0 : List (S47)) (g : Nat) (lb : Array Value) (p : S47 → Bool) (w0 w : World) (eg : ∀ args w, (callFunc g args).run Tryd.prog w = .ok (.enter g args) w) (hr0 : Kd.C k47 w0 A0 l0.length l0) (hw : Below w0.heap.size w0 w)
  (hp : ∀ (W : World) (x : S47), x ∈ l0 → Below w0.heap.size w0 W → Calls Tryd.prog g (#[.agg #[.int .i64 ((x).f0), .int .i64 ((x).f1), .int .i64 ((x).f2)]] ++ lb) W fun e w' => e = .returned (.bool (p x)) ∧ Below w0.heap.size w0 w') :
  Calls Tryd.prog 60 #[.slice A0 l0.length c0, .func (.func g) #[] lb] w fun e w' => e = .returned (.int .i64 (Lam.idxP p l0)) ∧ Below w0.heap.size w0 w' := by
 have hlen : (l0.length : Int) ≤ 9223372036854775807 := by have := hr0.2.1; omega
 have HR0 := Aside0.mk hr0
 have HW := Aside0.mk hw
 have HP := Aside0.mk hp
 clear hr0 hw hp
 go_enter Tryd.func60, Tryd.ntmps60
 go_wp2
 go_loopg [5, 8] l0.length (fun gg _ s8 wr => ∃ kk : Nat, kk ≤ l0.length ∧ l0.length - kk ≤ gg ∧ s8 = .int .i64 kk ∧ Aside0 (Below w0.heap.size w0 wr) ∧ Aside0 (∀ j, j < kk → p (l0.getD j z47) = false))
 case atStart => exact ⟨0, Nat.zero_le _, by omega, rfl, HW, ⟨fun j hj => absurd hj (Nat.not_lt_zero _)⟩⟩
 case round =>
  obtain ⟨kk, hkk, hg, rfl, BW, HA⟩ := hrel
  by_cases hlt : kk < l0.length
  ·have hltz : (kk : Int) < (l0.length : Int) := by omega
   obtain ⟨ad, cs_, e_, _, hK_, hc_⟩ := Kd.C_get HR0.out z47 (kk : Int) (by omega) hltz
   have hmem := Lam.getD_mem hlt z47
   have hcall := HP.out wr (l0.getD kk z47) hmem BW.out
   have hK2 : (k47).K w0 (l0.getD kk z47) cs_ := hK_
   have HY := Aside0.mk (rfl : l0.getD kk z47 = l0.getD kk z47)
   generalize hy : l0.getD kk z47 = y at hcall hK2 HY
   have HYY := Aside0.mk hy
   clear hy HY hmem hK_
   obtain rfl := k47_open hK2
   have hx0 := (BW.out.cell (World.block_lt_of_cell? w0 _ (hc_ 0 _ rfl))).trans (hc_ 0 _ rfl)
   rw [show ((kk : Int).toNat * (k47).sz + 0) = kk * 3 + 0 from rfl] at hx0
   rw [Nat.add_zero] at hx0
   have hx1 := (BW.out.cell (World.block_lt_of_cell? w0 _ (hc_ 1 _ rfl))).trans (hc_ 1 _ rfl)
   rw [show ((kk : Int).toNat * (k47).sz + 1) = kk * 3 + 1 from rfl] at hx1
   rw [add_field _ _ 1 (by omega)] at hx1
   have hx2 := (BW.out.cell (World.block_lt_of_cell? w0 _ (hc_ 2 _ rfl))).trans (hc_ 2 _ rfl)
   rw [show ((kk : Int).toNat * (k47).sz + 2) = kk * 3 + 2 from rfl] at hx2
   rw [add_field _ _ 2 (by omega)] at hx2
   clear hc_
   subst e_
   cases hq : p y with
   | true =>
    rw [hq] at hcall
    go_wp2_with (go_at_fn g; refine hcall.mono ?_; rintro e w' ⟨rfl, hb'⟩)
    go_ret
    refine ⟨?_, hb'⟩
    rw [Lam.idxP_hit z47 hlt HA.out (by rw [HYY.out]; exact hq)]; rfl
   | false =>
    rw [hq] at hcall
    go_wp2_with (go_at_fn g; refine hcall.mono ?_; rintro e w' ⟨rfl, hb'⟩)
    go_roundg (l0.length - (kk + 1))
    case measure => omega
    case rel =>
     refine ⟨kk + 1, by omega, by omega, by go_num, ⟨hb'⟩, ⟨fun j hj => ?_⟩⟩
     by_cases e : j = kk
     ·subst e
      rw [HYY.out]; exact hq
     ·exact HA.out j (by omega)
  ·have hltz : ¬ (kk : Int) < (l0.length : Int) := by omega
   obtain rfl : kk = l0.length := by omega
   go_wp2
   go_ret
   refine ⟨?_, BW.out⟩
   rw [Lam.idxP_miss z47 HA.out]; rfl
set_option maxHeartbeats 4000000 in
set_option maxRecDepth 100000 in
theorem impl_Clue_60.callsI (A0 : Option Addr) (c0 : Nat) (l0 : List (S47)) (g : Nat) (lb : Array Value) (p : S47 → Bool) (I : World → Prop) (w : World) (eg : ∀ args w, (callFunc g args).run Tryd.prog w = .ok (.enter g args) w) (hlen : (l0.length : Int) ≤ 9223372036854775807) (hC : ∀ W, I W → Kd.C k47 W A0 l0.length l0) (hI : I w)
  (hp : ∀ (W : World) (x : S47), x ∈ l0 → I W → Calls Tryd.prog g (#[.agg #[.int .i64 ((x).f0), .int .i64 ((x).f1), .int .i64 ((x).f2)]] ++ lb) W fun e w' => e = .returned (.bool (p x)) ∧ I w') :
  Calls Tryd.prog 60 #[.slice A0 l0.length c0, .func (.func g) #[] lb] w fun e w' => e = .returned (.int .i64 (Lam.idxP p l0)) ∧ I w' := by
 have HI := Aside0.mk hI
 have HC := Aside0.mk hC
 have HP := Aside0.mk hp
 clear hC hI hp
 go_enter Tryd.func60, Tryd.ntmps60
 go_wp2
 go_loopg [5, 8] l0.length (fun gg _ s8 wr => ∃ kk : Nat, kk ≤ l0.length ∧ l0.length - kk ≤ gg ∧ s8 = .int .i64 kk ∧ Aside0 (I wr) ∧ Aside0 (∀ j, j < kk → p (l0.getD j z47) = false))
 case atStart => exact ⟨0, Nat.zero_le _, by omega, rfl, HI, ⟨fun j hj => absurd hj (Nat.not_lt_zero _)⟩⟩
 case round =>
  clear HI
  obtain ⟨kk, hkk, hg, rfl, HI, HA⟩ := hrel
  by_cases hlt : kk < l0.length
  ·have hltz : (kk : Int) < (l0.length : Int) := by omega
   obtain ⟨ad, cs_, e_, _, hK_, hc_⟩ := Kd.C_get (HC.out wr HI.out) z47 (kk : Int) (by omega) hltz
   have hmem := Lam.getD_mem hlt z47
   have hcall := HP.out wr (l0.getD kk z47) hmem HI.out
   have hK2 : (k47).K wr (l0.getD kk z47) cs_ := hK_
   have HY := Aside0.mk (rfl : l0.getD kk z47 = l0.getD kk z47)
   generalize hy : l0.getD kk z47 = y at hcall hK2 HY
   have HYY := Aside0.mk hy
   clear hy HY hmem hK_
   obtain rfl := k47_open hK2
   have hx0 := hc_ 0 _ rfl
   rw [show ((kk : Int).toNat * (k47).sz + 0) = kk * 3 + 0 from rfl] at hx0
   rw [Nat.add_zero] at hx0
   have hx1 := hc_ 1 _ rfl
   rw [show ((kk : Int).toNat * (k47).sz + 1) = kk * 3 + 1 from rfl] at hx1
   rw [add_field _ _ 1 (by omega)] at hx1
   have hx2 := hc_ 2 _ rfl
   rw [show ((kk : Int).toNat * (k47).sz + 2) = kk * 3 + 2 from rfl] at hx2
   rw [add_field _ _ 2 (by omega)] at hx2
   clear hc_
   subst e_
   cases hq : p y with
   | true =>
    rw [hq] at hcall
    go_wp2_with (go_at_fn g; refine hcall.mono ?_; rintro e w' ⟨rfl, hb'⟩)
    go_ret
    refine ⟨?_, hb'⟩
    rw [Lam.idxP_hit z47 hlt HA.out (by rw [HYY.out]; exact hq)]; rfl
   | false =>
    rw [hq] at hcall
    go_wp2_with (go_at_fn g; refine hcall.mono ?_; rintro e w' ⟨rfl, hb'⟩)
    go_roundg (l0.length - (kk + 1))
    case measure => omega
    case rel =>
     refine ⟨kk + 1, by omega, by omega, by go_num, ⟨hb'⟩, ⟨fun j hj => ?_⟩⟩
     by_cases e : j = kk
     ·subst e
      rw [HYY.out]; exact hq
     ·exact HA.out j (by omega)
  ·have hltz : ¬ (kk : Int) < (l0.length : Int) := by omega
   obtain rfl : kk = l0.length := by omega
   go_wp2
   go_ret
   refine ⟨?_, HI.out⟩
   rw [Lam.idxP_miss z47 HA.out]; rfl

/-! ### impl_Clue_43: function 43 -/
set_option maxHeartbeats 4000000 in
set_option maxRecDepth 100000 in
theorem impl_Clue_43.calls (A0 : Option Addr) (c0 : Nat) (l0 : List (S47)) (g : Nat) (lb : Array Value) (p : S47 → Bool) (w0 w : World) (eg : ∀ args w, (callFunc g args).run Tryd.prog w = .ok (.enter g args) w) (hr0 : Kd.C k47 w0 A0 l0.length l0) (hw : Below w0.heap.size w0 w)
  (hp : ∀ (W : World) (x : S47), x ∈ l0 → Below w0.heap.size w0 W → Calls Tryd.prog g (#[.agg #[.int .i64 ((x).f0), .int .i64 ((x).f1), .int .i64 ((x).f2)]] ++ lb) W fun e w' => e = .returned (.bool (p x)) ∧ Below w0.heap.size w0 w') :
  Calls Tryd.prog 43 #[.slice A0 l0.length c0, .func (.func g) #[] lb] w fun e w' => e = .returned (.bool (l0.any p)) ∧ Below w0.heap.size w0 w' := by
 rw [← Lam.idxP_any p l0]
 have hcall := impl_Clue_60.calls A0 c0 l0 g lb p w0 w eg hr0 hw hp
 clear hr0 hw hp eg
 generalize Lam.idxP p l0 = q at hcall
 go_enter Tryd.func43, Tryd.ntmps43
 go_wp2_with (go_at_call 60; refine hcall.mono ?_; rintro e w' ⟨rfl, hb'⟩)
 go_ret
 exact ⟨rfl, hb'⟩
set_option maxHeartbeats 4000000 in
set_option maxRecDepth 100000 in
theorem impl_Clue_43.callsI (A0 : Option Addr) (c0 : Nat) (l0 : List (S47)) (g : Nat) (lb : Array Value) (p : S47 → Bool) (I : World → Prop) (w : World) (eg : ∀ args w, (callFunc g args).run Tryd.prog w = .ok (.enter g args) w) (hlen : (l0.length : Int) ≤ 9223372036854775807) (hC : ∀ W, I W → Kd.C k47 W A0 l0.length l0) (hI : I w)
  (hp : ∀ (W : World) (x : S47), x ∈ l0 → I W → Calls Tryd.prog g (#[.agg #[.int .i64 ((x).f0), .int .i64 ((x).f1), .int .i64 ((x).f2)]] ++ lb) W fun e w' => e = .returned (.bool (p x)) ∧ I w') :
  Calls Tryd.prog 43 #[.slice A0 l0.length c0, .func (.func g) #[] lb] w fun e w' => e = .returned (.bool (l0.any p)) ∧ I w' := by
 rw [← Lam.idxP_any p l0]
 have hcall := impl_Clue_60.callsI A0 c0 l0 g lb p I w eg hlen hC hI hp
 clear hC hI hp eg
 generalize Lam.idxP p l0 = q at hcall
 go_enter Tryd.func43, Tryd.ntmps43
 go_wp2_with (go_at_call 60; refine hcall.mono ?_; rintro e w' ⟨rfl, hb'⟩)
 go_ret
 exact ⟨rfl, hb'⟩

/-! ### impl_within: function 35 -/
def impl_within.f (a0 : Int) (a1 : Int) (a2 : Int) : Option (Bool) := if a1 ≤ a0 then (some (decide (a0 ≤ a2))) else (some false)
set_option maxHeartbeats 8000000 in
set_option maxRecDepth 100000 in
theorem impl_within.calls (a0 : Int) (a1 : Int) (a2 : Int) (r : Bool) (w : World) (h : impl_within.f a0 a1 a2 = some r) :
  Calls Tryd.prog 35 #[.int .i64 a0, .int .i64 a1, .int .i64 a2] w fun e w' => e = .returned (.bool r) ∧ Drawn0 w w' := by
 have H : (if a1 ≤ a0 then (some (decide (a0 ≤ a2))) else (some false)) = some r := h
 clear h
 by_cases c4 : a1 ≤ a0
 ·rw [if_pos c4] at H
  have c4b0 : decide (a1 ≤ a0) = true := decide_eq_true c4
  clear c4
  obtain rfl := Option.some.inj H
  go_enter Tryd.func35, Tryd.ntmps35
  go_wp2
  go_ret
  exact ⟨by first | rfl | (simp; done) | (simp [*]; done), by repeat (first | exact Drawn0.refl _ | apply Drawn0.step)⟩
 ·rw [if_neg c4] at H
  have c4b0 : decide (a1 ≤ a0) = false := decide_eq_false c4
  clear c4
  obtain rfl := Option.some.inj H
  go_enter Tryd.func35, Tryd.ntmps35
  go_wp2
  go_ret
  exact ⟨by first | rfl | (simp; done) | (simp [*]; done), by repeat (first | exact Drawn0.refl _ | apply Drawn0.step)⟩

/-! ### impl_IsClue: function 45 -/
def impl_IsClue.f (a0_0 : Int) (a0_1 : Int) (a0_2 : Int) : Option (Bool) := (impl_within.f a0_0 0 5).bind fun t159 => (if t159 = true then (if a0_0 = 1 then ((impl_within.f a0_1 0 3).bind fun t160 => (if t160 = true then ((impl_within.f a0_2 0 20).bind fun t161 => (some t161)) else (some false))) else (if a0_0 = 2 then ((impl_within.f a0_1 0 0).bind fun t162 => (if t162 = true then ((impl_within.f a0_2 0 1).bind fun t163 => (some t163)) else (some false))) else (if a0_0 = 4 then ((impl_within.f a0_1 0 4).bind fun t164 => (if t164 = true then ((impl_within.f a0_2 0 20).bind fun t165 => (some t165)) else (some false))) else ((impl_within.f a0_1 0 0).bind fun t166 => (if t166 = true then ((impl_within.f a0_2 0 20).bind fun t167 => (some t167)) else (some false)))))) else (some false))
set_option maxHeartbeats 8000000 in
set_option maxRecDepth 100000 in
theorem impl_IsClue.calls (a0_0 : Int) (a0_1 : Int) (a0_2 : Int) (r : Bool) (w : World) (h : impl_IsClue.f a0_0 a0_1 a0_2 = some r) :
  Calls Tryd.prog 45 #[.agg #[.int .i64 a0_0, .int .i64 a0_1, .int .i64 a0_2]] w fun e w' => e = .returned (.bool r) ∧ Below w.heap.size w w' := by
 have hu47 := Tryd.underlying47
 have HB := Aside0.mk (Below.refl w.heap.size w)
 have H : ((impl_within.f a0_0 0 5).bind fun t159 => (if t159 = true then (if a0_0 = 1 then ((impl_within.f a0_1 0 3).bind fun t160 => (if t160 = true then ((impl_within.f a0_2 0 20).bind fun t161 => (some t161)) else (some false))) else (if a0_0 = 2 then ((impl_within.f a0_1 0 0).bind fun t162 => (if t162 = true then ((impl_within.f a0_2 0 1).bind fun t163 => (some t163)) else (some false))) else (if a0_0 = 4 then ((impl_within.f a0_1 0 4).bind fun t164 => (if t164 = true then ((impl_within.f a0_2 0 20).bind fun t165 => (some t165)) else (some false))) else ((impl_within.f a0_1 0 0).bind fun t166 => (if t166 = true then ((impl_within.f a0_2 0 20).bind fun t167 => (some t167)) else (some false)))))) else (some false))) = some r := h
 clear h
 replace H := Option.bind_eq_some_iff.mp H
 obtain ⟨t159, A20, H⟩ := H
 (try dsimp only at H)
 have A2 := Aside0.mk A20
 clear A20
 by_cases c3 : t159 = true
 ·subst c3
  rw [if_pos rfl] at H
  by_cases c4 : a0_0 = 1
  ·rw [if_pos c4] at H
   have c4b0 : (a0_0 == 1) = true := beq_iff_eq.mpr c4
   have c4b1 : (a0_0 != 1) = false := bne_eq_false_iff_eq.mpr c4
   clear c4
   replace H := Option.bind_eq_some_iff.mp H
   obtain ⟨t160, A50, H⟩ := H
   (try dsimp only at H)
   have A5 := Aside0.mk A50
   clear A50
   by_cases c6 : t160 = true
   ·subst c6
    have H1 : ((impl_within.f a0_2 0 20).bind fun t161 => (some t161)) = some r := by rw [if_pos rfl] at H; exact H
    clear H
    have H := H1
    clear H1
    replace H := Option.bind_eq_some_iff.mp H
    obtain ⟨t161, A70, H⟩ := H
    replace H : (some t161) = some r := H
    have A7 := Aside0.mk A70
    clear A70
    obtain rfl := Option.some.inj H
    go_enter Tryd.func45, Tryd.ntmps45
    go_wp2_with (first | ((with_reducible refine gate_dst (N := 1) rfl ?_); refine box_event ?hg (N := 1) ?hd (cs := #[.int .i64 a0_0, .int .i64 a0_1, .int .i64 a0_2]) (t := 47) ?hr ?_; (case hd => rfl); (case hg => rfl); (case hr => first | (go_simp; done) | (go_simp; rfl)); intro gb158 hg w8 hbox hb; have n0_ := Aside0.mk (below_step (Lam.al) hb); have n1_ := Aside0.mk (hbox); have n2_ := Aside0.mk ((by rw [hg]; exact (below_size (Lam.al)) : w.heap.size ≤ gb158)); have n3_ := Aside0.mk ((by rw [hg]; exact (below_size (Lam.al)) : w.heap.size ≤ gb158)); clear HB; have HB := n0_; have BK158 := n1_; have GW158 := n2_; have GE158 := n3_; clear n0_ n1_ n2_ n3_; clear hb hbox hg; have hcz9_0 : w8.cell? ⟨gb158, 0, none⟩ = some (.int .i64 a0_0) := (blk_cell BK158.out 0).trans rfl; have hcz9_1 : w8.cell? ⟨gb158, 1, none⟩ = some (.int .i64 a0_1) := (blk_cell BK158.out 1).trans rfl; have hcz9_2 : w8.cell? ⟨gb158, 2, none⟩ = some (.int .i64 a0_2) := (blk_cell BK158.out 2).trans rfl; have hfz9_0 := blk_frozen BK158.out 0; have hfz9_1 := blk_frozen BK158.out 1; have hfz9_2 := blk_frozen BK158.out 2) | ((with_reducible refine gate_callee (f := 35) rfl ?_); refine goesL_ (some 7) rfl rfl Tryd.func35 (by kernel_rfl) rfl #[.int .i64 a0_0, .int .i64 0, .int .i64 5] rfl (by (try simp only [List.map_toArray, List.map_cons, List.map_nil]); first | done | rfl | (simp only [List.length_drop, List.length_take]; rfl)) ?_; (with_reducible refine (impl_within.calls a0_0 0 5 true _ A2.out).mono ?_); rintro e w' ⟨rfl, ⟨nd, rfl⟩⟩; refine ⟨_, rfl, ?_⟩) | ((with_reducible refine gate_callee (f := 35) rfl ?_); refine goesL_ (some 20) rfl rfl Tryd.func35 (by kernel_rfl) rfl #[.int .i64 a0_1, .int .i64 0, .int .i64 3] rfl (by (try simp only [List.map_toArray, List.map_cons, List.map_nil]); first | done | rfl | (simp only [List.length_drop, List.length_take]; rfl)) ?_; (with_reducible refine (impl_within.calls a0_1 0 3 true _ A5.out).mono ?_); rintro e w' ⟨rfl, ⟨nd, rfl⟩⟩; refine ⟨_, rfl, ?_⟩) | (go_at_call 35; (with_reducible refine (impl_within.calls a0_2 0 20 t161 _ A7.out).mono ?_); rintro e w' ⟨rfl, ⟨nd, rfl⟩⟩))
    go_ret
    exact ⟨by first | rfl | (simp [errW_none, errW_some] <;> rfl) | (simp [*, errW_none, errW_some] <;> rfl), Lam.al⟩
   ·replace c6 := Bool.eq_false_iff.mpr c6
    subst c6
    have H1 : (some false) = some r := by rw [if_neg (show ¬ (false = true) by decide)] at H; exact H
    clear H
    have H := H1
    clear H1
    obtain rfl := Option.some.inj H
    go_enter Tryd.func45, Tryd.ntmps45
    go_wp2_with (first | ((with_reducible refine gate_dst (N := 1) rfl ?_); refine box_event ?hg (N := 1) ?hd (cs := #[.int .i64 a0_0, .int .i64 a0_1, .int .i64 a0_2]) (t := 47) ?hr ?_; (case hd => rfl); (case hg => rfl); (case hr => first | (go_simp; done) | (go_simp; rfl)); intro gb158 hg w10 hbox hb; have n0_ := Aside0.mk (below_step (Lam.al) hb); have n1_ := Aside0.mk (hbox); have n2_ := Aside0.mk ((by rw [hg]; exact (below_size (Lam.al)) : w.heap.size ≤ gb158)); have n3_ := Aside0.mk ((by rw [hg]; exact (below_size (Lam.al)) : w.heap.size ≤ gb158)); clear HB; have HB := n0_; have BK158 := n1_; have GW158 := n2_; have GE158 := n3_; clear n0_ n1_ n2_ n3_; clear hb hbox hg; have hcz11_0 : w10.cell? ⟨gb158, 0, none⟩ = some (.int .i64 a0_0) := (blk_cell BK158.out 0).trans rfl; have hcz11_1 : w10.cell? ⟨gb158, 1, none⟩ = some (.int .i64 a0_1) := (blk_cell BK158.out 1).trans rfl; have hcz11_2 : w10.cell? ⟨gb158, 2, none⟩ = some (.int .i64 a0_2) := (blk_cell BK158.out 2).trans rfl; have hfz11_0 := blk_frozen BK158.out 0; have hfz11_1 := blk_frozen BK158.out 1; have hfz11_2 := blk_frozen BK158.out 2) | ((with_reducible refine gate_callee (f := 35) rfl ?_); refine goesL_ (some 7) rfl rfl Tryd.func35 (by kernel_rfl) rfl #[.int .i64 a0_0, .int .i64 0, .int .i64 5] rfl (by (try simp only [List.map_toArray, List.map_cons, List.map_nil]); first | done | rfl | (simp only [List.length_drop, List.length_take]; rfl)) ?_; (with_reducible refine (impl_within.calls a0_0 0 5 true _ A2.out).mono ?_); rintro e w' ⟨rfl, ⟨nd, rfl⟩⟩; refine ⟨_, rfl, ?_⟩) | ((with_reducible refine gate_callee (f := 35) rfl ?_); refine goesL_ (some 20) rfl rfl Tryd.func35 (by kernel_rfl) rfl #[.int .i64 a0_1, .int .i64 0, .int .i64 3] rfl (by (try simp only [List.map_toArray, List.map_cons, List.map_nil]); first | done | rfl | (simp only [List.length_drop, List.length_take]; rfl)) ?_; (with_reducible refine (impl_within.calls a0_1 0 3 false _ A5.out).mono ?_); rintro e w' ⟨rfl, ⟨nd, rfl⟩⟩; refine ⟨_, rfl, ?_⟩))
    go_ret
    exact ⟨by first | rfl | (simp [errW_none, errW_some] <;> rfl) | (simp [*, errW_none, errW_some] <;> rfl), Lam.al⟩
  ·rw [if_neg c4] at H
   have c4b0 : (a0_0 == 1) = false := beq_eq_false_iff_ne.mpr c4
   have c4b1 : (a0_0 != 1) = true := bne_iff_ne.mpr c4
   by_cases c12 : a0_0 = 2
   ·rw [if_pos c12] at H
    have c12b0 : (a0_0 == 2) = true := beq_iff_eq.mpr c12
    have c12b1 : (a0_0 != 2) = false := bne_eq_false_iff_eq.mpr c12
    clear c12
    replace H := Option.bind_eq_some_iff.mp H
    obtain ⟨t162, A130, H⟩ := H
    (try dsimp only at H)
    have A13 := Aside0.mk A130
    clear A130
    by_cases c14 : t162 = true
    ·subst c14
     have H1 : ((impl_within.f a0_2 0 1).bind fun t163 => (some t163)) = some r := by rw [if_pos rfl] at H; exact H
     clear H
     have H := H1
     clear H1
     replace H := Option.bind_eq_some_iff.mp H
     obtain ⟨t163, A150, H⟩ := H
     replace H : (some t163) = some r := H
     have A15 := Aside0.mk A150
     clear A150
     obtain rfl := Option.some.inj H
     go_enter Tryd.func45, Tryd.ntmps45
     go_wp2_with (first | ((with_reducible refine gate_dst (N := 1) rfl ?_); refine box_event ?hg (N := 1) ?hd (cs := #[.int .i64 a0_0, .int .i64 a0_1, .int .i64 a0_2]) (t := 47) ?hr ?_; (case hd => rfl); (case hg => rfl); (case hr => first | (go_simp; done) | (go_simp; rfl)); intro gb158 hg w16 hbox hb; have n0_ := Aside0.mk (below_step (Lam.al) hb); have n1_ := Aside0.mk (hbox); have n2_ := Aside0.mk ((by rw [hg]; exact (below_size (Lam.al)) : w.heap.size ≤ gb158)); have n3_ := Aside0.mk ((by rw [hg]; exact (below_size (Lam.al)) : w.heap.size ≤ gb158)); clear HB; have HB := n0_; have BK158 := n1_; have GW158 := n2_; have GE158 := n3_; clear n0_ n1_ n2_ n3_; clear hb hbox hg; have hcz17_0 : w16.cell? ⟨gb158, 0, none⟩ = some (.int .i64 a0_0) := (blk_cell BK158.out 0).trans rfl; have hcz17_1 : w16.cell? ⟨gb158, 1, none⟩ = some (.int .i64 a0_1) := (blk_cell BK158.out 1).trans rfl; have hcz17_2 : w16.cell? ⟨gb158, 2, none⟩ = some (.int .i64 a0_2) := (blk_cell BK158.out 2).trans rfl; have hfz17_0 := blk_frozen BK158.out 0; have hfz17_1 := blk_frozen BK158.out 1; have hfz17_2 := blk_frozen BK158.out 2) | ((with_reducible refine gate_callee (f := 35) rfl ?_); refine goesL_ (some 7) rfl rfl Tryd.func35 (by kernel_rfl) rfl #[.int .i64 a0_0, .int .i64 0, .int .i64 5] rfl (by (try simp only [List.map_toArray, List.map_cons, List.map_nil]); first | done | rfl | (simp only [List.length_drop, List.length_take]; rfl)) ?_; (with_reducible refine (impl_within.calls a0_0 0 5 true _ A2.out).mono ?_); rintro e w' ⟨rfl, ⟨nd, rfl⟩⟩; refine ⟨_, rfl, ?_⟩) | ((with_reducible refine gate_callee (f := 35) rfl ?_); refine goesL_ (some 20) rfl rfl Tryd.func35 (by kernel_rfl) rfl #[.int .i64 a0_1, .int .i64 0, .int .i64 0] rfl (by (try simp only [List.map_toArray, List.map_cons, List.map_nil]); first | done | rfl | (simp only [List.length_drop, List.length_take]; rfl)) ?_; (with_reducible refine (impl_within.calls a0_1 0 0 true _ A13.out).mono ?_); rintro e w' ⟨rfl, ⟨nd, rfl⟩⟩; refine ⟨_, rfl, ?_⟩) | (go_at_call 35; (with_reducible refine (impl_within.calls a0_2 0 1 t163 _ A15.out).mono ?_); rintro e w' ⟨rfl, ⟨nd, rfl⟩⟩))
     go_ret
     exact ⟨by first | rfl | (simp [errW_none, errW_some] <;> rfl) | (simp [*, errW_none, errW_some] <;> rfl), Lam.al⟩
    ·replace c14 := Bool.eq_false_iff.mpr c14
     subst c14
     have H1 : (some false) = some r := by rw [if_neg (show ¬ (false = true) by decide)] at H; exact H
     clear H
     have H := H1
     clear H1
     obtain rfl := Option.some.inj H
     go_enter Tryd.func45, Tryd.ntmps45
     go_wp2_with (first | ((with_reducible refine gate_dst (N := 1) rfl ?_); refine box_event ?hg (N := 1) ?hd (cs := #[.int .i64 a0_0, .int .i64 a0_1, .int .i64 a0_2]) (t := 47) ?hr ?_; (case hd => rfl); (case hg => rfl); (case hr => first | (go_simp; done) | (go_simp; rfl)); intro gb158 hg w18 hbox hb; have n0_ := Aside0.mk (below_step (Lam.al) hb); have n1_ := Aside0.mk (hbox); have n2_ := Aside0.mk ((by rw [hg]; exact (below_size (Lam.al)) : w.heap.size ≤ gb158)); have n3_ := Aside0.mk ((by rw [hg]; exact (below_size (Lam.al)) : w.heap.size ≤ gb158)); clear HB; have HB := n0_; have BK158 := n1_; have GW158 := n2_; have GE158 := n3_; clear n0_ n1_ n2_ n3_; clear hb hbox hg; have hcz19_0 : w18.cell? ⟨gb158, 0, none⟩ = some (.int .i64 a0_0) := (blk_cell BK158.out 0).trans rfl; have hcz19_1 : w18.cell? ⟨gb158, 1, none⟩ = some (.int .i64 a0_1) := (blk_cell BK158.out 1).trans rfl; have hcz19_2 : w18.cell? ⟨gb158, 2, none⟩ = some (.int .i64 a0_2) := (blk_cell BK158.out 2).trans rfl; have hfz19_0 := blk_frozen BK158.out 0; have hfz19_1 := blk_frozen BK158.out 1; have hfz19_2 := blk_frozen BK158.out 2) | ((with_reducible refine gate_callee (f := 35) rfl ?_); refine goesL_ (some 7) rfl rfl Tryd.func35 (by kernel_rfl) rfl #[.int .i64 a0_0, .int .i64 0, .int .i64 5] rfl (by (try simp only [List.map_toArray, List.map_cons, List.map_nil]); first | done | rfl | (simp only [List.length_drop, List.length_take]; rfl)) ?_; (with_reducible refine (impl_within.calls a0_0 0 5 true _ A2.out).mono ?_); rintro e w' ⟨rfl, ⟨nd, rfl⟩⟩; refine ⟨_, rfl, ?_⟩) | ((with_reducible refine gate_callee (f := 35) rfl ?_); refine goesL_ (some 20) rfl rfl Tryd.func35 (by kernel_rfl) rfl #[.int .i64 a0_1, .int .i64 0, .int .i64 0] rfl (by (try simp only [List.map_toArray, List.map_cons, List.map_nil]); first | done | rfl | (simp only [List.length_drop, List.length_take]; rfl)) ?_; (with_reducible refine (impl_within.calls a0_1 0 0 false _ A13.out).mono ?_); rintro e w' ⟨rfl, ⟨nd, rfl⟩⟩; refine ⟨_, rfl, ?_⟩))
     go_ret
     exact ⟨by first | rfl | (simp [errW_none, errW_some] <;> rfl) | (simp [*, errW_none, errW_some] <;> rfl), Lam.al⟩
   ·rw [if_neg c12] at H
    have c12b0 : (a0_0 == 2) = false := beq_eq_false_iff_ne.mpr c12
    have c12b1 : (a0_0 != 2) = true := bne_iff_ne.mpr c12
    by_cases c20 : a0_0 = 4
    ·rw [if_pos c20] at H
     have c20b0 : (a0_0 == 4) = true := beq_iff_eq.mpr c20
     have c20b1 : (a0_0 != 4) = false := bne_eq_false_iff_eq.mpr c20
     clear c20
     replace H := Option.bind_eq_some_iff.mp H
     obtain ⟨t164, A210, H⟩ := H
     (try dsimp only at H)
     have A21 := Aside0.mk A210
     clear A210
     by_cases c22 : t164 = true
     ·subst c22
      have H1 : ((impl_within.f a0_2 0 20).bind fun t165 => (some t165)) = some r := by rw [if_pos rfl] at H; exact H
      clear H
      have H := H1
      clear H1
      replace H := Option.bind_eq_some_iff.mp H
      obtain ⟨t165, A230, H⟩ := H
      replace H : (some t165) = some r := H
      have A23 := Aside0.mk A230
      clear A230
      obtain rfl := Option.some.inj H
      go_enter Tryd.func45, Tryd.ntmps45
      go_wp2_with (first | ((with_reducible refine gate_dst (N := 1) rfl ?_); refine box_event ?hg (N := 1) ?hd (cs := #[.int .i64 a0_0, .int .i64 a0_1, .int .i64 a0_2]) (t := 47) ?hr ?_; (case hd => rfl); (case hg => rfl); (case hr => first | (go_simp; done) | (go_simp; rfl)); intro gb158 hg w24 hbox hb; have n0_ := Aside0.mk (below_step (Lam.al) hb); have n1_ := Aside0.mk (hbox); have n2_ := Aside0.mk ((by rw [hg]; exact (below_size (Lam.al)) : w.heap.size ≤ gb158)); have n3_ := Aside0.mk ((by rw [hg]; exact (below_size (Lam.al)) : w.heap.size ≤ gb158)); clear HB; have HB := n0_; have BK158 := n1_; have GW158 := n2_; have GE158 := n3_; clear n0_ n1_ n2_ n3_; clear hb hbox hg; have hcz25_0 : w24.cell? ⟨gb158, 0, none⟩ = some (.int .i64 a0_0) := (blk_cell BK158.out 0).trans rfl; have hcz25_1 : w24.cell? ⟨gb158, 1, none⟩ = some (.int .i64 a0_1) := (blk_cell BK158.out 1).trans rfl; have hcz25_2 : w24.cell? ⟨gb158, 2, none⟩ = some (.int .i64 a0_2) := (blk_cell BK158.out 2).trans rfl; have hfz25_0 := blk_frozen BK158.out 0; have hfz25_1 := blk_frozen BK158.out 1; have hfz25_2 := blk_frozen BK158.out 2) | ((with_reducible refine gate_callee (f := 35) rfl ?_); refine goesL_ (some 7) rfl rfl Tryd.func35 (by kernel_rfl) rfl #[.int .i64 a0_0, .int .i64 0, .int .i64 5] rfl (by (try simp only [List.map_toArray, List.map_cons, List.map_nil]); first | done | rfl | (simp only [List.length_drop, List.length_take]; rfl)) ?_; (with_reducible refine (impl_within.calls a0_0 0 5 true _ A2.out).mono ?_); rintro e w' ⟨rfl, ⟨nd, rfl⟩⟩; refine ⟨_, rfl, ?_⟩) | ((with_reducible refine gate_callee (f := 35) rfl ?_); refine goesL_ (some 20) rfl rfl Tryd.func35 (by kernel_rfl) rfl #[.int .i64 a0_1, .int .i64 0, .int .i64 4] rfl (by (try simp only [List.map_toArray, List.map_cons, List.map_nil]); first | done | rfl | (simp only [List.length_drop, List.length_take]; rfl)) ?_; (with_reducible refine (impl_within.calls a0_1 0 4 true _ A21.out).mono ?_); rintro e w' ⟨rfl, ⟨nd, rfl⟩⟩; refine ⟨_, rfl, ?_⟩) | (go_at_call 35; (with_reducible refine (impl_within.calls a0_2 0 20 t165 _ A23.out).mono ?_); rintro e w' ⟨rfl, ⟨nd, rfl⟩⟩))
      go_ret
      exact ⟨by first | rfl | (simp [errW_none, errW_some] <;> rfl) | (simp [*, errW_none, errW_some] <;> rfl), Lam.al⟩
     ·replace c22 := Bool.eq_false_iff.mpr c22
      subst c22
      have H1 : (some false) = some r := by rw [if_neg (show ¬ (false = true) by decide)] at H; exact H
      clear H
      have H := H1
      clear H1
      obtain rfl := Option.some.inj H
      go_enter Tryd.func45, Tryd.ntmps45
      go_wp2_with (first | ((with_reducible refine gate_dst (N := 1) rfl ?_); refine box_event ?hg (N := 1) ?hd (cs := #[.int .i64 a0_0, .int .i64 a0_1, .int .i64 a0_2]) (t := 47) ?hr ?_; (case hd => rfl); (case hg => rfl); (case hr => first | (go_simp; done) | (go_simp; rfl)); intro gb158 hg w26 hbox hb; have n0_ := Aside0.mk (below_step (Lam.al) hb); have n1_ := Aside0.mk (hbox); have n2_ := Aside0.mk ((by rw [hg]; exact (below_size (Lam.al)) : w.heap.size ≤ gb158)); have n3_ := Aside0.mk ((by rw [hg]; exact (below_size (Lam.al)) : w.heap.size ≤ gb158)); clear HB; have HB := n0_; have BK158 := n1_; have GW158 := n2_; have GE158 := n3_; clear n0_ n1_ n2_ n3_; clear hb hbox hg; have hcz27_0 : w26.cell? ⟨gb158, 0, none⟩ = some (.int .i64 a0_0) := (blk_cell BK158.out 0).trans rfl; have hcz27_1 : w26.cell? ⟨gb158, 1, none⟩ = some (.int .i64 a0_1) := (blk_cell BK158.out 1).trans rfl; have hcz27_2 : w26.cell? ⟨gb158, 2, none⟩ = some (.int .i64 a0_2) := (blk_cell BK158.out 2).trans rfl; have hfz27_0 := blk_frozen BK158.out 0; have hfz27_1 := blk_frozen BK158.out 1; have hfz27_2 := blk_frozen BK158.out 2) | ((with_reducible refine gate_callee (f := 35) rfl ?_); refine goesL_ (some 7) rfl rfl Tryd.func35 (by kernel_rfl) rfl #[.int .i64 a0_0, .int .i64 0, .int .i64 5] rfl (by (try simp only [List.map_toArray, List.map_cons, List.map_nil]); first | done | rfl | (simp only [List.length_drop, List.length_take]; rfl)) ?_; (with_reducible refine (impl_within.calls a0_0 0 5 true _ A2.out).mono ?_); rintro e w' ⟨rfl, ⟨nd, rfl⟩⟩; refine ⟨_, rfl, ?_⟩) | ((with_reducible refine gate_callee (f := 35) rfl ?_); refine goesL_ (some 20) rfl rfl Tryd.func35 (by kernel_rfl) rfl #[.int .i64 a0_1, .int .i64 0, .int .i64 4] rfl (by (try simp only [List.map_toArray, List.map_cons, List.map_nil]); first | done | rfl | (simp only [List.length_drop, List.length_take]; rfl)) ?_; (with_reducible refine (impl_within.calls a0_1 0 4 false _ A21.out).mono ?_); rintro e w' ⟨rfl, ⟨nd, rfl⟩⟩; refine ⟨_, rfl, ?_⟩))
      go_ret
      exact ⟨by first | rfl | (simp [errW_none, errW_some] <;> rfl) | (simp [*, errW_none, errW_some] <;> rfl), Lam.al⟩
    ·rw [if_neg c20] at H
     have c20b0 : (a0_0 == 4) = false := beq_eq_false_iff_ne.mpr c20
     have c20b1 : (a0_0 != 4) = true := bne_iff_ne.mpr c20
     replace H := Option.bind_eq_some_iff.mp H
     obtain ⟨t166, A280, H⟩ := H
     (try dsimp only at H)
     have A28 := Aside0.mk A280
     clear A280
     by_cases c29 : t166 = true
     ·subst c29
      have H1 : ((impl_within.f a0_2 0 20).bind fun t167 => (some t167)) = some r := by rw [if_pos rfl] at H; exact H
      clear H
      have H := H1
      clear H1
      replace H := Option.bind_eq_some_iff.mp H
      obtain ⟨t167, A300, H⟩ := H
      replace H : (some t167) = some r := H
      have A30 := Aside0.mk A300
      clear A300
      obtain rfl := Option.some.inj H
      go_enter Tryd.func45, Tryd.ntmps45
      go_wp2_with (first | ((with_reducible refine gate_dst (N := 1) rfl ?_); refine box_event ?hg (N := 1) ?hd (cs := #[.int .i64 a0_0, .int .i64 a0_1, .int .i64 a0_2]) (t := 47) ?hr ?_; (case hd => rfl); (case hg => rfl); (case hr => first | (go_simp; done) | (go_simp; rfl)); intro gb158 hg w31 hbox hb; have n0_ := Aside0.mk (below_step (Lam.al) hb); have n1_ := Aside0.mk (hbox); have n2_ := Aside0.mk ((by rw [hg]; exact (below_size (Lam.al)) : w.heap.size ≤ gb158)); have n3_ := Aside0.mk ((by rw [hg]; exact (below_size (Lam.al)) : w.heap.size ≤ gb158)); clear HB; have HB := n0_; have BK158 := n1_; have GW158 := n2_; have GE158 := n3_; clear n0_ n1_ n2_ n3_; clear hb hbox hg; have hcz32_0 : w31.cell? ⟨gb158, 0, none⟩ = some (.int .i64 a0_0) := (blk_cell BK158.out 0).trans rfl; have hcz32_1 : w31.cell? ⟨gb158, 1, none⟩ = some (.int .i64 a0_1) := (blk_cell BK158.out 1).trans rfl; have hcz32_2 : w31.cell? ⟨gb158, 2, none⟩ = some (.int .i64 a0_2) := (blk_cell BK158.out 2).trans rfl; have hfz32_0 := blk_frozen BK158.out 0; have hfz32_1 := blk_frozen BK158.out 1; have hfz32_2 := blk_frozen BK158.out 2) | ((with_reducible refine gate_callee (f := 35) rfl ?_); refine goesL_ (some 7) rfl rfl Tryd.func35 (by kernel_rfl) rfl #[.int .i64 a0_0, .int .i64 0, .int .i64 5] rfl (by (try simp only [List.map_toArray, List.map_cons, List.map_nil]); first | done | rfl | (simp only [List.length_drop, List.length_take]; rfl)) ?_; (with_reducible refine (impl_within.calls a0_0 0 5 true _ A2.out).mono ?_); rintro e w' ⟨rfl, ⟨nd, rfl⟩⟩; refine ⟨_, rfl, ?_⟩) | ((with_reducible refine gate_callee (f := 35) rfl ?_); refine goesL_ (some 20) rfl rfl Tryd.func35 (by kernel_rfl) rfl #[.int .i64 a0_1, .int .i64 0, .int .i64 0] rfl (by (try simp only [List.map_toArray, List.map_cons, List.map_nil]); first | done | rfl | (simp only [List.length_drop, List.length_take]; rfl)) ?_; (with_reducible refine (impl_within.calls a0_1 0 0 true _ A28.out).mono ?_); rintro e w' ⟨rfl, ⟨nd, rfl⟩⟩; refine ⟨_, rfl, ?_⟩) | (go_at_call 35; (with_reducible refine (impl_within.calls a0_2 0 20 t167 _ A30.out).mono ?_); rintro e w' ⟨rfl, ⟨nd, rfl⟩⟩))
      go_ret
      exact ⟨by first | rfl | (simp [errW_none, errW_some] <;> rfl) | (simp [*, errW_none, errW_some] <;> rfl), Lam.al⟩
     ·replace c29 := Bool.eq_false_iff.mpr c29
      subst c29
      have H1 : (some false) = some r := by rw [if_neg (show ¬ (false = true) by decide)] at H; exact H
      clear H
      have H := H1
      clear H1
      obtain rfl := Option.some.inj H
      go_enter Tryd.func45, Tryd.ntmps45
      go_wp2_with (first | ((with_reducible refine gate_dst (N := 1) rfl ?_); refine box_event ?hg (N := 1) ?hd (cs := #[.int .i64 a0_0, .int .i64 a0_1, .int .i64 a0_2]) (t := 47) ?hr ?_; (case hd => rfl); (case hg => rfl); (case hr => first | (go_simp; done) | (go_simp; rfl)); intro gb158 hg w33 hbox hb; have n0_ := Aside0.mk (below_step (Lam.al) hb); have n1_ := Aside0.mk (hbox); have n2_ := Aside0.mk ((by rw [hg]; exact (below_size (Lam.al)) : w.heap.size ≤ gb158)); have n3_ := Aside0.mk ((by rw [hg]; exact (below_size (Lam.al)) : w.heap.size ≤ gb158)); clear HB; have HB := n0_; have BK158 := n1_; have GW158 := n2_; have GE158 := n3_; clear n0_ n1_ n2_ n3_; clear hb hbox hg; have hcz34_0 : w33.cell? ⟨gb158, 0, none⟩ = some (.int .i64 a0_0) := (blk_cell BK158.out 0).trans rfl; have hcz34_1 : w33.cell? ⟨gb158, 1, none⟩ = some (.int .i64 a0_1) := (blk_cell BK158.out 1).trans rfl; have hcz34_2 : w33.cell? ⟨gb158, 2, none⟩ = some (.int .i64 a0_2) := (blk_cell BK158.out 2).trans rfl; have hfz34_0 := blk_frozen BK158.out 0; have hfz34_1 := blk_frozen BK158.out 1; have hfz34_2 := blk_frozen BK158.out 2) | ((with_reducible refine gate_callee (f := 35) rfl ?_); refine goesL_ (some 7) rfl rfl Tryd.func35 (by kernel_rfl) rfl #[.int .i64 a0_0, .int .i64 0, .int .i64 5] rfl (by (try simp only [List.map_toArray, List.map_cons, List.map_nil]); first | done | rfl | (simp only [List.length_drop, List.length_take]; rfl)) ?_; (with_reducible refine (impl_within.calls a0_0 0 5 true _ A2.out).mono ?_); rintro e w' ⟨rfl, ⟨nd, rfl⟩⟩; refine ⟨_, rfl, ?_⟩) | ((with_reducible refine gate_callee (f := 35) rfl ?_); refine goesL_ (some 20) rfl rfl Tryd.func35 (by kernel_rfl) rfl #[.int .i64 a0_1, .int .i64 0, .int .i64 0] rfl (by (try simp only [List.map_toArray, List.map_cons, List.map_nil]); first | done | rfl | (simp only [List.length_drop, List.length_take]; rfl)) ?_; (with_reducible refine (impl_within.calls a0_1 0 0 false _ A28.out).mono ?_); rintro e w' ⟨rfl, ⟨nd, rfl⟩⟩; refine ⟨_, rfl, ?_⟩))
      go_ret
      exact ⟨by first | rfl | (simp [errW_none, errW_some] <;> rfl) | (simp [*, errW_none, errW_some] <;> rfl), Lam.al⟩
 ·replace c3 := Bool.eq_false_iff.mpr c3
  subst c3
  have H1 : (some false) = some r := by rw [if_neg (show ¬ (false = true) by decide)] at H; exact H
  clear H
  have H := H1
  clear H1
  obtain rfl := Option.some.inj H
  go_enter Tryd.func45, Tryd.ntmps45
  go_wp2_with (first | ((with_reducible refine gate_dst (N := 1) rfl ?_); refine box_event ?hg (N := 1) ?hd (cs := #[.int .i64 a0_0, .int .i64 a0_1, .int .i64 a0_2]) (t := 47) ?hr ?_; (case hd => rfl); (case hg => rfl); (case hr => first | (go_simp; done) | (go_simp; rfl)); intro gb158 hg w35 hbox hb; have n0_ := Aside0.mk (below_step (Lam.al) hb); have n1_ := Aside0.mk (hbox); have n2_ := Aside0.mk ((by rw [hg]; exact (below_size (Lam.al)) : w.heap.size ≤ gb158)); have n3_ := Aside0.mk ((by rw [hg]; exact (below_size (Lam.al)) : w.heap.size ≤ gb158)); clear HB; have HB := n0_; have BK158 := n1_; have GW158 := n2_; have GE158 := n3_; clear n0_ n1_ n2_ n3_; clear hb hbox hg; have hcz36_0 : w35.cell? ⟨gb158, 0, none⟩ = some (.int .i64 a0_0) := (blk_cell BK158.out 0).trans rfl; have hcz36_1 : w35.cell? ⟨gb158, 1, none⟩ = some (.int .i64 a0_1) := (blk_cell BK158.out 1).trans rfl; have hcz36_2 : w35.cell? ⟨gb158, 2, none⟩ = some (.int .i64 a0_2) := (blk_cell BK158.out 2).trans rfl; have hfz36_0 := blk_frozen BK158.out 0; have hfz36_1 := blk_frozen BK158.out 1; have hfz36_2 := blk_frozen BK158.out 2) | ((with_reducible refine gate_callee (f := 35) rfl ?_); refine goesL_ (some 7) rfl rfl Tryd.func35 (by kernel_rfl) rfl #[.int .i64 a0_0, .int .i64 0, .int .i64 5] rfl (by (try simp only [List.map_toArray, List.map_cons, List.map_nil]); first | done | rfl | (simp only [List.length_drop, List.length_take]; rfl)) ?_; (with_reducible refine (impl_within.calls a0_0 0 5 false _ A2.out).mono ?_); rintro e w' ⟨rfl, ⟨nd, rfl⟩⟩; refine ⟨_, rfl, ?_⟩))
  go_ret
  exact ⟨by first | rfl | (simp [errW_none, errW_some] <;> rfl) | (simp [*, errW_none, errW_some] <;> rfl), Lam.al⟩

/-! ### impl_IsPuzzle: function 22 -/
theorem impl_IsClue.total (a b c : Int) : impl_IsClue.f a b c = some ((impl_IsClue.f a b c).getD false) := by
 have hw : ∀ x y z, ∃ r, impl_within.f x y z = some r := fun x y z => by unfold impl_within.f; split <;> exact ⟨_, rfl⟩
 have : ∃ r, impl_IsClue.f a b c = some r := by
  unfold impl_IsClue.f
  repeat' (first
   | exact ⟨_, rfl⟩
   | split
   | (obtain ⟨_, hr⟩ := hw _ _ _; rw [hr, Option.bind_some]; clear hr)
   | rw [Option.bind_some])
 obtain ⟨r, hr⟩ := this
 rw [hr]; rfl
def impl_IsPuzzle.f (l0_0 : List (S47)) : Option (Bool) := some (decide (l0_0.length ≤ 6) && l0_0.all fun c => (impl_IsClue.f c.f0 c.f1 c.f2).getD false)
set_option maxHeartbeats 4000000 in
theorem impl_IsPuzzle.lam (x : S47) (W : World) :
  Calls Tryd.prog 44 #[.agg #[.int .i64 x.f0, .int .i64 x.f1, .int .i64 x.f2]] W fun e w' => e = .returned (.bool (!(impl_IsClue.f x.f0 x.f1 x.f2).getD false)) ∧ Below W.heap.size W w' := by
 have hcall := fun W => impl_IsClue.calls x.f0 x.f1 x.f2 _ W (impl_IsClue.total x.f0 x.f1 x.f2)
 generalize (impl_IsClue.f x.f0 x.f1 x.f2).getD false = q at hcall
 obtain ⟨a, b, c⟩ := x
 dsimp only at hcall ⊢
 go_enter Tryd.func44, Tryd.ntmps44
 go_wp2_with (first
  | ((with_reducible refine gate_dst (N := 1) rfl ?_); refine box_event ?hg (N := 1) ?hd (cs := #[.int .i64 a, .int .i64 b, .int .i64 c]) (t := 47) ?hr ?_; (case hd => rfl); (case hg => rfl); (case hr => first | (go_simp; done) | (go_simp; rfl)); intro g1 hg1 w1 hbox1 hb1; have G1 := Aside0.mk hg1; have X1 := Aside0.mk hbox1; have B1 := Aside0.mk hb1; clear hg1 hbox1 hb1; have hcz1_0 : w1.cell? ⟨g1, 0, none⟩ = some (.int .i64 a) := (blk_cell X1.out 0).trans rfl; have hfz1_0 := blk_frozen X1.out 0; have hcz1_1 : w1.cell? ⟨g1, 1, none⟩ = some (.int .i64 b) := (blk_cell X1.out 1).trans rfl; have hfz1_1 := blk_frozen X1.out 1; have hcz1_2 : w1.cell? ⟨g1, 2, none⟩ = some (.int .i64 c) := (blk_cell X1.out 2).trans rfl; have hfz1_2 := blk_frozen X1.out 2)
  | (go_at_call 45; refine (hcall _).mono ?_; rintro e w' ⟨rfl, hd⟩))
 go_ret
 exact ⟨rfl, Lam.bth B1.out hd⟩
set_option maxHeartbeats 4000000 in
theorem impl_IsPuzzle.calls (A0_0 : Option Addr) (c0_0 : Nat) (l0_0 : List (S47)) (r : Bool) (w : World) (hr0_0 : Kd.C k47 w A0_0 l0_0.length l0_0) (hc0_0 : l0_0.length ≤ c0_0) (h : impl_IsPuzzle.f l0_0 = some r) :
  Calls Tryd.prog 22 #[.agg #[.slice A0_0 l0_0.length c0_0]] w fun e w' => e = .returned (.bool r) ∧ Below w.heap.size w w' := by
 obtain rfl := Option.some.inj h
 have HR0 := Aside0.mk hr0_0
 have eg := enters_of Tryd.func44 (by kernel_rfl) rfl
 clear hr0_0 hc0_0 h
 by_cases c1 : l0_0.length ≤ 6
 ·have d1 : decide ((l0_0.length : Int) ≤ 6) = true := decide_eq_true (by omega)
  have d2 : decide (l0_0.length ≤ 6) = true := decide_eq_true c1
  rw [d2, Bool.true_and]
  clear c1
  have HE := Aside0.mk (List.all_eq_not_any_not (l := l0_0) (p := fun c => (impl_IsClue.f c.f0 c.f1 c.f2).getD false))
  go_enter Tryd.func22, Tryd.ntmps22
  go_wp2_with (first
   | ((with_reducible refine gate_dst (N := 1) rfl ?_); refine box_event ?hg (N := 1) ?hd (cs := #[.slice A0_0 l0_0.length c0_0]) (t := 30) ?hr ?_; (case hd => rfl); (case hg => rfl); (case hr => first | (go_simp; done) | (go_simp; rfl)); intro g1 hg1 w1 hbox1 hb1; have G1 := Aside0.mk hg1; have X1 := Aside0.mk hbox1; have B1 := Aside0.mk hb1; clear hg1 hbox1 hb1; have hcz1_0 : w1.cell? ⟨g1, 0, none⟩ = some (.slice A0_0 l0_0.length c0_0) := (blk_cell X1.out 0).trans rfl; have hfz1_0 := blk_frozen X1.out 0)
   | (go_at_call 43; go_loud (refine (impl_Clue_43.calls A0_0 c0_0 l0_0 _ #[] (fun c => !(impl_IsClue.f c.f0 c.f1 c.f2).getD false) w1 w1 eg (Kd.C_below HR0.out B1.out) (Below.refl _ _) (fun W x _ hW => by rw [Array.append_empty]; exact (impl_IsPuzzle.lam x W).mono (fun _ _ ⟨he, hd⟩ => ⟨he, Lam.bth hW hd⟩))).mono ?_); rintro e w' ⟨rfl, hb'⟩))
  go_ret
  refine ⟨?_, Lam.bth B1.out hb'⟩
  rw [HE.out]; rfl
 ·have d1 : decide ((l0_0.length : Int) ≤ 6) = false := decide_eq_false (by omega)
  have d2 : decide (l0_0.length ≤ 6) = false := decide_eq_false c1
  rw [d2, Bool.false_and]
  clear c1
  go_enter Tryd.func22, Tryd.ntmps22
  go_wp2_with (first
   | ((with_reducible refine gate_dst (N := 1) rfl ?_); refine box_event ?hg (N := 1) ?hd (cs := #[.slice A0_0 l0_0.length c0_0]) (t := 30) ?hr ?_; (case hd => rfl); (case hg => rfl); (case hr => first | (go_simp; done) | (go_simp; rfl)); intro g1 hg1 w1 hbox1 hb1; have G1 := Aside0.mk hg1; have X1 := Aside0.mk hbox1; have B1 := Aside0.mk hb1; clear hg1 hbox1 hb1; have hcz1_0 : w1.cell? ⟨g1, 0, none⟩ = some (.slice A0_0 l0_0.length c0_0) := (blk_cell X1.out 0).trans rfl; have hfz1_0 := blk_frozen X1.out 0))
  go_ret
  exact ⟨rfl, B1.out⟩

/-! ### strings_Join: function 40 -/
def strings_Join.lay_ren : Go.Shelf.Ren := ⟨fun | 156 => 40 | 165 => 55 | 166 => 56 | 169 => 57 | 240 => 69 | 241 => 70 | 276 => 81 | 277 => 82 | n => n, fun | 31 => 52 | 9 => 9 | 3 => 3 | 4 => 4 | 0 => 0 | 20 => 20 | 72 => 85 | 76 => 77 | 70 => 82 | 37 => 83 | 75 => 76 | 127 => 96 | 164 => 109 | 5 => 5 | 80 => 87 | n => n, fun | n => n⟩
theorem strings_Join.lay : Go.Proofs.Lays.n156 Tryd.prog strings_Join.lay_ren := {
 mixed := by kernel_rfl
 f156 := Tryd.func40.trans (congrArg some (by kernel_rfl))
 f165 := Tryd.func55.trans (congrArg some (by kernel_rfl))
 f166 := Tryd.func56.trans (congrArg some (by kernel_rfl))
 f169 := Tryd.func57.trans (congrArg some (by kernel_rfl))
 f240 := Tryd.func69.trans (congrArg some (by kernel_rfl))
 f241 := Tryd.func70.trans (congrArg some (by kernel_rfl))
 f276 := Tryd.func81.trans (congrArg some (by kernel_rfl))
 f277 := Tryd.func82.trans (congrArg some (by kernel_rfl))
 t0 := Tryd.underlying0
 a0 := Tryd.isAgg0
 z0 := Tryd.sizeOf0
 v0 := Tryd.zeroValue0
 t3 := Tryd.underlying3
 a3 := Tryd.isAgg3
 z3 := Tryd.sizeOf3
 v3 := Tryd.zeroValue3
 t4 := Tryd.underlying4
 a4 := Tryd.isAgg4
 z4 := Tryd.sizeOf4
 v4 := Tryd.zeroValue4
 t9 := Tryd.underlying9
 a9 := Tryd.isAgg9
 z9 := Tryd.sizeOf9
 v9 := Tryd.zeroValue9
 t20 := Tryd.underlying20
 a20 := Tryd.isAgg20
 z20 := Tryd.sizeOf20
 v20 := Tryd.zeroValue20
 t31 := Tryd.underlying52
 a31 := Tryd.isAgg52
 z31 := Tryd.sizeOf52
 v31 := Tryd.zeroValue52
 t37 := Tryd.underlying83
 a37 := Tryd.isAgg83
 z37 := Tryd.sizeOf83
 v37 := Tryd.zeroValue83
 t70 := Tryd.underlying82
 a70 := Tryd.isAgg82
 z70 := Tryd.sizeOf82
 v70 := Tryd.zeroValue82
 t72 := Tryd.underlying85
 a72 := Tryd.isAgg85
 z72 := Tryd.sizeOf85
 v72 := Tryd.zeroValue85
 t75 := Tryd.underlying76
 a75 := Tryd.isAgg76
 z75 := Tryd.sizeOf76
 v75 := Tryd.zeroValue76
 t76 := Tryd.underlying77
 a76 := Tryd.isAgg77
 z76 := Tryd.sizeOf77
 v76 := Tryd.zeroValue77
 t127 := Tryd.underlying96
 a127 := Tryd.isAgg96
 z127 := Tryd.sizeOf96
 v127 := Tryd.zeroValue96
 t164 := Tryd.underlying109
 a164 := Tryd.isAgg109
 z164 := Tryd.sizeOf109
 v164 := Tryd.zeroValue109 }
theorem strings_Join.extra : Builder.Extra Tryd.prog strings_Join.lay_ren where
 sizeBuilder := by kernel_rfl
 liesBuilder := by kernel_rfl
 t5 := Tryd.underlying5
 a5 := Tryd.isAgg5
 z5 := Tryd.sizeOf5
 v5 := Tryd.zeroValue5
 infoByte := by kernel_rfl
 cellsByte := by kernel_rfl
 sizeByte := by kernel_rfl
 neB5 := by decide
def strings_Join.text (l : List ByteArray) (sep : ByteArray) : ByteArray := ⟨(Lib.join (l.map (·.data.toList)) sep.data.toList).toArray⟩
def strings_Join.f (l0 : List ByteArray) (a1 : ByteArray) : Option (ByteArray) := if l0.length ≤ 1000000 then if (Lib.join (l0.map (·.data.toList)) a1.data.toList).length ≤ 140737488355328 then some (strings_Join.text l0 a1) else none else none
theorem strings_Join.calls (A0 : Option Addr) (c0 : Nat) (l0 : List ByteArray) (a1 : ByteArray) (r : ByteArray) (w : World) (hr0 : Kd.C Kd.string w A0 l0.length l0) (hc0 : l0.length ≤ c0) (h : strings_Join.f l0 a1 = some r) :
  Calls Tryd.prog 40 #[.slice A0 l0.length c0, .string a1] w fun e w' => e = .returned (.string r) ∧ Below w.heap.size w w' := by
 unfold strings_Join.f at h
 have hN : l0.length ≤ 1000000 := by
  by_cases hN : l0.length ≤ 1000000
  ·exact hN
  ·rw [if_neg hN] at h; cases h
 rw [if_pos hN] at h
 by_cases h0 : (Lib.join (l0.map (·.data.toList)) a1.data.toList).length ≤ 140737488355328
 ·rw [if_pos h0] at h
  obtain rfl := Option.some.inj h
  cases l0 with
  | nil =>
   refine (Any.strings_Join_none strings_Join.lay strings_Join.extra A0 c0 a1 w).mono ?_
   rintro e w' ⟨rfl, rfl⟩
   exact ⟨rfl, Below.refl _ _⟩
  | cons x xs =>
   obtain ⟨ad, rfl, h1⟩ := hr0.2.2 (by simp)
   have hat : ∀ (j : Nat) y, (x :: xs)[j]? = some y → w.cell? (ad.add j) = some (.string y) := fun j y hj => by
    obtain ⟨c, hl, hK, hc⟩ := h1 j y hj
    obtain rfl : c = [.string y] := hK
    have := hc 0 _ rfl
    rwa [show Kd.string.sz = 1 from rfl, Nat.mul_one, Nat.add_zero] at this
   have h00 := hat 0 x rfl
   obtain ⟨b, off, spot⟩ := ad
   have hspot : spot = none := by simpa [Addr.add] using World.cell?_spot h00
   subst hspot
   have hat2 : ∀ (j : Nat) y, (x :: xs)[j]? = some y → w.cell? ⟨b, off + j, none⟩ = some (.string y) := fun j y hj => by
    have h5 := hat j y hj
    by_cases hj0 : j = 0
    ·subst hj0; simpa [Addr.add] using h5
    ·simpa [Addr.add, hj0] using h5
   refine (Any.strings_Join strings_Join.lay strings_Join.extra b off c0 (x :: xs) a1 w hat2 (World.block_lt_of_cell? _ _ (hat2 0 x rfl)) (by omega) hc0 h0).mono ?_
   rintro e w' ⟨rfl, hw⟩
   exact ⟨rfl, hw⟩
 ·rw [if_neg h0] at h; cases h

end Go.Proofs.YtejnbnppiipdlaaDoor.PFnExactParsePuzzle
