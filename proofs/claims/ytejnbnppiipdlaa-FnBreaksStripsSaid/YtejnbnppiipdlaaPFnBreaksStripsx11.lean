-- Made by a program of this session (wip/xprint.py) out of the translation.
import Derived.Test.YtejnbnppiipdlaaChain
import Derived.Test.YtejnbnppiipdlaaPFnBreaksStripsx0
import Derived.Test.YtejnbnppiipdlaaPFnBreaksStripsx1
import Derived.Test.YtejnbnppiipdlaaPFnBreaksStripsx2
import Derived.Test.YtejnbnppiipdlaaPFnBreaksStripsx3
import Derived.Test.YtejnbnppiipdlaaPFnBreaksStripsx4
import Derived.Test.YtejnbnppiipdlaaPFnBreaksStripsx5
import Derived.Test.YtejnbnppiipdlaaPFnBreaksStripsx6
import Derived.Test.YtejnbnppiipdlaaPFnBreaksStripsx7
import Derived.Test.YtejnbnppiipdlaaPFnBreaksStripsx8
import Derived.Test.YtejnbnppiipdlaaPFnBreaksStripsx9
import Derived.Test.YtejnbnppiipdlaaPFnBreaksStripsx10
namespace Go.Proofs.Ytejnbnppiipdlaa.PFnBreaksStrips
open Go.RowKit Go.Proofs.YtejnbnppiipdlaaW.PrintWords Go.Proofs.YtejnbnppiipdlaaW.PrintLast Go.Proofs.YtejnbnppiipdlaaW.PrintMore
attribute [local go_sem] Lam.yl_undef max2_int min2_int max_two min_two max_three min_three max_four min_four   -- for this text's walks alone
set_option linter.unusedVariables false
set_option linter.unusedSimpArgs false

/-! ### laws_FnBreaksStrips: function 3 -/
mutual
def laws_FnBreaksStrips.j0 : Nat → List Int → Int → Int → Bool → List Int → Bool → Int → List Int → Int → Int → Bool → Option (Bool)
 | 0, _, _, _, _, _, _, _, _, _, _, _ => none
 | k + 1, x1, x5, x6, x7, x8, x9, x12, x16, x20, x24, x223 => if x223 = true then (none) else (if x9 = true then ((laws_yRises.f k x8).bind fun t442 => (if t442 = true then ((laws_yRises.f k x16).bind fun t443 => (if t443 = true then ((laws_yHas.f k x16 x5).bind fun t444 => (if (t444 != (x12 == 0)) = true then (laws_FnBreaksStrips.j1 k x1 x5 x6 x7 x8 x12 x20 x24 true) else (if (((x8.length : Int) == 0) != (x20 == 0)) = true then (laws_FnBreaksStrips.j1 k x1 x5 x6 x7 x8 x12 x20 x24 true) else (if ((x24 == 0) != (x20 == 0)) = true then (laws_FnBreaksStrips.j1 k x1 x5 x6 x7 x8 x12 x20 x24 true) else (if x24 > x20 then (laws_FnBreaksStrips.j1 k x1 x5 x6 x7 x8 x12 x20 x24 true) else (if x6 = 0 then (none) else (if x20 > (wrap64 ((wrap64 (Int.tdiv x5 x6)) - 1)) then (laws_FnBreaksStrips.j1 k x1 x5 x6 x7 x8 x12 x20 x24 (decide (x20 > 0))) else (laws_FnBreaksStrips.j1 k x1 x5 x6 x7 x8 x12 x20 x24 false)))))))) else (laws_FnBreaksStrips.j1 k x1 x5 x6 x7 x8 x12 x20 x24 true))) else (laws_FnBreaksStrips.j1 k x1 x5 x6 x7 x8 x12 x20 x24 true))) else (laws_FnBreaksStrips.j4 k x1))
def laws_FnBreaksStrips.j4 : Nat → List Int → Option (Bool)
 | 0, _ => none
 | k + 1, x1 => (spec_DrawGoodStrips.f k x1).bind fun bt465 => ((impl_GoodStrips.f k bt465.1 bt465.2.1 bt465.2.2).bind fun bt470 => ((spec_GoodStrips.f k bt465.1 bt465.2.1 bt465.2.2).bind fun bt474 => ((impl_WinsStrips.f k bt465.1 bt465.2.1 bt465.2.2).bind fun bt478 => ((spec_WinsStrips.f k bt465.1 bt465.2.1 bt465.2.2).bind fun bt480 => ((spec_DrawBreakStrip.f k x1).bind fun bt482 => ((impl_BreakStrip.f bt482.1 bt482.2.1 bt482.2.2.1 bt482.2.2.2.1 bt482.2.2.2.2).bind fun bt489 => ((spec_BreakStrip.f k bt482.1 bt482.2.1 bt482.2.2.1 bt482.2.2.2.1 bt482.2.2.2.2).bind fun bt493 => (if (bt470.2 != bt474.2) = true then (laws_FnBreaksStrips.j5 k bt465.1 bt465.2.1 bt465.2.2 bt470.1 bt470.2 bt478.1 bt482.1 bt482.2.1 bt482.2.2.1 bt489.1 bt489.2 true) else ((laws_yRows.f k bt470.1 bt474.1).bind fun t497 => (if t497 = true then (if (bt478.2 != bt480.2) = true then (laws_FnBreaksStrips.j5 k bt465.1 bt465.2.1 bt465.2.2 bt470.1 bt470.2 bt478.1 bt482.1 bt482.2.1 bt482.2.2.1 bt489.1 bt489.2 true) else (if (bt478.1 != bt480.1) = true then (laws_FnBreaksStrips.j5 k bt465.1 bt465.2.1 bt465.2.2 bt470.1 bt470.2 bt478.1 bt482.1 bt482.2.1 bt482.2.2.1 bt489.1 bt489.2 true) else (if (bt489.2 != bt493.2) = true then (laws_FnBreaksStrips.j5 k bt465.1 bt465.2.1 bt465.2.2 bt470.1 bt470.2 bt478.1 bt482.1 bt482.2.1 bt482.2.2.1 bt489.1 bt489.2 true) else ((laws_ySame.f k bt489.1 bt493.1).bind fun t498 => (if t498 = true then (if (bt470.2 != bt478.2) = true then (laws_FnBreaksStrips.j5 k bt465.1 bt465.2.1 bt465.2.2 bt470.1 bt470.2 bt478.1 bt482.1 bt482.2.1 bt482.2.2.1 bt489.1 bt489.2 true) else (laws_FnBreaksStrips.j5 k bt465.1 bt465.2.1 bt465.2.2 bt470.1 bt470.2 bt478.1 bt482.1 bt482.2.1 bt482.2.2.1 bt489.1 bt489.2 (bt478.1 != (decide ((bt470.1.length : Int) > 0))))) else (laws_FnBreaksStrips.j5 k bt465.1 bt465.2.1 bt465.2.2 bt470.1 bt470.2 bt478.1 bt482.1 bt482.2.1 bt482.2.2.1 bt489.1 bt489.2 true)))))) else (laws_FnBreaksStrips.j5 k bt465.1 bt465.2.1 bt465.2.2 bt470.1 bt470.2 bt478.1 bt482.1 bt482.2.1 bt482.2.2.1 bt489.1 bt489.2 true)))))))))))
def laws_FnBreaksStrips.j5 : Nat → List Int → Int → Bool → List (List Int) → Bool → Bool → List Int → Int → Int → List Int → Bool → Bool → Option (Bool)
 | 0, _, _, _, _, _, _, _, _, _, _, _, _ => none
 | k + 1, x44, x45, x46, x47, x48, x51, x55, x56, x57, x60, x61, x523 => if x523 = true then (none) else (if x48 = true then (laws_FnBreaksStrips.l2 k x44 x45 x46 x47 x51 x55 x56 x57 x60 x61 0 x44 (x44.length : Int) 0) else (laws_FnBreaksStrips.j9 k x55 x56 x57 x60 x61))
def laws_FnBreaksStrips.j9 : Nat → List Int → Int → Int → List Int → Bool → Option (Bool)
 | 0, _, _, _, _, _ => none
 | k + 1, x55, x56, x57, x60, x61 => if x61 = true then (if (x60.length : Int) = (wrap64 ((x55.length : Int) + 1)) then ((laws_ySum.f k x60).bind fun t520 => ((laws_ySum.f k x55).bind fun t521 => (if t520 = t521 then (if 0 ≤ x56 then (if x56 < (x60.length : Int) then (if (rd x60 x56) = x57 then (if 0 ≤ (x55.length : Int) then (if (x55.length : Int) < (x60.length : Int) then (if x56 < (x55.length : Int) then (if (rd x60 (x55.length : Int)) = (wrap64 ((rd x55 x56) - x57)) then (some true) else (none)) else (none)) else (none)) else (none)) else (none)) else (none)) else (none)) else (none)))) else (none)) else (some true)
def laws_FnBreaksStrips.l2 : Nat → List Int → Int → Bool → List (List Int) → Bool → List Int → Int → Int → List Int → Bool → Int → List Int → Int → Int → Option (Bool)
 | 0, _, _, _, _, _, _, _, _, _, _, _, _, _, _ => none
 | k + 1, x44, x45, x46, x47, x51, x55, x56, x57, x60, x61, x64, x525, x526, x527 => if x527 < x526 then (if 0 ≤ x527 then (if x527 < (x525.length : Int) then ((impl_StripValue.f k (rd x525 x527) x45 x46).bind fun bt500 => (if bt500.2 = true then (laws_FnBreaksStrips.l2 k x44 x45 x46 x47 x51 x55 x56 x57 x60 x61 (Go.bits .xor .i64 x64 bt500.1) x525 x526 (wrap64 (x527 + 1))) else (none))) else (none)) else (none)) else (if (x51 != (x64 != 0)) = true then (none) else (laws_FnBreaksStrips.l3 k x44 x45 x46 x47 x55 x56 x57 x60 x61 x47 (x47.length : Int) 0))
def laws_FnBreaksStrips.l3 : Nat → List Int → Int → Bool → List (List Int) → List Int → Int → Int → List Int → Bool → List (List Int) → Int → Int → Option (Bool)
 | 0, _, _, _, _, _, _, _, _, _, _, _, _ => none
 | k + 1, x44, x45, x46, x47, x55, x56, x57, x60, x61, x548, x549, x550 => if x550 < x549 then (if 0 ≤ x550 then (if x550 < (x548.length : Int) then (if ((rd_L2 x548 x550).length : Int) = 2 then (if x550 > 0 then (if 0 ≤ (wrap64 (x550 - 1)) then (if (wrap64 (x550 - 1)) < (x47.length : Int) then (if 0 < ((rd_L2 x47 (wrap64 (x550 - 1))).length : Int) then (if 0 < ((rd_L2 x548 x550).length : Int) then (if (rd (rd_L2 x47 (wrap64 (x550 - 1))) 0) > (rd (rd_L2 x548 x550) 0) then (laws_FnBreaksStrips.j8 k x44 x45 x46 x47 x55 x56 x57 x60 x61 x548 x549 x550 true) else (if (rd (rd_L2 x47 (wrap64 (x550 - 1))) 0) = (rd (rd_L2 x548 x550) 0) then (if 1 < ((rd_L2 x47 (wrap64 (x550 - 1))).length : Int) then (if 1 < ((rd_L2 x548 x550).length : Int) then (laws_FnBreaksStrips.j8 k x44 x45 x46 x47 x55 x56 x57 x60 x61 x548 x549 x550 (decide ((rd (rd_L2 x47 (wrap64 (x550 - 1))) 1) ≥ (rd (rd_L2 x548 x550) 1)))) else (none)) else (none)) else (laws_FnBreaksStrips.j8 k x44 x45 x46 x47 x55 x56 x57 x60 x61 x548 x549 x550 false))) else (none)) else (none)) else (none)) else (none)) else (laws_FnBreaksStrips.j8 k x44 x45 x46 x47 x55 x56 x57 x60 x61 x548 x549 x550 false)) else (laws_FnBreaksStrips.j8 k x44 x45 x46 x47 x55 x56 x57 x60 x61 x548 x549 x550 true)) else (none)) else (none)) else (laws_FnBreaksStrips.j9 k x55 x56 x57 x60 x61)
def laws_FnBreaksStrips.j8 : Nat → List Int → Int → Bool → List (List Int) → List Int → Int → Int → List Int → Bool → List (List Int) → Int → Int → Bool → Option (Bool)
 | 0, _, _, _, _, _, _, _, _, _, _, _, _, _ => none
 | k + 1, x44, x45, x46, x47, x55, x56, x57, x60, x61, x548, x549, x550, x600 => if x600 = true then (none) else (if (x44.length : Int) < 8 then (if 0 < ((rd_L2 x548 x550).length : Int) then (if 1 < ((rd_L2 x548 x550).length : Int) then ((impl_BreakStrip.f x44 (rd (rd_L2 x548 x550) 0) (rd (rd_L2 x548 x550) 1) x45 x46).bind fun bt514 => ((impl_WinsStrips.f k bt514.1 x45 x46).bind fun bt518 => (if bt514.2 = true then (if bt518.2 = true then (if bt518.1 = true then (none) else (laws_FnBreaksStrips.l3 k x44 x45 x46 x47 x55 x56 x57 x60 x61 x548 x549 (wrap64 (x550 + 1)))) else (none)) else (none)))) else (none)) else (none)) else (laws_FnBreaksStrips.l3 k x44 x45 x46 x47 x55 x56 x57 x60 x61 x548 x549 (wrap64 (x550 + 1))))
def laws_FnBreaksStrips.j1 : Nat → List Int → Int → Int → Bool → List Int → Int → Int → Int → Bool → Option (Bool)
 | 0, _, _, _, _, _, _, _, _, _ => none
 | k + 1, x1, x5, x6, x7, x8, x12, x20, x24, x272 => if x272 = true then (none) else (laws_FnBreaksStrips.l0 k x1 x5 x6 x7 x12 x20 x24 ([] : List Int) x8 (x8.length : Int) 0)
def laws_FnBreaksStrips.l0 : Nat → List Int → Int → Int → Bool → Int → Int → Int → List Int → List Int → Int → Int → Option (Bool)
 | 0, _, _, _, _, _, _, _, _, _, _, _ => none
 | k + 1, x1, x5, x6, x7, x12, x20, x24, x28, x273, x274, x275 => if x275 < x274 then (if 0 ≤ x275 then (if x275 < (x273.length : Int) then ((impl_StripValue.f k (rd x273 x275) x6 x7).bind fun bt446 => ((impl_StripValue.f k (wrap64 (x5 - (rd x273 x275))) x6 x7).bind fun bt448 => ((impl_LongestStripPlay.f k (rd x273 x275) x6 x7).bind fun bt450 => ((impl_LongestStripPlay.f k (wrap64 (x5 - (rd x273 x275))) x6 x7).bind fun bt452 => ((impl_ShortestStripPlay.f k (rd x273 x275) x6 x7).bind fun bt454 => ((impl_ShortestStripPlay.f k (wrap64 (x5 - (rd x273 x275))) x6 x7).bind fun bt456 => (if (rd x273 x275) < x6 then (none) else (if (wrap64 (2 * (rd x273 x275))) > x5 then (none) else (if x7 = true then (if (wrap64 (2 * (rd x273 x275))) = x5 then (none) else (if bt446.2 = true then (if bt448.2 = true then (if (Go.bits .xor .i64 bt446.1 bt448.1) = x12 then (none) else (if bt450.2 = true then (if bt452.2 = true then (if (wrap64 ((wrap64 (bt450.1 + bt452.1)) + 1)) > x20 then (none) else (if bt454.2 = true then (if bt456.2 = true then (if (wrap64 ((wrap64 (bt454.1 + bt456.1)) + 1)) < x24 then (none) else (if x28.length < 17592186044416 then (laws_FnBreaksStrips.l0 k x1 x5 x6 x7 x12 x20 x24 (x28 ++ [Go.bits .xor .i64 bt446.1 bt448.1]) x273 x274 (wrap64 (x275 + 1))) else (none))) else (none)) else (none))) else (none)) else (none))) else (none)) else (none))) else (if bt446.2 = true then (if bt448.2 = true then (if (Go.bits .xor .i64 bt446.1 bt448.1) = x12 then (none) else (if bt450.2 = true then (if bt452.2 = true then (if (wrap64 ((wrap64 (bt450.1 + bt452.1)) + 1)) > x20 then (none) else (if bt454.2 = true then (if bt456.2 = true then (if (wrap64 ((wrap64 (bt454.1 + bt456.1)) + 1)) < x24 then (none) else (if x28.length < 17592186044416 then (laws_FnBreaksStrips.l0 k x1 x5 x6 x7 x12 x20 x24 (x28 ++ [Go.bits .xor .i64 bt446.1 bt448.1]) x273 x274 (wrap64 (x275 + 1))) else (none))) else (none)) else (none))) else (none)) else (none))) else (none)) else (none))))))))))) else (none)) else (none)) else (laws_FnBreaksStrips.l1 k x1 x5 x6 x7 x12 x20 x28 0)
def laws_FnBreaksStrips.l1 : Nat → List Int → Int → Int → Bool → Int → Int → List Int → Int → Option (Bool)
 | 0, _, _, _, _, _, _, _, _ => none
 | k + 1, x1, x5, x6, x7, x12, x20, x28, x43 => if x43 < x12 then ((laws_yHas.f k x28 x43).bind fun t464 => (if t464 = true then (laws_FnBreaksStrips.l1 k x1 x5 x6 x7 x12 x20 x28 (wrap64 (x43 + 1))) else (none))) else (if x7 = true then (laws_FnBreaksStrips.j4 k x1) else (if x6 = 0 then (none) else (if x20 = (wrap64 ((wrap64 (Int.tdiv x5 x6)) - 1)) then (laws_FnBreaksStrips.j4 k x1) else (if x20 > 0 then (none) else (laws_FnBreaksStrips.j4 k x1)))))
end
def laws_FnBreaksStrips.f (k : Nat) (l0 : List Int) (l1 : List Int) : Option (Bool) := (laws_big.f l0 l1).bind fun t408 => (if t408 = true then (some true) else ((spec_DrawStripMoves.f l0).bind fun bt409 => ((impl_StripMoves.f k bt409.1 bt409.2.1 bt409.2.2).bind fun bt412 => ((spec_StripMoves.f k bt409.1 bt409.2.1 bt409.2.2).bind fun bt416 => ((impl_StripValue.f k bt409.1 bt409.2.1 bt409.2.2).bind fun bt420 => ((spec_StripValue.f k bt409.1 bt409.2.1 bt409.2.2).bind fun bt422 => ((impl_LostStrips.f k bt409.1 bt409.2.1 bt409.2.2).bind fun bt424 => ((spec_LostStrips.f k bt409.1 bt409.2.1 bt409.2.2).bind fun bt428 => ((impl_LongestStripPlay.f k bt409.1 bt409.2.1 bt409.2.2).bind fun bt432 => ((spec_LongestStripPlay.f k bt409.1 bt409.2.1 bt409.2.2).bind fun bt434 => ((impl_ShortestStripPlay.f k bt409.1 bt409.2.1 bt409.2.2).bind fun bt436 => ((spec_ShortestStripPlay.f k bt409.1 bt409.2.1 bt409.2.2).bind fun bt438 => (if (bt412.2 != bt416.2) = true then (laws_FnBreaksStrips.j0 k l1 bt409.1 bt409.2.1 bt409.2.2 bt412.1 bt412.2 bt420.1 bt424.1 bt432.1 bt436.1 true) else ((laws_ySame.f k bt412.1 bt416.1).bind fun t440 => (if t440 = true then (if (bt420.2 != bt422.2) = true then (laws_FnBreaksStrips.j0 k l1 bt409.1 bt409.2.1 bt409.2.2 bt412.1 bt412.2 bt420.1 bt424.1 bt432.1 bt436.1 true) else (if bt420.1 = bt422.1 then (if (bt424.2 != bt428.2) = true then (laws_FnBreaksStrips.j0 k l1 bt409.1 bt409.2.1 bt409.2.2 bt412.1 bt412.2 bt420.1 bt424.1 bt432.1 bt436.1 true) else ((laws_ySame.f k bt424.1 bt428.1).bind fun t441 => (if t441 = true then (if (bt432.2 != bt434.2) = true then (laws_FnBreaksStrips.j0 k l1 bt409.1 bt409.2.1 bt409.2.2 bt412.1 bt412.2 bt420.1 bt424.1 bt432.1 bt436.1 true) else (if bt432.1 = bt434.1 then (if (bt436.2 != bt438.2) = true then (laws_FnBreaksStrips.j0 k l1 bt409.1 bt409.2.1 bt409.2.2 bt412.1 bt412.2 bt420.1 bt424.1 bt432.1 bt436.1 true) else (if bt436.1 = bt438.1 then (if (bt420.2 != bt412.2) = true then (laws_FnBreaksStrips.j0 k l1 bt409.1 bt409.2.1 bt409.2.2 bt412.1 bt412.2 bt420.1 bt424.1 bt432.1 bt436.1 true) else (if (bt424.2 != bt412.2) = true then (laws_FnBreaksStrips.j0 k l1 bt409.1 bt409.2.1 bt409.2.2 bt412.1 bt412.2 bt420.1 bt424.1 bt432.1 bt436.1 true) else (if (bt432.2 != bt412.2) = true then (laws_FnBreaksStrips.j0 k l1 bt409.1 bt409.2.1 bt409.2.2 bt412.1 bt412.2 bt420.1 bt424.1 bt432.1 bt436.1 true) else (laws_FnBreaksStrips.j0 k l1 bt409.1 bt409.2.1 bt409.2.2 bt412.1 bt412.2 bt420.1 bt424.1 bt432.1 bt436.1 (bt436.2 != bt412.2))))) else (laws_FnBreaksStrips.j0 k l1 bt409.1 bt409.2.1 bt409.2.2 bt412.1 bt412.2 bt420.1 bt424.1 bt432.1 bt436.1 true))) else (laws_FnBreaksStrips.j0 k l1 bt409.1 bt409.2.1 bt409.2.2 bt412.1 bt412.2 bt420.1 bt424.1 bt432.1 bt436.1 true))) else (laws_FnBreaksStrips.j0 k l1 bt409.1 bt409.2.1 bt409.2.2 bt412.1 bt412.2 bt420.1 bt424.1 bt432.1 bt436.1 true)))) else (laws_FnBreaksStrips.j0 k l1 bt409.1 bt409.2.1 bt409.2.2 bt412.1 bt412.2 bt420.1 bt424.1 bt432.1 bt436.1 true))) else (laws_FnBreaksStrips.j0 k l1 bt409.1 bt409.2.1 bt409.2.2 bt412.1 bt412.2 bt420.1 bt424.1 bt432.1 bt436.1 true))))))))))))))))
theorem laws_FnBreaksStrips.j0_none k a0 a1 a2 a3 a4 a5 a6 a7 a8 a9 : laws_FnBreaksStrips.j0 k a0 a1 a2 a3 a4 a5 a6 a7 a8 a9 true = none := by
  cases k with
  | zero => simp only [laws_FnBreaksStrips.j0]
  | succ k => simp only [laws_FnBreaksStrips.j0, ↓reduceIte]
theorem laws_FnBreaksStrips.j1_none k a0 a1 a2 a3 a4 a5 a6 a7 : laws_FnBreaksStrips.j1 k a0 a1 a2 a3 a4 a5 a6 a7 true = none := by
  cases k with
  | zero => simp only [laws_FnBreaksStrips.j1]
  | succ k => simp only [laws_FnBreaksStrips.j1, ↓reduceIte]
theorem laws_FnBreaksStrips.j5_none k a0 a1 a2 a3 a4 a5 a6 a7 a8 a9 a10 : laws_FnBreaksStrips.j5 k a0 a1 a2 a3 a4 a5 a6 a7 a8 a9 a10 true = none := by
  cases k with
  | zero => simp only [laws_FnBreaksStrips.j5]
  | succ k => simp only [laws_FnBreaksStrips.j5, ↓reduceIte]
theorem laws_FnBreaksStrips.j8_none k a0 a1 a2 a3 a4 a5 a6 a7 a8 a9 a10 a11 : laws_FnBreaksStrips.j8 k a0 a1 a2 a3 a4 a5 a6 a7 a8 a9 a10 a11 true = none := by
  cases k with
  | zero => simp only [laws_FnBreaksStrips.j8]
  | succ k => simp only [laws_FnBreaksStrips.j8, ↓reduceIte]
def laws_FnBreaksStrips.T68 : Bool × List (List Nat × List Nat) := (true, [([], []), ([], []), ([1], [1]), ([2], [2]), ([], []), ([4], [4]), ([5], [5]), ([], []), ([], []), ([0, 3, 6, 7, 8], [0, 3, 6, 7, 8]), ([9], [9]), ([10], [10]), ([10], [10]), ([11, 9, 0, 1, 2, 3, 4, 5, 6, 7, 8, 9, 10, 11], [11]), ([12, 13, 0, 1, 2, 3, 4, 5, 6, 7, 8, 9, 10, 11, 12, 13], [12])])
def laws_FnBreaksStrips.B68 : List Nat := [0, 0, 2, 6, 0, 16, 48, 0, 0, 511, 1023, 2047, 2047, 4095, 16383]
theorem laws_FnBreaksStrips.tab68 : rtab .any (opsOf Try.f3 68) = laws_FnBreaksStrips.T68 := by kernel_rfl
theorem laws_FnBreaksStrips.bits68 : waitsOk laws_FnBreaksStrips.T68.2 laws_FnBreaksStrips.B68 = true := by kernel_rfl
set_option maxHeartbeats 40000000 in
set_option maxRecDepth 100000 in
theorem laws_FnBreaksStrips.calls (k : Nat) (A0 : Option Addr) (c0 : Nat) (l0 : List Int) (A1 : Option Addr) (c1 : Nat) (l1 : List Int) (r : Bool) (w : World) (hr0 : Kd.C (Kd.int .u8) w A0 l0.length l0) (hc0 : l0.length ≤ c0) (hr1 : Kd.C (Kd.int .u8) w A1 l1.length l1) (hc1 : l1.length ≤ c1) (h : laws_FnBreaksStrips.f k l0 l1 = some r) :
  Calls Try.prog 3 #[.slice A0 l0.length c0, .slice A1 l1.length c1] w fun e w' => e = .returned (.bool r) ∧ Below w.heap.size w w' := by
 have HR0 := Aside0.mk hr0; have HC0 := Aside0.mk hc0; clear hr0 hc0; have HR1 := Aside0.mk hr1; have HC1 := Aside0.mk hc1; clear hr1 hc1
 have HB := Aside0.mk (Below.refl w.heap.size w)
 have H : ((laws_big.f l0 l1).bind fun t408 => (if t408 = true then (some true) else ((spec_DrawStripMoves.f l0).bind fun bt409 => ((impl_StripMoves.f k bt409.1 bt409.2.1 bt409.2.2).bind fun bt412 => ((spec_StripMoves.f k bt409.1 bt409.2.1 bt409.2.2).bind fun bt416 => ((impl_StripValue.f k bt409.1 bt409.2.1 bt409.2.2).bind fun bt420 => ((spec_StripValue.f k bt409.1 bt409.2.1 bt409.2.2).bind fun bt422 => ((impl_LostStrips.f k bt409.1 bt409.2.1 bt409.2.2).bind fun bt424 => ((spec_LostStrips.f k bt409.1 bt409.2.1 bt409.2.2).bind fun bt428 => ((impl_LongestStripPlay.f k bt409.1 bt409.2.1 bt409.2.2).bind fun bt432 => ((spec_LongestStripPlay.f k bt409.1 bt409.2.1 bt409.2.2).bind fun bt434 => ((impl_ShortestStripPlay.f k bt409.1 bt409.2.1 bt409.2.2).bind fun bt436 => ((spec_ShortestStripPlay.f k bt409.1 bt409.2.1 bt409.2.2).bind fun bt438 => (if (bt412.2 != bt416.2) = true then (laws_FnBreaksStrips.j0 k l1 bt409.1 bt409.2.1 bt409.2.2 bt412.1 bt412.2 bt420.1 bt424.1 bt432.1 bt436.1 true) else ((laws_ySame.f k bt412.1 bt416.1).bind fun t440 => (if t440 = true then (if (bt420.2 != bt422.2) = true then (laws_FnBreaksStrips.j0 k l1 bt409.1 bt409.2.1 bt409.2.2 bt412.1 bt412.2 bt420.1 bt424.1 bt432.1 bt436.1 true) else (if bt420.1 = bt422.1 then (if (bt424.2 != bt428.2) = true then (laws_FnBreaksStrips.j0 k l1 bt409.1 bt409.2.1 bt409.2.2 bt412.1 bt412.2 bt420.1 bt424.1 bt432.1 bt436.1 true) else ((laws_ySame.f k bt424.1 bt428.1).bind fun t441 => (if t441 = true then (if (bt432.2 != bt434.2) = true then (laws_FnBreaksStrips.j0 k l1 bt409.1 bt409.2.1 bt409.2.2 bt412.1 bt412.2 bt420.1 bt424.1 bt432.1 bt436.1 true) else (if bt432.1 = bt434.1 then (if (bt436.2 != bt438.2) = true then (laws_FnBreaksStrips.j0 k l1 bt409.1 bt409.2.1 bt409.2.2 bt412.1 bt412.2 bt420.1 bt424.1 bt432.1 bt436.1 true) else (if bt436.1 = bt438.1 then (if (bt420.2 != bt412.2) = true then (laws_FnBreaksStrips.j0 k l1 bt409.1 bt409.2.1 bt409.2.2 bt412.1 bt412.2 bt420.1 bt424.1 bt432.1 bt436.1 true) else (if (bt424.2 != bt412.2) = true then (laws_FnBreaksStrips.j0 k l1 bt409.1 bt409.2.1 bt409.2.2 bt412.1 bt412.2 bt420.1 bt424.1 bt432.1 bt436.1 true) else (if (bt432.2 != bt412.2) = true then (laws_FnBreaksStrips.j0 k l1 bt409.1 bt409.2.1 bt409.2.2 bt412.1 bt412.2 bt420.1 bt424.1 bt432.1 bt436.1 true) else (laws_FnBreaksStrips.j0 k l1 bt409.1 bt409.2.1 bt409.2.2 bt412.1 bt412.2 bt420.1 bt424.1 bt432.1 bt436.1 (bt436.2 != bt412.2))))) else (laws_FnBreaksStrips.j0 k l1 bt409.1 bt409.2.1 bt409.2.2 bt412.1 bt412.2 bt420.1 bt424.1 bt432.1 bt436.1 true))) else (laws_FnBreaksStrips.j0 k l1 bt409.1 bt409.2.1 bt409.2.2 bt412.1 bt412.2 bt420.1 bt424.1 bt432.1 bt436.1 true))) else (laws_FnBreaksStrips.j0 k l1 bt409.1 bt409.2.1 bt409.2.2 bt412.1 bt412.2 bt420.1 bt424.1 bt432.1 bt436.1 true)))) else (laws_FnBreaksStrips.j0 k l1 bt409.1 bt409.2.1 bt409.2.2 bt412.1 bt412.2 bt420.1 bt424.1 bt432.1 bt436.1 true))) else (laws_FnBreaksStrips.j0 k l1 bt409.1 bt409.2.1 bt409.2.2 bt412.1 bt412.2 bt420.1 bt424.1 bt432.1 bt436.1 true))))))))))))))))) = some r := h
 clear h
 replace H := Option.bind_eq_some_iff.mp H
 obtain ⟨t408, A30, H⟩ := H
 (try dsimp only at H); have A3 := Aside0.mk A30; clear A30
 by_cases c4 : t408 = true
 ·subst c4
  have H1 : (some true) = some r := by rw [if_pos rfl] at H; exact H
  clear H; have H := H1; clear H1
  obtain rfl := Option.some.inj H
  go_enter Try.func3, Try.ntmps3
  go_wp2_with (first | ((with_reducible refine gate_callee (f := 5) rfl ?_); refine goesL_ (some 77) rfl rfl Try.func5 (by kernel_rfl) rfl #[.slice A0 l0.length c0, .slice A1 l1.length c1] rfl (by (try simp only [List.map_toArray, List.map_cons, List.map_nil]); first | done | rfl | (simp only [List.length_drop, List.length_take]; rfl)) ?_; (with_reducible refine (laws_big.calls _ _ l0 _ _ l1 true _ ?side1 ?side2 ?side3 ?side4 A3.out).mono ?_); (case side1 => repeat (first | exact HR0.out | (with_reducible refine Kd.C_alloc ?_ _) | (with_reducible refine Kd.C_drewN ?_ _) | (with_reducible refine Kd.C_drew ?_))); (case side2 => exact HC0.out); (case side3 => repeat (first | exact HR1.out | (with_reducible refine Kd.C_alloc ?_ _) | (with_reducible refine Kd.C_drewN ?_ _) | (with_reducible refine Kd.C_drew ?_))); (case side4 => exact HC1.out); rintro e w' ⟨rfl, ⟨nd, rfl⟩⟩; refine ⟨_, rfl, ?_⟩))
  go_ret
  exact ⟨by first | rfl | (simp [errW_none, errW_some] <;> rfl) | (simp [*, errW_none, errW_some] <;> rfl), Lam.al⟩
 ·replace c4 := Bool.eq_false_iff.mpr c4
  subst c4
  rw [if_neg (show ¬ (false = true) by decide)] at H
  replace H := Option.bind_eq_some_iff.mp H
  obtain ⟨⟨t409, t410, t411⟩, A50, H⟩ := H
  (try dsimp only at H); have A5 := Aside0.mk A50; clear A50
  replace H := Option.bind_eq_some_iff.mp H
  obtain ⟨⟨t412, t413⟩, A60, H⟩ := H
  (try dsimp only at H); have A6 := Aside0.mk A60; clear A60
  replace H := Option.bind_eq_some_iff.mp H
  obtain ⟨⟨t416, t417⟩, A70, H⟩ := H
  (try dsimp only at H); have A7 := Aside0.mk A70; clear A70
  replace H := Option.bind_eq_some_iff.mp H
  obtain ⟨⟨t420, t421⟩, A80, H⟩ := H
  (try dsimp only at H); have A8 := Aside0.mk A80; clear A80
  replace H := Option.bind_eq_some_iff.mp H
  obtain ⟨⟨t422, t423⟩, A90, H⟩ := H
  (try dsimp only at H); have A9 := Aside0.mk A90; clear A90
  replace H := Option.bind_eq_some_iff.mp H
  obtain ⟨⟨t424, t425⟩, A100, H⟩ := H
  (try dsimp only at H); have A10 := Aside0.mk A100; clear A100
  replace H := Option.bind_eq_some_iff.mp H
  obtain ⟨⟨t428, t429⟩, A110, H⟩ := H
  (try dsimp only at H); have A11 := Aside0.mk A110; clear A110
  replace H := Option.bind_eq_some_iff.mp H
  obtain ⟨⟨t432, t433⟩, A120, H⟩ := H
  (try dsimp only at H); have A12 := Aside0.mk A120; clear A120
  replace H := Option.bind_eq_some_iff.mp H
  obtain ⟨⟨t434, t435⟩, A130, H⟩ := H
  (try dsimp only at H); have A13 := Aside0.mk A130; clear A130
  replace H := Option.bind_eq_some_iff.mp H
  obtain ⟨⟨t436, t437⟩, A140, H⟩ := H
  (try dsimp only at H); have A14 := Aside0.mk A140; clear A140
  replace H := Option.bind_eq_some_iff.mp H
  obtain ⟨⟨t438, t439⟩, A150, H⟩ := H
  (try dsimp only at H); have A15 := Aside0.mk A150; clear A150; have HC16 := Aside0.mk H; clear H
  go_enter Try.func3, Try.ntmps3
  go_upto_region 14 with (first | ((with_reducible refine gate_callee (f := 5) rfl ?_); refine goesL_ (some 77) rfl rfl Try.func5 (by kernel_rfl) rfl #[.slice A0 l0.length c0, .slice A1 l1.length c1] rfl (by (try simp only [List.map_toArray, List.map_cons, List.map_nil]); first | done | rfl | (simp only [List.length_drop, List.length_take]; rfl)) ?_; (with_reducible refine (laws_big.calls _ _ l0 _ _ l1 false _ ?side1 ?side2 ?side3 ?side4 A3.out).mono ?_); (case side1 => repeat (first | exact HR0.out | (with_reducible refine Kd.C_alloc ?_ _) | (with_reducible refine Kd.C_drewN ?_ _) | (with_reducible refine Kd.C_drew ?_))); (case side2 => exact HC0.out); (case side3 => repeat (first | exact HR1.out | (with_reducible refine Kd.C_alloc ?_ _) | (with_reducible refine Kd.C_drewN ?_ _) | (with_reducible refine Kd.C_drew ?_))); (case side4 => exact HC1.out); rintro e w' ⟨rfl, ⟨nd, rfl⟩⟩; refine ⟨_, rfl, ?_⟩) | ((with_reducible refine gate_callee (f := 6) rfl ?_); refine goesL_ (some 80) rfl rfl Try.func6 (by kernel_rfl) rfl #[.slice A0 l0.length c0] rfl (by (try simp only [List.map_toArray, List.map_cons, List.map_nil]); first | done | rfl | (simp only [List.length_drop, List.length_take]; rfl)) ?_; (with_reducible refine (spec_DrawStripMoves.calls _ _ l0 t409 t410 t411 _ ?side1 ?side2 A5.out).mono ?_); (case side1 => repeat (first | exact HR0.out | (with_reducible refine Kd.C_alloc ?_ _) | (with_reducible refine Kd.C_drewN ?_ _) | (with_reducible refine Kd.C_drew ?_))); (case side2 => exact HC0.out); rintro e w17 ⟨rfl, hb⟩; refine ⟨_, rfl, ?_⟩; have n0_ := Aside0.mk (below_step (Lam.al) hb); clear HB; have HB := n0_; clear n0_; (try clear hb); (try clear hb2); (try clear hk); (try clear hi)) | ((with_reducible refine gate_callee (f := 7) rfl ?_); refine goesL_ (some 88) rfl rfl Try.func7 (by kernel_rfl) rfl #[.int .i64 t409, .int .i64 t410, .bool t411] rfl (by (try simp only [List.map_toArray, List.map_cons, List.map_nil]); first | done | rfl | (simp only [List.length_drop, List.length_take]; rfl)) ?_; (with_reducible refine (impl_StripMoves.calls k t409 t410 t411 t412 t413 _ A6.out).mono ?_); rintro e w18 ⟨v414, rfl, ho0, hb⟩; refine ⟨_, rfl, ?_⟩; have n0_ := Aside0.mk (Kd.R_lower ho0 (below_size (Lam.al))); have n1_ := Aside0.mk (below_step (Lam.al) hb); clear HB; have HO415 := n0_; have HB := n1_; clear n0_ n1_; (try clear hb); (try clear hb2); (try clear hk); (try clear hi); (try clear ho0)) | ((with_reducible refine gate_callee (f := 8) rfl ?_); refine goesL_ (some 95) rfl rfl Try.func8 (by kernel_rfl) rfl #[.int .i64 t409, .int .i64 t410, .bool t411] rfl (by (try simp only [List.map_toArray, List.map_cons, List.map_nil]); first | done | rfl | (simp only [List.length_drop, List.length_take]; rfl)) ?_; (with_reducible refine (spec_StripMoves.calls k t409 t410 t411 t416 t417 _ A7.out).mono ?_); rintro e w19 ⟨v418, rfl, ho0, hb⟩; refine ⟨_, rfl, ?_⟩; have n0_ := Aside0.mk (Kd.R_elder' (Lam.rq HO415.out) (Kd.R_base ho0) hb); have n1_ := Aside0.mk (Kd.R_lower (Kd.R_new' ho0 (Kd.R_lt (Lam.rq HO415.out))) (below_size (Lam.al))); have n2_ := Aside0.mk (below_step (Lam.al) hb); clear HO415; clear HB; have HO415 := n0_; have HO419 := n1_; have HB := n2_; clear n0_ n1_ n2_; (try clear hb); (try clear hb2); (try clear hk); (try clear hi); (try clear ho0)) | ((with_reducible refine gate_callee (f := 9) rfl ?_); refine goesL_ (some 102) rfl rfl Try.func9 (by kernel_rfl) rfl #[.int .i64 t409, .int .i64 t410, .bool t411] rfl (by (try simp only [List.map_toArray, List.map_cons, List.map_nil]); first | done | rfl | (simp only [List.length_drop, List.length_take]; rfl)) ?_; (with_reducible refine (impl_StripValue.calls k t409 t410 t411 t420 t421 _ A8.out).mono ?_); rintro e w20 ⟨rfl, hb⟩; refine ⟨_, rfl, ?_⟩; have n0_ := Aside0.mk (Kd.R_below (Lam.rq HO415.out) hb); have n1_ := Aside0.mk (Kd.R_below (Lam.rq HO419.out) hb); have n2_ := Aside0.mk (below_step (Lam.al) hb); clear HO415; clear HO419; clear HB; have HO415 := n0_; have HO419 := n1_; have HB := n2_; clear n0_ n1_ n2_; (try clear hb); (try clear hb2); (try clear hk); (try clear hi)) | ((with_reducible refine gate_callee (f := 10) rfl ?_); refine goesL_ (some 109) rfl rfl Try.func10 (by kernel_rfl) rfl #[.int .i64 t409, .int .i64 t410, .bool t411] rfl (by (try simp only [List.map_toArray, List.map_cons, List.map_nil]); first | done | rfl | (simp only [List.length_drop, List.length_take]; rfl)) ?_; (with_reducible refine (spec_StripValue.calls k t409 t410 t411 t422 t423 _ A9.out).mono ?_); rintro e w21 ⟨rfl, hb⟩; refine ⟨_, rfl, ?_⟩; have n0_ := Aside0.mk (Kd.R_below (Lam.rq HO415.out) hb); have n1_ := Aside0.mk (Kd.R_below (Lam.rq HO419.out) hb); have n2_ := Aside0.mk (below_step (Lam.al) hb); clear HO415; clear HO419; clear HB; have HO415 := n0_; have HO419 := n1_; have HB := n2_; clear n0_ n1_ n2_; (try clear hb); (try clear hb2); (try clear hk); (try clear hi)) | ((with_reducible refine gate_callee (f := 11) rfl ?_); refine goesL_ (some 116) rfl rfl Try.func11 (by kernel_rfl) rfl #[.int .i64 t409, .int .i64 t410, .bool t411] rfl (by (try simp only [List.map_toArray, List.map_cons, List.map_nil]); first | done | rfl | (simp only [List.length_drop, List.length_take]; rfl)) ?_; (with_reducible refine (impl_LostStrips.calls k t409 t410 t411 t424 t425 _ A10.out).mono ?_); rintro e w22 ⟨v426, rfl, ho0, hb⟩; refine ⟨_, rfl, ?_⟩; have n0_ := Aside0.mk (Kd.R_elder' (Lam.rq HO415.out) (Kd.R_base ho0) hb); have n1_ := Aside0.mk (Kd.R_elder' (Lam.rq HO419.out) (Kd.R_base ho0) hb); have n2_ := Aside0.mk (Kd.R_lower (Kd.R_new' (Kd.R_new' ho0 (Kd.R_lt (Lam.rq HO415.out))) (Kd.R_lt (Lam.rq HO419.out))) (below_size (Lam.al))); have n3_ := Aside0.mk (below_step (Lam.al) hb); clear HO415; clear HO419; clear HB; have HO415 := n0_; have HO419 := n1_; have HO427 := n2_; have HB := n3_; clear n0_ n1_ n2_ n3_; (try clear hb); (try clear hb2); (try clear hk); (try clear hi); (try clear ho0)) | ((with_reducible refine gate_callee (f := 12) rfl ?_); refine goesL_ (some 123) rfl rfl Try.func12 (by kernel_rfl) rfl #[.int .i64 t409, .int .i64 t410, .bool t411] rfl (by (try simp only [List.map_toArray, List.map_cons, List.map_nil]); first | done | rfl | (simp only [List.length_drop, List.length_take]; rfl)) ?_; (with_reducible refine (spec_LostStrips.calls k t409 t410 t411 t428 t429 _ A11.out).mono ?_); rintro e w23 ⟨v430, rfl, ho0, hb⟩; refine ⟨_, rfl, ?_⟩; have n0_ := Aside0.mk (Kd.R_elder' (Lam.rq HO415.out) (Kd.R_base ho0) hb); have n1_ := Aside0.mk (Kd.R_elder' (Lam.rq HO419.out) (Kd.R_base ho0) hb); have n2_ := Aside0.mk (Kd.R_elder' (Lam.rq HO427.out) (Kd.R_base ho0) hb); have n3_ := Aside0.mk (Kd.R_lower (Kd.R_new' (Kd.R_new' (Kd.R_new' ho0 (Kd.R_lt (Lam.rq HO415.out))) (Kd.R_lt (Lam.rq HO419.out))) (Kd.R_lt (Lam.rq HO427.out))) (below_size (Lam.al))); have n4_ := Aside0.mk (below_step (Lam.al) hb); clear HO415; clear HO419; clear HO427; clear HB; have HO415 := n0_; have HO419 := n1_; have HO427 := n2_; have HO431 := n3_; have HB := n4_; clear n0_ n1_ n2_ n3_ n4_; (try clear hb); (try clear hb2); (try clear hk); (try clear hi); (try clear ho0)) | ((with_reducible refine gate_callee (f := 13) rfl ?_); refine goesL_ (some 130) rfl rfl Try.func13 (by kernel_rfl) rfl #[.int .i64 t409, .int .i64 t410, .bool t411] rfl (by (try simp only [List.map_toArray, List.map_cons, List.map_nil]); first | done | rfl | (simp only [List.length_drop, List.length_take]; rfl)) ?_; (with_reducible refine (impl_LongestStripPlay.calls k t409 t410 t411 t432 t433 _ A12.out).mono ?_); rintro e w24 ⟨rfl, hb⟩; refine ⟨_, rfl, ?_⟩; have n0_ := Aside0.mk (Kd.R_below (Lam.rq HO415.out) hb); have n1_ := Aside0.mk (Kd.R_below (Lam.rq HO419.out) hb); have n2_ := Aside0.mk (Kd.R_below (Lam.rq HO427.out) hb); have n3_ := Aside0.mk (Kd.R_below (Lam.rq HO431.out) hb); have n4_ := Aside0.mk (below_step (Lam.al) hb); clear HO415; clear HO419; clear HO427; clear HO431; clear HB; have HO415 := n0_; have HO419 := n1_; have HO427 := n2_; have HO431 := n3_; have HB := n4_; clear n0_ n1_ n2_ n3_ n4_; (try clear hb); (try clear hb2); (try clear hk); (try clear hi)) | ((with_reducible refine gate_callee (f := 14) rfl ?_); refine goesL_ (some 137) rfl rfl Try.func14 (by kernel_rfl) rfl #[.int .i64 t409, .int .i64 t410, .bool t411] rfl (by (try simp only [List.map_toArray, List.map_cons, List.map_nil]); first | done | rfl | (simp only [List.length_drop, List.length_take]; rfl)) ?_; (with_reducible refine (spec_LongestStripPlay.calls k t409 t410 t411 t434 t435 _ A13.out).mono ?_); rintro e w25 ⟨rfl, hb⟩; refine ⟨_, rfl, ?_⟩; have n0_ := Aside0.mk (Kd.R_below (Lam.rq HO415.out) hb); have n1_ := Aside0.mk (Kd.R_below (Lam.rq HO419.out) hb); have n2_ := Aside0.mk (Kd.R_below (Lam.rq HO427.out) hb); have n3_ := Aside0.mk (Kd.R_below (Lam.rq HO431.out) hb); have n4_ := Aside0.mk (below_step (Lam.al) hb); clear HO415; clear HO419; clear HO427; clear HO431; clear HB; have HO415 := n0_; have HO419 := n1_; have HO427 := n2_; have HO431 := n3_; have HB := n4_; clear n0_ n1_ n2_ n3_ n4_; (try clear hb); (try clear hb2); (try clear hk); (try clear hi)) | ((with_reducible refine gate_callee (f := 15) rfl ?_); refine goesL_ (some 144) rfl rfl Try.func15 (by kernel_rfl) rfl #[.int .i64 t409, .int .i64 t410, .bool t411] rfl (by (try simp only [List.map_toArray, List.map_cons, List.map_nil]); first | done | rfl | (simp only [List.length_drop, List.length_take]; rfl)) ?_; (with_reducible refine (impl_ShortestStripPlay.calls k t409 t410 t411 t436 t437 _ A14.out).mono ?_); rintro e w26 ⟨rfl, hb⟩; refine ⟨_, rfl, ?_⟩; have n0_ := Aside0.mk (Kd.R_below (Lam.rq HO415.out) hb); have n1_ := Aside0.mk (Kd.R_below (Lam.rq HO419.out) hb); have n2_ := Aside0.mk (Kd.R_below (Lam.rq HO427.out) hb); have n3_ := Aside0.mk (Kd.R_below (Lam.rq HO431.out) hb); have n4_ := Aside0.mk (below_step (Lam.al) hb); clear HO415; clear HO419; clear HO427; clear HO431; clear HB; have HO415 := n0_; have HO419 := n1_; have HO427 := n2_; have HO431 := n3_; have HB := n4_; clear n0_ n1_ n2_ n3_ n4_; (try clear hb); (try clear hb2); (try clear hk); (try clear hi)) | ((with_reducible refine gate_callee (f := 16) rfl ?_); refine goesL_ (some 151) rfl rfl Try.func16 (by kernel_rfl) rfl #[.int .i64 t409, .int .i64 t410, .bool t411] rfl (by (try simp only [List.map_toArray, List.map_cons, List.map_nil]); first | done | rfl | (simp only [List.length_drop, List.length_take]; rfl)) ?_; (with_reducible refine (spec_ShortestStripPlay.calls k t409 t410 t411 t438 t439 _ A15.out).mono ?_); rintro e w27 ⟨rfl, hb⟩; refine ⟨_, rfl, ?_⟩; have n0_ := Aside0.mk (Kd.R_below (Lam.rq HO415.out) hb); have n1_ := Aside0.mk (Kd.R_below (Lam.rq HO419.out) hb); have n2_ := Aside0.mk (Kd.R_below (Lam.rq HO427.out) hb); have n3_ := Aside0.mk (Kd.R_below (Lam.rq HO431.out) hb); have n4_ := Aside0.mk (below_step (Lam.al) hb); clear HO415; clear HO419; clear HO427; clear HO431; clear HB; have HO415 := n0_; have HO419 := n1_; have HO427 := n2_; have HO431 := n3_; have HB := n4_; clear n0_ n1_ n2_ n3_ n4_; (try clear hb); (try clear hb2); (try clear hk); (try clear hi)))
  (try simp only [Act.put, Lam.pa, Lam.pb, Lam.pc])
  refine CutK.wp_cut3 (CutK.rl [75,0,148,1,1,2,49,1,3,0,249,1,3,0,20,1,3,0,119,1]) (fun v223 _ _ wc => ∃ (kq : Nat) (x223_15 : Bool), v223 = .bool x223_15 ∧ Aside0 (laws_FnBreaksStrips.j0 kq l1 t409 t410 t411 t412 t413 t420 t424 t432 t436 x223_15 = some r) ∧ Aside0 (kq ≤ k) ∧ Aside0 (Kd.R (Kd.int .i64) 3 wc w.heap.size (fun k_ => some k_ ≠ (v426 : Value).ownBlock) v414 t412) ∧ Aside0 (Kd.R (Kd.int .i64) 3 wc w.heap.size (fun k_ => some k_ ≠ (v414 : Value).ownBlock) v426 t424) ∧ Aside0 (Below w.heap.size w wc)) ?rest0 ?first0
  case first0 => as_aux_lemma =>
   intro J_ K_ hJ_0 hK_
   dsimp only [CutK.rl, List.replicate, List.cons_append, List.nil_append] at hJ_0
   have H := HC16.out; clear HC16
   obtain ⟨Ao70, co70, eo70⟩ := Kd.R_slice HO415.out
   subst eo70
   obtain ⟨Ao71, co71, eo71⟩ := Kd.R_slice HO419.out
   subst eo71
   refine wp_region_lit ?_
   try simp only [List.append]
   refine CutK.seg 4 ?_; intro R_ hR_; simp only [List.take_succ_cons, List.take_zero, List.drop_succ_cons, List.drop_zero, List.cons_append, List.nil_append] at hR_ ⊢; go_wp2; refine hR_ _ _ ?_; clear hR_ R_
   by_cases c28 : (t413 != t417) = true
   ·rw [if_pos c28] at H
    have c28b0 : (t413 != t417) = true := c28; (try (have c28b1 : decide (t413 = t417) = false := by simpa using c28)); (try (have c28b2 : (t413 == t417) = false := by simpa using c28)); (try (have c28b3 : ¬ (t413 = t417) := by simpa using c28)); clear c28
    (first | rw [c28b0] | (simp only [i64_w, i32_w]; rw [c28b0]) | skip)
    exact absurd H (by rw [laws_FnBreaksStrips.j0_none]; simp)
   ·rw [if_neg c28] at H
    have c28b0 : (t413 != t417) = false := by simpa using c28
    (try (have c28b1 : decide (t413 = t417) = true := by simpa using c28)); (try (have c28b2 : (t413 == t417) = true := by simpa using c28)); clear c28
    (first | rw [c28b0] | (simp only [i64_w, i32_w]; rw [c28b0]) | skip)
    replace H := Option.bind_eq_some_iff.mp H
    obtain ⟨t440, A300, H⟩ := H
    (try dsimp only at H); have A30 := Aside0.mk A300; clear A300
    refine CutK.seg 6 ?_; intro R_ hR_; simp only [List.take_succ_cons, List.take_zero, List.drop_succ_cons, List.drop_zero, List.cons_append, List.nil_append] at hR_ ⊢; go_wp2_with (first | (go_at_call 17; (with_reducible refine (laws_ySame.calls k _ _ t412 _ _ t416 _ _ ?side1 ?side2 ?side3 ?side4 A30.out).mono ?_); (case side1 => repeat (first | exact (Kd.R_reads' HO415.out).2.2 | (with_reducible refine Kd.C_alloc ?_ _) | (with_reducible refine Kd.C_drewN ?_ _) | (with_reducible refine Kd.C_drew ?_))); (case side2 => exact (Kd.R_reads' HO415.out).2.1); (case side3 => repeat (first | exact (Kd.R_reads' HO419.out).2.2 | (with_reducible refine Kd.C_alloc ?_ _) | (with_reducible refine Kd.C_drewN ?_ _) | (with_reducible refine Kd.C_drew ?_))); (case side4 => exact (Kd.R_reads' HO419.out).2.1); rintro e w' ⟨rfl, ⟨nd, rfl⟩⟩; obtain ⟨Ao72, co72, eo72⟩ := Kd.R_slice HO427.out; subst eo72; obtain ⟨Ao73, co73, eo73⟩ := Kd.R_slice HO431.out; subst eo73)); refine hR_ _ _ ?_; clear hR_ R_
    by_cases c31 : t440 = true
    ·subst c31
     rw [if_pos rfl] at H
     refine CutK.seg 5 ?_; intro R_ hR_; simp only [List.take_succ_cons, List.take_zero, List.drop_succ_cons, List.drop_zero, List.cons_append, List.nil_append] at hR_ ⊢; go_wp2; refine hR_ _ _ ?_; clear hR_ R_
     by_cases c32 : (t421 != t423) = true
     ·rw [if_pos c32] at H
      have c32b0 : (t421 != t423) = true := c32; (try (have c32b1 : decide (t421 = t423) = false := by simpa using c32)); (try (have c32b2 : (t421 == t423) = false := by simpa using c32)); (try (have c32b3 : ¬ (t421 = t423) := by simpa using c32)); clear c32
      exact absurd H (by rw [laws_FnBreaksStrips.j0_none]; simp)
     ·rw [if_neg c32] at H
      have c32b0 : (t421 != t423) = false := by simpa using c32
      (try (have c32b1 : decide (t421 = t423) = true := by simpa using c32)); (try (have c32b2 : (t421 == t423) = true := by simpa using c32)); clear c32
      refine CutK.seg 5 ?_; intro R_ hR_; simp only [List.take_succ_cons, List.take_zero, List.drop_succ_cons, List.drop_zero, List.cons_append, List.nil_append] at hR_ ⊢; go_wp2; refine hR_ _ _ ?_; clear hR_ R_
      by_cases c36 : t420 = t422
      ·rw [if_pos c36] at H
       have c36b0 : (t420 == t422) = true := beq_iff_eq.mpr c36; have c36b1 : (t420 != t422) = false := bne_eq_false_iff_eq.mpr c36; clear c36
       refine CutK.seg 5 ?_; intro R_ hR_; simp only [List.take_succ_cons, List.take_zero, List.drop_succ_cons, List.drop_zero, List.cons_append, List.nil_append] at hR_ ⊢; go_wp2; refine hR_ _ _ ?_; clear hR_ R_
       by_cases c37 : (t425 != t429) = true
       ·rw [if_pos c37] at H
        have c37b0 : (t425 != t429) = true := c37; (try (have c37b1 : decide (t425 = t429) = false := by simpa using c37)); (try (have c37b2 : (t425 == t429) = false := by simpa using c37)); (try (have c37b3 : ¬ (t425 = t429) := by simpa using c37)); clear c37
        exact absurd H (by rw [laws_FnBreaksStrips.j0_none]; simp)
       ·rw [if_neg c37] at H
        have c37b0 : (t425 != t429) = false := by simpa using c37
        (try (have c37b1 : decide (t425 = t429) = true := by simpa using c37)); (try (have c37b2 : (t425 == t429) = true := by simpa using c37)); clear c37
        replace H := Option.bind_eq_some_iff.mp H
        obtain ⟨t441, A410, H⟩ := H
        (try dsimp only at H); have A41 := Aside0.mk A410; clear A410
        refine CutK.seg 6 ?_; intro R_ hR_; simp only [List.take_succ_cons, List.take_zero, List.drop_succ_cons, List.drop_zero, List.cons_append, List.nil_append] at hR_ ⊢; go_wp2_with (first | (go_at_call 17; (with_reducible refine (laws_ySame.calls k _ _ t424 _ _ t428 _ _ ?side1 ?side2 ?side3 ?side4 A41.out).mono ?_); (case side1 => repeat (first | exact (Kd.R_reads' HO427.out).2.2 | (with_reducible refine Kd.C_alloc ?_ _) | (with_reducible refine Kd.C_drewN ?_ _) | (with_reducible refine Kd.C_drew ?_))); (case side2 => exact (Kd.R_reads' HO427.out).2.1); (case side3 => repeat (first | exact (Kd.R_reads' HO431.out).2.2 | (with_reducible refine Kd.C_alloc ?_ _) | (with_reducible refine Kd.C_drewN ?_ _) | (with_reducible refine Kd.C_drew ?_))); (case side4 => exact (Kd.R_reads' HO431.out).2.1); rintro e w' ⟨rfl, ⟨nd, rfl⟩⟩)); refine hR_ _ _ ?_; clear hR_ R_
        by_cases c42 : t441 = true
        ·subst c42
         rw [if_pos rfl] at H
         refine CutK.seg 5 ?_; intro R_ hR_; simp only [List.take_succ_cons, List.take_zero, List.drop_succ_cons, List.drop_zero, List.cons_append, List.nil_append] at hR_ ⊢; go_wp2; refine hR_ _ _ ?_; clear hR_ R_
         by_cases c43 : (t433 != t435) = true
         ·rw [if_pos c43] at H
          have c43b0 : (t433 != t435) = true := c43; (try (have c43b1 : decide (t433 = t435) = false := by simpa using c43)); (try (have c43b2 : (t433 == t435) = false := by simpa using c43)); (try (have c43b3 : ¬ (t433 = t435) := by simpa using c43)); clear c43
          exact absurd H (by rw [laws_FnBreaksStrips.j0_none]; simp)
         ·rw [if_neg c43] at H
          have c43b0 : (t433 != t435) = false := by simpa using c43
          (try (have c43b1 : decide (t433 = t435) = true := by simpa using c43)); (try (have c43b2 : (t433 == t435) = true := by simpa using c43)); clear c43
          refine CutK.seg 5 ?_; intro R_ hR_; simp only [List.take_succ_cons, List.take_zero, List.drop_succ_cons, List.drop_zero, List.cons_append, List.nil_append] at hR_ ⊢; go_wp2; refine hR_ _ _ ?_; clear hR_ R_
          by_cases c49 : t432 = t434
          ·rw [if_pos c49] at H
           have c49b0 : (t432 == t434) = true := beq_iff_eq.mpr c49; have c49b1 : (t432 != t434) = false := bne_eq_false_iff_eq.mpr c49; clear c49
           refine CutK.seg 5 ?_; intro R_ hR_; simp only [List.take_succ_cons, List.take_zero, List.drop_succ_cons, List.drop_zero, List.cons_append, List.nil_append] at hR_ ⊢; go_wp2; refine hR_ _ _ ?_; clear hR_ R_
           by_cases c50 : (t437 != t439) = true
           ·rw [if_pos c50] at H
            have c50b0 : (t437 != t439) = true := c50; (try (have c50b1 : decide (t437 = t439) = false := by simpa using c50)); (try (have c50b2 : (t437 == t439) = false := by simpa using c50)); (try (have c50b3 : ¬ (t437 = t439) := by simpa using c50)); clear c50
            exact absurd H (by rw [laws_FnBreaksStrips.j0_none]; simp)
           ·rw [if_neg c50] at H
            have c50b0 : (t437 != t439) = false := by simpa using c50
            (try (have c50b1 : decide (t437 = t439) = true := by simpa using c50)); (try (have c50b2 : (t437 == t439) = true := by simpa using c50)); clear c50
            refine CutK.seg 5 ?_; intro R_ hR_; simp only [List.take_succ_cons, List.take_zero, List.drop_succ_cons, List.drop_zero, List.cons_append, List.nil_append] at hR_ ⊢; go_wp2; refine hR_ _ _ ?_; clear hR_ R_
            by_cases c56 : t436 = t438
            ·rw [if_pos c56] at H
             have c56b0 : (t436 == t438) = true := beq_iff_eq.mpr c56; have c56b1 : (t436 != t438) = false := bne_eq_false_iff_eq.mpr c56; clear c56
             refine CutK.seg 5 ?_; intro R_ hR_; simp only [List.take_succ_cons, List.take_zero, List.drop_succ_cons, List.drop_zero, List.cons_append, List.nil_append] at hR_ ⊢; go_wp2; refine hR_ _ _ ?_; clear hR_ R_
             by_cases c57 : (t421 != t413) = true
             ·rw [if_pos c57] at H
              have c57b0 : (t421 != t413) = true := c57; (try (have c57b1 : decide (t421 = t413) = false := by simpa using c57)); (try (have c57b2 : (t421 == t413) = false := by simpa using c57)); (try (have c57b3 : ¬ (t421 = t413) := by simpa using c57)); clear c57
              exact absurd H (by rw [laws_FnBreaksStrips.j0_none]; simp)
             ·rw [if_neg c57] at H
              have c57b0 : (t421 != t413) = false := by simpa using c57
              (try (have c57b1 : decide (t421 = t413) = true := by simpa using c57)); (try (have c57b2 : (t421 == t413) = true := by simpa using c57)); clear c57
              refine CutK.seg 5 ?_; intro R_ hR_; simp only [List.take_succ_cons, List.take_zero, List.drop_succ_cons, List.drop_zero, List.cons_append, List.nil_append] at hR_ ⊢; go_wp2; refine hR_ _ _ ?_; clear hR_ R_
              by_cases c63 : (t425 != t413) = true
              ·rw [if_pos c63] at H
               have c63b0 : (t425 != t413) = true := c63; (try (have c63b1 : decide (t425 = t413) = false := by simpa using c63)); (try (have c63b2 : (t425 == t413) = false := by simpa using c63)); (try (have c63b3 : ¬ (t425 = t413) := by simpa using c63)); clear c63
               exact absurd H (by rw [laws_FnBreaksStrips.j0_none]; simp)
              ·rw [if_neg c63] at H
               have c63b0 : (t425 != t413) = false := by simpa using c63
               (try (have c63b1 : decide (t425 = t413) = true := by simpa using c63)); (try (have c63b2 : (t425 == t413) = true := by simpa using c63)); clear c63
               by_cases c69 : (t433 != t413) = true
               ·rw [if_pos c69] at H
                have c69b0 : (t433 != t413) = true := c69; (try (have c69b1 : decide (t433 = t413) = false := by simpa using c69)); (try (have c69b2 : (t433 == t413) = false := by simpa using c69)); (try (have c69b3 : ¬ (t433 = t413) := by simpa using c69)); clear c69
                exact absurd H (by rw [laws_FnBreaksStrips.j0_none]; simp)
               ·rw [if_neg c69] at H
                have c69b0 : (t433 != t413) = false := by simpa using c69
                (try (have c69b1 : decide (t433 = t413) = true := by simpa using c69)); (try (have c69b2 : (t433 == t413) = true := by simpa using c69)); clear c69; have H' := Aside0.mk H; clear H
                go_wp2_with (first | (go_at_call 17; (with_reducible refine (laws_ySame.calls k _ _ t412 _ _ t416 true _ ?side1 ?side2 ?side3 ?side4 A30.out).mono ?_); (case side1 => repeat (first | exact (Kd.R_reads' HO415.out).2.2 | (with_reducible refine Kd.C_alloc ?_ _) | (with_reducible refine Kd.C_drewN ?_ _) | (with_reducible refine Kd.C_drew ?_))); (case side2 => exact (Kd.R_reads' HO415.out).2.1); (case side3 => repeat (first | exact (Kd.R_reads' HO419.out).2.2 | (with_reducible refine Kd.C_alloc ?_ _) | (with_reducible refine Kd.C_drewN ?_ _) | (with_reducible refine Kd.C_drew ?_))); (case side4 => exact (Kd.R_reads' HO419.out).2.1); rintro e w' ⟨rfl, ⟨nd, rfl⟩⟩; obtain ⟨Ao77, co77, eo77⟩ := Kd.R_slice HO427.out; subst eo77; obtain ⟨Ao78, co78, eo78⟩ := Kd.R_slice HO431.out; subst eo78) | (go_at_call 17; (with_reducible refine (laws_ySame.calls k _ _ t424 _ _ t428 true _ ?side1 ?side2 ?side3 ?side4 A41.out).mono ?_); (case side1 => repeat (first | exact (Kd.R_reads' HO427.out).2.2 | (with_reducible refine Kd.C_alloc ?_ _) | (with_reducible refine Kd.C_drewN ?_ _) | (with_reducible refine Kd.C_drew ?_))); (case side2 => exact (Kd.R_reads' HO427.out).2.1); (case side3 => repeat (first | exact (Kd.R_reads' HO431.out).2.2 | (with_reducible refine Kd.C_alloc ?_ _) | (with_reducible refine Kd.C_drewN ?_ _) | (with_reducible refine Kd.C_drew ?_))); (case side4 => exact (Kd.R_reads' HO431.out).2.1); rintro e w' ⟨rfl, ⟨nd, rfl⟩⟩))
                refine Met.intro (hJ_0 _ ?va79 undef undef _ ?kp ?rel)
                case kp => simp only [↓CutK.keep0, ↓CutK.keep1, ↓CutK.keep2, ↓CutK.keep3, ↓CutK.keep4, ↓CutK.keepN, true_and, and_true] <;> exact rfl
                case rel => exact ⟨_, ((t437 != t413)), (by first | rfl | (simp; done) | (simp [*]; done) | (simp; exact Lam.bxe _ _)), H', ⟨by first | omega | exact Nat.le_refl _⟩, ⟨by (with_reducible repeat (first | apply Kd.R_alloc | apply Kd.R_drewN | apply Kd.R_drew)); exact Kd.R_mono HO415.out (fun _ hk => hk.1.2)⟩, ⟨by (with_reducible repeat (first | apply Kd.R_alloc | apply Kd.R_drewN | apply Kd.R_drew)); exact Kd.R_mono HO427.out (fun _ hk => hk.1.1.2)⟩, ⟨Lam.al⟩⟩
            ·rw [if_neg c56] at H
             have c56b0 : (t436 == t438) = false := beq_eq_false_iff_ne.mpr c56
             have c56b1 : (t436 != t438) = true := bne_iff_ne.mpr c56
             exact absurd H (by rw [laws_FnBreaksStrips.j0_none]; simp)
          ·rw [if_neg c49] at H
           have c49b0 : (t432 == t434) = false := beq_eq_false_iff_ne.mpr c49
           have c49b1 : (t432 != t434) = true := bne_iff_ne.mpr c49
           exact absurd H (by rw [laws_FnBreaksStrips.j0_none]; simp)
        ·replace c42 := Bool.eq_false_iff.mpr c42
         subst c42
         have H1 : (laws_FnBreaksStrips.j0 k l1 t409 t410 t411 t412 t413 t420 t424 t432 t436 true) = some r := by rw [if_neg (show ¬ (false = true) by decide)] at H; exact H
         clear H; have H := H1; clear H1
         exact absurd H (by rw [laws_FnBreaksStrips.j0_none]; simp)
      ·rw [if_neg c36] at H
       have c36b0 : (t420 == t422) = false := beq_eq_false_iff_ne.mpr c36
       have c36b1 : (t420 != t422) = true := bne_iff_ne.mpr c36
       exact absurd H (by rw [laws_FnBreaksStrips.j0_none]; simp)
    ·replace c31 := Bool.eq_false_iff.mpr c31
     subst c31
     have H1 : (laws_FnBreaksStrips.j0 k l1 t409 t410 t411 t412 t413 t420 t424 t432 t436 true) = some r := by rw [if_neg (show ¬ (false = true) by decide)] at H; exact H
     clear H; have H := H1; clear H1
     exact absurd H (by rw [laws_FnBreaksStrips.j0_none]; simp)
  case rest0 => as_aux_lemma =>
   intro v223 _ _ g_ wc hcut
   dsimp only [CutK.rl, List.replicate, List.cons_append, List.nil_append]
   dsimp only [↓CutK.mix0, ↓CutK.mix1, ↓CutK.mix2, ↓CutK.mix3, ↓CutK.mix4, ↓CutK.mixN, Nat.reduceAdd, Nat.zero_add]
   clear HC16; (try clear c1); (try clear c4)
   obtain ⟨kq, x223_15, rfl, HA, HJ15, HO_8, HO_16, HB⟩ := hcut
   cases kq with
   | zero => exact absurd HA.out (by simp [laws_FnBreaksStrips.j0])
   | succ kj15 =>
    have H := HA.out; clear HA
    simp only [laws_FnBreaksStrips.j0] at H
    by_cases c101 : x223_15 = true
    ·subst c101
     have H1 : (none) = some r := by rw [if_pos rfl] at H; exact H
     clear H; have H := H1; clear H1
     exact absurd H (by simp)
    ·replace c101 := Bool.eq_false_iff.mpr c101
     subst c101
     rw [if_neg (show ¬ (false = true) by decide)] at H
     have HC102 := Aside0.mk H; clear H
     go_upto_if 224 with (fail)
     refine CutK.wp_cut3 (CutK.rl [4,0,1,1,23,0,1,1,1,0,14,1,31,0,450,1,3,0,20,1,3,0,119,1]) (fun _ _ _ wc => ∃ (kq : Nat), Aside0 (laws_FnBreaksStrips.j4 kq l1 = some r) ∧ Aside0 (kq ≤ kj15) ∧ Aside0 (Below w.heap.size w wc)) ?rest4 ?first4
     case first4 => as_aux_lemma =>
      intro J_ K_ hJ_4 hK_
      dsimp only [CutK.rl, List.replicate, List.cons_append, List.nil_append] at hJ_4
      have H := HC102.out; clear HC102
      by_cases c103 : t413 = true
      ·subst c103
       rw [if_pos rfl] at H; have HC104 := Aside0.mk H; clear H
       go_upto_region 17 with (fail)
       refine CutK.wp_cut3 (CutK.rl [75,0,197,1,1,2,3,0,249,1,3,0,20,1,3,0,119,1]) (fun v272 _ _ wc => ∃ (kq : Nat) (x272_103 : Bool), v272 = .bool x272_103 ∧ Aside0 (laws_FnBreaksStrips.j1 kq l1 t409 t410 t411 t412 t420 t432 t436 x272_103 = some r) ∧ Aside0 (kq ≤ kj15) ∧ Aside0 (Kd.R (Kd.int .i64) 3 wc w.heap.size (fun _ => True) v414 t412) ∧ Aside0 (Below w.heap.size w wc)) ?rest1 ?first1
       case first1 => as_aux_lemma =>
        intro J_ K_ hJ_1 hK_
        dsimp only [CutK.rl, List.replicate, List.cons_append, List.nil_append] at hJ_1
        have H := HC104.out; clear HC104
        replace H := Option.bind_eq_some_iff.mp H
        obtain ⟨t442, A1050, H⟩ := H
        (try dsimp only at H); have A105 := Aside0.mk A1050; clear A1050
        obtain ⟨Ao128, co128, eo128⟩ := Kd.R_slice HO_8.out
        subst eo128
        refine wp_region_lit ?_
        try simp only [List.append]
        refine CutK.seg 4 ?_; intro R_ hR_; simp only [List.take_succ_cons, List.take_zero, List.drop_succ_cons, List.drop_zero, List.cons_append, List.nil_append] at hR_ ⊢; go_wp2_with (first | ((with_reducible refine gate_callee (f := 18) rfl ?_); refine goesL_ (some 226) rfl rfl Try.func18 (by kernel_rfl) rfl #[.slice Ao128 t412.length co128] rfl (by (try simp only [List.map_toArray, List.map_cons, List.map_nil]); first | done | rfl | (simp only [List.length_drop, List.length_take]; rfl)) ?_; (with_reducible refine (laws_yRises.calls kj15 _ _ t412 _ _ ?side1 ?side2 A105.out).mono ?_); (case side1 => repeat (first | exact (Kd.R_reads' HO_8.out).2.2 | (with_reducible refine Kd.C_alloc ?_ _) | (with_reducible refine Kd.C_drewN ?_ _) | (with_reducible refine Kd.C_drew ?_))); (case side2 => exact (Kd.R_reads' HO_8.out).2.1); rintro e w' ⟨rfl, ⟨nd, rfl⟩⟩; refine ⟨_, rfl, ?_⟩; obtain ⟨Ao129, co129, eo129⟩ := Kd.R_slice HO_16.out; subst eo129)); refine hR_ _ _ ?_; clear hR_ R_
        by_cases c106 : t442 = true
        ·subst c106
         rw [if_pos rfl] at H
         replace H := Option.bind_eq_some_iff.mp H
         obtain ⟨t443, A1070, H⟩ := H
         (try dsimp only at H); have A107 := Aside0.mk A1070; clear A1070
         refine CutK.seg 5 ?_; intro R_ hR_; simp only [List.take_succ_cons, List.take_zero, List.drop_succ_cons, List.drop_zero, List.cons_append, List.nil_append] at hR_ ⊢; go_wp2_with (first | (go_at_call 18; (with_reducible refine (laws_yRises.calls kj15 _ _ t424 _ _ ?side1 ?side2 A107.out).mono ?_); (case side1 => repeat (first | exact (Kd.R_reads' HO_16.out).2.2 | (with_reducible refine Kd.C_alloc ?_ _) | (with_reducible refine Kd.C_drewN ?_ _) | (with_reducible refine Kd.C_drew ?_))); (case side2 => exact (Kd.R_reads' HO_16.out).2.1); rintro e w' ⟨rfl, ⟨nd, rfl⟩⟩)); refine hR_ _ _ ?_; clear hR_ R_
         by_cases c108 : t443 = true
         ·subst c108
          rw [if_pos rfl] at H
          replace H := Option.bind_eq_some_iff.mp H
          obtain ⟨t444, A1090, H⟩ := H
          (try dsimp only at H); have A109 := Aside0.mk A1090; clear A1090
          refine CutK.seg 8 ?_; intro R_ hR_; simp only [List.take_succ_cons, List.take_zero, List.drop_succ_cons, List.drop_zero, List.cons_append, List.nil_append] at hR_ ⊢; go_wp2_with (first | (go_at_call 19; (with_reducible refine (laws_yHas.calls kj15 _ _ t424 t409 t444 _ ?side1 ?side2 A109.out).mono ?_); (case side1 => repeat (first | exact (Kd.R_reads' HO_16.out).2.2 | (with_reducible refine Kd.C_alloc ?_ _) | (with_reducible refine Kd.C_drewN ?_ _) | (with_reducible refine Kd.C_drew ?_))); (case side2 => exact (Kd.R_reads' HO_16.out).2.1); rintro e w' ⟨rfl, ⟨nd, rfl⟩⟩)); refine hR_ _ _ ?_; clear hR_ R_
          by_cases c110 : (t444 != (t420 == 0)) = true
          ·rw [if_pos c110] at H
           have c110b0 : (t444 != (t420 == 0)) = true := c110; (try (have c110b1 : decide (t444 = (t420 == 0)) = false := by simpa using c110)); (try (have c110b2 : (t444 == (t420 == 0)) = false := by simpa using c110)); (try (have c110b3 : ¬ (t444 = (t420 == 0)) := by simpa using c110)); clear c110
           (first | rw [c110b0] | (simp only [i64_w, i32_w]; rw [c110b0]) | skip)
           exact absurd H (by rw [laws_FnBreaksStrips.j1_none]; simp)
          ·rw [if_neg c110] at H
           have c110b0 : (t444 != (t420 == 0)) = false := by simpa using c110
           (try (have c110b1 : decide (t444 = (t420 == 0)) = true := by simpa using c110)); (try (have c110b2 : (t444 == (t420 == 0)) = true := by simpa using c110)); clear c110
           (first | rw [c110b0] | (simp only [i64_w, i32_w]; rw [c110b0]) | skip)
           refine CutK.seg 8 ?_; intro R_ hR_; simp only [List.take_succ_cons, List.take_zero, List.drop_succ_cons, List.drop_zero, List.cons_append, List.nil_append] at hR_ ⊢; go_wp2; refine hR_ _ _ ?_; clear hR_ R_
           by_cases c114 : (((t412.length : Int) == 0) != (t432 == 0)) = true
           ·rw [if_pos c114] at H
            have c114b0 : (((t412.length : Int) == 0) != (t432 == 0)) = true := c114; (try (have c114b1 : decide (((t412.length : Int) == 0) = (t432 == 0)) = false := by simpa using c114)); (try (have c114b2 : (((t412.length : Int) == 0) == (t432 == 0)) = false := by simpa using c114)); (try (have c114b3 : ¬ (((t412.length : Int) == 0) = (t432 == 0)) := by simpa using c114)); clear c114
            exact absurd H (by rw [laws_FnBreaksStrips.j1_none]; simp)
           ·rw [if_neg c114] at H
            have c114b0 : (((t412.length : Int) == 0) != (t432 == 0)) = false := by simpa using c114
            (try (have c114b1 : decide (((t412.length : Int) == 0) = (t432 == 0)) = true := by simpa using c114)); (try (have c114b2 : (((t412.length : Int) == 0) == (t432 == 0)) = true := by simpa using c114)); clear c114
            refine CutK.seg 7 ?_; intro R_ hR_; simp only [List.take_succ_cons, List.take_zero, List.drop_succ_cons, List.drop_zero, List.cons_append, List.nil_append] at hR_ ⊢; go_wp2; refine hR_ _ _ ?_; clear hR_ R_
            by_cases c118 : ((t436 == 0) != (t432 == 0)) = true
            ·rw [if_pos c118] at H
             have c118b0 : ((t436 == 0) != (t432 == 0)) = true := c118; (try (have c118b1 : decide ((t436 == 0) = (t432 == 0)) = false := by simpa using c118)); (try (have c118b2 : ((t436 == 0) == (t432 == 0)) = false := by simpa using c118)); (try (have c118b3 : ¬ ((t436 == 0) = (t432 == 0)) := by simpa using c118)); clear c118
             exact absurd H (by rw [laws_FnBreaksStrips.j1_none]; simp)
            ·rw [if_neg c118] at H
             have c118b0 : ((t436 == 0) != (t432 == 0)) = false := by simpa using c118
             (try (have c118b1 : decide ((t436 == 0) = (t432 == 0)) = true := by simpa using c118)); (try (have c118b2 : ((t436 == 0) == (t432 == 0)) = true := by simpa using c118)); clear c118
             refine CutK.seg 5 ?_; intro R_ hR_; simp only [List.take_succ_cons, List.take_zero, List.drop_succ_cons, List.drop_zero, List.cons_append, List.nil_append] at hR_ ⊢; go_wp2; refine hR_ _ _ ?_; clear hR_ R_
             by_cases c122 : t436 > t432
             ·rw [if_pos c122] at H
              have c122b0 : decide (t432 < t436) = true := decide_eq_true c122; clear c122
              exact absurd H (by rw [laws_FnBreaksStrips.j1_none]; simp)
             ·rw [if_neg c122] at H
              have c122b0 : decide (t432 < t436) = false := decide_eq_false c122; clear c122
              by_cases c126 : t410 = 0
              ·rw [if_pos c126] at H
               exact absurd H (by simp)
              ·rw [if_neg c126] at H
               have c126b0 : (t410 == 0) = false := beq_eq_false_iff_ne.mpr c126
               have c126b1 : (t410 != 0) = true := bne_iff_ne.mpr c126
               by_cases c127 : t432 > (wrap64 ((wrap64 (Int.tdiv t409 t410)) - 1))
               ·rw [if_pos c127] at H
                have c127b0 : decide ((wrap64 ((wrap64 (Int.tdiv t409 t410)) - 1)) < t432) = true := decide_eq_true c127; clear c127; have H' := Aside0.mk H; clear H
                go_wp2_with (first | ((with_reducible refine gate_callee (f := 18) rfl ?_); refine goesL_ (some 226) rfl rfl Try.func18 (by kernel_rfl) rfl #[.slice Ao128 t412.length co128] rfl (by (try simp only [List.map_toArray, List.map_cons, List.map_nil]); first | done | rfl | (simp only [List.length_drop, List.length_take]; rfl)) ?_; (with_reducible refine (laws_yRises.calls kj15 _ _ t412 true _ ?side1 ?side2 A105.out).mono ?_); (case side1 => repeat (first | exact (Kd.R_reads' HO_8.out).2.2 | (with_reducible refine Kd.C_alloc ?_ _) | (with_reducible refine Kd.C_drewN ?_ _) | (with_reducible refine Kd.C_drew ?_))); (case side2 => exact (Kd.R_reads' HO_8.out).2.1); rintro e w' ⟨rfl, ⟨nd, rfl⟩⟩; refine ⟨_, rfl, ?_⟩; obtain ⟨Ao129, co129, eo129⟩ := Kd.R_slice HO_16.out; subst eo129) | (go_at_call 18; (with_reducible refine (laws_yRises.calls kj15 _ _ t424 true _ ?side1 ?side2 A107.out).mono ?_); (case side1 => repeat (first | exact (Kd.R_reads' HO_16.out).2.2 | (with_reducible refine Kd.C_alloc ?_ _) | (with_reducible refine Kd.C_drewN ?_ _) | (with_reducible refine Kd.C_drew ?_))); (case side2 => exact (Kd.R_reads' HO_16.out).2.1); rintro e w' ⟨rfl, ⟨nd, rfl⟩⟩) | (go_at_call 19; (with_reducible refine (laws_yHas.calls kj15 _ _ t424 t409 t444 _ ?side1 ?side2 A109.out).mono ?_); (case side1 => repeat (first | exact (Kd.R_reads' HO_16.out).2.2 | (with_reducible refine Kd.C_alloc ?_ _) | (with_reducible refine Kd.C_drewN ?_ _) | (with_reducible refine Kd.C_drew ?_))); (case side2 => exact (Kd.R_reads' HO_16.out).2.1); rintro e w' ⟨rfl, ⟨nd, rfl⟩⟩))
                refine Met.intro (hJ_1 _ ?va130 undef undef _ ?kp ?rel)
                case kp => simp only [↓CutK.keep0, ↓CutK.keep1, ↓CutK.keep2, ↓CutK.keep3, ↓CutK.keep4, ↓CutK.keepN, true_and, and_true] <;> exact rfl
                case rel => exact ⟨_, (decide (t432 > 0)), (by first | rfl | (simp; done) | (simp [*]; done) | (simp; exact Lam.bxe _ _)), H', ⟨by have := HJ15.out; first | omega | exact Nat.le_refl _⟩, ⟨by (with_reducible repeat (first | apply Kd.R_alloc | apply Kd.R_drewN | apply Kd.R_drew)); exact Kd.R_mono HO_8.out (fun _ hk => trivial)⟩, ⟨Lam.al⟩⟩
               ·rw [if_neg c127] at H
                have c127b0 : decide ((wrap64 ((wrap64 (Int.tdiv t409 t410)) - 1)) < t432) = false := decide_eq_false c127; clear c127; have H' := Aside0.mk H; clear H
                go_wp2_with (first | ((with_reducible refine gate_callee (f := 18) rfl ?_); refine goesL_ (some 226) rfl rfl Try.func18 (by kernel_rfl) rfl #[.slice Ao131 t412.length co131] rfl (by (try simp only [List.map_toArray, List.map_cons, List.map_nil]); first | done | rfl | (simp only [List.length_drop, List.length_take]; rfl)) ?_; (with_reducible refine (laws_yRises.calls kj15 _ _ t412 true _ ?side1 ?side2 A105.out).mono ?_); (case side1 => repeat (first | exact (Kd.R_reads' HO_8.out).2.2 | (with_reducible refine Kd.C_alloc ?_ _) | (with_reducible refine Kd.C_drewN ?_ _) | (with_reducible refine Kd.C_drew ?_))); (case side2 => exact (Kd.R_reads' HO_8.out).2.1); rintro e w' ⟨rfl, ⟨nd, rfl⟩⟩; refine ⟨_, rfl, ?_⟩; obtain ⟨Ao132, co132, eo132⟩ := Kd.R_slice HO_16.out; subst eo132) | (go_at_call 18; (with_reducible refine (laws_yRises.calls kj15 _ _ t424 true _ ?side1 ?side2 A107.out).mono ?_); (case side1 => repeat (first | exact (Kd.R_reads' HO_16.out).2.2 | (with_reducible refine Kd.C_alloc ?_ _) | (with_reducible refine Kd.C_drewN ?_ _) | (with_reducible refine Kd.C_drew ?_))); (case side2 => exact (Kd.R_reads' HO_16.out).2.1); rintro e w' ⟨rfl, ⟨nd, rfl⟩⟩) | (go_at_call 19; (with_reducible refine (laws_yHas.calls kj15 _ _ t424 t409 t444 _ ?side1 ?side2 A109.out).mono ?_); (case side1 => repeat (first | exact (Kd.R_reads' HO_16.out).2.2 | (with_reducible refine Kd.C_alloc ?_ _) | (with_reducible refine Kd.C_drewN ?_ _) | (with_reducible refine Kd.C_drew ?_))); (case side2 => exact (Kd.R_reads' HO_16.out).2.1); rintro e w' ⟨rfl, ⟨nd, rfl⟩⟩))
                refine Met.intro (hJ_1 _ ?va133 undef undef _ ?kp ?rel)
                case kp => simp only [↓CutK.keep0, ↓CutK.keep1, ↓CutK.keep2, ↓CutK.keep3, ↓CutK.keep4, ↓CutK.keepN, true_and, and_true] <;> exact rfl
                case rel => exact ⟨_, (false), (by first | rfl | (simp; done) | (simp [*]; done) | (simp; exact Lam.bxe _ _)), H', ⟨by have := HJ15.out; first | omega | exact Nat.le_refl _⟩, ⟨by (with_reducible repeat (first | apply Kd.R_alloc | apply Kd.R_drewN | apply Kd.R_drew)); exact Kd.R_mono HO_8.out (fun _ hk => trivial)⟩, ⟨Lam.al⟩⟩
         ·replace c108 := Bool.eq_false_iff.mpr c108
          subst c108
          have H1 : (laws_FnBreaksStrips.j1 kj15 l1 t409 t410 t411 t412 t420 t432 t436 true) = some r := by rw [if_neg (show ¬ (false = true) by decide)] at H; exact H
          clear H; have H := H1; clear H1
          exact absurd H (by rw [laws_FnBreaksStrips.j1_none]; simp)
        ·replace c106 := Bool.eq_false_iff.mpr c106
         subst c106
         have H1 : (laws_FnBreaksStrips.j1 kj15 l1 t409 t410 t411 t412 t420 t432 t436 true) = some r := by rw [if_neg (show ¬ (false = true) by decide)] at H; exact H
         clear H; have H := H1; clear H1
         exact absurd H (by rw [laws_FnBreaksStrips.j1_none]; simp)
       case rest1 => as_aux_lemma =>
        intro v272 _ _ g_ wc hcut
        dsimp only [CutK.rl, List.replicate, List.cons_append, List.nil_append]
        dsimp only [↓CutK.mix0, ↓CutK.mix1, ↓CutK.mix2, ↓CutK.mix3, ↓CutK.mix4, ↓CutK.mixN, Nat.reduceAdd, Nat.zero_add]
        clear HC104; (try clear c1); (try clear c4); (try clear c101); (try clear c103)
        obtain ⟨kq, x272_103, rfl, HA, HJ103, HO_8, HB⟩ := hcut
        cases kq with
        | zero => exact absurd HA.out (by simp [laws_FnBreaksStrips.j1])
        | succ kj103 =>
         have H := HA.out; clear HA
         simp only [laws_FnBreaksStrips.j1] at H
         by_cases c139 : x272_103 = true
         ·subst c139
          have H1 : (none) = some r := by rw [if_pos rfl] at H; exact H
          clear H; have H := H1; clear H1
          exact absurd H (by simp)
         ·replace c139 := Bool.eq_false_iff.mpr c139
          subst c139
          rw [if_neg (show ¬ (false = true) by decide)] at H
          have H' := Aside0.mk H; clear H
          obtain ⟨Ao140, co140, eo140⟩ := Kd.R_slice HO_8.out
          subst eo140
          go_wp2
          go_loopg [28, 275] kj103 (fun kq v28 v275 w' => ∃ (x28_3 : List Int) (x275_3 : Int), v275 = .int .i64 x275_3 ∧ Aside0 (laws_FnBreaksStrips.l0 kq l1 t409 t410 t411 t420 t432 t436 x28_3 t412 (t412.length : Int) x275_3 = some r) ∧ Aside0 (kq ≤ kj103) ∧ Aside0 (Kd.R (Kd.int .i64) 3 w' w.heap.size (fun k_ => some k_ ≠ ((.slice Ao140 t412.length co140) : Value).ownBlock) v28 x28_3) ∧ Aside0 (Kd.R (Kd.int .i64) 3 w' w.heap.size (fun k_ => some k_ ≠ (v28 : Value).ownBlock) (.slice Ao140 t412.length co140) t412) ∧ Aside0 (Below w.heap.size w w'))
          case atStart => exact ⟨(([] : List Int)), (0), (by first | rfl | (simp; done) | (simp [*]; done) | (simp; exact Lam.bxe _ _)), H', ⟨Nat.le_refl _⟩, ⟨by first | exact Kd.R_nil _ _ _ _ _ | exact Kd.N_nil _ _ _ _ _ | exact Kd.V_nil _ _ _ _ _ | exact Kd.Q_nil _ _ _ _ _ | exact Kd.S_nil _ _ _ _ _⟩, ⟨by (with_reducible repeat (first | apply Kd.R_alloc | apply Kd.R_drewN | apply Kd.R_drew)); exact Kd.R_mono HO_8.out (fun _ hk => (by simp [Value.ownBlock]))⟩, ⟨Lam.al⟩⟩
          case round =>
           clear H'; (try clear c1); (try clear c4); (try clear c101); (try clear c103); (try clear c139)
           obtain ⟨x28_3, x275_3, rfl, HA, HK3, HO_28, HO_273, HB⟩ := hrel
           cases gk with
           | zero => exact absurd HA.out (by simp [laws_FnBreaksStrips.l0])
           | succ k3 =>
            have H := HA.out; clear HA
            simp only [laws_FnBreaksStrips.l0] at H
            by_cases c141 : x275_3 < (t412.length : Int)
            ·rw [if_pos c141] at H
             have c141b0 : decide (x275_3 < (t412.length : Int)) = true := decide_eq_true c141; clear c141
             by_cases c142 : 0 ≤ x275_3
             ·rw [if_pos c142] at H
              have c142b0 : decide (0 ≤ x275_3) = true := decide_eq_true c142; clear c142
              by_cases c143 : x275_3 < (t412.length : Int)
              ·rw [if_pos c143] at H
               have c143b0 : decide (x275_3 < (t412.length : Int)) = true := decide_eq_true c143; clear c143
               replace H := Option.bind_eq_some_iff.mp H
               obtain ⟨⟨t446, t447⟩, A1440, H⟩ := H
               (try dsimp only at H); have A144 := Aside0.mk A1440; clear A1440
               replace H := Option.bind_eq_some_iff.mp H
               obtain ⟨⟨t448, t449⟩, A1450, H⟩ := H
               (try dsimp only at H); have A145 := Aside0.mk A1450; clear A1450
               replace H := Option.bind_eq_some_iff.mp H
               obtain ⟨⟨t450, t451⟩, A1460, H⟩ := H
               (try dsimp only at H); have A146 := Aside0.mk A1460; clear A1460
               replace H := Option.bind_eq_some_iff.mp H
               obtain ⟨⟨t452, t453⟩, A1470, H⟩ := H
               (try dsimp only at H); have A147 := Aside0.mk A1470; clear A1470
               replace H := Option.bind_eq_some_iff.mp H
               obtain ⟨⟨t454, t455⟩, A1480, H⟩ := H
               (try dsimp only at H); have A148 := Aside0.mk A1480; clear A1480
               replace H := Option.bind_eq_some_iff.mp H
               obtain ⟨⟨t456, t457⟩, A1490, H⟩ := H
               (try dsimp only at H); have A149 := Aside0.mk A1490; clear A1490
               by_cases c150 : (rd t412 x275_3) < t410
               ·rw [if_pos c150] at H
                exact absurd H (by simp)
               ·rw [if_neg c150] at H
                have c150b0 : decide ((rd t412 x275_3) < t410) = false := decide_eq_false c150; clear c150
                by_cases c151 : (wrap64 (2 * (rd t412 x275_3))) > t409
                ·rw [if_pos c151] at H
                 exact absurd H (by simp)
                ·rw [if_neg c151] at H
                 have c151b0 : decide (t409 < (wrap64 (2 * (rd t412 x275_3)))) = false := decide_eq_false c151; clear c151
                 by_cases c152 : t411 = true
                 ·subst c152
                  rw [if_pos rfl] at H
                  by_cases c153 : (wrap64 (2 * (rd t412 x275_3))) = t409
                  ·rw [if_pos c153] at H
                   exact absurd H (by simp)
                  ·rw [if_neg c153] at H
                   have c153b0 : ((wrap64 (2 * (rd t412 x275_3))) == t409) = false := beq_eq_false_iff_ne.mpr c153
                   have c153b1 : ((wrap64 (2 * (rd t412 x275_3))) != t409) = true := bne_iff_ne.mpr c153
                   by_cases c154 : t447 = true
                   ·subst c154
                    rw [if_pos rfl] at H
                    by_cases c155 : t449 = true
                    ·subst c155
                     rw [if_pos rfl] at H
                     by_cases c156 : (Go.bits .xor .i64 t446 t448) = t420
                     ·rw [if_pos c156] at H
                      exact absurd H (by simp)
                     ·rw [if_neg c156] at H
                      have c156b0 : ((Go.bits .xor .i64 t446 t448) == t420) = false := beq_eq_false_iff_ne.mpr c156
                      have c156b1 : ((Go.bits .xor .i64 t446 t448) != t420) = true := bne_iff_ne.mpr c156
                      by_cases c157 : t451 = true
                      ·subst c157
                       rw [if_pos rfl] at H
                       by_cases c158 : t453 = true
                       ·subst c158
                        rw [if_pos rfl] at H
                        by_cases c159 : (wrap64 ((wrap64 (t450 + t452)) + 1)) > t432
                        ·rw [if_pos c159] at H
                         exact absurd H (by simp)
                        ·rw [if_neg c159] at H
                         have c159b0 : decide (t432 < (wrap64 ((wrap64 (t450 + t452)) + 1))) = false := decide_eq_false c159; clear c159
                         by_cases c160 : t455 = true
                         ·subst c160
                          rw [if_pos rfl] at H
                          by_cases c161 : t457 = true
                          ·subst c161
                           rw [if_pos rfl] at H
                           by_cases c162 : (wrap64 ((wrap64 (t454 + t456)) + 1)) < t436
                           ·rw [if_pos c162] at H
                            exact absurd H (by simp)
                           ·rw [if_neg c162] at H
                            have c162b0 : decide ((wrap64 ((wrap64 (t454 + t456)) + 1)) < t436) = false := decide_eq_false c162; clear c162
                            by_cases c163 : x28_3.length < 17592186044416
                            ·rw [if_pos c163] at H
                             have LMc163 := Aside0.mk c163; clear c163
                             obtain ⟨y458, hy458⟩ : ∃ y_ : List Int, y_ = (x28_3 ++ [Go.bits .xor .i64 t446 t448]) := ⟨_, rfl⟩
                             replace H : (laws_FnBreaksStrips.l0 k3 l1 t409 t410 true t420 t432 t436 y458 t412 (t412.length : Int) (wrap64 (x275_3 + 1))) = some r := by first | (rw [hy458]; with_reducible exact H) | (have H2_ := (Option.bind_some _ _).symm.trans H; rw [hy458]; with_reducible exact H2_) | (have H2_ := (Option.bind_some _ _).symm.trans H; with_reducible exact H2_) | with_reducible exact H | (rw [hy458]; exact H) | exact H
                             have Ny458 := Aside0.mk hy458; clear hy458; have H' := Aside0.mk H; clear H
                             have p445 : 0 ≤ (x275_3 : Int) := of_decide_eq_true (by first | (with_reducible assumption) | assumption)
                             have q445 : x275_3 < (t412.length : Int) := of_decide_eq_true (by first | (with_reducible assumption) | assumption)
                             obtain ⟨ad445, e445, hx445_0⟩ := Kd.at_int (Kd.R_reads' HO_273.out).2.2 x275_3 p445 q445
                             cases e445
                             replace p445 := eq_true p445; replace q445 := eq_true q445
                             (go_upto_region 29 with (first | ((with_reducible refine gate_callee (f := 9) rfl ?_); refine goesL_ (some 283) rfl rfl Try.func9 (by kernel_rfl) rfl #[.int .i64 (rd t412 x275_3), .int .i64 t410, .bool true] rfl (by (try simp only [List.map_toArray, List.map_cons, List.map_nil]); first | done | rfl | (simp only [List.length_drop, List.length_take]; rfl)) ?_; (with_reducible refine (impl_StripValue.calls k3 (rd t412 x275_3) t410 true t446 true _ A144.out).mono ?_); rintro e w164 ⟨rfl, hb⟩; refine ⟨_, rfl, ?_⟩; have n0_ := Aside0.mk (Kd.R_below (Lam.rq HO_28.out) hb); have n1_ := Aside0.mk (Kd.R_below (Lam.rq HO_273.out) hb); have n2_ := Aside0.mk (below_step (Lam.al) hb); clear HO_28; clear HO_273; clear HB; have HO_28 := n0_; have HO_273 := n1_; have HB := n2_; clear n0_ n1_ n2_; (try clear hb); (try clear hb2); (try clear hk); (try clear hi)) | ((with_reducible refine gate_callee (f := 9) rfl ?_); refine goesL_ (some 292) rfl rfl Try.func9 (by kernel_rfl) rfl #[.int .i64 (wrap64 (t409 - (rd t412 x275_3))), .int .i64 t410, .bool true] rfl (by (try simp only [List.map_toArray, List.map_cons, List.map_nil]); first | done | rfl | (simp only [List.length_drop, List.length_take]; rfl)) ?_; (with_reducible refine (impl_StripValue.calls k3 (wrap64 (t409 - (rd t412 x275_3))) t410 true t448 true _ A145.out).mono ?_); rintro e w165 ⟨rfl, hb⟩; refine ⟨_, rfl, ?_⟩; have n0_ := Aside0.mk (Kd.R_below (Lam.rq HO_28.out) hb); have n1_ := Aside0.mk (Kd.R_below (Lam.rq HO_273.out) hb); have n2_ := Aside0.mk (below_step (Lam.al) hb); clear HO_28; clear HO_273; clear HB; have HO_28 := n0_; have HO_273 := n1_; have HB := n2_; clear n0_ n1_ n2_; (try clear hb); (try clear hb2); (try clear hk); (try clear hi)) | ((with_reducible refine gate_callee (f := 13) rfl ?_); refine goesL_ (some 299) rfl rfl Try.func13 (by kernel_rfl) rfl #[.int .i64 (rd t412 x275_3), .int .i64 t410, .bool true] rfl (by (try simp only [List.map_toArray, List.map_cons, List.map_nil]); first | done | rfl | (simp only [List.length_drop, List.length_take]; rfl)) ?_; (with_reducible refine (impl_LongestStripPlay.calls k3 (rd t412 x275_3) t410 true t450 true _ A146.out).mono ?_); rintro e w166 ⟨rfl, hb⟩; refine ⟨_, rfl, ?_⟩; have n0_ := Aside0.mk (Kd.R_below (Lam.rq HO_28.out) hb); have n1_ := Aside0.mk (Kd.R_below (Lam.rq HO_273.out) hb); have n2_ := Aside0.mk (below_step (Lam.al) hb); clear HO_28; clear HO_273; clear HB; have HO_28 := n0_; have HO_273 := n1_; have HB := n2_; clear n0_ n1_ n2_; (try clear hb); (try clear hb2); (try clear hk); (try clear hi)) | ((with_reducible refine gate_callee (f := 13) rfl ?_); refine goesL_ (some 308) rfl rfl Try.func13 (by kernel_rfl) rfl #[.int .i64 (wrap64 (t409 - (rd t412 x275_3))), .int .i64 t410, .bool true] rfl (by (try simp only [List.map_toArray, List.map_cons, List.map_nil]); first | done | rfl | (simp only [List.length_drop, List.length_take]; rfl)) ?_; (with_reducible refine (impl_LongestStripPlay.calls k3 (wrap64 (t409 - (rd t412 x275_3))) t410 true t452 true _ A147.out).mono ?_); rintro e w167 ⟨rfl, hb⟩; refine ⟨_, rfl, ?_⟩; have n0_ := Aside0.mk (Kd.R_below (Lam.rq HO_28.out) hb); have n1_ := Aside0.mk (Kd.R_below (Lam.rq HO_273.out) hb); have n2_ := Aside0.mk (below_step (Lam.al) hb); clear HO_28; clear HO_273; clear HB; have HO_28 := n0_; have HO_273 := n1_; have HB := n2_; clear n0_ n1_ n2_; (try clear hb); (try clear hb2); (try clear hk); (try clear hi)) | ((with_reducible refine gate_callee (f := 15) rfl ?_); refine goesL_ (some 315) rfl rfl Try.func15 (by kernel_rfl) rfl #[.int .i64 (rd t412 x275_3), .int .i64 t410, .bool true] rfl (by (try simp only [List.map_toArray, List.map_cons, List.map_nil]); first | done | rfl | (simp only [List.length_drop, List.length_take]; rfl)) ?_; (with_reducible refine (impl_ShortestStripPlay.calls k3 (rd t412 x275_3) t410 true t454 true _ A148.out).mono ?_); rintro e w168 ⟨rfl, hb⟩; refine ⟨_, rfl, ?_⟩; have n0_ := Aside0.mk (Kd.R_below (Lam.rq HO_28.out) hb); have n1_ := Aside0.mk (Kd.R_below (Lam.rq HO_273.out) hb); have n2_ := Aside0.mk (below_step (Lam.al) hb); clear HO_28; clear HO_273; clear HB; have HO_28 := n0_; have HO_273 := n1_; have HB := n2_; clear n0_ n1_ n2_; (try clear hb); (try clear hb2); (try clear hk); (try clear hi)) | ((with_reducible refine gate_callee (f := 15) rfl ?_); refine goesL_ (some 324) rfl rfl Try.func15 (by kernel_rfl) rfl #[.int .i64 (wrap64 (t409 - (rd t412 x275_3))), .int .i64 t410, .bool true] rfl (by (try simp only [List.map_toArray, List.map_cons, List.map_nil]); first | done | rfl | (simp only [List.length_drop, List.length_take]; rfl)) ?_; (with_reducible refine (impl_ShortestStripPlay.calls k3 (wrap64 (t409 - (rd t412 x275_3))) t410 true t456 true _ A149.out).mono ?_); rintro e w169 ⟨rfl, hb⟩; refine ⟨_, rfl, ?_⟩; have n0_ := Aside0.mk (Kd.R_below (Lam.rq HO_28.out) hb); have n1_ := Aside0.mk (Kd.R_below (Lam.rq HO_273.out) hb); have n2_ := Aside0.mk (below_step (Lam.al) hb); clear HO_28; clear HO_273; clear HB; have HO_28 := n0_; have HO_273 := n1_; have HB := n2_; clear n0_ n1_ n2_; (try clear hb); (try clear hb2); (try clear hk); (try clear hi)) | ((with_reducible refine gate_builtin (b := .append) (xs := #[.tmp 392, .tmp 396]) rfl ?_); (try (refine gate_guard (by rfl) ?_; dsimp only)); at_builtin; refine Kd.R_append (Kd.int .i64) (w0 := w) w.heap.size rfl (.tmp 392) (.tmp 396) 26 3 (.int .i64 0) 8 rfl Try.underlying26 info3 rfl (by decide) (by omega) u28 x28_3 (Go.bits .xor .i64 t446 t448) [.int .i64 (Go.bits .xor .i64 t446 t448)] (fun k_ => some k_ ≠ (.slice (some ad445) t412.length co140 : Value).ownBlock) (fun _ => False) rfl rfl ?aP (fun _ hk => hk.elim) ?aF ?aO ?aB ?aS ?aL ?_; (case aP => exact rfl); (case aB => exact (Lam.al)); (case aF => exact (fun k_ hk => Kd.fresh' (Kd.R_lt (Lam.rq HO_273.out)) k_ hk)); (case aO => exact (Lam.rq HO_28.out)); (case aS => exact (below_size (Lam.al))); (case aL => have := LMc163.out; omega); intro v459 w170 ho hb hg hat; rw [← Ny458.out] at ho; have n0_ := Aside0.mk (Kd.R_after (ok := (fun _ => True)) (by (with_reducible repeat (first | apply Kd.R_alloc | apply Kd.R_drewN | apply Kd.R_drew)); exact Kd.R_mono HO_273.out (fun _ hk => ⟨trivial, hk⟩)) hg hat); have n1_ := Aside0.mk (hb); have n2_ := Aside0.mk (ho); clear HO_273; clear HB; clear HO_28; have HO_273 := n0_; have HB := n1_; have HO460 := n2_; clear n0_ n1_ n2_; clear ho hb hg hat))); refine wp_region_lit ?_; (try simp only [List.append]); refine CutK.seg 9 ?_; intro R_ hR_; simp only [List.take_succ_cons, List.take_zero, List.drop_succ_cons, List.drop_zero, List.cons_append, List.nil_append] at hR_ ⊢; go_wp2; refine hR_ _ _ ?_; clear hR_ R_; refine CutK.seg 9 ?_; intro R_ hR_; simp only [List.take_succ_cons, List.take_zero, List.drop_succ_cons, List.drop_zero, List.cons_append, List.nil_append] at hR_ ⊢; go_wp2; refine hR_ _ _ ?_; clear hR_ R_; refine CutK.seg 4 ?_; intro R_ hR_; simp only [List.take_succ_cons, List.take_zero, List.drop_succ_cons, List.drop_zero, List.cons_append, List.nil_append] at hR_ ⊢; go_wp2; refine hR_ _ _ ?_; clear hR_ R_; refine CutK.seg 4 ?_; intro R_ hR_; simp only [List.take_succ_cons, List.take_zero, List.drop_succ_cons, List.drop_zero, List.cons_append, List.nil_append] at hR_ ⊢; go_wp2; refine hR_ _ _ ?_; clear hR_ R_; refine CutK.seg 7 ?_; intro R_ hR_; simp only [List.take_succ_cons, List.take_zero, List.drop_succ_cons, List.drop_zero, List.cons_append, List.nil_append] at hR_ ⊢; go_wp2; refine hR_ _ _ ?_; clear hR_ R_; refine CutK.seg 4 ?_; intro R_ hR_; simp only [List.take_succ_cons, List.take_zero, List.drop_succ_cons, List.drop_zero, List.cons_append, List.nil_append] at hR_ ⊢; go_wp2; refine hR_ _ _ ?_; clear hR_ R_; refine CutK.seg 4 ?_; intro R_ hR_; simp only [List.take_succ_cons, List.take_zero, List.drop_succ_cons, List.drop_zero, List.cons_append, List.nil_append] at hR_ ⊢; go_wp2; refine hR_ _ _ ?_; clear hR_ R_; refine CutK.seg 8 ?_; intro R_ hR_; simp only [List.take_succ_cons, List.take_zero, List.drop_succ_cons, List.drop_zero, List.cons_append, List.nil_append] at hR_ ⊢; go_wp2; refine hR_ _ _ ?_; clear hR_ R_; refine CutK.seg 4 ?_; intro R_ hR_; simp only [List.take_succ_cons, List.take_zero, List.drop_succ_cons, List.drop_zero, List.cons_append, List.nil_append] at hR_ ⊢; go_wp2; refine hR_ _ _ ?_; clear hR_ R_; refine CutK.seg 4 ?_; intro R_ hR_; simp only [List.take_succ_cons, List.take_zero, List.drop_succ_cons, List.drop_zero, List.cons_append, List.nil_append] at hR_ ⊢; go_wp2; refine hR_ _ _ ?_; clear hR_ R_
                             (go_wp2_with (first | ((with_reducible refine gate_callee (f := 9) rfl ?_); refine goesL_ (some 283) rfl rfl Try.func9 (by kernel_rfl) rfl #[.int .i64 (rd t412 x275_3), .int .i64 t410, .bool true] rfl (by (try simp only [List.map_toArray, List.map_cons, List.map_nil]); first | done | rfl | (simp only [List.length_drop, List.length_take]; rfl)) ?_; (with_reducible refine (impl_StripValue.calls k3 (rd t412 x275_3) t410 true t446 true _ A144.out).mono ?_); rintro e w164 ⟨rfl, hb⟩; refine ⟨_, rfl, ?_⟩; have n0_ := Aside0.mk (Kd.R_below (Lam.rq HO_28.out) hb); have n1_ := Aside0.mk (Kd.R_below (Lam.rq HO_273.out) hb); have n2_ := Aside0.mk (below_step (Lam.al) hb); clear HO_28; clear HO_273; clear HB; have HO_28 := n0_; have HO_273 := n1_; have HB := n2_; clear n0_ n1_ n2_; (try clear hb); (try clear hb2); (try clear hk); (try clear hi)) | ((with_reducible refine gate_callee (f := 9) rfl ?_); refine goesL_ (some 292) rfl rfl Try.func9 (by kernel_rfl) rfl #[.int .i64 (wrap64 (t409 - (rd t412 x275_3))), .int .i64 t410, .bool true] rfl (by (try simp only [List.map_toArray, List.map_cons, List.map_nil]); first | done | rfl | (simp only [List.length_drop, List.length_take]; rfl)) ?_; (with_reducible refine (impl_StripValue.calls k3 (wrap64 (t409 - (rd t412 x275_3))) t410 true t448 true _ A145.out).mono ?_); rintro e w165 ⟨rfl, hb⟩; refine ⟨_, rfl, ?_⟩; have n0_ := Aside0.mk (Kd.R_below (Lam.rq HO_28.out) hb); have n1_ := Aside0.mk (Kd.R_below (Lam.rq HO_273.out) hb); have n2_ := Aside0.mk (below_step (Lam.al) hb); clear HO_28; clear HO_273; clear HB; have HO_28 := n0_; have HO_273 := n1_; have HB := n2_; clear n0_ n1_ n2_; (try clear hb); (try clear hb2); (try clear hk); (try clear hi)) | ((with_reducible refine gate_callee (f := 13) rfl ?_); refine goesL_ (some 299) rfl rfl Try.func13 (by kernel_rfl) rfl #[.int .i64 (rd t412 x275_3), .int .i64 t410, .bool true] rfl (by (try simp only [List.map_toArray, List.map_cons, List.map_nil]); first | done | rfl | (simp only [List.length_drop, List.length_take]; rfl)) ?_; (with_reducible refine (impl_LongestStripPlay.calls k3 (rd t412 x275_3) t410 true t450 true _ A146.out).mono ?_); rintro e w166 ⟨rfl, hb⟩; refine ⟨_, rfl, ?_⟩; have n0_ := Aside0.mk (Kd.R_below (Lam.rq HO_28.out) hb); have n1_ := Aside0.mk (Kd.R_below (Lam.rq HO_273.out) hb); have n2_ := Aside0.mk (below_step (Lam.al) hb); clear HO_28; clear HO_273; clear HB; have HO_28 := n0_; have HO_273 := n1_; have HB := n2_; clear n0_ n1_ n2_; (try clear hb); (try clear hb2); (try clear hk); (try clear hi)) | ((with_reducible refine gate_callee (f := 13) rfl ?_); refine goesL_ (some 308) rfl rfl Try.func13 (by kernel_rfl) rfl #[.int .i64 (wrap64 (t409 - (rd t412 x275_3))), .int .i64 t410, .bool true] rfl (by (try simp only [List.map_toArray, List.map_cons, List.map_nil]); first | done | rfl | (simp only [List.length_drop, List.length_take]; rfl)) ?_; (with_reducible refine (impl_LongestStripPlay.calls k3 (wrap64 (t409 - (rd t412 x275_3))) t410 true t452 true _ A147.out).mono ?_); rintro e w167 ⟨rfl, hb⟩; refine ⟨_, rfl, ?_⟩; have n0_ := Aside0.mk (Kd.R_below (Lam.rq HO_28.out) hb); have n1_ := Aside0.mk (Kd.R_below (Lam.rq HO_273.out) hb); have n2_ := Aside0.mk (below_step (Lam.al) hb); clear HO_28; clear HO_273; clear HB; have HO_28 := n0_; have HO_273 := n1_; have HB := n2_; clear n0_ n1_ n2_; (try clear hb); (try clear hb2); (try clear hk); (try clear hi)) | ((with_reducible refine gate_callee (f := 15) rfl ?_); refine goesL_ (some 315) rfl rfl Try.func15 (by kernel_rfl) rfl #[.int .i64 (rd t412 x275_3), .int .i64 t410, .bool true] rfl (by (try simp only [List.map_toArray, List.map_cons, List.map_nil]); first | done | rfl | (simp only [List.length_drop, List.length_take]; rfl)) ?_; (with_reducible refine (impl_ShortestStripPlay.calls k3 (rd t412 x275_3) t410 true t454 true _ A148.out).mono ?_); rintro e w168 ⟨rfl, hb⟩; refine ⟨_, rfl, ?_⟩; have n0_ := Aside0.mk (Kd.R_below (Lam.rq HO_28.out) hb); have n1_ := Aside0.mk (Kd.R_below (Lam.rq HO_273.out) hb); have n2_ := Aside0.mk (below_step (Lam.al) hb); clear HO_28; clear HO_273; clear HB; have HO_28 := n0_; have HO_273 := n1_; have HB := n2_; clear n0_ n1_ n2_; (try clear hb); (try clear hb2); (try clear hk); (try clear hi)) | ((with_reducible refine gate_callee (f := 15) rfl ?_); refine goesL_ (some 324) rfl rfl Try.func15 (by kernel_rfl) rfl #[.int .i64 (wrap64 (t409 - (rd t412 x275_3))), .int .i64 t410, .bool true] rfl (by (try simp only [List.map_toArray, List.map_cons, List.map_nil]); first | done | rfl | (simp only [List.length_drop, List.length_take]; rfl)) ?_; (with_reducible refine (impl_ShortestStripPlay.calls k3 (wrap64 (t409 - (rd t412 x275_3))) t410 true t456 true _ A149.out).mono ?_); rintro e w169 ⟨rfl, hb⟩; refine ⟨_, rfl, ?_⟩; have n0_ := Aside0.mk (Kd.R_below (Lam.rq HO_28.out) hb); have n1_ := Aside0.mk (Kd.R_below (Lam.rq HO_273.out) hb); have n2_ := Aside0.mk (below_step (Lam.al) hb); clear HO_28; clear HO_273; clear HB; have HO_28 := n0_; have HO_273 := n1_; have HB := n2_; clear n0_ n1_ n2_; (try clear hb); (try clear hb2); (try clear hk); (try clear hi)) | ((with_reducible refine gate_builtin (b := .append) (xs := #[.tmp 392, .tmp 396]) rfl ?_); (try (refine gate_guard (by rfl) ?_; dsimp only)); at_builtin; refine Kd.R_append (Kd.int .i64) (w0 := w) w.heap.size rfl (.tmp 392) (.tmp 396) 26 3 (.int .i64 0) 8 rfl Try.underlying26 info3 rfl (by decide) (by omega) u28 x28_3 (Go.bits .xor .i64 t446 t448) [.int .i64 (Go.bits .xor .i64 t446 t448)] (fun k_ => some k_ ≠ (.slice (some ad445) t412.length co140 : Value).ownBlock) (fun _ => False) rfl rfl ?aP (fun _ hk => hk.elim) ?aF ?aO ?aB ?aS ?aL ?_; (case aP => exact rfl); (case aB => exact (Lam.al)); (case aF => exact (fun k_ hk => Kd.fresh' (Kd.R_lt (Lam.rq HO_273.out)) k_ hk)); (case aO => exact (Lam.rq HO_28.out)); (case aS => exact (below_size (Lam.al))); (case aL => have := LMc163.out; omega); intro v459 w170 ho hb hg hat; rw [← Ny458.out] at ho; have n0_ := Aside0.mk (Kd.R_after (ok := (fun _ => True)) (by (with_reducible repeat (first | apply Kd.R_alloc | apply Kd.R_drewN | apply Kd.R_drew)); exact Kd.R_mono HO_273.out (fun _ hk => ⟨trivial, hk⟩)) hg hat); have n1_ := Aside0.mk (hb); have n2_ := Aside0.mk (ho); clear HO_273; clear HB; clear HO_28; have HO_273 := n0_; have HB := n1_; have HO460 := n2_; clear n0_ n1_ n2_; clear ho hb hg hat)))
                             go_roundg k3
                             case measure => have := HJ15.out; have := HJ103.out; have := HK3.out; omega
                             case rel => exact ⟨(y458), (wrap64 (x275_3 + 1)), (by first | rfl | (simp; done) | (simp [*]; done) | (simp; exact Lam.bxe _ _)), H', ⟨by have := HJ15.out; have := HJ103.out; have := HK3.out; omega⟩, ⟨Lam.rq HO460.out⟩, ⟨by (with_reducible repeat (first | apply Kd.R_alloc | apply Kd.R_drewN | apply Kd.R_drew)); exact Kd.R_mono HO_273.out (fun _ hk => hk.2)⟩, ⟨Lam.al⟩⟩
                            ·rw [if_neg c163] at H
                             exact absurd H (by simp)
                          ·replace c161 := Bool.eq_false_iff.mpr c161
                           subst c161
                           have H1 : (none) = some r := by rw [if_neg (show ¬ (false = true) by decide)] at H; exact H
                           clear H; have H := H1; clear H1
                           exact absurd H (by simp)
                         ·replace c160 := Bool.eq_false_iff.mpr c160
                          subst c160
                          have H1 : (none) = some r := by rw [if_neg (show ¬ (false = true) by decide)] at H; exact H
                          clear H; have H := H1; clear H1
                          exact absurd H (by simp)
                       ·replace c158 := Bool.eq_false_iff.mpr c158
                        subst c158
                        have H1 : (none) = some r := by rw [if_neg (show ¬ (false = true) by decide)] at H; exact H
                        clear H; have H := H1; clear H1
                        exact absurd H (by simp)
                      ·replace c157 := Bool.eq_false_iff.mpr c157
                       subst c157
                       have H1 : (none) = some r := by rw [if_neg (show ¬ (false = true) by decide)] at H; exact H
                       clear H; have H := H1; clear H1
                       exact absurd H (by simp)
                    ·replace c155 := Bool.eq_false_iff.mpr c155
                     subst c155
                     have H1 : (none) = some r := by rw [if_neg (show ¬ (false = true) by decide)] at H; exact H
                     clear H; have H := H1; clear H1
                     exact absurd H (by simp)
                   ·replace c154 := Bool.eq_false_iff.mpr c154
                    subst c154
                    have H1 : (none) = some r := by rw [if_neg (show ¬ (false = true) by decide)] at H; exact H
                    clear H; have H := H1; clear H1
                    exact absurd H (by simp)
                 ·replace c152 := Bool.eq_false_iff.mpr c152
                  subst c152
                  rw [if_neg (show ¬ (false = true) by decide)] at H
                  by_cases c171 : t447 = true
                  ·subst c171
                   rw [if_pos rfl] at H
                   by_cases c172 : t449 = true
                   ·subst c172
                    rw [if_pos rfl] at H
                    by_cases c173 : (Go.bits .xor .i64 t446 t448) = t420
                    ·rw [if_pos c173] at H
                     exact absurd H (by simp)
                    ·rw [if_neg c173] at H
                     have c173b0 : ((Go.bits .xor .i64 t446 t448) == t420) = false := beq_eq_false_iff_ne.mpr c173
                     have c173b1 : ((Go.bits .xor .i64 t446 t448) != t420) = true := bne_iff_ne.mpr c173
                     by_cases c174 : t451 = true
                     ·subst c174
                      rw [if_pos rfl] at H
                      by_cases c175 : t453 = true
                      ·subst c175
                       rw [if_pos rfl] at H
                       by_cases c176 : (wrap64 ((wrap64 (t450 + t452)) + 1)) > t432
                       ·rw [if_pos c176] at H
                        exact absurd H (by simp)
                       ·rw [if_neg c176] at H
                        have c176b0 : decide (t432 < (wrap64 ((wrap64 (t450 + t452)) + 1))) = false := decide_eq_false c176; clear c176
                        by_cases c177 : t455 = true
                        ·subst c177
                         rw [if_pos rfl] at H
                         by_cases c178 : t457 = true
                         ·subst c178
                          rw [if_pos rfl] at H
                          by_cases c179 : (wrap64 ((wrap64 (t454 + t456)) + 1)) < t436
                          ·rw [if_pos c179] at H
                           exact absurd H (by simp)
                          ·rw [if_neg c179] at H
                           have c179b0 : decide ((wrap64 ((wrap64 (t454 + t456)) + 1)) < t436) = false := decide_eq_false c179; clear c179
                           by_cases c180 : x28_3.length < 17592186044416
                           ·rw [if_pos c180] at H
                            have LMc180 := Aside0.mk c180; clear c180
                            obtain ⟨y461, hy461⟩ : ∃ y_ : List Int, y_ = (x28_3 ++ [Go.bits .xor .i64 t446 t448]) := ⟨_, rfl⟩
                            replace H : (laws_FnBreaksStrips.l0 k3 l1 t409 t410 false t420 t432 t436 y461 t412 (t412.length : Int) (wrap64 (x275_3 + 1))) = some r := by first | (rw [hy461]; with_reducible exact H) | (have H2_ := (Option.bind_some _ _).symm.trans H; rw [hy461]; with_reducible exact H2_) | (have H2_ := (Option.bind_some _ _).symm.trans H; with_reducible exact H2_) | with_reducible exact H | (rw [hy461]; exact H) | exact H
                            have Ny461 := Aside0.mk hy461; clear hy461; have H' := Aside0.mk H; clear H
                            have p445 : 0 ≤ (x275_3 : Int) := of_decide_eq_true (by first | (with_reducible assumption) | assumption)
                            have q445 : x275_3 < (t412.length : Int) := of_decide_eq_true (by first | (with_reducible assumption) | assumption)
                            obtain ⟨ad445, e445, hx445_0⟩ := Kd.at_int (Kd.R_reads' HO_273.out).2.2 x275_3 p445 q445
                            cases e445
                            replace p445 := eq_true p445; replace q445 := eq_true q445
                            (go_upto_region 29 with (first | ((with_reducible refine gate_callee (f := 9) rfl ?_); refine goesL_ (some 283) rfl rfl Try.func9 (by kernel_rfl) rfl #[.int .i64 (rd t412 x275_3), .int .i64 t410, .bool false] rfl (by (try simp only [List.map_toArray, List.map_cons, List.map_nil]); first | done | rfl | (simp only [List.length_drop, List.length_take]; rfl)) ?_; (with_reducible refine (impl_StripValue.calls k3 (rd t412 x275_3) t410 false t446 true _ A144.out).mono ?_); rintro e w181 ⟨rfl, hb⟩; refine ⟨_, rfl, ?_⟩; have n0_ := Aside0.mk (Kd.R_below (Lam.rq HO_28.out) hb); have n1_ := Aside0.mk (Kd.R_below (Lam.rq HO_273.out) hb); have n2_ := Aside0.mk (below_step (Lam.al) hb); clear HO_28; clear HO_273; clear HB; have HO_28 := n0_; have HO_273 := n1_; have HB := n2_; clear n0_ n1_ n2_; (try clear hb); (try clear hb2); (try clear hk); (try clear hi)) | ((with_reducible refine gate_callee (f := 9) rfl ?_); refine goesL_ (some 292) rfl rfl Try.func9 (by kernel_rfl) rfl #[.int .i64 (wrap64 (t409 - (rd t412 x275_3))), .int .i64 t410, .bool false] rfl (by (try simp only [List.map_toArray, List.map_cons, List.map_nil]); first | done | rfl | (simp only [List.length_drop, List.length_take]; rfl)) ?_; (with_reducible refine (impl_StripValue.calls k3 (wrap64 (t409 - (rd t412 x275_3))) t410 false t448 true _ A145.out).mono ?_); rintro e w182 ⟨rfl, hb⟩; refine ⟨_, rfl, ?_⟩; have n0_ := Aside0.mk (Kd.R_below (Lam.rq HO_28.out) hb); have n1_ := Aside0.mk (Kd.R_below (Lam.rq HO_273.out) hb); have n2_ := Aside0.mk (below_step (Lam.al) hb); clear HO_28; clear HO_273; clear HB; have HO_28 := n0_; have HO_273 := n1_; have HB := n2_; clear n0_ n1_ n2_; (try clear hb); (try clear hb2); (try clear hk); (try clear hi)) | ((with_reducible refine gate_callee (f := 13) rfl ?_); refine goesL_ (some 299) rfl rfl Try.func13 (by kernel_rfl) rfl #[.int .i64 (rd t412 x275_3), .int .i64 t410, .bool false] rfl (by (try simp only [List.map_toArray, List.map_cons, List.map_nil]); first | done | rfl | (simp only [List.length_drop, List.length_take]; rfl)) ?_; (with_reducible refine (impl_LongestStripPlay.calls k3 (rd t412 x275_3) t410 false t450 true _ A146.out).mono ?_); rintro e w183 ⟨rfl, hb⟩; refine ⟨_, rfl, ?_⟩; have n0_ := Aside0.mk (Kd.R_below (Lam.rq HO_28.out) hb); have n1_ := Aside0.mk (Kd.R_below (Lam.rq HO_273.out) hb); have n2_ := Aside0.mk (below_step (Lam.al) hb); clear HO_28; clear HO_273; clear HB; have HO_28 := n0_; have HO_273 := n1_; have HB := n2_; clear n0_ n1_ n2_; (try clear hb); (try clear hb2); (try clear hk); (try clear hi)) | ((with_reducible refine gate_callee (f := 13) rfl ?_); refine goesL_ (some 308) rfl rfl Try.func13 (by kernel_rfl) rfl #[.int .i64 (wrap64 (t409 - (rd t412 x275_3))), .int .i64 t410, .bool false] rfl (by (try simp only [List.map_toArray, List.map_cons, List.map_nil]); first | done | rfl | (simp only [List.length_drop, List.length_take]; rfl)) ?_; (with_reducible refine (impl_LongestStripPlay.calls k3 (wrap64 (t409 - (rd t412 x275_3))) t410 false t452 true _ A147.out).mono ?_); rintro e w184 ⟨rfl, hb⟩; refine ⟨_, rfl, ?_⟩; have n0_ := Aside0.mk (Kd.R_below (Lam.rq HO_28.out) hb); have n1_ := Aside0.mk (Kd.R_below (Lam.rq HO_273.out) hb); have n2_ := Aside0.mk (below_step (Lam.al) hb); clear HO_28; clear HO_273; clear HB; have HO_28 := n0_; have HO_273 := n1_; have HB := n2_; clear n0_ n1_ n2_; (try clear hb); (try clear hb2); (try clear hk); (try clear hi)) | ((with_reducible refine gate_callee (f := 15) rfl ?_); refine goesL_ (some 315) rfl rfl Try.func15 (by kernel_rfl) rfl #[.int .i64 (rd t412 x275_3), .int .i64 t410, .bool false] rfl (by (try simp only [List.map_toArray, List.map_cons, List.map_nil]); first | done | rfl | (simp only [List.length_drop, List.length_take]; rfl)) ?_; (with_reducible refine (impl_ShortestStripPlay.calls k3 (rd t412 x275_3) t410 false t454 true _ A148.out).mono ?_); rintro e w185 ⟨rfl, hb⟩; refine ⟨_, rfl, ?_⟩; have n0_ := Aside0.mk (Kd.R_below (Lam.rq HO_28.out) hb); have n1_ := Aside0.mk (Kd.R_below (Lam.rq HO_273.out) hb); have n2_ := Aside0.mk (below_step (Lam.al) hb); clear HO_28; clear HO_273; clear HB; have HO_28 := n0_; have HO_273 := n1_; have HB := n2_; clear n0_ n1_ n2_; (try clear hb); (try clear hb2); (try clear hk); (try clear hi)) | ((with_reducible refine gate_callee (f := 15) rfl ?_); refine goesL_ (some 324) rfl rfl Try.func15 (by kernel_rfl) rfl #[.int .i64 (wrap64 (t409 - (rd t412 x275_3))), .int .i64 t410, .bool false] rfl (by (try simp only [List.map_toArray, List.map_cons, List.map_nil]); first | done | rfl | (simp only [List.length_drop, List.length_take]; rfl)) ?_; (with_reducible refine (impl_ShortestStripPlay.calls k3 (wrap64 (t409 - (rd t412 x275_3))) t410 false t456 true _ A149.out).mono ?_); rintro e w186 ⟨rfl, hb⟩; refine ⟨_, rfl, ?_⟩; have n0_ := Aside0.mk (Kd.R_below (Lam.rq HO_28.out) hb); have n1_ := Aside0.mk (Kd.R_below (Lam.rq HO_273.out) hb); have n2_ := Aside0.mk (below_step (Lam.al) hb); clear HO_28; clear HO_273; clear HB; have HO_28 := n0_; have HO_273 := n1_; have HB := n2_; clear n0_ n1_ n2_; (try clear hb); (try clear hb2); (try clear hk); (try clear hi)) | ((with_reducible refine gate_builtin (b := .append) (xs := #[.tmp 392, .tmp 396]) rfl ?_); (try (refine gate_guard (by rfl) ?_; dsimp only)); at_builtin; refine Kd.R_append (Kd.int .i64) (w0 := w) w.heap.size rfl (.tmp 392) (.tmp 396) 26 3 (.int .i64 0) 8 rfl Try.underlying26 info3 rfl (by decide) (by omega) u28 x28_3 (Go.bits .xor .i64 t446 t448) [.int .i64 (Go.bits .xor .i64 t446 t448)] (fun k_ => some k_ ≠ (.slice (some ad445) t412.length co140 : Value).ownBlock) (fun _ => False) rfl rfl ?aP (fun _ hk => hk.elim) ?aF ?aO ?aB ?aS ?aL ?_; (case aP => exact rfl); (case aB => exact (Lam.al)); (case aF => exact (fun k_ hk => Kd.fresh' (Kd.R_lt (Lam.rq HO_273.out)) k_ hk)); (case aO => exact (Lam.rq HO_28.out)); (case aS => exact (below_size (Lam.al))); (case aL => have := LMc180.out; omega); intro v462 w187 ho hb hg hat; rw [← Ny461.out] at ho; have n0_ := Aside0.mk (Kd.R_after (ok := (fun _ => True)) (by (with_reducible repeat (first | apply Kd.R_alloc | apply Kd.R_drewN | apply Kd.R_drew)); exact Kd.R_mono HO_273.out (fun _ hk => ⟨trivial, hk⟩)) hg hat); have n1_ := Aside0.mk (hb); have n2_ := Aside0.mk (ho); clear HO_273; clear HB; clear HO_28; have HO_273 := n0_; have HB := n1_; have HO463 := n2_; clear n0_ n1_ n2_; clear ho hb hg hat))); refine wp_region_lit ?_; (try simp only [List.append]); refine CutK.seg 9 ?_; intro R_ hR_; simp only [List.take_succ_cons, List.take_zero, List.drop_succ_cons, List.drop_zero, List.cons_append, List.nil_append] at hR_ ⊢; go_wp2; refine hR_ _ _ ?_; clear hR_ R_; refine CutK.seg 9 ?_; intro R_ hR_; simp only [List.take_succ_cons, List.take_zero, List.drop_succ_cons, List.drop_zero, List.cons_append, List.nil_append] at hR_ ⊢; go_wp2; refine hR_ _ _ ?_; clear hR_ R_; refine CutK.seg 4 ?_; intro R_ hR_; simp only [List.take_succ_cons, List.take_zero, List.drop_succ_cons, List.drop_zero, List.cons_append, List.nil_append] at hR_ ⊢; go_wp2; refine hR_ _ _ ?_; clear hR_ R_; refine CutK.seg 4 ?_; intro R_ hR_; simp only [List.take_succ_cons, List.take_zero, List.drop_succ_cons, List.drop_zero, List.cons_append, List.nil_append] at hR_ ⊢; go_wp2; refine hR_ _ _ ?_; clear hR_ R_; refine CutK.seg 7 ?_; intro R_ hR_; simp only [List.take_succ_cons, List.take_zero, List.drop_succ_cons, List.drop_zero, List.cons_append, List.nil_append] at hR_ ⊢; go_wp2; refine hR_ _ _ ?_; clear hR_ R_; refine CutK.seg 4 ?_; intro R_ hR_; simp only [List.take_succ_cons, List.take_zero, List.drop_succ_cons, List.drop_zero, List.cons_append, List.nil_append] at hR_ ⊢; go_wp2; refine hR_ _ _ ?_; clear hR_ R_; refine CutK.seg 4 ?_; intro R_ hR_; simp only [List.take_succ_cons, List.take_zero, List.drop_succ_cons, List.drop_zero, List.cons_append, List.nil_append] at hR_ ⊢; go_wp2; refine hR_ _ _ ?_; clear hR_ R_; refine CutK.seg 8 ?_; intro R_ hR_; simp only [List.take_succ_cons, List.take_zero, List.drop_succ_cons, List.drop_zero, List.cons_append, List.nil_append] at hR_ ⊢; go_wp2; refine hR_ _ _ ?_; clear hR_ R_; refine CutK.seg 4 ?_; intro R_ hR_; simp only [List.take_succ_cons, List.take_zero, List.drop_succ_cons, List.drop_zero, List.cons_append, List.nil_append] at hR_ ⊢; go_wp2; refine hR_ _ _ ?_; clear hR_ R_; refine CutK.seg 4 ?_; intro R_ hR_; simp only [List.take_succ_cons, List.take_zero, List.drop_succ_cons, List.drop_zero, List.cons_append, List.nil_append] at hR_ ⊢; go_wp2; refine hR_ _ _ ?_; clear hR_ R_
                            (go_wp2_with (first | ((with_reducible refine gate_callee (f := 9) rfl ?_); refine goesL_ (some 283) rfl rfl Try.func9 (by kernel_rfl) rfl #[.int .i64 (rd t412 x275_3), .int .i64 t410, .bool false] rfl (by (try simp only [List.map_toArray, List.map_cons, List.map_nil]); first | done | rfl | (simp only [List.length_drop, List.length_take]; rfl)) ?_; (with_reducible refine (impl_StripValue.calls k3 (rd t412 x275_3) t410 false t446 true _ A144.out).mono ?_); rintro e w181 ⟨rfl, hb⟩; refine ⟨_, rfl, ?_⟩; have n0_ := Aside0.mk (Kd.R_below (Lam.rq HO_28.out) hb); have n1_ := Aside0.mk (Kd.R_below (Lam.rq HO_273.out) hb); have n2_ := Aside0.mk (below_step (Lam.al) hb); clear HO_28; clear HO_273; clear HB; have HO_28 := n0_; have HO_273 := n1_; have HB := n2_; clear n0_ n1_ n2_; (try clear hb); (try clear hb2); (try clear hk); (try clear hi)) | ((with_reducible refine gate_callee (f := 9) rfl ?_); refine goesL_ (some 292) rfl rfl Try.func9 (by kernel_rfl) rfl #[.int .i64 (wrap64 (t409 - (rd t412 x275_3))), .int .i64 t410, .bool false] rfl (by (try simp only [List.map_toArray, List.map_cons, List.map_nil]); first | done | rfl | (simp only [List.length_drop, List.length_take]; rfl)) ?_; (with_reducible refine (impl_StripValue.calls k3 (wrap64 (t409 - (rd t412 x275_3))) t410 false t448 true _ A145.out).mono ?_); rintro e w182 ⟨rfl, hb⟩; refine ⟨_, rfl, ?_⟩; have n0_ := Aside0.mk (Kd.R_below (Lam.rq HO_28.out) hb); have n1_ := Aside0.mk (Kd.R_below (Lam.rq HO_273.out) hb); have n2_ := Aside0.mk (below_step (Lam.al) hb); clear HO_28; clear HO_273; clear HB; have HO_28 := n0_; have HO_273 := n1_; have HB := n2_; clear n0_ n1_ n2_; (try clear hb); (try clear hb2); (try clear hk); (try clear hi)) | ((with_reducible refine gate_callee (f := 13) rfl ?_); refine goesL_ (some 299) rfl rfl Try.func13 (by kernel_rfl) rfl #[.int .i64 (rd t412 x275_3), .int .i64 t410, .bool false] rfl (by (try simp only [List.map_toArray, List.map_cons, List.map_nil]); first | done | rfl | (simp only [List.length_drop, List.length_take]; rfl)) ?_; (with_reducible refine (impl_LongestStripPlay.calls k3 (rd t412 x275_3) t410 false t450 true _ A146.out).mono ?_); rintro e w183 ⟨rfl, hb⟩; refine ⟨_, rfl, ?_⟩; have n0_ := Aside0.mk (Kd.R_below (Lam.rq HO_28.out) hb); have n1_ := Aside0.mk (Kd.R_below (Lam.rq HO_273.out) hb); have n2_ := Aside0.mk (below_step (Lam.al) hb); clear HO_28; clear HO_273; clear HB; have HO_28 := n0_; have HO_273 := n1_; have HB := n2_; clear n0_ n1_ n2_; (try clear hb); (try clear hb2); (try clear hk); (try clear hi)) | ((with_reducible refine gate_callee (f := 13) rfl ?_); refine goesL_ (some 308) rfl rfl Try.func13 (by kernel_rfl) rfl #[.int .i64 (wrap64 (t409 - (rd t412 x275_3))), .int .i64 t410, .bool false] rfl (by (try simp only [List.map_toArray, List.map_cons, List.map_nil]); first | done | rfl | (simp only [List.length_drop, List.length_take]; rfl)) ?_; (with_reducible refine (impl_LongestStripPlay.calls k3 (wrap64 (t409 - (rd t412 x275_3))) t410 false t452 true _ A147.out).mono ?_); rintro e w184 ⟨rfl, hb⟩; refine ⟨_, rfl, ?_⟩; have n0_ := Aside0.mk (Kd.R_below (Lam.rq HO_28.out) hb); have n1_ := Aside0.mk (Kd.R_below (Lam.rq HO_273.out) hb); have n2_ := Aside0.mk (below_step (Lam.al) hb); clear HO_28; clear HO_273; clear HB; have HO_28 := n0_; have HO_273 := n1_; have HB := n2_; clear n0_ n1_ n2_; (try clear hb); (try clear hb2); (try clear hk); (try clear hi)) | ((with_reducible refine gate_callee (f := 15) rfl ?_); refine goesL_ (some 315) rfl rfl Try.func15 (by kernel_rfl) rfl #[.int .i64 (rd t412 x275_3), .int .i64 t410, .bool false] rfl (by (try simp only [List.map_toArray, List.map_cons, List.map_nil]); first | done | rfl | (simp only [List.length_drop, List.length_take]; rfl)) ?_; (with_reducible refine (impl_ShortestStripPlay.calls k3 (rd t412 x275_3) t410 false t454 true _ A148.out).mono ?_); rintro e w185 ⟨rfl, hb⟩; refine ⟨_, rfl, ?_⟩; have n0_ := Aside0.mk (Kd.R_below (Lam.rq HO_28.out) hb); have n1_ := Aside0.mk (Kd.R_below (Lam.rq HO_273.out) hb); have n2_ := Aside0.mk (below_step (Lam.al) hb); clear HO_28; clear HO_273; clear HB; have HO_28 := n0_; have HO_273 := n1_; have HB := n2_; clear n0_ n1_ n2_; (try clear hb); (try clear hb2); (try clear hk); (try clear hi)) | ((with_reducible refine gate_callee (f := 15) rfl ?_); refine goesL_ (some 324) rfl rfl Try.func15 (by kernel_rfl) rfl #[.int .i64 (wrap64 (t409 - (rd t412 x275_3))), .int .i64 t410, .bool false] rfl (by (try simp only [List.map_toArray, List.map_cons, List.map_nil]); first | done | rfl | (simp only [List.length_drop, List.length_take]; rfl)) ?_; (with_reducible refine (impl_ShortestStripPlay.calls k3 (wrap64 (t409 - (rd t412 x275_3))) t410 false t456 true _ A149.out).mono ?_); rintro e w186 ⟨rfl, hb⟩; refine ⟨_, rfl, ?_⟩; have n0_ := Aside0.mk (Kd.R_below (Lam.rq HO_28.out) hb); have n1_ := Aside0.mk (Kd.R_below (Lam.rq HO_273.out) hb); have n2_ := Aside0.mk (below_step (Lam.al) hb); clear HO_28; clear HO_273; clear HB; have HO_28 := n0_; have HO_273 := n1_; have HB := n2_; clear n0_ n1_ n2_; (try clear hb); (try clear hb2); (try clear hk); (try clear hi)) | ((with_reducible refine gate_builtin (b := .append) (xs := #[.tmp 392, .tmp 396]) rfl ?_); (try (refine gate_guard (by rfl) ?_; dsimp only)); at_builtin; refine Kd.R_append (Kd.int .i64) (w0 := w) w.heap.size rfl (.tmp 392) (.tmp 396) 26 3 (.int .i64 0) 8 rfl Try.underlying26 info3 rfl (by decide) (by omega) u28 x28_3 (Go.bits .xor .i64 t446 t448) [.int .i64 (Go.bits .xor .i64 t446 t448)] (fun k_ => some k_ ≠ (.slice (some ad445) t412.length co140 : Value).ownBlock) (fun _ => False) rfl rfl ?aP (fun _ hk => hk.elim) ?aF ?aO ?aB ?aS ?aL ?_; (case aP => exact rfl); (case aB => exact (Lam.al)); (case aF => exact (fun k_ hk => Kd.fresh' (Kd.R_lt (Lam.rq HO_273.out)) k_ hk)); (case aO => exact (Lam.rq HO_28.out)); (case aS => exact (below_size (Lam.al))); (case aL => have := LMc180.out; omega); intro v462 w187 ho hb hg hat; rw [← Ny461.out] at ho; have n0_ := Aside0.mk (Kd.R_after (ok := (fun _ => True)) (by (with_reducible repeat (first | apply Kd.R_alloc | apply Kd.R_drewN | apply Kd.R_drew)); exact Kd.R_mono HO_273.out (fun _ hk => ⟨trivial, hk⟩)) hg hat); have n1_ := Aside0.mk (hb); have n2_ := Aside0.mk (ho); clear HO_273; clear HB; clear HO_28; have HO_273 := n0_; have HB := n1_; have HO463 := n2_; clear n0_ n1_ n2_; clear ho hb hg hat)))
                            go_roundg k3
                            case measure => have := HJ15.out; have := HJ103.out; have := HK3.out; omega
                            case rel => exact ⟨(y461), (wrap64 (x275_3 + 1)), (by first | rfl | (simp; done) | (simp [*]; done) | (simp; exact Lam.bxe _ _)), H', ⟨by have := HJ15.out; have := HJ103.out; have := HK3.out; omega⟩, ⟨Lam.rq HO463.out⟩, ⟨by (with_reducible repeat (first | apply Kd.R_alloc | apply Kd.R_drewN | apply Kd.R_drew)); exact Kd.R_mono HO_273.out (fun _ hk => hk.2)⟩, ⟨Lam.al⟩⟩
                           ·rw [if_neg c180] at H
                            exact absurd H (by simp)
                         ·replace c178 := Bool.eq_false_iff.mpr c178
                          subst c178
                          have H1 : (none) = some r := by rw [if_neg (show ¬ (false = true) by decide)] at H; exact H
                          clear H; have H := H1; clear H1
                          exact absurd H (by simp)
                        ·replace c177 := Bool.eq_false_iff.mpr c177
                         subst c177
                         have H1 : (none) = some r := by rw [if_neg (show ¬ (false = true) by decide)] at H; exact H
                         clear H; have H := H1; clear H1
                         exact absurd H (by simp)
                      ·replace c175 := Bool.eq_false_iff.mpr c175
                       subst c175
                       have H1 : (none) = some r := by rw [if_neg (show ¬ (false = true) by decide)] at H; exact H
                       clear H; have H := H1; clear H1
                       exact absurd H (by simp)
                     ·replace c174 := Bool.eq_false_iff.mpr c174
                      subst c174
                      have H1 : (none) = some r := by rw [if_neg (show ¬ (false = true) by decide)] at H; exact H
                      clear H; have H := H1; clear H1
                      exact absurd H (by simp)
                   ·replace c172 := Bool.eq_false_iff.mpr c172
                    subst c172
                    have H1 : (none) = some r := by rw [if_neg (show ¬ (false = true) by decide)] at H; exact H
                    clear H; have H := H1; clear H1
                    exact absurd H (by simp)
                  ·replace c171 := Bool.eq_false_iff.mpr c171
                   subst c171
                   have H1 : (none) = some r := by rw [if_neg (show ¬ (false = true) by decide)] at H; exact H
                   clear H; have H := H1; clear H1
                   exact absurd H (by simp)
              ·rw [if_neg c143] at H
               exact absurd H (by simp)
             ·rw [if_neg c142] at H
              exact absurd H (by simp)
            ·rw [if_neg c141] at H
             have c141b0 : decide (x275_3 < (t412.length : Int)) = false := decide_eq_false c141; clear c141; have H' := Aside0.mk H; clear H
             go_wp2
             go_loopg [43] k3 (fun kq v43 w' => ∃ (x43_4 : Int), v43 = .int .i64 x43_4 ∧ Aside0 (laws_FnBreaksStrips.l1 kq l1 t409 t410 t411 t420 t432 x28_3 x43_4 = some r) ∧ Aside0 (kq ≤ k3) ∧ Aside0 (Kd.R (Kd.int .i64) 3 w' w.heap.size (fun _ => True) u28 x28_3) ∧ Aside0 (Below w.heap.size w w'))
             case atStart => exact ⟨(0), (by first | rfl | (simp; done) | (simp [*]; done) | (simp; exact Lam.bxe _ _)), H', ⟨Nat.le_refl _⟩, ⟨by (with_reducible repeat (first | apply Kd.R_alloc | apply Kd.R_drewN | apply Kd.R_drew)); exact Kd.R_mono HO_28.out (fun _ hk => trivial)⟩, ⟨Lam.al⟩⟩
             case round =>
              clear H'; (try clear c1); (try clear c4); (try clear c101); (try clear c103); (try clear c139); (try clear c141); (try clear c141b0)
              obtain ⟨x43_4, rfl, HA, HK4, HO_28, HB⟩ := hrel
              cases gk with
              | zero => exact absurd HA.out (by simp [laws_FnBreaksStrips.l1])
              | succ k4 =>
               have H := HA.out; clear HA
               simp only [laws_FnBreaksStrips.l1] at H
               by_cases c188 : x43_4 < t420
               ·rw [if_pos c188] at H
                have c188b0 : decide (x43_4 < t420) = true := decide_eq_true c188; clear c188
                replace H := Option.bind_eq_some_iff.mp H
                obtain ⟨t464, A1890, H⟩ := H
                (try dsimp only at H); have A189 := Aside0.mk A1890; clear A1890
                by_cases c190 : t464 = true
                ·subst c190
                 have H1 : (laws_FnBreaksStrips.l1 k4 l1 t409 t410 t411 t420 t432 x28_3 (wrap64 (x43_4 + 1))) = some r := by rw [if_pos rfl] at H; exact H
                 clear H; have H := H1; clear H1; have H' := Aside0.mk H; clear H
                 obtain ⟨Ao191, co191, eo191⟩ := Kd.R_slice HO_28.out
                 subst eo191
                 go_wp2_with (first | ((with_reducible refine gate_callee (f := 19) rfl ?_); refine goesL_ (some 406) rfl rfl Try.func19 (by kernel_rfl) rfl #[.slice Ao191 x28_3.length co191, .int .i64 x43_4] rfl (by (try simp only [List.map_toArray, List.map_cons, List.map_nil]); first | done | rfl | (simp only [List.length_drop, List.length_take]; rfl)) ?_; (with_reducible refine (laws_yHas.calls k4 _ _ x28_3 x43_4 true _ ?side1 ?side2 A189.out).mono ?_); (case side1 => repeat (first | exact (Kd.R_reads' HO_28.out).2.2 | (with_reducible refine Kd.C_alloc ?_ _) | (with_reducible refine Kd.C_drewN ?_ _) | (with_reducible refine Kd.C_drew ?_))); (case side2 => exact (Kd.R_reads' HO_28.out).2.1); rintro e w' ⟨rfl, ⟨nd, rfl⟩⟩; refine ⟨_, rfl, ?_⟩))
                 go_roundg k4
                 case measure => have := HJ15.out; have := HJ103.out; have := HK3.out; have := HK4.out; omega
                 case rel => exact ⟨(wrap64 (x43_4 + 1)), (by first | rfl | (simp; done) | (simp [*]; done) | (simp; exact Lam.bxe _ _)), H', ⟨by have := HJ15.out; have := HJ103.out; have := HK3.out; have := HK4.out; omega⟩, ⟨Lam.rq HO_28.out⟩, ⟨Lam.al⟩⟩
                ·replace c190 := Bool.eq_false_iff.mpr c190
                 subst c190
                 have H1 : (none) = some r := by rw [if_neg (show ¬ (false = true) by decide)] at H; exact H
                 clear H; have H := H1; clear H1
                 exact absurd H (by simp)
               ·rw [if_neg c188] at H
                have c188b0 : decide (x43_4 < t420) = false := decide_eq_false c188; clear c188
                by_cases c192 : t411 = true
                ·subst c192
                 have H1 : (laws_FnBreaksStrips.j4 k4 l1) = some r := by rw [if_pos rfl] at H; exact H
                 clear H; have H := H1; clear H1; have H' := Aside0.mk H; clear H
                 go_wp2
                 refine Met.intro (hJ_4 _ undef undef undef _ ?kp ?rel)
                 case kp => simp only [↓CutK.keep0, ↓CutK.keep1, ↓CutK.keep2, ↓CutK.keep3, ↓CutK.keep4, ↓CutK.keepN, true_and, and_true]
                 case rel => exact ⟨_, H', ⟨by have := HJ15.out; have := HJ103.out; have := HK3.out; have := HK4.out; first | omega | exact Nat.le_refl _⟩, ⟨Lam.al⟩⟩
                ·replace c192 := Bool.eq_false_iff.mpr c192
                 subst c192
                 rw [if_neg (show ¬ (false = true) by decide)] at H
                 by_cases c193 : t410 = 0
                 ·rw [if_pos c193] at H
                  exact absurd H (by simp)
                 ·rw [if_neg c193] at H
                  have c193b0 : (t410 == 0) = false := beq_eq_false_iff_ne.mpr c193
                  have c193b1 : (t410 != 0) = true := bne_iff_ne.mpr c193
                  by_cases c194 : t432 = (wrap64 ((wrap64 (Int.tdiv t409 t410)) - 1))
                  ·rw [if_pos c194] at H
                   have c194b0 : (t432 == (wrap64 ((wrap64 (Int.tdiv t409 t410)) - 1))) = true := beq_iff_eq.mpr c194; have c194b1 : (t432 != (wrap64 ((wrap64 (Int.tdiv t409 t410)) - 1))) = false := bne_eq_false_iff_eq.mpr c194; clear c194; have H' := Aside0.mk H; clear H
                   go_wp2
                   refine Met.intro (hJ_4 _ undef undef undef _ ?kp ?rel)
                   case kp => simp only [↓CutK.keep0, ↓CutK.keep1, ↓CutK.keep2, ↓CutK.keep3, ↓CutK.keep4, ↓CutK.keepN, true_and, and_true]
                   case rel => exact ⟨_, H', ⟨by have := HJ15.out; have := HJ103.out; have := HK3.out; have := HK4.out; first | omega | exact Nat.le_refl _⟩, ⟨Lam.al⟩⟩
                  ·rw [if_neg c194] at H
                   have c194b0 : (t432 == (wrap64 ((wrap64 (Int.tdiv t409 t410)) - 1))) = false := beq_eq_false_iff_ne.mpr c194
                   have c194b1 : (t432 != (wrap64 ((wrap64 (Int.tdiv t409 t410)) - 1))) = true := bne_iff_ne.mpr c194
                   by_cases c195 : t432 > 0
                   ·rw [if_pos c195] at H
                    exact absurd H (by simp)
                   ·rw [if_neg c195] at H
                    have c195b0 : decide (0 < t432) = false := decide_eq_false c195; clear c195; have H' := Aside0.mk H; clear H
                    go_wp2
                    refine Met.intro (hJ_4 _ undef undef undef _ ?kp ?rel)
                    case kp => simp only [↓CutK.keep0, ↓CutK.keep1, ↓CutK.keep2, ↓CutK.keep3, ↓CutK.keep4, ↓CutK.keepN, true_and, and_true]
                    case rel => exact ⟨_, H', ⟨by have := HJ15.out; have := HJ103.out; have := HK3.out; have := HK4.out; first | omega | exact Nat.le_refl _⟩, ⟨Lam.al⟩⟩
      ·replace c103 := Bool.eq_false_iff.mpr c103
       subst c103
       have H1 : (laws_FnBreaksStrips.j4 kj15 l1) = some r := by rw [if_neg (show ¬ (false = true) by decide)] at H; exact H
       clear H; have H := H1; clear H1; have H' := Aside0.mk H; clear H
       go_wp2
       refine Met.intro (hJ_4 _ undef undef undef _ ?kp ?rel)
       case kp => simp only [↓CutK.keep0, ↓CutK.keep1, ↓CutK.keep2, ↓CutK.keep3, ↓CutK.keep4, ↓CutK.keepN, true_and, and_true]
       case rel => exact ⟨_, H', ⟨by have := HJ15.out; first | omega | exact Nat.le_refl _⟩, ⟨Lam.al⟩⟩
     case rest4 => as_aux_lemma =>
      intro _ _ _ g_ wc hcut
      dsimp only [CutK.rl, List.replicate, List.cons_append, List.nil_append]
      dsimp only [↓CutK.mix0, ↓CutK.mix1, ↓CutK.mix2, ↓CutK.mix3, ↓CutK.mix4, ↓CutK.mixN, Nat.reduceAdd, Nat.zero_add]
      clear HC102; (try clear c1); (try clear c4); (try clear c101)
      obtain ⟨kq, HA, HJ101, HB⟩ := hcut
      cases kq with
      | zero => exact absurd HA.out (by simp [laws_FnBreaksStrips.j4])
      | succ kj101 =>
       have H := HA.out; clear HA
       simp only [laws_FnBreaksStrips.j4] at H
       replace H := Option.bind_eq_some_iff.mp H
       obtain ⟨⟨t465, t468, t469⟩, A1960, H⟩ := H
       (try dsimp only at H); have A196 := Aside0.mk A1960; clear A1960
       replace H := Option.bind_eq_some_iff.mp H
       obtain ⟨⟨t470, t471⟩, A1970, H⟩ := H
       (try dsimp only at H); have A197 := Aside0.mk A1970; clear A1970
       replace H := Option.bind_eq_some_iff.mp H
       obtain ⟨⟨t474, t475⟩, A1980, H⟩ := H
       (try dsimp only at H); have A198 := Aside0.mk A1980; clear A1980
       replace H := Option.bind_eq_some_iff.mp H
       obtain ⟨⟨t478, t479⟩, A1990, H⟩ := H
       (try dsimp only at H); have A199 := Aside0.mk A1990; clear A1990
       replace H := Option.bind_eq_some_iff.mp H
       obtain ⟨⟨t480, t481⟩, A2000, H⟩ := H
       (try dsimp only at H); have A200 := Aside0.mk A2000; clear A2000
       replace H := Option.bind_eq_some_iff.mp H
       obtain ⟨⟨t482, t485, t486, t487, t488⟩, A2010, H⟩ := H
       (try dsimp only at H); have A201 := Aside0.mk A2010; clear A2010
       replace H := Option.bind_eq_some_iff.mp H
       obtain ⟨⟨t489, t490⟩, A2020, H⟩ := H
       (try dsimp only at H); have A202 := Aside0.mk A2020; clear A2020
       replace H := Option.bind_eq_some_iff.mp H
       obtain ⟨⟨t493, t494⟩, A2030, H⟩ := H
       (try dsimp only at H); have A203 := Aside0.mk A2030; clear A2030; have HC204 := Aside0.mk H; clear H
       go_upto_region 48 with (first | ((with_reducible refine gate_callee (f := 20) rfl ?_); refine goesL_ (some 424) rfl rfl Try.func20 (by kernel_rfl) rfl #[.slice A1 l1.length c1] rfl (by (try simp only [List.map_toArray, List.map_cons, List.map_nil]); first | done | rfl | (simp only [List.length_drop, List.length_take]; rfl)) ?_; (with_reducible refine (spec_DrawGoodStrips.calls kj101 _ _ l1 t465 t468 t469 _ ?side1 ?side2 A196.out).mono ?_); (case side1 => repeat (first | exact (Kd.C_below HR1.out HB.out) | (with_reducible refine Kd.C_alloc ?_ _) | (with_reducible refine Kd.C_drewN ?_ _) | (with_reducible refine Kd.C_drew ?_))); (case side2 => exact HC1.out); rintro e w205 ⟨v466, rfl, ho0, hb⟩; refine ⟨_, rfl, ?_⟩; have n0_ := Aside0.mk (Kd.V_lower (Kd.V_mono (ok' := fun k_ => True) ho0 (fun k_ hk_ => trivial)) (below_size (Lam.al))); have n1_ := Aside0.mk (below_step (Lam.al) hb); clear HB; have HO467 := n0_; have HB := n1_; clear n0_ n1_; (try clear hb); (try clear hb2); (try clear hk); (try clear hi); (try clear ho0); obtain ⟨Ao206, co206, eo206⟩ := Kd.V_slice HO467.out; subst eo206) | ((with_reducible refine gate_callee (f := 21) rfl ?_); refine goesL_ (some 432) rfl rfl Try.func21 (by kernel_rfl) rfl #[.slice Ao206 t465.length co206, .int .i64 t468, .bool t469] rfl (by (try simp only [List.map_toArray, List.map_cons, List.map_nil]); first | done | rfl | (simp only [List.length_drop, List.length_take]; rfl)) ?_; (with_reducible refine (impl_GoodStrips.calls kj101 _ _ t465 t468 t469 t470 t471 _ ?side1 ?side2 A197.out).mono ?_); (case side1 => repeat (first | exact (Kd.V_reads' HO467.out).2.2 | (with_reducible refine Kd.C_alloc ?_ _) | (with_reducible refine Kd.C_drewN ?_ _) | (with_reducible refine Kd.C_drew ?_))); (case side2 => exact (Kd.V_reads' HO467.out).2.1); rintro e w207 ⟨v472, rfl, ho0, hb⟩; refine ⟨_, rfl, ?_⟩; have n0_ := Aside0.mk (Kd.V_elder' (by (with_reducible repeat (first | apply Kd.V_alloc | apply Kd.V_drewN | apply Kd.V_drew)); exact HO467.out) (Kd.S_base ho0) hb); have n1_ := Aside0.mk (Kd.S_lower ho0 (below_size (Lam.al))); have n2_ := Aside0.mk (below_step (Lam.al) hb); clear HO467; clear HB; have HO467 := n0_; have HO473 := n1_; have HB := n2_; clear n0_ n1_ n2_; (try clear hb); (try clear hb2); (try clear hk); (try clear hi); (try clear ho0)) | ((with_reducible refine gate_callee (f := 22) rfl ?_); refine goesL_ (some 439) rfl rfl Try.func22 (by kernel_rfl) rfl #[.slice Ao206 t465.length co206, .int .i64 t468, .bool t469] rfl (by (try simp only [List.map_toArray, List.map_cons, List.map_nil]); first | done | rfl | (simp only [List.length_drop, List.length_take]; rfl)) ?_; (with_reducible refine (spec_GoodStrips.calls kj101 _ _ t465 t468 t469 t474 t475 _ ?side1 ?side2 A198.out).mono ?_); (case side1 => repeat (first | exact (Kd.V_reads' HO467.out).2.2 | (with_reducible refine Kd.C_alloc ?_ _) | (with_reducible refine Kd.C_drewN ?_ _) | (with_reducible refine Kd.C_drew ?_))); (case side2 => exact (Kd.V_reads' HO467.out).2.1); rintro e w208 ⟨v476, rfl, ho0, hb⟩; refine ⟨_, rfl, ?_⟩; have n0_ := Aside0.mk (Kd.V_elder' (by (with_reducible repeat (first | apply Kd.V_alloc | apply Kd.V_drewN | apply Kd.V_drew)); exact HO467.out) (Kd.S_base ho0) hb); have n1_ := Aside0.mk (Kd.S_elder' (Lam.sq HO473.out) (Kd.S_base ho0) hb); have n2_ := Aside0.mk (Kd.S_lower (Kd.S_new' ho0 (Kd.S_lt (Lam.sq HO473.out))) (below_size (Lam.al))); have n3_ := Aside0.mk (below_step (Lam.al) hb); clear HO467; clear HO473; clear HB; have HO467 := n0_; have HO473 := n1_; have HO477 := n2_; have HB := n3_; clear n0_ n1_ n2_ n3_; (try clear hb); (try clear hb2); (try clear hk); (try clear hi); (try clear ho0)) | ((with_reducible refine gate_callee (f := 23) rfl ?_); refine goesL_ (some 446) rfl rfl Try.func23 (by kernel_rfl) rfl #[.slice Ao206 t465.length co206, .int .i64 t468, .bool t469] rfl (by (try simp only [List.map_toArray, List.map_cons, List.map_nil]); first | done | rfl | (simp only [List.length_drop, List.length_take]; rfl)) ?_; (with_reducible refine (impl_WinsStrips.calls kj101 _ _ t465 t468 t469 t478 t479 _ ?side1 ?side2 A199.out).mono ?_); (case side1 => repeat (first | exact (Kd.V_reads' HO467.out).2.2 | (with_reducible refine Kd.C_alloc ?_ _) | (with_reducible refine Kd.C_drewN ?_ _) | (with_reducible refine Kd.C_drew ?_))); (case side2 => exact (Kd.V_reads' HO467.out).2.1); rintro e w209 ⟨rfl, hb⟩; refine ⟨_, rfl, ?_⟩; have n0_ := Aside0.mk (Kd.V_below (by (with_reducible repeat (first | apply Kd.V_alloc | apply Kd.V_drewN | apply Kd.V_drew)); exact HO467.out) hb); have n1_ := Aside0.mk (Kd.S_below (Lam.sq HO473.out) hb); have n2_ := Aside0.mk (Kd.S_below (Lam.sq HO477.out) hb); have n3_ := Aside0.mk (below_step (Lam.al) hb); clear HO467; clear HO473; clear HO477; clear HB; have HO467 := n0_; have HO473 := n1_; have HO477 := n2_; have HB := n3_; clear n0_ n1_ n2_ n3_; (try clear hb); (try clear hb2); (try clear hk); (try clear hi)) | ((with_reducible refine gate_callee (f := 24) rfl ?_); refine goesL_ (some 453) rfl rfl Try.func24 (by kernel_rfl) rfl #[.slice Ao206 t465.length co206, .int .i64 t468, .bool t469] rfl (by (try simp only [List.map_toArray, List.map_cons, List.map_nil]); first | done | rfl | (simp only [List.length_drop, List.length_take]; rfl)) ?_; (with_reducible refine (spec_WinsStrips.calls kj101 _ _ t465 t468 t469 t480 t481 _ ?side1 ?side2 A200.out).mono ?_); (case side1 => repeat (first | exact (Kd.V_reads' HO467.out).2.2 | (with_reducible refine Kd.C_alloc ?_ _) | (with_reducible refine Kd.C_drewN ?_ _) | (with_reducible refine Kd.C_drew ?_))); (case side2 => exact (Kd.V_reads' HO467.out).2.1); rintro e w210 ⟨rfl, hb⟩; refine ⟨_, rfl, ?_⟩; have n0_ := Aside0.mk (Kd.V_below (by (with_reducible repeat (first | apply Kd.V_alloc | apply Kd.V_drewN | apply Kd.V_drew)); exact HO467.out) hb); have n1_ := Aside0.mk (Kd.S_below (Lam.sq HO473.out) hb); have n2_ := Aside0.mk (Kd.S_below (Lam.sq HO477.out) hb); have n3_ := Aside0.mk (below_step (Lam.al) hb); clear HO467; clear HO473; clear HO477; clear HB; have HO467 := n0_; have HO473 := n1_; have HO477 := n2_; have HB := n3_; clear n0_ n1_ n2_ n3_; (try clear hb); (try clear hb2); (try clear hk); (try clear hi)) | ((with_reducible refine gate_callee (f := 25) rfl ?_); refine goesL_ (some 458) rfl rfl Try.func25 (by kernel_rfl) rfl #[.slice A1 l1.length c1] rfl (by (try simp only [List.map_toArray, List.map_cons, List.map_nil]); first | done | rfl | (simp only [List.length_drop, List.length_take]; rfl)) ?_; (with_reducible refine (spec_DrawBreakStrip.calls kj101 _ _ l1 t482 t485 t486 t487 t488 _ ?side1 ?side2 A201.out).mono ?_); (case side1 => repeat (first | exact (Kd.C_below HR1.out HB.out) | (with_reducible refine Kd.C_alloc ?_ _) | (with_reducible refine Kd.C_drewN ?_ _) | (with_reducible refine Kd.C_drew ?_))); (case side2 => exact HC1.out); rintro e w211 ⟨v483, rfl, ho0, hb⟩; refine ⟨_, rfl, ?_⟩; have n0_ := Aside0.mk (Kd.V_below (by (with_reducible repeat (first | apply Kd.V_alloc | apply Kd.V_drewN | apply Kd.V_drew)); exact HO467.out) hb); have n1_ := Aside0.mk (Kd.S_below (Lam.sq HO473.out) hb); have n2_ := Aside0.mk (Kd.S_below (Lam.sq HO477.out) hb); have n3_ := Aside0.mk (Kd.V_lower (Kd.V_mono (ok' := fun k_ => some k_ ≠ (v472 : Value).ownBlock ∧ some k_ ≠ (v476 : Value).ownBlock) ho0 (fun k_ hk_ => ⟨(Kd.fresh' (Kd.S_lt (Lam.sq HO473.out)) k_ hk_), (Kd.fresh' (Kd.S_lt (Lam.sq HO477.out)) k_ hk_)⟩)) (below_size (Lam.al))); have n4_ := Aside0.mk (below_step (Lam.al) hb); clear HO467; clear HO473; clear HO477; clear HB; have HO467 := n0_; have HO473 := n1_; have HO477 := n2_; have HO484 := n3_; have HB := n4_; clear n0_ n1_ n2_ n3_ n4_; (try clear hb); (try clear hb2); (try clear hk); (try clear hi); (try clear ho0); obtain ⟨Ao212, co212, eo212⟩ := Kd.V_slice HO484.out; subst eo212) | ((with_reducible refine gate_callee (f := 26) rfl ?_); refine goesL_ (some 470) rfl rfl Try.func26 (by kernel_rfl) rfl #[.slice Ao212 t482.length co212, .int .i64 t485, .int .i64 t486, .int .i64 t487, .bool t488] rfl (by (try simp only [List.map_toArray, List.map_cons, List.map_nil]); first | done | rfl | (simp only [List.length_drop, List.length_take]; rfl)) ?_; (with_reducible refine (impl_BreakStrip.calls _ _ t482 t485 t486 t487 t488 t489 t490 _ ?side1 ?side2 A202.out).mono ?_); (case side1 => repeat (first | exact (Kd.V_reads' HO484.out).2.2 | (with_reducible refine Kd.C_alloc ?_ _) | (with_reducible refine Kd.C_drewN ?_ _) | (with_reducible refine Kd.C_drew ?_))); (case side2 => exact (Kd.V_reads' HO484.out).2.1); rintro e w213 ⟨v491, rfl, ho0, hb⟩; refine ⟨_, rfl, ?_⟩; have n0_ := Aside0.mk (Kd.V_elder' (by (with_reducible repeat (first | apply Kd.V_alloc | apply Kd.V_drewN | apply Kd.V_drew)); exact HO467.out) (Kd.R_base ho0) hb); have n1_ := Aside0.mk (Kd.S_elder' (Lam.sq HO473.out) (Kd.R_base ho0) hb); have n2_ := Aside0.mk (Kd.S_elder' (Lam.sq HO477.out) (Kd.R_base ho0) hb); have n3_ := Aside0.mk (Kd.V_elder' (by (with_reducible repeat (first | apply Kd.V_alloc | apply Kd.V_drewN | apply Kd.V_drew)); exact HO484.out) (Kd.R_base ho0) hb); have n4_ := Aside0.mk (Kd.R_lower ho0 (below_size (Lam.al))); have n5_ := Aside0.mk (below_step (Lam.al) hb); clear HO467; clear HO473; clear HO477; clear HO484; clear HB; have HO467 := n0_; have HO473 := n1_; have HO477 := n2_; have HO484 := n3_; have HO492 := n4_; have HB := n5_; clear n0_ n1_ n2_ n3_ n4_ n5_; (try clear hb); (try clear hb2); (try clear hk); (try clear hi); (try clear ho0)) | ((with_reducible refine gate_callee (f := 27) rfl ?_); refine goesL_ (some 479) rfl rfl Try.func27 (by kernel_rfl) rfl #[.slice Ao212 t482.length co212, .int .i64 t485, .int .i64 t486, .int .i64 t487, .bool t488] rfl (by (try simp only [List.map_toArray, List.map_cons, List.map_nil]); first | done | rfl | (simp only [List.length_drop, List.length_take]; rfl)) ?_; (with_reducible refine (spec_BreakStrip.calls kj101 _ _ t482 t485 t486 t487 t488 t493 t494 _ ?side1 ?side2 A203.out).mono ?_); (case side1 => repeat (first | exact (Kd.V_reads' HO484.out).2.2 | (with_reducible refine Kd.C_alloc ?_ _) | (with_reducible refine Kd.C_drewN ?_ _) | (with_reducible refine Kd.C_drew ?_))); (case side2 => exact (Kd.V_reads' HO484.out).2.1); rintro e w214 ⟨v495, rfl, ho0, hb⟩; refine ⟨_, rfl, ?_⟩; have n0_ := Aside0.mk (Kd.V_elder' (by (with_reducible repeat (first | apply Kd.V_alloc | apply Kd.V_drewN | apply Kd.V_drew)); exact HO467.out) (Kd.R_base ho0) hb); have n1_ := Aside0.mk (Kd.S_elder' (Lam.sq HO473.out) (Kd.R_base ho0) hb); have n2_ := Aside0.mk (Kd.S_elder' (Lam.sq HO477.out) (Kd.R_base ho0) hb); have n3_ := Aside0.mk (Kd.V_elder' (by (with_reducible repeat (first | apply Kd.V_alloc | apply Kd.V_drewN | apply Kd.V_drew)); exact HO484.out) (Kd.R_base ho0) hb); have n4_ := Aside0.mk (Kd.R_elder' (Lam.rq HO492.out) (Kd.R_base ho0) hb); have n5_ := Aside0.mk (Kd.R_lower (Kd.R_new' ho0 (Kd.R_lt (Lam.rq HO492.out))) (below_size (Lam.al))); have n6_ := Aside0.mk (below_step (Lam.al) hb); clear HO467; clear HO473; clear HO477; clear HO484; clear HO492; clear HB; have HO467 := n0_; have HO473 := n1_; have HO477 := n2_; have HO484 := n3_; have HO492 := n4_; have HO496 := n5_; have HB := n6_; clear n0_ n1_ n2_ n3_ n4_ n5_ n6_; (try clear hb); (try clear hb2); (try clear hk); (try clear hi); (try clear ho0)))
       (try simp only [Act.put, Lam.pa, Lam.pb, Lam.pc])
       refine CutK.wp_cut3 (CutK.rl [75,0,198,1,3,0,247,1,1,2,1,1,3,0,20,1,3,0,119,1]) (fun v523 _ _ wc => ∃ (kq : Nat) (x523_203 : Bool), v523 = .bool x523_203 ∧ Aside0 (laws_FnBreaksStrips.j5 kq t465 t468 t469 t470 t471 t478 t482 t485 t486 t489 t490 x523_203 = some r) ∧ Aside0 (kq ≤ kj101) ∧ Aside0 (Kd.V (Kd.int .i64) 3 wc w.heap.size (fun k_ => some k_ ≠ (v472 : Value).ownBlock ∧ some k_ ≠ (v491 : Value).ownBlock) (.slice Ao206 t465.length co206) t465) ∧ Aside0 (Kd.S (Kd.slice 3 (Kd.int .i64)) 26 wc w.heap.size (fun k_ => some k_ ≠ (v491 : Value).ownBlock) v472 t470) ∧ Aside0 (Kd.V (Kd.int .i64) 3 wc w.heap.size (fun k_ => some k_ ≠ (v472 : Value).ownBlock ∧ some k_ ≠ (v491 : Value).ownBlock) (.slice Ao212 t482.length co212) t482) ∧ Aside0 (Kd.R (Kd.int .i64) 3 wc w.heap.size (fun _ => True) v491 t489) ∧ Aside0 (Below w.heap.size w wc)) ?rest5 ?first5
       case first5 => as_aux_lemma =>
        intro J_ K_ hJ_5 hK_
        dsimp only [CutK.rl, List.replicate, List.cons_append, List.nil_append] at hJ_5
        have H := HC204.out; clear HC204
        obtain ⟨Ao234, co234, eo234⟩ := Kd.S_slice HO473.out
        subst eo234
        obtain ⟨Ao235, co235, eo235⟩ := Kd.S_slice HO477.out
        subst eo235
        refine wp_region_lit ?_
        try simp only [List.append]
        refine CutK.seg 4 ?_; intro R_ hR_; simp only [List.take_succ_cons, List.take_zero, List.drop_succ_cons, List.drop_zero, List.cons_append, List.nil_append] at hR_ ⊢; go_wp2; refine hR_ _ _ ?_; clear hR_ R_
        by_cases c215 : (t471 != t475) = true
        ·rw [if_pos c215] at H
         have c215b0 : (t471 != t475) = true := c215; (try (have c215b1 : decide (t471 = t475) = false := by simpa using c215)); (try (have c215b2 : (t471 == t475) = false := by simpa using c215)); (try (have c215b3 : ¬ (t471 = t475) := by simpa using c215)); clear c215
         (first | rw [c215b0] | (simp only [i64_w, i32_w]; rw [c215b0]) | skip)
         exact absurd H (by rw [laws_FnBreaksStrips.j5_none]; simp)
        ·rw [if_neg c215] at H
         have c215b0 : (t471 != t475) = false := by simpa using c215
         (try (have c215b1 : decide (t471 = t475) = true := by simpa using c215)); (try (have c215b2 : (t471 == t475) = true := by simpa using c215)); clear c215
         (first | rw [c215b0] | (simp only [i64_w, i32_w]; rw [c215b0]) | skip)
         replace H := Option.bind_eq_some_iff.mp H
         obtain ⟨t497, A2170, H⟩ := H
         (try dsimp only at H); have A217 := Aside0.mk A2170; clear A2170
         refine CutK.seg 6 ?_; intro R_ hR_; simp only [List.take_succ_cons, List.take_zero, List.drop_succ_cons, List.drop_zero, List.cons_append, List.nil_append] at hR_ ⊢; go_wp2_with (first | (go_at_call 28; (with_reducible refine (laws_yRows.calls kj101 _ _ t470 _ _ t474 _ _ ?side1 ?side2 ?side3 ?side4 A217.out).mono ?_); (case side1 => repeat (first | exact (Kd.S_reads' HO473.out).2.2 | (with_reducible refine Kd.C_alloc ?_ _) | (with_reducible refine Kd.C_drewN ?_ _) | (with_reducible refine Kd.C_drew ?_))); (case side2 => exact (Kd.S_reads' HO473.out).2.1); (case side3 => repeat (first | exact (Kd.S_reads' HO477.out).2.2 | (with_reducible refine Kd.C_alloc ?_ _) | (with_reducible refine Kd.C_drewN ?_ _) | (with_reducible refine Kd.C_drew ?_))); (case side4 => exact (Kd.S_reads' HO477.out).2.1); rintro e w' ⟨rfl, ⟨nd, rfl⟩⟩; obtain ⟨Ao236, co236, eo236⟩ := Kd.R_slice HO492.out; subst eo236; obtain ⟨Ao237, co237, eo237⟩ := Kd.R_slice HO496.out; subst eo237)); refine hR_ _ _ ?_; clear hR_ R_
         by_cases c218 : t497 = true
         ·subst c218
          rw [if_pos rfl] at H
          refine CutK.seg 5 ?_; intro R_ hR_; simp only [List.take_succ_cons, List.take_zero, List.drop_succ_cons, List.drop_zero, List.cons_append, List.nil_append] at hR_ ⊢; go_wp2; refine hR_ _ _ ?_; clear hR_ R_
          by_cases c219 : (t479 != t481) = true
          ·rw [if_pos c219] at H
           have c219b0 : (t479 != t481) = true := c219; (try (have c219b1 : decide (t479 = t481) = false := by simpa using c219)); (try (have c219b2 : (t479 == t481) = false := by simpa using c219)); (try (have c219b3 : ¬ (t479 = t481) := by simpa using c219)); clear c219
           exact absurd H (by rw [laws_FnBreaksStrips.j5_none]; simp)
          ·rw [if_neg c219] at H
           have c219b0 : (t479 != t481) = false := by simpa using c219
           (try (have c219b1 : decide (t479 = t481) = true := by simpa using c219)); (try (have c219b2 : (t479 == t481) = true := by simpa using c219)); clear c219
           refine CutK.seg 5 ?_; intro R_ hR_; simp only [List.take_succ_cons, List.take_zero, List.drop_succ_cons, List.drop_zero, List.cons_append, List.nil_append] at hR_ ⊢; go_wp2; refine hR_ _ _ ?_; clear hR_ R_
           by_cases c223 : (t478 != t480) = true
           ·rw [if_pos c223] at H
            have c223b0 : (t478 != t480) = true := c223; (try (have c223b1 : decide (t478 = t480) = false := by simpa using c223)); (try (have c223b2 : (t478 == t480) = false := by simpa using c223)); (try (have c223b3 : ¬ (t478 = t480) := by simpa using c223)); clear c223
            exact absurd H (by rw [laws_FnBreaksStrips.j5_none]; simp)
           ·rw [if_neg c223] at H
            have c223b0 : (t478 != t480) = false := by simpa using c223
            (try (have c223b1 : decide (t478 = t480) = true := by simpa using c223)); (try (have c223b2 : (t478 == t480) = true := by simpa using c223)); clear c223
            refine CutK.seg 5 ?_; intro R_ hR_; simp only [List.take_succ_cons, List.take_zero, List.drop_succ_cons, List.drop_zero, List.cons_append, List.nil_append] at hR_ ⊢; go_wp2; refine hR_ _ _ ?_; clear hR_ R_
            by_cases c227 : (t490 != t494) = true
            ·rw [if_pos c227] at H
             have c227b0 : (t490 != t494) = true := c227; (try (have c227b1 : decide (t490 = t494) = false := by simpa using c227)); (try (have c227b2 : (t490 == t494) = false := by simpa using c227)); (try (have c227b3 : ¬ (t490 = t494) := by simpa using c227)); clear c227
             exact absurd H (by rw [laws_FnBreaksStrips.j5_none]; simp)
            ·rw [if_neg c227] at H
             have c227b0 : (t490 != t494) = false := by simpa using c227
             (try (have c227b1 : decide (t490 = t494) = true := by simpa using c227)); (try (have c227b2 : (t490 == t494) = true := by simpa using c227)); clear c227
             replace H := Option.bind_eq_some_iff.mp H
             obtain ⟨t498, A2310, H⟩ := H
             (try dsimp only at H); have A231 := Aside0.mk A2310; clear A2310
             refine CutK.seg 6 ?_; intro R_ hR_; simp only [List.take_succ_cons, List.take_zero, List.drop_succ_cons, List.drop_zero, List.cons_append, List.nil_append] at hR_ ⊢; go_wp2_with (first | (go_at_call 17; (with_reducible refine (laws_ySame.calls kj101 _ _ t489 _ _ t493 _ _ ?side1 ?side2 ?side3 ?side4 A231.out).mono ?_); (case side1 => repeat (first | exact (Kd.R_reads' HO492.out).2.2 | (with_reducible refine Kd.C_alloc ?_ _) | (with_reducible refine Kd.C_drewN ?_ _) | (with_reducible refine Kd.C_drew ?_))); (case side2 => exact (Kd.R_reads' HO492.out).2.1); (case side3 => repeat (first | exact (Kd.R_reads' HO496.out).2.2 | (with_reducible refine Kd.C_alloc ?_ _) | (with_reducible refine Kd.C_drewN ?_ _) | (with_reducible refine Kd.C_drew ?_))); (case side4 => exact (Kd.R_reads' HO496.out).2.1); rintro e w' ⟨rfl, ⟨nd, rfl⟩⟩)); refine hR_ _ _ ?_; clear hR_ R_
             by_cases c232 : t498 = true
             ·subst c232
              rw [if_pos rfl] at H
              by_cases c233 : (t471 != t479) = true
              ·rw [if_pos c233] at H
               have c233b0 : (t471 != t479) = true := c233; (try (have c233b1 : decide (t471 = t479) = false := by simpa using c233)); (try (have c233b2 : (t471 == t479) = false := by simpa using c233)); (try (have c233b3 : ¬ (t471 = t479) := by simpa using c233)); clear c233
               exact absurd H (by rw [laws_FnBreaksStrips.j5_none]; simp)
              ·rw [if_neg c233] at H
               have c233b0 : (t471 != t479) = false := by simpa using c233
               (try (have c233b1 : decide (t471 = t479) = true := by simpa using c233)); (try (have c233b2 : (t471 == t479) = true := by simpa using c233)); clear c233; have H' := Aside0.mk H; clear H
               go_wp2_with (first | (go_at_call 28; (with_reducible refine (laws_yRows.calls kj101 _ _ t470 _ _ t474 true _ ?side1 ?side2 ?side3 ?side4 A217.out).mono ?_); (case side1 => repeat (first | exact (Kd.S_reads' HO473.out).2.2 | (with_reducible refine Kd.C_alloc ?_ _) | (with_reducible refine Kd.C_drewN ?_ _) | (with_reducible refine Kd.C_drew ?_))); (case side2 => exact (Kd.S_reads' HO473.out).2.1); (case side3 => repeat (first | exact (Kd.S_reads' HO477.out).2.2 | (with_reducible refine Kd.C_alloc ?_ _) | (with_reducible refine Kd.C_drewN ?_ _) | (with_reducible refine Kd.C_drew ?_))); (case side4 => exact (Kd.S_reads' HO477.out).2.1); rintro e w' ⟨rfl, ⟨nd, rfl⟩⟩; obtain ⟨Ao241, co241, eo241⟩ := Kd.R_slice HO492.out; subst eo241; obtain ⟨Ao242, co242, eo242⟩ := Kd.R_slice HO496.out; subst eo242) | (go_at_call 17; (with_reducible refine (laws_ySame.calls kj101 _ _ t489 _ _ t493 true _ ?side1 ?side2 ?side3 ?side4 A231.out).mono ?_); (case side1 => repeat (first | exact (Kd.R_reads' HO492.out).2.2 | (with_reducible refine Kd.C_alloc ?_ _) | (with_reducible refine Kd.C_drewN ?_ _) | (with_reducible refine Kd.C_drew ?_))); (case side2 => exact (Kd.R_reads' HO492.out).2.1); (case side3 => repeat (first | exact (Kd.R_reads' HO496.out).2.2 | (with_reducible refine Kd.C_alloc ?_ _) | (with_reducible refine Kd.C_drewN ?_ _) | (with_reducible refine Kd.C_drew ?_))); (case side4 => exact (Kd.R_reads' HO496.out).2.1); rintro e w' ⟨rfl, ⟨nd, rfl⟩⟩))
               refine Met.intro (hJ_5 _ ?va243 undef undef _ ?kp ?rel)
               case kp => simp only [↓CutK.keep0, ↓CutK.keep1, ↓CutK.keep2, ↓CutK.keep3, ↓CutK.keep4, ↓CutK.keepN, true_and, and_true] <;> exact rfl
               case rel => exact ⟨_, ((t478 != (decide ((t470.length : Int) > 0)))), (by first | rfl | (simp; done) | (simp [*]; done) | (simp; exact Lam.bxe _ _)), H', ⟨by have := HJ15.out; have := HJ101.out; first | omega | exact Nat.le_refl _⟩, ⟨by (with_reducible repeat (first | apply Kd.V_alloc | apply Kd.V_drewN | apply Kd.V_drew)); exact Kd.V_mono HO467.out (fun _ hk => ⟨hk.1.1.1.2, hk.1.2⟩)⟩, ⟨by (with_reducible repeat (first | apply Kd.S_alloc | apply Kd.S_drewN | apply Kd.S_drew)); exact Kd.S_mono HO473.out (fun _ hk => hk.1.2)⟩, ⟨by (with_reducible repeat (first | apply Kd.V_alloc | apply Kd.V_drewN | apply Kd.V_drew)); exact Kd.V_mono HO484.out (fun _ hk => ⟨hk.1.1.1, hk.1.2⟩)⟩, ⟨by (with_reducible repeat (first | apply Kd.R_alloc | apply Kd.R_drewN | apply Kd.R_drew)); exact Kd.R_mono HO492.out (fun _ hk => trivial)⟩, ⟨Lam.al⟩⟩
             ·replace c232 := Bool.eq_false_iff.mpr c232
              subst c232
              have H1 : (laws_FnBreaksStrips.j5 kj101 t465 t468 t469 t470 t471 t478 t482 t485 t486 t489 t490 true) = some r := by rw [if_neg (show ¬ (false = true) by decide)] at H; exact H
              clear H; have H := H1; clear H1
              exact absurd H (by rw [laws_FnBreaksStrips.j5_none]; simp)
         ·replace c218 := Bool.eq_false_iff.mpr c218
          subst c218
          have H1 : (laws_FnBreaksStrips.j5 kj101 t465 t468 t469 t470 t471 t478 t482 t485 t486 t489 t490 true) = some r := by rw [if_neg (show ¬ (false = true) by decide)] at H; exact H
          clear H; have H := H1; clear H1
          exact absurd H (by rw [laws_FnBreaksStrips.j5_none]; simp)
       case rest5 => as_aux_lemma =>
        intro v523 _ _ g_ wc hcut
        dsimp only [CutK.rl, List.replicate, List.cons_append, List.nil_append]
        dsimp only [↓CutK.mix0, ↓CutK.mix1, ↓CutK.mix2, ↓CutK.mix3, ↓CutK.mix4, ↓CutK.mixN, Nat.reduceAdd, Nat.zero_add]
        clear HC204; (try clear c1); (try clear c4); (try clear c101)
        obtain ⟨kq, x523_203, rfl, HA, HJ203, HO_44, HO_47, HO_55, HO_60, HB⟩ := hcut
        cases kq with
        | zero => exact absurd HA.out (by simp [laws_FnBreaksStrips.j5])
        | succ kj203 =>
         have H := HA.out; clear HA
         simp only [laws_FnBreaksStrips.j5] at H
         by_cases c252 : x523_203 = true
         ·subst c252
          have H1 : (none) = some r := by rw [if_pos rfl] at H; exact H
          clear H; have H := H1; clear H1
          exact absurd H (by simp)
         ·replace c252 := Bool.eq_false_iff.mpr c252
          subst c252
          rw [if_neg (show ¬ (false = true) by decide)] at H
          have HC253 := Aside0.mk H; clear H
          go_upto_if 524 with (fail)
          refine CutK.wp_cut3 (CutK.rl [4,0,1,1,59,0,1,1,1,0,207,1,3,0,394,1]) (fun _ _ _ wc => ∃ (kq : Nat), Aside0 (laws_FnBreaksStrips.j9 kq t482 t485 t486 t489 t490 = some r) ∧ Aside0 (kq ≤ kj203) ∧ Aside0 (Kd.V (Kd.int .i64) 3 wc w.heap.size (fun k_ => some k_ ≠ (v491 : Value).ownBlock) (.slice Ao212 t482.length co212) t482) ∧ Aside0 (Kd.R (Kd.int .i64) 3 wc w.heap.size (fun _ => True) v491 t489) ∧ Aside0 (Below w.heap.size w wc)) ?rest9 ?first9
          case first9 => as_aux_lemma =>
           intro J_ K_ hJ_9 hK_
           dsimp only [CutK.rl, List.replicate, List.cons_append, List.nil_append] at hJ_9
           have H := HC253.out; clear HC253
           by_cases c254 : t471 = true
           ·subst c254
            rw [if_pos rfl] at H; have H' := Aside0.mk H; clear H
            go_wp2
            go_loopg [64, 527] kj203 (fun kq v64 v527 w' => ∃ (x64_4 : Int) (x527_4 : Int), v64 = .int .i64 x64_4 ∧ v527 = .int .i64 x527_4 ∧ Aside0 (laws_FnBreaksStrips.l2 kq t465 t468 t469 t470 t478 t482 t485 t486 t489 t490 x64_4 t465 (t465.length : Int) x527_4 = some r) ∧ Aside0 (kq ≤ kj203) ∧ Aside0 (Kd.V (Kd.int .i64) 3 w' w.heap.size (fun k_ => some k_ ≠ (v472 : Value).ownBlock ∧ some k_ ≠ (v491 : Value).ownBlock) (.slice Ao206 t465.length co206) t465) ∧ Aside0 (Kd.S (Kd.slice 3 (Kd.int .i64)) 26 w' w.heap.size (fun k_ => some k_ ≠ (v491 : Value).ownBlock) v472 t470) ∧ Aside0 (Kd.V (Kd.int .i64) 3 w' w.heap.size (fun k_ => some k_ ≠ (v472 : Value).ownBlock ∧ some k_ ≠ (v491 : Value).ownBlock) (.slice Ao212 t482.length co212) t482) ∧ Aside0 (Kd.R (Kd.int .i64) 3 w' w.heap.size (fun _ => True) v491 t489) ∧ Aside0 (Kd.V (Kd.int .i64) 3 w' w.heap.size (fun k_ => some k_ ≠ (v472 : Value).ownBlock ∧ some k_ ≠ (v491 : Value).ownBlock) (.slice Ao206 t465.length co206) t465) ∧ Aside0 (Below w.heap.size w w'))
            case atStart => exact ⟨(0), (0), (by first | rfl | (simp; done) | (simp [*]; done) | (simp; exact Lam.bxe _ _)), (by first | rfl | (simp; done) | (simp [*]; done) | (simp; exact Lam.bxe _ _)), H', ⟨Nat.le_refl _⟩, ⟨by (with_reducible repeat (first | apply Kd.V_alloc | apply Kd.V_drewN | apply Kd.V_drew)); exact HO_44.out⟩, ⟨Lam.sq HO_47.out⟩, ⟨by (with_reducible repeat (first | apply Kd.V_alloc | apply Kd.V_drewN | apply Kd.V_drew)); exact HO_55.out⟩, ⟨Lam.rq HO_60.out⟩, ⟨by (with_reducible repeat (first | apply Kd.V_alloc | apply Kd.V_drewN | apply Kd.V_drew)); exact HO_44.out⟩, ⟨Lam.al⟩⟩
            case round =>
             clear H'; (try clear c1); (try clear c4); (try clear c101); (try clear c252); (try clear c254)
             obtain ⟨x64_4, x527_4, rfl, rfl, HA, HK4, HO_44, HO_47, HO_55, HO_60, HO_525, HB⟩ := hrel
             cases gk with
             | zero => exact absurd HA.out (by simp [laws_FnBreaksStrips.l2])
             | succ k4 =>
              have H := HA.out; clear HA
              simp only [laws_FnBreaksStrips.l2] at H
              by_cases c255 : x527_4 < (t465.length : Int)
              ·rw [if_pos c255] at H
               have c255b0 : decide (x527_4 < (t465.length : Int)) = true := decide_eq_true c255; clear c255
               (first | rw [c255b0] | (simp only [i64_w, i32_w]; rw [c255b0]) | skip)
               by_cases c256 : 0 ≤ x527_4
               ·rw [if_pos c256] at H
                have c256b0 : decide (0 ≤ x527_4) = true := decide_eq_true c256; clear c256
                by_cases c257 : x527_4 < (t465.length : Int)
                ·rw [if_pos c257] at H
                 have c257b0 : decide (x527_4 < (t465.length : Int)) = true := decide_eq_true c257; clear c257
                 replace H := Option.bind_eq_some_iff.mp H
                 obtain ⟨⟨t500, t501⟩, A2580, H⟩ := H
                 (try dsimp only at H); have A258 := Aside0.mk A2580; clear A2580
                 by_cases c259 : t501 = true
                 ·subst c259
                  rw [if_pos rfl] at H; have H' := Aside0.mk H; clear H
                  have p499 : 0 ≤ (x527_4 : Int) := of_decide_eq_true (by first | (with_reducible assumption) | assumption)
                  have q499 : x527_4 < (t465.length : Int) := of_decide_eq_true (by first | (with_reducible assumption) | assumption)
                  obtain ⟨ad499, e499, hx499_0⟩ := Kd.at_int (Kd.V_reads' HO_525.out).2.2 x527_4 p499 q499
                  cases e499
                  replace p499 := eq_true p499; replace q499 := eq_true q499
                  go_wp2_with (first | ((with_reducible refine gate_callee (f := 9) rfl ?_); refine goesL_ (some 535) rfl rfl Try.func9 (by kernel_rfl) rfl #[.int .i64 (rd t465 x527_4), .int .i64 t468, .bool t469] rfl (by (try simp only [List.map_toArray, List.map_cons, List.map_nil]); first | done | rfl | (simp only [List.length_drop, List.length_take]; rfl)) ?_; (with_reducible refine (impl_StripValue.calls k4 (rd t465 x527_4) t468 t469 t500 true _ A258.out).mono ?_); rintro e w260 ⟨rfl, hb⟩; refine ⟨_, rfl, ?_⟩; have n0_ := Aside0.mk (Kd.V_below (by (with_reducible repeat (first | apply Kd.V_alloc | apply Kd.V_drewN | apply Kd.V_drew)); exact HO_44.out) hb); have n1_ := Aside0.mk (Kd.S_below (Lam.sq HO_47.out) hb); have n2_ := Aside0.mk (Kd.V_below (by (with_reducible repeat (first | apply Kd.V_alloc | apply Kd.V_drewN | apply Kd.V_drew)); exact HO_55.out) hb); have n3_ := Aside0.mk (Kd.R_below (Lam.rq HO_60.out) hb); have n4_ := Aside0.mk (Kd.V_below (by (with_reducible repeat (first | apply Kd.V_alloc | apply Kd.V_drewN | apply Kd.V_drew)); exact HO_525.out) hb); have n5_ := Aside0.mk (below_step (Lam.al) hb); clear HO_44; clear HO_47; clear HO_55; clear HO_60; clear HO_525; clear HB; have HO_44 := n0_; have HO_47 := n1_; have HO_55 := n2_; have HO_60 := n3_; have HO_525 := n4_; have HB := n5_; clear n0_ n1_ n2_ n3_ n4_ n5_; (try clear hb); (try clear hb2); (try clear hk); (try clear hi)))
                  go_roundg k4
                  case measure => have := HJ15.out; have := HJ101.out; have := HJ203.out; have := HK4.out; omega
                  case rel => exact ⟨(Go.bits .xor .i64 x64_4 t500), (wrap64 (x527_4 + 1)), (by first | rfl | (simp; done) | (simp [*]; done) | (simp; exact Lam.bxe _ _)), (by first | rfl | (simp; done) | (simp [*]; done) | (simp; exact Lam.bxe _ _)), H', ⟨by have := HJ15.out; have := HJ101.out; have := HJ203.out; have := HK4.out; omega⟩, ⟨by (with_reducible repeat (first | apply Kd.V_alloc | apply Kd.V_drewN | apply Kd.V_drew)); exact HO_44.out⟩, ⟨Lam.sq HO_47.out⟩, ⟨by (with_reducible repeat (first | apply Kd.V_alloc | apply Kd.V_drewN | apply Kd.V_drew)); exact HO_55.out⟩, ⟨Lam.rq HO_60.out⟩, ⟨by (with_reducible repeat (first | apply Kd.V_alloc | apply Kd.V_drewN | apply Kd.V_drew)); exact HO_525.out⟩, ⟨Lam.al⟩⟩
                 ·replace c259 := Bool.eq_false_iff.mpr c259
                  subst c259
                  have H1 : (none) = some r := by rw [if_neg (show ¬ (false = true) by decide)] at H; exact H
                  clear H; have H := H1; clear H1
                  exact absurd H (by simp)
                ·rw [if_neg c257] at H
                 exact absurd H (by simp)
               ·rw [if_neg c256] at H
                exact absurd H (by simp)
              ·rw [if_neg c255] at H
               have c255b0 : decide (x527_4 < (t465.length : Int)) = false := decide_eq_false c255; clear c255
               (first | rw [c255b0] | (simp only [i64_w, i32_w]; rw [c255b0]) | skip)
               by_cases c261 : (t478 != (x64_4 != 0)) = true
               ·rw [if_pos c261] at H
                exact absurd H (by simp)
               ·rw [if_neg c261] at H
                have c261b0 : (t478 != (x64_4 != 0)) = false := by simpa using c261
                (try (have c261b1 : decide (t478 = (x64_4 != 0)) = true := by simpa using c261)); (try (have c261b2 : (t478 == (x64_4 != 0)) = true := by simpa using c261)); clear c261; have H' := Aside0.mk H; clear H
                obtain ⟨Ao262, co262, eo262⟩ := Kd.S_slice HO_47.out
                subst eo262
                go_wp2
                go_loopg [550] k4 (fun kq v550 w' => ∃ (x550_5 : Int), v550 = .int .i64 x550_5 ∧ Aside0 (laws_FnBreaksStrips.l3 kq t465 t468 t469 t470 t482 t485 t486 t489 t490 t470 (t470.length : Int) x550_5 = some r) ∧ Aside0 (kq ≤ k4) ∧ Aside0 (Kd.V (Kd.int .i64) 3 w' w.heap.size (fun k_ => some k_ ≠ ((.slice Ao262 t470.length co262) : Value).ownBlock ∧ some k_ ≠ (v491 : Value).ownBlock ∧ some k_ ≠ ((.slice Ao262 t470.length co262) : Value).ownBlock) (.slice Ao206 t465.length co206) t465) ∧ Aside0 (Kd.S (Kd.slice 3 (Kd.int .i64)) 26 w' w.heap.size (fun k_ => some k_ ≠ (v491 : Value).ownBlock) (.slice Ao262 t470.length co262) t470) ∧ Aside0 (Kd.V (Kd.int .i64) 3 w' w.heap.size (fun k_ => some k_ ≠ ((.slice Ao262 t470.length co262) : Value).ownBlock ∧ some k_ ≠ (v491 : Value).ownBlock ∧ some k_ ≠ ((.slice Ao262 t470.length co262) : Value).ownBlock) (.slice Ao212 t482.length co212) t482) ∧ Aside0 (Kd.R (Kd.int .i64) 3 w' w.heap.size (fun _ => True) v491 t489) ∧ Aside0 (Kd.S (Kd.slice 3 (Kd.int .i64)) 26 w' w.heap.size (fun k_ => some k_ ≠ (v491 : Value).ownBlock) (.slice Ao262 t470.length co262) t470) ∧ Aside0 (Below w.heap.size w w'))
                case atStart => exact ⟨(0), (by first | rfl | (simp; done) | (simp [*]; done) | (simp; exact Lam.bxe _ _)), H', ⟨Nat.le_refl _⟩, ⟨by (with_reducible repeat (first | apply Kd.V_alloc | apply Kd.V_drewN | apply Kd.V_drew)); exact Kd.V_mono HO_44.out (fun _ hk => ⟨hk.1, ⟨hk.2, hk.1⟩⟩)⟩, ⟨Lam.sq HO_47.out⟩, ⟨by (with_reducible repeat (first | apply Kd.V_alloc | apply Kd.V_drewN | apply Kd.V_drew)); exact Kd.V_mono HO_55.out (fun _ hk => ⟨hk.1, ⟨hk.2, hk.1⟩⟩)⟩, ⟨Lam.rq HO_60.out⟩, ⟨Lam.sq HO_47.out⟩, ⟨Lam.al⟩⟩
                case round =>
                 clear H'; (try clear c1); (try clear c4); (try clear c101); (try clear c252); (try clear c254); (try clear c255); (try clear c255b0); (try clear c261); (try clear c261b0); (try clear c261b1); (try clear c261b2)
                 obtain ⟨x550_5, rfl, HA, HK5, HO_44, HO_47, HO_55, HO_60, HO_548, HB⟩ := hrel
                 cases gk with
                 | zero => exact absurd HA.out (by simp [laws_FnBreaksStrips.l3])
                 | succ k5 =>
                  have H := HA.out; clear HA
                  simp only [laws_FnBreaksStrips.l3] at H
                  by_cases c263 : x550_5 < (t470.length : Int)
                  ·rw [if_pos c263] at H
                   have c263b0 : decide (x550_5 < (t470.length : Int)) = true := decide_eq_true c263; clear c263
                   by_cases c264 : 0 ≤ x550_5
                   ·rw [if_pos c264] at H
                    have c264b0 : decide (0 ≤ x550_5) = true := decide_eq_true c264; clear c264
                    by_cases c265 : x550_5 < (t470.length : Int)
                    ·rw [if_pos c265] at H
                     have c265b0 : decide (x550_5 < (t470.length : Int)) = true := decide_eq_true c265; clear c265; have HC266 := Aside0.mk H; clear H
                     have p502 : 0 ≤ (x550_5 : Int) := of_decide_eq_true (by first | (with_reducible assumption) | assumption)
                     have q502 : x550_5 < (t470.length : Int) := of_decide_eq_true (by first | (with_reducible assumption) | assumption)
                     obtain ⟨ad502, A502_0, c502_0, e502, hx502_0, hl502_0, hi502_0⟩ := at_L2 (Kd.S_reads' HO_548.out).2.2 x550_5 p502 q502
                     cases e502
                     obtain ⟨ce502, hce502, hMe502, hcc502⟩ := Kd.S_get HO_548.out [] x550_5 p502 (by first | exact q502 | exact of_decide_eq_true (by first | (with_reducible assumption) | assumption) | (have e_ := (Kd.S_reads' HO_548.out).1; omega))
                     obtain ⟨ve502_0, rfl, ge502_0⟩ := hMe502
                     have hv502_0 := hcc502 0 _ rfl
                     rw [Nat.add_zero, show ((Kd.slice 3 (Kd.int .i64))).sz = 1 from rfl, Nat.mul_one] at hv502_0
                     replace hv502_0 := Option.some.inj (hv502_0.symm.trans hx502_0)
                     rw [hv502_0] at ge502_0
                     have HL502_0 := Aside0.mk (show Kd.R (Kd.int .i64) 3 _ _ _ _ (rd_L2 t470 x550_5) from ge502_0)
                     clear hv502_0 ge502_0; clear hcc502 hce502; have HR502_0 := Aside0.mk hi502_0; have HC502_0 := Aside0.mk hl502_0; clear hi502_0 hl502_0; replace p502 := eq_true p502; replace q502 := eq_true q502
                     go_upto_region 65 with (fail)
                     refine CutK.wp_cut3 (CutK.rl [551,0,49,1,1,2,33,1,36,0]) (fun v600 _ _ wc => ∃ (kq : Nat) (x600_265 : Bool), v600 = .bool x600_265 ∧ Aside0 (laws_FnBreaksStrips.j8 kq t465 t468 t469 t470 t482 t485 t486 t489 t490 t470 (t470.length : Int) x550_5 x600_265 = some r) ∧ Aside0 (kq ≤ k5) ∧ Aside0 (Kd.V (Kd.int .i64) 3 wc w.heap.size (fun k_ => some k_ ≠ ((.slice (some ad502) t470.length co262) : Value).ownBlock ∧ some k_ ≠ (v491 : Value).ownBlock ∧ some k_ ≠ ((.slice (some ad502) t470.length co262) : Value).ownBlock) (.slice Ao206 t465.length co206) t465) ∧ Aside0 (Kd.S (Kd.slice 3 (Kd.int .i64)) 26 wc w.heap.size (fun k_ => some k_ ≠ (v491 : Value).ownBlock) (.slice (some ad502) t470.length co262) t470) ∧ Aside0 (Kd.V (Kd.int .i64) 3 wc w.heap.size (fun k_ => some k_ ≠ ((.slice (some ad502) t470.length co262) : Value).ownBlock ∧ some k_ ≠ (v491 : Value).ownBlock ∧ some k_ ≠ ((.slice (some ad502) t470.length co262) : Value).ownBlock) (.slice Ao212 t482.length co212) t482) ∧ Aside0 (Kd.R (Kd.int .i64) 3 wc w.heap.size (fun _ => True) v491 t489) ∧ Aside0 (Kd.S (Kd.slice 3 (Kd.int .i64)) 26 wc w.heap.size (fun k_ => some k_ ≠ (v491 : Value).ownBlock) (.slice (some ad502) t470.length co262) t470) ∧ Aside0 (Kd.C (Kd.int .i64) wc A502_0 (rd_L2 t470 x550_5).length (rd_L2 t470 x550_5)) ∧ Aside0 (Below w.heap.size w wc)) ?rest8 ?first8
                     case first8 => as_aux_lemma =>
                      intro J_ K_ hJ_8 hK_
                      dsimp only [CutK.rl, List.replicate, List.cons_append, List.nil_append] at hJ_8
                      have H := HC266.out; clear HC266
                      by_cases c267 : ((rd_L2 t470 x550_5).length : Int) = 2
                      ·rw [if_pos c267] at H
                       have c267b0 : (((rd_L2 t470 x550_5).length : Int) == 2) = true := beq_iff_eq.mpr c267; have c267b1 : (((rd_L2 t470 x550_5).length : Int) != 2) = false := bne_eq_false_iff_eq.mpr c267; clear c267
                       (first | rw [c267b0] | (simp only [i64_w, i32_w]; rw [c267b0]) | skip)
                       by_cases c268 : x550_5 > 0
                       ·rw [if_pos c268] at H
                        have c268b0 : decide (0 < x550_5) = true := decide_eq_true c268; clear c268
                        obtain ⟨ji269, hji269⟩ : ∃ j_ : Int, (wrap64 (x550_5 - 1)) = j_ := ⟨_, rfl⟩
                        replace H : (if 0 ≤ (ji269) then (if (ji269) < (t470.length : Int) then (if 0 < ((rd_L2 t470 (ji269)).length : Int) then (if 0 < ((rd_L2 t470 x550_5).length : Int) then (if (rd (rd_L2 t470 (ji269)) 0) > (rd (rd_L2 t470 x550_5) 0) then (laws_FnBreaksStrips.j8 k5 t465 t468 t469 t470 t482 t485 t486 t489 t490 t470 (t470.length : Int) x550_5 true) else (if (rd (rd_L2 t470 (ji269)) 0) = (rd (rd_L2 t470 x550_5) 0) then (if 1 < ((rd_L2 t470 (ji269)).length : Int) then (if 1 < ((rd_L2 t470 x550_5).length : Int) then (laws_FnBreaksStrips.j8 k5 t465 t468 t469 t470 t482 t485 t486 t489 t490 t470 (t470.length : Int) x550_5 (decide ((rd (rd_L2 t470 (ji269)) 1) ≥ (rd (rd_L2 t470 x550_5) 1)))) else (none)) else (none)) else (laws_FnBreaksStrips.j8 k5 t465 t468 t469 t470 t482 t485 t486 t489 t490 t470 (t470.length : Int) x550_5 false))) else (none)) else (none)) else (none)) else (none)) = some r := by first | (rw [hji269] at H; exact H) | (simp only [hji269] at H ⊢; exact H)
                        have hji269w : (IntKind.i64.wrap (x550_5 - 1)) = ji269 := (i64_w _).trans hji269
                        by_cases c270 : 0 ≤ (ji269)
                        ·rw [if_pos c270] at H
                         have c270b0 : decide (0 ≤ (ji269)) = true := decide_eq_true c270; clear c270
                         by_cases c271 : (ji269) < (t470.length : Int)
                         ·rw [if_pos c271] at H
                          have c271b0 : decide ((ji269) < (t470.length : Int)) = true := decide_eq_true c271; clear c271
                          by_cases c272 : 0 < ((rd_L2 t470 (ji269)).length : Int)
                          ·rw [if_pos c272] at H
                           have c272b0 : decide (0 < ((rd_L2 t470 (ji269)).length : Int)) = true := decide_eq_true c272
                           have c272b1 : decide (0 < (rd_L2 t470 (ji269)).length) = true := decide_eq_true (by omega)
                           clear c272
                           by_cases c273 : 0 < ((rd_L2 t470 x550_5).length : Int)
                           ·rw [if_pos c273] at H
                            have c273b0 : decide (0 < ((rd_L2 t470 x550_5).length : Int)) = true := decide_eq_true c273
                            have c273b1 : decide (0 < (rd_L2 t470 x550_5).length) = true := decide_eq_true (by omega)
                            clear c273
                            by_cases c274 : (rd (rd_L2 t470 (ji269)) 0) > (rd (rd_L2 t470 x550_5) 0)
                            ·rw [if_pos c274] at H
                             have c274b0 : decide ((rd (rd_L2 t470 x550_5) 0) < (rd (rd_L2 t470 (ji269)) 0)) = true := decide_eq_true c274; clear c274
                             exact absurd H (by rw [laws_FnBreaksStrips.j8_none]; simp)
                            ·rw [if_neg c274] at H
                             have c274b0 : decide ((rd (rd_L2 t470 x550_5) 0) < (rd (rd_L2 t470 (ji269)) 0)) = false := decide_eq_false c274; clear c274
                             by_cases c277 : (rd (rd_L2 t470 (ji269)) 0) = (rd (rd_L2 t470 x550_5) 0)
                             ·rw [if_pos c277] at H
                              have c277b0 : ((rd (rd_L2 t470 (ji269)) 0) == (rd (rd_L2 t470 x550_5) 0)) = true := beq_iff_eq.mpr c277; have c277b1 : ((rd (rd_L2 t470 (ji269)) 0) != (rd (rd_L2 t470 x550_5) 0)) = false := bne_eq_false_iff_eq.mpr c277; clear c277
                              by_cases c278 : 1 < ((rd_L2 t470 (ji269)).length : Int)
                              ·rw [if_pos c278] at H
                               have c278b0 : decide (1 < ((rd_L2 t470 (ji269)).length : Int)) = true := decide_eq_true c278
                               have c278b1 : decide (1 < (rd_L2 t470 (ji269)).length) = true := decide_eq_true (by omega)
                               clear c278
                               by_cases c279 : 1 < ((rd_L2 t470 x550_5).length : Int)
                               ·rw [if_pos c279] at H
                                have c279b0 : decide (1 < ((rd_L2 t470 x550_5).length : Int)) = true := decide_eq_true c279
                                have c279b1 : decide (1 < (rd_L2 t470 x550_5).length) = true := decide_eq_true (by omega)
                                clear c279; have H' := Aside0.mk H; clear H
                                try go_wp2
                                have p503 : 0 ≤ ((ji269) : Int) := of_decide_eq_true (by first | (with_reducible assumption) | assumption)
                                have q503 : (ji269) < (t470.length : Int) := of_decide_eq_true (by first | (with_reducible assumption) | assumption)
                                obtain ⟨ad503, A503_0, c503_0, e503, hx503_0, hl503_0, hi503_0⟩ := at_L2 (Kd.S_reads' HO_47.out).2.2 (ji269) p503 q503
                                obtain rfl : ad502 = ad503 := (by injection e503)
                                obtain ⟨ce503, hce503, hMe503, hcc503⟩ := Kd.S_get HO_47.out [] (ji269) p503 (by first | exact q503 | exact of_decide_eq_true (by first | (with_reducible assumption) | assumption) | (have e_ := (Kd.S_reads' HO_47.out).1; omega))
                                obtain ⟨ve503_0, rfl, ge503_0⟩ := hMe503
                                have hv503_0 := hcc503 0 _ rfl
                                rw [Nat.add_zero, show ((Kd.slice 3 (Kd.int .i64))).sz = 1 from rfl, Nat.mul_one] at hv503_0
                                replace hv503_0 := Option.some.inj (hv503_0.symm.trans hx503_0)
                                rw [hv503_0] at ge503_0
                                have HL503_0 := Aside0.mk (show Kd.R (Kd.int .i64) 3 _ _ _ _ (rd_L2 t470 (ji269)) from ge503_0)
                                clear hv503_0 ge503_0; clear hcc503 hce503; have HR503_0 := Aside0.mk hi503_0; have HC503_0 := Aside0.mk hl503_0; clear hi503_0 hl503_0; replace p503 := eq_true p503; replace q503 := eq_true q503
                                have p504 : 0 ≤ (0 : Int) := (by omega)
                                have q504 : 0 < ((rd_L2 t470 (ji269)).length : Int) := of_decide_eq_true (by first | (with_reducible assumption) | assumption)
                                obtain ⟨ad504, e504, hx504_0⟩ := Kd.at_int (by repeat (first | (with_reducible exact HR503_0.out) | (with_reducible refine Kd.C_alloc ?_ _) | (with_reducible refine Kd.C_drewN ?_ _) | (with_reducible refine Kd.C_drew ?_) | exact HR503_0.out)) 0 p504 q504
                                cases e504
                                have qi504 : (0 < (rd_L2 t470 (ji269)).length) = True := eq_true (by omega)
                                (try rw [show ((0 : Int)).toNat = 0 from rfl] at hx504_0)
                                (try rw [Addr.add_zero'] at hx504_0)
                                replace p504 := eq_true p504; replace q504 := eq_true q504
                                have p505 : 0 ≤ (0 : Int) := (by omega)
                                have q505 : 0 < ((rd_L2 t470 x550_5).length : Int) := of_decide_eq_true (by first | (with_reducible assumption) | assumption)
                                obtain ⟨ad505, e505, hx505_0⟩ := Kd.at_int (by repeat (first | (with_reducible exact HR502_0.out) | (with_reducible refine Kd.C_alloc ?_ _) | (with_reducible refine Kd.C_drewN ?_ _) | (with_reducible refine Kd.C_drew ?_) | exact HR502_0.out)) 0 p505 q505
                                cases e505
                                have qi505 : (0 < (rd_L2 t470 x550_5).length) = True := eq_true (by omega)
                                (try rw [show ((0 : Int)).toNat = 0 from rfl] at hx505_0)
                                (try rw [Addr.add_zero'] at hx505_0)
                                replace p505 := eq_true p505; replace q505 := eq_true q505
                                have p506 : 0 ≤ ((ji269) : Int) := of_decide_eq_true (by first | (with_reducible assumption) | assumption)
                                have q506 : (ji269) < (t470.length : Int) := of_decide_eq_true (by first | (with_reducible assumption) | assumption)
                                obtain ⟨ad506, A506_0, c506_0, e506, hx506_0, hl506_0, hi506_0⟩ := at_L2 (Kd.S_reads' HO_47.out).2.2 (ji269) p506 q506
                                obtain rfl : ad502 = ad506 := (by injection e506)
                                obtain ⟨ce506, hce506, hMe506, hcc506⟩ := Kd.S_get HO_47.out [] (ji269) p506 (by first | exact q506 | exact of_decide_eq_true (by first | (with_reducible assumption) | assumption) | (have e_ := (Kd.S_reads' HO_47.out).1; omega))
                                obtain ⟨ve506_0, rfl, ge506_0⟩ := hMe506
                                have hv506_0 := hcc506 0 _ rfl
                                rw [Nat.add_zero, show ((Kd.slice 3 (Kd.int .i64))).sz = 1 from rfl, Nat.mul_one] at hv506_0
                                replace hv506_0 := Option.some.inj (hv506_0.symm.trans hx506_0)
                                rw [hv506_0] at ge506_0
                                have HL506_0 := Aside0.mk (show Kd.R (Kd.int .i64) 3 _ _ _ _ (rd_L2 t470 (ji269)) from ge506_0)
                                clear hv506_0 ge506_0; clear hcc506 hce506; have HR506_0 := Aside0.mk hi506_0; have HC506_0 := Aside0.mk hl506_0; clear hi506_0 hl506_0; replace p506 := eq_true p506; replace q506 := eq_true q506
                                have ea_ := Option.some.inj (hx503_0.symm.trans hx506_0)
                                injection ea_ with ea_ en_ ec_
                                subst ea_; subst ec_; clear en_
                                have p507 : 0 ≤ (0 : Int) := (by omega)
                                have q507 : 0 < ((rd_L2 t470 (ji269)).length : Int) := of_decide_eq_true (by first | (with_reducible assumption) | assumption)
                                obtain ⟨ad507, e507, hx507_0⟩ := Kd.at_int (by repeat (first | (with_reducible exact HR506_0.out) | (with_reducible refine Kd.C_alloc ?_ _) | (with_reducible refine Kd.C_drewN ?_ _) | (with_reducible refine Kd.C_drew ?_) | exact HR506_0.out)) 0 p507 q507
                                cases e507
                                have qi507 : (0 < (rd_L2 t470 (ji269)).length) = True := eq_true (by omega)
                                (try rw [show ((0 : Int)).toNat = 0 from rfl] at hx507_0)
                                (try rw [Addr.add_zero'] at hx507_0)
                                replace p507 := eq_true p507; replace q507 := eq_true q507
                                have p508 : 0 ≤ (0 : Int) := (by omega)
                                have q508 : 0 < ((rd_L2 t470 x550_5).length : Int) := of_decide_eq_true (by first | (with_reducible assumption) | assumption)
                                obtain ⟨ad508, e508, hx508_0⟩ := Kd.at_int (by repeat (first | (with_reducible exact HR502_0.out) | (with_reducible refine Kd.C_alloc ?_ _) | (with_reducible refine Kd.C_drewN ?_ _) | (with_reducible refine Kd.C_drew ?_) | exact HR502_0.out)) 0 p508 q508
                                obtain rfl : ad505 = ad508 := (by injection e508)
                                have qi508 : (0 < (rd_L2 t470 x550_5).length) = True := eq_true (by omega)
                                (try rw [show ((0 : Int)).toNat = 0 from rfl] at hx508_0)
                                (try rw [Addr.add_zero'] at hx508_0)
                                replace p508 := eq_true p508; replace q508 := eq_true q508
                                have p509 : 0 ≤ ((ji269) : Int) := of_decide_eq_true (by first | (with_reducible assumption) | assumption)
                                have q509 : (ji269) < (t470.length : Int) := of_decide_eq_true (by first | (with_reducible assumption) | assumption)
                                obtain ⟨ad509, A509_0, c509_0, e509, hx509_0, hl509_0, hi509_0⟩ := at_L2 (Kd.S_reads' HO_47.out).2.2 (ji269) p509 q509
                                obtain rfl : ad502 = ad509 := (by injection e509)
                                obtain ⟨ce509, hce509, hMe509, hcc509⟩ := Kd.S_get HO_47.out [] (ji269) p509 (by first | exact q509 | exact of_decide_eq_true (by first | (with_reducible assumption) | assumption) | (have e_ := (Kd.S_reads' HO_47.out).1; omega))
                                obtain ⟨ve509_0, rfl, ge509_0⟩ := hMe509
                                have hv509_0 := hcc509 0 _ rfl
                                rw [Nat.add_zero, show ((Kd.slice 3 (Kd.int .i64))).sz = 1 from rfl, Nat.mul_one] at hv509_0
                                replace hv509_0 := Option.some.inj (hv509_0.symm.trans hx509_0)
                                rw [hv509_0] at ge509_0
                                have HL509_0 := Aside0.mk (show Kd.R (Kd.int .i64) 3 _ _ _ _ (rd_L2 t470 (ji269)) from ge509_0)
                                clear hv509_0 ge509_0; clear hcc509 hce509; have HR509_0 := Aside0.mk hi509_0; have HC509_0 := Aside0.mk hl509_0; clear hi509_0 hl509_0; replace p509 := eq_true p509; replace q509 := eq_true q509
                                have ea_ := Option.some.inj (hx503_0.symm.trans hx509_0)
                                injection ea_ with ea_ en_ ec_
                                subst ea_; subst ec_; clear en_
                                have p510 : 0 ≤ (1 : Int) := (by omega)
                                have q510 : 1 < ((rd_L2 t470 (ji269)).length : Int) := of_decide_eq_true (by first | (with_reducible assumption) | assumption)
                                obtain ⟨ad510, e510, hx510_0⟩ := Kd.at_int (by repeat (first | (with_reducible exact HR509_0.out) | (with_reducible refine Kd.C_alloc ?_ _) | (with_reducible refine Kd.C_drewN ?_ _) | (with_reducible refine Kd.C_drew ?_) | exact HR509_0.out)) 1 p510 q510
                                cases e510
                                (try simp only [show (1 : Int).toNat = 1 from rfl, Nat.reduceMul, Nat.reduceEqDiff, Go.Addr.add, ↓reduceIte] at hx510_0)
                                have qi510 : (1 < (rd_L2 t470 (ji269)).length) = True := eq_true (by omega)
                                (try rw [show ((1 : Int)).toNat = 1 from rfl] at hx510_0)
                                replace p510 := eq_true p510; replace q510 := eq_true q510
                                have p511 : 0 ≤ (1 : Int) := (by omega)
                                have q511 : 1 < ((rd_L2 t470 x550_5).length : Int) := of_decide_eq_true (by first | (with_reducible assumption) | assumption)
                                obtain ⟨ad511, e511, hx511_0⟩ := Kd.at_int (by repeat (first | (with_reducible exact HR502_0.out) | (with_reducible refine Kd.C_alloc ?_ _) | (with_reducible refine Kd.C_drewN ?_ _) | (with_reducible refine Kd.C_drew ?_) | exact HR502_0.out)) 1 p511 q511
                                obtain rfl : ad505 = ad511 := (by injection e511)
                                (try simp only [show (1 : Int).toNat = 1 from rfl, Nat.reduceMul, Nat.reduceEqDiff, Go.Addr.add, ↓reduceIte] at hx511_0)
                                have qi511 : (1 < (rd_L2 t470 x550_5).length) = True := eq_true (by omega)
                                (try rw [show ((1 : Int)).toNat = 1 from rfl] at hx511_0)
                                replace p511 := eq_true p511; replace q511 := eq_true q511
                                go_quiet (fail)
                                try go_wp2
                                refine Met.intro (hJ_8 _ ?va281 undef undef _ ?kp ?rel)
                                case kp => simp only [↓CutK.keep0, ↓CutK.keep1, ↓CutK.keep2, ↓CutK.keep3, ↓CutK.keep4, ↓CutK.keepN, true_and, and_true] <;> exact rfl
                                case rel => exact ⟨_, (decide ((rd (rd_L2 t470 (ji269)) 1) ≥ (rd (rd_L2 t470 x550_5) 1))), (by first | rfl | (simp; done) | (simp only [← hji269] <;> (first | rfl | simp)) | (simp [*]; done)), H', ⟨by have := HJ15.out; have := HJ101.out; have := HJ203.out; have := HK4.out; have := HK5.out; first | omega | exact Nat.le_refl _⟩, ⟨by (with_reducible repeat (first | apply Kd.V_alloc | apply Kd.V_drewN | apply Kd.V_drew)); exact HO_44.out⟩, ⟨Lam.sq HO_47.out⟩, ⟨by (with_reducible repeat (first | apply Kd.V_alloc | apply Kd.V_drewN | apply Kd.V_drew)); exact HO_55.out⟩, ⟨Lam.rq HO_60.out⟩, ⟨Lam.sq HO_548.out⟩, ⟨by repeat (first | (with_reducible exact HR502_0.out) | (with_reducible refine Kd.C_alloc ?_ _) | (with_reducible refine Kd.C_drewN ?_ _) | (with_reducible refine Kd.C_drew ?_) | exact HR502_0.out)⟩, ⟨Lam.al⟩⟩
                               ·rw [if_neg c279] at H
                                exact absurd H (by simp)
                              ·rw [if_neg c278] at H
                               exact absurd H (by simp)
                             ·rw [if_neg c277] at H
                              have c277b0 : ((rd (rd_L2 t470 (ji269)) 0) == (rd (rd_L2 t470 x550_5) 0)) = false := beq_eq_false_iff_ne.mpr c277
                              have c277b1 : ((rd (rd_L2 t470 (ji269)) 0) != (rd (rd_L2 t470 x550_5) 0)) = true := bne_iff_ne.mpr c277
                              have H' := Aside0.mk H; clear H
                              try go_wp2
                              have p503 : 0 ≤ ((ji269) : Int) := of_decide_eq_true (by first | (with_reducible assumption) | assumption)
                              have q503 : (ji269) < (t470.length : Int) := of_decide_eq_true (by first | (with_reducible assumption) | assumption)
                              obtain ⟨ad503, A503_0, c503_0, e503, hx503_0, hl503_0, hi503_0⟩ := at_L2 (Kd.S_reads' HO_47.out).2.2 (ji269) p503 q503
                              obtain rfl : ad502 = ad503 := (by injection e503)
                              obtain ⟨ce503, hce503, hMe503, hcc503⟩ := Kd.S_get HO_47.out [] (ji269) p503 (by first | exact q503 | exact of_decide_eq_true (by first | (with_reducible assumption) | assumption) | (have e_ := (Kd.S_reads' HO_47.out).1; omega))
                              obtain ⟨ve503_0, rfl, ge503_0⟩ := hMe503
                              have hv503_0 := hcc503 0 _ rfl
                              rw [Nat.add_zero, show ((Kd.slice 3 (Kd.int .i64))).sz = 1 from rfl, Nat.mul_one] at hv503_0
                              replace hv503_0 := Option.some.inj (hv503_0.symm.trans hx503_0)
                              rw [hv503_0] at ge503_0
                              have HL503_0 := Aside0.mk (show Kd.R (Kd.int .i64) 3 _ _ _ _ (rd_L2 t470 (ji269)) from ge503_0)
                              clear hv503_0 ge503_0; clear hcc503 hce503; have HR503_0 := Aside0.mk hi503_0; have HC503_0 := Aside0.mk hl503_0; clear hi503_0 hl503_0; replace p503 := eq_true p503; replace q503 := eq_true q503
                              have p504 : 0 ≤ (0 : Int) := (by omega)
                              have q504 : 0 < ((rd_L2 t470 (ji269)).length : Int) := of_decide_eq_true (by first | (with_reducible assumption) | assumption)
                              obtain ⟨ad504, e504, hx504_0⟩ := Kd.at_int (by repeat (first | (with_reducible exact HR503_0.out) | (with_reducible refine Kd.C_alloc ?_ _) | (with_reducible refine Kd.C_drewN ?_ _) | (with_reducible refine Kd.C_drew ?_) | exact HR503_0.out)) 0 p504 q504
                              cases e504
                              have qi504 : (0 < (rd_L2 t470 (ji269)).length) = True := eq_true (by omega)
                              (try rw [show ((0 : Int)).toNat = 0 from rfl] at hx504_0)
                              (try rw [Addr.add_zero'] at hx504_0)
                              replace p504 := eq_true p504; replace q504 := eq_true q504
                              have p505 : 0 ≤ (0 : Int) := (by omega)
                              have q505 : 0 < ((rd_L2 t470 x550_5).length : Int) := of_decide_eq_true (by first | (with_reducible assumption) | assumption)
                              obtain ⟨ad505, e505, hx505_0⟩ := Kd.at_int (by repeat (first | (with_reducible exact HR502_0.out) | (with_reducible refine Kd.C_alloc ?_ _) | (with_reducible refine Kd.C_drewN ?_ _) | (with_reducible refine Kd.C_drew ?_) | exact HR502_0.out)) 0 p505 q505
                              cases e505
                              have qi505 : (0 < (rd_L2 t470 x550_5).length) = True := eq_true (by omega)
                              (try rw [show ((0 : Int)).toNat = 0 from rfl] at hx505_0)
                              (try rw [Addr.add_zero'] at hx505_0)
                              replace p505 := eq_true p505; replace q505 := eq_true q505
                              have p506 : 0 ≤ ((ji269) : Int) := of_decide_eq_true (by first | (with_reducible assumption) | assumption)
                              have q506 : (ji269) < (t470.length : Int) := of_decide_eq_true (by first | (with_reducible assumption) | assumption)
                              obtain ⟨ad506, A506_0, c506_0, e506, hx506_0, hl506_0, hi506_0⟩ := at_L2 (Kd.S_reads' HO_47.out).2.2 (ji269) p506 q506
                              obtain rfl : ad502 = ad506 := (by injection e506)
                              obtain ⟨ce506, hce506, hMe506, hcc506⟩ := Kd.S_get HO_47.out [] (ji269) p506 (by first | exact q506 | exact of_decide_eq_true (by first | (with_reducible assumption) | assumption) | (have e_ := (Kd.S_reads' HO_47.out).1; omega))
                              obtain ⟨ve506_0, rfl, ge506_0⟩ := hMe506
                              have hv506_0 := hcc506 0 _ rfl
                              rw [Nat.add_zero, show ((Kd.slice 3 (Kd.int .i64))).sz = 1 from rfl, Nat.mul_one] at hv506_0
                              replace hv506_0 := Option.some.inj (hv506_0.symm.trans hx506_0)
                              rw [hv506_0] at ge506_0
                              have HL506_0 := Aside0.mk (show Kd.R (Kd.int .i64) 3 _ _ _ _ (rd_L2 t470 (ji269)) from ge506_0)
                              clear hv506_0 ge506_0; clear hcc506 hce506; have HR506_0 := Aside0.mk hi506_0; have HC506_0 := Aside0.mk hl506_0; clear hi506_0 hl506_0; replace p506 := eq_true p506; replace q506 := eq_true q506
                              have ea_ := Option.some.inj (hx503_0.symm.trans hx506_0)
                              injection ea_ with ea_ en_ ec_
                              subst ea_; subst ec_; clear en_
                              have p507 : 0 ≤ (0 : Int) := (by omega)
                              have q507 : 0 < ((rd_L2 t470 (ji269)).length : Int) := of_decide_eq_true (by first | (with_reducible assumption) | assumption)
                              obtain ⟨ad507, e507, hx507_0⟩ := Kd.at_int (by repeat (first | (with_reducible exact HR506_0.out) | (with_reducible refine Kd.C_alloc ?_ _) | (with_reducible refine Kd.C_drewN ?_ _) | (with_reducible refine Kd.C_drew ?_) | exact HR506_0.out)) 0 p507 q507
                              cases e507
                              have qi507 : (0 < (rd_L2 t470 (ji269)).length) = True := eq_true (by omega)
                              (try rw [show ((0 : Int)).toNat = 0 from rfl] at hx507_0)
                              (try rw [Addr.add_zero'] at hx507_0)
                              replace p507 := eq_true p507; replace q507 := eq_true q507
                              have p508 : 0 ≤ (0 : Int) := (by omega)
                              have q508 : 0 < ((rd_L2 t470 x550_5).length : Int) := of_decide_eq_true (by first | (with_reducible assumption) | assumption)
                              obtain ⟨ad508, e508, hx508_0⟩ := Kd.at_int (by repeat (first | (with_reducible exact HR502_0.out) | (with_reducible refine Kd.C_alloc ?_ _) | (with_reducible refine Kd.C_drewN ?_ _) | (with_reducible refine Kd.C_drew ?_) | exact HR502_0.out)) 0 p508 q508
                              obtain rfl : ad505 = ad508 := (by injection e508)
                              have qi508 : (0 < (rd_L2 t470 x550_5).length) = True := eq_true (by omega)
                              (try rw [show ((0 : Int)).toNat = 0 from rfl] at hx508_0)
                              (try rw [Addr.add_zero'] at hx508_0)
                              replace p508 := eq_true p508; replace q508 := eq_true q508
                              go_quiet (fail)
                              try go_wp2
                              refine Met.intro (hJ_8 _ ?va283 undef undef _ ?kp ?rel)
                              case kp => simp only [↓CutK.keep0, ↓CutK.keep1, ↓CutK.keep2, ↓CutK.keep3, ↓CutK.keep4, ↓CutK.keepN, true_and, and_true] <;> exact rfl
                              case rel => exact ⟨_, (false), (by first | rfl | (simp; done) | (simp [*]; done) | (simp; exact Lam.bxe _ _)), H', ⟨by have := HJ15.out; have := HJ101.out; have := HJ203.out; have := HK4.out; have := HK5.out; first | omega | exact Nat.le_refl _⟩, ⟨by (with_reducible repeat (first | apply Kd.V_alloc | apply Kd.V_drewN | apply Kd.V_drew)); exact HO_44.out⟩, ⟨Lam.sq HO_47.out⟩, ⟨by (with_reducible repeat (first | apply Kd.V_alloc | apply Kd.V_drewN | apply Kd.V_drew)); exact HO_55.out⟩, ⟨Lam.rq HO_60.out⟩, ⟨Lam.sq HO_548.out⟩, ⟨by repeat (first | (with_reducible exact HR502_0.out) | (with_reducible refine Kd.C_alloc ?_ _) | (with_reducible refine Kd.C_drewN ?_ _) | (with_reducible refine Kd.C_drew ?_) | exact HR502_0.out)⟩, ⟨Lam.al⟩⟩
                           ·rw [if_neg c273] at H
                            exact absurd H (by simp)
                          ·rw [if_neg c272] at H
                           exact absurd H (by simp)
                         ·rw [if_neg c271] at H
                          exact absurd H (by simp)
                        ·rw [if_neg c270] at H
                         exact absurd H (by simp)
                       ·rw [if_neg c268] at H
                        have c268b0 : decide (0 < x550_5) = false := decide_eq_false c268; clear c268; have H' := Aside0.mk H; clear H
                        try go_wp2
                        go_quiet (fail)
                        try go_wp2
                        refine Met.intro (hJ_8 _ ?va285 undef undef _ ?kp ?rel)
                        case kp => simp only [↓CutK.keep0, ↓CutK.keep1, ↓CutK.keep2, ↓CutK.keep3, ↓CutK.keep4, ↓CutK.keepN, true_and, and_true] <;> exact rfl
                        case rel => exact ⟨_, (false), (by first | rfl | (simp; done) | (simp [*]; done) | (simp; exact Lam.bxe _ _)), H', ⟨by have := HJ15.out; have := HJ101.out; have := HJ203.out; have := HK4.out; have := HK5.out; first | omega | exact Nat.le_refl _⟩, ⟨by (with_reducible repeat (first | apply Kd.V_alloc | apply Kd.V_drewN | apply Kd.V_drew)); exact HO_44.out⟩, ⟨Lam.sq HO_47.out⟩, ⟨by (with_reducible repeat (first | apply Kd.V_alloc | apply Kd.V_drewN | apply Kd.V_drew)); exact HO_55.out⟩, ⟨Lam.rq HO_60.out⟩, ⟨Lam.sq HO_548.out⟩, ⟨by repeat (first | (with_reducible exact HR502_0.out) | (with_reducible refine Kd.C_alloc ?_ _) | (with_reducible refine Kd.C_drewN ?_ _) | (with_reducible refine Kd.C_drew ?_) | exact HR502_0.out)⟩, ⟨Lam.al⟩⟩
                      ·rw [if_neg c267] at H
                       have c267b0 : (((rd_L2 t470 x550_5).length : Int) == 2) = false := beq_eq_false_iff_ne.mpr c267
                       have c267b1 : (((rd_L2 t470 x550_5).length : Int) != 2) = true := bne_iff_ne.mpr c267
                       (first | rw [c267b0] | (simp only [i64_w, i32_w]; rw [c267b0]) | skip)
                       exact absurd H (by rw [laws_FnBreaksStrips.j8_none]; simp)
                     case rest8 => as_aux_lemma =>
                      intro v600 _ _ g_ wc hcut
                      dsimp only [CutK.rl, List.replicate, List.cons_append, List.nil_append]
                      dsimp only [↓CutK.mix0, ↓CutK.mix1, ↓CutK.mix2, ↓CutK.mix3, ↓CutK.mix4, ↓CutK.mixN, Nat.reduceAdd, Nat.zero_add]
                      clear HC266
                      obtain ⟨kq, x600_265, rfl, HA, HJ265, HO_44, HO_47, HO_55, HO_60, HO_548, HR502_0, HB⟩ := hcut
                      cases kq with
                      | zero => exact absurd HA.out (by simp [laws_FnBreaksStrips.j8])
                      | succ kj265 =>
                       have H := HA.out; clear HA
                       simp only [laws_FnBreaksStrips.j8] at H
                       by_cases c288 : x600_265 = true
                       ·subst c288
                        have H1 : (none) = some r := by rw [if_pos rfl] at H; exact H
                        clear H; have H := H1; clear H1
                        exact absurd H (by simp)
                       ·replace c288 := Bool.eq_false_iff.mpr c288
                        subst c288
                        rw [if_neg (show ¬ (false = true) by decide)] at H
                        by_cases c289 : (t465.length : Int) < 8
                        ·rw [if_pos c289] at H
                         have c289b0 : decide ((t465.length : Int) < 8) = true := decide_eq_true c289
                         have c289b1 : decide (t465.length < 8) = true := decide_eq_true (by omega)
                         clear c289
                         by_cases c290 : 0 < ((rd_L2 t470 x550_5).length : Int)
                         ·rw [if_pos c290] at H
                          have c290b0 : decide (0 < ((rd_L2 t470 x550_5).length : Int)) = true := decide_eq_true c290
                          have c290b1 : decide (0 < (rd_L2 t470 x550_5).length) = true := decide_eq_true (by omega)
                          clear c290
                          by_cases c291 : 1 < ((rd_L2 t470 x550_5).length : Int)
                          ·rw [if_pos c291] at H
                           have c291b0 : decide (1 < ((rd_L2 t470 x550_5).length : Int)) = true := decide_eq_true c291
                           have c291b1 : decide (1 < (rd_L2 t470 x550_5).length) = true := decide_eq_true (by omega)
                           clear c291
                           replace H := Option.bind_eq_some_iff.mp H
                           obtain ⟨⟨t514, t515⟩, A2920, H⟩ := H
                           (try dsimp only at H); have A292 := Aside0.mk A2920; clear A2920
                           replace H := Option.bind_eq_some_iff.mp H
                           obtain ⟨⟨t518, t519⟩, A2930, H⟩ := H
                           (try dsimp only at H); have A293 := Aside0.mk A2930; clear A2930
                           by_cases c294 : t515 = true
                           ·subst c294
                            rw [if_pos rfl] at H
                            by_cases c295 : t519 = true
                            ·subst c295
                             rw [if_pos rfl] at H
                             by_cases c296 : t518 = true
                             ·subst c296
                              have H1 : (none) = some r := by rw [if_pos rfl] at H; exact H
                              clear H; have H := H1; clear H1
                              exact absurd H (by simp)
                             ·replace c296 := Bool.eq_false_iff.mpr c296
                              subst c296
                              rw [if_neg (show ¬ (false = true) by decide)] at H
                              have H' := Aside0.mk H; clear H
                              try go_wp2
                              have n0_ := Aside0.mk (Kd.V_drew HO_44.out)
                              have n1_ := Aside0.mk (Kd.S_drew HO_47.out)
                              have n2_ := Aside0.mk (Kd.V_drew HO_55.out)
                              have n3_ := Aside0.mk (Kd.R_drew HO_60.out)
                              have n4_ := Aside0.mk (Kd.S_drew HO_548.out)
                              have n5_ := Aside0.mk (Kd.C_drew HR502_0.out)
                              have n6_ := Aside0.mk (below_drew1 HB.out)
                              clear HO_44; clear HO_47; clear HO_55; clear HO_60; clear HO_548; clear HR502_0; clear HB
                              have HO_44 := n0_
                              have HO_47 := n1_
                              have HO_55 := n2_
                              have HO_60 := n3_
                              have HO_548 := n4_
                              have HR502_0 := n5_
                              have HB := n6_
                              clear n0_ n1_ n2_ n3_ n4_ n5_ n6_
                              have p512 : 0 ≤ (0 : Int) := (by omega)
                              have q512 : 0 < ((rd_L2 t470 x550_5).length : Int) := of_decide_eq_true (by first | (with_reducible assumption) | assumption)
                              obtain ⟨ad512, e512, hx512_0⟩ := Kd.at_int (by repeat (first | (with_reducible exact HR502_0.out) | (with_reducible refine Kd.C_alloc ?_ _) | (with_reducible refine Kd.C_drewN ?_ _) | (with_reducible refine Kd.C_drew ?_) | exact HR502_0.out)) 0 p512 q512
                              cases e512
                              have qi512 : (0 < (rd_L2 t470 x550_5).length) = True := eq_true (by omega)
                              (try rw [show ((0 : Int)).toNat = 0 from rfl] at hx512_0)
                              (try rw [Addr.add_zero'] at hx512_0)
                              replace p512 := eq_true p512; replace q512 := eq_true q512
                              have p513 : 0 ≤ (1 : Int) := (by omega)
                              have q513 : 1 < ((rd_L2 t470 x550_5).length : Int) := of_decide_eq_true (by first | (with_reducible assumption) | assumption)
                              obtain ⟨ad513, e513, hx513_0⟩ := Kd.at_int (by repeat (first | (with_reducible exact HR502_0.out) | (with_reducible refine Kd.C_alloc ?_ _) | (with_reducible refine Kd.C_drewN ?_ _) | (with_reducible refine Kd.C_drew ?_) | exact HR502_0.out)) 1 p513 q513
                              obtain rfl : ad512 = ad513 := (by injection e513)
                              (try simp only [show (1 : Int).toNat = 1 from rfl, Nat.reduceMul, Nat.reduceEqDiff, Go.Addr.add, ↓reduceIte] at hx513_0)
                              have qi513 : (1 < (rd_L2 t470 x550_5).length) = True := eq_true (by omega)
                              (try rw [show ((1 : Int)).toNat = 1 from rfl] at hx513_0)
                              replace p513 := eq_true p513; replace q513 := eq_true q513
                              refine start_ (n := 15) (S := fun w' => w'.cell? ad512 = some (.int .i64 (rd (rd_L2 t470 x550_5) 0)) ∧ w'.cell? ⟨ad512.block, ad512.off + 1, none⟩ = some (.int .i64 (rd (rd_L2 t470 x550_5) 1))) (ds := []) #[false, false, false, false, false, false, false, false, false, false, false, false, false, false, false] (by kernel_rfl) rfl rfl ⟨hx512_0, hx513_0⟩ (fun hHeld => ?_); refine with_tabW laws_FnBreaksStrips.tab68 laws_FnBreaksStrips.bits68 (fun HT_ HW_ => ?_)
                              generalize wc.drew = w297 at HO_44 HO_47 HO_55 HO_60 HO_548 HR502_0 HB hx512_0 hx513_0 hHeld ⊢
                              refine pure_ (i := 0) (N := some 605) (v := ?_) (a' := ?_) #[true, false, false, false, false, false, false, false, false, false, false, false, false, false, false] rfl rfl (any_of HT_.out (by kernel_rfl)) (fun _ _ _ h => h) (Or.inl ⟨by rfl, ?_⟩) ?_ ?_
                              rotate_left
                              ·intro w'
                               go_simp
                               with_reducible rfl
                              rotate_left
                              ·simp only [Act.put, Lam.pa, Lam.pb, Lam.pc, i64_w, i32_w]
                               rfl
                              refine pure_ (i := 1) (N := some 606) (v := ?_) (a' := ?_) #[true, true, false, false, false, false, false, false, false, false, false, false, false, false, false] rfl rfl (any_of HT_.out (by kernel_rfl)) (fun _ _ _ h => h) (Or.inl ⟨by rfl, ?_⟩) ?_ ?_
                              rotate_left
                              ·intro w'
                               go_simp
                               with_reducible rfl
                              rotate_left
                              ·simp only [Act.put, Lam.pa, Lam.pb, Lam.pc, i64_w, i32_w]
                               rfl
                              refine pure_ (i := 2) (N := some 607) (v := ?_) (a' := ?_) #[true, true, true, false, false, false, false, false, false, false, false, false, false, false, false] rfl rfl (any_of HT_.out (by kernel_rfl)) (fun _ _ _ h => h) (Or.inl ⟨by rfl, ?_⟩) ?_ ?_
                              rotate_left
                              ·intro w'
                               go_simp
                               with_reducible rfl
                              rotate_left
                              ·simp only [Act.put, Lam.pa, Lam.pb, Lam.pc, i64_w, i32_w]
                               rfl
                              refine pure_ (i := 4) (N := some 609) (v := ?_) (a' := ?_) #[true, true, true, false, true, false, false, false, false, false, false, false, false, false, false] rfl rfl (any_of HT_.out (by kernel_rfl)) (fun _ _ _ h => h) (Or.inl ⟨by rfl, ?_⟩) ?_ ?_
                              rotate_left
                              ·intro w'
                               go_simp
                               with_reducible rfl
                              rotate_left
                              ·simp only [Act.put, Lam.pa, Lam.pb, Lam.pc, i64_w, i32_w]
                               rfl
                              refine pure_ (i := 5) (N := some 610) (v := ?_) (a' := ?_) #[true, true, true, false, true, true, false, false, false, false, false, false, false, false, false] rfl rfl (any_of HT_.out (by kernel_rfl)) (fun _ _ _ h => h) (Or.inl ⟨by rfl, ?_⟩) ?_ ?_
                              rotate_left
                              ·intro w'
                               go_simp
                               with_reducible rfl
                              rotate_left
                              ·simp only [Act.put, Lam.pa, Lam.pb, Lam.pc, i64_w, i32_w]
                               rfl
                              refine pure_ (i := 7) (N := some 612) (v := ?_) (a' := ?_) #[true, true, true, false, true, true, false, true, false, false, false, false, false, false, false] rfl rfl (any_of HT_.out (by kernel_rfl)) (fun _ _ _ h => h) (Or.inl ⟨by rfl, ?_⟩) ?_ ?_
                              rotate_left
                              ·intro w'
                               go_simp
                               with_reducible rfl
                              rotate_left
                              ·simp only [Act.put, Lam.pa, Lam.pb, Lam.pc, i64_w, i32_w]
                               rfl
                              refine pure_ (i := 8) (N := some 613) (v := ?_) (a' := ?_) #[true, true, true, false, true, true, false, true, true, false, false, false, false, false, false] rfl rfl (any_of HT_.out (by kernel_rfl)) (fun _ _ _ h => h) (Or.inl ⟨by rfl, ?_⟩) ?_ ?_
                              rotate_left
                              ·intro w'
                               go_simp
                               with_reducible rfl
                              rotate_left
                              ·simp only [Act.put, Lam.pa, Lam.pb, Lam.pc, i64_w, i32_w]
                               rfl
                              refine take_ (i := 3) (N := some 608) (v := ?_) (a' := ?_) #[true, true, true, true, true, true, false, true, true, false, false, false, false, false, false] rfl rfl (take_ofW HT_.out HW_.out (by kernel_rfl)) (fun _ _ _ h => h) (Or.inl ⟨by rfl, ?_⟩) hHeld ?_ ?_
                              rotate_left
                              ·rintro w' ⟨s0, s1⟩
                               go_simp
                               with_reducible rfl
                              rotate_left
                              ·simp only [Act.put, Lam.pa, Lam.pb, Lam.pc, i64_w, i32_w]
                               rfl
                              refine take_ (i := 6) (N := some 611) (v := ?_) (a' := ?_) #[true, true, true, true, true, true, true, true, true, false, false, false, false, false, false] rfl rfl (take_ofW HT_.out HW_.out (by kernel_rfl)) (fun _ _ _ h => h) (Or.inl ⟨by rfl, ?_⟩) hHeld ?_ ?_
                              rotate_left
                              ·rintro w' ⟨s0, s1⟩
                               go_simp
                               with_reducible rfl
                              rotate_left
                              ·simp only [Act.put, Lam.pa, Lam.pb, Lam.pc, i64_w, i32_w]
                               rfl
                              refine one_ (i := 9) (N := some 614) #[true, true, true, true, true, true, true, true, true, true, false, false, false, false, false] rfl rfl (one_of HT_.out (by kernel_rfl)) (by decide) (fun K hK => ?_)
                              refine goes_ Try.func26 (by kernel_rfl) rfl #[.slice Ao206 t465.length co206, .int .i64 (rd (rd_L2 t470 x550_5) 0), .int .i64 (rd (rd_L2 t470 x550_5) 1), .int .i64 t468, .bool t469] (by rfl) rfl rfl (by (try simp only [List.map_toArray, List.map_cons, List.map_nil]); first | done | rfl | (simp only [List.length_drop, List.length_take]; rfl)) ?_
                              with_reducible refine (impl_BreakStrip.calls _ _ t465 (rd (rd_L2 t470 x550_5) 0) (rd (rd_L2 t470 x550_5) 1) t468 t469 t514 true _ ?side1 ?side2 A292.out).mono ?_
                              (case side1 => repeat (first | exact (Kd.V_reads' HO_44.out).2.2 | (with_reducible refine Kd.C_alloc ?_ _) | (with_reducible refine Kd.C_drewN ?_ _) | (with_reducible refine Kd.C_drew ?_)))
                              (case side2 => exact (Kd.V_reads' HO_44.out).2.1)
                              rintro e w298 ⟨v516, rfl, ho0, hb⟩
                              have HS0_ := (hb.cell (World.block_lt_of_cell? _ _ (hHeld.1))).trans (hHeld.1)
                              have HS1_ := (hb.cell (World.block_lt_of_cell? _ _ (hHeld.2))).trans (hHeld.2)
                              refine ⟨_, rfl, ?_⟩
                              have n0_ := Aside0.mk (Kd.V_elder' (by (with_reducible repeat (first | apply Kd.V_alloc | apply Kd.V_drewN | apply Kd.V_drew)); exact HO_44.out) (Kd.R_base ho0) hb)
                              have n1_ := Aside0.mk (Kd.S_elder' (Lam.sq HO_47.out) (Kd.R_base ho0) hb)
                              have n2_ := Aside0.mk (Kd.V_elder' (by (with_reducible repeat (first | apply Kd.V_alloc | apply Kd.V_drewN | apply Kd.V_drew)); exact HO_55.out) (Kd.R_base ho0) hb)
                              have n3_ := Aside0.mk (Kd.R_elder' (Lam.rq HO_60.out) (Kd.R_base ho0) hb)
                              have n4_ := Aside0.mk (Kd.S_elder' (Lam.sq HO_548.out) (Kd.R_base ho0) hb)
                              have n5_ := Aside0.mk (Kd.R_lower (Kd.R_new' ho0 (Kd.R_lt (Lam.rq HO_60.out))) (below_size (Lam.al)))
                              have n6_ := Aside0.mk (Kd.C_below (by repeat (first | (with_reducible exact HR502_0.out) | (with_reducible refine Kd.C_alloc ?_ _) | (with_reducible refine Kd.C_drewN ?_ _) | (with_reducible refine Kd.C_drew ?_) | exact HR502_0.out)) hb)
                              have n7_ := Aside0.mk (below_step (Lam.al) hb)
                              clear HO_44; clear HO_47; clear HO_55; clear HO_60; clear HO_548; clear HR502_0; clear HB
                              have HO_44 := n0_
                              have HO_47 := n1_
                              have HO_55 := n2_
                              have HO_60 := n3_
                              have HO_548 := n4_
                              have HO517 := n5_
                              have HR502_0 := n6_
                              have HB := n7_
                              clear n0_ n1_ n2_ n3_ n4_ n5_ n6_ n7_
                              (try clear hb)
                              (try clear hb2)
                              (try clear hk)
                              (try clear hi)
                              (try clear ho0)
                              refine hK.out _ _ ⟨HS0_, HS1_⟩ (fun hHeld => ?_)
                              clear hK K
                              refine norm_ (a' := ?_) ?_ ?_
                              rotate_left
                              ·show Act.put _ (some 614) _ = _
                               simp only [Act.put, Lam.pa, Lam.pb, Lam.pc, i64_w, i32_w]
                               rfl
                              refine pure_ (i := 10) (N := some 604) (v := ?_) (a' := ?_) #[true, true, true, true, true, true, true, true, true, true, true, false, false, false, false] rfl rfl (any_of HT_.out (by kernel_rfl)) (fun _ _ _ h => h) (Or.inl ⟨by rfl, ?_⟩) ?_ ?_
                              rotate_left
                              ·intro w'
                               go_simp
                               with_reducible rfl
                              rotate_left
                              ·simp only [Act.put, Lam.pa, Lam.pb, Lam.pc, i64_w, i32_w]
                               rfl
                              refine pure_ (i := 11) (N := some 615) (v := ?_) (a' := ?_) #[true, true, true, true, true, true, true, true, true, true, true, true, false, false, false] rfl rfl (any_of HT_.out (by kernel_rfl)) (fun _ _ _ h => h) (Or.inl ⟨by rfl, ?_⟩) ?_ ?_
                              rotate_left
                              ·intro w'
                               go_simp
                               with_reducible rfl
                              rotate_left
                              ·simp only [Act.put, Lam.pa, Lam.pb, Lam.pc, i64_w, i32_w]
                               rfl
                              refine pure_ (i := 12) (N := some 616) (v := ?_) (a' := ?_) #[true, true, true, true, true, true, true, true, true, true, true, true, true, false, false] rfl rfl (any_of HT_.out (by kernel_rfl)) (fun _ _ _ h => h) (Or.inl ⟨by rfl, ?_⟩) ?_ ?_
                              rotate_left
                              ·intro w'
                               go_simp
                               with_reducible rfl
                              rotate_left
                              ·simp only [Act.put, Lam.pa, Lam.pb, Lam.pc, i64_w, i32_w]
                               rfl
                              refine pure_ (i := 13) (N := some 71) (v := ?_) (a' := ?_) #[true, true, true, true, true, true, true, true, true, true, true, true, true, true, false] rfl rfl (any_of HT_.out (by kernel_rfl)) (fun _ _ _ h => h) (Or.inl ⟨by rfl, ?_⟩) ?_ ?_
                              rotate_left
                              ·intro w'
                               go_simp
                               with_reducible rfl
                              rotate_left
                              ·simp only [Act.put, Lam.pa, Lam.pb, Lam.pc, i64_w, i32_w]
                               rfl
                              refine pure_ (i := 14) (N := some 72) (v := ?_) (a' := ?_) #[true, true, true, true, true, true, true, true, true, true, true, true, true, true, true] rfl rfl (any_of HT_.out (by kernel_rfl)) (fun _ _ _ h => h) (Or.inl ⟨by rfl, ?_⟩) ?_ ?_
                              rotate_left
                              ·intro w'
                               go_simp
                               with_reducible rfl
                              rotate_left
                              ·simp only [Act.put, Lam.pa, Lam.pb, Lam.pc, i64_w, i32_w]
                               rfl
                              refine done_ (done_of HT_.out (by kernel_rfl)) ?_
                              obtain ⟨Ao299, co299, eo299⟩ := Kd.R_slice HO517.out
                              subst eo299
                              try go_wp2_with (first | ((with_reducible refine gate_callee (f := 23) rfl ?_); refine goesL_ (some 621) rfl rfl Try.func23 (by kernel_rfl) rfl #[.slice Ao299 t514.length co299, .int .i64 t468, .bool t469] rfl (by (try simp only [List.map_toArray, List.map_cons, List.map_nil]); first | done | rfl | (simp only [List.length_drop, List.length_take]; rfl)) ?_; (with_reducible refine (impl_WinsStrips.calls kj265 _ _ t514 t468 t469 false true _ ?side1 ?side2 A293.out).mono ?_); (case side1 => repeat (first | exact (Kd.R_reads' HO517.out).2.2 | (with_reducible refine Kd.C_alloc ?_ _) | (with_reducible refine Kd.C_drewN ?_ _) | (with_reducible refine Kd.C_drew ?_))); (case side2 => exact (Kd.R_reads' HO517.out).2.1); rintro e w300 ⟨rfl, hb⟩; refine ⟨_, rfl, ?_⟩; have n0_ := Aside0.mk (Kd.V_below (by (with_reducible repeat (first | apply Kd.V_alloc | apply Kd.V_drewN | apply Kd.V_drew)); exact HO_44.out) hb); have n1_ := Aside0.mk (Kd.S_below (Lam.sq HO_47.out) hb); have n2_ := Aside0.mk (Kd.V_below (by (with_reducible repeat (first | apply Kd.V_alloc | apply Kd.V_drewN | apply Kd.V_drew)); exact HO_55.out) hb); have n3_ := Aside0.mk (Kd.R_below (Lam.rq HO_60.out) hb); have n4_ := Aside0.mk (Kd.S_below (Lam.sq HO_548.out) hb); have n5_ := Aside0.mk (Kd.R_below (Lam.rq HO517.out) hb); have n6_ := Aside0.mk (Kd.C_below (by repeat (first | (with_reducible exact HR502_0.out) | (with_reducible refine Kd.C_alloc ?_ _) | (with_reducible refine Kd.C_drewN ?_ _) | (with_reducible refine Kd.C_drew ?_) | exact HR502_0.out)) hb); have n7_ := Aside0.mk (below_step (Lam.al) hb); clear HO_44; clear HO_47; clear HO_55; clear HO_60; clear HO_548; clear HO517; clear HR502_0; clear HB; have HO_44 := n0_; have HO_47 := n1_; have HO_55 := n2_; have HO_60 := n3_; have HO_548 := n4_; have HO517 := n5_; have HR502_0 := n6_; have HB := n7_; clear n0_ n1_ n2_ n3_ n4_ n5_ n6_ n7_; (try clear hb); (try clear hb2); (try clear hk); (try clear hi)))
                              go_roundg kj265
                              case measure => have := HJ15.out; have := HJ101.out; have := HJ203.out; have := HK4.out; have := HK5.out; have := HJ265.out; omega
                              case rel => exact ⟨(wrap64 (x550_5 + 1)), (by first | rfl | (simp; done) | (simp [*]; done) | (simp; exact Lam.bxe _ _)), H', ⟨by have := HJ15.out; have := HJ101.out; have := HJ203.out; have := HK4.out; have := HK5.out; have := HJ265.out; omega⟩, ⟨by (with_reducible repeat (first | apply Kd.V_alloc | apply Kd.V_drewN | apply Kd.V_drew)); exact Kd.V_mono HO_44.out (fun _ hk => ⟨hk.1.1, ⟨hk.1.2.1, hk.1.2.2⟩⟩)⟩, ⟨by (with_reducible repeat (first | apply Kd.S_alloc | apply Kd.S_drewN | apply Kd.S_drew)); exact Kd.S_mono HO_47.out (fun _ hk => hk.1)⟩, ⟨by (with_reducible repeat (first | apply Kd.V_alloc | apply Kd.V_drewN | apply Kd.V_drew)); exact Kd.V_mono HO_55.out (fun _ hk => ⟨hk.1.1, ⟨hk.1.2.1, hk.1.2.2⟩⟩)⟩, ⟨by (with_reducible repeat (first | apply Kd.R_alloc | apply Kd.R_drewN | apply Kd.R_drew)); exact Kd.R_mono HO_60.out (fun _ hk => trivial)⟩, ⟨by (with_reducible repeat (first | apply Kd.S_alloc | apply Kd.S_drewN | apply Kd.S_drew)); exact Kd.S_mono HO_548.out (fun _ hk => hk.1)⟩, ⟨Lam.al⟩⟩
                            ·replace c295 := Bool.eq_false_iff.mpr c295
                             subst c295
                             have H1 : (none) = some r := by rw [if_neg (show ¬ (false = true) by decide)] at H; exact H
                             clear H; have H := H1; clear H1
                             exact absurd H (by simp)
                           ·replace c294 := Bool.eq_false_iff.mpr c294
                            subst c294
                            have H1 : (none) = some r := by rw [if_neg (show ¬ (false = true) by decide)] at H; exact H
                            clear H; have H := H1; clear H1
                            exact absurd H (by simp)
                          ·rw [if_neg c291] at H
                           exact absurd H (by simp)
                         ·rw [if_neg c290] at H
                          exact absurd H (by simp)
                        ·rw [if_neg c289] at H
                         have c289b0 : decide ((t465.length : Int) < 8) = false := decide_eq_false c289
                         have c289b1 : decide (t465.length < 8) = false := decide_eq_false (by omega)
                         clear c289; have H' := Aside0.mk H; clear H
                         go_wp2
                         go_roundg kj265
                         case measure => have := HJ15.out; have := HJ101.out; have := HJ203.out; have := HK4.out; have := HK5.out; have := HJ265.out; omega
                         case rel => exact ⟨(wrap64 (x550_5 + 1)), (by first | rfl | (simp; done) | (simp [*]; done) | (simp; exact Lam.bxe _ _)), H', ⟨by have := HJ15.out; have := HJ101.out; have := HJ203.out; have := HK4.out; have := HK5.out; have := HJ265.out; omega⟩, ⟨by (with_reducible repeat (first | apply Kd.V_alloc | apply Kd.V_drewN | apply Kd.V_drew)); exact HO_44.out⟩, ⟨Lam.sq HO_47.out⟩, ⟨by (with_reducible repeat (first | apply Kd.V_alloc | apply Kd.V_drewN | apply Kd.V_drew)); exact HO_55.out⟩, ⟨Lam.rq HO_60.out⟩, ⟨Lam.sq HO_548.out⟩, ⟨Lam.al⟩⟩
                    ·rw [if_neg c265] at H
                     exact absurd H (by simp)
                   ·rw [if_neg c264] at H
                    exact absurd H (by simp)
                  ·rw [if_neg c263] at H
                   have c263b0 : decide (x550_5 < (t470.length : Int)) = false := decide_eq_false c263; clear c263; have H' := Aside0.mk H; clear H
                   go_wp2
                   refine Met.intro (hJ_9 _ undef undef undef _ ?kp ?rel)
                   case kp => simp only [↓CutK.keep0, ↓CutK.keep1, ↓CutK.keep2, ↓CutK.keep3, ↓CutK.keep4, ↓CutK.keepN, true_and, and_true]
                   case rel => exact ⟨_, H', ⟨by have := HJ15.out; have := HJ101.out; have := HJ203.out; have := HK4.out; have := HK5.out; first | omega | exact Nat.le_refl _⟩, ⟨by (with_reducible repeat (first | apply Kd.V_alloc | apply Kd.V_drewN | apply Kd.V_drew)); exact Kd.V_mono HO_55.out (fun _ hk => hk.2.1)⟩, ⟨Lam.rq HO_60.out⟩, ⟨Lam.al⟩⟩
           ·replace c254 := Bool.eq_false_iff.mpr c254
            subst c254
            have H1 : (laws_FnBreaksStrips.j9 kj203 t482 t485 t486 t489 t490) = some r := by rw [if_neg (show ¬ (false = true) by decide)] at H; exact H
            clear H; have H := H1; clear H1; have H' := Aside0.mk H; clear H
            go_wp2
            refine Met.intro (hJ_9 _ undef undef undef _ ?kp ?rel)
            case kp => simp only [↓CutK.keep0, ↓CutK.keep1, ↓CutK.keep2, ↓CutK.keep3, ↓CutK.keep4, ↓CutK.keepN, true_and, and_true]
            case rel => exact ⟨_, H', ⟨by have := HJ15.out; have := HJ101.out; have := HJ203.out; first | omega | exact Nat.le_refl _⟩, ⟨by (with_reducible repeat (first | apply Kd.V_alloc | apply Kd.V_drewN | apply Kd.V_drew)); exact Kd.V_mono HO_55.out (fun _ hk => hk.2)⟩, ⟨Lam.rq HO_60.out⟩, ⟨Lam.al⟩⟩
          case rest9 => as_aux_lemma =>
           intro _ _ _ g_ wc hcut
           dsimp only [CutK.rl, List.replicate, List.cons_append, List.nil_append]
           dsimp only [↓CutK.mix0, ↓CutK.mix1, ↓CutK.mix2, ↓CutK.mix3, ↓CutK.mix4, ↓CutK.mixN, Nat.reduceAdd, Nat.zero_add]
           clear HC253
           obtain ⟨kq, HA, HJ252, HO_55, HO_60, HB⟩ := hcut
           cases kq with
           | zero => exact absurd HA.out (by simp [laws_FnBreaksStrips.j9])
           | succ kj252 =>
            have H := HA.out; clear HA
            simp only [laws_FnBreaksStrips.j9] at H
            by_cases c301 : t490 = true
            ·subst c301
             rw [if_pos rfl] at H
             by_cases c302 : (t489.length : Int) = (wrap64 ((t482.length : Int) + 1))
             ·rw [if_pos c302] at H
              have c302b0 : ((t489.length : Int) == (wrap64 ((t482.length : Int) + 1))) = true := beq_iff_eq.mpr c302; have c302b1 : ((t489.length : Int) != (wrap64 ((t482.length : Int) + 1))) = false := bne_eq_false_iff_eq.mpr c302; clear c302
              replace H := Option.bind_eq_some_iff.mp H
              obtain ⟨t520, A3030, H⟩ := H
              (try dsimp only at H); have A303 := Aside0.mk A3030; clear A3030
              replace H := Option.bind_eq_some_iff.mp H
              obtain ⟨t521, A3040, H⟩ := H
              (try dsimp only at H); have A304 := Aside0.mk A3040; clear A3040
              by_cases c305 : t520 = t521
              ·rw [if_pos c305] at H
               have c305b0 : (t520 == t521) = true := beq_iff_eq.mpr c305; have c305b1 : (t520 != t521) = false := bne_eq_false_iff_eq.mpr c305; clear c305
               by_cases c306 : 0 ≤ t485
               ·rw [if_pos c306] at H
                have c306b0 : decide (0 ≤ t485) = true := decide_eq_true c306; clear c306
                by_cases c307 : t485 < (t489.length : Int)
                ·rw [if_pos c307] at H
                 have c307b0 : decide (t485 < (t489.length : Int)) = true := decide_eq_true c307; clear c307
                 by_cases c308 : (rd t489 t485) = t486
                 ·rw [if_pos c308] at H
                  have c308b0 : ((rd t489 t485) == t486) = true := beq_iff_eq.mpr c308; have c308b1 : ((rd t489 t485) != t486) = false := bne_eq_false_iff_eq.mpr c308; clear c308
                  by_cases c309 : 0 ≤ (t482.length : Int)
                  ·rw [if_pos c309] at H
                   have c309b0 : decide (0 ≤ (t482.length : Int)) = true := decide_eq_true c309
                   have c309b1 : decide (0 ≤ t482.length) = true := decide_eq_true (by omega)
                   clear c309
                   by_cases c310 : (t482.length : Int) < (t489.length : Int)
                   ·rw [if_pos c310] at H
                    have c310b0 : decide ((t482.length : Int) < (t489.length : Int)) = true := decide_eq_true c310
                    have c310b1 : decide (t482.length < t489.length) = true := decide_eq_true (Int.ofNat_lt.mp c310)
                    clear c310
                    by_cases c311 : t485 < (t482.length : Int)
                    ·rw [if_pos c311] at H
                     have c311b0 : decide (t485 < (t482.length : Int)) = true := decide_eq_true c311; clear c311
                     by_cases c312 : (rd t489 (t482.length : Int)) = (wrap64 ((rd t482 t485) - t486))
                     ·rw [if_pos c312] at H
                      have c312b0 : ((rd t489 (t482.length : Int)) == (wrap64 ((rd t482 t485) - t486))) = true := beq_iff_eq.mpr c312; have c312b1 : ((rd t489 (t482.length : Int)) != (wrap64 ((rd t482 t485) - t486))) = false := bne_eq_false_iff_eq.mpr c312; clear c312
                      obtain rfl := Option.some.inj H
                      try go_wp2
                      obtain ⟨Ao314, co314, eo314⟩ := Kd.R_slice HO_60.out
                      (first | subst eo314 | (injection eo314 with f1_ f2_ f3_; have f4_ := f1_.symm; have f5_ := f3_.symm; clear f1_ f2_ f3_; subst f4_; subst f5_))
                      have p522 : 0 ≤ (t485 : Int) := of_decide_eq_true (by first | (with_reducible assumption) | assumption)
                      have q522 : t485 < (t489.length : Int) := of_decide_eq_true (by first | (with_reducible assumption) | assumption)
                      obtain ⟨ad522, e522, hx522_0⟩ := Kd.at_int (Kd.R_reads' HO_60.out).2.2 t485 p522 q522
                      cases e522
                      replace p522 := eq_true p522; replace q522 := eq_true q522
                      have p523 : 0 ≤ ((t482.length : Int) : Int) := of_decide_eq_true (by first | (with_reducible assumption) | assumption)
                      have q523 : (t482.length : Int) < (t489.length : Int) := of_decide_eq_true (by first | (with_reducible assumption) | assumption)
                      obtain ⟨ad523, e523, hx523_0⟩ := Kd.at_int (Kd.R_reads' HO_60.out).2.2 (t482.length : Int) p523 q523
                      obtain rfl : ad522 = ad523 := (by injection e523)
                      (try simp only [Go.IntWalk.toNatUp] at hx523_0)
                      replace p523 := eq_true p523; replace q523 := eq_true q523
                      have p524 : 0 ≤ (t485 : Int) := of_decide_eq_true (by first | (with_reducible assumption) | assumption)
                      have q524 : t485 < (t482.length : Int) := of_decide_eq_true (by first | (with_reducible assumption) | assumption)
                      obtain ⟨ad524, e524, hx524_0⟩ := Kd.at_int (Kd.V_reads' HO_55.out).2.2 t485 p524 q524
                      cases e524
                      replace p524 := eq_true p524; replace q524 := eq_true q524
                      go_quiet ((first | (go_at_call 29; (with_reducible refine (laws_ySum.calls kj252 _ _ t489 t520 _ ?side1 ?side2 A303.out).mono ?_); (case side1 => repeat (first | exact (Kd.R_reads' HO_60.out).2.2 | (with_reducible refine Kd.C_alloc ?_ _) | (with_reducible refine Kd.C_drewN ?_ _) | (with_reducible refine Kd.C_drew ?_))); (case side2 => exact (Kd.R_reads' HO_60.out).2.1); rintro e w' ⟨rfl, ⟨nd, rfl⟩⟩; exact ⟨rfl, _, World.drewN_drewN _ _ _⟩) | (go_at_call 29; (with_reducible refine (laws_ySum.calls kj252 _ _ t482 t521 _ ?side1 ?side2 A304.out).mono ?_); (case side1 => repeat (first | exact (Kd.V_reads' HO_55.out).2.2 | (with_reducible refine Kd.C_alloc ?_ _) | (with_reducible refine Kd.C_drewN ?_ _) | (with_reducible refine Kd.C_drew ?_))); (case side2 => exact (Kd.V_reads' HO_55.out).2.1); rintro e w' ⟨rfl, ⟨nd, rfl⟩⟩; exact ⟨rfl, _, World.drewN_drewN _ _ _⟩)))
                      try go_wp2
                      go_ret
                      exact ⟨by first | rfl | (simp [errW_none, errW_some] <;> rfl) | (simp [*, errW_none, errW_some] <;> rfl), Lam.al⟩
                     ·rw [if_neg c312] at H
                      exact absurd H (by simp)
                    ·rw [if_neg c311] at H
                     exact absurd H (by simp)
                   ·rw [if_neg c310] at H
                    exact absurd H (by simp)
                  ·rw [if_neg c309] at H
                   exact absurd H (by simp)
                 ·rw [if_neg c308] at H
                  have c308b0 : ((rd t489 t485) == t486) = false := beq_eq_false_iff_ne.mpr c308
                  have c308b1 : ((rd t489 t485) != t486) = true := bne_iff_ne.mpr c308
                  exact absurd H (by simp)
                ·rw [if_neg c307] at H
                 exact absurd H (by simp)
               ·rw [if_neg c306] at H
                exact absurd H (by simp)
              ·rw [if_neg c305] at H
               have c305b0 : (t520 == t521) = false := beq_eq_false_iff_ne.mpr c305
               have c305b1 : (t520 != t521) = true := bne_iff_ne.mpr c305
               exact absurd H (by simp)
             ·rw [if_neg c302] at H
              have c302b0 : ((t489.length : Int) == (wrap64 ((t482.length : Int) + 1))) = false := beq_eq_false_iff_ne.mpr c302
              have c302b1 : ((t489.length : Int) != (wrap64 ((t482.length : Int) + 1))) = true := bne_iff_ne.mpr c302
              exact absurd H (by simp)
            ·replace c301 := Bool.eq_false_iff.mpr c301
             subst c301
             have H1 : (some true) = some r := by rw [if_neg (show ¬ (false = true) by decide)] at H; exact H
             clear H; have H := H1; clear H1
             obtain rfl := Option.some.inj H
             go_wp2
             go_ret
             exact ⟨by first | rfl | (simp [errW_none, errW_some] <;> rfl) | (simp [*, errW_none, errW_some] <;> rfl), Lam.al⟩

/-- THE ONE PURE STATEMENT of laws_FnBreaksStrips: yours. -/
def laws_FnBreaksStrips.Pure : Prop := ∀ (l0 : List Int) (l1 : List Int), l0.length ≤ maxLen → l0.length * 1 ≤ 140737488351232 → (∀ x ∈ l0, (Lit.int .u8 x).wf = true) → l1.length ≤ maxLen → l1.length * 1 ≤ 140737488351232 → (∀ x ∈ l1, (Lit.int .u8 x).wf = true) → ∃ k, laws_FnBreaksStrips.f k l0 l1 = some true
theorem laws_FnBreaksStrips.walk (P : laws_FnBreaksStrips.Pure) (a0 : Option Addr) (len0 cap0 : Nat) (z0 : List Int) (a1 : Option Addr) (len1 cap1 : Nat) (z1 : List Int) (w : World) (w0 : (a0 = none ∧ len0 = 0 ∧ cap0 = 0 ∧ z0 = []) ∨ ∃ x, a0 = some x ∧ len0 ≤ cap0 ∧ cap0 ≤ maxLen ∧ z0.length = cap0 ∧ (∀ i, i < z0.length → w.cell? (x.add i) = some (.int .u8 (z0.getD i 0))) ∧ ∀ n ∈ z0, (Lit.int .u8 n).wf = true) (y0 : len0 * 1 ≤ 140737488351232) (w1 : (a1 = none ∧ len1 = 0 ∧ cap1 = 0 ∧ z1 = []) ∨ ∃ x, a1 = some x ∧ len1 ≤ cap1 ∧ cap1 ≤ maxLen ∧ z1.length = cap1 ∧ (∀ i, i < z1.length → w.cell? (x.add i) = some (.int .u8 (z1.getD i 0))) ∧ ∀ n ∈ z1, (Lit.int .u8 n).wf = true) (y1 : len1 * 1 ≤ 140737488351232) :
  Calls Try.prog 3 #[.slice a0 len0 cap0, .slice a1 len1 cap1] w fun e w' => e = .returned (.bool true) ∧ Below w.heap.size w w' := by
 obtain ⟨l0, rfl, hr0, hm0, hw0, hc0⟩ := ReadsInt.ofRowC w0
 obtain ⟨l1, rfl, hr1, hm1, hw1, hc1⟩ := ReadsInt.ofRowC w1
 obtain ⟨k, h⟩ := P l0 l1 hm0 y0 hw0 hm1 y1 hw1
 refine (laws_FnBreaksStrips.calls k _ _ l0 _ _ l1 true w (Kd.C_of_reads (d := (0 : Int)) (h1 := fun _ => rfl) hr0) hc0 (Kd.C_of_reads (d := (0 : Int)) (h1 := fun _ => rfl) hr1) hc1 h).mono ?_
 rintro e w' ⟨rfl, hd⟩
 exact ⟨rfl, hd⟩

end Go.Proofs.Ytejnbnppiipdlaa.PFnBreaksStrips
