-- Made by a program of this session (wip/xprint.py) out of the translation.
import Derived.Test.YtdikeggkfkkajaaCutK
import Derived.Test.YtdikeggkfkkajaaPFnBoxesTastedx0
import Derived.Test.YtdikeggkfkkajaaPFnBoxesTastedx1
import Derived.Test.YtdikeggkfkkajaaPFnBoxesTastedx2
import Derived.Test.YtdikeggkfkkajaaPFnBoxesTastedx3
import Derived.Test.YtdikeggkfkkajaaPFnBoxesTastedx4
import Derived.Test.YtdikeggkfkkajaaPFnBoxesTastedx5
import Derived.Test.YtdikeggkfkkajaaPFnBoxesTastedx6
namespace Go.Proofs.Ytdikeggkfkkajaa.PFnBoxesTasted
open Go.RowKit Go.Proofs.YtdikeggkfkkajaaW.PrintWords Go.Proofs.YtdikeggkfkkajaaW.PrintLast Go.Proofs.YtdikeggkfkkajaaW.PrintMore
attribute [local go_sem] max2_int min2_int max_two min_two max_three min_three max_four min_four   -- for this text's walks alone
set_option linter.unusedVariables false
set_option linter.unusedSimpArgs false

/-! ### laws_FnBoxesTasted: function 5 -/
mutual
def laws_FnBoxesTasted.j0 : Nat → List Int → Int → Int → Int → Int → List Int → Bool → Int → Bool → Option (Bool)
 | 0, _, _, _, _, _, _, _, _, _ => none
 | k + 1, x1, x5, x6, x7, x8, x9, x10, x17, x177 => if x177 = true then (none) else (if x10 = true then ((impl_PralineOfCode.f k x5 x6 x7 x9).bind fun bt334 => (if (x9.length : Int) = x6 then (if bt334.2 = true then (laws_FnBoxesTasted.j1 k x1 x5 x6 x7 x8 x9 x17 (bt334.1 != x8)) else (laws_FnBoxesTasted.j1 k x1 x5 x6 x7 x8 x9 x17 true)) else (laws_FnBoxesTasted.j1 k x1 x5 x6 x7 x8 x9 x17 true))) else (laws_FnBoxesTasted.j5 k x1))
def laws_FnBoxesTasted.j5 : Nat → List Int → Option (Bool)
 | 0, _ => none
 | k + 1, x1 => (spec_DrawTastersFor.f x1).bind fun bt347 => ((impl_TastersFor.f k bt347.1 bt347.2).bind fun bt349 => ((spec_TastersFor.f k bt347.1 bt347.2).bind fun bt351 => ((spec_DrawRoundsFor.f x1).bind fun bt353 => ((impl_RoundsFor.f k bt353.1 bt353.2).bind fun bt355 => ((spec_RoundsFor.f k bt353.1 bt353.2).bind fun bt357 => ((spec_DrawPralineOfCode.f k x1).bind fun bt359 => ((impl_PralineOfCode.f k bt359.1 bt359.2.1 bt359.2.2.1 bt359.2.2.2).bind fun bt365 => ((spec_PralineOfCode.f k bt359.1 bt359.2.1 bt359.2.2.1 bt359.2.2.2).bind fun bt367 => ((spec_DrawTastedBy.f x1).bind fun bt369 => ((impl_TastedBy.f k bt369.1 bt369.2.1 bt369.2.2.1 bt369.2.2.2.1 bt369.2.2.2.2).bind fun bt374 => ((spec_TastedBy.f k bt369.1 bt369.2.1 bt369.2.2.1 bt369.2.2.2.1 bt369.2.2.2.2).bind fun bt378 => (if (bt349.2 != bt351.2) = true then (laws_FnBoxesTasted.j6 k bt347.1 bt347.2 bt349.1 bt349.2 bt353.1 bt353.2 bt355.1 bt355.2 bt359.1 bt359.2.1 bt359.2.2.1 bt359.2.2.2 bt365.1 bt365.2 bt369.1 bt369.2.1 bt369.2.2.1 bt369.2.2.2.1 bt369.2.2.2.2 bt374.1 bt374.2 true) else (if bt349.1 = bt351.1 then (if (bt355.2 != bt357.2) = true then (laws_FnBoxesTasted.j6 k bt347.1 bt347.2 bt349.1 bt349.2 bt353.1 bt353.2 bt355.1 bt355.2 bt359.1 bt359.2.1 bt359.2.2.1 bt359.2.2.2 bt365.1 bt365.2 bt369.1 bt369.2.1 bt369.2.2.1 bt369.2.2.2.1 bt369.2.2.2.2 bt374.1 bt374.2 true) else (if bt355.1 = bt357.1 then (if (bt365.2 != bt367.2) = true then (laws_FnBoxesTasted.j6 k bt347.1 bt347.2 bt349.1 bt349.2 bt353.1 bt353.2 bt355.1 bt355.2 bt359.1 bt359.2.1 bt359.2.2.1 bt359.2.2.2 bt365.1 bt365.2 bt369.1 bt369.2.1 bt369.2.2.1 bt369.2.2.2.1 bt369.2.2.2.2 bt374.1 bt374.2 true) else (if bt365.1 = bt367.1 then (if (bt374.2 != bt378.2) = true then (laws_FnBoxesTasted.j6 k bt347.1 bt347.2 bt349.1 bt349.2 bt353.1 bt353.2 bt355.1 bt355.2 bt359.1 bt359.2.1 bt359.2.2.1 bt359.2.2.2 bt365.1 bt365.2 bt369.1 bt369.2.1 bt369.2.2.1 bt369.2.2.2.1 bt369.2.2.2.2 bt374.1 bt374.2 true) else ((laws_ySame.f k bt374.1 bt378.1).bind fun t382 => (laws_FnBoxesTasted.j6 k bt347.1 bt347.2 bt349.1 bt349.2 bt353.1 bt353.2 bt355.1 bt355.2 bt359.1 bt359.2.1 bt359.2.2.1 bt359.2.2.2 bt365.1 bt365.2 bt369.1 bt369.2.1 bt369.2.2.1 bt369.2.2.2.1 bt369.2.2.2.2 bt374.1 bt374.2 (!t382)))) else (laws_FnBoxesTasted.j6 k bt347.1 bt347.2 bt349.1 bt349.2 bt353.1 bt353.2 bt355.1 bt355.2 bt359.1 bt359.2.1 bt359.2.2.1 bt359.2.2.2 bt365.1 bt365.2 bt369.1 bt369.2.1 bt369.2.2.1 bt369.2.2.2.1 bt369.2.2.2.2 bt374.1 bt374.2 true))) else (laws_FnBoxesTasted.j6 k bt347.1 bt347.2 bt349.1 bt349.2 bt353.1 bt353.2 bt355.1 bt355.2 bt359.1 bt359.2.1 bt359.2.2.1 bt359.2.2.2 bt365.1 bt365.2 bt369.1 bt369.2.1 bt369.2.2.1 bt369.2.2.2.1 bt369.2.2.2.2 bt374.1 bt374.2 true))) else (laws_FnBoxesTasted.j6 k bt347.1 bt347.2 bt349.1 bt349.2 bt353.1 bt353.2 bt355.1 bt355.2 bt359.1 bt359.2.1 bt359.2.2.1 bt359.2.2.2 bt365.1 bt365.2 bt369.1 bt369.2.1 bt369.2.2.1 bt369.2.2.2.1 bt369.2.2.2.2 bt374.1 bt374.2 true))))))))))))))
def laws_FnBoxesTasted.j6 : Nat → Int → Int → Int → Bool → Int → Int → Int → Bool → Int → Int → Int → List Int → Int → Bool → Int → Int → Int → Int → Int → List Int → Bool → Bool → Option (Bool)
 | 0, _, _, _, _, _, _, _, _, _, _, _, _, _, _, _, _, _, _, _, _, _, _ => none
 | k + 1, x29, x30, x31, x32, x35, x36, x37, x38, x41, x42, x43, x44, x45, x46, x49, x50, x51, x52, x53, x54, x55, x382 => if x382 = true then (none) else (if x32 = true then (laws_FnBoxesTasted.j7 k x29 x30 x31 x32 x35 x36 x37 x38 x41 x42 x43 x44 x45 x46 x49 x50 x51 x52 x53 x54 x55 (decide (x31 ≥ 1))) else (laws_FnBoxesTasted.j7 k x29 x30 x31 x32 x35 x36 x37 x38 x41 x42 x43 x44 x45 x46 x49 x50 x51 x52 x53 x54 x55 false))
def laws_FnBoxesTasted.j7 : Nat → Int → Int → Int → Bool → Int → Int → Int → Bool → Int → Int → Int → List Int → Int → Bool → Int → Int → Int → Int → Int → List Int → Bool → Bool → Option (Bool)
 | 0, _, _, _, _, _, _, _, _, _, _, _, _, _, _, _, _, _, _, _, _, _, _ => none
 | k + 1, x29, x30, x31, x32, x35, x36, x37, x38, x41, x42, x43, x44, x45, x46, x49, x50, x51, x52, x53, x54, x55, x387 => if x387 = true then ((impl_MostPralines.f k x31 x30).bind fun bt383 => (if bt383.2 = true then (laws_FnBoxesTasted.j8 k x29 x30 x31 x32 x35 x36 x37 x38 x41 x42 x43 x44 x45 x46 x49 x50 x51 x52 x53 x54 x55 (decide (bt383.1 < x29))) else (laws_FnBoxesTasted.j8 k x29 x30 x31 x32 x35 x36 x37 x38 x41 x42 x43 x44 x45 x46 x49 x50 x51 x52 x53 x54 x55 true))) else (laws_FnBoxesTasted.j9 k x29 x31 x32 x35 x36 x37 x38 x41 x42 x43 x44 x45 x46 x49 x50 x51 x52 x53 x54 x55)
def laws_FnBoxesTasted.j9 : Nat → Int → Int → Bool → Int → Int → Int → Bool → Int → Int → Int → List Int → Int → Bool → Int → Int → Int → Int → Int → List Int → Bool → Option (Bool)
 | 0, _, _, _, _, _, _, _, _, _, _, _, _, _, _, _, _, _, _, _, _ => none
 | k + 1, x29, x31, x32, x35, x36, x37, x38, x41, x42, x43, x44, x45, x46, x49, x50, x51, x52, x53, x54, x55 => if x32 = true then (laws_FnBoxesTasted.j10 k x35 x36 x37 x38 x41 x42 x43 x44 x45 x46 x49 x50 x51 x52 x53 x54 x55 ((x31 == 0) != (x29 == 1))) else (laws_FnBoxesTasted.j10 k x35 x36 x37 x38 x41 x42 x43 x44 x45 x46 x49 x50 x51 x52 x53 x54 x55 false)
def laws_FnBoxesTasted.j10 : Nat → Int → Int → Int → Bool → Int → Int → Int → List Int → Int → Bool → Int → Int → Int → Int → Int → List Int → Bool → Bool → Option (Bool)
 | 0, _, _, _, _, _, _, _, _, _, _, _, _, _, _, _, _, _, _ => none
 | k + 1, x35, x36, x37, x38, x41, x42, x43, x44, x45, x46, x49, x50, x51, x52, x53, x54, x55, x424 => if x424 = true then (none) else (if x38 = true then (if x37 ≥ 1 then (laws_FnBoxesTasted.j11 k x35 x36 x37 x41 x42 x43 x44 x45 x46 x49 x50 x51 x52 x53 x54 x55 (decide (x37 ≤ 20))) else (laws_FnBoxesTasted.j11 k x35 x36 x37 x41 x42 x43 x44 x45 x46 x49 x50 x51 x52 x53 x54 x55 false)) else (laws_FnBoxesTasted.j11 k x35 x36 x37 x41 x42 x43 x44 x45 x46 x49 x50 x51 x52 x53 x54 x55 false))
def laws_FnBoxesTasted.j11 : Nat → Int → Int → Int → Int → Int → Int → List Int → Int → Bool → Int → Int → Int → Int → Int → List Int → Bool → Bool → Option (Bool)
 | 0, _, _, _, _, _, _, _, _, _, _, _, _, _, _, _, _, _ => none
 | k + 1, x35, x36, x37, x41, x42, x43, x44, x45, x46, x49, x50, x51, x52, x53, x54, x55, x433 => if x433 = true then ((impl_MostPralines.f k x36 x37).bind fun bt387 => (if bt387.2 = true then (laws_FnBoxesTasted.j12 k x35 x36 x37 x41 x42 x43 x44 x45 x46 x49 x50 x51 x52 x53 x54 x55 (decide (bt387.1 < x35))) else (laws_FnBoxesTasted.j12 k x35 x36 x37 x41 x42 x43 x44 x45 x46 x49 x50 x51 x52 x53 x54 x55 true))) else (laws_FnBoxesTasted.j13 k x41 x42 x43 x44 x45 x46 x49 x50 x51 x52 x53 x54 x55)
def laws_FnBoxesTasted.j13 : Nat → Int → Int → Int → List Int → Int → Bool → Int → Int → Int → Int → Int → List Int → Bool → Option (Bool)
 | 0, _, _, _, _, _, _, _, _, _, _, _, _, _ => none
 | k + 1, x41, x42, x43, x44, x45, x46, x49, x50, x51, x52, x53, x54, x55 => if x46 = true then ((impl_CodeOfPraline.f k x41 x42 x43 x45).bind fun bt391 => (if bt391.2 = true then ((laws_ySame.f k bt391.1 x44).bind fun t395 => (if t395 = true then (laws_FnBoxesTasted.j14 k x49 x50 x51 x52 x53 x54 x55) else (none))) else (none))) else (laws_FnBoxesTasted.j14 k x49 x50 x51 x52 x53 x54 x55)
def laws_FnBoxesTasted.j14 : Nat → Int → Int → Int → Int → Int → List Int → Bool → Option (Bool)
 | 0, _, _, _, _, _, _, _ => none
 | k + 1, x49, x50, x51, x52, x53, x54, x55 => if x55 = true then ((laws_yRises.f k x54).bind fun t396 => (if t396 = true then (laws_FnBoxesTasted.l1 k x49 x50 x51 x52 x53 x54 0) else (none))) else (some true)
def laws_FnBoxesTasted.l1 : Nat → Int → Int → Int → Int → Int → List Int → Int → Option (Bool)
 | 0, _, _, _, _, _, _, _ => none
 | k + 1, x49, x50, x51, x52, x53, x54, x68 => if x68 < x49 then (laws_FnBoxesTasted.j16 k x49 x50 x51 x52 x53 x54 x68 (decide (x68 < 60))) else (laws_FnBoxesTasted.j16 k x49 x50 x51 x52 x53 x54 x68 false)
def laws_FnBoxesTasted.j16 : Nat → Int → Int → Int → Int → Int → List Int → Int → Bool → Option (Bool)
 | 0, _, _, _, _, _, _, _, _ => none
 | k + 1, x49, x50, x51, x52, x53, x54, x68, x490 => if x490 = true then ((impl_CodeOfPraline.f k x49 x50 x51 x68).bind fun bt397 => (if bt397.2 = true then ((laws_yHas.f k x54 x68).bind fun t401 => (if 0 ≤ x52 then (if x52 < (bt397.1.length : Int) then (if (t401 != ((rd bt397.1 x52) == x53)) = true then (none) else (laws_FnBoxesTasted.l1 k x49 x50 x51 x52 x53 x54 (wrap64 (x68 + 1)))) else (none)) else (none))) else (none))) else (some true)
def laws_FnBoxesTasted.j12 : Nat → Int → Int → Int → Int → Int → Int → List Int → Int → Bool → Int → Int → Int → Int → Int → List Int → Bool → Bool → Option (Bool)
 | 0, _, _, _, _, _, _, _, _, _, _, _, _, _, _, _, _, _ => none
 | k + 1, x35, x36, x37, x41, x42, x43, x44, x45, x46, x49, x50, x51, x52, x53, x54, x55, x446 => if x446 = true then (none) else (if x37 > 1 then ((impl_MostPralines.f k x36 (wrap64 (x37 - 1))).bind fun bt389 => (if bt389.2 = true then (if bt389.1 ≥ x35 then (none) else (laws_FnBoxesTasted.j13 k x41 x42 x43 x44 x45 x46 x49 x50 x51 x52 x53 x54 x55)) else (none))) else (laws_FnBoxesTasted.j13 k x41 x42 x43 x44 x45 x46 x49 x50 x51 x52 x53 x54 x55))
def laws_FnBoxesTasted.j8 : Nat → Int → Int → Int → Bool → Int → Int → Int → Bool → Int → Int → Int → List Int → Int → Bool → Int → Int → Int → Int → Int → List Int → Bool → Bool → Option (Bool)
 | 0, _, _, _, _, _, _, _, _, _, _, _, _, _, _, _, _, _, _, _, _, _, _ => none
 | k + 1, x29, x30, x31, x32, x35, x36, x37, x38, x41, x42, x43, x44, x45, x46, x49, x50, x51, x52, x53, x54, x55, x400 => if x400 = true then (none) else (if x31 > 1 then ((impl_MostPralines.f k (wrap64 (x31 - 1)) x30).bind fun bt385 => (if bt385.2 = true then (if bt385.1 ≥ x29 then (none) else (laws_FnBoxesTasted.j9 k x29 x31 x32 x35 x36 x37 x38 x41 x42 x43 x44 x45 x46 x49 x50 x51 x52 x53 x54 x55)) else (none))) else (laws_FnBoxesTasted.j9 k x29 x31 x32 x35 x36 x37 x38 x41 x42 x43 x44 x45 x46 x49 x50 x51 x52 x53 x54 x55))
def laws_FnBoxesTasted.j1 : Nat → List Int → Int → Int → Int → Int → List Int → Int → Bool → Option (Bool)
 | 0, _, _, _, _, _, _, _, _ => none
 | k + 1, x1, x5, x6, x7, x8, x9, x17, x199 => if x199 = true then (none) else (laws_FnBoxesTasted.l0 k x1 x5 x6 x7 x8 x9 x17 x9 (x9.length : Int) 0)
def laws_FnBoxesTasted.l0 : Nat → List Int → Int → Int → Int → Int → List Int → Int → List Int → Int → Int → Option (Bool)
 | 0, _, _, _, _, _, _, _, _, _, _ => none
 | k + 1, x1, x5, x6, x7, x8, x9, x17, x200, x201, x202 => if x202 < x201 then (if 0 ≤ x202 then (if x202 < (x200.length : Int) then (if (rd x200 x202) < 0 then (laws_FnBoxesTasted.j3 k x1 x5 x6 x7 x8 x9 x17 x202 (rd x200 x202) x200 x201 x202 true) else (if (rd x200 x202) > x7 then (laws_FnBoxesTasted.j3 k x1 x5 x6 x7 x8 x9 x17 x202 (rd x200 x202) x200 x201 x202 true) else (laws_FnBoxesTasted.j3 k x1 x5 x6 x7 x8 x9 x17 x202 (rd x200 x202) x200 x201 x202 (decide ((rd x200 x202) > x17))))) else (none)) else (none)) else (if x8 > 0 then ((impl_CodeOfPraline.f k x5 x6 x7 (wrap64 (x8 - 1))).bind fun bt342 => (if bt342.2 = true then ((laws_ySame.f k bt342.1 x9).bind fun t346 => (if t346 = true then (none) else (laws_FnBoxesTasted.j5 k x1))) else (none))) else (laws_FnBoxesTasted.j5 k x1))
def laws_FnBoxesTasted.j3 : Nat → List Int → Int → Int → Int → Int → List Int → Int → Int → Int → List Int → Int → Int → Bool → Option (Bool)
 | 0, _, _, _, _, _, _, _, _, _, _, _, _, _ => none
 | k + 1, x1, x5, x6, x7, x8, x9, x17, x23, x24, x200, x201, x202, x218 => if x218 = true then (none) else (if x5 ≤ 100 then (laws_FnBoxesTasted.j4 k x1 x5 x6 x7 x8 x9 x17 x23 x24 x200 x201 x202 (decide (x24 > 0))) else (laws_FnBoxesTasted.j4 k x1 x5 x6 x7 x8 x9 x17 x23 x24 x200 x201 x202 false))
def laws_FnBoxesTasted.j4 : Nat → List Int → Int → Int → Int → Int → List Int → Int → Int → Int → List Int → Int → Int → Bool → Option (Bool)
 | 0, _, _, _, _, _, _, _, _, _, _, _, _, _ => none
 | k + 1, x1, x5, x6, x7, x8, x9, x17, x23, x24, x200, x201, x202, x224 => if x224 = true then ((impl_TastedBy.f k x5 x6 x7 x23 x24).bind fun bt337 => (if bt337.2 = true then ((laws_yHas.f k bt337.1 x8).bind fun t341 => (if t341 = true then (laws_FnBoxesTasted.l0 k x1 x5 x6 x7 x8 x9 x17 x200 x201 (wrap64 (x202 + 1))) else (none))) else (none))) else (laws_FnBoxesTasted.l0 k x1 x5 x6 x7 x8 x9 x17 x200 x201 (wrap64 (x202 + 1)))
end
def laws_FnBoxesTasted.f (k : Nat) (l0 : List Int) (l1 : List Int) : Option (Bool) := (laws_big.f l0 l1).bind fun t312 => (if t312 = true then (some true) else ((spec_DrawCodeOfPraline.f l0).bind fun bt313 => ((impl_CodeOfPraline.f k bt313.1 bt313.2.1 bt313.2.2.1 bt313.2.2.2).bind fun bt317 => ((spec_CodeOfPraline.f k bt313.1 bt313.2.1 bt313.2.2.1 bt313.2.2.2).bind fun bt321 => ((impl_MostPralines.f k bt313.2.1 bt313.2.2.1).bind fun bt325 => ((spec_MostPralines.f k bt313.2.1 bt313.2.2.1).bind fun bt327 => ((impl_BitterRounds.f k bt313.1 bt313.2.1 bt313.2.2.1).bind fun bt329 => ((spec_BitterRounds.f k bt313.1 bt313.2.1 bt313.2.2.1).bind fun bt331 => (if (bt317.2 != bt321.2) = true then (laws_FnBoxesTasted.j0 k l1 bt313.1 bt313.2.1 bt313.2.2.1 bt313.2.2.2 bt317.1 bt317.2 bt329.1 true) else ((laws_ySame.f k bt317.1 bt321.1).bind fun t333 => (if t333 = true then (if (bt325.2 != bt327.2) = true then (laws_FnBoxesTasted.j0 k l1 bt313.1 bt313.2.1 bt313.2.2.1 bt313.2.2.2 bt317.1 bt317.2 bt329.1 true) else (if bt325.1 = bt327.1 then (if (bt329.2 != bt331.2) = true then (laws_FnBoxesTasted.j0 k l1 bt313.1 bt313.2.1 bt313.2.2.1 bt313.2.2.2 bt317.1 bt317.2 bt329.1 true) else (if bt329.1 = bt331.1 then (if bt317.2 = true then (if bt329.2 = true then (if bt325.2 = true then (if bt313.1 > bt325.1 then (laws_FnBoxesTasted.j0 k l1 bt313.1 bt313.2.1 bt313.2.2.1 bt313.2.2.2 bt317.1 bt317.2 bt329.1 true) else (laws_FnBoxesTasted.j0 k l1 bt313.1 bt313.2.1 bt313.2.2.1 bt313.2.2.2 bt317.1 bt317.2 bt329.1 (decide (bt325.1 < 2)))) else (laws_FnBoxesTasted.j0 k l1 bt313.1 bt313.2.1 bt313.2.2.1 bt313.2.2.2 bt317.1 bt317.2 bt329.1 true)) else (laws_FnBoxesTasted.j0 k l1 bt313.1 bt313.2.1 bt313.2.2.1 bt313.2.2.2 bt317.1 bt317.2 bt329.1 true)) else (if bt329.2 = true then (if bt325.2 = true then (if bt313.1 > bt325.1 then (laws_FnBoxesTasted.j0 k l1 bt313.1 bt313.2.1 bt313.2.2.1 bt313.2.2.2 bt317.1 bt317.2 bt329.1 true) else (laws_FnBoxesTasted.j0 k l1 bt313.1 bt313.2.1 bt313.2.2.1 bt313.2.2.2 bt317.1 bt317.2 bt329.1 (decide (bt325.1 < 2)))) else (laws_FnBoxesTasted.j0 k l1 bt313.1 bt313.2.1 bt313.2.2.1 bt313.2.2.2 bt317.1 bt317.2 bt329.1 true)) else (if bt325.2 = true then (laws_FnBoxesTasted.j0 k l1 bt313.1 bt313.2.1 bt313.2.2.1 bt313.2.2.2 bt317.1 bt317.2 bt329.1 (decide (bt325.1 < 2))) else (laws_FnBoxesTasted.j0 k l1 bt313.1 bt313.2.1 bt313.2.2.1 bt313.2.2.2 bt317.1 bt317.2 bt329.1 false)))) else (laws_FnBoxesTasted.j0 k l1 bt313.1 bt313.2.1 bt313.2.2.1 bt313.2.2.2 bt317.1 bt317.2 bt329.1 true))) else (laws_FnBoxesTasted.j0 k l1 bt313.1 bt313.2.1 bt313.2.2.1 bt313.2.2.2 bt317.1 bt317.2 bt329.1 true))) else (laws_FnBoxesTasted.j0 k l1 bt313.1 bt313.2.1 bt313.2.2.1 bt313.2.2.2 bt317.1 bt317.2 bt329.1 true))))))))))))
set_option maxHeartbeats 8000000 in
set_option maxRecDepth 100000 in
theorem laws_FnBoxesTasted.calls (k : Nat) (A0 : Option Addr) (c0 : Nat) (l0 : List Int) (A1 : Option Addr) (c1 : Nat) (l1 : List Int) (r : Bool) (w : World) (hr0 : Kd.C (Kd.int .u8) w A0 l0.length l0) (hc0 : l0.length ≤ c0) (hr1 : Kd.C (Kd.int .u8) w A1 l1.length l1) (hc1 : l1.length ≤ c1) (h : laws_FnBoxesTasted.f k l0 l1 = some r) :
  Calls Try.prog 5 #[.slice A0 l0.length c0, .slice A1 l1.length c1] w fun e w' => e = .returned (.bool r) ∧ Below w.heap.size w w' := by
 have HR0 := Aside0.mk hr0
 have HC0 := Aside0.mk hc0
 clear hr0 hc0
 have HR1 := Aside0.mk hr1
 have HC1 := Aside0.mk hc1
 clear hr1 hc1
 have HB := Aside0.mk (Below.refl w.heap.size w)
 have H : ((laws_big.f l0 l1).bind fun t312 => (if t312 = true then (some true) else ((spec_DrawCodeOfPraline.f l0).bind fun bt313 => ((impl_CodeOfPraline.f k bt313.1 bt313.2.1 bt313.2.2.1 bt313.2.2.2).bind fun bt317 => ((spec_CodeOfPraline.f k bt313.1 bt313.2.1 bt313.2.2.1 bt313.2.2.2).bind fun bt321 => ((impl_MostPralines.f k bt313.2.1 bt313.2.2.1).bind fun bt325 => ((spec_MostPralines.f k bt313.2.1 bt313.2.2.1).bind fun bt327 => ((impl_BitterRounds.f k bt313.1 bt313.2.1 bt313.2.2.1).bind fun bt329 => ((spec_BitterRounds.f k bt313.1 bt313.2.1 bt313.2.2.1).bind fun bt331 => (if (bt317.2 != bt321.2) = true then (laws_FnBoxesTasted.j0 k l1 bt313.1 bt313.2.1 bt313.2.2.1 bt313.2.2.2 bt317.1 bt317.2 bt329.1 true) else ((laws_ySame.f k bt317.1 bt321.1).bind fun t333 => (if t333 = true then (if (bt325.2 != bt327.2) = true then (laws_FnBoxesTasted.j0 k l1 bt313.1 bt313.2.1 bt313.2.2.1 bt313.2.2.2 bt317.1 bt317.2 bt329.1 true) else (if bt325.1 = bt327.1 then (if (bt329.2 != bt331.2) = true then (laws_FnBoxesTasted.j0 k l1 bt313.1 bt313.2.1 bt313.2.2.1 bt313.2.2.2 bt317.1 bt317.2 bt329.1 true) else (if bt329.1 = bt331.1 then (if bt317.2 = true then (if bt329.2 = true then (if bt325.2 = true then (if bt313.1 > bt325.1 then (laws_FnBoxesTasted.j0 k l1 bt313.1 bt313.2.1 bt313.2.2.1 bt313.2.2.2 bt317.1 bt317.2 bt329.1 true) else (laws_FnBoxesTasted.j0 k l1 bt313.1 bt313.2.1 bt313.2.2.1 bt313.2.2.2 bt317.1 bt317.2 bt329.1 (decide (bt325.1 < 2)))) else (laws_FnBoxesTasted.j0 k l1 bt313.1 bt313.2.1 bt313.2.2.1 bt313.2.2.2 bt317.1 bt317.2 bt329.1 true)) else (laws_FnBoxesTasted.j0 k l1 bt313.1 bt313.2.1 bt313.2.2.1 bt313.2.2.2 bt317.1 bt317.2 bt329.1 true)) else (if bt329.2 = true then (if bt325.2 = true then (if bt313.1 > bt325.1 then (laws_FnBoxesTasted.j0 k l1 bt313.1 bt313.2.1 bt313.2.2.1 bt313.2.2.2 bt317.1 bt317.2 bt329.1 true) else (laws_FnBoxesTasted.j0 k l1 bt313.1 bt313.2.1 bt313.2.2.1 bt313.2.2.2 bt317.1 bt317.2 bt329.1 (decide (bt325.1 < 2)))) else (laws_FnBoxesTasted.j0 k l1 bt313.1 bt313.2.1 bt313.2.2.1 bt313.2.2.2 bt317.1 bt317.2 bt329.1 true)) else (if bt325.2 = true then (laws_FnBoxesTasted.j0 k l1 bt313.1 bt313.2.1 bt313.2.2.1 bt313.2.2.2 bt317.1 bt317.2 bt329.1 (decide (bt325.1 < 2))) else (laws_FnBoxesTasted.j0 k l1 bt313.1 bt313.2.1 bt313.2.2.1 bt313.2.2.2 bt317.1 bt317.2 bt329.1 false)))) else (laws_FnBoxesTasted.j0 k l1 bt313.1 bt313.2.1 bt313.2.2.1 bt313.2.2.2 bt317.1 bt317.2 bt329.1 true))) else (laws_FnBoxesTasted.j0 k l1 bt313.1 bt313.2.1 bt313.2.2.1 bt313.2.2.2 bt317.1 bt317.2 bt329.1 true))) else (laws_FnBoxesTasted.j0 k l1 bt313.1 bt313.2.1 bt313.2.2.1 bt313.2.2.2 bt317.1 bt317.2 bt329.1 true))))))))))))) = some r := h
 clear h
 replace H := Option.bind_eq_some_iff.mp H
 obtain ⟨t312, A30, H⟩ := H
 replace H : (if t312 = true then (some true) else ((spec_DrawCodeOfPraline.f l0).bind fun bt313 => ((impl_CodeOfPraline.f k bt313.1 bt313.2.1 bt313.2.2.1 bt313.2.2.2).bind fun bt317 => ((spec_CodeOfPraline.f k bt313.1 bt313.2.1 bt313.2.2.1 bt313.2.2.2).bind fun bt321 => ((impl_MostPralines.f k bt313.2.1 bt313.2.2.1).bind fun bt325 => ((spec_MostPralines.f k bt313.2.1 bt313.2.2.1).bind fun bt327 => ((impl_BitterRounds.f k bt313.1 bt313.2.1 bt313.2.2.1).bind fun bt329 => ((spec_BitterRounds.f k bt313.1 bt313.2.1 bt313.2.2.1).bind fun bt331 => (if (bt317.2 != bt321.2) = true then (laws_FnBoxesTasted.j0 k l1 bt313.1 bt313.2.1 bt313.2.2.1 bt313.2.2.2 bt317.1 bt317.2 bt329.1 true) else ((laws_ySame.f k bt317.1 bt321.1).bind fun t333 => (if t333 = true then (if (bt325.2 != bt327.2) = true then (laws_FnBoxesTasted.j0 k l1 bt313.1 bt313.2.1 bt313.2.2.1 bt313.2.2.2 bt317.1 bt317.2 bt329.1 true) else (if bt325.1 = bt327.1 then (if (bt329.2 != bt331.2) = true then (laws_FnBoxesTasted.j0 k l1 bt313.1 bt313.2.1 bt313.2.2.1 bt313.2.2.2 bt317.1 bt317.2 bt329.1 true) else (if bt329.1 = bt331.1 then (if bt317.2 = true then (if bt329.2 = true then (if bt325.2 = true then (if bt313.1 > bt325.1 then (laws_FnBoxesTasted.j0 k l1 bt313.1 bt313.2.1 bt313.2.2.1 bt313.2.2.2 bt317.1 bt317.2 bt329.1 true) else (laws_FnBoxesTasted.j0 k l1 bt313.1 bt313.2.1 bt313.2.2.1 bt313.2.2.2 bt317.1 bt317.2 bt329.1 (decide (bt325.1 < 2)))) else (laws_FnBoxesTasted.j0 k l1 bt313.1 bt313.2.1 bt313.2.2.1 bt313.2.2.2 bt317.1 bt317.2 bt329.1 true)) else (laws_FnBoxesTasted.j0 k l1 bt313.1 bt313.2.1 bt313.2.2.1 bt313.2.2.2 bt317.1 bt317.2 bt329.1 true)) else (if bt329.2 = true then (if bt325.2 = true then (if bt313.1 > bt325.1 then (laws_FnBoxesTasted.j0 k l1 bt313.1 bt313.2.1 bt313.2.2.1 bt313.2.2.2 bt317.1 bt317.2 bt329.1 true) else (laws_FnBoxesTasted.j0 k l1 bt313.1 bt313.2.1 bt313.2.2.1 bt313.2.2.2 bt317.1 bt317.2 bt329.1 (decide (bt325.1 < 2)))) else (laws_FnBoxesTasted.j0 k l1 bt313.1 bt313.2.1 bt313.2.2.1 bt313.2.2.2 bt317.1 bt317.2 bt329.1 true)) else (if bt325.2 = true then (laws_FnBoxesTasted.j0 k l1 bt313.1 bt313.2.1 bt313.2.2.1 bt313.2.2.2 bt317.1 bt317.2 bt329.1 (decide (bt325.1 < 2))) else (laws_FnBoxesTasted.j0 k l1 bt313.1 bt313.2.1 bt313.2.2.1 bt313.2.2.2 bt317.1 bt317.2 bt329.1 false)))) else (laws_FnBoxesTasted.j0 k l1 bt313.1 bt313.2.1 bt313.2.2.1 bt313.2.2.2 bt317.1 bt317.2 bt329.1 true))) else (laws_FnBoxesTasted.j0 k l1 bt313.1 bt313.2.1 bt313.2.2.1 bt313.2.2.2 bt317.1 bt317.2 bt329.1 true))) else (laws_FnBoxesTasted.j0 k l1 bt313.1 bt313.2.1 bt313.2.2.1 bt313.2.2.2 bt317.1 bt317.2 bt329.1 true)))))))))))) = some r := H
 have A3 := Aside0.mk A30
 clear A30
 by_cases c4 : t312 = true
 ·subst c4
  have H1 : (some true) = some r := by rw [if_pos rfl] at H; exact H
  clear H
  have H := H1
  clear H1
  obtain rfl := Option.some.inj H
  go_enter Try.func5, Try.ntmps5
  go_wp2_with (first | (go_at_call 14; (with_reducible refine (laws_big.calls _ _ l0 _ _ l1 true _ ?side1 ?side2 ?side3 ?side4 A3.out).mono ?_); (case side1 => repeat (first | exact HR0.out | (with_reducible refine Kd.C_alloc ?_ _) | (with_reducible refine Kd.C_drewN ?_ _) | (with_reducible refine Kd.C_drew ?_))); (case side2 => exact HC0.out); (case side3 => repeat (first | exact HR1.out | (with_reducible refine Kd.C_alloc ?_ _) | (with_reducible refine Kd.C_drewN ?_ _) | (with_reducible refine Kd.C_drew ?_))); (case side4 => exact HC1.out); rintro e w' ⟨rfl, ⟨nd, rfl⟩⟩; (try first | exact ⟨rfl, _, World.drewN_drewN _ _ _⟩ | exact ⟨rfl, _, Eq.trans (World.drewN_drewN _ _ _) (congrArg (World.drewN _) (Nat.add_assoc _ _ _))⟩)))
  repeat (go_quiet (first | (go_at_call 14; (with_reducible refine (laws_big.calls _ _ l0 _ _ l1 true _ ?side1 ?side2 ?side3 ?side4 A3.out).mono ?_); (case side1 => repeat (first | exact HR0.out | (with_reducible refine Kd.C_alloc ?_ _) | (with_reducible refine Kd.C_drewN ?_ _) | (with_reducible refine Kd.C_drew ?_))); (case side2 => exact HC0.out); (case side3 => repeat (first | exact HR1.out | (with_reducible refine Kd.C_alloc ?_ _) | (with_reducible refine Kd.C_drewN ?_ _) | (with_reducible refine Kd.C_drew ?_))); (case side4 => exact HC1.out); rintro e w' ⟨rfl, ⟨nd, rfl⟩⟩; (try first | exact ⟨rfl, _, World.drewN_drewN _ _ _⟩ | exact ⟨rfl, _, Eq.trans (World.drewN_drewN _ _ _) (congrArg (World.drewN _) (Nat.add_assoc _ _ _))⟩))); try go_wp2_with (first | (go_at_call 14; (with_reducible refine (laws_big.calls _ _ l0 _ _ l1 true _ ?side1 ?side2 ?side3 ?side4 A3.out).mono ?_); (case side1 => repeat (first | exact HR0.out | (with_reducible refine Kd.C_alloc ?_ _) | (with_reducible refine Kd.C_drewN ?_ _) | (with_reducible refine Kd.C_drew ?_))); (case side2 => exact HC0.out); (case side3 => repeat (first | exact HR1.out | (with_reducible refine Kd.C_alloc ?_ _) | (with_reducible refine Kd.C_drewN ?_ _) | (with_reducible refine Kd.C_drew ?_))); (case side4 => exact HC1.out); rintro e w' ⟨rfl, ⟨nd, rfl⟩⟩; (try first | exact ⟨rfl, _, World.drewN_drewN _ _ _⟩ | exact ⟨rfl, _, Eq.trans (World.drewN_drewN _ _ _) (congrArg (World.drewN _) (Nat.add_assoc _ _ _))⟩))))
  go_ret
  exact ⟨by first | rfl | (simp [errW_none, errW_some] <;> rfl) | (simp [*, errW_none, errW_some] <;> rfl), Lam.al⟩
 ·replace c4 := Bool.eq_false_iff.mpr c4
  subst c4
  have H1 : ((spec_DrawCodeOfPraline.f l0).bind fun bt313 => ((impl_CodeOfPraline.f k bt313.1 bt313.2.1 bt313.2.2.1 bt313.2.2.2).bind fun bt317 => ((spec_CodeOfPraline.f k bt313.1 bt313.2.1 bt313.2.2.1 bt313.2.2.2).bind fun bt321 => ((impl_MostPralines.f k bt313.2.1 bt313.2.2.1).bind fun bt325 => ((spec_MostPralines.f k bt313.2.1 bt313.2.2.1).bind fun bt327 => ((impl_BitterRounds.f k bt313.1 bt313.2.1 bt313.2.2.1).bind fun bt329 => ((spec_BitterRounds.f k bt313.1 bt313.2.1 bt313.2.2.1).bind fun bt331 => (if (bt317.2 != bt321.2) = true then (laws_FnBoxesTasted.j0 k l1 bt313.1 bt313.2.1 bt313.2.2.1 bt313.2.2.2 bt317.1 bt317.2 bt329.1 true) else ((laws_ySame.f k bt317.1 bt321.1).bind fun t333 => (if t333 = true then (if (bt325.2 != bt327.2) = true then (laws_FnBoxesTasted.j0 k l1 bt313.1 bt313.2.1 bt313.2.2.1 bt313.2.2.2 bt317.1 bt317.2 bt329.1 true) else (if bt325.1 = bt327.1 then (if (bt329.2 != bt331.2) = true then (laws_FnBoxesTasted.j0 k l1 bt313.1 bt313.2.1 bt313.2.2.1 bt313.2.2.2 bt317.1 bt317.2 bt329.1 true) else (if bt329.1 = bt331.1 then (if bt317.2 = true then (if bt329.2 = true then (if bt325.2 = true then (if bt313.1 > bt325.1 then (laws_FnBoxesTasted.j0 k l1 bt313.1 bt313.2.1 bt313.2.2.1 bt313.2.2.2 bt317.1 bt317.2 bt329.1 true) else (laws_FnBoxesTasted.j0 k l1 bt313.1 bt313.2.1 bt313.2.2.1 bt313.2.2.2 bt317.1 bt317.2 bt329.1 (decide (bt325.1 < 2)))) else (laws_FnBoxesTasted.j0 k l1 bt313.1 bt313.2.1 bt313.2.2.1 bt313.2.2.2 bt317.1 bt317.2 bt329.1 true)) else (laws_FnBoxesTasted.j0 k l1 bt313.1 bt313.2.1 bt313.2.2.1 bt313.2.2.2 bt317.1 bt317.2 bt329.1 true)) else (if bt329.2 = true then (if bt325.2 = true then (if bt313.1 > bt325.1 then (laws_FnBoxesTasted.j0 k l1 bt313.1 bt313.2.1 bt313.2.2.1 bt313.2.2.2 bt317.1 bt317.2 bt329.1 true) else (laws_FnBoxesTasted.j0 k l1 bt313.1 bt313.2.1 bt313.2.2.1 bt313.2.2.2 bt317.1 bt317.2 bt329.1 (decide (bt325.1 < 2)))) else (laws_FnBoxesTasted.j0 k l1 bt313.1 bt313.2.1 bt313.2.2.1 bt313.2.2.2 bt317.1 bt317.2 bt329.1 true)) else (if bt325.2 = true then (laws_FnBoxesTasted.j0 k l1 bt313.1 bt313.2.1 bt313.2.2.1 bt313.2.2.2 bt317.1 bt317.2 bt329.1 (decide (bt325.1 < 2))) else (laws_FnBoxesTasted.j0 k l1 bt313.1 bt313.2.1 bt313.2.2.1 bt313.2.2.2 bt317.1 bt317.2 bt329.1 false)))) else (laws_FnBoxesTasted.j0 k l1 bt313.1 bt313.2.1 bt313.2.2.1 bt313.2.2.2 bt317.1 bt317.2 bt329.1 true))) else (laws_FnBoxesTasted.j0 k l1 bt313.1 bt313.2.1 bt313.2.2.1 bt313.2.2.2 bt317.1 bt317.2 bt329.1 true))) else (laws_FnBoxesTasted.j0 k l1 bt313.1 bt313.2.1 bt313.2.2.1 bt313.2.2.2 bt317.1 bt317.2 bt329.1 true))))))))))) = some r := by rw [if_neg (show ¬ (false = true) by decide)] at H; exact H
  clear H
  have H := H1
  clear H1
  replace H := Option.bind_eq_some_iff.mp H
  obtain ⟨⟨t313, t314, t315, t316⟩, A50, H⟩ := H
  replace H : ((impl_CodeOfPraline.f k t313 t314 t315 t316).bind fun bt317 => ((spec_CodeOfPraline.f k t313 t314 t315 t316).bind fun bt321 => ((impl_MostPralines.f k t314 t315).bind fun bt325 => ((spec_MostPralines.f k t314 t315).bind fun bt327 => ((impl_BitterRounds.f k t313 t314 t315).bind fun bt329 => ((spec_BitterRounds.f k t313 t314 t315).bind fun bt331 => (if (bt317.2 != bt321.2) = true then (laws_FnBoxesTasted.j0 k l1 t313 t314 t315 t316 bt317.1 bt317.2 bt329.1 true) else ((laws_ySame.f k bt317.1 bt321.1).bind fun t333 => (if t333 = true then (if (bt325.2 != bt327.2) = true then (laws_FnBoxesTasted.j0 k l1 t313 t314 t315 t316 bt317.1 bt317.2 bt329.1 true) else (if bt325.1 = bt327.1 then (if (bt329.2 != bt331.2) = true then (laws_FnBoxesTasted.j0 k l1 t313 t314 t315 t316 bt317.1 bt317.2 bt329.1 true) else (if bt329.1 = bt331.1 then (if bt317.2 = true then (if bt329.2 = true then (if bt325.2 = true then (if t313 > bt325.1 then (laws_FnBoxesTasted.j0 k l1 t313 t314 t315 t316 bt317.1 bt317.2 bt329.1 true) else (laws_FnBoxesTasted.j0 k l1 t313 t314 t315 t316 bt317.1 bt317.2 bt329.1 (decide (bt325.1 < 2)))) else (laws_FnBoxesTasted.j0 k l1 t313 t314 t315 t316 bt317.1 bt317.2 bt329.1 true)) else (laws_FnBoxesTasted.j0 k l1 t313 t314 t315 t316 bt317.1 bt317.2 bt329.1 true)) else (if bt329.2 = true then (if bt325.2 = true then (if t313 > bt325.1 then (laws_FnBoxesTasted.j0 k l1 t313 t314 t315 t316 bt317.1 bt317.2 bt329.1 true) else (laws_FnBoxesTasted.j0 k l1 t313 t314 t315 t316 bt317.1 bt317.2 bt329.1 (decide (bt325.1 < 2)))) else (laws_FnBoxesTasted.j0 k l1 t313 t314 t315 t316 bt317.1 bt317.2 bt329.1 true)) else (if bt325.2 = true then (laws_FnBoxesTasted.j0 k l1 t313 t314 t315 t316 bt317.1 bt317.2 bt329.1 (decide (bt325.1 < 2))) else (laws_FnBoxesTasted.j0 k l1 t313 t314 t315 t316 bt317.1 bt317.2 bt329.1 false)))) else (laws_FnBoxesTasted.j0 k l1 t313 t314 t315 t316 bt317.1 bt317.2 bt329.1 true))) else (laws_FnBoxesTasted.j0 k l1 t313 t314 t315 t316 bt317.1 bt317.2 bt329.1 true))) else (laws_FnBoxesTasted.j0 k l1 t313 t314 t315 t316 bt317.1 bt317.2 bt329.1 true)))))))))) = some r := H
  have A5 := Aside0.mk A50
  clear A50
  replace H := Option.bind_eq_some_iff.mp H
  obtain ⟨⟨t317, t318⟩, A60, H⟩ := H
  replace H : ((spec_CodeOfPraline.f k t313 t314 t315 t316).bind fun bt321 => ((impl_MostPralines.f k t314 t315).bind fun bt325 => ((spec_MostPralines.f k t314 t315).bind fun bt327 => ((impl_BitterRounds.f k t313 t314 t315).bind fun bt329 => ((spec_BitterRounds.f k t313 t314 t315).bind fun bt331 => (if (t318 != bt321.2) = true then (laws_FnBoxesTasted.j0 k l1 t313 t314 t315 t316 t317 t318 bt329.1 true) else ((laws_ySame.f k t317 bt321.1).bind fun t333 => (if t333 = true then (if (bt325.2 != bt327.2) = true then (laws_FnBoxesTasted.j0 k l1 t313 t314 t315 t316 t317 t318 bt329.1 true) else (if bt325.1 = bt327.1 then (if (bt329.2 != bt331.2) = true then (laws_FnBoxesTasted.j0 k l1 t313 t314 t315 t316 t317 t318 bt329.1 true) else (if bt329.1 = bt331.1 then (if t318 = true then (if bt329.2 = true then (if bt325.2 = true then (if t313 > bt325.1 then (laws_FnBoxesTasted.j0 k l1 t313 t314 t315 t316 t317 t318 bt329.1 true) else (laws_FnBoxesTasted.j0 k l1 t313 t314 t315 t316 t317 t318 bt329.1 (decide (bt325.1 < 2)))) else (laws_FnBoxesTasted.j0 k l1 t313 t314 t315 t316 t317 t318 bt329.1 true)) else (laws_FnBoxesTasted.j0 k l1 t313 t314 t315 t316 t317 t318 bt329.1 true)) else (if bt329.2 = true then (if bt325.2 = true then (if t313 > bt325.1 then (laws_FnBoxesTasted.j0 k l1 t313 t314 t315 t316 t317 t318 bt329.1 true) else (laws_FnBoxesTasted.j0 k l1 t313 t314 t315 t316 t317 t318 bt329.1 (decide (bt325.1 < 2)))) else (laws_FnBoxesTasted.j0 k l1 t313 t314 t315 t316 t317 t318 bt329.1 true)) else (if bt325.2 = true then (laws_FnBoxesTasted.j0 k l1 t313 t314 t315 t316 t317 t318 bt329.1 (decide (bt325.1 < 2))) else (laws_FnBoxesTasted.j0 k l1 t313 t314 t315 t316 t317 t318 bt329.1 false)))) else (laws_FnBoxesTasted.j0 k l1 t313 t314 t315 t316 t317 t318 bt329.1 true))) else (laws_FnBoxesTasted.j0 k l1 t313 t314 t315 t316 t317 t318 bt329.1 true))) else (laws_FnBoxesTasted.j0 k l1 t313 t314 t315 t316 t317 t318 bt329.1 true))))))))) = some r := H
  have A6 := Aside0.mk A60
  clear A60
  replace H := Option.bind_eq_some_iff.mp H
  obtain ⟨⟨t321, t322⟩, A70, H⟩ := H
  replace H : ((impl_MostPralines.f k t314 t315).bind fun bt325 => ((spec_MostPralines.f k t314 t315).bind fun bt327 => ((impl_BitterRounds.f k t313 t314 t315).bind fun bt329 => ((spec_BitterRounds.f k t313 t314 t315).bind fun bt331 => (if (t318 != t322) = true then (laws_FnBoxesTasted.j0 k l1 t313 t314 t315 t316 t317 t318 bt329.1 true) else ((laws_ySame.f k t317 t321).bind fun t333 => (if t333 = true then (if (bt325.2 != bt327.2) = true then (laws_FnBoxesTasted.j0 k l1 t313 t314 t315 t316 t317 t318 bt329.1 true) else (if bt325.1 = bt327.1 then (if (bt329.2 != bt331.2) = true then (laws_FnBoxesTasted.j0 k l1 t313 t314 t315 t316 t317 t318 bt329.1 true) else (if bt329.1 = bt331.1 then (if t318 = true then (if bt329.2 = true then (if bt325.2 = true then (if t313 > bt325.1 then (laws_FnBoxesTasted.j0 k l1 t313 t314 t315 t316 t317 t318 bt329.1 true) else (laws_FnBoxesTasted.j0 k l1 t313 t314 t315 t316 t317 t318 bt329.1 (decide (bt325.1 < 2)))) else (laws_FnBoxesTasted.j0 k l1 t313 t314 t315 t316 t317 t318 bt329.1 true)) else (laws_FnBoxesTasted.j0 k l1 t313 t314 t315 t316 t317 t318 bt329.1 true)) else (if bt329.2 = true then (if bt325.2 = true then (if t313 > bt325.1 then (laws_FnBoxesTasted.j0 k l1 t313 t314 t315 t316 t317 t318 bt329.1 true) else (laws_FnBoxesTasted.j0 k l1 t313 t314 t315 t316 t317 t318 bt329.1 (decide (bt325.1 < 2)))) else (laws_FnBoxesTasted.j0 k l1 t313 t314 t315 t316 t317 t318 bt329.1 true)) else (if bt325.2 = true then (laws_FnBoxesTasted.j0 k l1 t313 t314 t315 t316 t317 t318 bt329.1 (decide (bt325.1 < 2))) else (laws_FnBoxesTasted.j0 k l1 t313 t314 t315 t316 t317 t318 bt329.1 false)))) else (laws_FnBoxesTasted.j0 k l1 t313 t314 t315 t316 t317 t318 bt329.1 true))) else (laws_FnBoxesTasted.j0 k l1 t313 t314 t315 t316 t317 t318 bt329.1 true))) else (laws_FnBoxesTasted.j0 k l1 t313 t314 t315 t316 t317 t318 bt329.1 true)))))))) = some r := H
  have A7 := Aside0.mk A70
  clear A70
  replace H := Option.bind_eq_some_iff.mp H
  obtain ⟨⟨t325, t326⟩, A80, H⟩ := H
  replace H : ((spec_MostPralines.f k t314 t315).bind fun bt327 => ((impl_BitterRounds.f k t313 t314 t315).bind fun bt329 => ((spec_BitterRounds.f k t313 t314 t315).bind fun bt331 => (if (t318 != t322) = true then (laws_FnBoxesTasted.j0 k l1 t313 t314 t315 t316 t317 t318 bt329.1 true) else ((laws_ySame.f k t317 t321).bind fun t333 => (if t333 = true then (if (t326 != bt327.2) = true then (laws_FnBoxesTasted.j0 k l1 t313 t314 t315 t316 t317 t318 bt329.1 true) else (if t325 = bt327.1 then (if (bt329.2 != bt331.2) = true then (laws_FnBoxesTasted.j0 k l1 t313 t314 t315 t316 t317 t318 bt329.1 true) else (if bt329.1 = bt331.1 then (if t318 = true then (if bt329.2 = true then (if t326 = true then (if t313 > t325 then (laws_FnBoxesTasted.j0 k l1 t313 t314 t315 t316 t317 t318 bt329.1 true) else (laws_FnBoxesTasted.j0 k l1 t313 t314 t315 t316 t317 t318 bt329.1 (decide (t325 < 2)))) else (laws_FnBoxesTasted.j0 k l1 t313 t314 t315 t316 t317 t318 bt329.1 true)) else (laws_FnBoxesTasted.j0 k l1 t313 t314 t315 t316 t317 t318 bt329.1 true)) else (if bt329.2 = true then (if t326 = true then (if t313 > t325 then (laws_FnBoxesTasted.j0 k l1 t313 t314 t315 t316 t317 t318 bt329.1 true) else (laws_FnBoxesTasted.j0 k l1 t313 t314 t315 t316 t317 t318 bt329.1 (decide (t325 < 2)))) else (laws_FnBoxesTasted.j0 k l1 t313 t314 t315 t316 t317 t318 bt329.1 true)) else (if t326 = true then (laws_FnBoxesTasted.j0 k l1 t313 t314 t315 t316 t317 t318 bt329.1 (decide (t325 < 2))) else (laws_FnBoxesTasted.j0 k l1 t313 t314 t315 t316 t317 t318 bt329.1 false)))) else (laws_FnBoxesTasted.j0 k l1 t313 t314 t315 t316 t317 t318 bt329.1 true))) else (laws_FnBoxesTasted.j0 k l1 t313 t314 t315 t316 t317 t318 bt329.1 true))) else (laws_FnBoxesTasted.j0 k l1 t313 t314 t315 t316 t317 t318 bt329.1 true))))))) = some r := H
  have A8 := Aside0.mk A80
  clear A80
  replace H := Option.bind_eq_some_iff.mp H
  obtain ⟨⟨t327, t328⟩, A90, H⟩ := H
  replace H : ((impl_BitterRounds.f k t313 t314 t315).bind fun bt329 => ((spec_BitterRounds.f k t313 t314 t315).bind fun bt331 => (if (t318 != t322) = true then (laws_FnBoxesTasted.j0 k l1 t313 t314 t315 t316 t317 t318 bt329.1 true) else ((laws_ySame.f k t317 t321).bind fun t333 => (if t333 = true then (if (t326 != t328) = true then (laws_FnBoxesTasted.j0 k l1 t313 t314 t315 t316 t317 t318 bt329.1 true) else (if t325 = t327 then (if (bt329.2 != bt331.2) = true then (laws_FnBoxesTasted.j0 k l1 t313 t314 t315 t316 t317 t318 bt329.1 true) else (if bt329.1 = bt331.1 then (if t318 = true then (if bt329.2 = true then (if t326 = true then (if t313 > t325 then (laws_FnBoxesTasted.j0 k l1 t313 t314 t315 t316 t317 t318 bt329.1 true) else (laws_FnBoxesTasted.j0 k l1 t313 t314 t315 t316 t317 t318 bt329.1 (decide (t325 < 2)))) else (laws_FnBoxesTasted.j0 k l1 t313 t314 t315 t316 t317 t318 bt329.1 true)) else (laws_FnBoxesTasted.j0 k l1 t313 t314 t315 t316 t317 t318 bt329.1 true)) else (if bt329.2 = true then (if t326 = true then (if t313 > t325 then (laws_FnBoxesTasted.j0 k l1 t313 t314 t315 t316 t317 t318 bt329.1 true) else (laws_FnBoxesTasted.j0 k l1 t313 t314 t315 t316 t317 t318 bt329.1 (decide (t325 < 2)))) else (laws_FnBoxesTasted.j0 k l1 t313 t314 t315 t316 t317 t318 bt329.1 true)) else (if t326 = true then (laws_FnBoxesTasted.j0 k l1 t313 t314 t315 t316 t317 t318 bt329.1 (decide (t325 < 2))) else (laws_FnBoxesTasted.j0 k l1 t313 t314 t315 t316 t317 t318 bt329.1 false)))) else (laws_FnBoxesTasted.j0 k l1 t313 t314 t315 t316 t317 t318 bt329.1 true))) else (laws_FnBoxesTasted.j0 k l1 t313 t314 t315 t316 t317 t318 bt329.1 true))) else (laws_FnBoxesTasted.j0 k l1 t313 t314 t315 t316 t317 t318 bt329.1 true)))))) = some r := H
  have A9 := Aside0.mk A90
  clear A90
  replace H := Option.bind_eq_some_iff.mp H
  obtain ⟨⟨t329, t330⟩, A100, H⟩ := H
  replace H : ((spec_BitterRounds.f k t313 t314 t315).bind fun bt331 => (if (t318 != t322) = true then (laws_FnBoxesTasted.j0 k l1 t313 t314 t315 t316 t317 t318 t329 true) else ((laws_ySame.f k t317 t321).bind fun t333 => (if t333 = true then (if (t326 != t328) = true then (laws_FnBoxesTasted.j0 k l1 t313 t314 t315 t316 t317 t318 t329 true) else (if t325 = t327 then (if (t330 != bt331.2) = true then (laws_FnBoxesTasted.j0 k l1 t313 t314 t315 t316 t317 t318 t329 true) else (if t329 = bt331.1 then (if t318 = true then (if t330 = true then (if t326 = true then (if t313 > t325 then (laws_FnBoxesTasted.j0 k l1 t313 t314 t315 t316 t317 t318 t329 true) else (laws_FnBoxesTasted.j0 k l1 t313 t314 t315 t316 t317 t318 t329 (decide (t325 < 2)))) else (laws_FnBoxesTasted.j0 k l1 t313 t314 t315 t316 t317 t318 t329 true)) else (laws_FnBoxesTasted.j0 k l1 t313 t314 t315 t316 t317 t318 t329 true)) else (if t330 = true then (if t326 = true then (if t313 > t325 then (laws_FnBoxesTasted.j0 k l1 t313 t314 t315 t316 t317 t318 t329 true) else (laws_FnBoxesTasted.j0 k l1 t313 t314 t315 t316 t317 t318 t329 (decide (t325 < 2)))) else (laws_FnBoxesTasted.j0 k l1 t313 t314 t315 t316 t317 t318 t329 true)) else (if t326 = true then (laws_FnBoxesTasted.j0 k l1 t313 t314 t315 t316 t317 t318 t329 (decide (t325 < 2))) else (laws_FnBoxesTasted.j0 k l1 t313 t314 t315 t316 t317 t318 t329 false)))) else (laws_FnBoxesTasted.j0 k l1 t313 t314 t315 t316 t317 t318 t329 true))) else (laws_FnBoxesTasted.j0 k l1 t313 t314 t315 t316 t317 t318 t329 true))) else (laws_FnBoxesTasted.j0 k l1 t313 t314 t315 t316 t317 t318 t329 true))))) = some r := H
  have A10 := Aside0.mk A100
  clear A100
  replace H := Option.bind_eq_some_iff.mp H
  obtain ⟨⟨t331, t332⟩, A110, H⟩ := H
  replace H : (if (t318 != t322) = true then (laws_FnBoxesTasted.j0 k l1 t313 t314 t315 t316 t317 t318 t329 true) else ((laws_ySame.f k t317 t321).bind fun t333 => (if t333 = true then (if (t326 != t328) = true then (laws_FnBoxesTasted.j0 k l1 t313 t314 t315 t316 t317 t318 t329 true) else (if t325 = t327 then (if (t330 != t332) = true then (laws_FnBoxesTasted.j0 k l1 t313 t314 t315 t316 t317 t318 t329 true) else (if t329 = t331 then (if t318 = true then (if t330 = true then (if t326 = true then (if t313 > t325 then (laws_FnBoxesTasted.j0 k l1 t313 t314 t315 t316 t317 t318 t329 true) else (laws_FnBoxesTasted.j0 k l1 t313 t314 t315 t316 t317 t318 t329 (decide (t325 < 2)))) else (laws_FnBoxesTasted.j0 k l1 t313 t314 t315 t316 t317 t318 t329 true)) else (laws_FnBoxesTasted.j0 k l1 t313 t314 t315 t316 t317 t318 t329 true)) else (if t330 = true then (if t326 = true then (if t313 > t325 then (laws_FnBoxesTasted.j0 k l1 t313 t314 t315 t316 t317 t318 t329 true) else (laws_FnBoxesTasted.j0 k l1 t313 t314 t315 t316 t317 t318 t329 (decide (t325 < 2)))) else (laws_FnBoxesTasted.j0 k l1 t313 t314 t315 t316 t317 t318 t329 true)) else (if t326 = true then (laws_FnBoxesTasted.j0 k l1 t313 t314 t315 t316 t317 t318 t329 (decide (t325 < 2))) else (laws_FnBoxesTasted.j0 k l1 t313 t314 t315 t316 t317 t318 t329 false)))) else (laws_FnBoxesTasted.j0 k l1 t313 t314 t315 t316 t317 t318 t329 true))) else (laws_FnBoxesTasted.j0 k l1 t313 t314 t315 t316 t317 t318 t329 true))) else (laws_FnBoxesTasted.j0 k l1 t313 t314 t315 t316 t317 t318 t329 true)))) = some r := H
  have A11 := Aside0.mk A110
  clear A110
  have HC12 := Aside0.mk H
  clear H
  go_enter Try.func5, Try.ntmps5
  go_upto_region 10 with (first | (go_at_call 14; (with_reducible refine (laws_big.calls _ _ l0 _ _ l1 false _ ?side1 ?side2 ?side3 ?side4 A3.out).mono ?_); (case side1 => repeat (first | exact HR0.out | (with_reducible refine Kd.C_alloc ?_ _) | (with_reducible refine Kd.C_drewN ?_ _) | (with_reducible refine Kd.C_drew ?_))); (case side2 => exact HC0.out); (case side3 => repeat (first | exact HR1.out | (with_reducible refine Kd.C_alloc ?_ _) | (with_reducible refine Kd.C_drewN ?_ _) | (with_reducible refine Kd.C_drew ?_))); (case side4 => exact HC1.out); rintro e w' ⟨rfl, ⟨nd, rfl⟩⟩; (try first | exact ⟨rfl, _, World.drewN_drewN _ _ _⟩ | exact ⟨rfl, _, Eq.trans (World.drewN_drewN _ _ _) (congrArg (World.drewN _) (Nat.add_assoc _ _ _))⟩)) | (go_at_call 38; (with_reducible refine (spec_DrawCodeOfPraline.calls _ _ l0 t313 t314 t315 t316 _ ?side1 ?side2 A5.out).mono ?_); (case side1 => repeat (first | exact HR0.out | (with_reducible refine Kd.C_alloc ?_ _) | (with_reducible refine Kd.C_drewN ?_ _) | (with_reducible refine Kd.C_drew ?_))); (case side2 => exact HC0.out); rintro e w13 ⟨rfl, hb⟩; have n0_ := Aside0.mk (below_step (Lam.al) hb); clear HB; have HB := n0_; clear n0_; (try clear hb); (try clear hb2); (try clear hk); (try clear hi)) | (go_at_call 39; (with_reducible refine (impl_CodeOfPraline.calls k t313 t314 t315 t316 t317 t318 _ A6.out).mono ?_); rintro e w14 ⟨v319, rfl, ho0, hb⟩; have n0_ := Aside0.mk (Kd.R_lower ho0 (below_size (Lam.al))); have n1_ := Aside0.mk (below_step (Lam.al) hb); clear HB; have HO320 := n0_; have HB := n1_; clear n0_ n1_; (try clear hb); (try clear hb2); (try clear hk); (try clear hi); (try clear ho0)) | (go_at_call 40; (with_reducible refine (spec_CodeOfPraline.calls k t313 t314 t315 t316 t321 t322 _ A7.out).mono ?_); rintro e w15 ⟨v323, rfl, ho0, hb⟩; have n0_ := Aside0.mk (Kd.R_elder' (Lam.rq HO320.out) (Kd.R_base ho0) hb); have n1_ := Aside0.mk (Kd.R_lower (Kd.R_new' ho0 (Kd.R_lt (Lam.rq HO320.out))) (below_size (Lam.al))); have n2_ := Aside0.mk (below_step (Lam.al) hb); clear HO320; clear HB; have HO320 := n0_; have HO324 := n1_; have HB := n2_; clear n0_ n1_ n2_; (try clear hb); (try clear hb2); (try clear hk); (try clear hi); (try clear ho0)) | (go_at_call 41; (with_reducible refine (impl_MostPralines.calls k t314 t315 t325 t326 _ A8.out).mono ?_); rintro e w16 ⟨rfl, hb⟩; have n0_ := Aside0.mk (Kd.R_below (Lam.rq HO320.out) hb); have n1_ := Aside0.mk (Kd.R_below (Lam.rq HO324.out) hb); have n2_ := Aside0.mk (below_step (Lam.al) hb); clear HO320; clear HO324; clear HB; have HO320 := n0_; have HO324 := n1_; have HB := n2_; clear n0_ n1_ n2_; (try clear hb); (try clear hb2); (try clear hk); (try clear hi)) | (go_at_call 42; (with_reducible refine (spec_MostPralines.calls k t314 t315 t327 t328 _ A9.out).mono ?_); rintro e w' ⟨rfl, ⟨nd, rfl⟩⟩; (try first | exact ⟨rfl, _, World.drewN_drewN _ _ _⟩ | exact ⟨rfl, _, Eq.trans (World.drewN_drewN _ _ _) (congrArg (World.drewN _) (Nat.add_assoc _ _ _))⟩)) | (go_at_call 43; (with_reducible refine (impl_BitterRounds.calls k t313 t314 t315 t329 t330 _ A10.out).mono ?_); rintro e w17 ⟨rfl, hb⟩; have n0_ := Aside0.mk (Kd.R_below (Lam.rq HO320.out) hb); have n1_ := Aside0.mk (Kd.R_below (Lam.rq HO324.out) hb); have n2_ := Aside0.mk (below_step (Lam.al) hb); clear HO320; clear HO324; clear HB; have HO320 := n0_; have HO324 := n1_; have HB := n2_; clear n0_ n1_ n2_; (try clear hb); (try clear hb2); (try clear hk); (try clear hi)) | (go_at_call 44; (with_reducible refine (spec_BitterRounds.calls k t313 t314 t315 t331 t332 _ A11.out).mono ?_); rintro e w' ⟨rfl, ⟨nd, rfl⟩⟩; (try first | exact ⟨rfl, _, World.drewN_drewN _ _ _⟩ | exact ⟨rfl, _, Eq.trans (World.drewN_drewN _ _ _) (congrArg (World.drewN _) (Nat.add_assoc _ _ _))⟩)))
  repeat (go_quiet (first | (go_at_call 14; (with_reducible refine (laws_big.calls _ _ l0 _ _ l1 false _ ?side1 ?side2 ?side3 ?side4 A3.out).mono ?_); (case side1 => repeat (first | exact HR0.out | (with_reducible refine Kd.C_alloc ?_ _) | (with_reducible refine Kd.C_drewN ?_ _) | (with_reducible refine Kd.C_drew ?_))); (case side2 => exact HC0.out); (case side3 => repeat (first | exact HR1.out | (with_reducible refine Kd.C_alloc ?_ _) | (with_reducible refine Kd.C_drewN ?_ _) | (with_reducible refine Kd.C_drew ?_))); (case side4 => exact HC1.out); rintro e w' ⟨rfl, ⟨nd, rfl⟩⟩; (try first | exact ⟨rfl, _, World.drewN_drewN _ _ _⟩ | exact ⟨rfl, _, Eq.trans (World.drewN_drewN _ _ _) (congrArg (World.drewN _) (Nat.add_assoc _ _ _))⟩)) | (go_at_call 38; (with_reducible refine (spec_DrawCodeOfPraline.calls _ _ l0 t313 t314 t315 t316 _ ?side1 ?side2 A5.out).mono ?_); (case side1 => repeat (first | exact HR0.out | (with_reducible refine Kd.C_alloc ?_ _) | (with_reducible refine Kd.C_drewN ?_ _) | (with_reducible refine Kd.C_drew ?_))); (case side2 => exact HC0.out); rintro e w13 ⟨rfl, hb⟩; have n0_ := Aside0.mk (below_step (Lam.al) hb); clear HB; have HB := n0_; clear n0_; (try clear hb); (try clear hb2); (try clear hk); (try clear hi)) | (go_at_call 39; (with_reducible refine (impl_CodeOfPraline.calls k t313 t314 t315 t316 t317 t318 _ A6.out).mono ?_); rintro e w14 ⟨v319, rfl, ho0, hb⟩; have n0_ := Aside0.mk (Kd.R_lower ho0 (below_size (Lam.al))); have n1_ := Aside0.mk (below_step (Lam.al) hb); clear HB; have HO320 := n0_; have HB := n1_; clear n0_ n1_; (try clear hb); (try clear hb2); (try clear hk); (try clear hi); (try clear ho0)) | (go_at_call 40; (with_reducible refine (spec_CodeOfPraline.calls k t313 t314 t315 t316 t321 t322 _ A7.out).mono ?_); rintro e w15 ⟨v323, rfl, ho0, hb⟩; have n0_ := Aside0.mk (Kd.R_elder' (Lam.rq HO320.out) (Kd.R_base ho0) hb); have n1_ := Aside0.mk (Kd.R_lower (Kd.R_new' ho0 (Kd.R_lt (Lam.rq HO320.out))) (below_size (Lam.al))); have n2_ := Aside0.mk (below_step (Lam.al) hb); clear HO320; clear HB; have HO320 := n0_; have HO324 := n1_; have HB := n2_; clear n0_ n1_ n2_; (try clear hb); (try clear hb2); (try clear hk); (try clear hi); (try clear ho0)) | (go_at_call 41; (with_reducible refine (impl_MostPralines.calls k t314 t315 t325 t326 _ A8.out).mono ?_); rintro e w16 ⟨rfl, hb⟩; have n0_ := Aside0.mk (Kd.R_below (Lam.rq HO320.out) hb); have n1_ := Aside0.mk (Kd.R_below (Lam.rq HO324.out) hb); have n2_ := Aside0.mk (below_step (Lam.al) hb); clear HO320; clear HO324; clear HB; have HO320 := n0_; have HO324 := n1_; have HB := n2_; clear n0_ n1_ n2_; (try clear hb); (try clear hb2); (try clear hk); (try clear hi)) | (go_at_call 42; (with_reducible refine (spec_MostPralines.calls k t314 t315 t327 t328 _ A9.out).mono ?_); rintro e w' ⟨rfl, ⟨nd, rfl⟩⟩; (try first | exact ⟨rfl, _, World.drewN_drewN _ _ _⟩ | exact ⟨rfl, _, Eq.trans (World.drewN_drewN _ _ _) (congrArg (World.drewN _) (Nat.add_assoc _ _ _))⟩)) | (go_at_call 43; (with_reducible refine (impl_BitterRounds.calls k t313 t314 t315 t329 t330 _ A10.out).mono ?_); rintro e w17 ⟨rfl, hb⟩; have n0_ := Aside0.mk (Kd.R_below (Lam.rq HO320.out) hb); have n1_ := Aside0.mk (Kd.R_below (Lam.rq HO324.out) hb); have n2_ := Aside0.mk (below_step (Lam.al) hb); clear HO320; clear HO324; clear HB; have HO320 := n0_; have HO324 := n1_; have HB := n2_; clear n0_ n1_ n2_; (try clear hb); (try clear hb2); (try clear hk); (try clear hi)) | (go_at_call 44; (with_reducible refine (spec_BitterRounds.calls k t313 t314 t315 t331 t332 _ A11.out).mono ?_); rintro e w' ⟨rfl, ⟨nd, rfl⟩⟩; (try first | exact ⟨rfl, _, World.drewN_drewN _ _ _⟩ | exact ⟨rfl, _, Eq.trans (World.drewN_drewN _ _ _) (congrArg (World.drewN _) (Nat.add_assoc _ _ _))⟩))); go_upto_region 10 with (first | (go_at_call 14; (with_reducible refine (laws_big.calls _ _ l0 _ _ l1 false _ ?side1 ?side2 ?side3 ?side4 A3.out).mono ?_); (case side1 => repeat (first | exact HR0.out | (with_reducible refine Kd.C_alloc ?_ _) | (with_reducible refine Kd.C_drewN ?_ _) | (with_reducible refine Kd.C_drew ?_))); (case side2 => exact HC0.out); (case side3 => repeat (first | exact HR1.out | (with_reducible refine Kd.C_alloc ?_ _) | (with_reducible refine Kd.C_drewN ?_ _) | (with_reducible refine Kd.C_drew ?_))); (case side4 => exact HC1.out); rintro e w' ⟨rfl, ⟨nd, rfl⟩⟩; (try first | exact ⟨rfl, _, World.drewN_drewN _ _ _⟩ | exact ⟨rfl, _, Eq.trans (World.drewN_drewN _ _ _) (congrArg (World.drewN _) (Nat.add_assoc _ _ _))⟩)) | (go_at_call 38; (with_reducible refine (spec_DrawCodeOfPraline.calls _ _ l0 t313 t314 t315 t316 _ ?side1 ?side2 A5.out).mono ?_); (case side1 => repeat (first | exact HR0.out | (with_reducible refine Kd.C_alloc ?_ _) | (with_reducible refine Kd.C_drewN ?_ _) | (with_reducible refine Kd.C_drew ?_))); (case side2 => exact HC0.out); rintro e w13 ⟨rfl, hb⟩; have n0_ := Aside0.mk (below_step (Lam.al) hb); clear HB; have HB := n0_; clear n0_; (try clear hb); (try clear hb2); (try clear hk); (try clear hi)) | (go_at_call 39; (with_reducible refine (impl_CodeOfPraline.calls k t313 t314 t315 t316 t317 t318 _ A6.out).mono ?_); rintro e w14 ⟨v319, rfl, ho0, hb⟩; have n0_ := Aside0.mk (Kd.R_lower ho0 (below_size (Lam.al))); have n1_ := Aside0.mk (below_step (Lam.al) hb); clear HB; have HO320 := n0_; have HB := n1_; clear n0_ n1_; (try clear hb); (try clear hb2); (try clear hk); (try clear hi); (try clear ho0)) | (go_at_call 40; (with_reducible refine (spec_CodeOfPraline.calls k t313 t314 t315 t316 t321 t322 _ A7.out).mono ?_); rintro e w15 ⟨v323, rfl, ho0, hb⟩; have n0_ := Aside0.mk (Kd.R_elder' (Lam.rq HO320.out) (Kd.R_base ho0) hb); have n1_ := Aside0.mk (Kd.R_lower (Kd.R_new' ho0 (Kd.R_lt (Lam.rq HO320.out))) (below_size (Lam.al))); have n2_ := Aside0.mk (below_step (Lam.al) hb); clear HO320; clear HB; have HO320 := n0_; have HO324 := n1_; have HB := n2_; clear n0_ n1_ n2_; (try clear hb); (try clear hb2); (try clear hk); (try clear hi); (try clear ho0)) | (go_at_call 41; (with_reducible refine (impl_MostPralines.calls k t314 t315 t325 t326 _ A8.out).mono ?_); rintro e w16 ⟨rfl, hb⟩; have n0_ := Aside0.mk (Kd.R_below (Lam.rq HO320.out) hb); have n1_ := Aside0.mk (Kd.R_below (Lam.rq HO324.out) hb); have n2_ := Aside0.mk (below_step (Lam.al) hb); clear HO320; clear HO324; clear HB; have HO320 := n0_; have HO324 := n1_; have HB := n2_; clear n0_ n1_ n2_; (try clear hb); (try clear hb2); (try clear hk); (try clear hi)) | (go_at_call 42; (with_reducible refine (spec_MostPralines.calls k t314 t315 t327 t328 _ A9.out).mono ?_); rintro e w' ⟨rfl, ⟨nd, rfl⟩⟩; (try first | exact ⟨rfl, _, World.drewN_drewN _ _ _⟩ | exact ⟨rfl, _, Eq.trans (World.drewN_drewN _ _ _) (congrArg (World.drewN _) (Nat.add_assoc _ _ _))⟩)) | (go_at_call 43; (with_reducible refine (impl_BitterRounds.calls k t313 t314 t315 t329 t330 _ A10.out).mono ?_); rintro e w17 ⟨rfl, hb⟩; have n0_ := Aside0.mk (Kd.R_below (Lam.rq HO320.out) hb); have n1_ := Aside0.mk (Kd.R_below (Lam.rq HO324.out) hb); have n2_ := Aside0.mk (below_step (Lam.al) hb); clear HO320; clear HO324; clear HB; have HO320 := n0_; have HO324 := n1_; have HB := n2_; clear n0_ n1_ n2_; (try clear hb); (try clear hb2); (try clear hk); (try clear hi)) | (go_at_call 44; (with_reducible refine (spec_BitterRounds.calls k t313 t314 t315 t331 t332 _ A11.out).mono ?_); rintro e w' ⟨rfl, ⟨nd, rfl⟩⟩; (try first | exact ⟨rfl, _, World.drewN_drewN _ _ _⟩ | exact ⟨rfl, _, Eq.trans (World.drewN_drewN _ _ _) (congrArg (World.drewN _) (Nat.add_assoc _ _ _))⟩))))
  (try simp only [Act.put, Lam.pa, Lam.pb, Lam.pc])
  refine CutK.wp_cut3 (CutK.rl [71,0,106,1,1,2,22,1,3,0,312,1]) (fun v177 _ _ wc => ∃ (kq : Nat) (x177_11 : Bool), v177 = .bool x177_11 ∧ Aside0 (laws_FnBoxesTasted.j0 kq l1 t313 t314 t315 t316 t317 t318 t329 x177_11 = some r) ∧ Aside0 (kq ≤ k) ∧ Aside0 (Kd.R (Kd.int .i64) 3 wc w.heap.size (fun _ => True) v319 t317) ∧ Aside0 (Below w.heap.size w wc)) ?rest0 ?first0
  case first0 =>
   intro J_ K_ hJ_0 hK_
   dsimp only [CutK.rl, List.replicate, List.cons_append, List.nil_append] at hJ_0
   have H := HC12.out
   clear HC12
   by_cases c18 : (t318 != t322) = true
   ·rw [if_pos c18] at H
    have c18b0 : (t318 != t322) = true := c18
    (try (have c18b1 : decide (t318 = t322) = false := by simpa using c18))
    (try (have c18b2 : (t318 == t322) = false := by simpa using c18))
    (try (have c18b3 : ¬ (t318 = t322) := by simpa using c18))
    clear c18
    (first | rw [c18b0] | (simp only [i64_w, i32_w]; rw [c18b0]) | skip)
    have H' := Aside0.mk H
    clear H
    go_wp2
    repeat (go_quiet (fail); try go_wp2)
    refine Met.intro (hJ_0 _ ?va19 undef undef _ ?kp ?rel)
    case kp => simp only [↓CutK.keep0, ↓CutK.keep1, ↓CutK.keep2, ↓CutK.keep3, ↓CutK.keep4, ↓CutK.keepN, true_and, and_true] <;> exact rfl
    case rel => exact ⟨_, (true), (by first | rfl | (simp; done) | (simp [*]; done)), H', ⟨by first | omega | exact Nat.le_refl _⟩, ⟨by (with_reducible repeat (first | apply Kd.R_alloc | apply Kd.R_drewN | apply Kd.R_drew)); exact Kd.R_mono HO320.out (fun _ hk => trivial)⟩, ⟨Lam.al⟩⟩
   ·rw [if_neg c18] at H
    have c18b0 : (t318 != t322) = false := by simpa using c18
    (try (have c18b1 : decide (t318 = t322) = true := by simpa using c18))
    (try (have c18b2 : (t318 == t322) = true := by simpa using c18))
    clear c18
    (first | rw [c18b0] | (simp only [i64_w, i32_w]; rw [c18b0]) | skip)
    replace H := Option.bind_eq_some_iff.mp H
    obtain ⟨t333, A200, H⟩ := H
    replace H : (if t333 = true then (if (t326 != t328) = true then (laws_FnBoxesTasted.j0 k l1 t313 t314 t315 t316 t317 t318 t329 true) else (if t325 = t327 then (if (t330 != t332) = true then (laws_FnBoxesTasted.j0 k l1 t313 t314 t315 t316 t317 t318 t329 true) else (if t329 = t331 then (if t318 = true then (if t330 = true then (if t326 = true then (if t313 > t325 then (laws_FnBoxesTasted.j0 k l1 t313 t314 t315 t316 t317 t318 t329 true) else (laws_FnBoxesTasted.j0 k l1 t313 t314 t315 t316 t317 t318 t329 (decide (t325 < 2)))) else (laws_FnBoxesTasted.j0 k l1 t313 t314 t315 t316 t317 t318 t329 true)) else (laws_FnBoxesTasted.j0 k l1 t313 t314 t315 t316 t317 t318 t329 true)) else (if t330 = true then (if t326 = true then (if t313 > t325 then (laws_FnBoxesTasted.j0 k l1 t313 t314 t315 t316 t317 t318 t329 true) else (laws_FnBoxesTasted.j0 k l1 t313 t314 t315 t316 t317 t318 t329 (decide (t325 < 2)))) else (laws_FnBoxesTasted.j0 k l1 t313 t314 t315 t316 t317 t318 t329 true)) else (if t326 = true then (laws_FnBoxesTasted.j0 k l1 t313 t314 t315 t316 t317 t318 t329 (decide (t325 < 2))) else (laws_FnBoxesTasted.j0 k l1 t313 t314 t315 t316 t317 t318 t329 false)))) else (laws_FnBoxesTasted.j0 k l1 t313 t314 t315 t316 t317 t318 t329 true))) else (laws_FnBoxesTasted.j0 k l1 t313 t314 t315 t316 t317 t318 t329 true))) else (laws_FnBoxesTasted.j0 k l1 t313 t314 t315 t316 t317 t318 t329 true)) = some r := H
    have A20 := Aside0.mk A200
    clear A200
    by_cases c21 : t333 = true
    ·subst c21
     have H1 : (if (t326 != t328) = true then (laws_FnBoxesTasted.j0 k l1 t313 t314 t315 t316 t317 t318 t329 true) else (if t325 = t327 then (if (t330 != t332) = true then (laws_FnBoxesTasted.j0 k l1 t313 t314 t315 t316 t317 t318 t329 true) else (if t329 = t331 then (if t318 = true then (if t330 = true then (if t326 = true then (if t313 > t325 then (laws_FnBoxesTasted.j0 k l1 t313 t314 t315 t316 t317 t318 t329 true) else (laws_FnBoxesTasted.j0 k l1 t313 t314 t315 t316 t317 t318 t329 (decide (t325 < 2)))) else (laws_FnBoxesTasted.j0 k l1 t313 t314 t315 t316 t317 t318 t329 true)) else (laws_FnBoxesTasted.j0 k l1 t313 t314 t315 t316 t317 t318 t329 true)) else (if t330 = true then (if t326 = true then (if t313 > t325 then (laws_FnBoxesTasted.j0 k l1 t313 t314 t315 t316 t317 t318 t329 true) else (laws_FnBoxesTasted.j0 k l1 t313 t314 t315 t316 t317 t318 t329 (decide (t325 < 2)))) else (laws_FnBoxesTasted.j0 k l1 t313 t314 t315 t316 t317 t318 t329 true)) else (if t326 = true then (laws_FnBoxesTasted.j0 k l1 t313 t314 t315 t316 t317 t318 t329 (decide (t325 < 2))) else (laws_FnBoxesTasted.j0 k l1 t313 t314 t315 t316 t317 t318 t329 false)))) else (laws_FnBoxesTasted.j0 k l1 t313 t314 t315 t316 t317 t318 t329 true))) else (laws_FnBoxesTasted.j0 k l1 t313 t314 t315 t316 t317 t318 t329 true))) = some r := by rw [if_pos rfl] at H; exact H
     clear H
     have H := H1
     clear H1
     by_cases c22 : (t326 != t328) = true
     ·rw [if_pos c22] at H
      have c22b0 : (t326 != t328) = true := c22
      (try (have c22b1 : decide (t326 = t328) = false := by simpa using c22))
      (try (have c22b2 : (t326 == t328) = false := by simpa using c22))
      (try (have c22b3 : ¬ (t326 = t328) := by simpa using c22))
      clear c22
      have H' := Aside0.mk H
      clear H
      obtain ⟨Ao23, co23, eo23⟩ := Kd.R_slice HO320.out
      subst eo23
      obtain ⟨Ao24, co24, eo24⟩ := Kd.R_slice HO324.out
      subst eo24
      go_wp2_with (first | (go_at_call 45; (with_reducible refine (laws_ySame.calls k _ _ t317 _ _ t321 true _ ?side1 ?side2 ?side3 ?side4 A20.out).mono ?_); (case side1 => repeat (first | exact (Kd.R_reads' HO320.out).2.2 | (with_reducible refine Kd.C_alloc ?_ _) | (with_reducible refine Kd.C_drewN ?_ _) | (with_reducible refine Kd.C_drew ?_))); (case side2 => exact (Kd.R_reads' HO320.out).2.1); (case side3 => repeat (first | exact (Kd.R_reads' HO324.out).2.2 | (with_reducible refine Kd.C_alloc ?_ _) | (with_reducible refine Kd.C_drewN ?_ _) | (with_reducible refine Kd.C_drew ?_))); (case side4 => exact (Kd.R_reads' HO324.out).2.1); rintro e w' ⟨rfl, ⟨nd, rfl⟩⟩; (try first | exact ⟨rfl, _, World.drewN_drewN _ _ _⟩ | exact ⟨rfl, _, Eq.trans (World.drewN_drewN _ _ _) (congrArg (World.drewN _) (Nat.add_assoc _ _ _))⟩)))
      repeat (go_quiet (first | (go_at_call 45; (with_reducible refine (laws_ySame.calls k _ _ t317 _ _ t321 true _ ?side1 ?side2 ?side3 ?side4 A20.out).mono ?_); (case side1 => repeat (first | exact (Kd.R_reads' HO320.out).2.2 | (with_reducible refine Kd.C_alloc ?_ _) | (with_reducible refine Kd.C_drewN ?_ _) | (with_reducible refine Kd.C_drew ?_))); (case side2 => exact (Kd.R_reads' HO320.out).2.1); (case side3 => repeat (first | exact (Kd.R_reads' HO324.out).2.2 | (with_reducible refine Kd.C_alloc ?_ _) | (with_reducible refine Kd.C_drewN ?_ _) | (with_reducible refine Kd.C_drew ?_))); (case side4 => exact (Kd.R_reads' HO324.out).2.1); rintro e w' ⟨rfl, ⟨nd, rfl⟩⟩; (try first | exact ⟨rfl, _, World.drewN_drewN _ _ _⟩ | exact ⟨rfl, _, Eq.trans (World.drewN_drewN _ _ _) (congrArg (World.drewN _) (Nat.add_assoc _ _ _))⟩))); try go_wp2_with (first | (go_at_call 45; (with_reducible refine (laws_ySame.calls k _ _ t317 _ _ t321 true _ ?side1 ?side2 ?side3 ?side4 A20.out).mono ?_); (case side1 => repeat (first | exact (Kd.R_reads' HO320.out).2.2 | (with_reducible refine Kd.C_alloc ?_ _) | (with_reducible refine Kd.C_drewN ?_ _) | (with_reducible refine Kd.C_drew ?_))); (case side2 => exact (Kd.R_reads' HO320.out).2.1); (case side3 => repeat (first | exact (Kd.R_reads' HO324.out).2.2 | (with_reducible refine Kd.C_alloc ?_ _) | (with_reducible refine Kd.C_drewN ?_ _) | (with_reducible refine Kd.C_drew ?_))); (case side4 => exact (Kd.R_reads' HO324.out).2.1); rintro e w' ⟨rfl, ⟨nd, rfl⟩⟩; (try first | exact ⟨rfl, _, World.drewN_drewN _ _ _⟩ | exact ⟨rfl, _, Eq.trans (World.drewN_drewN _ _ _) (congrArg (World.drewN _) (Nat.add_assoc _ _ _))⟩))))
      refine Met.intro (hJ_0 _ ?va25 undef undef _ ?kp ?rel)
      case kp => simp only [↓CutK.keep0, ↓CutK.keep1, ↓CutK.keep2, ↓CutK.keep3, ↓CutK.keep4, ↓CutK.keepN, true_and, and_true] <;> exact rfl
      case rel => exact ⟨_, (true), (by first | rfl | (simp; done) | (simp [*]; done)), H', ⟨by first | omega | exact Nat.le_refl _⟩, ⟨by (with_reducible repeat (first | apply Kd.R_alloc | apply Kd.R_drewN | apply Kd.R_drew)); exact Kd.R_mono HO320.out (fun _ hk => trivial)⟩, ⟨Lam.al⟩⟩
     ·rw [if_neg c22] at H
      have c22b0 : (t326 != t328) = false := by simpa using c22
      (try (have c22b1 : decide (t326 = t328) = true := by simpa using c22))
      (try (have c22b2 : (t326 == t328) = true := by simpa using c22))
      clear c22
      by_cases c26 : t325 = t327
      ·rw [if_pos c26] at H
       have c26b0 : (t325 == t327) = true := beq_iff_eq.mpr c26
       have c26b1 : (t325 != t327) = false := bne_eq_false_iff_eq.mpr c26
       clear c26
       by_cases c27 : (t330 != t332) = true
       ·rw [if_pos c27] at H
        have c27b0 : (t330 != t332) = true := c27
        (try (have c27b1 : decide (t330 = t332) = false := by simpa using c27))
        (try (have c27b2 : (t330 == t332) = false := by simpa using c27))
        (try (have c27b3 : ¬ (t330 = t332) := by simpa using c27))
        clear c27
        have H' := Aside0.mk H
        clear H
        obtain ⟨Ao28, co28, eo28⟩ := Kd.R_slice HO320.out
        subst eo28
        obtain ⟨Ao29, co29, eo29⟩ := Kd.R_slice HO324.out
        subst eo29
        go_wp2_with (first | (go_at_call 45; (with_reducible refine (laws_ySame.calls k _ _ t317 _ _ t321 true _ ?side1 ?side2 ?side3 ?side4 A20.out).mono ?_); (case side1 => repeat (first | exact (Kd.R_reads' HO320.out).2.2 | (with_reducible refine Kd.C_alloc ?_ _) | (with_reducible refine Kd.C_drewN ?_ _) | (with_reducible refine Kd.C_drew ?_))); (case side2 => exact (Kd.R_reads' HO320.out).2.1); (case side3 => repeat (first | exact (Kd.R_reads' HO324.out).2.2 | (with_reducible refine Kd.C_alloc ?_ _) | (with_reducible refine Kd.C_drewN ?_ _) | (with_reducible refine Kd.C_drew ?_))); (case side4 => exact (Kd.R_reads' HO324.out).2.1); rintro e w' ⟨rfl, ⟨nd, rfl⟩⟩; (try first | exact ⟨rfl, _, World.drewN_drewN _ _ _⟩ | exact ⟨rfl, _, Eq.trans (World.drewN_drewN _ _ _) (congrArg (World.drewN _) (Nat.add_assoc _ _ _))⟩)))
        repeat (go_quiet (first | (go_at_call 45; (with_reducible refine (laws_ySame.calls k _ _ t317 _ _ t321 true _ ?side1 ?side2 ?side3 ?side4 A20.out).mono ?_); (case side1 => repeat (first | exact (Kd.R_reads' HO320.out).2.2 | (with_reducible refine Kd.C_alloc ?_ _) | (with_reducible refine Kd.C_drewN ?_ _) | (with_reducible refine Kd.C_drew ?_))); (case side2 => exact (Kd.R_reads' HO320.out).2.1); (case side3 => repeat (first | exact (Kd.R_reads' HO324.out).2.2 | (with_reducible refine Kd.C_alloc ?_ _) | (with_reducible refine Kd.C_drewN ?_ _) | (with_reducible refine Kd.C_drew ?_))); (case side4 => exact (Kd.R_reads' HO324.out).2.1); rintro e w' ⟨rfl, ⟨nd, rfl⟩⟩; (try first | exact ⟨rfl, _, World.drewN_drewN _ _ _⟩ | exact ⟨rfl, _, Eq.trans (World.drewN_drewN _ _ _) (congrArg (World.drewN _) (Nat.add_assoc _ _ _))⟩))); try go_wp2_with (first | (go_at_call 45; (with_reducible refine (laws_ySame.calls k _ _ t317 _ _ t321 true _ ?side1 ?side2 ?side3 ?side4 A20.out).mono ?_); (case side1 => repeat (first | exact (Kd.R_reads' HO320.out).2.2 | (with_reducible refine Kd.C_alloc ?_ _) | (with_reducible refine Kd.C_drewN ?_ _) | (with_reducible refine Kd.C_drew ?_))); (case side2 => exact (Kd.R_reads' HO320.out).2.1); (case side3 => repeat (first | exact (Kd.R_reads' HO324.out).2.2 | (with_reducible refine Kd.C_alloc ?_ _) | (with_reducible refine Kd.C_drewN ?_ _) | (with_reducible refine Kd.C_drew ?_))); (case side4 => exact (Kd.R_reads' HO324.out).2.1); rintro e w' ⟨rfl, ⟨nd, rfl⟩⟩; (try first | exact ⟨rfl, _, World.drewN_drewN _ _ _⟩ | exact ⟨rfl, _, Eq.trans (World.drewN_drewN _ _ _) (congrArg (World.drewN _) (Nat.add_assoc _ _ _))⟩))))
        refine Met.intro (hJ_0 _ ?va30 undef undef _ ?kp ?rel)
        case kp => simp only [↓CutK.keep0, ↓CutK.keep1, ↓CutK.keep2, ↓CutK.keep3, ↓CutK.keep4, ↓CutK.keepN, true_and, and_true] <;> exact rfl
        case rel => exact ⟨_, (true), (by first | rfl | (simp; done) | (simp [*]; done)), H', ⟨by first | omega | exact Nat.le_refl _⟩, ⟨by (with_reducible repeat (first | apply Kd.R_alloc | apply Kd.R_drewN | apply Kd.R_drew)); exact Kd.R_mono HO320.out (fun _ hk => trivial)⟩, ⟨Lam.al⟩⟩
       ·rw [if_neg c27] at H
        have c27b0 : (t330 != t332) = false := by simpa using c27
        (try (have c27b1 : decide (t330 = t332) = true := by simpa using c27))
        (try (have c27b2 : (t330 == t332) = true := by simpa using c27))
        clear c27
        by_cases c31 : t329 = t331
        ·rw [if_pos c31] at H
         have c31b0 : (t329 == t331) = true := beq_iff_eq.mpr c31
         have c31b1 : (t329 != t331) = false := bne_eq_false_iff_eq.mpr c31
         clear c31
         by_cases c32 : t318 = true
         ·subst c32
          have H1 : (if t330 = true then (if t326 = true then (if t313 > t325 then (laws_FnBoxesTasted.j0 k l1 t313 t314 t315 t316 t317 true t329 true) else (laws_FnBoxesTasted.j0 k l1 t313 t314 t315 t316 t317 true t329 (decide (t325 < 2)))) else (laws_FnBoxesTasted.j0 k l1 t313 t314 t315 t316 t317 true t329 true)) else (laws_FnBoxesTasted.j0 k l1 t313 t314 t315 t316 t317 true t329 true)) = some r := by rw [if_pos rfl] at H; exact H
          clear H
          have H := H1
          clear H1
          by_cases c33 : t330 = true
          ·subst c33
           have H1 : (if t326 = true then (if t313 > t325 then (laws_FnBoxesTasted.j0 k l1 t313 t314 t315 t316 t317 true t329 true) else (laws_FnBoxesTasted.j0 k l1 t313 t314 t315 t316 t317 true t329 (decide (t325 < 2)))) else (laws_FnBoxesTasted.j0 k l1 t313 t314 t315 t316 t317 true t329 true)) = some r := by rw [if_pos rfl] at H; exact H
           clear H
           have H := H1
           clear H1
           by_cases c34 : t326 = true
           ·subst c34
            have H1 : (if t313 > t325 then (laws_FnBoxesTasted.j0 k l1 t313 t314 t315 t316 t317 true t329 true) else (laws_FnBoxesTasted.j0 k l1 t313 t314 t315 t316 t317 true t329 (decide (t325 < 2)))) = some r := by rw [if_pos rfl] at H; exact H
            clear H
            have H := H1
            clear H1
            by_cases c35 : t313 > t325
            ·rw [if_pos c35] at H
             have c35b0 : decide (t325 < t313) = true := decide_eq_true c35
             clear c35
             have H' := Aside0.mk H
             clear H
             obtain ⟨Ao36, co36, eo36⟩ := Kd.R_slice HO320.out
             subst eo36
             obtain ⟨Ao37, co37, eo37⟩ := Kd.R_slice HO324.out
             subst eo37
             go_wp2_with (first | (go_at_call 45; (with_reducible refine (laws_ySame.calls k _ _ t317 _ _ t321 true _ ?side1 ?side2 ?side3 ?side4 A20.out).mono ?_); (case side1 => repeat (first | exact (Kd.R_reads' HO320.out).2.2 | (with_reducible refine Kd.C_alloc ?_ _) | (with_reducible refine Kd.C_drewN ?_ _) | (with_reducible refine Kd.C_drew ?_))); (case side2 => exact (Kd.R_reads' HO320.out).2.1); (case side3 => repeat (first | exact (Kd.R_reads' HO324.out).2.2 | (with_reducible refine Kd.C_alloc ?_ _) | (with_reducible refine Kd.C_drewN ?_ _) | (with_reducible refine Kd.C_drew ?_))); (case side4 => exact (Kd.R_reads' HO324.out).2.1); rintro e w' ⟨rfl, ⟨nd, rfl⟩⟩; (try first | exact ⟨rfl, _, World.drewN_drewN _ _ _⟩ | exact ⟨rfl, _, Eq.trans (World.drewN_drewN _ _ _) (congrArg (World.drewN _) (Nat.add_assoc _ _ _))⟩)))
             repeat (go_quiet (first | (go_at_call 45; (with_reducible refine (laws_ySame.calls k _ _ t317 _ _ t321 true _ ?side1 ?side2 ?side3 ?side4 A20.out).mono ?_); (case side1 => repeat (first | exact (Kd.R_reads' HO320.out).2.2 | (with_reducible refine Kd.C_alloc ?_ _) | (with_reducible refine Kd.C_drewN ?_ _) | (with_reducible refine Kd.C_drew ?_))); (case side2 => exact (Kd.R_reads' HO320.out).2.1); (case side3 => repeat (first | exact (Kd.R_reads' HO324.out).2.2 | (with_reducible refine Kd.C_alloc ?_ _) | (with_reducible refine Kd.C_drewN ?_ _) | (with_reducible refine Kd.C_drew ?_))); (case side4 => exact (Kd.R_reads' HO324.out).2.1); rintro e w' ⟨rfl, ⟨nd, rfl⟩⟩; (try first | exact ⟨rfl, _, World.drewN_drewN _ _ _⟩ | exact ⟨rfl, _, Eq.trans (World.drewN_drewN _ _ _) (congrArg (World.drewN _) (Nat.add_assoc _ _ _))⟩))); try go_wp2_with (first | (go_at_call 45; (with_reducible refine (laws_ySame.calls k _ _ t317 _ _ t321 true _ ?side1 ?side2 ?side3 ?side4 A20.out).mono ?_); (case side1 => repeat (first | exact (Kd.R_reads' HO320.out).2.2 | (with_reducible refine Kd.C_alloc ?_ _) | (with_reducible refine Kd.C_drewN ?_ _) | (with_reducible refine Kd.C_drew ?_))); (case side2 => exact (Kd.R_reads' HO320.out).2.1); (case side3 => repeat (first | exact (Kd.R_reads' HO324.out).2.2 | (with_reducible refine Kd.C_alloc ?_ _) | (with_reducible refine Kd.C_drewN ?_ _) | (with_reducible refine Kd.C_drew ?_))); (case side4 => exact (Kd.R_reads' HO324.out).2.1); rintro e w' ⟨rfl, ⟨nd, rfl⟩⟩; (try first | exact ⟨rfl, _, World.drewN_drewN _ _ _⟩ | exact ⟨rfl, _, Eq.trans (World.drewN_drewN _ _ _) (congrArg (World.drewN _) (Nat.add_assoc _ _ _))⟩))))
             refine Met.intro (hJ_0 _ ?va38 undef undef _ ?kp ?rel)
             case kp => simp only [↓CutK.keep0, ↓CutK.keep1, ↓CutK.keep2, ↓CutK.keep3, ↓CutK.keep4, ↓CutK.keepN, true_and, and_true] <;> exact rfl
             case rel => exact ⟨_, (true), (by first | rfl | (simp; done) | (simp [*]; done)), H', ⟨by first | omega | exact Nat.le_refl _⟩, ⟨by (with_reducible repeat (first | apply Kd.R_alloc | apply Kd.R_drewN | apply Kd.R_drew)); exact Kd.R_mono HO320.out (fun _ hk => trivial)⟩, ⟨Lam.al⟩⟩
            ·rw [if_neg c35] at H
             have c35b0 : decide (t325 < t313) = false := decide_eq_false c35
             clear c35
             have H' := Aside0.mk H
             clear H
             obtain ⟨Ao39, co39, eo39⟩ := Kd.R_slice HO320.out
             subst eo39
             obtain ⟨Ao40, co40, eo40⟩ := Kd.R_slice HO324.out
             subst eo40
             go_wp2_with (first | (go_at_call 45; (with_reducible refine (laws_ySame.calls k _ _ t317 _ _ t321 true _ ?side1 ?side2 ?side3 ?side4 A20.out).mono ?_); (case side1 => repeat (first | exact (Kd.R_reads' HO320.out).2.2 | (with_reducible refine Kd.C_alloc ?_ _) | (with_reducible refine Kd.C_drewN ?_ _) | (with_reducible refine Kd.C_drew ?_))); (case side2 => exact (Kd.R_reads' HO320.out).2.1); (case side3 => repeat (first | exact (Kd.R_reads' HO324.out).2.2 | (with_reducible refine Kd.C_alloc ?_ _) | (with_reducible refine Kd.C_drewN ?_ _) | (with_reducible refine Kd.C_drew ?_))); (case side4 => exact (Kd.R_reads' HO324.out).2.1); rintro e w' ⟨rfl, ⟨nd, rfl⟩⟩; (try first | exact ⟨rfl, _, World.drewN_drewN _ _ _⟩ | exact ⟨rfl, _, Eq.trans (World.drewN_drewN _ _ _) (congrArg (World.drewN _) (Nat.add_assoc _ _ _))⟩)))
             repeat (go_quiet (first | (go_at_call 45; (with_reducible refine (laws_ySame.calls k _ _ t317 _ _ t321 true _ ?side1 ?side2 ?side3 ?side4 A20.out).mono ?_); (case side1 => repeat (first | exact (Kd.R_reads' HO320.out).2.2 | (with_reducible refine Kd.C_alloc ?_ _) | (with_reducible refine Kd.C_drewN ?_ _) | (with_reducible refine Kd.C_drew ?_))); (case side2 => exact (Kd.R_reads' HO320.out).2.1); (case side3 => repeat (first | exact (Kd.R_reads' HO324.out).2.2 | (with_reducible refine Kd.C_alloc ?_ _) | (with_reducible refine Kd.C_drewN ?_ _) | (with_reducible refine Kd.C_drew ?_))); (case side4 => exact (Kd.R_reads' HO324.out).2.1); rintro e w' ⟨rfl, ⟨nd, rfl⟩⟩; (try first | exact ⟨rfl, _, World.drewN_drewN _ _ _⟩ | exact ⟨rfl, _, Eq.trans (World.drewN_drewN _ _ _) (congrArg (World.drewN _) (Nat.add_assoc _ _ _))⟩))); try go_wp2_with (first | (go_at_call 45; (with_reducible refine (laws_ySame.calls k _ _ t317 _ _ t321 true _ ?side1 ?side2 ?side3 ?side4 A20.out).mono ?_); (case side1 => repeat (first | exact (Kd.R_reads' HO320.out).2.2 | (with_reducible refine Kd.C_alloc ?_ _) | (with_reducible refine Kd.C_drewN ?_ _) | (with_reducible refine Kd.C_drew ?_))); (case side2 => exact (Kd.R_reads' HO320.out).2.1); (case side3 => repeat (first | exact (Kd.R_reads' HO324.out).2.2 | (with_reducible refine Kd.C_alloc ?_ _) | (with_reducible refine Kd.C_drewN ?_ _) | (with_reducible refine Kd.C_drew ?_))); (case side4 => exact (Kd.R_reads' HO324.out).2.1); rintro e w' ⟨rfl, ⟨nd, rfl⟩⟩; (try first | exact ⟨rfl, _, World.drewN_drewN _ _ _⟩ | exact ⟨rfl, _, Eq.trans (World.drewN_drewN _ _ _) (congrArg (World.drewN _) (Nat.add_assoc _ _ _))⟩))))
             refine Met.intro (hJ_0 _ ?va41 undef undef _ ?kp ?rel)
             case kp => simp only [↓CutK.keep0, ↓CutK.keep1, ↓CutK.keep2, ↓CutK.keep3, ↓CutK.keep4, ↓CutK.keepN, true_and, and_true] <;> exact rfl
             case rel => exact ⟨_, (decide (t325 < 2)), (by first | rfl | (simp; done) | (simp [*]; done)), H', ⟨by first | omega | exact Nat.le_refl _⟩, ⟨by (with_reducible repeat (first | apply Kd.R_alloc | apply Kd.R_drewN | apply Kd.R_drew)); exact Kd.R_mono HO320.out (fun _ hk => trivial)⟩, ⟨Lam.al⟩⟩
           ·replace c34 := Bool.eq_false_iff.mpr c34
            subst c34
            have H1 : (laws_FnBoxesTasted.j0 k l1 t313 t314 t315 t316 t317 true t329 true) = some r := by rw [if_neg (show ¬ (false = true) by decide)] at H; exact H
            clear H
            have H := H1
            clear H1
            have H' := Aside0.mk H
            clear H
            obtain ⟨Ao42, co42, eo42⟩ := Kd.R_slice HO320.out
            subst eo42
            obtain ⟨Ao43, co43, eo43⟩ := Kd.R_slice HO324.out
            subst eo43
            go_wp2_with (first | (go_at_call 45; (with_reducible refine (laws_ySame.calls k _ _ t317 _ _ t321 true _ ?side1 ?side2 ?side3 ?side4 A20.out).mono ?_); (case side1 => repeat (first | exact (Kd.R_reads' HO320.out).2.2 | (with_reducible refine Kd.C_alloc ?_ _) | (with_reducible refine Kd.C_drewN ?_ _) | (with_reducible refine Kd.C_drew ?_))); (case side2 => exact (Kd.R_reads' HO320.out).2.1); (case side3 => repeat (first | exact (Kd.R_reads' HO324.out).2.2 | (with_reducible refine Kd.C_alloc ?_ _) | (with_reducible refine Kd.C_drewN ?_ _) | (with_reducible refine Kd.C_drew ?_))); (case side4 => exact (Kd.R_reads' HO324.out).2.1); rintro e w' ⟨rfl, ⟨nd, rfl⟩⟩; (try first | exact ⟨rfl, _, World.drewN_drewN _ _ _⟩ | exact ⟨rfl, _, Eq.trans (World.drewN_drewN _ _ _) (congrArg (World.drewN _) (Nat.add_assoc _ _ _))⟩)))
            repeat (go_quiet (first | (go_at_call 45; (with_reducible refine (laws_ySame.calls k _ _ t317 _ _ t321 true _ ?side1 ?side2 ?side3 ?side4 A20.out).mono ?_); (case side1 => repeat (first | exact (Kd.R_reads' HO320.out).2.2 | (with_reducible refine Kd.C_alloc ?_ _) | (with_reducible refine Kd.C_drewN ?_ _) | (with_reducible refine Kd.C_drew ?_))); (case side2 => exact (Kd.R_reads' HO320.out).2.1); (case side3 => repeat (first | exact (Kd.R_reads' HO324.out).2.2 | (with_reducible refine Kd.C_alloc ?_ _) | (with_reducible refine Kd.C_drewN ?_ _) | (with_reducible refine Kd.C_drew ?_))); (case side4 => exact (Kd.R_reads' HO324.out).2.1); rintro e w' ⟨rfl, ⟨nd, rfl⟩⟩; (try first | exact ⟨rfl, _, World.drewN_drewN _ _ _⟩ | exact ⟨rfl, _, Eq.trans (World.drewN_drewN _ _ _) (congrArg (World.drewN _) (Nat.add_assoc _ _ _))⟩))); try go_wp2_with (first | (go_at_call 45; (with_reducible refine (laws_ySame.calls k _ _ t317 _ _ t321 true _ ?side1 ?side2 ?side3 ?side4 A20.out).mono ?_); (case side1 => repeat (first | exact (Kd.R_reads' HO320.out).2.2 | (with_reducible refine Kd.C_alloc ?_ _) | (with_reducible refine Kd.C_drewN ?_ _) | (with_reducible refine Kd.C_drew ?_))); (case side2 => exact (Kd.R_reads' HO320.out).2.1); (case side3 => repeat (first | exact (Kd.R_reads' HO324.out).2.2 | (with_reducible refine Kd.C_alloc ?_ _) | (with_reducible refine Kd.C_drewN ?_ _) | (with_reducible refine Kd.C_drew ?_))); (case side4 => exact (Kd.R_reads' HO324.out).2.1); rintro e w' ⟨rfl, ⟨nd, rfl⟩⟩; (try first | exact ⟨rfl, _, World.drewN_drewN _ _ _⟩ | exact ⟨rfl, _, Eq.trans (World.drewN_drewN _ _ _) (congrArg (World.drewN _) (Nat.add_assoc _ _ _))⟩))))
            refine Met.intro (hJ_0 _ ?va44 undef undef _ ?kp ?rel)
            case kp => simp only [↓CutK.keep0, ↓CutK.keep1, ↓CutK.keep2, ↓CutK.keep3, ↓CutK.keep4, ↓CutK.keepN, true_and, and_true] <;> exact rfl
            case rel => exact ⟨_, (true), (by first | rfl | (simp; done) | (simp [*]; done)), H', ⟨by first | omega | exact Nat.le_refl _⟩, ⟨by (with_reducible repeat (first | apply Kd.R_alloc | apply Kd.R_drewN | apply Kd.R_drew)); exact Kd.R_mono HO320.out (fun _ hk => trivial)⟩, ⟨Lam.al⟩⟩
          ·replace c33 := Bool.eq_false_iff.mpr c33
           subst c33
           have H1 : (laws_FnBoxesTasted.j0 k l1 t313 t314 t315 t316 t317 true t329 true) = some r := by rw [if_neg (show ¬ (false = true) by decide)] at H; exact H
           clear H
           have H := H1
           clear H1
           have H' := Aside0.mk H
           clear H
           obtain ⟨Ao45, co45, eo45⟩ := Kd.R_slice HO320.out
           subst eo45
           obtain ⟨Ao46, co46, eo46⟩ := Kd.R_slice HO324.out
           subst eo46
           go_wp2_with (first | (go_at_call 45; (with_reducible refine (laws_ySame.calls k _ _ t317 _ _ t321 true _ ?side1 ?side2 ?side3 ?side4 A20.out).mono ?_); (case side1 => repeat (first | exact (Kd.R_reads' HO320.out).2.2 | (with_reducible refine Kd.C_alloc ?_ _) | (with_reducible refine Kd.C_drewN ?_ _) | (with_reducible refine Kd.C_drew ?_))); (case side2 => exact (Kd.R_reads' HO320.out).2.1); (case side3 => repeat (first | exact (Kd.R_reads' HO324.out).2.2 | (with_reducible refine Kd.C_alloc ?_ _) | (with_reducible refine Kd.C_drewN ?_ _) | (with_reducible refine Kd.C_drew ?_))); (case side4 => exact (Kd.R_reads' HO324.out).2.1); rintro e w' ⟨rfl, ⟨nd, rfl⟩⟩; (try first | exact ⟨rfl, _, World.drewN_drewN _ _ _⟩ | exact ⟨rfl, _, Eq.trans (World.drewN_drewN _ _ _) (congrArg (World.drewN _) (Nat.add_assoc _ _ _))⟩)))
           repeat (go_quiet (first | (go_at_call 45; (with_reducible refine (laws_ySame.calls k _ _ t317 _ _ t321 true _ ?side1 ?side2 ?side3 ?side4 A20.out).mono ?_); (case side1 => repeat (first | exact (Kd.R_reads' HO320.out).2.2 | (with_reducible refine Kd.C_alloc ?_ _) | (with_reducible refine Kd.C_drewN ?_ _) | (with_reducible refine Kd.C_drew ?_))); (case side2 => exact (Kd.R_reads' HO320.out).2.1); (case side3 => repeat (first | exact (Kd.R_reads' HO324.out).2.2 | (with_reducible refine Kd.C_alloc ?_ _) | (with_reducible refine Kd.C_drewN ?_ _) | (with_reducible refine Kd.C_drew ?_))); (case side4 => exact (Kd.R_reads' HO324.out).2.1); rintro e w' ⟨rfl, ⟨nd, rfl⟩⟩; (try first | exact ⟨rfl, _, World.drewN_drewN _ _ _⟩ | exact ⟨rfl, _, Eq.trans (World.drewN_drewN _ _ _) (congrArg (World.drewN _) (Nat.add_assoc _ _ _))⟩))); try go_wp2_with (first | (go_at_call 45; (with_reducible refine (laws_ySame.calls k _ _ t317 _ _ t321 true _ ?side1 ?side2 ?side3 ?side4 A20.out).mono ?_); (case side1 => repeat (first | exact (Kd.R_reads' HO320.out).2.2 | (with_reducible refine Kd.C_alloc ?_ _) | (with_reducible refine Kd.C_drewN ?_ _) | (with_reducible refine Kd.C_drew ?_))); (case side2 => exact (Kd.R_reads' HO320.out).2.1); (case side3 => repeat (first | exact (Kd.R_reads' HO324.out).2.2 | (with_reducible refine Kd.C_alloc ?_ _) | (with_reducible refine Kd.C_drewN ?_ _) | (with_reducible refine Kd.C_drew ?_))); (case side4 => exact (Kd.R_reads' HO324.out).2.1); rintro e w' ⟨rfl, ⟨nd, rfl⟩⟩; (try first | exact ⟨rfl, _, World.drewN_drewN _ _ _⟩ | exact ⟨rfl, _, Eq.trans (World.drewN_drewN _ _ _) (congrArg (World.drewN _) (Nat.add_assoc _ _ _))⟩))))
           refine Met.intro (hJ_0 _ ?va47 undef undef _ ?kp ?rel)
           case kp => simp only [↓CutK.keep0, ↓CutK.keep1, ↓CutK.keep2, ↓CutK.keep3, ↓CutK.keep4, ↓CutK.keepN, true_and, and_true] <;> exact rfl
           case rel => exact ⟨_, (true), (by first | rfl | (simp; done) | (simp [*]; done)), H', ⟨by first | omega | exact Nat.le_refl _⟩, ⟨by (with_reducible repeat (first | apply Kd.R_alloc | apply Kd.R_drewN | apply Kd.R_drew)); exact Kd.R_mono HO320.out (fun _ hk => trivial)⟩, ⟨Lam.al⟩⟩
         ·replace c32 := Bool.eq_false_iff.mpr c32
          subst c32
          have H1 : (if t330 = true then (if t326 = true then (if t313 > t325 then (laws_FnBoxesTasted.j0 k l1 t313 t314 t315 t316 t317 false t329 true) else (laws_FnBoxesTasted.j0 k l1 t313 t314 t315 t316 t317 false t329 (decide (t325 < 2)))) else (laws_FnBoxesTasted.j0 k l1 t313 t314 t315 t316 t317 false t329 true)) else (if t326 = true then (laws_FnBoxesTasted.j0 k l1 t313 t314 t315 t316 t317 false t329 (decide (t325 < 2))) else (laws_FnBoxesTasted.j0 k l1 t313 t314 t315 t316 t317 false t329 false))) = some r := by rw [if_neg (show ¬ (false = true) by decide)] at H; exact H
          clear H
          have H := H1
          clear H1
          by_cases c48 : t330 = true
          ·subst c48
           have H1 : (if t326 = true then (if t313 > t325 then (laws_FnBoxesTasted.j0 k l1 t313 t314 t315 t316 t317 false t329 true) else (laws_FnBoxesTasted.j0 k l1 t313 t314 t315 t316 t317 false t329 (decide (t325 < 2)))) else (laws_FnBoxesTasted.j0 k l1 t313 t314 t315 t316 t317 false t329 true)) = some r := by rw [if_pos rfl] at H; exact H
           clear H
           have H := H1
           clear H1
           by_cases c49 : t326 = true
           ·subst c49
            have H1 : (if t313 > t325 then (laws_FnBoxesTasted.j0 k l1 t313 t314 t315 t316 t317 false t329 true) else (laws_FnBoxesTasted.j0 k l1 t313 t314 t315 t316 t317 false t329 (decide (t325 < 2)))) = some r := by rw [if_pos rfl] at H; exact H
            clear H
            have H := H1
            clear H1
            by_cases c50 : t313 > t325
            ·rw [if_pos c50] at H
             have c50b0 : decide (t325 < t313) = true := decide_eq_true c50
             clear c50
             have H' := Aside0.mk H
             clear H
             obtain ⟨Ao51, co51, eo51⟩ := Kd.R_slice HO320.out
             subst eo51
             obtain ⟨Ao52, co52, eo52⟩ := Kd.R_slice HO324.out
             subst eo52
             go_wp2_with (first | (go_at_call 45; (with_reducible refine (laws_ySame.calls k _ _ t317 _ _ t321 true _ ?side1 ?side2 ?side3 ?side4 A20.out).mono ?_); (case side1 => repeat (first | exact (Kd.R_reads' HO320.out).2.2 | (with_reducible refine Kd.C_alloc ?_ _) | (with_reducible refine Kd.C_drewN ?_ _) | (with_reducible refine Kd.C_drew ?_))); (case side2 => exact (Kd.R_reads' HO320.out).2.1); (case side3 => repeat (first | exact (Kd.R_reads' HO324.out).2.2 | (with_reducible refine Kd.C_alloc ?_ _) | (with_reducible refine Kd.C_drewN ?_ _) | (with_reducible refine Kd.C_drew ?_))); (case side4 => exact (Kd.R_reads' HO324.out).2.1); rintro e w' ⟨rfl, ⟨nd, rfl⟩⟩; (try first | exact ⟨rfl, _, World.drewN_drewN _ _ _⟩ | exact ⟨rfl, _, Eq.trans (World.drewN_drewN _ _ _) (congrArg (World.drewN _) (Nat.add_assoc _ _ _))⟩)))
             repeat (go_quiet (first | (go_at_call 45; (with_reducible refine (laws_ySame.calls k _ _ t317 _ _ t321 true _ ?side1 ?side2 ?side3 ?side4 A20.out).mono ?_); (case side1 => repeat (first | exact (Kd.R_reads' HO320.out).2.2 | (with_reducible refine Kd.C_alloc ?_ _) | (with_reducible refine Kd.C_drewN ?_ _) | (with_reducible refine Kd.C_drew ?_))); (case side2 => exact (Kd.R_reads' HO320.out).2.1); (case side3 => repeat (first | exact (Kd.R_reads' HO324.out).2.2 | (with_reducible refine Kd.C_alloc ?_ _) | (with_reducible refine Kd.C_drewN ?_ _) | (with_reducible refine Kd.C_drew ?_))); (case side4 => exact (Kd.R_reads' HO324.out).2.1); rintro e w' ⟨rfl, ⟨nd, rfl⟩⟩; (try first | exact ⟨rfl, _, World.drewN_drewN _ _ _⟩ | exact ⟨rfl, _, Eq.trans (World.drewN_drewN _ _ _) (congrArg (World.drewN _) (Nat.add_assoc _ _ _))⟩))); try go_wp2_with (first | (go_at_call 45; (with_reducible refine (laws_ySame.calls k _ _ t317 _ _ t321 true _ ?side1 ?side2 ?side3 ?side4 A20.out).mono ?_); (case side1 => repeat (first | exact (Kd.R_reads' HO320.out).2.2 | (with_reducible refine Kd.C_alloc ?_ _) | (with_reducible refine Kd.C_drewN ?_ _) | (with_reducible refine Kd.C_drew ?_))); (case side2 => exact (Kd.R_reads' HO320.out).2.1); (case side3 => repeat (first | exact (Kd.R_reads' HO324.out).2.2 | (with_reducible refine Kd.C_alloc ?_ _) | (with_reducible refine Kd.C_drewN ?_ _) | (with_reducible refine Kd.C_drew ?_))); (case side4 => exact (Kd.R_reads' HO324.out).2.1); rintro e w' ⟨rfl, ⟨nd, rfl⟩⟩; (try first | exact ⟨rfl, _, World.drewN_drewN _ _ _⟩ | exact ⟨rfl, _, Eq.trans (World.drewN_drewN _ _ _) (congrArg (World.drewN _) (Nat.add_assoc _ _ _))⟩))))
             refine Met.intro (hJ_0 _ ?va53 undef undef _ ?kp ?rel)
             case kp => simp only [↓CutK.keep0, ↓CutK.keep1, ↓CutK.keep2, ↓CutK.keep3, ↓CutK.keep4, ↓CutK.keepN, true_and, and_true] <;> exact rfl
             case rel => exact ⟨_, (true), (by first | rfl | (simp; done) | (simp [*]; done)), H', ⟨by first | omega | exact Nat.le_refl _⟩, ⟨by (with_reducible repeat (first | apply Kd.R_alloc | apply Kd.R_drewN | apply Kd.R_drew)); exact Kd.R_mono HO320.out (fun _ hk => trivial)⟩, ⟨Lam.al⟩⟩
            ·rw [if_neg c50] at H
             have c50b0 : decide (t325 < t313) = false := decide_eq_false c50
             clear c50
             have H' := Aside0.mk H
             clear H
             obtain ⟨Ao54, co54, eo54⟩ := Kd.R_slice HO320.out
             subst eo54
             obtain ⟨Ao55, co55, eo55⟩ := Kd.R_slice HO324.out
             subst eo55
             go_wp2_with (first | (go_at_call 45; (with_reducible refine (laws_ySame.calls k _ _ t317 _ _ t321 true _ ?side1 ?side2 ?side3 ?side4 A20.out).mono ?_); (case side1 => repeat (first | exact (Kd.R_reads' HO320.out).2.2 | (with_reducible refine Kd.C_alloc ?_ _) | (with_reducible refine Kd.C_drewN ?_ _) | (with_reducible refine Kd.C_drew ?_))); (case side2 => exact (Kd.R_reads' HO320.out).2.1); (case side3 => repeat (first | exact (Kd.R_reads' HO324.out).2.2 | (with_reducible refine Kd.C_alloc ?_ _) | (with_reducible refine Kd.C_drewN ?_ _) | (with_reducible refine Kd.C_drew ?_))); (case side4 => exact (Kd.R_reads' HO324.out).2.1); rintro e w' ⟨rfl, ⟨nd, rfl⟩⟩; (try first | exact ⟨rfl, _, World.drewN_drewN _ _ _⟩ | exact ⟨rfl, _, Eq.trans (World.drewN_drewN _ _ _) (congrArg (World.drewN _) (Nat.add_assoc _ _ _))⟩)))
             repeat (go_quiet (first | (go_at_call 45; (with_reducible refine (laws_ySame.calls k _ _ t317 _ _ t321 true _ ?side1 ?side2 ?side3 ?side4 A20.out).mono ?_); (case side1 => repeat (first | exact (Kd.R_reads' HO320.out).2.2 | (with_reducible refine Kd.C_alloc ?_ _) | (with_reducible refine Kd.C_drewN ?_ _) | (with_reducible refine Kd.C_drew ?_))); (case side2 => exact (Kd.R_reads' HO320.out).2.1); (case side3 => repeat (first | exact (Kd.R_reads' HO324.out).2.2 | (with_reducible refine Kd.C_alloc ?_ _) | (with_reducible refine Kd.C_drewN ?_ _) | (with_reducible refine Kd.C_drew ?_))); (case side4 => exact (Kd.R_reads' HO324.out).2.1); rintro e w' ⟨rfl, ⟨nd, rfl⟩⟩; (try first | exact ⟨rfl, _, World.drewN_drewN _ _ _⟩ | exact ⟨rfl, _, Eq.trans (World.drewN_drewN _ _ _) (congrArg (World.drewN _) (Nat.add_assoc _ _ _))⟩))); try go_wp2_with (first | (go_at_call 45; (with_reducible refine (laws_ySame.calls k _ _ t317 _ _ t321 true _ ?side1 ?side2 ?side3 ?side4 A20.out).mono ?_); (case side1 => repeat (first | exact (Kd.R_reads' HO320.out).2.2 | (with_reducible refine Kd.C_alloc ?_ _) | (with_reducible refine Kd.C_drewN ?_ _) | (with_reducible refine Kd.C_drew ?_))); (case side2 => exact (Kd.R_reads' HO320.out).2.1); (case side3 => repeat (first | exact (Kd.R_reads' HO324.out).2.2 | (with_reducible refine Kd.C_alloc ?_ _) | (with_reducible refine Kd.C_drewN ?_ _) | (with_reducible refine Kd.C_drew ?_))); (case side4 => exact (Kd.R_reads' HO324.out).2.1); rintro e w' ⟨rfl, ⟨nd, rfl⟩⟩; (try first | exact ⟨rfl, _, World.drewN_drewN _ _ _⟩ | exact ⟨rfl, _, Eq.trans (World.drewN_drewN _ _ _) (congrArg (World.drewN _) (Nat.add_assoc _ _ _))⟩))))
             refine Met.intro (hJ_0 _ ?va56 undef undef _ ?kp ?rel)
             case kp => simp only [↓CutK.keep0, ↓CutK.keep1, ↓CutK.keep2, ↓CutK.keep3, ↓CutK.keep4, ↓CutK.keepN, true_and, and_true] <;> exact rfl
             case rel => exact ⟨_, (decide (t325 < 2)), (by first | rfl | (simp; done) | (simp [*]; done)), H', ⟨by first | omega | exact Nat.le_refl _⟩, ⟨by (with_reducible repeat (first | apply Kd.R_alloc | apply Kd.R_drewN | apply Kd.R_drew)); exact Kd.R_mono HO320.out (fun _ hk => trivial)⟩, ⟨Lam.al⟩⟩
           ·replace c49 := Bool.eq_false_iff.mpr c49
            subst c49
            have H1 : (laws_FnBoxesTasted.j0 k l1 t313 t314 t315 t316 t317 false t329 true) = some r := by rw [if_neg (show ¬ (false = true) by decide)] at H; exact H
            clear H
            have H := H1
            clear H1
            have H' := Aside0.mk H
            clear H
            obtain ⟨Ao57, co57, eo57⟩ := Kd.R_slice HO320.out
            subst eo57
            obtain ⟨Ao58, co58, eo58⟩ := Kd.R_slice HO324.out
            subst eo58
            go_wp2_with (first | (go_at_call 45; (with_reducible refine (laws_ySame.calls k _ _ t317 _ _ t321 true _ ?side1 ?side2 ?side3 ?side4 A20.out).mono ?_); (case side1 => repeat (first | exact (Kd.R_reads' HO320.out).2.2 | (with_reducible refine Kd.C_alloc ?_ _) | (with_reducible refine Kd.C_drewN ?_ _) | (with_reducible refine Kd.C_drew ?_))); (case side2 => exact (Kd.R_reads' HO320.out).2.1); (case side3 => repeat (first | exact (Kd.R_reads' HO324.out).2.2 | (with_reducible refine Kd.C_alloc ?_ _) | (with_reducible refine Kd.C_drewN ?_ _) | (with_reducible refine Kd.C_drew ?_))); (case side4 => exact (Kd.R_reads' HO324.out).2.1); rintro e w' ⟨rfl, ⟨nd, rfl⟩⟩; (try first | exact ⟨rfl, _, World.drewN_drewN _ _ _⟩ | exact ⟨rfl, _, Eq.trans (World.drewN_drewN _ _ _) (congrArg (World.drewN _) (Nat.add_assoc _ _ _))⟩)))
            repeat (go_quiet (first | (go_at_call 45; (with_reducible refine (laws_ySame.calls k _ _ t317 _ _ t321 true _ ?side1 ?side2 ?side3 ?side4 A20.out).mono ?_); (case side1 => repeat (first | exact (Kd.R_reads' HO320.out).2.2 | (with_reducible refine Kd.C_alloc ?_ _) | (with_reducible refine Kd.C_drewN ?_ _) | (with_reducible refine Kd.C_drew ?_))); (case side2 => exact (Kd.R_reads' HO320.out).2.1); (case side3 => repeat (first | exact (Kd.R_reads' HO324.out).2.2 | (with_reducible refine Kd.C_alloc ?_ _) | (with_reducible refine Kd.C_drewN ?_ _) | (with_reducible refine Kd.C_drew ?_))); (case side4 => exact (Kd.R_reads' HO324.out).2.1); rintro e w' ⟨rfl, ⟨nd, rfl⟩⟩; (try first | exact ⟨rfl, _, World.drewN_drewN _ _ _⟩ | exact ⟨rfl, _, Eq.trans (World.drewN_drewN _ _ _) (congrArg (World.drewN _) (Nat.add_assoc _ _ _))⟩))); try go_wp2_with (first | (go_at_call 45; (with_reducible refine (laws_ySame.calls k _ _ t317 _ _ t321 true _ ?side1 ?side2 ?side3 ?side4 A20.out).mono ?_); (case side1 => repeat (first | exact (Kd.R_reads' HO320.out).2.2 | (with_reducible refine Kd.C_alloc ?_ _) | (with_reducible refine Kd.C_drewN ?_ _) | (with_reducible refine Kd.C_drew ?_))); (case side2 => exact (Kd.R_reads' HO320.out).2.1); (case side3 => repeat (first | exact (Kd.R_reads' HO324.out).2.2 | (with_reducible refine Kd.C_alloc ?_ _) | (with_reducible refine Kd.C_drewN ?_ _) | (with_reducible refine Kd.C_drew ?_))); (case side4 => exact (Kd.R_reads' HO324.out).2.1); rintro e w' ⟨rfl, ⟨nd, rfl⟩⟩; (try first | exact ⟨rfl, _, World.drewN_drewN _ _ _⟩ | exact ⟨rfl, _, Eq.trans (World.drewN_drewN _ _ _) (congrArg (World.drewN _) (Nat.add_assoc _ _ _))⟩))))
            refine Met.intro (hJ_0 _ ?va59 undef undef _ ?kp ?rel)
            case kp => simp only [↓CutK.keep0, ↓CutK.keep1, ↓CutK.keep2, ↓CutK.keep3, ↓CutK.keep4, ↓CutK.keepN, true_and, and_true] <;> exact rfl
            case rel => exact ⟨_, (true), (by first | rfl | (simp; done) | (simp [*]; done)), H', ⟨by first | omega | exact Nat.le_refl _⟩, ⟨by (with_reducible repeat (first | apply Kd.R_alloc | apply Kd.R_drewN | apply Kd.R_drew)); exact Kd.R_mono HO320.out (fun _ hk => trivial)⟩, ⟨Lam.al⟩⟩
          ·replace c48 := Bool.eq_false_iff.mpr c48
           subst c48
           have H1 : (if t326 = true then (laws_FnBoxesTasted.j0 k l1 t313 t314 t315 t316 t317 false t329 (decide (t325 < 2))) else (laws_FnBoxesTasted.j0 k l1 t313 t314 t315 t316 t317 false t329 false)) = some r := by rw [if_neg (show ¬ (false = true) by decide)] at H; exact H
           clear H
           have H := H1
           clear H1
           by_cases c60 : t326 = true
           ·subst c60
            have H1 : (laws_FnBoxesTasted.j0 k l1 t313 t314 t315 t316 t317 false t329 (decide (t325 < 2))) = some r := by rw [if_pos rfl] at H; exact H
            clear H
            have H := H1
            clear H1
            have H' := Aside0.mk H
            clear H
            obtain ⟨Ao61, co61, eo61⟩ := Kd.R_slice HO320.out
            subst eo61
            obtain ⟨Ao62, co62, eo62⟩ := Kd.R_slice HO324.out
            subst eo62
            go_wp2_with (first | (go_at_call 45; (with_reducible refine (laws_ySame.calls k _ _ t317 _ _ t321 true _ ?side1 ?side2 ?side3 ?side4 A20.out).mono ?_); (case side1 => repeat (first | exact (Kd.R_reads' HO320.out).2.2 | (with_reducible refine Kd.C_alloc ?_ _) | (with_reducible refine Kd.C_drewN ?_ _) | (with_reducible refine Kd.C_drew ?_))); (case side2 => exact (Kd.R_reads' HO320.out).2.1); (case side3 => repeat (first | exact (Kd.R_reads' HO324.out).2.2 | (with_reducible refine Kd.C_alloc ?_ _) | (with_reducible refine Kd.C_drewN ?_ _) | (with_reducible refine Kd.C_drew ?_))); (case side4 => exact (Kd.R_reads' HO324.out).2.1); rintro e w' ⟨rfl, ⟨nd, rfl⟩⟩; (try first | exact ⟨rfl, _, World.drewN_drewN _ _ _⟩ | exact ⟨rfl, _, Eq.trans (World.drewN_drewN _ _ _) (congrArg (World.drewN _) (Nat.add_assoc _ _ _))⟩)))
            repeat (go_quiet (first | (go_at_call 45; (with_reducible refine (laws_ySame.calls k _ _ t317 _ _ t321 true _ ?side1 ?side2 ?side3 ?side4 A20.out).mono ?_); (case side1 => repeat (first | exact (Kd.R_reads' HO320.out).2.2 | (with_reducible refine Kd.C_alloc ?_ _) | (with_reducible refine Kd.C_drewN ?_ _) | (with_reducible refine Kd.C_drew ?_))); (case side2 => exact (Kd.R_reads' HO320.out).2.1); (case side3 => repeat (first | exact (Kd.R_reads' HO324.out).2.2 | (with_reducible refine Kd.C_alloc ?_ _) | (with_reducible refine Kd.C_drewN ?_ _) | (with_reducible refine Kd.C_drew ?_))); (case side4 => exact (Kd.R_reads' HO324.out).2.1); rintro e w' ⟨rfl, ⟨nd, rfl⟩⟩; (try first | exact ⟨rfl, _, World.drewN_drewN _ _ _⟩ | exact ⟨rfl, _, Eq.trans (World.drewN_drewN _ _ _) (congrArg (World.drewN _) (Nat.add_assoc _ _ _))⟩))); try go_wp2_with (first | (go_at_call 45; (with_reducible refine (laws_ySame.calls k _ _ t317 _ _ t321 true _ ?side1 ?side2 ?side3 ?side4 A20.out).mono ?_); (case side1 => repeat (first | exact (Kd.R_reads' HO320.out).2.2 | (with_reducible refine Kd.C_alloc ?_ _) | (with_reducible refine Kd.C_drewN ?_ _) | (with_reducible refine Kd.C_drew ?_))); (case side2 => exact (Kd.R_reads' HO320.out).2.1); (case side3 => repeat (first | exact (Kd.R_reads' HO324.out).2.2 | (with_reducible refine Kd.C_alloc ?_ _) | (with_reducible refine Kd.C_drewN ?_ _) | (with_reducible refine Kd.C_drew ?_))); (case side4 => exact (Kd.R_reads' HO324.out).2.1); rintro e w' ⟨rfl, ⟨nd, rfl⟩⟩; (try first | exact ⟨rfl, _, World.drewN_drewN _ _ _⟩ | exact ⟨rfl, _, Eq.trans (World.drewN_drewN _ _ _) (congrArg (World.drewN _) (Nat.add_assoc _ _ _))⟩))))
            refine Met.intro (hJ_0 _ ?va63 undef undef _ ?kp ?rel)
            case kp => simp only [↓CutK.keep0, ↓CutK.keep1, ↓CutK.keep2, ↓CutK.keep3, ↓CutK.keep4, ↓CutK.keepN, true_and, and_true] <;> exact rfl
            case rel => exact ⟨_, (decide (t325 < 2)), (by first | rfl | (simp; done) | (simp [*]; done)), H', ⟨by first | omega | exact Nat.le_refl _⟩, ⟨by (with_reducible repeat (first | apply Kd.R_alloc | apply Kd.R_drewN | apply Kd.R_drew)); exact Kd.R_mono HO320.out (fun _ hk => trivial)⟩, ⟨Lam.al⟩⟩
           ·replace c60 := Bool.eq_false_iff.mpr c60
            subst c60
            have H1 : (laws_FnBoxesTasted.j0 k l1 t313 t314 t315 t316 t317 false t329 false) = some r := by rw [if_neg (show ¬ (false = true) by decide)] at H; exact H
            clear H
            have H := H1
            clear H1
            have H' := Aside0.mk H
            clear H
            obtain ⟨Ao64, co64, eo64⟩ := Kd.R_slice HO320.out
            subst eo64
            obtain ⟨Ao65, co65, eo65⟩ := Kd.R_slice HO324.out
            subst eo65
            go_wp2_with (first | (go_at_call 45; (with_reducible refine (laws_ySame.calls k _ _ t317 _ _ t321 true _ ?side1 ?side2 ?side3 ?side4 A20.out).mono ?_); (case side1 => repeat (first | exact (Kd.R_reads' HO320.out).2.2 | (with_reducible refine Kd.C_alloc ?_ _) | (with_reducible refine Kd.C_drewN ?_ _) | (with_reducible refine Kd.C_drew ?_))); (case side2 => exact (Kd.R_reads' HO320.out).2.1); (case side3 => repeat (first | exact (Kd.R_reads' HO324.out).2.2 | (with_reducible refine Kd.C_alloc ?_ _) | (with_reducible refine Kd.C_drewN ?_ _) | (with_reducible refine Kd.C_drew ?_))); (case side4 => exact (Kd.R_reads' HO324.out).2.1); rintro e w' ⟨rfl, ⟨nd, rfl⟩⟩; (try first | exact ⟨rfl, _, World.drewN_drewN _ _ _⟩ | exact ⟨rfl, _, Eq.trans (World.drewN_drewN _ _ _) (congrArg (World.drewN _) (Nat.add_assoc _ _ _))⟩)))
            repeat (go_quiet (first | (go_at_call 45; (with_reducible refine (laws_ySame.calls k _ _ t317 _ _ t321 true _ ?side1 ?side2 ?side3 ?side4 A20.out).mono ?_); (case side1 => repeat (first | exact (Kd.R_reads' HO320.out).2.2 | (with_reducible refine Kd.C_alloc ?_ _) | (with_reducible refine Kd.C_drewN ?_ _) | (with_reducible refine Kd.C_drew ?_))); (case side2 => exact (Kd.R_reads' HO320.out).2.1); (case side3 => repeat (first | exact (Kd.R_reads' HO324.out).2.2 | (with_reducible refine Kd.C_alloc ?_ _) | (with_reducible refine Kd.C_drewN ?_ _) | (with_reducible refine Kd.C_drew ?_))); (case side4 => exact (Kd.R_reads' HO324.out).2.1); rintro e w' ⟨rfl, ⟨nd, rfl⟩⟩; (try first | exact ⟨rfl, _, World.drewN_drewN _ _ _⟩ | exact ⟨rfl, _, Eq.trans (World.drewN_drewN _ _ _) (congrArg (World.drewN _) (Nat.add_assoc _ _ _))⟩))); try go_wp2_with (first | (go_at_call 45; (with_reducible refine (laws_ySame.calls k _ _ t317 _ _ t321 true _ ?side1 ?side2 ?side3 ?side4 A20.out).mono ?_); (case side1 => repeat (first | exact (Kd.R_reads' HO320.out).2.2 | (with_reducible refine Kd.C_alloc ?_ _) | (with_reducible refine Kd.C_drewN ?_ _) | (with_reducible refine Kd.C_drew ?_))); (case side2 => exact (Kd.R_reads' HO320.out).2.1); (case side3 => repeat (first | exact (Kd.R_reads' HO324.out).2.2 | (with_reducible refine Kd.C_alloc ?_ _) | (with_reducible refine Kd.C_drewN ?_ _) | (with_reducible refine Kd.C_drew ?_))); (case side4 => exact (Kd.R_reads' HO324.out).2.1); rintro e w' ⟨rfl, ⟨nd, rfl⟩⟩; (try first | exact ⟨rfl, _, World.drewN_drewN _ _ _⟩ | exact ⟨rfl, _, Eq.trans (World.drewN_drewN _ _ _) (congrArg (World.drewN _) (Nat.add_assoc _ _ _))⟩))))
            refine Met.intro (hJ_0 _ ?va66 undef undef _ ?kp ?rel)
            case kp => simp only [↓CutK.keep0, ↓CutK.keep1, ↓CutK.keep2, ↓CutK.keep3, ↓CutK.keep4, ↓CutK.keepN, true_and, and_true] <;> exact rfl
            case rel => exact ⟨_, (false), (by first | rfl | (simp; done) | (simp [*]; done)), H', ⟨by first | omega | exact Nat.le_refl _⟩, ⟨by (with_reducible repeat (first | apply Kd.R_alloc | apply Kd.R_drewN | apply Kd.R_drew)); exact Kd.R_mono HO320.out (fun _ hk => trivial)⟩, ⟨Lam.al⟩⟩
        ·rw [if_neg c31] at H
         have c31b0 : (t329 == t331) = false := beq_eq_false_iff_ne.mpr c31
         have c31b1 : (t329 != t331) = true := bne_iff_ne.mpr c31
         have H' := Aside0.mk H
         clear H
         obtain ⟨Ao67, co67, eo67⟩ := Kd.R_slice HO320.out
         subst eo67
         obtain ⟨Ao68, co68, eo68⟩ := Kd.R_slice HO324.out
         subst eo68
         go_wp2_with (first | (go_at_call 45; (with_reducible refine (laws_ySame.calls k _ _ t317 _ _ t321 true _ ?side1 ?side2 ?side3 ?side4 A20.out).mono ?_); (case side1 => repeat (first | exact (Kd.R_reads' HO320.out).2.2 | (with_reducible refine Kd.C_alloc ?_ _) | (with_reducible refine Kd.C_drewN ?_ _) | (with_reducible refine Kd.C_drew ?_))); (case side2 => exact (Kd.R_reads' HO320.out).2.1); (case side3 => repeat (first | exact (Kd.R_reads' HO324.out).2.2 | (with_reducible refine Kd.C_alloc ?_ _) | (with_reducible refine Kd.C_drewN ?_ _) | (with_reducible refine Kd.C_drew ?_))); (case side4 => exact (Kd.R_reads' HO324.out).2.1); rintro e w' ⟨rfl, ⟨nd, rfl⟩⟩; (try first | exact ⟨rfl, _, World.drewN_drewN _ _ _⟩ | exact ⟨rfl, _, Eq.trans (World.drewN_drewN _ _ _) (congrArg (World.drewN _) (Nat.add_assoc _ _ _))⟩)))
         repeat (go_quiet (first | (go_at_call 45; (with_reducible refine (laws_ySame.calls k _ _ t317 _ _ t321 true _ ?side1 ?side2 ?side3 ?side4 A20.out).mono ?_); (case side1 => repeat (first | exact (Kd.R_reads' HO320.out).2.2 | (with_reducible refine Kd.C_alloc ?_ _) | (with_reducible refine Kd.C_drewN ?_ _) | (with_reducible refine Kd.C_drew ?_))); (case side2 => exact (Kd.R_reads' HO320.out).2.1); (case side3 => repeat (first | exact (Kd.R_reads' HO324.out).2.2 | (with_reducible refine Kd.C_alloc ?_ _) | (with_reducible refine Kd.C_drewN ?_ _) | (with_reducible refine Kd.C_drew ?_))); (case side4 => exact (Kd.R_reads' HO324.out).2.1); rintro e w' ⟨rfl, ⟨nd, rfl⟩⟩; (try first | exact ⟨rfl, _, World.drewN_drewN _ _ _⟩ | exact ⟨rfl, _, Eq.trans (World.drewN_drewN _ _ _) (congrArg (World.drewN _) (Nat.add_assoc _ _ _))⟩))); try go_wp2_with (first | (go_at_call 45; (with_reducible refine (laws_ySame.calls k _ _ t317 _ _ t321 true _ ?side1 ?side2 ?side3 ?side4 A20.out).mono ?_); (case side1 => repeat (first | exact (Kd.R_reads' HO320.out).2.2 | (with_reducible refine Kd.C_alloc ?_ _) | (with_reducible refine Kd.C_drewN ?_ _) | (with_reducible refine Kd.C_drew ?_))); (case side2 => exact (Kd.R_reads' HO320.out).2.1); (case side3 => repeat (first | exact (Kd.R_reads' HO324.out).2.2 | (with_reducible refine Kd.C_alloc ?_ _) | (with_reducible refine Kd.C_drewN ?_ _) | (with_reducible refine Kd.C_drew ?_))); (case side4 => exact (Kd.R_reads' HO324.out).2.1); rintro e w' ⟨rfl, ⟨nd, rfl⟩⟩; (try first | exact ⟨rfl, _, World.drewN_drewN _ _ _⟩ | exact ⟨rfl, _, Eq.trans (World.drewN_drewN _ _ _) (congrArg (World.drewN _) (Nat.add_assoc _ _ _))⟩))))
         refine Met.intro (hJ_0 _ ?va69 undef undef _ ?kp ?rel)
         case kp => simp only [↓CutK.keep0, ↓CutK.keep1, ↓CutK.keep2, ↓CutK.keep3, ↓CutK.keep4, ↓CutK.keepN, true_and, and_true] <;> exact rfl
         case rel => exact ⟨_, (true), (by first | rfl | (simp; done) | (simp [*]; done)), H', ⟨by first | omega | exact Nat.le_refl _⟩, ⟨by (with_reducible repeat (first | apply Kd.R_alloc | apply Kd.R_drewN | apply Kd.R_drew)); exact Kd.R_mono HO320.out (fun _ hk => trivial)⟩, ⟨Lam.al⟩⟩
      ·rw [if_neg c26] at H
       have c26b0 : (t325 == t327) = false := beq_eq_false_iff_ne.mpr c26
       have c26b1 : (t325 != t327) = true := bne_iff_ne.mpr c26
       have H' := Aside0.mk H
       clear H
       obtain ⟨Ao70, co70, eo70⟩ := Kd.R_slice HO320.out
       subst eo70
       obtain ⟨Ao71, co71, eo71⟩ := Kd.R_slice HO324.out
       subst eo71
       go_wp2_with (first | (go_at_call 45; (with_reducible refine (laws_ySame.calls k _ _ t317 _ _ t321 true _ ?side1 ?side2 ?side3 ?side4 A20.out).mono ?_); (case side1 => repeat (first | exact (Kd.R_reads' HO320.out).2.2 | (with_reducible refine Kd.C_alloc ?_ _) | (with_reducible refine Kd.C_drewN ?_ _) | (with_reducible refine Kd.C_drew ?_))); (case side2 => exact (Kd.R_reads' HO320.out).2.1); (case side3 => repeat (first | exact (Kd.R_reads' HO324.out).2.2 | (with_reducible refine Kd.C_alloc ?_ _) | (with_reducible refine Kd.C_drewN ?_ _) | (with_reducible refine Kd.C_drew ?_))); (case side4 => exact (Kd.R_reads' HO324.out).2.1); rintro e w' ⟨rfl, ⟨nd, rfl⟩⟩; (try first | exact ⟨rfl, _, World.drewN_drewN _ _ _⟩ | exact ⟨rfl, _, Eq.trans (World.drewN_drewN _ _ _) (congrArg (World.drewN _) (Nat.add_assoc _ _ _))⟩)))
       repeat (go_quiet (first | (go_at_call 45; (with_reducible refine (laws_ySame.calls k _ _ t317 _ _ t321 true _ ?side1 ?side2 ?side3 ?side4 A20.out).mono ?_); (case side1 => repeat (first | exact (Kd.R_reads' HO320.out).2.2 | (with_reducible refine Kd.C_alloc ?_ _) | (with_reducible refine Kd.C_drewN ?_ _) | (with_reducible refine Kd.C_drew ?_))); (case side2 => exact (Kd.R_reads' HO320.out).2.1); (case side3 => repeat (first | exact (Kd.R_reads' HO324.out).2.2 | (with_reducible refine Kd.C_alloc ?_ _) | (with_reducible refine Kd.C_drewN ?_ _) | (with_reducible refine Kd.C_drew ?_))); (case side4 => exact (Kd.R_reads' HO324.out).2.1); rintro e w' ⟨rfl, ⟨nd, rfl⟩⟩; (try first | exact ⟨rfl, _, World.drewN_drewN _ _ _⟩ | exact ⟨rfl, _, Eq.trans (World.drewN_drewN _ _ _) (congrArg (World.drewN _) (Nat.add_assoc _ _ _))⟩))); try go_wp2_with (first | (go_at_call 45; (with_reducible refine (laws_ySame.calls k _ _ t317 _ _ t321 true _ ?side1 ?side2 ?side3 ?side4 A20.out).mono ?_); (case side1 => repeat (first | exact (Kd.R_reads' HO320.out).2.2 | (with_reducible refine Kd.C_alloc ?_ _) | (with_reducible refine Kd.C_drewN ?_ _) | (with_reducible refine Kd.C_drew ?_))); (case side2 => exact (Kd.R_reads' HO320.out).2.1); (case side3 => repeat (first | exact (Kd.R_reads' HO324.out).2.2 | (with_reducible refine Kd.C_alloc ?_ _) | (with_reducible refine Kd.C_drewN ?_ _) | (with_reducible refine Kd.C_drew ?_))); (case side4 => exact (Kd.R_reads' HO324.out).2.1); rintro e w' ⟨rfl, ⟨nd, rfl⟩⟩; (try first | exact ⟨rfl, _, World.drewN_drewN _ _ _⟩ | exact ⟨rfl, _, Eq.trans (World.drewN_drewN _ _ _) (congrArg (World.drewN _) (Nat.add_assoc _ _ _))⟩))))
       refine Met.intro (hJ_0 _ ?va72 undef undef _ ?kp ?rel)
       case kp => simp only [↓CutK.keep0, ↓CutK.keep1, ↓CutK.keep2, ↓CutK.keep3, ↓CutK.keep4, ↓CutK.keepN, true_and, and_true] <;> exact rfl
       case rel => exact ⟨_, (true), (by first | rfl | (simp; done) | (simp [*]; done)), H', ⟨by first | omega | exact Nat.le_refl _⟩, ⟨by (with_reducible repeat (first | apply Kd.R_alloc | apply Kd.R_drewN | apply Kd.R_drew)); exact Kd.R_mono HO320.out (fun _ hk => trivial)⟩, ⟨Lam.al⟩⟩
    ·replace c21 := Bool.eq_false_iff.mpr c21
     subst c21
     have H1 : (laws_FnBoxesTasted.j0 k l1 t313 t314 t315 t316 t317 t318 t329 true) = some r := by rw [if_neg (show ¬ (false = true) by decide)] at H; exact H
     clear H
     have H := H1
     clear H1
     have H' := Aside0.mk H
     clear H
     obtain ⟨Ao73, co73, eo73⟩ := Kd.R_slice HO320.out
     subst eo73
     obtain ⟨Ao74, co74, eo74⟩ := Kd.R_slice HO324.out
     subst eo74
     go_wp2_with (first | (go_at_call 45; (with_reducible refine (laws_ySame.calls k _ _ t317 _ _ t321 false _ ?side1 ?side2 ?side3 ?side4 A20.out).mono ?_); (case side1 => repeat (first | exact (Kd.R_reads' HO320.out).2.2 | (with_reducible refine Kd.C_alloc ?_ _) | (with_reducible refine Kd.C_drewN ?_ _) | (with_reducible refine Kd.C_drew ?_))); (case side2 => exact (Kd.R_reads' HO320.out).2.1); (case side3 => repeat (first | exact (Kd.R_reads' HO324.out).2.2 | (with_reducible refine Kd.C_alloc ?_ _) | (with_reducible refine Kd.C_drewN ?_ _) | (with_reducible refine Kd.C_drew ?_))); (case side4 => exact (Kd.R_reads' HO324.out).2.1); rintro e w' ⟨rfl, ⟨nd, rfl⟩⟩; (try first | exact ⟨rfl, _, World.drewN_drewN _ _ _⟩ | exact ⟨rfl, _, Eq.trans (World.drewN_drewN _ _ _) (congrArg (World.drewN _) (Nat.add_assoc _ _ _))⟩)))
     repeat (go_quiet (first | (go_at_call 45; (with_reducible refine (laws_ySame.calls k _ _ t317 _ _ t321 false _ ?side1 ?side2 ?side3 ?side4 A20.out).mono ?_); (case side1 => repeat (first | exact (Kd.R_reads' HO320.out).2.2 | (with_reducible refine Kd.C_alloc ?_ _) | (with_reducible refine Kd.C_drewN ?_ _) | (with_reducible refine Kd.C_drew ?_))); (case side2 => exact (Kd.R_reads' HO320.out).2.1); (case side3 => repeat (first | exact (Kd.R_reads' HO324.out).2.2 | (with_reducible refine Kd.C_alloc ?_ _) | (with_reducible refine Kd.C_drewN ?_ _) | (with_reducible refine Kd.C_drew ?_))); (case side4 => exact (Kd.R_reads' HO324.out).2.1); rintro e w' ⟨rfl, ⟨nd, rfl⟩⟩; (try first | exact ⟨rfl, _, World.drewN_drewN _ _ _⟩ | exact ⟨rfl, _, Eq.trans (World.drewN_drewN _ _ _) (congrArg (World.drewN _) (Nat.add_assoc _ _ _))⟩))); try go_wp2_with (first | (go_at_call 45; (with_reducible refine (laws_ySame.calls k _ _ t317 _ _ t321 false _ ?side1 ?side2 ?side3 ?side4 A20.out).mono ?_); (case side1 => repeat (first | exact (Kd.R_reads' HO320.out).2.2 | (with_reducible refine Kd.C_alloc ?_ _) | (with_reducible refine Kd.C_drewN ?_ _) | (with_reducible refine Kd.C_drew ?_))); (case side2 => exact (Kd.R_reads' HO320.out).2.1); (case side3 => repeat (first | exact (Kd.R_reads' HO324.out).2.2 | (with_reducible refine Kd.C_alloc ?_ _) | (with_reducible refine Kd.C_drewN ?_ _) | (with_reducible refine Kd.C_drew ?_))); (case side4 => exact (Kd.R_reads' HO324.out).2.1); rintro e w' ⟨rfl, ⟨nd, rfl⟩⟩; (try first | exact ⟨rfl, _, World.drewN_drewN _ _ _⟩ | exact ⟨rfl, _, Eq.trans (World.drewN_drewN _ _ _) (congrArg (World.drewN _) (Nat.add_assoc _ _ _))⟩))))
     refine Met.intro (hJ_0 _ ?va75 undef undef _ ?kp ?rel)
     case kp => simp only [↓CutK.keep0, ↓CutK.keep1, ↓CutK.keep2, ↓CutK.keep3, ↓CutK.keep4, ↓CutK.keepN, true_and, and_true] <;> exact rfl
     case rel => exact ⟨_, (true), (by first | rfl | (simp; done) | (simp [*]; done)), H', ⟨by first | omega | exact Nat.le_refl _⟩, ⟨by (with_reducible repeat (first | apply Kd.R_alloc | apply Kd.R_drewN | apply Kd.R_drew)); exact Kd.R_mono HO320.out (fun _ hk => trivial)⟩, ⟨Lam.al⟩⟩
  case rest0 =>
   intro v177 _ _ g_ wc hcut
   dsimp only [CutK.rl, List.replicate, List.cons_append, List.nil_append]
   dsimp only [↓CutK.mix0, ↓CutK.mix1, ↓CutK.mix2, ↓CutK.mix3, ↓CutK.mix4, ↓CutK.mixN, Nat.reduceAdd, Nat.zero_add]
   clear HC12
   try clear c1
   try clear c4
   obtain ⟨kq, x177_11, rfl, HA, HJ11, HO_9, HB⟩ := hcut
   cases kq with
   | zero => exact absurd HA.out (by simp [laws_FnBoxesTasted.j0])
   | succ kj11 =>
    have H := HA.out
    clear HA
    simp only [laws_FnBoxesTasted.j0] at H
    by_cases c76 : x177_11 = true
    ·subst c76
     have H1 : (none) = some r := by rw [if_pos rfl] at H; exact H
     clear H
     have H := H1
     clear H1
     exact absurd H (by simp)
    ·replace c76 := Bool.eq_false_iff.mpr c76
     subst c76
     have H1 : (if t318 = true then ((impl_PralineOfCode.f kj11 t313 t314 t315 t317).bind fun bt334 => (if (t317.length : Int) = t314 then (if bt334.2 = true then (laws_FnBoxesTasted.j1 kj11 l1 t313 t314 t315 t316 t317 t329 (bt334.1 != t316)) else (laws_FnBoxesTasted.j1 kj11 l1 t313 t314 t315 t316 t317 t329 true)) else (laws_FnBoxesTasted.j1 kj11 l1 t313 t314 t315 t316 t317 t329 true))) else (laws_FnBoxesTasted.j5 kj11 l1)) = some r := by rw [if_neg (show ¬ (false = true) by decide)] at H; exact H
     clear H
     have H := H1
     clear H1
     have HC77 := Aside0.mk H
     clear H
     go_upto_if 178 with (fail)
     repeat (go_quiet (fail); go_upto_if 178 with (fail))
     refine CutK.wp_cut3 (CutK.rl [4,0,1,1,16,0,8,1,42,0,444,1]) (fun _ _ _ wc => ∃ (kq : Nat), Aside0 (laws_FnBoxesTasted.j5 kq l1 = some r) ∧ Aside0 (kq ≤ kj11) ∧ Aside0 (Below w.heap.size w wc)) ?rest5 ?first5
     case first5 =>
      intro J_ K_ hJ_5 hK_
      dsimp only [CutK.rl, List.replicate, List.cons_append, List.nil_append] at hJ_5
      have H := HC77.out
      clear HC77
      by_cases c78 : t318 = true
      ·subst c78
       have H1 : ((impl_PralineOfCode.f kj11 t313 t314 t315 t317).bind fun bt334 => (if (t317.length : Int) = t314 then (if bt334.2 = true then (laws_FnBoxesTasted.j1 kj11 l1 t313 t314 t315 t316 t317 t329 (bt334.1 != t316)) else (laws_FnBoxesTasted.j1 kj11 l1 t313 t314 t315 t316 t317 t329 true)) else (laws_FnBoxesTasted.j1 kj11 l1 t313 t314 t315 t316 t317 t329 true))) = some r := by rw [if_pos rfl] at H; exact H
       clear H
       have H := H1
       clear H1
       replace H := Option.bind_eq_some_iff.mp H
       obtain ⟨⟨t334, t335⟩, A790, H⟩ := H
       replace H : (if (t317.length : Int) = t314 then (if t335 = true then (laws_FnBoxesTasted.j1 kj11 l1 t313 t314 t315 t316 t317 t329 (t334 != t316)) else (laws_FnBoxesTasted.j1 kj11 l1 t313 t314 t315 t316 t317 t329 true)) else (laws_FnBoxesTasted.j1 kj11 l1 t313 t314 t315 t316 t317 t329 true)) = some r := H
       have A79 := Aside0.mk A790
       clear A790
       have HC80 := Aside0.mk H
       clear H
       obtain ⟨Ao81, co81, eo81⟩ := Kd.R_slice HO_9.out
       subst eo81
       go_upto_region 14 with (first | (go_at_call 46; (with_reducible refine (impl_PralineOfCode.calls kj11 t313 t314 t315 _ _ t317 t334 t335 _ ?side1 ?side2 A79.out).mono ?_); (case side1 => repeat (first | exact (Kd.R_reads' HO_9.out).2.2 | (with_reducible refine Kd.C_alloc ?_ _) | (with_reducible refine Kd.C_drewN ?_ _) | (with_reducible refine Kd.C_drew ?_))); (case side2 => exact (Kd.R_reads' HO_9.out).2.1); rintro e w82 ⟨rfl, hb⟩; have n0_ := Aside0.mk (Kd.R_below (Lam.rq HO_9.out) hb); have n1_ := Aside0.mk (below_step (Lam.al) hb); clear HO_9; clear HB; have HO_9 := n0_; have HB := n1_; clear n0_ n1_; (try clear hb); (try clear hb2); (try clear hk); (try clear hi)))
       repeat (go_quiet (first | (go_at_call 46; (with_reducible refine (impl_PralineOfCode.calls kj11 t313 t314 t315 _ _ t317 t334 t335 _ ?side1 ?side2 A79.out).mono ?_); (case side1 => repeat (first | exact (Kd.R_reads' HO_9.out).2.2 | (with_reducible refine Kd.C_alloc ?_ _) | (with_reducible refine Kd.C_drewN ?_ _) | (with_reducible refine Kd.C_drew ?_))); (case side2 => exact (Kd.R_reads' HO_9.out).2.1); rintro e w82 ⟨rfl, hb⟩; have n0_ := Aside0.mk (Kd.R_below (Lam.rq HO_9.out) hb); have n1_ := Aside0.mk (below_step (Lam.al) hb); clear HO_9; clear HB; have HO_9 := n0_; have HB := n1_; clear n0_ n1_; (try clear hb); (try clear hb2); (try clear hk); (try clear hi))); go_upto_region 14 with (first | (go_at_call 46; (with_reducible refine (impl_PralineOfCode.calls kj11 t313 t314 t315 _ _ t317 t334 t335 _ ?side1 ?side2 A79.out).mono ?_); (case side1 => repeat (first | exact (Kd.R_reads' HO_9.out).2.2 | (with_reducible refine Kd.C_alloc ?_ _) | (with_reducible refine Kd.C_drewN ?_ _) | (with_reducible refine Kd.C_drew ?_))); (case side2 => exact (Kd.R_reads' HO_9.out).2.1); rintro e w82 ⟨rfl, hb⟩; have n0_ := Aside0.mk (Kd.R_below (Lam.rq HO_9.out) hb); have n1_ := Aside0.mk (below_step (Lam.al) hb); clear HO_9; clear HB; have HO_9 := n0_; have HB := n1_; clear n0_ n1_; (try clear hb); (try clear hb2); (try clear hk); (try clear hi))))
       (try simp only [Act.put, Lam.pa, Lam.pb, Lam.pc])
       refine CutK.wp_cut3 (CutK.rl [71,0,128,1,1,2,3,0,312,1]) (fun v199 _ _ wc => ∃ (kq : Nat) (x199_79 : Bool), v199 = .bool x199_79 ∧ Aside0 (laws_FnBoxesTasted.j1 kq l1 t313 t314 t315 t316 t317 t329 x199_79 = some r) ∧ Aside0 (kq ≤ kj11) ∧ Aside0 (Kd.R (Kd.int .i64) 3 wc w.heap.size (fun _ => True) (.slice Ao81 t317.length co81) t317) ∧ Aside0 (Below w.heap.size w wc)) ?rest1 ?first1
       case first1 =>
        intro J_ K_ hJ_1 hK_
        dsimp only [CutK.rl, List.replicate, List.cons_append, List.nil_append] at hJ_1
        have H := HC80.out
        clear HC80
        by_cases c83 : (t317.length : Int) = t314
        ·rw [if_pos c83] at H
         have c83b0 : ((t317.length : Int) == t314) = true := beq_iff_eq.mpr c83
         have c83b1 : ((t317.length : Int) != t314) = false := bne_eq_false_iff_eq.mpr c83
         clear c83
         (first | rw [c83b0] | (simp only [i64_w, i32_w]; rw [c83b0]) | skip)
         by_cases c84 : t335 = true
         ·subst c84
          have H1 : (laws_FnBoxesTasted.j1 kj11 l1 t313 t314 t315 t316 t317 t329 (t334 != t316)) = some r := by rw [if_pos rfl] at H; exact H
          clear H
          have H := H1
          clear H1
          have H' := Aside0.mk H
          clear H
          go_wp2
          repeat (go_quiet (fail); try go_wp2)
          refine Met.intro (hJ_1 _ ?va85 undef undef _ ?kp ?rel)
          case kp => simp only [↓CutK.keep0, ↓CutK.keep1, ↓CutK.keep2, ↓CutK.keep3, ↓CutK.keep4, ↓CutK.keepN, true_and, and_true] <;> exact rfl
          case rel => exact ⟨_, ((t334 != t316)), (by first | rfl | (simp; done) | (simp [*]; done)), H', ⟨by have := HJ11.out; first | omega | exact Nat.le_refl _⟩, ⟨Lam.rq HO_9.out⟩, ⟨Lam.al⟩⟩
         ·replace c84 := Bool.eq_false_iff.mpr c84
          subst c84
          have H1 : (laws_FnBoxesTasted.j1 kj11 l1 t313 t314 t315 t316 t317 t329 true) = some r := by rw [if_neg (show ¬ (false = true) by decide)] at H; exact H
          clear H
          have H := H1
          clear H1
          have H' := Aside0.mk H
          clear H
          go_wp2
          repeat (go_quiet (fail); try go_wp2)
          refine Met.intro (hJ_1 _ ?va86 undef undef _ ?kp ?rel)
          case kp => simp only [↓CutK.keep0, ↓CutK.keep1, ↓CutK.keep2, ↓CutK.keep3, ↓CutK.keep4, ↓CutK.keepN, true_and, and_true] <;> exact rfl
          case rel => exact ⟨_, (true), (by first | rfl | (simp; done) | (simp [*]; done)), H', ⟨by have := HJ11.out; first | omega | exact Nat.le_refl _⟩, ⟨Lam.rq HO_9.out⟩, ⟨Lam.al⟩⟩
        ·rw [if_neg c83] at H
         have c83b0 : ((t317.length : Int) == t314) = false := beq_eq_false_iff_ne.mpr c83
         have c83b1 : ((t317.length : Int) != t314) = true := bne_iff_ne.mpr c83
         (first | rw [c83b0] | (simp only [i64_w, i32_w]; rw [c83b0]) | skip)
         have H' := Aside0.mk H
         clear H
         go_wp2
         repeat (go_quiet (fail); try go_wp2)
         refine Met.intro (hJ_1 _ ?va87 undef undef _ ?kp ?rel)
         case kp => simp only [↓CutK.keep0, ↓CutK.keep1, ↓CutK.keep2, ↓CutK.keep3, ↓CutK.keep4, ↓CutK.keepN, true_and, and_true] <;> exact rfl
         case rel => exact ⟨_, (true), (by first | rfl | (simp; done) | (simp [*]; done)), H', ⟨by have := HJ11.out; first | omega | exact Nat.le_refl _⟩, ⟨Lam.rq HO_9.out⟩, ⟨Lam.al⟩⟩
       case rest1 =>
        intro v199 _ _ g_ wc hcut
        dsimp only [CutK.rl, List.replicate, List.cons_append, List.nil_append]
        dsimp only [↓CutK.mix0, ↓CutK.mix1, ↓CutK.mix2, ↓CutK.mix3, ↓CutK.mix4, ↓CutK.mixN, Nat.reduceAdd, Nat.zero_add]
        clear HC80
        try clear c1
        try clear c4
        try clear c76
        try clear c78
        obtain ⟨kq, x199_79, rfl, HA, HJ79, HO_9, HB⟩ := hcut
        cases kq with
        | zero => exact absurd HA.out (by simp [laws_FnBoxesTasted.j1])
        | succ kj79 =>
         have H := HA.out
         clear HA
         simp only [laws_FnBoxesTasted.j1] at H
         by_cases c88 : x199_79 = true
         ·subst c88
          have H1 : (none) = some r := by rw [if_pos rfl] at H; exact H
          clear H
          have H := H1
          clear H1
          exact absurd H (by simp)
         ·replace c88 := Bool.eq_false_iff.mpr c88
          subst c88
          have H1 : (laws_FnBoxesTasted.l0 kj79 l1 t313 t314 t315 t316 t317 t329 t317 (t317.length : Int) 0) = some r := by rw [if_neg (show ¬ (false = true) by decide)] at H; exact H
          clear H
          have H := H1
          clear H1
          have H' := Aside0.mk H
          clear H
          go_wp2
          repeat (go_quiet (fail); try go_wp2)
          go_loopg [202] kj79 (fun kq v202 w' => ∃ (x202_3 : Int), v202 = .int .i64 x202_3 ∧ Aside0 (laws_FnBoxesTasted.l0 kq l1 t313 t314 t315 t316 t317 t329 t317 (t317.length : Int) x202_3 = some r) ∧ Aside0 (kq ≤ kj79) ∧ Aside0 (Kd.R (Kd.int .i64) 3 w' w.heap.size (fun _ => True) (.slice Ao81 t317.length co81) t317) ∧ Aside0 (Kd.R (Kd.int .i64) 3 w' w.heap.size (fun _ => True) (.slice Ao81 t317.length co81) t317) ∧ Aside0 (Below w.heap.size w w'))
          case atStart => exact ⟨(0), (by first | rfl | (simp; done) | (simp [*]; done)), H', ⟨Nat.le_refl _⟩, ⟨Lam.rq HO_9.out⟩, ⟨Lam.rq HO_9.out⟩, ⟨Lam.al⟩⟩
          case round =>
           clear H'
           try clear c1
           try clear c4
           try clear c76
           try clear c78
           try clear c88
           obtain ⟨x202_3, rfl, HA, HK3, HO_9, HO_200, HB⟩ := hrel
           cases gk with
           | zero => exact absurd HA.out (by simp [laws_FnBoxesTasted.l0])
           | succ k3 =>
            have H := HA.out
            clear HA
            simp only [laws_FnBoxesTasted.l0] at H
            by_cases c89 : x202_3 < (t317.length : Int)
            ·rw [if_pos c89] at H
             have c89b0 : decide (x202_3 < (t317.length : Int)) = true := decide_eq_true c89
             clear c89
             by_cases c90 : 0 ≤ x202_3
             ·rw [if_pos c90] at H
              have c90b0 : decide (0 ≤ x202_3) = true := decide_eq_true c90
              clear c90
              by_cases c91 : x202_3 < (t317.length : Int)
              ·rw [if_pos c91] at H
               have c91b0 : decide (x202_3 < (t317.length : Int)) = true := decide_eq_true c91
               clear c91
               have HC92 := Aside0.mk H
               clear H
               have p336 : 0 ≤ (x202_3 : Int) := of_decide_eq_true (by first | (with_reducible assumption) | assumption)
               have q336 : x202_3 < (t317.length : Int) := of_decide_eq_true (by first | (with_reducible assumption) | assumption)
               obtain ⟨ad336, e336, hx336_0⟩ := Kd.at_int (Kd.R_reads' HO_200.out).2.2 x202_3 p336 q336
               cases e336
               replace p336 := eq_true p336
               replace q336 := eq_true q336
               go_upto_region 19 with (fail)
               repeat (go_quiet (fail); go_upto_region 19 with (fail))
               refine CutK.wp_cut3 (CutK.rl [203,0,15,1,1,2,24,1,272,0]) (fun v218 _ _ wc => ∃ (kq : Nat) (x218_91 : Bool), v218 = .bool x218_91 ∧ Aside0 (laws_FnBoxesTasted.j3 kq l1 t313 t314 t315 t316 t317 t329 x202_3 (rd t317 x202_3) t317 (t317.length : Int) x202_3 x218_91 = some r) ∧ Aside0 (kq ≤ k3) ∧ Aside0 (Kd.R (Kd.int .i64) 3 wc w.heap.size (fun _ => True) (.slice (some ad336) t317.length co81) t317) ∧ Aside0 (Kd.R (Kd.int .i64) 3 wc w.heap.size (fun _ => True) (.slice (some ad336) t317.length co81) t317) ∧ Aside0 (Below w.heap.size w wc)) ?rest3 ?first3
               case first3 =>
                intro J_ K_ hJ_3 hK_
                dsimp only [CutK.rl, List.replicate, List.cons_append, List.nil_append] at hJ_3
                have H := HC92.out
                clear HC92
                by_cases c93 : (rd t317 x202_3) < 0
                ·rw [if_pos c93] at H
                 have c93b0 : decide ((rd t317 x202_3) < 0) = true := decide_eq_true c93
                 clear c93
                 (first | rw [c93b0] | (simp only [i64_w, i32_w]; rw [c93b0]) | skip)
                 have H' := Aside0.mk H
                 clear H
                 go_wp2
                 repeat (go_quiet (fail); try go_wp2)
                 refine Met.intro (hJ_3 _ ?va94 undef undef _ ?kp ?rel)
                 case kp => simp only [↓CutK.keep0, ↓CutK.keep1, ↓CutK.keep2, ↓CutK.keep3, ↓CutK.keep4, ↓CutK.keepN, true_and, and_true] <;> exact rfl
                 case rel => exact ⟨_, (true), (by first | rfl | (simp; done) | (simp [*]; done)), H', ⟨by have := HJ11.out; have := HJ79.out; have := HK3.out; first | omega | exact Nat.le_refl _⟩, ⟨Lam.rq HO_9.out⟩, ⟨Lam.rq HO_200.out⟩, ⟨Lam.al⟩⟩
                ·rw [if_neg c93] at H
                 have c93b0 : decide ((rd t317 x202_3) < 0) = false := decide_eq_false c93
                 clear c93
                 (first | rw [c93b0] | (simp only [i64_w, i32_w]; rw [c93b0]) | skip)
                 by_cases c95 : (rd t317 x202_3) > t315
                 ·rw [if_pos c95] at H
                  have c95b0 : decide (t315 < (rd t317 x202_3)) = true := decide_eq_true c95
                  clear c95
                  have H' := Aside0.mk H
                  clear H
                  go_wp2
                  repeat (go_quiet (fail); try go_wp2)
                  refine Met.intro (hJ_3 _ ?va96 undef undef _ ?kp ?rel)
                  case kp => simp only [↓CutK.keep0, ↓CutK.keep1, ↓CutK.keep2, ↓CutK.keep3, ↓CutK.keep4, ↓CutK.keepN, true_and, and_true] <;> exact rfl
                  case rel => exact ⟨_, (true), (by first | rfl | (simp; done) | (simp [*]; done)), H', ⟨by have := HJ11.out; have := HJ79.out; have := HK3.out; first | omega | exact Nat.le_refl _⟩, ⟨Lam.rq HO_9.out⟩, ⟨Lam.rq HO_200.out⟩, ⟨Lam.al⟩⟩
                 ·rw [if_neg c95] at H
                  have c95b0 : decide (t315 < (rd t317 x202_3)) = false := decide_eq_false c95
                  clear c95
                  have H' := Aside0.mk H
                  clear H
                  go_wp2
                  repeat (go_quiet (fail); try go_wp2)
                  refine Met.intro (hJ_3 _ ?va97 undef undef _ ?kp ?rel)
                  case kp => simp only [↓CutK.keep0, ↓CutK.keep1, ↓CutK.keep2, ↓CutK.keep3, ↓CutK.keep4, ↓CutK.keepN, true_and, and_true] <;> exact rfl
                  case rel => exact ⟨_, (decide ((rd t317 x202_3) > t329)), (by first | rfl | (simp; done) | (simp [*]; done)), H', ⟨by have := HJ11.out; have := HJ79.out; have := HK3.out; first | omega | exact Nat.le_refl _⟩, ⟨Lam.rq HO_9.out⟩, ⟨Lam.rq HO_200.out⟩, ⟨Lam.al⟩⟩
               case rest3 =>
                intro v218 _ _ g_ wc hcut
                dsimp only [CutK.rl, List.replicate, List.cons_append, List.nil_append]
                dsimp only [↓CutK.mix0, ↓CutK.mix1, ↓CutK.mix2, ↓CutK.mix3, ↓CutK.mix4, ↓CutK.mixN, Nat.reduceAdd, Nat.zero_add]
                clear HC92
                try clear c1
                try clear c4
                try clear c76
                try clear c78
                try clear c88
                try clear c89
                try clear c89b0
                try clear c90
                try clear c90b0
                try clear c91
                try clear c91b0
                try clear hx336_0
                try clear p336
                try clear q336
                obtain ⟨kq, x218_91, rfl, HA, HJ91, HO_9, HO_200, HB⟩ := hcut
                cases kq with
                | zero => exact absurd HA.out (by simp [laws_FnBoxesTasted.j3])
                | succ kj91 =>
                 have H := HA.out
                 clear HA
                 simp only [laws_FnBoxesTasted.j3] at H
                 by_cases c98 : x218_91 = true
                 ·subst c98
                  have H1 : (none) = some r := by rw [if_pos rfl] at H; exact H
                  clear H
                  have H := H1
                  clear H1
                  exact absurd H (by simp)
                 ·replace c98 := Bool.eq_false_iff.mpr c98
                  subst c98
                  have H1 : (if t313 ≤ 100 then (laws_FnBoxesTasted.j4 kj91 l1 t313 t314 t315 t316 t317 t329 x202_3 (rd t317 x202_3) t317 (t317.length : Int) x202_3 (decide ((rd t317 x202_3) > 0))) else (laws_FnBoxesTasted.j4 kj91 l1 t313 t314 t315 t316 t317 t329 x202_3 (rd t317 x202_3) t317 (t317.length : Int) x202_3 false)) = some r := by rw [if_neg (show ¬ (false = true) by decide)] at H; exact H
                  clear H
                  have H := H1
                  clear H1
                  have HC99 := Aside0.mk H
                  clear H
                  go_upto_region 21 with (fail)
                  repeat (go_quiet (fail); go_upto_region 21 with (fail))
                  refine CutK.wp_cut3 (CutK.rl [203,0,21,1,1,2,18,1,272,0]) (fun v224 _ _ wc => ∃ (kq : Nat) (x224_98 : Bool), v224 = .bool x224_98 ∧ Aside0 (laws_FnBoxesTasted.j4 kq l1 t313 t314 t315 t316 t317 t329 x202_3 (rd t317 x202_3) t317 (t317.length : Int) x202_3 x224_98 = some r) ∧ Aside0 (kq ≤ kj91) ∧ Aside0 (Kd.R (Kd.int .i64) 3 wc w.heap.size (fun _ => True) (.slice (some ad336) t317.length co81) t317) ∧ Aside0 (Kd.R (Kd.int .i64) 3 wc w.heap.size (fun _ => True) (.slice (some ad336) t317.length co81) t317) ∧ Aside0 (Below w.heap.size w wc)) ?rest4 ?first4
                  case first4 =>
                   intro J_ K_ hJ_4 hK_
                   dsimp only [CutK.rl, List.replicate, List.cons_append, List.nil_append] at hJ_4
                   have H := HC99.out
                   clear HC99
                   by_cases c100 : t313 ≤ 100
                   ·rw [if_pos c100] at H
                    have c100b0 : decide (t313 ≤ 100) = true := decide_eq_true c100
                    clear c100
                    (first | rw [c100b0] | (simp only [i64_w, i32_w]; rw [c100b0]) | skip)
                    have H' := Aside0.mk H
                    clear H
                    go_wp2
                    repeat (go_quiet (fail); try go_wp2)
                    refine Met.intro (hJ_4 _ ?va101 undef undef _ ?kp ?rel)
                    case kp => simp only [↓CutK.keep0, ↓CutK.keep1, ↓CutK.keep2, ↓CutK.keep3, ↓CutK.keep4, ↓CutK.keepN, true_and, and_true] <;> exact rfl
                    case rel => exact ⟨_, (decide ((rd t317 x202_3) > 0)), (by first | rfl | (simp; done) | (simp [*]; done)), H', ⟨by have := HJ11.out; have := HJ79.out; have := HK3.out; have := HJ91.out; first | omega | exact Nat.le_refl _⟩, ⟨Lam.rq HO_9.out⟩, ⟨Lam.rq HO_200.out⟩, ⟨Lam.al⟩⟩
                   ·rw [if_neg c100] at H
                    have c100b0 : decide (t313 ≤ 100) = false := decide_eq_false c100
                    clear c100
                    (first | rw [c100b0] | (simp only [i64_w, i32_w]; rw [c100b0]) | skip)
                    have H' := Aside0.mk H
                    clear H
                    go_wp2
                    repeat (go_quiet (fail); try go_wp2)
                    refine Met.intro (hJ_4 _ ?va102 undef undef _ ?kp ?rel)
                    case kp => simp only [↓CutK.keep0, ↓CutK.keep1, ↓CutK.keep2, ↓CutK.keep3, ↓CutK.keep4, ↓CutK.keepN, true_and, and_true] <;> exact rfl
                    case rel => exact ⟨_, (false), (by first | rfl | (simp; done) | (simp [*]; done)), H', ⟨by have := HJ11.out; have := HJ79.out; have := HK3.out; have := HJ91.out; first | omega | exact Nat.le_refl _⟩, ⟨Lam.rq HO_9.out⟩, ⟨Lam.rq HO_200.out⟩, ⟨Lam.al⟩⟩
                  case rest4 =>
                   intro v224 _ _ g_ wc hcut
                   dsimp only [CutK.rl, List.replicate, List.cons_append, List.nil_append]
                   dsimp only [↓CutK.mix0, ↓CutK.mix1, ↓CutK.mix2, ↓CutK.mix3, ↓CutK.mix4, ↓CutK.mixN, Nat.reduceAdd, Nat.zero_add]
                   clear HC99
                   try clear c1
                   try clear c4
                   try clear c76
                   try clear c78
                   try clear c88
                   try clear c89
                   try clear c89b0
                   try clear c90
                   try clear c90b0
                   try clear c91
                   try clear c91b0
                   try clear c98
                   try clear hx336_0
                   try clear p336
                   try clear q336
                   obtain ⟨kq, x224_98, rfl, HA, HJ98, HO_9, HO_200, HB⟩ := hcut
                   cases kq with
                   | zero => exact absurd HA.out (by simp [laws_FnBoxesTasted.j4])
                   | succ kj98 =>
                    have H := HA.out
                    clear HA
                    simp only [laws_FnBoxesTasted.j4] at H
                    by_cases c103 : x224_98 = true
                    ·subst c103
                     have H1 : ((impl_TastedBy.f kj98 t313 t314 t315 x202_3 (rd t317 x202_3)).bind fun bt337 => (if bt337.2 = true then ((laws_yHas.f kj98 bt337.1 t316).bind fun t341 => (if t341 = true then (laws_FnBoxesTasted.l0 kj98 l1 t313 t314 t315 t316 t317 t329 t317 (t317.length : Int) (wrap64 (x202_3 + 1))) else (none))) else (none))) = some r := by rw [if_pos rfl] at H; exact H
                     clear H
                     have H := H1
                     clear H1
                     replace H := Option.bind_eq_some_iff.mp H
                     obtain ⟨⟨t337, t338⟩, A1040, H⟩ := H
                     replace H : (if t338 = true then ((laws_yHas.f kj98 t337 t316).bind fun t341 => (if t341 = true then (laws_FnBoxesTasted.l0 kj98 l1 t313 t314 t315 t316 t317 t329 t317 (t317.length : Int) (wrap64 (x202_3 + 1))) else (none))) else (none)) = some r := H
                     have A104 := Aside0.mk A1040
                     clear A1040
                     by_cases c105 : t338 = true
                     ·subst c105
                      have H1 : ((laws_yHas.f kj98 t337 t316).bind fun t341 => (if t341 = true then (laws_FnBoxesTasted.l0 kj98 l1 t313 t314 t315 t316 t317 t329 t317 (t317.length : Int) (wrap64 (x202_3 + 1))) else (none))) = some r := by rw [if_pos rfl] at H; exact H
                      clear H
                      have H := H1
                      clear H1
                      replace H := Option.bind_eq_some_iff.mp H
                      obtain ⟨t341, A1060, H⟩ := H
                      replace H : (if t341 = true then (laws_FnBoxesTasted.l0 kj98 l1 t313 t314 t315 t316 t317 t329 t317 (t317.length : Int) (wrap64 (x202_3 + 1))) else (none)) = some r := H
                      have A106 := Aside0.mk A1060
                      clear A1060
                      by_cases c107 : t341 = true
                      ·subst c107
                       have H1 : (laws_FnBoxesTasted.l0 kj98 l1 t313 t314 t315 t316 t317 t329 t317 (t317.length : Int) (wrap64 (x202_3 + 1))) = some r := by rw [if_pos rfl] at H; exact H
                       clear H
                       have H := H1
                       clear H1
                       have H' := Aside0.mk H
                       clear H
                       go_wp2_with (first | (go_at_call 47; (with_reducible refine (impl_TastedBy.calls kj98 t313 t314 t315 x202_3 (rd t317 x202_3) t337 true _ A104.out).mono ?_); rintro e w108 ⟨v339, rfl, ho0, hb⟩; have n0_ := Aside0.mk (Kd.R_elder' (Lam.rq HO_9.out) (Kd.R_base ho0) hb); have n1_ := Aside0.mk (Kd.R_elder' (Lam.rq HO_200.out) (Kd.R_base ho0) hb); have n2_ := Aside0.mk (Kd.R_lower (Kd.R_new' (Kd.R_new' ho0 (Kd.R_lt (Lam.rq HO_9.out))) (Kd.R_lt (Lam.rq HO_200.out))) (below_size (Lam.al))); have n3_ := Aside0.mk (below_step (Lam.al) hb); clear HO_9; clear HO_200; clear HB; have HO_9 := n0_; have HO_200 := n1_; have HO340 := n2_; have HB := n3_; clear n0_ n1_ n2_ n3_; (try clear hb); (try clear hb2); (try clear hk); (try clear hi); (try clear ho0); obtain ⟨Ao109, co109, eo109⟩ := Kd.R_slice HO340.out; subst eo109) | (go_at_call 29; (with_reducible refine (laws_yHas.calls kj98 _ _ t337 t316 true _ ?side1 ?side2 A106.out).mono ?_); (case side1 => repeat (first | exact (Kd.R_reads' HO340.out).2.2 | (with_reducible refine Kd.C_alloc ?_ _) | (with_reducible refine Kd.C_drewN ?_ _) | (with_reducible refine Kd.C_drew ?_))); (case side2 => exact (Kd.R_reads' HO340.out).2.1); rintro e w' ⟨rfl, ⟨nd, rfl⟩⟩; (try first | exact ⟨rfl, _, World.drewN_drewN _ _ _⟩ | exact ⟨rfl, _, Eq.trans (World.drewN_drewN _ _ _) (congrArg (World.drewN _) (Nat.add_assoc _ _ _))⟩)))
                       repeat (go_quiet (first | (go_at_call 47; (with_reducible refine (impl_TastedBy.calls kj98 t313 t314 t315 x202_3 (rd t317 x202_3) t337 true _ A104.out).mono ?_); rintro e w108 ⟨v339, rfl, ho0, hb⟩; have n0_ := Aside0.mk (Kd.R_elder' (Lam.rq HO_9.out) (Kd.R_base ho0) hb); have n1_ := Aside0.mk (Kd.R_elder' (Lam.rq HO_200.out) (Kd.R_base ho0) hb); have n2_ := Aside0.mk (Kd.R_lower (Kd.R_new' (Kd.R_new' ho0 (Kd.R_lt (Lam.rq HO_9.out))) (Kd.R_lt (Lam.rq HO_200.out))) (below_size (Lam.al))); have n3_ := Aside0.mk (below_step (Lam.al) hb); clear HO_9; clear HO_200; clear HB; have HO_9 := n0_; have HO_200 := n1_; have HO340 := n2_; have HB := n3_; clear n0_ n1_ n2_ n3_; (try clear hb); (try clear hb2); (try clear hk); (try clear hi); (try clear ho0); obtain ⟨Ao109, co109, eo109⟩ := Kd.R_slice HO340.out; subst eo109) | (go_at_call 29; (with_reducible refine (laws_yHas.calls kj98 _ _ t337 t316 true _ ?side1 ?side2 A106.out).mono ?_); (case side1 => repeat (first | exact (Kd.R_reads' HO340.out).2.2 | (with_reducible refine Kd.C_alloc ?_ _) | (with_reducible refine Kd.C_drewN ?_ _) | (with_reducible refine Kd.C_drew ?_))); (case side2 => exact (Kd.R_reads' HO340.out).2.1); rintro e w' ⟨rfl, ⟨nd, rfl⟩⟩; (try first | exact ⟨rfl, _, World.drewN_drewN _ _ _⟩ | exact ⟨rfl, _, Eq.trans (World.drewN_drewN _ _ _) (congrArg (World.drewN _) (Nat.add_assoc _ _ _))⟩))); try go_wp2_with (first | (go_at_call 47; (with_reducible refine (impl_TastedBy.calls kj98 t313 t314 t315 x202_3 (rd t317 x202_3) t337 true _ A104.out).mono ?_); rintro e w108 ⟨v339, rfl, ho0, hb⟩; have n0_ := Aside0.mk (Kd.R_elder' (Lam.rq HO_9.out) (Kd.R_base ho0) hb); have n1_ := Aside0.mk (Kd.R_elder' (Lam.rq HO_200.out) (Kd.R_base ho0) hb); have n2_ := Aside0.mk (Kd.R_lower (Kd.R_new' (Kd.R_new' ho0 (Kd.R_lt (Lam.rq HO_9.out))) (Kd.R_lt (Lam.rq HO_200.out))) (below_size (Lam.al))); have n3_ := Aside0.mk (below_step (Lam.al) hb); clear HO_9; clear HO_200; clear HB; have HO_9 := n0_; have HO_200 := n1_; have HO340 := n2_; have HB := n3_; clear n0_ n1_ n2_ n3_; (try clear hb); (try clear hb2); (try clear hk); (try clear hi); (try clear ho0); obtain ⟨Ao109, co109, eo109⟩ := Kd.R_slice HO340.out; subst eo109) | (go_at_call 29; (with_reducible refine (laws_yHas.calls kj98 _ _ t337 t316 true _ ?side1 ?side2 A106.out).mono ?_); (case side1 => repeat (first | exact (Kd.R_reads' HO340.out).2.2 | (with_reducible refine Kd.C_alloc ?_ _) | (with_reducible refine Kd.C_drewN ?_ _) | (with_reducible refine Kd.C_drew ?_))); (case side2 => exact (Kd.R_reads' HO340.out).2.1); rintro e w' ⟨rfl, ⟨nd, rfl⟩⟩; (try first | exact ⟨rfl, _, World.drewN_drewN _ _ _⟩ | exact ⟨rfl, _, Eq.trans (World.drewN_drewN _ _ _) (congrArg (World.drewN _) (Nat.add_assoc _ _ _))⟩))))
                       go_roundg kj98
                       case measure => have := HJ11.out; have := HJ79.out; have := HK3.out; have := HJ91.out; have := HJ98.out; omega
                       case rel => exact ⟨(wrap64 (x202_3 + 1)), (by first | rfl | (simp; done) | (simp [*]; done)), H', ⟨by have := HJ11.out; have := HJ79.out; have := HK3.out; have := HJ91.out; have := HJ98.out; omega⟩, ⟨by (with_reducible repeat (first | apply Kd.R_alloc | apply Kd.R_drewN | apply Kd.R_drew)); exact Kd.R_mono HO_9.out (fun _ hk => trivial)⟩, ⟨by (with_reducible repeat (first | apply Kd.R_alloc | apply Kd.R_drewN | apply Kd.R_drew)); exact Kd.R_mono HO_200.out (fun _ hk => trivial)⟩, ⟨Lam.al⟩⟩
                      ·replace c107 := Bool.eq_false_iff.mpr c107
                       subst c107
                       have H1 : (none) = some r := by rw [if_neg (show ¬ (false = true) by decide)] at H; exact H
                       clear H
                       have H := H1
                       clear H1
                       exact absurd H (by simp)
                     ·replace c105 := Bool.eq_false_iff.mpr c105
                      subst c105
                      have H1 : (none) = some r := by rw [if_neg (show ¬ (false = true) by decide)] at H; exact H
                      clear H
                      have H := H1
                      clear H1
                      exact absurd H (by simp)
                    ·replace c103 := Bool.eq_false_iff.mpr c103
                     subst c103
                     have H1 : (laws_FnBoxesTasted.l0 kj98 l1 t313 t314 t315 t316 t317 t329 t317 (t317.length : Int) (wrap64 (x202_3 + 1))) = some r := by rw [if_neg (show ¬ (false = true) by decide)] at H; exact H
                     clear H
                     have H := H1
                     clear H1
                     have H' := Aside0.mk H
                     clear H
                     go_wp2
                     repeat (go_quiet (fail); try go_wp2)
                     go_roundg kj98
                     case measure => have := HJ11.out; have := HJ79.out; have := HK3.out; have := HJ91.out; have := HJ98.out; omega
                     case rel => exact ⟨(wrap64 (x202_3 + 1)), (by first | rfl | (simp; done) | (simp [*]; done)), H', ⟨by have := HJ11.out; have := HJ79.out; have := HK3.out; have := HJ91.out; have := HJ98.out; omega⟩, ⟨Lam.rq HO_9.out⟩, ⟨Lam.rq HO_200.out⟩, ⟨Lam.al⟩⟩
              ·rw [if_neg c91] at H
               exact absurd H (by simp)
             ·rw [if_neg c90] at H
              exact absurd H (by simp)
            ·rw [if_neg c89] at H
             have c89b0 : decide (x202_3 < (t317.length : Int)) = false := decide_eq_false c89
             clear c89
             by_cases c110 : t316 > 0
             ·rw [if_pos c110] at H
              have c110b0 : decide (0 < t316) = true := decide_eq_true c110
              clear c110
              replace H := Option.bind_eq_some_iff.mp H
              obtain ⟨⟨t342, t343⟩, A1110, H⟩ := H
              replace H : (if t343 = true then ((laws_ySame.f k3 t342 t317).bind fun t346 => (if t346 = true then (none) else (laws_FnBoxesTasted.j5 k3 l1))) else (none)) = some r := H
              have A111 := Aside0.mk A1110
              clear A1110
              by_cases c112 : t343 = true
              ·subst c112
               have H1 : ((laws_ySame.f k3 t342 t317).bind fun t346 => (if t346 = true then (none) else (laws_FnBoxesTasted.j5 k3 l1))) = some r := by rw [if_pos rfl] at H; exact H
               clear H
               have H := H1
               clear H1
               replace H := Option.bind_eq_some_iff.mp H
               obtain ⟨t346, A1130, H⟩ := H
               replace H : (if t346 = true then (none) else (laws_FnBoxesTasted.j5 k3 l1)) = some r := H
               have A113 := Aside0.mk A1130
               clear A1130
               by_cases c114 : t346 = true
               ·subst c114
                have H1 : (none) = some r := by rw [if_pos rfl] at H; exact H
                clear H
                have H := H1
                clear H1
                exact absurd H (by simp)
               ·replace c114 := Bool.eq_false_iff.mpr c114
                subst c114
                have H1 : (laws_FnBoxesTasted.j5 k3 l1) = some r := by rw [if_neg (show ¬ (false = true) by decide)] at H; exact H
                clear H
                have H := H1
                clear H1
                have H' := Aside0.mk H
                clear H
                go_wp2_with (first | (go_at_call 39; (with_reducible refine (impl_CodeOfPraline.calls k3 t313 t314 t315 (wrap64 (t316 - 1)) t342 true _ A111.out).mono ?_); rintro e w115 ⟨v344, rfl, ho0, hb⟩; have n0_ := Aside0.mk (Kd.R_elder' (Lam.rq HO_9.out) (Kd.R_base ho0) hb); have n1_ := Aside0.mk (Kd.R_elder' (Lam.rq HO_200.out) (Kd.R_base ho0) hb); have n2_ := Aside0.mk (Kd.R_lower (Kd.R_new' (Kd.R_new' ho0 (Kd.R_lt (Lam.rq HO_9.out))) (Kd.R_lt (Lam.rq HO_200.out))) (below_size (Lam.al))); have n3_ := Aside0.mk (below_step (Lam.al) hb); clear HO_9; clear HO_200; clear HB; have HO_9 := n0_; have HO_200 := n1_; have HO345 := n2_; have HB := n3_; clear n0_ n1_ n2_ n3_; (try clear hb); (try clear hb2); (try clear hk); (try clear hi); (try clear ho0); obtain ⟨Ao116, co116, eo116⟩ := Kd.R_slice HO345.out; subst eo116) | (go_at_call 45; (with_reducible refine (laws_ySame.calls k3 _ _ t342 _ _ t317 false _ ?side1 ?side2 ?side3 ?side4 A113.out).mono ?_); (case side1 => repeat (first | exact (Kd.R_reads' HO345.out).2.2 | (with_reducible refine Kd.C_alloc ?_ _) | (with_reducible refine Kd.C_drewN ?_ _) | (with_reducible refine Kd.C_drew ?_))); (case side2 => exact (Kd.R_reads' HO345.out).2.1); (case side3 => repeat (first | exact (Kd.R_reads' HO_9.out).2.2 | (with_reducible refine Kd.C_alloc ?_ _) | (with_reducible refine Kd.C_drewN ?_ _) | (with_reducible refine Kd.C_drew ?_))); (case side4 => exact (Kd.R_reads' HO_9.out).2.1); rintro e w' ⟨rfl, ⟨nd, rfl⟩⟩; (try first | exact ⟨rfl, _, World.drewN_drewN _ _ _⟩ | exact ⟨rfl, _, Eq.trans (World.drewN_drewN _ _ _) (congrArg (World.drewN _) (Nat.add_assoc _ _ _))⟩)))
                repeat (go_quiet (first | (go_at_call 39; (with_reducible refine (impl_CodeOfPraline.calls k3 t313 t314 t315 (wrap64 (t316 - 1)) t342 true _ A111.out).mono ?_); rintro e w115 ⟨v344, rfl, ho0, hb⟩; have n0_ := Aside0.mk (Kd.R_elder' (Lam.rq HO_9.out) (Kd.R_base ho0) hb); have n1_ := Aside0.mk (Kd.R_elder' (Lam.rq HO_200.out) (Kd.R_base ho0) hb); have n2_ := Aside0.mk (Kd.R_lower (Kd.R_new' (Kd.R_new' ho0 (Kd.R_lt (Lam.rq HO_9.out))) (Kd.R_lt (Lam.rq HO_200.out))) (below_size (Lam.al))); have n3_ := Aside0.mk (below_step (Lam.al) hb); clear HO_9; clear HO_200; clear HB; have HO_9 := n0_; have HO_200 := n1_; have HO345 := n2_; have HB := n3_; clear n0_ n1_ n2_ n3_; (try clear hb); (try clear hb2); (try clear hk); (try clear hi); (try clear ho0); obtain ⟨Ao116, co116, eo116⟩ := Kd.R_slice HO345.out; subst eo116) | (go_at_call 45; (with_reducible refine (laws_ySame.calls k3 _ _ t342 _ _ t317 false _ ?side1 ?side2 ?side3 ?side4 A113.out).mono ?_); (case side1 => repeat (first | exact (Kd.R_reads' HO345.out).2.2 | (with_reducible refine Kd.C_alloc ?_ _) | (with_reducible refine Kd.C_drewN ?_ _) | (with_reducible refine Kd.C_drew ?_))); (case side2 => exact (Kd.R_reads' HO345.out).2.1); (case side3 => repeat (first | exact (Kd.R_reads' HO_9.out).2.2 | (with_reducible refine Kd.C_alloc ?_ _) | (with_reducible refine Kd.C_drewN ?_ _) | (with_reducible refine Kd.C_drew ?_))); (case side4 => exact (Kd.R_reads' HO_9.out).2.1); rintro e w' ⟨rfl, ⟨nd, rfl⟩⟩; (try first | exact ⟨rfl, _, World.drewN_drewN _ _ _⟩ | exact ⟨rfl, _, Eq.trans (World.drewN_drewN _ _ _) (congrArg (World.drewN _) (Nat.add_assoc _ _ _))⟩))); try go_wp2_with (first | (go_at_call 39; (with_reducible refine (impl_CodeOfPraline.calls k3 t313 t314 t315 (wrap64 (t316 - 1)) t342 true _ A111.out).mono ?_); rintro e w115 ⟨v344, rfl, ho0, hb⟩; have n0_ := Aside0.mk (Kd.R_elder' (Lam.rq HO_9.out) (Kd.R_base ho0) hb); have n1_ := Aside0.mk (Kd.R_elder' (Lam.rq HO_200.out) (Kd.R_base ho0) hb); have n2_ := Aside0.mk (Kd.R_lower (Kd.R_new' (Kd.R_new' ho0 (Kd.R_lt (Lam.rq HO_9.out))) (Kd.R_lt (Lam.rq HO_200.out))) (below_size (Lam.al))); have n3_ := Aside0.mk (below_step (Lam.al) hb); clear HO_9; clear HO_200; clear HB; have HO_9 := n0_; have HO_200 := n1_; have HO345 := n2_; have HB := n3_; clear n0_ n1_ n2_ n3_; (try clear hb); (try clear hb2); (try clear hk); (try clear hi); (try clear ho0); obtain ⟨Ao116, co116, eo116⟩ := Kd.R_slice HO345.out; subst eo116) | (go_at_call 45; (with_reducible refine (laws_ySame.calls k3 _ _ t342 _ _ t317 false _ ?side1 ?side2 ?side3 ?side4 A113.out).mono ?_); (case side1 => repeat (first | exact (Kd.R_reads' HO345.out).2.2 | (with_reducible refine Kd.C_alloc ?_ _) | (with_reducible refine Kd.C_drewN ?_ _) | (with_reducible refine Kd.C_drew ?_))); (case side2 => exact (Kd.R_reads' HO345.out).2.1); (case side3 => repeat (first | exact (Kd.R_reads' HO_9.out).2.2 | (with_reducible refine Kd.C_alloc ?_ _) | (with_reducible refine Kd.C_drewN ?_ _) | (with_reducible refine Kd.C_drew ?_))); (case side4 => exact (Kd.R_reads' HO_9.out).2.1); rintro e w' ⟨rfl, ⟨nd, rfl⟩⟩; (try first | exact ⟨rfl, _, World.drewN_drewN _ _ _⟩ | exact ⟨rfl, _, Eq.trans (World.drewN_drewN _ _ _) (congrArg (World.drewN _) (Nat.add_assoc _ _ _))⟩))))
                refine Met.intro (hJ_5 _ undef undef undef _ ?kp ?rel)
                case kp => simp only [↓CutK.keep0, ↓CutK.keep1, ↓CutK.keep2, ↓CutK.keep3, ↓CutK.keep4, ↓CutK.keepN, true_and, and_true]
                case rel => exact ⟨_, H', ⟨by have := HJ11.out; have := HJ79.out; have := HK3.out; first | omega | exact Nat.le_refl _⟩, ⟨Lam.al⟩⟩
              ·replace c112 := Bool.eq_false_iff.mpr c112
               subst c112
               have H1 : (none) = some r := by rw [if_neg (show ¬ (false = true) by decide)] at H; exact H
               clear H
               have H := H1
               clear H1
               exact absurd H (by simp)
             ·rw [if_neg c110] at H
              have c110b0 : decide (0 < t316) = false := decide_eq_false c110
              clear c110
              have H' := Aside0.mk H
              clear H
              go_wp2
              repeat (go_quiet (fail); try go_wp2)
              refine Met.intro (hJ_5 _ undef undef undef _ ?kp ?rel)
              case kp => simp only [↓CutK.keep0, ↓CutK.keep1, ↓CutK.keep2, ↓CutK.keep3, ↓CutK.keep4, ↓CutK.keepN, true_and, and_true]
              case rel => exact ⟨_, H', ⟨by have := HJ11.out; have := HJ79.out; have := HK3.out; first | omega | exact Nat.le_refl _⟩, ⟨Lam.al⟩⟩
      ·replace c78 := Bool.eq_false_iff.mpr c78
       subst c78
       have H1 : (laws_FnBoxesTasted.j5 kj11 l1) = some r := by rw [if_neg (show ¬ (false = true) by decide)] at H; exact H
       clear H
       have H := H1
       clear H1
       have H' := Aside0.mk H
       clear H
       go_wp2
       repeat (go_quiet (fail); try go_wp2)
       refine Met.intro (hJ_5 _ undef undef undef _ ?kp ?rel)
       case kp => simp only [↓CutK.keep0, ↓CutK.keep1, ↓CutK.keep2, ↓CutK.keep3, ↓CutK.keep4, ↓CutK.keepN, true_and, and_true]
       case rel => exact ⟨_, H', ⟨by have := HJ11.out; first | omega | exact Nat.le_refl _⟩, ⟨Lam.al⟩⟩
     case rest5 =>
      intro _ _ _ g_ wc hcut
      dsimp only [CutK.rl, List.replicate, List.cons_append, List.nil_append]
      dsimp only [↓CutK.mix0, ↓CutK.mix1, ↓CutK.mix2, ↓CutK.mix3, ↓CutK.mix4, ↓CutK.mixN, Nat.reduceAdd, Nat.zero_add]
      clear HC77
      try clear c1
      try clear c4
      try clear c76
      obtain ⟨kq, HA, HJ76, HB⟩ := hcut
      cases kq with
      | zero => exact absurd HA.out (by simp [laws_FnBoxesTasted.j5])
      | succ kj76 =>
       have H := HA.out
       clear HA
       simp only [laws_FnBoxesTasted.j5] at H
       replace H := Option.bind_eq_some_iff.mp H
       obtain ⟨⟨t347, t348⟩, A1170, H⟩ := H
       replace H : ((impl_TastersFor.f kj76 t347 t348).bind fun bt349 => ((spec_TastersFor.f kj76 t347 t348).bind fun bt351 => ((spec_DrawRoundsFor.f l1).bind fun bt353 => ((impl_RoundsFor.f kj76 bt353.1 bt353.2).bind fun bt355 => ((spec_RoundsFor.f kj76 bt353.1 bt353.2).bind fun bt357 => ((spec_DrawPralineOfCode.f kj76 l1).bind fun bt359 => ((impl_PralineOfCode.f kj76 bt359.1 bt359.2.1 bt359.2.2.1 bt359.2.2.2).bind fun bt365 => ((spec_PralineOfCode.f kj76 bt359.1 bt359.2.1 bt359.2.2.1 bt359.2.2.2).bind fun bt367 => ((spec_DrawTastedBy.f l1).bind fun bt369 => ((impl_TastedBy.f kj76 bt369.1 bt369.2.1 bt369.2.2.1 bt369.2.2.2.1 bt369.2.2.2.2).bind fun bt374 => ((spec_TastedBy.f kj76 bt369.1 bt369.2.1 bt369.2.2.1 bt369.2.2.2.1 bt369.2.2.2.2).bind fun bt378 => (if (bt349.2 != bt351.2) = true then (laws_FnBoxesTasted.j6 kj76 t347 t348 bt349.1 bt349.2 bt353.1 bt353.2 bt355.1 bt355.2 bt359.1 bt359.2.1 bt359.2.2.1 bt359.2.2.2 bt365.1 bt365.2 bt369.1 bt369.2.1 bt369.2.2.1 bt369.2.2.2.1 bt369.2.2.2.2 bt374.1 bt374.2 true) else (if bt349.1 = bt351.1 then (if (bt355.2 != bt357.2) = true then (laws_FnBoxesTasted.j6 kj76 t347 t348 bt349.1 bt349.2 bt353.1 bt353.2 bt355.1 bt355.2 bt359.1 bt359.2.1 bt359.2.2.1 bt359.2.2.2 bt365.1 bt365.2 bt369.1 bt369.2.1 bt369.2.2.1 bt369.2.2.2.1 bt369.2.2.2.2 bt374.1 bt374.2 true) else (if bt355.1 = bt357.1 then (if (bt365.2 != bt367.2) = true then (laws_FnBoxesTasted.j6 kj76 t347 t348 bt349.1 bt349.2 bt353.1 bt353.2 bt355.1 bt355.2 bt359.1 bt359.2.1 bt359.2.2.1 bt359.2.2.2 bt365.1 bt365.2 bt369.1 bt369.2.1 bt369.2.2.1 bt369.2.2.2.1 bt369.2.2.2.2 bt374.1 bt374.2 true) else (if bt365.1 = bt367.1 then (if (bt374.2 != bt378.2) = true then (laws_FnBoxesTasted.j6 kj76 t347 t348 bt349.1 bt349.2 bt353.1 bt353.2 bt355.1 bt355.2 bt359.1 bt359.2.1 bt359.2.2.1 bt359.2.2.2 bt365.1 bt365.2 bt369.1 bt369.2.1 bt369.2.2.1 bt369.2.2.2.1 bt369.2.2.2.2 bt374.1 bt374.2 true) else ((laws_ySame.f kj76 bt374.1 bt378.1).bind fun t382 => (laws_FnBoxesTasted.j6 kj76 t347 t348 bt349.1 bt349.2 bt353.1 bt353.2 bt355.1 bt355.2 bt359.1 bt359.2.1 bt359.2.2.1 bt359.2.2.2 bt365.1 bt365.2 bt369.1 bt369.2.1 bt369.2.2.1 bt369.2.2.2.1 bt369.2.2.2.2 bt374.1 bt374.2 (!t382)))) else (laws_FnBoxesTasted.j6 kj76 t347 t348 bt349.1 bt349.2 bt353.1 bt353.2 bt355.1 bt355.2 bt359.1 bt359.2.1 bt359.2.2.1 bt359.2.2.2 bt365.1 bt365.2 bt369.1 bt369.2.1 bt369.2.2.1 bt369.2.2.2.1 bt369.2.2.2.2 bt374.1 bt374.2 true))) else (laws_FnBoxesTasted.j6 kj76 t347 t348 bt349.1 bt349.2 bt353.1 bt353.2 bt355.1 bt355.2 bt359.1 bt359.2.1 bt359.2.2.1 bt359.2.2.2 bt365.1 bt365.2 bt369.1 bt369.2.1 bt369.2.2.1 bt369.2.2.2.1 bt369.2.2.2.2 bt374.1 bt374.2 true))) else (laws_FnBoxesTasted.j6 kj76 t347 t348 bt349.1 bt349.2 bt353.1 bt353.2 bt355.1 bt355.2 bt359.1 bt359.2.1 bt359.2.2.1 bt359.2.2.2 bt365.1 bt365.2 bt369.1 bt369.2.1 bt369.2.2.1 bt369.2.2.2.1 bt369.2.2.2.2 bt374.1 bt374.2 true)))))))))))))) = some r := H
       have A117 := Aside0.mk A1170
       clear A1170
       replace H := Option.bind_eq_some_iff.mp H
       obtain ⟨⟨t349, t350⟩, A1180, H⟩ := H
       replace H : ((spec_TastersFor.f kj76 t347 t348).bind fun bt351 => ((spec_DrawRoundsFor.f l1).bind fun bt353 => ((impl_RoundsFor.f kj76 bt353.1 bt353.2).bind fun bt355 => ((spec_RoundsFor.f kj76 bt353.1 bt353.2).bind fun bt357 => ((spec_DrawPralineOfCode.f kj76 l1).bind fun bt359 => ((impl_PralineOfCode.f kj76 bt359.1 bt359.2.1 bt359.2.2.1 bt359.2.2.2).bind fun bt365 => ((spec_PralineOfCode.f kj76 bt359.1 bt359.2.1 bt359.2.2.1 bt359.2.2.2).bind fun bt367 => ((spec_DrawTastedBy.f l1).bind fun bt369 => ((impl_TastedBy.f kj76 bt369.1 bt369.2.1 bt369.2.2.1 bt369.2.2.2.1 bt369.2.2.2.2).bind fun bt374 => ((spec_TastedBy.f kj76 bt369.1 bt369.2.1 bt369.2.2.1 bt369.2.2.2.1 bt369.2.2.2.2).bind fun bt378 => (if (t350 != bt351.2) = true then (laws_FnBoxesTasted.j6 kj76 t347 t348 t349 t350 bt353.1 bt353.2 bt355.1 bt355.2 bt359.1 bt359.2.1 bt359.2.2.1 bt359.2.2.2 bt365.1 bt365.2 bt369.1 bt369.2.1 bt369.2.2.1 bt369.2.2.2.1 bt369.2.2.2.2 bt374.1 bt374.2 true) else (if t349 = bt351.1 then (if (bt355.2 != bt357.2) = true then (laws_FnBoxesTasted.j6 kj76 t347 t348 t349 t350 bt353.1 bt353.2 bt355.1 bt355.2 bt359.1 bt359.2.1 bt359.2.2.1 bt359.2.2.2 bt365.1 bt365.2 bt369.1 bt369.2.1 bt369.2.2.1 bt369.2.2.2.1 bt369.2.2.2.2 bt374.1 bt374.2 true) else (if bt355.1 = bt357.1 then (if (bt365.2 != bt367.2) = true then (laws_FnBoxesTasted.j6 kj76 t347 t348 t349 t350 bt353.1 bt353.2 bt355.1 bt355.2 bt359.1 bt359.2.1 bt359.2.2.1 bt359.2.2.2 bt365.1 bt365.2 bt369.1 bt369.2.1 bt369.2.2.1 bt369.2.2.2.1 bt369.2.2.2.2 bt374.1 bt374.2 true) else (if bt365.1 = bt367.1 then (if (bt374.2 != bt378.2) = true then (laws_FnBoxesTasted.j6 kj76 t347 t348 t349 t350 bt353.1 bt353.2 bt355.1 bt355.2 bt359.1 bt359.2.1 bt359.2.2.1 bt359.2.2.2 bt365.1 bt365.2 bt369.1 bt369.2.1 bt369.2.2.1 bt369.2.2.2.1 bt369.2.2.2.2 bt374.1 bt374.2 true) else ((laws_ySame.f kj76 bt374.1 bt378.1).bind fun t382 => (laws_FnBoxesTasted.j6 kj76 t347 t348 t349 t350 bt353.1 bt353.2 bt355.1 bt355.2 bt359.1 bt359.2.1 bt359.2.2.1 bt359.2.2.2 bt365.1 bt365.2 bt369.1 bt369.2.1 bt369.2.2.1 bt369.2.2.2.1 bt369.2.2.2.2 bt374.1 bt374.2 (!t382)))) else (laws_FnBoxesTasted.j6 kj76 t347 t348 t349 t350 bt353.1 bt353.2 bt355.1 bt355.2 bt359.1 bt359.2.1 bt359.2.2.1 bt359.2.2.2 bt365.1 bt365.2 bt369.1 bt369.2.1 bt369.2.2.1 bt369.2.2.2.1 bt369.2.2.2.2 bt374.1 bt374.2 true))) else (laws_FnBoxesTasted.j6 kj76 t347 t348 t349 t350 bt353.1 bt353.2 bt355.1 bt355.2 bt359.1 bt359.2.1 bt359.2.2.1 bt359.2.2.2 bt365.1 bt365.2 bt369.1 bt369.2.1 bt369.2.2.1 bt369.2.2.2.1 bt369.2.2.2.2 bt374.1 bt374.2 true))) else (laws_FnBoxesTasted.j6 kj76 t347 t348 t349 t350 bt353.1 bt353.2 bt355.1 bt355.2 bt359.1 bt359.2.1 bt359.2.2.1 bt359.2.2.2 bt365.1 bt365.2 bt369.1 bt369.2.1 bt369.2.2.1 bt369.2.2.2.1 bt369.2.2.2.2 bt374.1 bt374.2 true))))))))))))) = some r := H
       have A118 := Aside0.mk A1180
       clear A1180
       replace H := Option.bind_eq_some_iff.mp H
       obtain ⟨⟨t351, t352⟩, A1190, H⟩ := H
       replace H : ((spec_DrawRoundsFor.f l1).bind fun bt353 => ((impl_RoundsFor.f kj76 bt353.1 bt353.2).bind fun bt355 => ((spec_RoundsFor.f kj76 bt353.1 bt353.2).bind fun bt357 => ((spec_DrawPralineOfCode.f kj76 l1).bind fun bt359 => ((impl_PralineOfCode.f kj76 bt359.1 bt359.2.1 bt359.2.2.1 bt359.2.2.2).bind fun bt365 => ((spec_PralineOfCode.f kj76 bt359.1 bt359.2.1 bt359.2.2.1 bt359.2.2.2).bind fun bt367 => ((spec_DrawTastedBy.f l1).bind fun bt369 => ((impl_TastedBy.f kj76 bt369.1 bt369.2.1 bt369.2.2.1 bt369.2.2.2.1 bt369.2.2.2.2).bind fun bt374 => ((spec_TastedBy.f kj76 bt369.1 bt369.2.1 bt369.2.2.1 bt369.2.2.2.1 bt369.2.2.2.2).bind fun bt378 => (if (t350 != t352) = true then (laws_FnBoxesTasted.j6 kj76 t347 t348 t349 t350 bt353.1 bt353.2 bt355.1 bt355.2 bt359.1 bt359.2.1 bt359.2.2.1 bt359.2.2.2 bt365.1 bt365.2 bt369.1 bt369.2.1 bt369.2.2.1 bt369.2.2.2.1 bt369.2.2.2.2 bt374.1 bt374.2 true) else (if t349 = t351 then (if (bt355.2 != bt357.2) = true then (laws_FnBoxesTasted.j6 kj76 t347 t348 t349 t350 bt353.1 bt353.2 bt355.1 bt355.2 bt359.1 bt359.2.1 bt359.2.2.1 bt359.2.2.2 bt365.1 bt365.2 bt369.1 bt369.2.1 bt369.2.2.1 bt369.2.2.2.1 bt369.2.2.2.2 bt374.1 bt374.2 true) else (if bt355.1 = bt357.1 then (if (bt365.2 != bt367.2) = true then (laws_FnBoxesTasted.j6 kj76 t347 t348 t349 t350 bt353.1 bt353.2 bt355.1 bt355.2 bt359.1 bt359.2.1 bt359.2.2.1 bt359.2.2.2 bt365.1 bt365.2 bt369.1 bt369.2.1 bt369.2.2.1 bt369.2.2.2.1 bt369.2.2.2.2 bt374.1 bt374.2 true) else (if bt365.1 = bt367.1 then (if (bt374.2 != bt378.2) = true then (laws_FnBoxesTasted.j6 kj76 t347 t348 t349 t350 bt353.1 bt353.2 bt355.1 bt355.2 bt359.1 bt359.2.1 bt359.2.2.1 bt359.2.2.2 bt365.1 bt365.2 bt369.1 bt369.2.1 bt369.2.2.1 bt369.2.2.2.1 bt369.2.2.2.2 bt374.1 bt374.2 true) else ((laws_ySame.f kj76 bt374.1 bt378.1).bind fun t382 => (laws_FnBoxesTasted.j6 kj76 t347 t348 t349 t350 bt353.1 bt353.2 bt355.1 bt355.2 bt359.1 bt359.2.1 bt359.2.2.1 bt359.2.2.2 bt365.1 bt365.2 bt369.1 bt369.2.1 bt369.2.2.1 bt369.2.2.2.1 bt369.2.2.2.2 bt374.1 bt374.2 (!t382)))) else (laws_FnBoxesTasted.j6 kj76 t347 t348 t349 t350 bt353.1 bt353.2 bt355.1 bt355.2 bt359.1 bt359.2.1 bt359.2.2.1 bt359.2.2.2 bt365.1 bt365.2 bt369.1 bt369.2.1 bt369.2.2.1 bt369.2.2.2.1 bt369.2.2.2.2 bt374.1 bt374.2 true))) else (laws_FnBoxesTasted.j6 kj76 t347 t348 t349 t350 bt353.1 bt353.2 bt355.1 bt355.2 bt359.1 bt359.2.1 bt359.2.2.1 bt359.2.2.2 bt365.1 bt365.2 bt369.1 bt369.2.1 bt369.2.2.1 bt369.2.2.2.1 bt369.2.2.2.2 bt374.1 bt374.2 true))) else (laws_FnBoxesTasted.j6 kj76 t347 t348 t349 t350 bt353.1 bt353.2 bt355.1 bt355.2 bt359.1 bt359.2.1 bt359.2.2.1 bt359.2.2.2 bt365.1 bt365.2 bt369.1 bt369.2.1 bt369.2.2.1 bt369.2.2.2.1 bt369.2.2.2.2 bt374.1 bt374.2 true)))))))))))) = some r := H
       have A119 := Aside0.mk A1190
       clear A1190
       replace H := Option.bind_eq_some_iff.mp H
       obtain ⟨⟨t353, t354⟩, A1200, H⟩ := H
       replace H : ((impl_RoundsFor.f kj76 t353 t354).bind fun bt355 => ((spec_RoundsFor.f kj76 t353 t354).bind fun bt357 => ((spec_DrawPralineOfCode.f kj76 l1).bind fun bt359 => ((impl_PralineOfCode.f kj76 bt359.1 bt359.2.1 bt359.2.2.1 bt359.2.2.2).bind fun bt365 => ((spec_PralineOfCode.f kj76 bt359.1 bt359.2.1 bt359.2.2.1 bt359.2.2.2).bind fun bt367 => ((spec_DrawTastedBy.f l1).bind fun bt369 => ((impl_TastedBy.f kj76 bt369.1 bt369.2.1 bt369.2.2.1 bt369.2.2.2.1 bt369.2.2.2.2).bind fun bt374 => ((spec_TastedBy.f kj76 bt369.1 bt369.2.1 bt369.2.2.1 bt369.2.2.2.1 bt369.2.2.2.2).bind fun bt378 => (if (t350 != t352) = true then (laws_FnBoxesTasted.j6 kj76 t347 t348 t349 t350 t353 t354 bt355.1 bt355.2 bt359.1 bt359.2.1 bt359.2.2.1 bt359.2.2.2 bt365.1 bt365.2 bt369.1 bt369.2.1 bt369.2.2.1 bt369.2.2.2.1 bt369.2.2.2.2 bt374.1 bt374.2 true) else (if t349 = t351 then (if (bt355.2 != bt357.2) = true then (laws_FnBoxesTasted.j6 kj76 t347 t348 t349 t350 t353 t354 bt355.1 bt355.2 bt359.1 bt359.2.1 bt359.2.2.1 bt359.2.2.2 bt365.1 bt365.2 bt369.1 bt369.2.1 bt369.2.2.1 bt369.2.2.2.1 bt369.2.2.2.2 bt374.1 bt374.2 true) else (if bt355.1 = bt357.1 then (if (bt365.2 != bt367.2) = true then (laws_FnBoxesTasted.j6 kj76 t347 t348 t349 t350 t353 t354 bt355.1 bt355.2 bt359.1 bt359.2.1 bt359.2.2.1 bt359.2.2.2 bt365.1 bt365.2 bt369.1 bt369.2.1 bt369.2.2.1 bt369.2.2.2.1 bt369.2.2.2.2 bt374.1 bt374.2 true) else (if bt365.1 = bt367.1 then (if (bt374.2 != bt378.2) = true then (laws_FnBoxesTasted.j6 kj76 t347 t348 t349 t350 t353 t354 bt355.1 bt355.2 bt359.1 bt359.2.1 bt359.2.2.1 bt359.2.2.2 bt365.1 bt365.2 bt369.1 bt369.2.1 bt369.2.2.1 bt369.2.2.2.1 bt369.2.2.2.2 bt374.1 bt374.2 true) else ((laws_ySame.f kj76 bt374.1 bt378.1).bind fun t382 => (laws_FnBoxesTasted.j6 kj76 t347 t348 t349 t350 t353 t354 bt355.1 bt355.2 bt359.1 bt359.2.1 bt359.2.2.1 bt359.2.2.2 bt365.1 bt365.2 bt369.1 bt369.2.1 bt369.2.2.1 bt369.2.2.2.1 bt369.2.2.2.2 bt374.1 bt374.2 (!t382)))) else (laws_FnBoxesTasted.j6 kj76 t347 t348 t349 t350 t353 t354 bt355.1 bt355.2 bt359.1 bt359.2.1 bt359.2.2.1 bt359.2.2.2 bt365.1 bt365.2 bt369.1 bt369.2.1 bt369.2.2.1 bt369.2.2.2.1 bt369.2.2.2.2 bt374.1 bt374.2 true))) else (laws_FnBoxesTasted.j6 kj76 t347 t348 t349 t350 t353 t354 bt355.1 bt355.2 bt359.1 bt359.2.1 bt359.2.2.1 bt359.2.2.2 bt365.1 bt365.2 bt369.1 bt369.2.1 bt369.2.2.1 bt369.2.2.2.1 bt369.2.2.2.2 bt374.1 bt374.2 true))) else (laws_FnBoxesTasted.j6 kj76 t347 t348 t349 t350 t353 t354 bt355.1 bt355.2 bt359.1 bt359.2.1 bt359.2.2.1 bt359.2.2.2 bt365.1 bt365.2 bt369.1 bt369.2.1 bt369.2.2.1 bt369.2.2.2.1 bt369.2.2.2.2 bt374.1 bt374.2 true))))))))))) = some r := H
       have A120 := Aside0.mk A1200
       clear A1200
       replace H := Option.bind_eq_some_iff.mp H
       obtain ⟨⟨t355, t356⟩, A1210, H⟩ := H
       replace H : ((spec_RoundsFor.f kj76 t353 t354).bind fun bt357 => ((spec_DrawPralineOfCode.f kj76 l1).bind fun bt359 => ((impl_PralineOfCode.f kj76 bt359.1 bt359.2.1 bt359.2.2.1 bt359.2.2.2).bind fun bt365 => ((spec_PralineOfCode.f kj76 bt359.1 bt359.2.1 bt359.2.2.1 bt359.2.2.2).bind fun bt367 => ((spec_DrawTastedBy.f l1).bind fun bt369 => ((impl_TastedBy.f kj76 bt369.1 bt369.2.1 bt369.2.2.1 bt369.2.2.2.1 bt369.2.2.2.2).bind fun bt374 => ((spec_TastedBy.f kj76 bt369.1 bt369.2.1 bt369.2.2.1 bt369.2.2.2.1 bt369.2.2.2.2).bind fun bt378 => (if (t350 != t352) = true then (laws_FnBoxesTasted.j6 kj76 t347 t348 t349 t350 t353 t354 t355 t356 bt359.1 bt359.2.1 bt359.2.2.1 bt359.2.2.2 bt365.1 bt365.2 bt369.1 bt369.2.1 bt369.2.2.1 bt369.2.2.2.1 bt369.2.2.2.2 bt374.1 bt374.2 true) else (if t349 = t351 then (if (t356 != bt357.2) = true then (laws_FnBoxesTasted.j6 kj76 t347 t348 t349 t350 t353 t354 t355 t356 bt359.1 bt359.2.1 bt359.2.2.1 bt359.2.2.2 bt365.1 bt365.2 bt369.1 bt369.2.1 bt369.2.2.1 bt369.2.2.2.1 bt369.2.2.2.2 bt374.1 bt374.2 true) else (if t355 = bt357.1 then (if (bt365.2 != bt367.2) = true then (laws_FnBoxesTasted.j6 kj76 t347 t348 t349 t350 t353 t354 t355 t356 bt359.1 bt359.2.1 bt359.2.2.1 bt359.2.2.2 bt365.1 bt365.2 bt369.1 bt369.2.1 bt369.2.2.1 bt369.2.2.2.1 bt369.2.2.2.2 bt374.1 bt374.2 true) else (if bt365.1 = bt367.1 then (if (bt374.2 != bt378.2) = true then (laws_FnBoxesTasted.j6 kj76 t347 t348 t349 t350 t353 t354 t355 t356 bt359.1 bt359.2.1 bt359.2.2.1 bt359.2.2.2 bt365.1 bt365.2 bt369.1 bt369.2.1 bt369.2.2.1 bt369.2.2.2.1 bt369.2.2.2.2 bt374.1 bt374.2 true) else ((laws_ySame.f kj76 bt374.1 bt378.1).bind fun t382 => (laws_FnBoxesTasted.j6 kj76 t347 t348 t349 t350 t353 t354 t355 t356 bt359.1 bt359.2.1 bt359.2.2.1 bt359.2.2.2 bt365.1 bt365.2 bt369.1 bt369.2.1 bt369.2.2.1 bt369.2.2.2.1 bt369.2.2.2.2 bt374.1 bt374.2 (!t382)))) else (laws_FnBoxesTasted.j6 kj76 t347 t348 t349 t350 t353 t354 t355 t356 bt359.1 bt359.2.1 bt359.2.2.1 bt359.2.2.2 bt365.1 bt365.2 bt369.1 bt369.2.1 bt369.2.2.1 bt369.2.2.2.1 bt369.2.2.2.2 bt374.1 bt374.2 true))) else (laws_FnBoxesTasted.j6 kj76 t347 t348 t349 t350 t353 t354 t355 t356 bt359.1 bt359.2.1 bt359.2.2.1 bt359.2.2.2 bt365.1 bt365.2 bt369.1 bt369.2.1 bt369.2.2.1 bt369.2.2.2.1 bt369.2.2.2.2 bt374.1 bt374.2 true))) else (laws_FnBoxesTasted.j6 kj76 t347 t348 t349 t350 t353 t354 t355 t356 bt359.1 bt359.2.1 bt359.2.2.1 bt359.2.2.2 bt365.1 bt365.2 bt369.1 bt369.2.1 bt369.2.2.1 bt369.2.2.2.1 bt369.2.2.2.2 bt374.1 bt374.2 true)))))))))) = some r := H
       have A121 := Aside0.mk A1210
       clear A1210
       replace H := Option.bind_eq_some_iff.mp H
       obtain ⟨⟨t357, t358⟩, A1220, H⟩ := H
       replace H : ((spec_DrawPralineOfCode.f kj76 l1).bind fun bt359 => ((impl_PralineOfCode.f kj76 bt359.1 bt359.2.1 bt359.2.2.1 bt359.2.2.2).bind fun bt365 => ((spec_PralineOfCode.f kj76 bt359.1 bt359.2.1 bt359.2.2.1 bt359.2.2.2).bind fun bt367 => ((spec_DrawTastedBy.f l1).bind fun bt369 => ((impl_TastedBy.f kj76 bt369.1 bt369.2.1 bt369.2.2.1 bt369.2.2.2.1 bt369.2.2.2.2).bind fun bt374 => ((spec_TastedBy.f kj76 bt369.1 bt369.2.1 bt369.2.2.1 bt369.2.2.2.1 bt369.2.2.2.2).bind fun bt378 => (if (t350 != t352) = true then (laws_FnBoxesTasted.j6 kj76 t347 t348 t349 t350 t353 t354 t355 t356 bt359.1 bt359.2.1 bt359.2.2.1 bt359.2.2.2 bt365.1 bt365.2 bt369.1 bt369.2.1 bt369.2.2.1 bt369.2.2.2.1 bt369.2.2.2.2 bt374.1 bt374.2 true) else (if t349 = t351 then (if (t356 != t358) = true then (laws_FnBoxesTasted.j6 kj76 t347 t348 t349 t350 t353 t354 t355 t356 bt359.1 bt359.2.1 bt359.2.2.1 bt359.2.2.2 bt365.1 bt365.2 bt369.1 bt369.2.1 bt369.2.2.1 bt369.2.2.2.1 bt369.2.2.2.2 bt374.1 bt374.2 true) else (if t355 = t357 then (if (bt365.2 != bt367.2) = true then (laws_FnBoxesTasted.j6 kj76 t347 t348 t349 t350 t353 t354 t355 t356 bt359.1 bt359.2.1 bt359.2.2.1 bt359.2.2.2 bt365.1 bt365.2 bt369.1 bt369.2.1 bt369.2.2.1 bt369.2.2.2.1 bt369.2.2.2.2 bt374.1 bt374.2 true) else (if bt365.1 = bt367.1 then (if (bt374.2 != bt378.2) = true then (laws_FnBoxesTasted.j6 kj76 t347 t348 t349 t350 t353 t354 t355 t356 bt359.1 bt359.2.1 bt359.2.2.1 bt359.2.2.2 bt365.1 bt365.2 bt369.1 bt369.2.1 bt369.2.2.1 bt369.2.2.2.1 bt369.2.2.2.2 bt374.1 bt374.2 true) else ((laws_ySame.f kj76 bt374.1 bt378.1).bind fun t382 => (laws_FnBoxesTasted.j6 kj76 t347 t348 t349 t350 t353 t354 t355 t356 bt359.1 bt359.2.1 bt359.2.2.1 bt359.2.2.2 bt365.1 bt365.2 bt369.1 bt369.2.1 bt369.2.2.1 bt369.2.2.2.1 bt369.2.2.2.2 bt374.1 bt374.2 (!t382)))) else (laws_FnBoxesTasted.j6 kj76 t347 t348 t349 t350 t353 t354 t355 t356 bt359.1 bt359.2.1 bt359.2.2.1 bt359.2.2.2 bt365.1 bt365.2 bt369.1 bt369.2.1 bt369.2.2.1 bt369.2.2.2.1 bt369.2.2.2.2 bt374.1 bt374.2 true))) else (laws_FnBoxesTasted.j6 kj76 t347 t348 t349 t350 t353 t354 t355 t356 bt359.1 bt359.2.1 bt359.2.2.1 bt359.2.2.2 bt365.1 bt365.2 bt369.1 bt369.2.1 bt369.2.2.1 bt369.2.2.2.1 bt369.2.2.2.2 bt374.1 bt374.2 true))) else (laws_FnBoxesTasted.j6 kj76 t347 t348 t349 t350 t353 t354 t355 t356 bt359.1 bt359.2.1 bt359.2.2.1 bt359.2.2.2 bt365.1 bt365.2 bt369.1 bt369.2.1 bt369.2.2.1 bt369.2.2.2.1 bt369.2.2.2.2 bt374.1 bt374.2 true))))))))) = some r := H
       have A122 := Aside0.mk A1220
       clear A1220
       replace H := Option.bind_eq_some_iff.mp H
       obtain ⟨⟨t359, t360, t361, t362⟩, A1230, H⟩ := H
       replace H : ((impl_PralineOfCode.f kj76 t359 t360 t361 t362).bind fun bt365 => ((spec_PralineOfCode.f kj76 t359 t360 t361 t362).bind fun bt367 => ((spec_DrawTastedBy.f l1).bind fun bt369 => ((impl_TastedBy.f kj76 bt369.1 bt369.2.1 bt369.2.2.1 bt369.2.2.2.1 bt369.2.2.2.2).bind fun bt374 => ((spec_TastedBy.f kj76 bt369.1 bt369.2.1 bt369.2.2.1 bt369.2.2.2.1 bt369.2.2.2.2).bind fun bt378 => (if (t350 != t352) = true then (laws_FnBoxesTasted.j6 kj76 t347 t348 t349 t350 t353 t354 t355 t356 t359 t360 t361 t362 bt365.1 bt365.2 bt369.1 bt369.2.1 bt369.2.2.1 bt369.2.2.2.1 bt369.2.2.2.2 bt374.1 bt374.2 true) else (if t349 = t351 then (if (t356 != t358) = true then (laws_FnBoxesTasted.j6 kj76 t347 t348 t349 t350 t353 t354 t355 t356 t359 t360 t361 t362 bt365.1 bt365.2 bt369.1 bt369.2.1 bt369.2.2.1 bt369.2.2.2.1 bt369.2.2.2.2 bt374.1 bt374.2 true) else (if t355 = t357 then (if (bt365.2 != bt367.2) = true then (laws_FnBoxesTasted.j6 kj76 t347 t348 t349 t350 t353 t354 t355 t356 t359 t360 t361 t362 bt365.1 bt365.2 bt369.1 bt369.2.1 bt369.2.2.1 bt369.2.2.2.1 bt369.2.2.2.2 bt374.1 bt374.2 true) else (if bt365.1 = bt367.1 then (if (bt374.2 != bt378.2) = true then (laws_FnBoxesTasted.j6 kj76 t347 t348 t349 t350 t353 t354 t355 t356 t359 t360 t361 t362 bt365.1 bt365.2 bt369.1 bt369.2.1 bt369.2.2.1 bt369.2.2.2.1 bt369.2.2.2.2 bt374.1 bt374.2 true) else ((laws_ySame.f kj76 bt374.1 bt378.1).bind fun t382 => (laws_FnBoxesTasted.j6 kj76 t347 t348 t349 t350 t353 t354 t355 t356 t359 t360 t361 t362 bt365.1 bt365.2 bt369.1 bt369.2.1 bt369.2.2.1 bt369.2.2.2.1 bt369.2.2.2.2 bt374.1 bt374.2 (!t382)))) else (laws_FnBoxesTasted.j6 kj76 t347 t348 t349 t350 t353 t354 t355 t356 t359 t360 t361 t362 bt365.1 bt365.2 bt369.1 bt369.2.1 bt369.2.2.1 bt369.2.2.2.1 bt369.2.2.2.2 bt374.1 bt374.2 true))) else (laws_FnBoxesTasted.j6 kj76 t347 t348 t349 t350 t353 t354 t355 t356 t359 t360 t361 t362 bt365.1 bt365.2 bt369.1 bt369.2.1 bt369.2.2.1 bt369.2.2.2.1 bt369.2.2.2.2 bt374.1 bt374.2 true))) else (laws_FnBoxesTasted.j6 kj76 t347 t348 t349 t350 t353 t354 t355 t356 t359 t360 t361 t362 bt365.1 bt365.2 bt369.1 bt369.2.1 bt369.2.2.1 bt369.2.2.2.1 bt369.2.2.2.2 bt374.1 bt374.2 true)))))))) = some r := H
       have A123 := Aside0.mk A1230
       clear A1230
       replace H := Option.bind_eq_some_iff.mp H
       obtain ⟨⟨t365, t366⟩, A1240, H⟩ := H
       replace H : ((spec_PralineOfCode.f kj76 t359 t360 t361 t362).bind fun bt367 => ((spec_DrawTastedBy.f l1).bind fun bt369 => ((impl_TastedBy.f kj76 bt369.1 bt369.2.1 bt369.2.2.1 bt369.2.2.2.1 bt369.2.2.2.2).bind fun bt374 => ((spec_TastedBy.f kj76 bt369.1 bt369.2.1 bt369.2.2.1 bt369.2.2.2.1 bt369.2.2.2.2).bind fun bt378 => (if (t350 != t352) = true then (laws_FnBoxesTasted.j6 kj76 t347 t348 t349 t350 t353 t354 t355 t356 t359 t360 t361 t362 t365 t366 bt369.1 bt369.2.1 bt369.2.2.1 bt369.2.2.2.1 bt369.2.2.2.2 bt374.1 bt374.2 true) else (if t349 = t351 then (if (t356 != t358) = true then (laws_FnBoxesTasted.j6 kj76 t347 t348 t349 t350 t353 t354 t355 t356 t359 t360 t361 t362 t365 t366 bt369.1 bt369.2.1 bt369.2.2.1 bt369.2.2.2.1 bt369.2.2.2.2 bt374.1 bt374.2 true) else (if t355 = t357 then (if (t366 != bt367.2) = true then (laws_FnBoxesTasted.j6 kj76 t347 t348 t349 t350 t353 t354 t355 t356 t359 t360 t361 t362 t365 t366 bt369.1 bt369.2.1 bt369.2.2.1 bt369.2.2.2.1 bt369.2.2.2.2 bt374.1 bt374.2 true) else (if t365 = bt367.1 then (if (bt374.2 != bt378.2) = true then (laws_FnBoxesTasted.j6 kj76 t347 t348 t349 t350 t353 t354 t355 t356 t359 t360 t361 t362 t365 t366 bt369.1 bt369.2.1 bt369.2.2.1 bt369.2.2.2.1 bt369.2.2.2.2 bt374.1 bt374.2 true) else ((laws_ySame.f kj76 bt374.1 bt378.1).bind fun t382 => (laws_FnBoxesTasted.j6 kj76 t347 t348 t349 t350 t353 t354 t355 t356 t359 t360 t361 t362 t365 t366 bt369.1 bt369.2.1 bt369.2.2.1 bt369.2.2.2.1 bt369.2.2.2.2 bt374.1 bt374.2 (!t382)))) else (laws_FnBoxesTasted.j6 kj76 t347 t348 t349 t350 t353 t354 t355 t356 t359 t360 t361 t362 t365 t366 bt369.1 bt369.2.1 bt369.2.2.1 bt369.2.2.2.1 bt369.2.2.2.2 bt374.1 bt374.2 true))) else (laws_FnBoxesTasted.j6 kj76 t347 t348 t349 t350 t353 t354 t355 t356 t359 t360 t361 t362 t365 t366 bt369.1 bt369.2.1 bt369.2.2.1 bt369.2.2.2.1 bt369.2.2.2.2 bt374.1 bt374.2 true))) else (laws_FnBoxesTasted.j6 kj76 t347 t348 t349 t350 t353 t354 t355 t356 t359 t360 t361 t362 t365 t366 bt369.1 bt369.2.1 bt369.2.2.1 bt369.2.2.2.1 bt369.2.2.2.2 bt374.1 bt374.2 true))))))) = some r := H
       have A124 := Aside0.mk A1240
       clear A1240
       replace H := Option.bind_eq_some_iff.mp H
       obtain ⟨⟨t367, t368⟩, A1250, H⟩ := H
       replace H : ((spec_DrawTastedBy.f l1).bind fun bt369 => ((impl_TastedBy.f kj76 bt369.1 bt369.2.1 bt369.2.2.1 bt369.2.2.2.1 bt369.2.2.2.2).bind fun bt374 => ((spec_TastedBy.f kj76 bt369.1 bt369.2.1 bt369.2.2.1 bt369.2.2.2.1 bt369.2.2.2.2).bind fun bt378 => (if (t350 != t352) = true then (laws_FnBoxesTasted.j6 kj76 t347 t348 t349 t350 t353 t354 t355 t356 t359 t360 t361 t362 t365 t366 bt369.1 bt369.2.1 bt369.2.2.1 bt369.2.2.2.1 bt369.2.2.2.2 bt374.1 bt374.2 true) else (if t349 = t351 then (if (t356 != t358) = true then (laws_FnBoxesTasted.j6 kj76 t347 t348 t349 t350 t353 t354 t355 t356 t359 t360 t361 t362 t365 t366 bt369.1 bt369.2.1 bt369.2.2.1 bt369.2.2.2.1 bt369.2.2.2.2 bt374.1 bt374.2 true) else (if t355 = t357 then (if (t366 != t368) = true then (laws_FnBoxesTasted.j6 kj76 t347 t348 t349 t350 t353 t354 t355 t356 t359 t360 t361 t362 t365 t366 bt369.1 bt369.2.1 bt369.2.2.1 bt369.2.2.2.1 bt369.2.2.2.2 bt374.1 bt374.2 true) else (if t365 = t367 then (if (bt374.2 != bt378.2) = true then (laws_FnBoxesTasted.j6 kj76 t347 t348 t349 t350 t353 t354 t355 t356 t359 t360 t361 t362 t365 t366 bt369.1 bt369.2.1 bt369.2.2.1 bt369.2.2.2.1 bt369.2.2.2.2 bt374.1 bt374.2 true) else ((laws_ySame.f kj76 bt374.1 bt378.1).bind fun t382 => (laws_FnBoxesTasted.j6 kj76 t347 t348 t349 t350 t353 t354 t355 t356 t359 t360 t361 t362 t365 t366 bt369.1 bt369.2.1 bt369.2.2.1 bt369.2.2.2.1 bt369.2.2.2.2 bt374.1 bt374.2 (!t382)))) else (laws_FnBoxesTasted.j6 kj76 t347 t348 t349 t350 t353 t354 t355 t356 t359 t360 t361 t362 t365 t366 bt369.1 bt369.2.1 bt369.2.2.1 bt369.2.2.2.1 bt369.2.2.2.2 bt374.1 bt374.2 true))) else (laws_FnBoxesTasted.j6 kj76 t347 t348 t349 t350 t353 t354 t355 t356 t359 t360 t361 t362 t365 t366 bt369.1 bt369.2.1 bt369.2.2.1 bt369.2.2.2.1 bt369.2.2.2.2 bt374.1 bt374.2 true))) else (laws_FnBoxesTasted.j6 kj76 t347 t348 t349 t350 t353 t354 t355 t356 t359 t360 t361 t362 t365 t366 bt369.1 bt369.2.1 bt369.2.2.1 bt369.2.2.2.1 bt369.2.2.2.2 bt374.1 bt374.2 true)))))) = some r := H
       have A125 := Aside0.mk A1250
       clear A1250
       replace H := Option.bind_eq_some_iff.mp H
       obtain ⟨⟨t369, t370, t371, t372, t373⟩, A1260, H⟩ := H
       replace H : ((impl_TastedBy.f kj76 t369 t370 t371 t372 t373).bind fun bt374 => ((spec_TastedBy.f kj76 t369 t370 t371 t372 t373).bind fun bt378 => (if (t350 != t352) = true then (laws_FnBoxesTasted.j6 kj76 t347 t348 t349 t350 t353 t354 t355 t356 t359 t360 t361 t362 t365 t366 t369 t370 t371 t372 t373 bt374.1 bt374.2 true) else (if t349 = t351 then (if (t356 != t358) = true then (laws_FnBoxesTasted.j6 kj76 t347 t348 t349 t350 t353 t354 t355 t356 t359 t360 t361 t362 t365 t366 t369 t370 t371 t372 t373 bt374.1 bt374.2 true) else (if t355 = t357 then (if (t366 != t368) = true then (laws_FnBoxesTasted.j6 kj76 t347 t348 t349 t350 t353 t354 t355 t356 t359 t360 t361 t362 t365 t366 t369 t370 t371 t372 t373 bt374.1 bt374.2 true) else (if t365 = t367 then (if (bt374.2 != bt378.2) = true then (laws_FnBoxesTasted.j6 kj76 t347 t348 t349 t350 t353 t354 t355 t356 t359 t360 t361 t362 t365 t366 t369 t370 t371 t372 t373 bt374.1 bt374.2 true) else ((laws_ySame.f kj76 bt374.1 bt378.1).bind fun t382 => (laws_FnBoxesTasted.j6 kj76 t347 t348 t349 t350 t353 t354 t355 t356 t359 t360 t361 t362 t365 t366 t369 t370 t371 t372 t373 bt374.1 bt374.2 (!t382)))) else (laws_FnBoxesTasted.j6 kj76 t347 t348 t349 t350 t353 t354 t355 t356 t359 t360 t361 t362 t365 t366 t369 t370 t371 t372 t373 bt374.1 bt374.2 true))) else (laws_FnBoxesTasted.j6 kj76 t347 t348 t349 t350 t353 t354 t355 t356 t359 t360 t361 t362 t365 t366 t369 t370 t371 t372 t373 bt374.1 bt374.2 true))) else (laws_FnBoxesTasted.j6 kj76 t347 t348 t349 t350 t353 t354 t355 t356 t359 t360 t361 t362 t365 t366 t369 t370 t371 t372 t373 bt374.1 bt374.2 true))))) = some r := H
       have A126 := Aside0.mk A1260
       clear A1260
       replace H := Option.bind_eq_some_iff.mp H
       obtain ⟨⟨t374, t375⟩, A1270, H⟩ := H
       replace H : ((spec_TastedBy.f kj76 t369 t370 t371 t372 t373).bind fun bt378 => (if (t350 != t352) = true then (laws_FnBoxesTasted.j6 kj76 t347 t348 t349 t350 t353 t354 t355 t356 t359 t360 t361 t362 t365 t366 t369 t370 t371 t372 t373 t374 t375 true) else (if t349 = t351 then (if (t356 != t358) = true then (laws_FnBoxesTasted.j6 kj76 t347 t348 t349 t350 t353 t354 t355 t356 t359 t360 t361 t362 t365 t366 t369 t370 t371 t372 t373 t374 t375 true) else (if t355 = t357 then (if (t366 != t368) = true then (laws_FnBoxesTasted.j6 kj76 t347 t348 t349 t350 t353 t354 t355 t356 t359 t360 t361 t362 t365 t366 t369 t370 t371 t372 t373 t374 t375 true) else (if t365 = t367 then (if (t375 != bt378.2) = true then (laws_FnBoxesTasted.j6 kj76 t347 t348 t349 t350 t353 t354 t355 t356 t359 t360 t361 t362 t365 t366 t369 t370 t371 t372 t373 t374 t375 true) else ((laws_ySame.f kj76 t374 bt378.1).bind fun t382 => (laws_FnBoxesTasted.j6 kj76 t347 t348 t349 t350 t353 t354 t355 t356 t359 t360 t361 t362 t365 t366 t369 t370 t371 t372 t373 t374 t375 (!t382)))) else (laws_FnBoxesTasted.j6 kj76 t347 t348 t349 t350 t353 t354 t355 t356 t359 t360 t361 t362 t365 t366 t369 t370 t371 t372 t373 t374 t375 true))) else (laws_FnBoxesTasted.j6 kj76 t347 t348 t349 t350 t353 t354 t355 t356 t359 t360 t361 t362 t365 t366 t369 t370 t371 t372 t373 t374 t375 true))) else (laws_FnBoxesTasted.j6 kj76 t347 t348 t349 t350 t353 t354 t355 t356 t359 t360 t361 t362 t365 t366 t369 t370 t371 t372 t373 t374 t375 true)))) = some r := H
       have A127 := Aside0.mk A1270
       clear A1270
       replace H := Option.bind_eq_some_iff.mp H
       obtain ⟨⟨t378, t379⟩, A1280, H⟩ := H
       replace H : (if (t350 != t352) = true then (laws_FnBoxesTasted.j6 kj76 t347 t348 t349 t350 t353 t354 t355 t356 t359 t360 t361 t362 t365 t366 t369 t370 t371 t372 t373 t374 t375 true) else (if t349 = t351 then (if (t356 != t358) = true then (laws_FnBoxesTasted.j6 kj76 t347 t348 t349 t350 t353 t354 t355 t356 t359 t360 t361 t362 t365 t366 t369 t370 t371 t372 t373 t374 t375 true) else (if t355 = t357 then (if (t366 != t368) = true then (laws_FnBoxesTasted.j6 kj76 t347 t348 t349 t350 t353 t354 t355 t356 t359 t360 t361 t362 t365 t366 t369 t370 t371 t372 t373 t374 t375 true) else (if t365 = t367 then (if (t375 != t379) = true then (laws_FnBoxesTasted.j6 kj76 t347 t348 t349 t350 t353 t354 t355 t356 t359 t360 t361 t362 t365 t366 t369 t370 t371 t372 t373 t374 t375 true) else ((laws_ySame.f kj76 t374 t378).bind fun t382 => (laws_FnBoxesTasted.j6 kj76 t347 t348 t349 t350 t353 t354 t355 t356 t359 t360 t361 t362 t365 t366 t369 t370 t371 t372 t373 t374 t375 (!t382)))) else (laws_FnBoxesTasted.j6 kj76 t347 t348 t349 t350 t353 t354 t355 t356 t359 t360 t361 t362 t365 t366 t369 t370 t371 t372 t373 t374 t375 true))) else (laws_FnBoxesTasted.j6 kj76 t347 t348 t349 t350 t353 t354 t355 t356 t359 t360 t361 t362 t365 t366 t369 t370 t371 t372 t373 t374 t375 true))) else (laws_FnBoxesTasted.j6 kj76 t347 t348 t349 t350 t353 t354 t355 t356 t359 t360 t361 t362 t365 t366 t369 t370 t371 t372 t373 t374 t375 true))) = some r := H
       have A128 := Aside0.mk A1280
       clear A1280
       have HC129 := Aside0.mk H
       clear H
       go_upto_region 42 with (first | (go_at_call 48; (with_reducible refine (spec_DrawTastersFor.calls _ _ l1 t347 t348 _ ?side1 ?side2 A117.out).mono ?_); (case side1 => repeat (first | exact (Kd.C_below HR1.out HB.out) | (with_reducible refine Kd.C_alloc ?_ _) | (with_reducible refine Kd.C_drewN ?_ _) | (with_reducible refine Kd.C_drew ?_))); (case side2 => exact HC1.out); rintro e w130 ⟨rfl, hb⟩; have n0_ := Aside0.mk (below_step (Lam.al) hb); clear HB; have HB := n0_; clear n0_; (try clear hb); (try clear hb2); (try clear hk); (try clear hi)) | (go_at_call 49; (with_reducible refine (impl_TastersFor.calls kj76 t347 t348 t349 t350 _ A118.out).mono ?_); rintro e w131 ⟨rfl, hb⟩; have n0_ := Aside0.mk (below_step (Lam.al) hb); clear HB; have HB := n0_; clear n0_; (try clear hb); (try clear hb2); (try clear hk); (try clear hi)) | (go_at_call 50; (with_reducible refine (spec_TastersFor.calls kj76 t347 t348 t351 t352 _ A119.out).mono ?_); rintro e w' ⟨rfl, ⟨nd, rfl⟩⟩; (try first | exact ⟨rfl, _, World.drewN_drewN _ _ _⟩ | exact ⟨rfl, _, Eq.trans (World.drewN_drewN _ _ _) (congrArg (World.drewN _) (Nat.add_assoc _ _ _))⟩)) | (go_at_call 51; (with_reducible refine (spec_DrawRoundsFor.calls _ _ l1 t353 t354 _ ?side1 ?side2 A120.out).mono ?_); (case side1 => repeat (first | exact (Kd.C_below HR1.out (Lam.al)) | (with_reducible refine Kd.C_alloc ?_ _) | (with_reducible refine Kd.C_drewN ?_ _) | (with_reducible refine Kd.C_drew ?_))); (case side2 => exact HC1.out); rintro e w132 ⟨rfl, hb⟩; have n0_ := Aside0.mk (below_step (Lam.al) hb); clear HB; have HB := n0_; clear n0_; (try clear hb); (try clear hb2); (try clear hk); (try clear hi)) | (go_at_call 52; (with_reducible refine (impl_RoundsFor.calls kj76 t353 t354 t355 t356 _ A121.out).mono ?_); rintro e w133 ⟨rfl, hb⟩; have n0_ := Aside0.mk (below_step (Lam.al) hb); clear HB; have HB := n0_; clear n0_; (try clear hb); (try clear hb2); (try clear hk); (try clear hi)) | (go_at_call 53; (with_reducible refine (spec_RoundsFor.calls kj76 t353 t354 t357 t358 _ A122.out).mono ?_); rintro e w' ⟨rfl, ⟨nd, rfl⟩⟩; (try first | exact ⟨rfl, _, World.drewN_drewN _ _ _⟩ | exact ⟨rfl, _, Eq.trans (World.drewN_drewN _ _ _) (congrArg (World.drewN _) (Nat.add_assoc _ _ _))⟩)) | (go_at_call 54; (with_reducible refine (spec_DrawPralineOfCode.calls kj76 _ _ l1 t359 t360 t361 t362 _ ?side1 ?side2 A123.out).mono ?_); (case side1 => repeat (first | exact (Kd.C_below HR1.out (Lam.al)) | (with_reducible refine Kd.C_alloc ?_ _) | (with_reducible refine Kd.C_drewN ?_ _) | (with_reducible refine Kd.C_drew ?_))); (case side2 => exact HC1.out); rintro e w134 ⟨v363, rfl, ho0, hb⟩; have n0_ := Aside0.mk (Kd.R_lower ho0 (below_size (Lam.al))); have n1_ := Aside0.mk (below_step (Lam.al) hb); clear HB; have HO364 := n0_; have HB := n1_; clear n0_ n1_; (try clear hb); (try clear hb2); (try clear hk); (try clear hi); (try clear ho0); obtain ⟨Ao135, co135, eo135⟩ := Kd.R_slice HO364.out; subst eo135) | (go_at_call 46; (with_reducible refine (impl_PralineOfCode.calls kj76 t359 t360 t361 _ _ t362 t365 t366 _ ?side1 ?side2 A124.out).mono ?_); (case side1 => repeat (first | exact (Kd.R_reads' HO364.out).2.2 | (with_reducible refine Kd.C_alloc ?_ _) | (with_reducible refine Kd.C_drewN ?_ _) | (with_reducible refine Kd.C_drew ?_))); (case side2 => exact (Kd.R_reads' HO364.out).2.1); rintro e w136 ⟨rfl, hb⟩; have n0_ := Aside0.mk (Kd.R_below (Lam.rq HO364.out) hb); have n1_ := Aside0.mk (below_step (Lam.al) hb); clear HO364; clear HB; have HO364 := n0_; have HB := n1_; clear n0_ n1_; (try clear hb); (try clear hb2); (try clear hk); (try clear hi)) | (go_at_call 55; (with_reducible refine (spec_PralineOfCode.calls kj76 t359 t360 t361 _ _ t362 t367 t368 _ ?side1 ?side2 A125.out).mono ?_); (case side1 => repeat (first | exact (Kd.R_reads' HO364.out).2.2 | (with_reducible refine Kd.C_alloc ?_ _) | (with_reducible refine Kd.C_drewN ?_ _) | (with_reducible refine Kd.C_drew ?_))); (case side2 => exact (Kd.R_reads' HO364.out).2.1); rintro e w' ⟨rfl, ⟨nd, rfl⟩⟩; (try first | exact ⟨rfl, _, World.drewN_drewN _ _ _⟩ | exact ⟨rfl, _, Eq.trans (World.drewN_drewN _ _ _) (congrArg (World.drewN _) (Nat.add_assoc _ _ _))⟩)) | (go_at_call 56; (with_reducible refine (spec_DrawTastedBy.calls _ _ l1 t369 t370 t371 t372 t373 _ ?side1 ?side2 A126.out).mono ?_); (case side1 => repeat (first | exact (Kd.C_below HR1.out (Lam.al)) | (with_reducible refine Kd.C_alloc ?_ _) | (with_reducible refine Kd.C_drewN ?_ _) | (with_reducible refine Kd.C_drew ?_))); (case side2 => exact HC1.out); rintro e w137 ⟨rfl, hb⟩; have n0_ := Aside0.mk (Kd.R_below (Lam.rq HO364.out) hb); have n1_ := Aside0.mk (below_step (Lam.al) hb); clear HO364; clear HB; have HO364 := n0_; have HB := n1_; clear n0_ n1_; (try clear hb); (try clear hb2); (try clear hk); (try clear hi)) | (go_at_call 47; (with_reducible refine (impl_TastedBy.calls kj76 t369 t370 t371 t372 t373 t374 t375 _ A127.out).mono ?_); rintro e w138 ⟨v376, rfl, ho0, hb⟩; have n0_ := Aside0.mk (Kd.R_elder' (Lam.rq HO364.out) (Kd.R_base ho0) hb); have n1_ := Aside0.mk (Kd.R_lower (Kd.R_new' ho0 (Kd.R_lt (Lam.rq HO364.out))) (below_size (Lam.al))); have n2_ := Aside0.mk (below_step (Lam.al) hb); clear HO364; clear HB; have HO364 := n0_; have HO377 := n1_; have HB := n2_; clear n0_ n1_ n2_; (try clear hb); (try clear hb2); (try clear hk); (try clear hi); (try clear ho0)) | (go_at_call 57; (with_reducible refine (spec_TastedBy.calls kj76 t369 t370 t371 t372 t373 t378 t379 _ A128.out).mono ?_); rintro e w139 ⟨v380, rfl, ho0, hb⟩; have n0_ := Aside0.mk (Kd.R_elder' (Lam.rq HO364.out) (Kd.R_base ho0) hb); have n1_ := Aside0.mk (Kd.R_elder' (Lam.rq HO377.out) (Kd.R_base ho0) hb); have n2_ := Aside0.mk (Kd.R_lower (Kd.R_new' (Kd.R_new' ho0 (Kd.R_lt (Lam.rq HO364.out))) (Kd.R_lt (Lam.rq HO377.out))) (below_size (Lam.al))); have n3_ := Aside0.mk (below_step (Lam.al) hb); clear HO364; clear HO377; clear HB; have HO364 := n0_; have HO377 := n1_; have HO381 := n2_; have HB := n3_; clear n0_ n1_ n2_ n3_; (try clear hb); (try clear hb2); (try clear hk); (try clear hi); (try clear ho0)))
       repeat (go_quiet (first | (go_at_call 48; (with_reducible refine (spec_DrawTastersFor.calls _ _ l1 t347 t348 _ ?side1 ?side2 A117.out).mono ?_); (case side1 => repeat (first | exact (Kd.C_below HR1.out HB.out) | (with_reducible refine Kd.C_alloc ?_ _) | (with_reducible refine Kd.C_drewN ?_ _) | (with_reducible refine Kd.C_drew ?_))); (case side2 => exact HC1.out); rintro e w130 ⟨rfl, hb⟩; have n0_ := Aside0.mk (below_step (Lam.al) hb); clear HB; have HB := n0_; clear n0_; (try clear hb); (try clear hb2); (try clear hk); (try clear hi)) | (go_at_call 49; (with_reducible refine (impl_TastersFor.calls kj76 t347 t348 t349 t350 _ A118.out).mono ?_); rintro e w131 ⟨rfl, hb⟩; have n0_ := Aside0.mk (below_step (Lam.al) hb); clear HB; have HB := n0_; clear n0_; (try clear hb); (try clear hb2); (try clear hk); (try clear hi)) | (go_at_call 50; (with_reducible refine (spec_TastersFor.calls kj76 t347 t348 t351 t352 _ A119.out).mono ?_); rintro e w' ⟨rfl, ⟨nd, rfl⟩⟩; (try first | exact ⟨rfl, _, World.drewN_drewN _ _ _⟩ | exact ⟨rfl, _, Eq.trans (World.drewN_drewN _ _ _) (congrArg (World.drewN _) (Nat.add_assoc _ _ _))⟩)) | (go_at_call 51; (with_reducible refine (spec_DrawRoundsFor.calls _ _ l1 t353 t354 _ ?side1 ?side2 A120.out).mono ?_); (case side1 => repeat (first | exact (Kd.C_below HR1.out (Lam.al)) | (with_reducible refine Kd.C_alloc ?_ _) | (with_reducible refine Kd.C_drewN ?_ _) | (with_reducible refine Kd.C_drew ?_))); (case side2 => exact HC1.out); rintro e w132 ⟨rfl, hb⟩; have n0_ := Aside0.mk (below_step (Lam.al) hb); clear HB; have HB := n0_; clear n0_; (try clear hb); (try clear hb2); (try clear hk); (try clear hi)) | (go_at_call 52; (with_reducible refine (impl_RoundsFor.calls kj76 t353 t354 t355 t356 _ A121.out).mono ?_); rintro e w133 ⟨rfl, hb⟩; have n0_ := Aside0.mk (below_step (Lam.al) hb); clear HB; have HB := n0_; clear n0_; (try clear hb); (try clear hb2); (try clear hk); (try clear hi)) | (go_at_call 53; (with_reducible refine (spec_RoundsFor.calls kj76 t353 t354 t357 t358 _ A122.out).mono ?_); rintro e w' ⟨rfl, ⟨nd, rfl⟩⟩; (try first | exact ⟨rfl, _, World.drewN_drewN _ _ _⟩ | exact ⟨rfl, _, Eq.trans (World.drewN_drewN _ _ _) (congrArg (World.drewN _) (Nat.add_assoc _ _ _))⟩)) | (go_at_call 54; (with_reducible refine (spec_DrawPralineOfCode.calls kj76 _ _ l1 t359 t360 t361 t362 _ ?side1 ?side2 A123.out).mono ?_); (case side1 => repeat (first | exact (Kd.C_below HR1.out (Lam.al)) | (with_reducible refine Kd.C_alloc ?_ _) | (with_reducible refine Kd.C_drewN ?_ _) | (with_reducible refine Kd.C_drew ?_))); (case side2 => exact HC1.out); rintro e w134 ⟨v363, rfl, ho0, hb⟩; have n0_ := Aside0.mk (Kd.R_lower ho0 (below_size (Lam.al))); have n1_ := Aside0.mk (below_step (Lam.al) hb); clear HB; have HO364 := n0_; have HB := n1_; clear n0_ n1_; (try clear hb); (try clear hb2); (try clear hk); (try clear hi); (try clear ho0); obtain ⟨Ao135, co135, eo135⟩ := Kd.R_slice HO364.out; subst eo135) | (go_at_call 46; (with_reducible refine (impl_PralineOfCode.calls kj76 t359 t360 t361 _ _ t362 t365 t366 _ ?side1 ?side2 A124.out).mono ?_); (case side1 => repeat (first | exact (Kd.R_reads' HO364.out).2.2 | (with_reducible refine Kd.C_alloc ?_ _) | (with_reducible refine Kd.C_drewN ?_ _) | (with_reducible refine Kd.C_drew ?_))); (case side2 => exact (Kd.R_reads' HO364.out).2.1); rintro e w136 ⟨rfl, hb⟩; have n0_ := Aside0.mk (Kd.R_below (Lam.rq HO364.out) hb); have n1_ := Aside0.mk (below_step (Lam.al) hb); clear HO364; clear HB; have HO364 := n0_; have HB := n1_; clear n0_ n1_; (try clear hb); (try clear hb2); (try clear hk); (try clear hi)) | (go_at_call 55; (with_reducible refine (spec_PralineOfCode.calls kj76 t359 t360 t361 _ _ t362 t367 t368 _ ?side1 ?side2 A125.out).mono ?_); (case side1 => repeat (first | exact (Kd.R_reads' HO364.out).2.2 | (with_reducible refine Kd.C_alloc ?_ _) | (with_reducible refine Kd.C_drewN ?_ _) | (with_reducible refine Kd.C_drew ?_))); (case side2 => exact (Kd.R_reads' HO364.out).2.1); rintro e w' ⟨rfl, ⟨nd, rfl⟩⟩; (try first | exact ⟨rfl, _, World.drewN_drewN _ _ _⟩ | exact ⟨rfl, _, Eq.trans (World.drewN_drewN _ _ _) (congrArg (World.drewN _) (Nat.add_assoc _ _ _))⟩)) | (go_at_call 56; (with_reducible refine (spec_DrawTastedBy.calls _ _ l1 t369 t370 t371 t372 t373 _ ?side1 ?side2 A126.out).mono ?_); (case side1 => repeat (first | exact (Kd.C_below HR1.out (Lam.al)) | (with_reducible refine Kd.C_alloc ?_ _) | (with_reducible refine Kd.C_drewN ?_ _) | (with_reducible refine Kd.C_drew ?_))); (case side2 => exact HC1.out); rintro e w137 ⟨rfl, hb⟩; have n0_ := Aside0.mk (Kd.R_below (Lam.rq HO364.out) hb); have n1_ := Aside0.mk (below_step (Lam.al) hb); clear HO364; clear HB; have HO364 := n0_; have HB := n1_; clear n0_ n1_; (try clear hb); (try clear hb2); (try clear hk); (try clear hi)) | (go_at_call 47; (with_reducible refine (impl_TastedBy.calls kj76 t369 t370 t371 t372 t373 t374 t375 _ A127.out).mono ?_); rintro e w138 ⟨v376, rfl, ho0, hb⟩; have n0_ := Aside0.mk (Kd.R_elder' (Lam.rq HO364.out) (Kd.R_base ho0) hb); have n1_ := Aside0.mk (Kd.R_lower (Kd.R_new' ho0 (Kd.R_lt (Lam.rq HO364.out))) (below_size (Lam.al))); have n2_ := Aside0.mk (below_step (Lam.al) hb); clear HO364; clear HB; have HO364 := n0_; have HO377 := n1_; have HB := n2_; clear n0_ n1_ n2_; (try clear hb); (try clear hb2); (try clear hk); (try clear hi); (try clear ho0)) | (go_at_call 57; (with_reducible refine (spec_TastedBy.calls kj76 t369 t370 t371 t372 t373 t378 t379 _ A128.out).mono ?_); rintro e w139 ⟨v380, rfl, ho0, hb⟩; have n0_ := Aside0.mk (Kd.R_elder' (Lam.rq HO364.out) (Kd.R_base ho0) hb); have n1_ := Aside0.mk (Kd.R_elder' (Lam.rq HO377.out) (Kd.R_base ho0) hb); have n2_ := Aside0.mk (Kd.R_lower (Kd.R_new' (Kd.R_new' ho0 (Kd.R_lt (Lam.rq HO364.out))) (Kd.R_lt (Lam.rq HO377.out))) (below_size (Lam.al))); have n3_ := Aside0.mk (below_step (Lam.al) hb); clear HO364; clear HO377; clear HB; have HO364 := n0_; have HO377 := n1_; have HO381 := n2_; have HB := n3_; clear n0_ n1_ n2_ n3_; (try clear hb); (try clear hb2); (try clear hk); (try clear hi); (try clear ho0))); go_upto_region 42 with (first | (go_at_call 48; (with_reducible refine (spec_DrawTastersFor.calls _ _ l1 t347 t348 _ ?side1 ?side2 A117.out).mono ?_); (case side1 => repeat (first | exact (Kd.C_below HR1.out HB.out) | (with_reducible refine Kd.C_alloc ?_ _) | (with_reducible refine Kd.C_drewN ?_ _) | (with_reducible refine Kd.C_drew ?_))); (case side2 => exact HC1.out); rintro e w130 ⟨rfl, hb⟩; have n0_ := Aside0.mk (below_step (Lam.al) hb); clear HB; have HB := n0_; clear n0_; (try clear hb); (try clear hb2); (try clear hk); (try clear hi)) | (go_at_call 49; (with_reducible refine (impl_TastersFor.calls kj76 t347 t348 t349 t350 _ A118.out).mono ?_); rintro e w131 ⟨rfl, hb⟩; have n0_ := Aside0.mk (below_step (Lam.al) hb); clear HB; have HB := n0_; clear n0_; (try clear hb); (try clear hb2); (try clear hk); (try clear hi)) | (go_at_call 50; (with_reducible refine (spec_TastersFor.calls kj76 t347 t348 t351 t352 _ A119.out).mono ?_); rintro e w' ⟨rfl, ⟨nd, rfl⟩⟩; (try first | exact ⟨rfl, _, World.drewN_drewN _ _ _⟩ | exact ⟨rfl, _, Eq.trans (World.drewN_drewN _ _ _) (congrArg (World.drewN _) (Nat.add_assoc _ _ _))⟩)) | (go_at_call 51; (with_reducible refine (spec_DrawRoundsFor.calls _ _ l1 t353 t354 _ ?side1 ?side2 A120.out).mono ?_); (case side1 => repeat (first | exact (Kd.C_below HR1.out (Lam.al)) | (with_reducible refine Kd.C_alloc ?_ _) | (with_reducible refine Kd.C_drewN ?_ _) | (with_reducible refine Kd.C_drew ?_))); (case side2 => exact HC1.out); rintro e w132 ⟨rfl, hb⟩; have n0_ := Aside0.mk (below_step (Lam.al) hb); clear HB; have HB := n0_; clear n0_; (try clear hb); (try clear hb2); (try clear hk); (try clear hi)) | (go_at_call 52; (with_reducible refine (impl_RoundsFor.calls kj76 t353 t354 t355 t356 _ A121.out).mono ?_); rintro e w133 ⟨rfl, hb⟩; have n0_ := Aside0.mk (below_step (Lam.al) hb); clear HB; have HB := n0_; clear n0_; (try clear hb); (try clear hb2); (try clear hk); (try clear hi)) | (go_at_call 53; (with_reducible refine (spec_RoundsFor.calls kj76 t353 t354 t357 t358 _ A122.out).mono ?_); rintro e w' ⟨rfl, ⟨nd, rfl⟩⟩; (try first | exact ⟨rfl, _, World.drewN_drewN _ _ _⟩ | exact ⟨rfl, _, Eq.trans (World.drewN_drewN _ _ _) (congrArg (World.drewN _) (Nat.add_assoc _ _ _))⟩)) | (go_at_call 54; (with_reducible refine (spec_DrawPralineOfCode.calls kj76 _ _ l1 t359 t360 t361 t362 _ ?side1 ?side2 A123.out).mono ?_); (case side1 => repeat (first | exact (Kd.C_below HR1.out (Lam.al)) | (with_reducible refine Kd.C_alloc ?_ _) | (with_reducible refine Kd.C_drewN ?_ _) | (with_reducible refine Kd.C_drew ?_))); (case side2 => exact HC1.out); rintro e w134 ⟨v363, rfl, ho0, hb⟩; have n0_ := Aside0.mk (Kd.R_lower ho0 (below_size (Lam.al))); have n1_ := Aside0.mk (below_step (Lam.al) hb); clear HB; have HO364 := n0_; have HB := n1_; clear n0_ n1_; (try clear hb); (try clear hb2); (try clear hk); (try clear hi); (try clear ho0); obtain ⟨Ao135, co135, eo135⟩ := Kd.R_slice HO364.out; subst eo135) | (go_at_call 46; (with_reducible refine (impl_PralineOfCode.calls kj76 t359 t360 t361 _ _ t362 t365 t366 _ ?side1 ?side2 A124.out).mono ?_); (case side1 => repeat (first | exact (Kd.R_reads' HO364.out).2.2 | (with_reducible refine Kd.C_alloc ?_ _) | (with_reducible refine Kd.C_drewN ?_ _) | (with_reducible refine Kd.C_drew ?_))); (case side2 => exact (Kd.R_reads' HO364.out).2.1); rintro e w136 ⟨rfl, hb⟩; have n0_ := Aside0.mk (Kd.R_below (Lam.rq HO364.out) hb); have n1_ := Aside0.mk (below_step (Lam.al) hb); clear HO364; clear HB; have HO364 := n0_; have HB := n1_; clear n0_ n1_; (try clear hb); (try clear hb2); (try clear hk); (try clear hi)) | (go_at_call 55; (with_reducible refine (spec_PralineOfCode.calls kj76 t359 t360 t361 _ _ t362 t367 t368 _ ?side1 ?side2 A125.out).mono ?_); (case side1 => repeat (first | exact (Kd.R_reads' HO364.out).2.2 | (with_reducible refine Kd.C_alloc ?_ _) | (with_reducible refine Kd.C_drewN ?_ _) | (with_reducible refine Kd.C_drew ?_))); (case side2 => exact (Kd.R_reads' HO364.out).2.1); rintro e w' ⟨rfl, ⟨nd, rfl⟩⟩; (try first | exact ⟨rfl, _, World.drewN_drewN _ _ _⟩ | exact ⟨rfl, _, Eq.trans (World.drewN_drewN _ _ _) (congrArg (World.drewN _) (Nat.add_assoc _ _ _))⟩)) | (go_at_call 56; (with_reducible refine (spec_DrawTastedBy.calls _ _ l1 t369 t370 t371 t372 t373 _ ?side1 ?side2 A126.out).mono ?_); (case side1 => repeat (first | exact (Kd.C_below HR1.out (Lam.al)) | (with_reducible refine Kd.C_alloc ?_ _) | (with_reducible refine Kd.C_drewN ?_ _) | (with_reducible refine Kd.C_drew ?_))); (case side2 => exact HC1.out); rintro e w137 ⟨rfl, hb⟩; have n0_ := Aside0.mk (Kd.R_below (Lam.rq HO364.out) hb); have n1_ := Aside0.mk (below_step (Lam.al) hb); clear HO364; clear HB; have HO364 := n0_; have HB := n1_; clear n0_ n1_; (try clear hb); (try clear hb2); (try clear hk); (try clear hi)) | (go_at_call 47; (with_reducible refine (impl_TastedBy.calls kj76 t369 t370 t371 t372 t373 t374 t375 _ A127.out).mono ?_); rintro e w138 ⟨v376, rfl, ho0, hb⟩; have n0_ := Aside0.mk (Kd.R_elder' (Lam.rq HO364.out) (Kd.R_base ho0) hb); have n1_ := Aside0.mk (Kd.R_lower (Kd.R_new' ho0 (Kd.R_lt (Lam.rq HO364.out))) (below_size (Lam.al))); have n2_ := Aside0.mk (below_step (Lam.al) hb); clear HO364; clear HB; have HO364 := n0_; have HO377 := n1_; have HB := n2_; clear n0_ n1_ n2_; (try clear hb); (try clear hb2); (try clear hk); (try clear hi); (try clear ho0)) | (go_at_call 57; (with_reducible refine (spec_TastedBy.calls kj76 t369 t370 t371 t372 t373 t378 t379 _ A128.out).mono ?_); rintro e w139 ⟨v380, rfl, ho0, hb⟩; have n0_ := Aside0.mk (Kd.R_elder' (Lam.rq HO364.out) (Kd.R_base ho0) hb); have n1_ := Aside0.mk (Kd.R_elder' (Lam.rq HO377.out) (Kd.R_base ho0) hb); have n2_ := Aside0.mk (Kd.R_lower (Kd.R_new' (Kd.R_new' ho0 (Kd.R_lt (Lam.rq HO364.out))) (Kd.R_lt (Lam.rq HO377.out))) (below_size (Lam.al))); have n3_ := Aside0.mk (below_step (Lam.al) hb); clear HO364; clear HO377; clear HB; have HO364 := n0_; have HO377 := n1_; have HO381 := n2_; have HB := n3_; clear n0_ n1_ n2_ n3_; (try clear hb); (try clear hb2); (try clear hk); (try clear hi); (try clear ho0))))
       (try simp only [Act.put, Lam.pa, Lam.pb, Lam.pc])
       refine CutK.wp_cut3 (CutK.rl [71,0,129,1,3,0,179,1,1,2,132,1]) (fun v382 _ _ wc => ∃ (kq : Nat) (x382_128 : Bool), v382 = .bool x382_128 ∧ Aside0 (laws_FnBoxesTasted.j6 kq t347 t348 t349 t350 t353 t354 t355 t356 t359 t360 t361 t362 t365 t366 t369 t370 t371 t372 t373 t374 t375 x382_128 = some r) ∧ Aside0 (kq ≤ kj76) ∧ Aside0 (Kd.R (Kd.int .i64) 3 wc w.heap.size (fun k_ => some k_ ≠ (v376 : Value).ownBlock) (.slice Ao135 t362.length co135) t362) ∧ Aside0 (Kd.R (Kd.int .i64) 3 wc w.heap.size (fun k_ => some k_ ≠ ((.slice Ao135 t362.length co135) : Value).ownBlock) v376 t374) ∧ Aside0 (Below w.heap.size w wc)) ?rest6 ?first6
       case first6 =>
        intro J_ K_ hJ_6 hK_
        dsimp only [CutK.rl, List.replicate, List.cons_append, List.nil_append] at hJ_6
        have H := HC129.out
        clear HC129
        by_cases c140 : (t350 != t352) = true
        ·rw [if_pos c140] at H
         have c140b0 : (t350 != t352) = true := c140
         (try (have c140b1 : decide (t350 = t352) = false := by simpa using c140))
         (try (have c140b2 : (t350 == t352) = false := by simpa using c140))
         (try (have c140b3 : ¬ (t350 = t352) := by simpa using c140))
         clear c140
         (first | rw [c140b0] | (simp only [i64_w, i32_w]; rw [c140b0]) | skip)
         have H' := Aside0.mk H
         clear H
         go_wp2
         repeat (go_quiet (fail); try go_wp2)
         refine Met.intro (hJ_6 _ ?va141 undef undef _ ?kp ?rel)
         case kp => simp only [↓CutK.keep0, ↓CutK.keep1, ↓CutK.keep2, ↓CutK.keep3, ↓CutK.keep4, ↓CutK.keepN, true_and, and_true] <;> exact rfl
         case rel => exact ⟨_, (true), (by first | rfl | (simp; done) | (simp [*]; done)), H', ⟨by have := HJ11.out; have := HJ76.out; first | omega | exact Nat.le_refl _⟩, ⟨by (with_reducible repeat (first | apply Kd.R_alloc | apply Kd.R_drewN | apply Kd.R_drew)); exact Kd.R_mono HO364.out (fun _ hk => hk.1.2)⟩, ⟨by (with_reducible repeat (first | apply Kd.R_alloc | apply Kd.R_drewN | apply Kd.R_drew)); exact Kd.R_mono HO377.out (fun _ hk => hk.1.2)⟩, ⟨Lam.al⟩⟩
        ·rw [if_neg c140] at H
         have c140b0 : (t350 != t352) = false := by simpa using c140
         (try (have c140b1 : decide (t350 = t352) = true := by simpa using c140))
         (try (have c140b2 : (t350 == t352) = true := by simpa using c140))
         clear c140
         (first | rw [c140b0] | (simp only [i64_w, i32_w]; rw [c140b0]) | skip)
         by_cases c142 : t349 = t351
         ·rw [if_pos c142] at H
          have c142b0 : (t349 == t351) = true := beq_iff_eq.mpr c142
          have c142b1 : (t349 != t351) = false := bne_eq_false_iff_eq.mpr c142
          clear c142
          by_cases c143 : (t356 != t358) = true
          ·rw [if_pos c143] at H
           have c143b0 : (t356 != t358) = true := c143
           (try (have c143b1 : decide (t356 = t358) = false := by simpa using c143))
           (try (have c143b2 : (t356 == t358) = false := by simpa using c143))
           (try (have c143b3 : ¬ (t356 = t358) := by simpa using c143))
           clear c143
           have H' := Aside0.mk H
           clear H
           go_wp2
           repeat (go_quiet (fail); try go_wp2)
           refine Met.intro (hJ_6 _ ?va144 undef undef _ ?kp ?rel)
           case kp => simp only [↓CutK.keep0, ↓CutK.keep1, ↓CutK.keep2, ↓CutK.keep3, ↓CutK.keep4, ↓CutK.keepN, true_and, and_true] <;> exact rfl
           case rel => exact ⟨_, (true), (by first | rfl | (simp; done) | (simp [*]; done)), H', ⟨by have := HJ11.out; have := HJ76.out; first | omega | exact Nat.le_refl _⟩, ⟨by (with_reducible repeat (first | apply Kd.R_alloc | apply Kd.R_drewN | apply Kd.R_drew)); exact Kd.R_mono HO364.out (fun _ hk => hk.1.2)⟩, ⟨by (with_reducible repeat (first | apply Kd.R_alloc | apply Kd.R_drewN | apply Kd.R_drew)); exact Kd.R_mono HO377.out (fun _ hk => hk.1.2)⟩, ⟨Lam.al⟩⟩
          ·rw [if_neg c143] at H
           have c143b0 : (t356 != t358) = false := by simpa using c143
           (try (have c143b1 : decide (t356 = t358) = true := by simpa using c143))
           (try (have c143b2 : (t356 == t358) = true := by simpa using c143))
           clear c143
           by_cases c145 : t355 = t357
           ·rw [if_pos c145] at H
            have c145b0 : (t355 == t357) = true := beq_iff_eq.mpr c145
            have c145b1 : (t355 != t357) = false := bne_eq_false_iff_eq.mpr c145
            clear c145
            by_cases c146 : (t366 != t368) = true
            ·rw [if_pos c146] at H
             have c146b0 : (t366 != t368) = true := c146
             (try (have c146b1 : decide (t366 = t368) = false := by simpa using c146))
             (try (have c146b2 : (t366 == t368) = false := by simpa using c146))
             (try (have c146b3 : ¬ (t366 = t368) := by simpa using c146))
             clear c146
             have H' := Aside0.mk H
             clear H
             go_wp2
             repeat (go_quiet (fail); try go_wp2)
             refine Met.intro (hJ_6 _ ?va147 undef undef _ ?kp ?rel)
             case kp => simp only [↓CutK.keep0, ↓CutK.keep1, ↓CutK.keep2, ↓CutK.keep3, ↓CutK.keep4, ↓CutK.keepN, true_and, and_true] <;> exact rfl
             case rel => exact ⟨_, (true), (by first | rfl | (simp; done) | (simp [*]; done)), H', ⟨by have := HJ11.out; have := HJ76.out; first | omega | exact Nat.le_refl _⟩, ⟨by (with_reducible repeat (first | apply Kd.R_alloc | apply Kd.R_drewN | apply Kd.R_drew)); exact Kd.R_mono HO364.out (fun _ hk => hk.1.2)⟩, ⟨by (with_reducible repeat (first | apply Kd.R_alloc | apply Kd.R_drewN | apply Kd.R_drew)); exact Kd.R_mono HO377.out (fun _ hk => hk.1.2)⟩, ⟨Lam.al⟩⟩
            ·rw [if_neg c146] at H
             have c146b0 : (t366 != t368) = false := by simpa using c146
             (try (have c146b1 : decide (t366 = t368) = true := by simpa using c146))
             (try (have c146b2 : (t366 == t368) = true := by simpa using c146))
             clear c146
             by_cases c148 : t365 = t367
             ·rw [if_pos c148] at H
              have c148b0 : (t365 == t367) = true := beq_iff_eq.mpr c148
              have c148b1 : (t365 != t367) = false := bne_eq_false_iff_eq.mpr c148
              clear c148
              by_cases c149 : (t375 != t379) = true
              ·rw [if_pos c149] at H
               have c149b0 : (t375 != t379) = true := c149
               (try (have c149b1 : decide (t375 = t379) = false := by simpa using c149))
               (try (have c149b2 : (t375 == t379) = false := by simpa using c149))
               (try (have c149b3 : ¬ (t375 = t379) := by simpa using c149))
               clear c149
               have H' := Aside0.mk H
               clear H
               go_wp2
               repeat (go_quiet (fail); try go_wp2)
               refine Met.intro (hJ_6 _ ?va150 undef undef _ ?kp ?rel)
               case kp => simp only [↓CutK.keep0, ↓CutK.keep1, ↓CutK.keep2, ↓CutK.keep3, ↓CutK.keep4, ↓CutK.keepN, true_and, and_true] <;> exact rfl
               case rel => exact ⟨_, (true), (by first | rfl | (simp; done) | (simp [*]; done)), H', ⟨by have := HJ11.out; have := HJ76.out; first | omega | exact Nat.le_refl _⟩, ⟨by (with_reducible repeat (first | apply Kd.R_alloc | apply Kd.R_drewN | apply Kd.R_drew)); exact Kd.R_mono HO364.out (fun _ hk => hk.1.2)⟩, ⟨by (with_reducible repeat (first | apply Kd.R_alloc | apply Kd.R_drewN | apply Kd.R_drew)); exact Kd.R_mono HO377.out (fun _ hk => hk.1.2)⟩, ⟨Lam.al⟩⟩
              ·rw [if_neg c149] at H
               have c149b0 : (t375 != t379) = false := by simpa using c149
               (try (have c149b1 : decide (t375 = t379) = true := by simpa using c149))
               (try (have c149b2 : (t375 == t379) = true := by simpa using c149))
               clear c149
               replace H := Option.bind_eq_some_iff.mp H
               obtain ⟨t382, A1510, H⟩ := H
               replace H : (laws_FnBoxesTasted.j6 kj76 t347 t348 t349 t350 t353 t354 t355 t356 t359 t360 t361 t362 t365 t366 t369 t370 t371 t372 t373 t374 t375 (!t382)) = some r := H
               have A151 := Aside0.mk A1510
               clear A1510
               have H' := Aside0.mk H
               clear H
               obtain ⟨Ao152, co152, eo152⟩ := Kd.R_slice HO377.out
               subst eo152
               obtain ⟨Ao153, co153, eo153⟩ := Kd.R_slice HO381.out
               subst eo153
               go_wp2_with (first | (go_at_call 45; (with_reducible refine (laws_ySame.calls kj76 _ _ t374 _ _ t378 t382 _ ?side1 ?side2 ?side3 ?side4 A151.out).mono ?_); (case side1 => repeat (first | exact (Kd.R_reads' HO377.out).2.2 | (with_reducible refine Kd.C_alloc ?_ _) | (with_reducible refine Kd.C_drewN ?_ _) | (with_reducible refine Kd.C_drew ?_))); (case side2 => exact (Kd.R_reads' HO377.out).2.1); (case side3 => repeat (first | exact (Kd.R_reads' HO381.out).2.2 | (with_reducible refine Kd.C_alloc ?_ _) | (with_reducible refine Kd.C_drewN ?_ _) | (with_reducible refine Kd.C_drew ?_))); (case side4 => exact (Kd.R_reads' HO381.out).2.1); rintro e w' ⟨rfl, ⟨nd, rfl⟩⟩; (try first | exact ⟨rfl, _, World.drewN_drewN _ _ _⟩ | exact ⟨rfl, _, Eq.trans (World.drewN_drewN _ _ _) (congrArg (World.drewN _) (Nat.add_assoc _ _ _))⟩)))
               repeat (go_quiet (first | (go_at_call 45; (with_reducible refine (laws_ySame.calls kj76 _ _ t374 _ _ t378 t382 _ ?side1 ?side2 ?side3 ?side4 A151.out).mono ?_); (case side1 => repeat (first | exact (Kd.R_reads' HO377.out).2.2 | (with_reducible refine Kd.C_alloc ?_ _) | (with_reducible refine Kd.C_drewN ?_ _) | (with_reducible refine Kd.C_drew ?_))); (case side2 => exact (Kd.R_reads' HO377.out).2.1); (case side3 => repeat (first | exact (Kd.R_reads' HO381.out).2.2 | (with_reducible refine Kd.C_alloc ?_ _) | (with_reducible refine Kd.C_drewN ?_ _) | (with_reducible refine Kd.C_drew ?_))); (case side4 => exact (Kd.R_reads' HO381.out).2.1); rintro e w' ⟨rfl, ⟨nd, rfl⟩⟩; (try first | exact ⟨rfl, _, World.drewN_drewN _ _ _⟩ | exact ⟨rfl, _, Eq.trans (World.drewN_drewN _ _ _) (congrArg (World.drewN _) (Nat.add_assoc _ _ _))⟩))); try go_wp2_with (first | (go_at_call 45; (with_reducible refine (laws_ySame.calls kj76 _ _ t374 _ _ t378 t382 _ ?side1 ?side2 ?side3 ?side4 A151.out).mono ?_); (case side1 => repeat (first | exact (Kd.R_reads' HO377.out).2.2 | (with_reducible refine Kd.C_alloc ?_ _) | (with_reducible refine Kd.C_drewN ?_ _) | (with_reducible refine Kd.C_drew ?_))); (case side2 => exact (Kd.R_reads' HO377.out).2.1); (case side3 => repeat (first | exact (Kd.R_reads' HO381.out).2.2 | (with_reducible refine Kd.C_alloc ?_ _) | (with_reducible refine Kd.C_drewN ?_ _) | (with_reducible refine Kd.C_drew ?_))); (case side4 => exact (Kd.R_reads' HO381.out).2.1); rintro e w' ⟨rfl, ⟨nd, rfl⟩⟩; (try first | exact ⟨rfl, _, World.drewN_drewN _ _ _⟩ | exact ⟨rfl, _, Eq.trans (World.drewN_drewN _ _ _) (congrArg (World.drewN _) (Nat.add_assoc _ _ _))⟩))))
               refine Met.intro (hJ_6 _ ?va154 undef undef _ ?kp ?rel)
               case kp => simp only [↓CutK.keep0, ↓CutK.keep1, ↓CutK.keep2, ↓CutK.keep3, ↓CutK.keep4, ↓CutK.keepN, true_and, and_true] <;> exact rfl
               case rel => exact ⟨_, (!t382), (by first | rfl | (simp; done) | (simp [*]; done)), H', ⟨by have := HJ11.out; have := HJ76.out; first | omega | exact Nat.le_refl _⟩, ⟨by (with_reducible repeat (first | apply Kd.R_alloc | apply Kd.R_drewN | apply Kd.R_drew)); exact Kd.R_mono HO364.out (fun _ hk => hk.1.2)⟩, ⟨by (with_reducible repeat (first | apply Kd.R_alloc | apply Kd.R_drewN | apply Kd.R_drew)); exact Kd.R_mono HO377.out (fun _ hk => hk.1.2)⟩, ⟨Lam.al⟩⟩
             ·rw [if_neg c148] at H
              have c148b0 : (t365 == t367) = false := beq_eq_false_iff_ne.mpr c148
              have c148b1 : (t365 != t367) = true := bne_iff_ne.mpr c148
              have H' := Aside0.mk H
              clear H
              go_wp2
              repeat (go_quiet (fail); try go_wp2)
              refine Met.intro (hJ_6 _ ?va155 undef undef _ ?kp ?rel)
              case kp => simp only [↓CutK.keep0, ↓CutK.keep1, ↓CutK.keep2, ↓CutK.keep3, ↓CutK.keep4, ↓CutK.keepN, true_and, and_true] <;> exact rfl
              case rel => exact ⟨_, (true), (by first | rfl | (simp; done) | (simp [*]; done)), H', ⟨by have := HJ11.out; have := HJ76.out; first | omega | exact Nat.le_refl _⟩, ⟨by (with_reducible repeat (first | apply Kd.R_alloc | apply Kd.R_drewN | apply Kd.R_drew)); exact Kd.R_mono HO364.out (fun _ hk => hk.1.2)⟩, ⟨by (with_reducible repeat (first | apply Kd.R_alloc | apply Kd.R_drewN | apply Kd.R_drew)); exact Kd.R_mono HO377.out (fun _ hk => hk.1.2)⟩, ⟨Lam.al⟩⟩
           ·rw [if_neg c145] at H
            have c145b0 : (t355 == t357) = false := beq_eq_false_iff_ne.mpr c145
            have c145b1 : (t355 != t357) = true := bne_iff_ne.mpr c145
            have H' := Aside0.mk H
            clear H
            go_wp2
            repeat (go_quiet (fail); try go_wp2)
            refine Met.intro (hJ_6 _ ?va156 undef undef _ ?kp ?rel)
            case kp => simp only [↓CutK.keep0, ↓CutK.keep1, ↓CutK.keep2, ↓CutK.keep3, ↓CutK.keep4, ↓CutK.keepN, true_and, and_true] <;> exact rfl
            case rel => exact ⟨_, (true), (by first | rfl | (simp; done) | (simp [*]; done)), H', ⟨by have := HJ11.out; have := HJ76.out; first | omega | exact Nat.le_refl _⟩, ⟨by (with_reducible repeat (first | apply Kd.R_alloc | apply Kd.R_drewN | apply Kd.R_drew)); exact Kd.R_mono HO364.out (fun _ hk => hk.1.2)⟩, ⟨by (with_reducible repeat (first | apply Kd.R_alloc | apply Kd.R_drewN | apply Kd.R_drew)); exact Kd.R_mono HO377.out (fun _ hk => hk.1.2)⟩, ⟨Lam.al⟩⟩
         ·rw [if_neg c142] at H
          have c142b0 : (t349 == t351) = false := beq_eq_false_iff_ne.mpr c142
          have c142b1 : (t349 != t351) = true := bne_iff_ne.mpr c142
          have H' := Aside0.mk H
          clear H
          go_wp2
          repeat (go_quiet (fail); try go_wp2)
          refine Met.intro (hJ_6 _ ?va157 undef undef _ ?kp ?rel)
          case kp => simp only [↓CutK.keep0, ↓CutK.keep1, ↓CutK.keep2, ↓CutK.keep3, ↓CutK.keep4, ↓CutK.keepN, true_and, and_true] <;> exact rfl
          case rel => exact ⟨_, (true), (by first | rfl | (simp; done) | (simp [*]; done)), H', ⟨by have := HJ11.out; have := HJ76.out; first | omega | exact Nat.le_refl _⟩, ⟨by (with_reducible repeat (first | apply Kd.R_alloc | apply Kd.R_drewN | apply Kd.R_drew)); exact Kd.R_mono HO364.out (fun _ hk => hk.1.2)⟩, ⟨by (with_reducible repeat (first | apply Kd.R_alloc | apply Kd.R_drewN | apply Kd.R_drew)); exact Kd.R_mono HO377.out (fun _ hk => hk.1.2)⟩, ⟨Lam.al⟩⟩
       case rest6 =>
        intro v382 _ _ g_ wc hcut
        dsimp only [CutK.rl, List.replicate, List.cons_append, List.nil_append]
        dsimp only [↓CutK.mix0, ↓CutK.mix1, ↓CutK.mix2, ↓CutK.mix3, ↓CutK.mix4, ↓CutK.mixN, Nat.reduceAdd, Nat.zero_add]
        clear HC129
        try clear c1
        try clear c4
        try clear c76
        obtain ⟨kq, x382_128, rfl, HA, HJ128, HO_44, HO_54, HB⟩ := hcut
        cases kq with
        | zero => exact absurd HA.out (by simp [laws_FnBoxesTasted.j6])
        | succ kj128 =>
         have H := HA.out
         clear HA
         simp only [laws_FnBoxesTasted.j6] at H
         by_cases c158 : x382_128 = true
         ·subst c158
          have H1 : (none) = some r := by rw [if_pos rfl] at H; exact H
          clear H
          have H := H1
          clear H1
          exact absurd H (by simp)
         ·replace c158 := Bool.eq_false_iff.mpr c158
          subst c158
          have H1 : (if t350 = true then (laws_FnBoxesTasted.j7 kj128 t347 t348 t349 t350 t353 t354 t355 t356 t359 t360 t361 t362 t365 t366 t369 t370 t371 t372 t373 t374 t375 (decide (t349 ≥ 1))) else (laws_FnBoxesTasted.j7 kj128 t347 t348 t349 t350 t353 t354 t355 t356 t359 t360 t361 t362 t365 t366 t369 t370 t371 t372 t373 t374 t375 false)) = some r := by rw [if_neg (show ¬ (false = true) by decide)] at H; exact H
          clear H
          have H := H1
          clear H1
          have HC159 := Aside0.mk H
          clear H
          go_upto_region 44 with (fail)
          repeat (go_quiet (fail); go_upto_region 44 with (fail))
          refine CutK.wp_cut3 (CutK.rl [71,0,129,1,3,0,184,1,1,2,127,1]) (fun v387 _ _ wc => ∃ (kq : Nat) (x387_158 : Bool), v387 = .bool x387_158 ∧ Aside0 (laws_FnBoxesTasted.j7 kq t347 t348 t349 t350 t353 t354 t355 t356 t359 t360 t361 t362 t365 t366 t369 t370 t371 t372 t373 t374 t375 x387_158 = some r) ∧ Aside0 (kq ≤ kj128) ∧ Aside0 (Kd.R (Kd.int .i64) 3 wc w.heap.size (fun k_ => some k_ ≠ (v376 : Value).ownBlock) (.slice Ao135 t362.length co135) t362) ∧ Aside0 (Kd.R (Kd.int .i64) 3 wc w.heap.size (fun k_ => some k_ ≠ ((.slice Ao135 t362.length co135) : Value).ownBlock) v376 t374) ∧ Aside0 (Below w.heap.size w wc)) ?rest7 ?first7
          case first7 =>
           intro J_ K_ hJ_7 hK_
           dsimp only [CutK.rl, List.replicate, List.cons_append, List.nil_append] at hJ_7
           have H := HC159.out
           clear HC159
           by_cases c160 : t350 = true
           ·subst c160
            have H1 : (laws_FnBoxesTasted.j7 kj128 t347 t348 t349 true t353 t354 t355 t356 t359 t360 t361 t362 t365 t366 t369 t370 t371 t372 t373 t374 t375 (decide (t349 ≥ 1))) = some r := by rw [if_pos rfl] at H; exact H
            clear H
            have H := H1
            clear H1
            have H' := Aside0.mk H
            clear H
            go_wp2
            repeat (go_quiet (fail); try go_wp2)
            refine Met.intro (hJ_7 _ ?va161 undef undef _ ?kp ?rel)
            case kp => simp only [↓CutK.keep0, ↓CutK.keep1, ↓CutK.keep2, ↓CutK.keep3, ↓CutK.keep4, ↓CutK.keepN, true_and, and_true] <;> exact rfl
            case rel => exact ⟨_, (decide (t349 ≥ 1)), (by first | rfl | (simp; done) | (simp [*]; done)), H', ⟨by have := HJ11.out; have := HJ76.out; have := HJ128.out; first | omega | exact Nat.le_refl _⟩, ⟨Lam.rq HO_44.out⟩, ⟨Lam.rq HO_54.out⟩, ⟨Lam.al⟩⟩
           ·replace c160 := Bool.eq_false_iff.mpr c160
            subst c160
            have H1 : (laws_FnBoxesTasted.j7 kj128 t347 t348 t349 false t353 t354 t355 t356 t359 t360 t361 t362 t365 t366 t369 t370 t371 t372 t373 t374 t375 false) = some r := by rw [if_neg (show ¬ (false = true) by decide)] at H; exact H
            clear H
            have H := H1
            clear H1
            have H' := Aside0.mk H
            clear H
            go_wp2
            repeat (go_quiet (fail); try go_wp2)
            refine Met.intro (hJ_7 _ ?va162 undef undef _ ?kp ?rel)
            case kp => simp only [↓CutK.keep0, ↓CutK.keep1, ↓CutK.keep2, ↓CutK.keep3, ↓CutK.keep4, ↓CutK.keepN, true_and, and_true] <;> exact rfl
            case rel => exact ⟨_, (false), (by first | rfl | (simp; done) | (simp [*]; done)), H', ⟨by have := HJ11.out; have := HJ76.out; have := HJ128.out; first | omega | exact Nat.le_refl _⟩, ⟨Lam.rq HO_44.out⟩, ⟨Lam.rq HO_54.out⟩, ⟨Lam.al⟩⟩
          case rest7 =>
           intro v387 _ _ g_ wc hcut
           dsimp only [CutK.rl, List.replicate, List.cons_append, List.nil_append]
           dsimp only [↓CutK.mix0, ↓CutK.mix1, ↓CutK.mix2, ↓CutK.mix3, ↓CutK.mix4, ↓CutK.mixN, Nat.reduceAdd, Nat.zero_add]
           clear HC159
           try clear c1
           try clear c4
           try clear c76
           try clear c158
           obtain ⟨kq, x387_158, rfl, HA, HJ158, HO_44, HO_54, HB⟩ := hcut
           cases kq with
           | zero => exact absurd HA.out (by simp [laws_FnBoxesTasted.j7])
           | succ kj158 =>
            have H := HA.out
            clear HA
            simp only [laws_FnBoxesTasted.j7] at H
            have HC163 := Aside0.mk H
            clear H
            go_upto_if 387 with (fail)
            repeat (go_quiet (fail); go_upto_if 387 with (fail))
            refine CutK.wp_cut3 (CutK.rl [4,0,1,1,53,0,4,1,9,0,129,1,3,0,312,1]) (fun _ _ _ wc => ∃ (kq : Nat), Aside0 (laws_FnBoxesTasted.j9 kq t347 t349 t350 t353 t354 t355 t356 t359 t360 t361 t362 t365 t366 t369 t370 t371 t372 t373 t374 t375 = some r) ∧ Aside0 (kq ≤ kj158) ∧ Aside0 (Kd.R (Kd.int .i64) 3 wc w.heap.size (fun k_ => some k_ ≠ (v376 : Value).ownBlock) (.slice Ao135 t362.length co135) t362) ∧ Aside0 (Kd.R (Kd.int .i64) 3 wc w.heap.size (fun k_ => some k_ ≠ ((.slice Ao135 t362.length co135) : Value).ownBlock) v376 t374) ∧ Aside0 (Below w.heap.size w wc)) ?rest9 ?first9
            case first9 =>
             intro J_ K_ hJ_9 hK_
             dsimp only [CutK.rl, List.replicate, List.cons_append, List.nil_append] at hJ_9
             have H := HC163.out
             clear HC163
             by_cases c164 : x387_158 = true
             ·subst c164
              have H1 : ((impl_MostPralines.f kj158 t349 t348).bind fun bt383 => (if bt383.2 = true then (laws_FnBoxesTasted.j8 kj158 t347 t348 t349 t350 t353 t354 t355 t356 t359 t360 t361 t362 t365 t366 t369 t370 t371 t372 t373 t374 t375 (decide (bt383.1 < t347))) else (laws_FnBoxesTasted.j8 kj158 t347 t348 t349 t350 t353 t354 t355 t356 t359 t360 t361 t362 t365 t366 t369 t370 t371 t372 t373 t374 t375 true))) = some r := by rw [if_pos rfl] at H; exact H
              clear H
              have H := H1
              clear H1
              replace H := Option.bind_eq_some_iff.mp H
              obtain ⟨⟨t383, t384⟩, A1650, H⟩ := H
              replace H : (if t384 = true then (laws_FnBoxesTasted.j8 kj158 t347 t348 t349 t350 t353 t354 t355 t356 t359 t360 t361 t362 t365 t366 t369 t370 t371 t372 t373 t374 t375 (decide (t383 < t347))) else (laws_FnBoxesTasted.j8 kj158 t347 t348 t349 t350 t353 t354 t355 t356 t359 t360 t361 t362 t365 t366 t369 t370 t371 t372 t373 t374 t375 true)) = some r := H
              have A165 := Aside0.mk A1650
              clear A1650
              have HC166 := Aside0.mk H
              clear H
              go_upto_region 46 with (first | (go_at_call 41; (with_reducible refine (impl_MostPralines.calls kj158 t349 t348 t383 t384 _ A165.out).mono ?_); rintro e w167 ⟨rfl, hb⟩; have n0_ := Aside0.mk (Kd.R_below (Lam.rq HO_44.out) hb); have n1_ := Aside0.mk (Kd.R_below (Lam.rq HO_54.out) hb); have n2_ := Aside0.mk (below_step (Lam.al) hb); clear HO_44; clear HO_54; clear HB; have HO_44 := n0_; have HO_54 := n1_; have HB := n2_; clear n0_ n1_ n2_; (try clear hb); (try clear hb2); (try clear hk); (try clear hi)))
              repeat (go_quiet (first | (go_at_call 41; (with_reducible refine (impl_MostPralines.calls kj158 t349 t348 t383 t384 _ A165.out).mono ?_); rintro e w167 ⟨rfl, hb⟩; have n0_ := Aside0.mk (Kd.R_below (Lam.rq HO_44.out) hb); have n1_ := Aside0.mk (Kd.R_below (Lam.rq HO_54.out) hb); have n2_ := Aside0.mk (below_step (Lam.al) hb); clear HO_44; clear HO_54; clear HB; have HO_44 := n0_; have HO_54 := n1_; have HB := n2_; clear n0_ n1_ n2_; (try clear hb); (try clear hb2); (try clear hk); (try clear hi))); go_upto_region 46 with (first | (go_at_call 41; (with_reducible refine (impl_MostPralines.calls kj158 t349 t348 t383 t384 _ A165.out).mono ?_); rintro e w167 ⟨rfl, hb⟩; have n0_ := Aside0.mk (Kd.R_below (Lam.rq HO_44.out) hb); have n1_ := Aside0.mk (Kd.R_below (Lam.rq HO_54.out) hb); have n2_ := Aside0.mk (below_step (Lam.al) hb); clear HO_44; clear HO_54; clear HB; have HO_44 := n0_; have HO_54 := n1_; have HB := n2_; clear n0_ n1_ n2_; (try clear hb); (try clear hb2); (try clear hk); (try clear hi))))
              (try simp only [Act.put, Lam.pa, Lam.pb, Lam.pc])
              refine CutK.wp_cut3 (CutK.rl [71,0,129,1,3,0,197,1,1,2,114,1]) (fun v400 _ _ wc => ∃ (kq : Nat) (x400_165 : Bool), v400 = .bool x400_165 ∧ Aside0 (laws_FnBoxesTasted.j8 kq t347 t348 t349 t350 t353 t354 t355 t356 t359 t360 t361 t362 t365 t366 t369 t370 t371 t372 t373 t374 t375 x400_165 = some r) ∧ Aside0 (kq ≤ kj158) ∧ Aside0 (Kd.R (Kd.int .i64) 3 wc w.heap.size (fun k_ => some k_ ≠ (v376 : Value).ownBlock) (.slice Ao135 t362.length co135) t362) ∧ Aside0 (Kd.R (Kd.int .i64) 3 wc w.heap.size (fun k_ => some k_ ≠ ((.slice Ao135 t362.length co135) : Value).ownBlock) v376 t374) ∧ Aside0 (Below w.heap.size w wc)) ?rest8 ?first8
              case first8 =>
               intro J_ K_ hJ_8 hK_
               dsimp only [CutK.rl, List.replicate, List.cons_append, List.nil_append] at hJ_8
               have H := HC166.out
               clear HC166
               by_cases c168 : t384 = true
               ·subst c168
                have H1 : (laws_FnBoxesTasted.j8 kj158 t347 t348 t349 t350 t353 t354 t355 t356 t359 t360 t361 t362 t365 t366 t369 t370 t371 t372 t373 t374 t375 (decide (t383 < t347))) = some r := by rw [if_pos rfl] at H; exact H
                clear H
                have H := H1
                clear H1
                have H' := Aside0.mk H
                clear H
                go_wp2
                repeat (go_quiet (fail); try go_wp2)
                refine Met.intro (hJ_8 _ ?va169 undef undef _ ?kp ?rel)
                case kp => simp only [↓CutK.keep0, ↓CutK.keep1, ↓CutK.keep2, ↓CutK.keep3, ↓CutK.keep4, ↓CutK.keepN, true_and, and_true] <;> exact rfl
                case rel => exact ⟨_, (decide (t383 < t347)), (by first | rfl | (simp; done) | (simp [*]; done)), H', ⟨by have := HJ11.out; have := HJ76.out; have := HJ128.out; have := HJ158.out; first | omega | exact Nat.le_refl _⟩, ⟨Lam.rq HO_44.out⟩, ⟨Lam.rq HO_54.out⟩, ⟨Lam.al⟩⟩
               ·replace c168 := Bool.eq_false_iff.mpr c168
                subst c168
                have H1 : (laws_FnBoxesTasted.j8 kj158 t347 t348 t349 t350 t353 t354 t355 t356 t359 t360 t361 t362 t365 t366 t369 t370 t371 t372 t373 t374 t375 true) = some r := by rw [if_neg (show ¬ (false = true) by decide)] at H; exact H
                clear H
                have H := H1
                clear H1
                have H' := Aside0.mk H
                clear H
                go_wp2
                repeat (go_quiet (fail); try go_wp2)
                refine Met.intro (hJ_8 _ ?va170 undef undef _ ?kp ?rel)
                case kp => simp only [↓CutK.keep0, ↓CutK.keep1, ↓CutK.keep2, ↓CutK.keep3, ↓CutK.keep4, ↓CutK.keepN, true_and, and_true] <;> exact rfl
                case rel => exact ⟨_, (true), (by first | rfl | (simp; done) | (simp [*]; done)), H', ⟨by have := HJ11.out; have := HJ76.out; have := HJ128.out; have := HJ158.out; first | omega | exact Nat.le_refl _⟩, ⟨Lam.rq HO_44.out⟩, ⟨Lam.rq HO_54.out⟩, ⟨Lam.al⟩⟩
              case rest8 =>
               intro v400 _ _ g_ wc hcut
               dsimp only [CutK.rl, List.replicate, List.cons_append, List.nil_append]
               dsimp only [↓CutK.mix0, ↓CutK.mix1, ↓CutK.mix2, ↓CutK.mix3, ↓CutK.mix4, ↓CutK.mixN, Nat.reduceAdd, Nat.zero_add]
               clear HC166
               try clear c1
               try clear c4
               try clear c76
               try clear c158
               try clear c164
               obtain ⟨kq, x400_165, rfl, HA, HJ165, HO_44, HO_54, HB⟩ := hcut
               cases kq with
               | zero => exact absurd HA.out (by simp [laws_FnBoxesTasted.j8])
               | succ kj165 =>
                have H := HA.out
                clear HA
                simp only [laws_FnBoxesTasted.j8] at H
                by_cases c171 : x400_165 = true
                ·subst c171
                 have H1 : (none) = some r := by rw [if_pos rfl] at H; exact H
                 clear H
                 have H := H1
                 clear H1
                 exact absurd H (by simp)
                ·replace c171 := Bool.eq_false_iff.mpr c171
                 subst c171
                 have H1 : (if t349 > 1 then ((impl_MostPralines.f kj165 (wrap64 (t349 - 1)) t348).bind fun bt385 => (if bt385.2 = true then (if bt385.1 ≥ t347 then (none) else (laws_FnBoxesTasted.j9 kj165 t347 t349 t350 t353 t354 t355 t356 t359 t360 t361 t362 t365 t366 t369 t370 t371 t372 t373 t374 t375)) else (none))) else (laws_FnBoxesTasted.j9 kj165 t347 t349 t350 t353 t354 t355 t356 t359 t360 t361 t362 t365 t366 t369 t370 t371 t372 t373 t374 t375)) = some r := by rw [if_neg (show ¬ (false = true) by decide)] at H; exact H
                 clear H
                 have H := H1
                 clear H1
                 by_cases c172 : t349 > 1
                 ·rw [if_pos c172] at H
                  have c172b0 : decide (1 < t349) = true := decide_eq_true c172
                  clear c172
                  replace H := Option.bind_eq_some_iff.mp H
                  obtain ⟨⟨t385, t386⟩, A1730, H⟩ := H
                  replace H : (if t386 = true then (if t385 ≥ t347 then (none) else (laws_FnBoxesTasted.j9 kj165 t347 t349 t350 t353 t354 t355 t356 t359 t360 t361 t362 t365 t366 t369 t370 t371 t372 t373 t374 t375)) else (none)) = some r := H
                  have A173 := Aside0.mk A1730
                  clear A1730
                  by_cases c174 : t386 = true
                  ·subst c174
                   have H1 : (if t385 ≥ t347 then (none) else (laws_FnBoxesTasted.j9 kj165 t347 t349 t350 t353 t354 t355 t356 t359 t360 t361 t362 t365 t366 t369 t370 t371 t372 t373 t374 t375)) = some r := by rw [if_pos rfl] at H; exact H
                   clear H
                   have H := H1
                   clear H1
                   by_cases c175 : t385 ≥ t347
                   ·rw [if_pos c175] at H
                    exact absurd H (by simp)
                   ·rw [if_neg c175] at H
                    have c175b0 : decide (t347 ≤ t385) = false := decide_eq_false c175
                    clear c175
                    have H' := Aside0.mk H
                    clear H
                    go_wp2_with (first | (go_at_call 41; (with_reducible refine (impl_MostPralines.calls kj165 (wrap64 (t349 - 1)) t348 t385 true _ A173.out).mono ?_); rintro e w176 ⟨rfl, hb⟩; have n0_ := Aside0.mk (Kd.R_below (Lam.rq HO_44.out) hb); have n1_ := Aside0.mk (Kd.R_below (Lam.rq HO_54.out) hb); have n2_ := Aside0.mk (below_step (Lam.al) hb); clear HO_44; clear HO_54; clear HB; have HO_44 := n0_; have HO_54 := n1_; have HB := n2_; clear n0_ n1_ n2_; (try clear hb); (try clear hb2); (try clear hk); (try clear hi)))
                    repeat (go_quiet (first | (go_at_call 41; (with_reducible refine (impl_MostPralines.calls kj165 (wrap64 (t349 - 1)) t348 t385 true _ A173.out).mono ?_); rintro e w176 ⟨rfl, hb⟩; have n0_ := Aside0.mk (Kd.R_below (Lam.rq HO_44.out) hb); have n1_ := Aside0.mk (Kd.R_below (Lam.rq HO_54.out) hb); have n2_ := Aside0.mk (below_step (Lam.al) hb); clear HO_44; clear HO_54; clear HB; have HO_44 := n0_; have HO_54 := n1_; have HB := n2_; clear n0_ n1_ n2_; (try clear hb); (try clear hb2); (try clear hk); (try clear hi))); try go_wp2_with (first | (go_at_call 41; (with_reducible refine (impl_MostPralines.calls kj165 (wrap64 (t349 - 1)) t348 t385 true _ A173.out).mono ?_); rintro e w176 ⟨rfl, hb⟩; have n0_ := Aside0.mk (Kd.R_below (Lam.rq HO_44.out) hb); have n1_ := Aside0.mk (Kd.R_below (Lam.rq HO_54.out) hb); have n2_ := Aside0.mk (below_step (Lam.al) hb); clear HO_44; clear HO_54; clear HB; have HO_44 := n0_; have HO_54 := n1_; have HB := n2_; clear n0_ n1_ n2_; (try clear hb); (try clear hb2); (try clear hk); (try clear hi))))
                    refine Met.intro (hJ_9 _ undef undef undef _ ?kp ?rel)
                    case kp => simp only [↓CutK.keep0, ↓CutK.keep1, ↓CutK.keep2, ↓CutK.keep3, ↓CutK.keep4, ↓CutK.keepN, true_and, and_true]
                    case rel => exact ⟨_, H', ⟨by have := HJ11.out; have := HJ76.out; have := HJ128.out; have := HJ158.out; have := HJ165.out; first | omega | exact Nat.le_refl _⟩, ⟨Lam.rq HO_44.out⟩, ⟨Lam.rq HO_54.out⟩, ⟨Lam.al⟩⟩
                  ·replace c174 := Bool.eq_false_iff.mpr c174
                   subst c174
                   have H1 : (none) = some r := by rw [if_neg (show ¬ (false = true) by decide)] at H; exact H
                   clear H
                   have H := H1
                   clear H1
                   exact absurd H (by simp)
                 ·rw [if_neg c172] at H
                  have c172b0 : decide (1 < t349) = false := decide_eq_false c172
                  clear c172
                  have H' := Aside0.mk H
                  clear H
                  go_wp2
                  repeat (go_quiet (fail); try go_wp2)
                  refine Met.intro (hJ_9 _ undef undef undef _ ?kp ?rel)
                  case kp => simp only [↓CutK.keep0, ↓CutK.keep1, ↓CutK.keep2, ↓CutK.keep3, ↓CutK.keep4, ↓CutK.keepN, true_and, and_true]
                  case rel => exact ⟨_, H', ⟨by have := HJ11.out; have := HJ76.out; have := HJ128.out; have := HJ158.out; have := HJ165.out; first | omega | exact Nat.le_refl _⟩, ⟨Lam.rq HO_44.out⟩, ⟨Lam.rq HO_54.out⟩, ⟨Lam.al⟩⟩
             ·replace c164 := Bool.eq_false_iff.mpr c164
              subst c164
              have H1 : (laws_FnBoxesTasted.j9 kj158 t347 t349 t350 t353 t354 t355 t356 t359 t360 t361 t362 t365 t366 t369 t370 t371 t372 t373 t374 t375) = some r := by rw [if_neg (show ¬ (false = true) by decide)] at H; exact H
              clear H
              have H := H1
              clear H1
              have H' := Aside0.mk H
              clear H
              go_wp2
              repeat (go_quiet (fail); try go_wp2)
              refine Met.intro (hJ_9 _ undef undef undef _ ?kp ?rel)
              case kp => simp only [↓CutK.keep0, ↓CutK.keep1, ↓CutK.keep2, ↓CutK.keep3, ↓CutK.keep4, ↓CutK.keepN, true_and, and_true]
              case rel => exact ⟨_, H', ⟨by have := HJ11.out; have := HJ76.out; have := HJ128.out; have := HJ158.out; first | omega | exact Nat.le_refl _⟩, ⟨Lam.rq HO_44.out⟩, ⟨Lam.rq HO_54.out⟩, ⟨Lam.al⟩⟩
            case rest9 =>
             intro _ _ _ g_ wc hcut
             dsimp only [CutK.rl, List.replicate, List.cons_append, List.nil_append]
             dsimp only [↓CutK.mix0, ↓CutK.mix1, ↓CutK.mix2, ↓CutK.mix3, ↓CutK.mix4, ↓CutK.mixN, Nat.reduceAdd, Nat.zero_add]
             clear HC163
             try clear c1
             try clear c4
             try clear c76
             try clear c158
             obtain ⟨kq, HA, HJ162, HO_44, HO_54, HB⟩ := hcut
             cases kq with
             | zero => exact absurd HA.out (by simp [laws_FnBoxesTasted.j9])
             | succ kj162 =>
              have H := HA.out
              clear HA
              simp only [laws_FnBoxesTasted.j9] at H
              have HC177 := Aside0.mk H
              clear H
              go_upto_region 52 with (fail)
              repeat (go_quiet (fail); go_upto_region 52 with (fail))
              refine CutK.wp_cut3 (CutK.rl [71,0,129,1,3,0,221,1,1,2,90,1]) (fun v424 _ _ wc => ∃ (kq : Nat) (x424_176 : Bool), v424 = .bool x424_176 ∧ Aside0 (laws_FnBoxesTasted.j10 kq t353 t354 t355 t356 t359 t360 t361 t362 t365 t366 t369 t370 t371 t372 t373 t374 t375 x424_176 = some r) ∧ Aside0 (kq ≤ kj162) ∧ Aside0 (Kd.R (Kd.int .i64) 3 wc w.heap.size (fun k_ => some k_ ≠ (v376 : Value).ownBlock) (.slice Ao135 t362.length co135) t362) ∧ Aside0 (Kd.R (Kd.int .i64) 3 wc w.heap.size (fun k_ => some k_ ≠ ((.slice Ao135 t362.length co135) : Value).ownBlock) v376 t374) ∧ Aside0 (Below w.heap.size w wc)) ?rest10 ?first10
              case first10 =>
               intro J_ K_ hJ_10 hK_
               dsimp only [CutK.rl, List.replicate, List.cons_append, List.nil_append] at hJ_10
               have H := HC177.out
               clear HC177
               by_cases c178 : t350 = true
               ·subst c178
                have H1 : (laws_FnBoxesTasted.j10 kj162 t353 t354 t355 t356 t359 t360 t361 t362 t365 t366 t369 t370 t371 t372 t373 t374 t375 ((t349 == 0) != (t347 == 1))) = some r := by rw [if_pos rfl] at H; exact H
                clear H
                have H := H1
                clear H1
                have H' := Aside0.mk H
                clear H
                go_wp2
                repeat (go_quiet (fail); try go_wp2)
                refine Met.intro (hJ_10 _ ?va179 undef undef _ ?kp ?rel)
                case kp => simp only [↓CutK.keep0, ↓CutK.keep1, ↓CutK.keep2, ↓CutK.keep3, ↓CutK.keep4, ↓CutK.keepN, true_and, and_true] <;> exact rfl
                case rel => exact ⟨_, (((t349 == 0) != (t347 == 1))), (by first | rfl | (simp; done) | (simp [*]; done)), H', ⟨by have := HJ11.out; have := HJ76.out; have := HJ128.out; have := HJ158.out; have := HJ162.out; first | omega | exact Nat.le_refl _⟩, ⟨Lam.rq HO_44.out⟩, ⟨Lam.rq HO_54.out⟩, ⟨Lam.al⟩⟩
               ·replace c178 := Bool.eq_false_iff.mpr c178
                subst c178
                have H1 : (laws_FnBoxesTasted.j10 kj162 t353 t354 t355 t356 t359 t360 t361 t362 t365 t366 t369 t370 t371 t372 t373 t374 t375 false) = some r := by rw [if_neg (show ¬ (false = true) by decide)] at H; exact H
                clear H
                have H := H1
                clear H1
                have H' := Aside0.mk H
                clear H
                go_wp2
                repeat (go_quiet (fail); try go_wp2)
                refine Met.intro (hJ_10 _ ?va180 undef undef _ ?kp ?rel)
                case kp => simp only [↓CutK.keep0, ↓CutK.keep1, ↓CutK.keep2, ↓CutK.keep3, ↓CutK.keep4, ↓CutK.keepN, true_and, and_true] <;> exact rfl
                case rel => exact ⟨_, (false), (by first | rfl | (simp; done) | (simp [*]; done)), H', ⟨by have := HJ11.out; have := HJ76.out; have := HJ128.out; have := HJ158.out; have := HJ162.out; first | omega | exact Nat.le_refl _⟩, ⟨Lam.rq HO_44.out⟩, ⟨Lam.rq HO_54.out⟩, ⟨Lam.al⟩⟩
              case rest10 =>
               intro v424 _ _ g_ wc hcut
               dsimp only [CutK.rl, List.replicate, List.cons_append, List.nil_append]
               dsimp only [↓CutK.mix0, ↓CutK.mix1, ↓CutK.mix2, ↓CutK.mix3, ↓CutK.mix4, ↓CutK.mixN, Nat.reduceAdd, Nat.zero_add]
               clear HC177
               try clear c1
               try clear c4
               try clear c76
               try clear c158
               obtain ⟨kq, x424_176, rfl, HA, HJ176, HO_44, HO_54, HB⟩ := hcut
               cases kq with
               | zero => exact absurd HA.out (by simp [laws_FnBoxesTasted.j10])
               | succ kj176 =>
                have H := HA.out
                clear HA
                simp only [laws_FnBoxesTasted.j10] at H
                by_cases c181 : x424_176 = true
                ·subst c181
                 have H1 : (none) = some r := by rw [if_pos rfl] at H; exact H
                 clear H
                 have H := H1
                 clear H1
                 exact absurd H (by simp)
                ·replace c181 := Bool.eq_false_iff.mpr c181
                 subst c181
                 have H1 : (if t356 = true then (if t355 ≥ 1 then (laws_FnBoxesTasted.j11 kj176 t353 t354 t355 t359 t360 t361 t362 t365 t366 t369 t370 t371 t372 t373 t374 t375 (decide (t355 ≤ 20))) else (laws_FnBoxesTasted.j11 kj176 t353 t354 t355 t359 t360 t361 t362 t365 t366 t369 t370 t371 t372 t373 t374 t375 false)) else (laws_FnBoxesTasted.j11 kj176 t353 t354 t355 t359 t360 t361 t362 t365 t366 t369 t370 t371 t372 t373 t374 t375 false)) = some r := by rw [if_neg (show ¬ (false = true) by decide)] at H; exact H
                 clear H
                 have H := H1
                 clear H1
                 have HC182 := Aside0.mk H
                 clear H
                 go_upto_region 54 with (fail)
                 repeat (go_quiet (fail); go_upto_region 54 with (fail))
                 refine CutK.wp_cut3 (CutK.rl [71,0,129,1,3,0,230,1,1,2,81,1]) (fun v433 _ _ wc => ∃ (kq : Nat) (x433_181 : Bool), v433 = .bool x433_181 ∧ Aside0 (laws_FnBoxesTasted.j11 kq t353 t354 t355 t359 t360 t361 t362 t365 t366 t369 t370 t371 t372 t373 t374 t375 x433_181 = some r) ∧ Aside0 (kq ≤ kj176) ∧ Aside0 (Kd.R (Kd.int .i64) 3 wc w.heap.size (fun k_ => some k_ ≠ (v376 : Value).ownBlock) (.slice Ao135 t362.length co135) t362) ∧ Aside0 (Kd.R (Kd.int .i64) 3 wc w.heap.size (fun k_ => some k_ ≠ ((.slice Ao135 t362.length co135) : Value).ownBlock) v376 t374) ∧ Aside0 (Below w.heap.size w wc)) ?rest11 ?first11
                 case first11 =>
                  intro J_ K_ hJ_11 hK_
                  dsimp only [CutK.rl, List.replicate, List.cons_append, List.nil_append] at hJ_11
                  have H := HC182.out
                  clear HC182
                  by_cases c183 : t356 = true
                  ·subst c183
                   have H1 : (if t355 ≥ 1 then (laws_FnBoxesTasted.j11 kj176 t353 t354 t355 t359 t360 t361 t362 t365 t366 t369 t370 t371 t372 t373 t374 t375 (decide (t355 ≤ 20))) else (laws_FnBoxesTasted.j11 kj176 t353 t354 t355 t359 t360 t361 t362 t365 t366 t369 t370 t371 t372 t373 t374 t375 false)) = some r := by rw [if_pos rfl] at H; exact H
                   clear H
                   have H := H1
                   clear H1
                   by_cases c184 : t355 ≥ 1
                   ·rw [if_pos c184] at H
                    have c184b0 : decide (1 ≤ t355) = true := decide_eq_true c184
                    clear c184
                    (first | rw [c184b0] | (simp only [i64_w, i32_w]; rw [c184b0]) | skip)
                    have H' := Aside0.mk H
                    clear H
                    go_wp2
                    repeat (go_quiet (fail); try go_wp2)
                    refine Met.intro (hJ_11 _ ?va185 undef undef _ ?kp ?rel)
                    case kp => simp only [↓CutK.keep0, ↓CutK.keep1, ↓CutK.keep2, ↓CutK.keep3, ↓CutK.keep4, ↓CutK.keepN, true_and, and_true] <;> exact rfl
                    case rel => exact ⟨_, (decide (t355 ≤ 20)), (by first | rfl | (simp; done) | (simp [*]; done)), H', ⟨by have := HJ11.out; have := HJ76.out; have := HJ128.out; have := HJ158.out; have := HJ162.out; have := HJ176.out; first | omega | exact Nat.le_refl _⟩, ⟨Lam.rq HO_44.out⟩, ⟨Lam.rq HO_54.out⟩, ⟨Lam.al⟩⟩
                   ·rw [if_neg c184] at H
                    have c184b0 : decide (1 ≤ t355) = false := decide_eq_false c184
                    clear c184
                    (first | rw [c184b0] | (simp only [i64_w, i32_w]; rw [c184b0]) | skip)
                    have H' := Aside0.mk H
                    clear H
                    go_wp2
                    repeat (go_quiet (fail); try go_wp2)
                    refine Met.intro (hJ_11 _ ?va186 undef undef _ ?kp ?rel)
                    case kp => simp only [↓CutK.keep0, ↓CutK.keep1, ↓CutK.keep2, ↓CutK.keep3, ↓CutK.keep4, ↓CutK.keepN, true_and, and_true] <;> exact rfl
                    case rel => exact ⟨_, (false), (by first | rfl | (simp; done) | (simp [*]; done)), H', ⟨by have := HJ11.out; have := HJ76.out; have := HJ128.out; have := HJ158.out; have := HJ162.out; have := HJ176.out; first | omega | exact Nat.le_refl _⟩, ⟨Lam.rq HO_44.out⟩, ⟨Lam.rq HO_54.out⟩, ⟨Lam.al⟩⟩
                  ·replace c183 := Bool.eq_false_iff.mpr c183
                   subst c183
                   have H1 : (laws_FnBoxesTasted.j11 kj176 t353 t354 t355 t359 t360 t361 t362 t365 t366 t369 t370 t371 t372 t373 t374 t375 false) = some r := by rw [if_neg (show ¬ (false = true) by decide)] at H; exact H
                   clear H
                   have H := H1
                   clear H1
                   have H' := Aside0.mk H
                   clear H
                   go_wp2
                   repeat (go_quiet (fail); try go_wp2)
                   refine Met.intro (hJ_11 _ ?va187 undef undef _ ?kp ?rel)
                   case kp => simp only [↓CutK.keep0, ↓CutK.keep1, ↓CutK.keep2, ↓CutK.keep3, ↓CutK.keep4, ↓CutK.keepN, true_and, and_true] <;> exact rfl
                   case rel => exact ⟨_, (false), (by first | rfl | (simp; done) | (simp [*]; done)), H', ⟨by have := HJ11.out; have := HJ76.out; have := HJ128.out; have := HJ158.out; have := HJ162.out; have := HJ176.out; first | omega | exact Nat.le_refl _⟩, ⟨Lam.rq HO_44.out⟩, ⟨Lam.rq HO_54.out⟩, ⟨Lam.al⟩⟩
                 case rest11 =>
                  intro v433 _ _ g_ wc hcut
                  dsimp only [CutK.rl, List.replicate, List.cons_append, List.nil_append]
                  dsimp only [↓CutK.mix0, ↓CutK.mix1, ↓CutK.mix2, ↓CutK.mix3, ↓CutK.mix4, ↓CutK.mixN, Nat.reduceAdd, Nat.zero_add]
                  clear HC182
                  try clear c1
                  try clear c4
                  try clear c76
                  try clear c158
                  try clear c181
                  obtain ⟨kq, x433_181, rfl, HA, HJ181, HO_44, HO_54, HB⟩ := hcut
                  cases kq with
                  | zero => exact absurd HA.out (by simp [laws_FnBoxesTasted.j11])
                  | succ kj181 =>
                   have H := HA.out
                   clear HA
                   simp only [laws_FnBoxesTasted.j11] at H
                   have HC188 := Aside0.mk H
                   clear H
                   go_upto_if 433 with (fail)
                   repeat (go_quiet (fail); go_upto_if 433 with (fail))
                   refine CutK.wp_cut3 (CutK.rl [4,0,1,1,57,0,4,1,5,0,129,1,3,0,312,1]) (fun _ _ _ wc => ∃ (kq : Nat), Aside0 (laws_FnBoxesTasted.j13 kq t359 t360 t361 t362 t365 t366 t369 t370 t371 t372 t373 t374 t375 = some r) ∧ Aside0 (kq ≤ kj181) ∧ Aside0 (Kd.R (Kd.int .i64) 3 wc w.heap.size (fun k_ => some k_ ≠ (v376 : Value).ownBlock) (.slice Ao135 t362.length co135) t362) ∧ Aside0 (Kd.R (Kd.int .i64) 3 wc w.heap.size (fun k_ => some k_ ≠ ((.slice Ao135 t362.length co135) : Value).ownBlock) v376 t374) ∧ Aside0 (Below w.heap.size w wc)) ?rest13 ?first13
                   case first13 =>
                    intro J_ K_ hJ_13 hK_
                    dsimp only [CutK.rl, List.replicate, List.cons_append, List.nil_append] at hJ_13
                    have H := HC188.out
                    clear HC188
                    by_cases c189 : x433_181 = true
                    ·subst c189
                     have H1 : ((impl_MostPralines.f kj181 t354 t355).bind fun bt387 => (if bt387.2 = true then (laws_FnBoxesTasted.j12 kj181 t353 t354 t355 t359 t360 t361 t362 t365 t366 t369 t370 t371 t372 t373 t374 t375 (decide (bt387.1 < t353))) else (laws_FnBoxesTasted.j12 kj181 t353 t354 t355 t359 t360 t361 t362 t365 t366 t369 t370 t371 t372 t373 t374 t375 true))) = some r := by rw [if_pos rfl] at H; exact H
                     clear H
                     have H := H1
                     clear H1
                     replace H := Option.bind_eq_some_iff.mp H
                     obtain ⟨⟨t387, t388⟩, A1900, H⟩ := H
                     replace H : (if t388 = true then (laws_FnBoxesTasted.j12 kj181 t353 t354 t355 t359 t360 t361 t362 t365 t366 t369 t370 t371 t372 t373 t374 t375 (decide (t387 < t353))) else (laws_FnBoxesTasted.j12 kj181 t353 t354 t355 t359 t360 t361 t362 t365 t366 t369 t370 t371 t372 t373 t374 t375 true)) = some r := H
                     have A190 := Aside0.mk A1900
                     clear A1900
                     have HC191 := Aside0.mk H
                     clear H
                     go_upto_region 56 with (first | (go_at_call 41; (with_reducible refine (impl_MostPralines.calls kj181 t354 t355 t387 t388 _ A190.out).mono ?_); rintro e w192 ⟨rfl, hb⟩; have n0_ := Aside0.mk (Kd.R_below (Lam.rq HO_44.out) hb); have n1_ := Aside0.mk (Kd.R_below (Lam.rq HO_54.out) hb); have n2_ := Aside0.mk (below_step (Lam.al) hb); clear HO_44; clear HO_54; clear HB; have HO_44 := n0_; have HO_54 := n1_; have HB := n2_; clear n0_ n1_ n2_; (try clear hb); (try clear hb2); (try clear hk); (try clear hi)))
                     repeat (go_quiet (first | (go_at_call 41; (with_reducible refine (impl_MostPralines.calls kj181 t354 t355 t387 t388 _ A190.out).mono ?_); rintro e w192 ⟨rfl, hb⟩; have n0_ := Aside0.mk (Kd.R_below (Lam.rq HO_44.out) hb); have n1_ := Aside0.mk (Kd.R_below (Lam.rq HO_54.out) hb); have n2_ := Aside0.mk (below_step (Lam.al) hb); clear HO_44; clear HO_54; clear HB; have HO_44 := n0_; have HO_54 := n1_; have HB := n2_; clear n0_ n1_ n2_; (try clear hb); (try clear hb2); (try clear hk); (try clear hi))); go_upto_region 56 with (first | (go_at_call 41; (with_reducible refine (impl_MostPralines.calls kj181 t354 t355 t387 t388 _ A190.out).mono ?_); rintro e w192 ⟨rfl, hb⟩; have n0_ := Aside0.mk (Kd.R_below (Lam.rq HO_44.out) hb); have n1_ := Aside0.mk (Kd.R_below (Lam.rq HO_54.out) hb); have n2_ := Aside0.mk (below_step (Lam.al) hb); clear HO_44; clear HO_54; clear HB; have HO_44 := n0_; have HO_54 := n1_; have HB := n2_; clear n0_ n1_ n2_; (try clear hb); (try clear hb2); (try clear hk); (try clear hi))))
                     (try simp only [Act.put, Lam.pa, Lam.pb, Lam.pc])
                     refine CutK.wp_cut3 (CutK.rl [71,0,129,1,3,0,243,1,1,2,68,1]) (fun v446 _ _ wc => ∃ (kq : Nat) (x446_190 : Bool), v446 = .bool x446_190 ∧ Aside0 (laws_FnBoxesTasted.j12 kq t353 t354 t355 t359 t360 t361 t362 t365 t366 t369 t370 t371 t372 t373 t374 t375 x446_190 = some r) ∧ Aside0 (kq ≤ kj181) ∧ Aside0 (Kd.R (Kd.int .i64) 3 wc w.heap.size (fun k_ => some k_ ≠ (v376 : Value).ownBlock) (.slice Ao135 t362.length co135) t362) ∧ Aside0 (Kd.R (Kd.int .i64) 3 wc w.heap.size (fun k_ => some k_ ≠ ((.slice Ao135 t362.length co135) : Value).ownBlock) v376 t374) ∧ Aside0 (Below w.heap.size w wc)) ?rest12 ?first12
                     case first12 =>
                      intro J_ K_ hJ_12 hK_
                      dsimp only [CutK.rl, List.replicate, List.cons_append, List.nil_append] at hJ_12
                      have H := HC191.out
                      clear HC191
                      by_cases c193 : t388 = true
                      ·subst c193
                       have H1 : (laws_FnBoxesTasted.j12 kj181 t353 t354 t355 t359 t360 t361 t362 t365 t366 t369 t370 t371 t372 t373 t374 t375 (decide (t387 < t353))) = some r := by rw [if_pos rfl] at H; exact H
                       clear H
                       have H := H1
                       clear H1
                       have H' := Aside0.mk H
                       clear H
                       go_wp2
                       repeat (go_quiet (fail); try go_wp2)
                       refine Met.intro (hJ_12 _ ?va194 undef undef _ ?kp ?rel)
                       case kp => simp only [↓CutK.keep0, ↓CutK.keep1, ↓CutK.keep2, ↓CutK.keep3, ↓CutK.keep4, ↓CutK.keepN, true_and, and_true] <;> exact rfl
                       case rel => exact ⟨_, (decide (t387 < t353)), (by first | rfl | (simp; done) | (simp [*]; done)), H', ⟨by have := HJ11.out; have := HJ76.out; have := HJ128.out; have := HJ158.out; have := HJ162.out; have := HJ176.out; have := HJ181.out; first | omega | exact Nat.le_refl _⟩, ⟨Lam.rq HO_44.out⟩, ⟨Lam.rq HO_54.out⟩, ⟨Lam.al⟩⟩
                      ·replace c193 := Bool.eq_false_iff.mpr c193
                       subst c193
                       have H1 : (laws_FnBoxesTasted.j12 kj181 t353 t354 t355 t359 t360 t361 t362 t365 t366 t369 t370 t371 t372 t373 t374 t375 true) = some r := by rw [if_neg (show ¬ (false = true) by decide)] at H; exact H
                       clear H
                       have H := H1
                       clear H1
                       have H' := Aside0.mk H
                       clear H
                       go_wp2
                       repeat (go_quiet (fail); try go_wp2)
                       refine Met.intro (hJ_12 _ ?va195 undef undef _ ?kp ?rel)
                       case kp => simp only [↓CutK.keep0, ↓CutK.keep1, ↓CutK.keep2, ↓CutK.keep3, ↓CutK.keep4, ↓CutK.keepN, true_and, and_true] <;> exact rfl
                       case rel => exact ⟨_, (true), (by first | rfl | (simp; done) | (simp [*]; done)), H', ⟨by have := HJ11.out; have := HJ76.out; have := HJ128.out; have := HJ158.out; have := HJ162.out; have := HJ176.out; have := HJ181.out; first | omega | exact Nat.le_refl _⟩, ⟨Lam.rq HO_44.out⟩, ⟨Lam.rq HO_54.out⟩, ⟨Lam.al⟩⟩
                     case rest12 =>
                      intro v446 _ _ g_ wc hcut
                      dsimp only [CutK.rl, List.replicate, List.cons_append, List.nil_append]
                      dsimp only [↓CutK.mix0, ↓CutK.mix1, ↓CutK.mix2, ↓CutK.mix3, ↓CutK.mix4, ↓CutK.mixN, Nat.reduceAdd, Nat.zero_add]
                      clear HC191
                      try clear c1
                      try clear c4
                      try clear c76
                      try clear c158
                      try clear c181
                      try clear c189
                      obtain ⟨kq, x446_190, rfl, HA, HJ190, HO_44, HO_54, HB⟩ := hcut
                      cases kq with
                      | zero => exact absurd HA.out (by simp [laws_FnBoxesTasted.j12])
                      | succ kj190 =>
                       have H := HA.out
                       clear HA
                       simp only [laws_FnBoxesTasted.j12] at H
                       by_cases c196 : x446_190 = true
                       ·subst c196
                        have H1 : (none) = some r := by rw [if_pos rfl] at H; exact H
                        clear H
                        have H := H1
                        clear H1
                        exact absurd H (by simp)
                       ·replace c196 := Bool.eq_false_iff.mpr c196
                        subst c196
                        have H1 : (if t355 > 1 then ((impl_MostPralines.f kj190 t354 (wrap64 (t355 - 1))).bind fun bt389 => (if bt389.2 = true then (if bt389.1 ≥ t353 then (none) else (laws_FnBoxesTasted.j13 kj190 t359 t360 t361 t362 t365 t366 t369 t370 t371 t372 t373 t374 t375)) else (none))) else (laws_FnBoxesTasted.j13 kj190 t359 t360 t361 t362 t365 t366 t369 t370 t371 t372 t373 t374 t375)) = some r := by rw [if_neg (show ¬ (false = true) by decide)] at H; exact H
                        clear H
                        have H := H1
                        clear H1
                        by_cases c197 : t355 > 1
                        ·rw [if_pos c197] at H
                         have c197b0 : decide (1 < t355) = true := decide_eq_true c197
                         clear c197
                         replace H := Option.bind_eq_some_iff.mp H
                         obtain ⟨⟨t389, t390⟩, A1980, H⟩ := H
                         replace H : (if t390 = true then (if t389 ≥ t353 then (none) else (laws_FnBoxesTasted.j13 kj190 t359 t360 t361 t362 t365 t366 t369 t370 t371 t372 t373 t374 t375)) else (none)) = some r := H
                         have A198 := Aside0.mk A1980
                         clear A1980
                         by_cases c199 : t390 = true
                         ·subst c199
                          have H1 : (if t389 ≥ t353 then (none) else (laws_FnBoxesTasted.j13 kj190 t359 t360 t361 t362 t365 t366 t369 t370 t371 t372 t373 t374 t375)) = some r := by rw [if_pos rfl] at H; exact H
                          clear H
                          have H := H1
                          clear H1
                          by_cases c200 : t389 ≥ t353
                          ·rw [if_pos c200] at H
                           exact absurd H (by simp)
                          ·rw [if_neg c200] at H
                           have c200b0 : decide (t353 ≤ t389) = false := decide_eq_false c200
                           clear c200
                           have H' := Aside0.mk H
                           clear H
                           go_wp2_with (first | (go_at_call 41; (with_reducible refine (impl_MostPralines.calls kj190 t354 (wrap64 (t355 - 1)) t389 true _ A198.out).mono ?_); rintro e w201 ⟨rfl, hb⟩; have n0_ := Aside0.mk (Kd.R_below (Lam.rq HO_44.out) hb); have n1_ := Aside0.mk (Kd.R_below (Lam.rq HO_54.out) hb); have n2_ := Aside0.mk (below_step (Lam.al) hb); clear HO_44; clear HO_54; clear HB; have HO_44 := n0_; have HO_54 := n1_; have HB := n2_; clear n0_ n1_ n2_; (try clear hb); (try clear hb2); (try clear hk); (try clear hi)))
                           repeat (go_quiet (first | (go_at_call 41; (with_reducible refine (impl_MostPralines.calls kj190 t354 (wrap64 (t355 - 1)) t389 true _ A198.out).mono ?_); rintro e w201 ⟨rfl, hb⟩; have n0_ := Aside0.mk (Kd.R_below (Lam.rq HO_44.out) hb); have n1_ := Aside0.mk (Kd.R_below (Lam.rq HO_54.out) hb); have n2_ := Aside0.mk (below_step (Lam.al) hb); clear HO_44; clear HO_54; clear HB; have HO_44 := n0_; have HO_54 := n1_; have HB := n2_; clear n0_ n1_ n2_; (try clear hb); (try clear hb2); (try clear hk); (try clear hi))); try go_wp2_with (first | (go_at_call 41; (with_reducible refine (impl_MostPralines.calls kj190 t354 (wrap64 (t355 - 1)) t389 true _ A198.out).mono ?_); rintro e w201 ⟨rfl, hb⟩; have n0_ := Aside0.mk (Kd.R_below (Lam.rq HO_44.out) hb); have n1_ := Aside0.mk (Kd.R_below (Lam.rq HO_54.out) hb); have n2_ := Aside0.mk (below_step (Lam.al) hb); clear HO_44; clear HO_54; clear HB; have HO_44 := n0_; have HO_54 := n1_; have HB := n2_; clear n0_ n1_ n2_; (try clear hb); (try clear hb2); (try clear hk); (try clear hi))))
                           refine Met.intro (hJ_13 _ undef undef undef _ ?kp ?rel)
                           case kp => simp only [↓CutK.keep0, ↓CutK.keep1, ↓CutK.keep2, ↓CutK.keep3, ↓CutK.keep4, ↓CutK.keepN, true_and, and_true]
                           case rel => exact ⟨_, H', ⟨by have := HJ11.out; have := HJ76.out; have := HJ128.out; have := HJ158.out; have := HJ162.out; have := HJ176.out; have := HJ181.out; have := HJ190.out; first | omega | exact Nat.le_refl _⟩, ⟨Lam.rq HO_44.out⟩, ⟨Lam.rq HO_54.out⟩, ⟨Lam.al⟩⟩
                         ·replace c199 := Bool.eq_false_iff.mpr c199
                          subst c199
                          have H1 : (none) = some r := by rw [if_neg (show ¬ (false = true) by decide)] at H; exact H
                          clear H
                          have H := H1
                          clear H1
                          exact absurd H (by simp)
                        ·rw [if_neg c197] at H
                         have c197b0 : decide (1 < t355) = false := decide_eq_false c197
                         clear c197
                         have H' := Aside0.mk H
                         clear H
                         go_wp2
                         repeat (go_quiet (fail); try go_wp2)
                         refine Met.intro (hJ_13 _ undef undef undef _ ?kp ?rel)
                         case kp => simp only [↓CutK.keep0, ↓CutK.keep1, ↓CutK.keep2, ↓CutK.keep3, ↓CutK.keep4, ↓CutK.keepN, true_and, and_true]
                         case rel => exact ⟨_, H', ⟨by have := HJ11.out; have := HJ76.out; have := HJ128.out; have := HJ158.out; have := HJ162.out; have := HJ176.out; have := HJ181.out; have := HJ190.out; first | omega | exact Nat.le_refl _⟩, ⟨Lam.rq HO_44.out⟩, ⟨Lam.rq HO_54.out⟩, ⟨Lam.al⟩⟩
                    ·replace c189 := Bool.eq_false_iff.mpr c189
                     subst c189
                     have H1 : (laws_FnBoxesTasted.j13 kj181 t359 t360 t361 t362 t365 t366 t369 t370 t371 t372 t373 t374 t375) = some r := by rw [if_neg (show ¬ (false = true) by decide)] at H; exact H
                     clear H
                     have H := H1
                     clear H1
                     have H' := Aside0.mk H
                     clear H
                     go_wp2
                     repeat (go_quiet (fail); try go_wp2)
                     refine Met.intro (hJ_13 _ undef undef undef _ ?kp ?rel)
                     case kp => simp only [↓CutK.keep0, ↓CutK.keep1, ↓CutK.keep2, ↓CutK.keep3, ↓CutK.keep4, ↓CutK.keepN, true_and, and_true]
                     case rel => exact ⟨_, H', ⟨by have := HJ11.out; have := HJ76.out; have := HJ128.out; have := HJ158.out; have := HJ162.out; have := HJ176.out; have := HJ181.out; first | omega | exact Nat.le_refl _⟩, ⟨Lam.rq HO_44.out⟩, ⟨Lam.rq HO_54.out⟩, ⟨Lam.al⟩⟩
                   case rest13 =>
                    intro _ _ _ g_ wc hcut
                    dsimp only [CutK.rl, List.replicate, List.cons_append, List.nil_append]
                    dsimp only [↓CutK.mix0, ↓CutK.mix1, ↓CutK.mix2, ↓CutK.mix3, ↓CutK.mix4, ↓CutK.mixN, Nat.reduceAdd, Nat.zero_add]
                    clear HC188
                    try clear c1
                    try clear c4
                    try clear c76
                    try clear c158
                    try clear c181
                    obtain ⟨kq, HA, HJ187, HO_44, HO_54, HB⟩ := hcut
                    cases kq with
                    | zero => exact absurd HA.out (by simp [laws_FnBoxesTasted.j13])
                    | succ kj187 =>
                     have H := HA.out
                     clear HA
                     simp only [laws_FnBoxesTasted.j13] at H
                     have HC202 := Aside0.mk H
                     clear H
                     go_upto_if 463 with (fail)
                     repeat (go_quiet (fail); go_upto_if 463 with (fail))
                     refine CutK.wp_cut3 (CutK.rl [4,0,1,1,61,0,2,1,3,0,129,1,3,0,312,1]) (fun _ _ _ wc => ∃ (kq : Nat), Aside0 (laws_FnBoxesTasted.j14 kq t369 t370 t371 t372 t373 t374 t375 = some r) ∧ Aside0 (kq ≤ kj187) ∧ Aside0 (Kd.R (Kd.int .i64) 3 wc w.heap.size (fun _ => True) v376 t374) ∧ Aside0 (Below w.heap.size w wc)) ?rest14 ?first14
                     case first14 =>
                      intro J_ K_ hJ_14 hK_
                      dsimp only [CutK.rl, List.replicate, List.cons_append, List.nil_append] at hJ_14
                      have H := HC202.out
                      clear HC202
                      by_cases c203 : t366 = true
                      ·subst c203
                       have H1 : ((impl_CodeOfPraline.f kj187 t359 t360 t361 t365).bind fun bt391 => (if bt391.2 = true then ((laws_ySame.f kj187 bt391.1 t362).bind fun t395 => (if t395 = true then (laws_FnBoxesTasted.j14 kj187 t369 t370 t371 t372 t373 t374 t375) else (none))) else (none))) = some r := by rw [if_pos rfl] at H; exact H
                       clear H
                       have H := H1
                       clear H1
                       replace H := Option.bind_eq_some_iff.mp H
                       obtain ⟨⟨t391, t392⟩, A2040, H⟩ := H
                       replace H : (if t392 = true then ((laws_ySame.f kj187 t391 t362).bind fun t395 => (if t395 = true then (laws_FnBoxesTasted.j14 kj187 t369 t370 t371 t372 t373 t374 t375) else (none))) else (none)) = some r := H
                       have A204 := Aside0.mk A2040
                       clear A2040
                       by_cases c205 : t392 = true
                       ·subst c205
                        have H1 : ((laws_ySame.f kj187 t391 t362).bind fun t395 => (if t395 = true then (laws_FnBoxesTasted.j14 kj187 t369 t370 t371 t372 t373 t374 t375) else (none))) = some r := by rw [if_pos rfl] at H; exact H
                        clear H
                        have H := H1
                        clear H1
                        replace H := Option.bind_eq_some_iff.mp H
                        obtain ⟨t395, A2060, H⟩ := H
                        replace H : (if t395 = true then (laws_FnBoxesTasted.j14 kj187 t369 t370 t371 t372 t373 t374 t375) else (none)) = some r := H
                        have A206 := Aside0.mk A2060
                        clear A2060
                        by_cases c207 : t395 = true
                        ·subst c207
                         have H1 : (laws_FnBoxesTasted.j14 kj187 t369 t370 t371 t372 t373 t374 t375) = some r := by rw [if_pos rfl] at H; exact H
                         clear H
                         have H := H1
                         clear H1
                         have H' := Aside0.mk H
                         clear H
                         go_wp2_with (first | (go_at_call 39; (with_reducible refine (impl_CodeOfPraline.calls kj187 t359 t360 t361 t365 t391 true _ A204.out).mono ?_); rintro e w208 ⟨v393, rfl, ho0, hb⟩; have n0_ := Aside0.mk (Kd.R_elder' (Lam.rq HO_44.out) (Kd.R_base ho0) hb); have n1_ := Aside0.mk (Kd.R_elder' (Lam.rq HO_54.out) (Kd.R_base ho0) hb); have n2_ := Aside0.mk (Kd.R_lower (Kd.R_new' (Kd.R_new' ho0 (Kd.R_lt (Lam.rq HO_44.out))) (Kd.R_lt (Lam.rq HO_54.out))) (below_size (Lam.al))); have n3_ := Aside0.mk (below_step (Lam.al) hb); clear HO_44; clear HO_54; clear HB; have HO_44 := n0_; have HO_54 := n1_; have HO394 := n2_; have HB := n3_; clear n0_ n1_ n2_ n3_; (try clear hb); (try clear hb2); (try clear hk); (try clear hi); (try clear ho0); obtain ⟨Ao209, co209, eo209⟩ := Kd.R_slice HO394.out; subst eo209) | (go_at_call 45; (with_reducible refine (laws_ySame.calls kj187 _ _ t391 _ _ t362 true _ ?side1 ?side2 ?side3 ?side4 A206.out).mono ?_); (case side1 => repeat (first | exact (Kd.R_reads' HO394.out).2.2 | (with_reducible refine Kd.C_alloc ?_ _) | (with_reducible refine Kd.C_drewN ?_ _) | (with_reducible refine Kd.C_drew ?_))); (case side2 => exact (Kd.R_reads' HO394.out).2.1); (case side3 => repeat (first | exact (Kd.R_reads' HO_44.out).2.2 | (with_reducible refine Kd.C_alloc ?_ _) | (with_reducible refine Kd.C_drewN ?_ _) | (with_reducible refine Kd.C_drew ?_))); (case side4 => exact (Kd.R_reads' HO_44.out).2.1); rintro e w' ⟨rfl, ⟨nd, rfl⟩⟩; (try first | exact ⟨rfl, _, World.drewN_drewN _ _ _⟩ | exact ⟨rfl, _, Eq.trans (World.drewN_drewN _ _ _) (congrArg (World.drewN _) (Nat.add_assoc _ _ _))⟩)))
                         repeat (go_quiet (first | (go_at_call 39; (with_reducible refine (impl_CodeOfPraline.calls kj187 t359 t360 t361 t365 t391 true _ A204.out).mono ?_); rintro e w208 ⟨v393, rfl, ho0, hb⟩; have n0_ := Aside0.mk (Kd.R_elder' (Lam.rq HO_44.out) (Kd.R_base ho0) hb); have n1_ := Aside0.mk (Kd.R_elder' (Lam.rq HO_54.out) (Kd.R_base ho0) hb); have n2_ := Aside0.mk (Kd.R_lower (Kd.R_new' (Kd.R_new' ho0 (Kd.R_lt (Lam.rq HO_44.out))) (Kd.R_lt (Lam.rq HO_54.out))) (below_size (Lam.al))); have n3_ := Aside0.mk (below_step (Lam.al) hb); clear HO_44; clear HO_54; clear HB; have HO_44 := n0_; have HO_54 := n1_; have HO394 := n2_; have HB := n3_; clear n0_ n1_ n2_ n3_; (try clear hb); (try clear hb2); (try clear hk); (try clear hi); (try clear ho0); obtain ⟨Ao209, co209, eo209⟩ := Kd.R_slice HO394.out; subst eo209) | (go_at_call 45; (with_reducible refine (laws_ySame.calls kj187 _ _ t391 _ _ t362 true _ ?side1 ?side2 ?side3 ?side4 A206.out).mono ?_); (case side1 => repeat (first | exact (Kd.R_reads' HO394.out).2.2 | (with_reducible refine Kd.C_alloc ?_ _) | (with_reducible refine Kd.C_drewN ?_ _) | (with_reducible refine Kd.C_drew ?_))); (case side2 => exact (Kd.R_reads' HO394.out).2.1); (case side3 => repeat (first | exact (Kd.R_reads' HO_44.out).2.2 | (with_reducible refine Kd.C_alloc ?_ _) | (with_reducible refine Kd.C_drewN ?_ _) | (with_reducible refine Kd.C_drew ?_))); (case side4 => exact (Kd.R_reads' HO_44.out).2.1); rintro e w' ⟨rfl, ⟨nd, rfl⟩⟩; (try first | exact ⟨rfl, _, World.drewN_drewN _ _ _⟩ | exact ⟨rfl, _, Eq.trans (World.drewN_drewN _ _ _) (congrArg (World.drewN _) (Nat.add_assoc _ _ _))⟩))); try go_wp2_with (first | (go_at_call 39; (with_reducible refine (impl_CodeOfPraline.calls kj187 t359 t360 t361 t365 t391 true _ A204.out).mono ?_); rintro e w208 ⟨v393, rfl, ho0, hb⟩; have n0_ := Aside0.mk (Kd.R_elder' (Lam.rq HO_44.out) (Kd.R_base ho0) hb); have n1_ := Aside0.mk (Kd.R_elder' (Lam.rq HO_54.out) (Kd.R_base ho0) hb); have n2_ := Aside0.mk (Kd.R_lower (Kd.R_new' (Kd.R_new' ho0 (Kd.R_lt (Lam.rq HO_44.out))) (Kd.R_lt (Lam.rq HO_54.out))) (below_size (Lam.al))); have n3_ := Aside0.mk (below_step (Lam.al) hb); clear HO_44; clear HO_54; clear HB; have HO_44 := n0_; have HO_54 := n1_; have HO394 := n2_; have HB := n3_; clear n0_ n1_ n2_ n3_; (try clear hb); (try clear hb2); (try clear hk); (try clear hi); (try clear ho0); obtain ⟨Ao209, co209, eo209⟩ := Kd.R_slice HO394.out; subst eo209) | (go_at_call 45; (with_reducible refine (laws_ySame.calls kj187 _ _ t391 _ _ t362 true _ ?side1 ?side2 ?side3 ?side4 A206.out).mono ?_); (case side1 => repeat (first | exact (Kd.R_reads' HO394.out).2.2 | (with_reducible refine Kd.C_alloc ?_ _) | (with_reducible refine Kd.C_drewN ?_ _) | (with_reducible refine Kd.C_drew ?_))); (case side2 => exact (Kd.R_reads' HO394.out).2.1); (case side3 => repeat (first | exact (Kd.R_reads' HO_44.out).2.2 | (with_reducible refine Kd.C_alloc ?_ _) | (with_reducible refine Kd.C_drewN ?_ _) | (with_reducible refine Kd.C_drew ?_))); (case side4 => exact (Kd.R_reads' HO_44.out).2.1); rintro e w' ⟨rfl, ⟨nd, rfl⟩⟩; (try first | exact ⟨rfl, _, World.drewN_drewN _ _ _⟩ | exact ⟨rfl, _, Eq.trans (World.drewN_drewN _ _ _) (congrArg (World.drewN _) (Nat.add_assoc _ _ _))⟩))))
                         refine Met.intro (hJ_14 _ undef undef undef _ ?kp ?rel)
                         case kp => simp only [↓CutK.keep0, ↓CutK.keep1, ↓CutK.keep2, ↓CutK.keep3, ↓CutK.keep4, ↓CutK.keepN, true_and, and_true]
                         case rel => exact ⟨_, H', ⟨by have := HJ11.out; have := HJ76.out; have := HJ128.out; have := HJ158.out; have := HJ162.out; have := HJ176.out; have := HJ181.out; have := HJ187.out; first | omega | exact Nat.le_refl _⟩, ⟨by (with_reducible repeat (first | apply Kd.R_alloc | apply Kd.R_drewN | apply Kd.R_drew)); exact Kd.R_mono HO_54.out (fun _ hk => trivial)⟩, ⟨Lam.al⟩⟩
                        ·replace c207 := Bool.eq_false_iff.mpr c207
                         subst c207
                         have H1 : (none) = some r := by rw [if_neg (show ¬ (false = true) by decide)] at H; exact H
                         clear H
                         have H := H1
                         clear H1
                         exact absurd H (by simp)
                       ·replace c205 := Bool.eq_false_iff.mpr c205
                        subst c205
                        have H1 : (none) = some r := by rw [if_neg (show ¬ (false = true) by decide)] at H; exact H
                        clear H
                        have H := H1
                        clear H1
                        exact absurd H (by simp)
                      ·replace c203 := Bool.eq_false_iff.mpr c203
                       subst c203
                       have H1 : (laws_FnBoxesTasted.j14 kj187 t369 t370 t371 t372 t373 t374 t375) = some r := by rw [if_neg (show ¬ (false = true) by decide)] at H; exact H
                       clear H
                       have H := H1
                       clear H1
                       have H' := Aside0.mk H
                       clear H
                       go_wp2
                       repeat (go_quiet (fail); try go_wp2)
                       refine Met.intro (hJ_14 _ undef undef undef _ ?kp ?rel)
                       case kp => simp only [↓CutK.keep0, ↓CutK.keep1, ↓CutK.keep2, ↓CutK.keep3, ↓CutK.keep4, ↓CutK.keepN, true_and, and_true]
                       case rel => exact ⟨_, H', ⟨by have := HJ11.out; have := HJ76.out; have := HJ128.out; have := HJ158.out; have := HJ162.out; have := HJ176.out; have := HJ181.out; have := HJ187.out; first | omega | exact Nat.le_refl _⟩, ⟨by (with_reducible repeat (first | apply Kd.R_alloc | apply Kd.R_drewN | apply Kd.R_drew)); exact Kd.R_mono HO_54.out (fun _ hk => trivial)⟩, ⟨Lam.al⟩⟩
                     case rest14 =>
                      intro _ _ _ g_ wc hcut
                      dsimp only [CutK.rl, List.replicate, List.cons_append, List.nil_append]
                      dsimp only [↓CutK.mix0, ↓CutK.mix1, ↓CutK.mix2, ↓CutK.mix3, ↓CutK.mix4, ↓CutK.mixN, Nat.reduceAdd, Nat.zero_add]
                      clear HC202
                      try clear c1
                      try clear c4
                      try clear c76
                      try clear c158
                      try clear c181
                      obtain ⟨kq, HA, HJ201, HO_54, HB⟩ := hcut
                      cases kq with
                      | zero => exact absurd HA.out (by simp [laws_FnBoxesTasted.j14])
                      | succ kj201 =>
                       have H := HA.out
                       clear HA
                       simp only [laws_FnBoxesTasted.j14] at H
                       by_cases c210 : t375 = true
                       ·subst c210
                        have H1 : ((laws_yRises.f kj201 t374).bind fun t396 => (if t396 = true then (laws_FnBoxesTasted.l1 kj201 t369 t370 t371 t372 t373 t374 0) else (none))) = some r := by rw [if_pos rfl] at H; exact H
                        clear H
                        have H := H1
                        clear H1
                        replace H := Option.bind_eq_some_iff.mp H
                        obtain ⟨t396, A2110, H⟩ := H
                        replace H : (if t396 = true then (laws_FnBoxesTasted.l1 kj201 t369 t370 t371 t372 t373 t374 0) else (none)) = some r := H
                        have A211 := Aside0.mk A2110
                        clear A2110
                        by_cases c212 : t396 = true
                        ·subst c212
                         have H1 : (laws_FnBoxesTasted.l1 kj201 t369 t370 t371 t372 t373 t374 0) = some r := by rw [if_pos rfl] at H; exact H
                         clear H
                         have H := H1
                         clear H1
                         have H' := Aside0.mk H
                         clear H
                         obtain ⟨Ao213, co213, eo213⟩ := Kd.R_slice HO_54.out
                         subst eo213
                         go_wp2_with (first | (go_at_call 58; (with_reducible refine (laws_yRises.calls kj201 _ _ t374 true _ ?side1 ?side2 A211.out).mono ?_); (case side1 => repeat (first | exact (Kd.R_reads' HO_54.out).2.2 | (with_reducible refine Kd.C_alloc ?_ _) | (with_reducible refine Kd.C_drewN ?_ _) | (with_reducible refine Kd.C_drew ?_))); (case side2 => exact (Kd.R_reads' HO_54.out).2.1); rintro e w' ⟨rfl, ⟨nd, rfl⟩⟩; (try first | exact ⟨rfl, _, World.drewN_drewN _ _ _⟩ | exact ⟨rfl, _, Eq.trans (World.drewN_drewN _ _ _) (congrArg (World.drewN _) (Nat.add_assoc _ _ _))⟩)))
                         repeat (go_quiet (first | (go_at_call 58; (with_reducible refine (laws_yRises.calls kj201 _ _ t374 true _ ?side1 ?side2 A211.out).mono ?_); (case side1 => repeat (first | exact (Kd.R_reads' HO_54.out).2.2 | (with_reducible refine Kd.C_alloc ?_ _) | (with_reducible refine Kd.C_drewN ?_ _) | (with_reducible refine Kd.C_drew ?_))); (case side2 => exact (Kd.R_reads' HO_54.out).2.1); rintro e w' ⟨rfl, ⟨nd, rfl⟩⟩; (try first | exact ⟨rfl, _, World.drewN_drewN _ _ _⟩ | exact ⟨rfl, _, Eq.trans (World.drewN_drewN _ _ _) (congrArg (World.drewN _) (Nat.add_assoc _ _ _))⟩))); try go_wp2_with (first | (go_at_call 58; (with_reducible refine (laws_yRises.calls kj201 _ _ t374 true _ ?side1 ?side2 A211.out).mono ?_); (case side1 => repeat (first | exact (Kd.R_reads' HO_54.out).2.2 | (with_reducible refine Kd.C_alloc ?_ _) | (with_reducible refine Kd.C_drewN ?_ _) | (with_reducible refine Kd.C_drew ?_))); (case side2 => exact (Kd.R_reads' HO_54.out).2.1); rintro e w' ⟨rfl, ⟨nd, rfl⟩⟩; (try first | exact ⟨rfl, _, World.drewN_drewN _ _ _⟩ | exact ⟨rfl, _, Eq.trans (World.drewN_drewN _ _ _) (congrArg (World.drewN _) (Nat.add_assoc _ _ _))⟩))))
                         go_loopg [68] kj201 (fun kq v68 w' => ∃ (x68_10 : Int), v68 = .int .i64 x68_10 ∧ Aside0 (laws_FnBoxesTasted.l1 kq t369 t370 t371 t372 t373 t374 x68_10 = some r) ∧ Aside0 (kq ≤ kj201) ∧ Aside0 (Kd.R (Kd.int .i64) 3 w' w.heap.size (fun _ => True) (.slice Ao213 t374.length co213) t374) ∧ Aside0 (Below w.heap.size w w'))
                         case atStart => exact ⟨(0), (by first | rfl | (simp; done) | (simp [*]; done)), H', ⟨Nat.le_refl _⟩, ⟨Lam.rq HO_54.out⟩, ⟨Lam.al⟩⟩
                         case round =>
                          clear H'
                          try clear c1
                          try clear c4
                          try clear c76
                          try clear c158
                          try clear c181
                          try clear c210
                          try clear c212
                          obtain ⟨x68_10, rfl, HA, HK10, HO_54, HB⟩ := hrel
                          cases gk with
                          | zero => exact absurd HA.out (by simp [laws_FnBoxesTasted.l1])
                          | succ k10 =>
                           have H := HA.out
                           clear HA
                           simp only [laws_FnBoxesTasted.l1] at H
                           have HC214 := Aside0.mk H
                           clear H
                           go_upto_region 70 with (fail)
                           repeat (go_quiet (fail); go_upto_region 70 with (fail))
                           refine CutK.wp_cut3 (CutK.rl [484,0,6,1,1,2,24,1]) (fun v490 _ _ wc => ∃ (kq : Nat) (x490_213 : Bool), v490 = .bool x490_213 ∧ Aside0 (laws_FnBoxesTasted.j16 kq t369 t370 t371 t372 t373 t374 x68_10 x490_213 = some r) ∧ Aside0 (kq ≤ k10) ∧ Aside0 (Kd.R (Kd.int .i64) 3 wc w.heap.size (fun _ => True) (.slice Ao213 t374.length co213) t374) ∧ Aside0 (Below w.heap.size w wc)) ?rest16 ?first16
                           case first16 =>
                            intro J_ K_ hJ_16 hK_
                            dsimp only [CutK.rl, List.replicate, List.cons_append, List.nil_append] at hJ_16
                            have H := HC214.out
                            clear HC214
                            by_cases c215 : x68_10 < t369
                            ·rw [if_pos c215] at H
                             have c215b0 : decide (x68_10 < t369) = true := decide_eq_true c215
                             clear c215
                             (first | rw [c215b0] | (simp only [i64_w, i32_w]; rw [c215b0]) | skip)
                             have H' := Aside0.mk H
                             clear H
                             go_wp2
                             repeat (go_quiet (fail); try go_wp2)
                             refine Met.intro (hJ_16 _ ?va216 undef undef _ ?kp ?rel)
                             case kp => simp only [↓CutK.keep0, ↓CutK.keep1, ↓CutK.keep2, ↓CutK.keep3, ↓CutK.keep4, ↓CutK.keepN, true_and, and_true] <;> exact rfl
                             case rel => exact ⟨_, (decide (x68_10 < 60)), (by first | rfl | (simp; done) | (simp [*]; done)), H', ⟨by have := HJ11.out; have := HJ76.out; have := HJ128.out; have := HJ158.out; have := HJ162.out; have := HJ176.out; have := HJ181.out; have := HJ187.out; have := HJ201.out; have := HK10.out; first | omega | exact Nat.le_refl _⟩, ⟨Lam.rq HO_54.out⟩, ⟨Lam.al⟩⟩
                            ·rw [if_neg c215] at H
                             have c215b0 : decide (x68_10 < t369) = false := decide_eq_false c215
                             clear c215
                             (first | rw [c215b0] | (simp only [i64_w, i32_w]; rw [c215b0]) | skip)
                             have H' := Aside0.mk H
                             clear H
                             go_wp2
                             repeat (go_quiet (fail); try go_wp2)
                             refine Met.intro (hJ_16 _ ?va217 undef undef _ ?kp ?rel)
                             case kp => simp only [↓CutK.keep0, ↓CutK.keep1, ↓CutK.keep2, ↓CutK.keep3, ↓CutK.keep4, ↓CutK.keepN, true_and, and_true] <;> exact rfl
                             case rel => exact ⟨_, (false), (by first | rfl | (simp; done) | (simp [*]; done)), H', ⟨by have := HJ11.out; have := HJ76.out; have := HJ128.out; have := HJ158.out; have := HJ162.out; have := HJ176.out; have := HJ181.out; have := HJ187.out; have := HJ201.out; have := HK10.out; first | omega | exact Nat.le_refl _⟩, ⟨Lam.rq HO_54.out⟩, ⟨Lam.al⟩⟩
                           case rest16 =>
                            intro v490 _ _ g_ wc hcut
                            dsimp only [CutK.rl, List.replicate, List.cons_append, List.nil_append]
                            dsimp only [↓CutK.mix0, ↓CutK.mix1, ↓CutK.mix2, ↓CutK.mix3, ↓CutK.mix4, ↓CutK.mixN, Nat.reduceAdd, Nat.zero_add]
                            clear HC214
                            try clear c1
                            try clear c4
                            try clear c76
                            try clear c158
                            try clear c181
                            try clear c210
                            try clear c212
                            obtain ⟨kq, x490_213, rfl, HA, HJ213, HO_54, HB⟩ := hcut
                            cases kq with
                            | zero => exact absurd HA.out (by simp [laws_FnBoxesTasted.j16])
                            | succ kj213 =>
                             have H := HA.out
                             clear HA
                             simp only [laws_FnBoxesTasted.j16] at H
                             by_cases c218 : x490_213 = true
                             ·subst c218
                              have H1 : ((impl_CodeOfPraline.f kj213 t369 t370 t371 x68_10).bind fun bt397 => (if bt397.2 = true then ((laws_yHas.f kj213 t374 x68_10).bind fun t401 => (if 0 ≤ t372 then (if t372 < (bt397.1.length : Int) then (if (t401 != ((rd bt397.1 t372) == t373)) = true then (none) else (laws_FnBoxesTasted.l1 kj213 t369 t370 t371 t372 t373 t374 (wrap64 (x68_10 + 1)))) else (none)) else (none))) else (none))) = some r := by rw [if_pos rfl] at H; exact H
                              clear H
                              have H := H1
                              clear H1
                              replace H := Option.bind_eq_some_iff.mp H
                              obtain ⟨⟨t397, t398⟩, A2190, H⟩ := H
                              replace H : (if t398 = true then ((laws_yHas.f kj213 t374 x68_10).bind fun t401 => (if 0 ≤ t372 then (if t372 < (t397.length : Int) then (if (t401 != ((rd t397 t372) == t373)) = true then (none) else (laws_FnBoxesTasted.l1 kj213 t369 t370 t371 t372 t373 t374 (wrap64 (x68_10 + 1)))) else (none)) else (none))) else (none)) = some r := H
                              have A219 := Aside0.mk A2190
                              clear A2190
                              by_cases c220 : t398 = true
                              ·subst c220
                               have H1 : ((laws_yHas.f kj213 t374 x68_10).bind fun t401 => (if 0 ≤ t372 then (if t372 < (t397.length : Int) then (if (t401 != ((rd t397 t372) == t373)) = true then (none) else (laws_FnBoxesTasted.l1 kj213 t369 t370 t371 t372 t373 t374 (wrap64 (x68_10 + 1)))) else (none)) else (none))) = some r := by rw [if_pos rfl] at H; exact H
                               clear H
                               have H := H1
                               clear H1
                               replace H := Option.bind_eq_some_iff.mp H
                               obtain ⟨t401, A2210, H⟩ := H
                               replace H : (if 0 ≤ t372 then (if t372 < (t397.length : Int) then (if (t401 != ((rd t397 t372) == t373)) = true then (none) else (laws_FnBoxesTasted.l1 kj213 t369 t370 t371 t372 t373 t374 (wrap64 (x68_10 + 1)))) else (none)) else (none)) = some r := H
                               have A221 := Aside0.mk A2210
                               clear A2210
                               by_cases c222 : 0 ≤ t372
                               ·rw [if_pos c222] at H
                                have c222b0 : decide (0 ≤ t372) = true := decide_eq_true c222
                                clear c222
                                by_cases c223 : t372 < (t397.length : Int)
                                ·rw [if_pos c223] at H
                                 have c223b0 : decide (t372 < (t397.length : Int)) = true := decide_eq_true c223
                                 clear c223
                                 by_cases c224 : (t401 != ((rd t397 t372) == t373)) = true
                                 ·rw [if_pos c224] at H
                                  exact absurd H (by simp)
                                 ·rw [if_neg c224] at H
                                  have c224b0 : (t401 != ((rd t397 t372) == t373)) = false := by simpa using c224
                                  (try (have c224b1 : decide (t401 = ((rd t397 t372) == t373)) = true := by simpa using c224))
                                  (try (have c224b2 : (t401 == ((rd t397 t372) == t373)) = true := by simpa using c224))
                                  clear c224
                                  have H' := Aside0.mk H
                                  clear H
                                  go_wp2_with (first | (go_at_call 39; (with_reducible refine (impl_CodeOfPraline.calls kj213 t369 t370 t371 x68_10 t397 true _ A219.out).mono ?_); rintro e w225 ⟨v399, rfl, ho0, hb⟩; have n0_ := Aside0.mk (Kd.R_elder' (Lam.rq HO_54.out) (Kd.R_base ho0) hb); have n1_ := Aside0.mk (Kd.R_lower (Kd.R_new' ho0 (Kd.R_lt (Lam.rq HO_54.out))) (below_size (Lam.al))); have n2_ := Aside0.mk (below_step (Lam.al) hb); clear HO_54; clear HB; have HO_54 := n0_; have HO400 := n1_; have HB := n2_; clear n0_ n1_ n2_; (try clear hb); (try clear hb2); (try clear hk); (try clear hi); (try clear ho0)) | (go_at_call 29; (with_reducible refine (laws_yHas.calls kj213 _ _ t374 x68_10 t401 _ ?side1 ?side2 A221.out).mono ?_); (case side1 => repeat (first | exact (Kd.R_reads' HO_54.out).2.2 | (with_reducible refine Kd.C_alloc ?_ _) | (with_reducible refine Kd.C_drewN ?_ _) | (with_reducible refine Kd.C_drew ?_))); (case side2 => exact (Kd.R_reads' HO_54.out).2.1); rintro e w' ⟨rfl, ⟨nd, rfl⟩⟩; (try first | exact ⟨rfl, _, World.drewN_drewN _ _ _⟩ | exact ⟨rfl, _, Eq.trans (World.drewN_drewN _ _ _) (congrArg (World.drewN _) (Nat.add_assoc _ _ _))⟩); obtain ⟨Ao226, co226, eo226⟩ := Kd.R_slice HO400.out; subst eo226; have p402 : 0 ≤ (t372 : Int) := of_decide_eq_true (by first | (with_reducible assumption) | assumption); have q402 : t372 < (t397.length : Int) := of_decide_eq_true (by first | (with_reducible assumption) | assumption); obtain ⟨ad402, e402, hx402_0⟩ := Kd.at_int (Kd.R_reads' HO400.out).2.2 t372 p402 q402; cases e402; replace p402 := eq_true p402; replace q402 := eq_true q402))
                                  repeat (go_quiet (first | (go_at_call 39; (with_reducible refine (impl_CodeOfPraline.calls kj213 t369 t370 t371 x68_10 t397 true _ A219.out).mono ?_); rintro e w225 ⟨v399, rfl, ho0, hb⟩; have n0_ := Aside0.mk (Kd.R_elder' (Lam.rq HO_54.out) (Kd.R_base ho0) hb); have n1_ := Aside0.mk (Kd.R_lower (Kd.R_new' ho0 (Kd.R_lt (Lam.rq HO_54.out))) (below_size (Lam.al))); have n2_ := Aside0.mk (below_step (Lam.al) hb); clear HO_54; clear HB; have HO_54 := n0_; have HO400 := n1_; have HB := n2_; clear n0_ n1_ n2_; (try clear hb); (try clear hb2); (try clear hk); (try clear hi); (try clear ho0)) | (go_at_call 29; (with_reducible refine (laws_yHas.calls kj213 _ _ t374 x68_10 t401 _ ?side1 ?side2 A221.out).mono ?_); (case side1 => repeat (first | exact (Kd.R_reads' HO_54.out).2.2 | (with_reducible refine Kd.C_alloc ?_ _) | (with_reducible refine Kd.C_drewN ?_ _) | (with_reducible refine Kd.C_drew ?_))); (case side2 => exact (Kd.R_reads' HO_54.out).2.1); rintro e w' ⟨rfl, ⟨nd, rfl⟩⟩; (try first | exact ⟨rfl, _, World.drewN_drewN _ _ _⟩ | exact ⟨rfl, _, Eq.trans (World.drewN_drewN _ _ _) (congrArg (World.drewN _) (Nat.add_assoc _ _ _))⟩); obtain ⟨Ao226, co226, eo226⟩ := Kd.R_slice HO400.out; subst eo226; have p402 : 0 ≤ (t372 : Int) := of_decide_eq_true (by first | (with_reducible assumption) | assumption); have q402 : t372 < (t397.length : Int) := of_decide_eq_true (by first | (with_reducible assumption) | assumption); obtain ⟨ad402, e402, hx402_0⟩ := Kd.at_int (Kd.R_reads' HO400.out).2.2 t372 p402 q402; cases e402; replace p402 := eq_true p402; replace q402 := eq_true q402)); try go_wp2_with (first | (go_at_call 39; (with_reducible refine (impl_CodeOfPraline.calls kj213 t369 t370 t371 x68_10 t397 true _ A219.out).mono ?_); rintro e w225 ⟨v399, rfl, ho0, hb⟩; have n0_ := Aside0.mk (Kd.R_elder' (Lam.rq HO_54.out) (Kd.R_base ho0) hb); have n1_ := Aside0.mk (Kd.R_lower (Kd.R_new' ho0 (Kd.R_lt (Lam.rq HO_54.out))) (below_size (Lam.al))); have n2_ := Aside0.mk (below_step (Lam.al) hb); clear HO_54; clear HB; have HO_54 := n0_; have HO400 := n1_; have HB := n2_; clear n0_ n1_ n2_; (try clear hb); (try clear hb2); (try clear hk); (try clear hi); (try clear ho0)) | (go_at_call 29; (with_reducible refine (laws_yHas.calls kj213 _ _ t374 x68_10 t401 _ ?side1 ?side2 A221.out).mono ?_); (case side1 => repeat (first | exact (Kd.R_reads' HO_54.out).2.2 | (with_reducible refine Kd.C_alloc ?_ _) | (with_reducible refine Kd.C_drewN ?_ _) | (with_reducible refine Kd.C_drew ?_))); (case side2 => exact (Kd.R_reads' HO_54.out).2.1); rintro e w' ⟨rfl, ⟨nd, rfl⟩⟩; (try first | exact ⟨rfl, _, World.drewN_drewN _ _ _⟩ | exact ⟨rfl, _, Eq.trans (World.drewN_drewN _ _ _) (congrArg (World.drewN _) (Nat.add_assoc _ _ _))⟩); obtain ⟨Ao226, co226, eo226⟩ := Kd.R_slice HO400.out; subst eo226; have p402 : 0 ≤ (t372 : Int) := of_decide_eq_true (by first | (with_reducible assumption) | assumption); have q402 : t372 < (t397.length : Int) := of_decide_eq_true (by first | (with_reducible assumption) | assumption); obtain ⟨ad402, e402, hx402_0⟩ := Kd.at_int (Kd.R_reads' HO400.out).2.2 t372 p402 q402; cases e402; replace p402 := eq_true p402; replace q402 := eq_true q402)))
                                  go_roundg kj213
                                  case measure => have := HJ11.out; have := HJ76.out; have := HJ128.out; have := HJ158.out; have := HJ162.out; have := HJ176.out; have := HJ181.out; have := HJ187.out; have := HJ201.out; have := HK10.out; have := HJ213.out; omega
                                  case rel => exact ⟨(wrap64 (x68_10 + 1)), (by first | rfl | (simp; done) | (simp [*]; done)), H', ⟨by have := HJ11.out; have := HJ76.out; have := HJ128.out; have := HJ158.out; have := HJ162.out; have := HJ176.out; have := HJ181.out; have := HJ187.out; have := HJ201.out; have := HK10.out; have := HJ213.out; omega⟩, ⟨by (with_reducible repeat (first | apply Kd.R_alloc | apply Kd.R_drewN | apply Kd.R_drew)); exact Kd.R_mono HO_54.out (fun _ hk => trivial)⟩, ⟨Lam.al⟩⟩
                                ·rw [if_neg c223] at H
                                 exact absurd H (by simp)
                               ·rw [if_neg c222] at H
                                exact absurd H (by simp)
                              ·replace c220 := Bool.eq_false_iff.mpr c220
                               subst c220
                               have H1 : (none) = some r := by rw [if_neg (show ¬ (false = true) by decide)] at H; exact H
                               clear H
                               have H := H1
                               clear H1
                               exact absurd H (by simp)
                             ·replace c218 := Bool.eq_false_iff.mpr c218
                              subst c218
                              have H1 : (some true) = some r := by rw [if_neg (show ¬ (false = true) by decide)] at H; exact H
                              clear H
                              have H := H1
                              clear H1
                              obtain rfl := Option.some.inj H
                              go_wp2
                              repeat (go_quiet (fail); try go_wp2)
                              go_ret
                              exact ⟨by first | rfl | (simp [errW_none, errW_some] <;> rfl) | (simp [*, errW_none, errW_some] <;> rfl), Lam.al⟩
                        ·replace c212 := Bool.eq_false_iff.mpr c212
                         subst c212
                         have H1 : (none) = some r := by rw [if_neg (show ¬ (false = true) by decide)] at H; exact H
                         clear H
                         have H := H1
                         clear H1
                         exact absurd H (by simp)
                       ·replace c210 := Bool.eq_false_iff.mpr c210
                        subst c210
                        have H1 : (some true) = some r := by rw [if_neg (show ¬ (false = true) by decide)] at H; exact H
                        clear H
                        have H := H1
                        clear H1
                        obtain rfl := Option.some.inj H
                        go_wp2
                        repeat (go_quiet (fail); try go_wp2)
                        go_ret
                        exact ⟨by first | rfl | (simp [errW_none, errW_some] <;> rfl) | (simp [*, errW_none, errW_some] <;> rfl), Lam.al⟩

/-- THE ONE PURE STATEMENT of laws_FnBoxesTasted: yours. -/
def laws_FnBoxesTasted.Pure : Prop := ∀ (l0 : List Int) (l1 : List Int), l0.length ≤ maxLen → l0.length * 1 ≤ 140737488351232 → (∀ x ∈ l0, (Lit.int .u8 x).wf = true) → l1.length ≤ maxLen → l1.length * 1 ≤ 140737488351232 → (∀ x ∈ l1, (Lit.int .u8 x).wf = true) → ∃ k, laws_FnBoxesTasted.f k l0 l1 = some true
theorem laws_FnBoxesTasted.walk (P : laws_FnBoxesTasted.Pure) (a0 : Option Addr) (len0 cap0 : Nat) (z0 : List Int) (a1 : Option Addr) (len1 cap1 : Nat) (z1 : List Int) (w : World) (w0 : (a0 = none ∧ len0 = 0 ∧ cap0 = 0 ∧ z0 = []) ∨ ∃ x, a0 = some x ∧ len0 ≤ cap0 ∧ cap0 ≤ maxLen ∧ z0.length = cap0 ∧ (∀ i, i < z0.length → w.cell? (x.add i) = some (.int .u8 (z0.getD i 0))) ∧ ∀ n ∈ z0, (Lit.int .u8 n).wf = true) (y0 : len0 * 1 ≤ 140737488351232) (w1 : (a1 = none ∧ len1 = 0 ∧ cap1 = 0 ∧ z1 = []) ∨ ∃ x, a1 = some x ∧ len1 ≤ cap1 ∧ cap1 ≤ maxLen ∧ z1.length = cap1 ∧ (∀ i, i < z1.length → w.cell? (x.add i) = some (.int .u8 (z1.getD i 0))) ∧ ∀ n ∈ z1, (Lit.int .u8 n).wf = true) (y1 : len1 * 1 ≤ 140737488351232) :
  Calls Try.prog 5 #[.slice a0 len0 cap0, .slice a1 len1 cap1] w fun e w' => e = .returned (.bool true) ∧ Below w.heap.size w w' := by
 obtain ⟨l0, rfl, hr0, hm0, hw0, hc0⟩ := ReadsInt.ofRowC w0
 obtain ⟨l1, rfl, hr1, hm1, hw1, hc1⟩ := ReadsInt.ofRowC w1
 obtain ⟨k, h⟩ := P l0 l1 hm0 y0 hw0 hm1 y1 hw1
 refine (laws_FnBoxesTasted.calls k _ _ l0 _ _ l1 true w (Kd.C_of_reads (d := (0 : Int)) (h1 := fun _ => rfl) hr0) hc0 (Kd.C_of_reads (d := (0 : Int)) (h1 := fun _ => rfl) hr1) hc1 h).mono ?_
 rintro e w' ⟨rfl, hd⟩
 exact ⟨rfl, hd⟩

end Go.Proofs.Ytdikeggkfkkajaa.PFnBoxesTasted
