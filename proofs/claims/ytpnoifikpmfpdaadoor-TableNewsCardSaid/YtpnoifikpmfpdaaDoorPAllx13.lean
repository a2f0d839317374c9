-- Written by a program (patch_print.py over the print of the kit, with functions proved by hand).
import Derived.Test.YtpnoifikpmfpdaaDoorPAllx0
import Derived.Test.YtpnoifikpmfpdaaDoorPAllx2
import Derived.Test.YtpnoifikpmfpdaaDoorPAllx3
import Derived.Test.YtpnoifikpmfpdaaDoorPAllx6
import Derived.Test.YtpnoifikpmfpdaaDoorPAllx8
import Derived.Test.YtpnoifikpmfpdaaDoorPAllx10
import Derived.Test.YtpnoifikpmfpdaaDoorPAllx11
import Derived.Test.YtpnoifikpmfpdaaDoorPAllx12
import Derived.Test.YtpnoifikpmfpdaaDoorEhalve
import Derived.Test.YtpnoifikpmfpdaaDoorEtold9
namespace Go.Proofs.YtpnoifikpmfpdaaDoor.PAll
open Go.RowKit Go.Proofs.YtpnoifikpmfpdaaDoorW.PrintWords Go.Proofs.YtpnoifikpmfpdaaDoorW.PrintLast Go.Proofs.YtpnoifikpmfpdaaDoorW.PrintMore
attribute [local go_sem] max2_int min2_int max_two min_two max_three min_three max_four min_four   -- for this text's walks alone
set_option linter.unusedVariables false
set_option linter.unusedSimpArgs false

/-! ### carrefourref1_Halve: function 20 -/
mutual
def carrefourref1_Halve.j0 : Nat → List (S27) → Int → Int → Bool → Option ((List (S27)))
  | 0, _, _, _, _ => none
  | k + 1, x0, x1, x2, x20 => if x20 = true then (some ([] : List (S27))) else ((some (([] : List (S27)) : List (S27))).bind fun y272 => (if y272.length + x0.length < 8796093022208 then (carrefourref1_Halve.l0 k x0 x1 x2 (y272 ++ x0) 0) else (none)))
def carrefourref1_Halve.l0 : Nat → List (S27) → Int → Int → List (S27) → Int → Option ((List (S27)))
  | 0, _, _, _, _, _ => none
  | k + 1, x0, x1, x2, x7, x8 => if x8 < (x0.length : Int) then ((carrefourref1_Width.f k x0 x8).bind fun t278 => (if 0 ≤ x8 then (if ((rd_T27 x0 x8).f1) = x1 then (if t278 ≥ 2 then ((carrefourref1_put.f k x7 ((((rd_T27 x0 x8).f0) + (IntKind.u64.wrap (Int.tdiv t278 2))) % 4294967296) x2).bind fun t281 => (carrefourref1_Halve.l0 k x0 x1 x2 t281 (wrap64 (x8 + 1)))) else (carrefourref1_Halve.l0 k x0 x1 x2 x7 (wrap64 (x8 + 1)))) else (carrefourref1_Halve.l0 k x0 x1 x2 x7 (wrap64 (x8 + 1)))) else (none))) else (if (x7.length : Int) > 1024 then (some ([] : List (S27))) else (some x7))
end
def carrefourref1_Halve.f (k : Nat) (l0 : List (S27)) (a1 : Int) (a2 : Int) : Option ((List (S27))) := (carrefourref1_MayArcs.f k l0).bind fun t271 => (if t271 = true then (if a2 < 0 then (carrefourref1_Halve.j0 k l0 a1 a2 true) else (carrefourref1_Halve.j0 k l0 a1 a2 (decide (a2 ≥ 16)))) else (carrefourref1_Halve.j0 k l0 a1 a2 true))
/-! ### carrefourlaw9_RingAsks: function 5 -/
def carrefourlaw9_RingAsks.j0 : Nat → List (S27) → List (S27) → Int → Int → Int → Int → Bool → Option (Bool)
  | 0, _, _, _, _, _, _, _ => none
  | k + 1, x0, x1, x2, x3, x4, x5, x20 => if x20 = true then ((carrefourlaw9_told.f).bind fun t286 => (some t286)) else ((carrefourlaw9_told.f).bind fun t287 => (if t287 = true then ((ring_May.f k x0).bind fun t288 => ((carrefourref1_MayArcs.f k x0).bind fun t289 => (if (t288 == t289) = true then ((ring_Owner.f k x0 x2).bind fun t290 => ((carrefourref1_Owner.f k x0 x2).bind fun t291 => (if t290 = t291 then ((ring_Width.f k x0 x3).bind fun t292 => ((carrefourref1_Width.f k x0 x3).bind fun t293 => (if t292 = t293 then ((ring_Share.f k x0 x4).bind fun t294 => ((carrefourref1_Share.f k x0 x4).bind fun t295 => (if t294 = t295 then ((ring_Halve.f x0 x4 x5).bind fun t296 => ((carrefourref1_Halve.f k x0 x4 x5).bind fun t299 => ((carrefourref1_SameArcs.f k t296 t299).bind fun t302 => (if t302 = true then ((ring_Same.f k x0 x1).bind fun t303 => ((carrefourref1_SameArcs.f k x0 x1).bind fun t304 => (some (t303 == t304)))) else (some false))))) else (some false)))) else (some false)))) else (some false)))) else (some false)))) else (some false)))
def carrefourlaw9_RingAsks.f (k : Nat) (l0 : List (S27)) (l1 : List (S27)) (a2 : Int) (a3 : Int) (a4 : Int) (a5 : Int) : Option (Bool) := (carrefourlaw9_Few.f l0).bind fun t284 => (if t284 = true then ((carrefourlaw9_Few.f l1).bind fun t285 => (carrefourlaw9_RingAsks.j0 k l0 l1 a2 a3 a4 a5 (!t285))) else (carrefourlaw9_RingAsks.j0 k l0 l1 a2 a3 a4 a5 true))
end Go.Proofs.YtpnoifikpmfpdaaDoor.PAll
