-- Written by a program (patch_print.py over the print of the kit, with functions proved by hand).
import Derived.Test.YtpnoifikpmfpdaaDoorPAllx0
import Derived.Test.YtpnoifikpmfpdaaDoorPAllx10
namespace Go.Proofs.YtpnoifikpmfpdaaDoor.PAll
open Go.RowKit Go.Proofs.YtpnoifikpmfpdaaDoorW.PrintWords Go.Proofs.YtpnoifikpmfpdaaDoorW.PrintLast Go.Proofs.YtpnoifikpmfpdaaDoorW.PrintMore
attribute [local go_sem] max2_int min2_int max_two min_two max_three min_three max_four min_four   -- for this text's walks alone
set_option linter.unusedVariables false
set_option linter.unusedSimpArgs false

/-! ### carrefourref1_Owner: function 17 -/
def carrefourref1_Owner.f (k : Nat) (l0 : List (S27)) (a1 : Int) : Option (Int) := (carrefourref1_MayArcs.f k l0).bind fun t219 => (if t219 = true then ((carrefourref1_place.f k l0 a1).bind fun t220 => (if 0 ≤ t220 then (if t220 < (l0.length : Int) then (some ((rd_T27 l0 t220).f1)) else (none)) else (none))) else (some (-1)))
/-! ### carrefourref1_Width: function 18 -/
def carrefourref1_Width.j0 : Nat → List (S27) → Int → Bool → Option (Int)
  | 0, _, _, _ => none
  | k + 1, x0, x1, x17 => if x17 = true then (some 0) else (if (x0.length : Int) = 1 then (some 4294967296) else (if (x0.length : Int) = 0 then (none) else (if 0 ≤ (Int.tmod (wrap64 (x1 + 1)) (x0.length : Int)) then (if (Int.tmod (wrap64 (x1 + 1)) (x0.length : Int)) < (x0.length : Int) then (if 0 ≤ x1 then (if x1 < (x0.length : Int) then (some ((((rd_T27 x0 (Int.tmod (wrap64 (x1 + 1)) (x0.length : Int))).f0) - ((rd_T27 x0 x1).f0)) % 4294967296)) else (none)) else (none)) else (none)) else (none))))
def carrefourref1_Width.f (k : Nat) (l0 : List (S27)) (a1 : Int) : Option (Int) := (carrefourref1_MayArcs.f k l0).bind fun t222 => (if t222 = true then (if a1 < 0 then (carrefourref1_Width.j0 k l0 a1 true) else (carrefourref1_Width.j0 k l0 a1 (decide (a1 ≥ (l0.length : Int))))) else (carrefourref1_Width.j0 k l0 a1 true))
/-! ### carrefourref1_Share: function 19 -/
mutual
def carrefourref1_Share.l0 : Nat → List (S27) → Int → Int → Int → Option (Int)
  | 0, _, _, _, _ => none
  | k + 1, x0, x1, x5, x6 => if x6 < (x0.length : Int) then ((carrefourref1_MayArcs.f k x0).bind fun t225 => (carrefourref1_Share.j1 k x0 x1 x5 x6 t225)) else (carrefourref1_Share.j1 k x0 x1 x5 x6 false)
def carrefourref1_Share.j1 : Nat → List (S27) → Int → Int → Int → Bool → Option (Int)
  | 0, _, _, _, _, _ => none
  | k + 1, x0, x1, x5, x6, x14 => if x14 = true then (if 0 ≤ x6 then (if x6 < (x0.length : Int) then (if ((rd_T27 x0 x6).f1) = x1 then ((carrefourref1_Width.f k x0 x6).bind fun t227 => (carrefourref1_Share.l0 k x0 x1 (IntKind.u64.wrap (x5 + t227)) (wrap64 (x6 + 1)))) else (carrefourref1_Share.l0 k x0 x1 x5 (wrap64 (x6 + 1)))) else (none)) else (none)) else (some x5)
end
def carrefourref1_Share.f (k : Nat) (l0 : List (S27)) (a1 : Int) : Option (Int) := carrefourref1_Share.l0 k l0 a1 0 0
end Go.Proofs.YtpnoifikpmfpdaaDoor.PAll
