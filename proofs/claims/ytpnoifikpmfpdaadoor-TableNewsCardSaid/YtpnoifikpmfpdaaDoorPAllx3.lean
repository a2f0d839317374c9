-- Written by a program (patch_print.py over the print of the kit, with functions proved by hand).
import Derived.Test.YtpnoifikpmfpdaaDoorPAllx0
import Derived.Test.YtpnoifikpmfpdaaDoorPAllx2
import Derived.Test.YtpnoifikpmfpdaaDoorEplace
namespace Go.Proofs.YtpnoifikpmfpdaaDoor.PAll
open Go.RowKit Go.Proofs.YtpnoifikpmfpdaaDoorW.PrintWords Go.Proofs.YtpnoifikpmfpdaaDoorW.PrintLast Go.Proofs.YtpnoifikpmfpdaaDoorW.PrintMore
attribute [local go_sem] max2_int min2_int max_two min_two max_three min_three max_four min_four   -- for this text's walks alone
set_option linter.unusedVariables false
set_option linter.unusedSimpArgs false

/-! ### ring_Owner: function 11 -/
def ring_Owner.f (k : Nat) (l0 : List (S27)) (a1 : Int) : Option (Int) := (ring_May.f k l0).bind fun t104 => (if t104 = true then ((ring_place.f l0 a1).bind fun t105 => (if 0 ≤ t105 then (if t105 < (l0.length : Int) then (some ((rd_T27 l0 t105).f1)) else (none)) else (none))) else (some (-1)))
/-! ### point_Way: function 58 -/
def point_Way.f (a0 : Int) (a1 : Int) : Option (Int) := some ((a1 - a0) % 4294967296)
/-! ### ring_width: function 32 -/
def ring_width.f (l0 : List (S27)) (a1 : Int) : Option (Int) := if (l0.length : Int) = 1 then (some 4294967296) else (if 0 ≤ a1 then (if a1 < (l0.length : Int) then (if (l0.length : Int) = 0 then (none) else (if 0 ≤ (Int.tmod (wrap64 (a1 + 1)) (l0.length : Int)) then (if (Int.tmod (wrap64 (a1 + 1)) (l0.length : Int)) < (l0.length : Int) then ((point_Way.f ((rd_T27 l0 a1).f0) ((rd_T27 l0 (Int.tmod (wrap64 (a1 + 1)) (l0.length : Int))).f0)).bind fun t109 => (some (IntKind.u64.wrap (t109)))) else (none)) else (none))) else (none)) else (none))
/-! ### ring_Width: function 12 -/
def ring_Width.f (k : Nat) (l0 : List (S27)) (a1 : Int) : Option (Int) := (ring_May.f k l0).bind fun t110 => (if t110 = true then (if a1 < 0 then (some 0) else (if a1 ≥ (l0.length : Int) then (some 0) else ((ring_width.f l0 a1).bind fun t111 => (some t111)))) else (some 0))
/-! ### ring_Share: function 14 -/
def ring_Share.l0 : Nat → List (S27) → Int → Int → List (S27) → Int → Int → Option (Int)
  | 0, _, _, _, _, _, _ => none
  | k + 1, x0, x1, x5, x11, x12, x13 => if x13 < x12 then (if 0 ≤ x13 then (if x13 < (x11.length : Int) then (if ((rd_T27 x11 x13).f1) = x1 then ((ring_width.f x0 x13).bind fun t115 => (ring_Share.l0 k x0 x1 (IntKind.u64.wrap (x5 + t115)) x11 x12 (wrap64 (x13 + 1)))) else (ring_Share.l0 k x0 x1 x5 x11 x12 (wrap64 (x13 + 1)))) else (none)) else (none)) else (some x5)
def ring_Share.f (k : Nat) (l0 : List (S27)) (a1 : Int) : Option (Int) := (ring_May.f k l0).bind fun t112 => (if t112 = true then (ring_Share.l0 k l0 a1 0 l0 (l0.length : Int) 0) else (some 0))
end Go.Proofs.YtpnoifikpmfpdaaDoor.PAll
