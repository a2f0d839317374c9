/-
  The function 'May' of package table.
-/
import Derived.Test.YtpnoifikpmfpdaaDoorEhas
import Derived.Test.YtpnoifikpmfpdaaDoorEring
namespace Go.Proofs.YtpnoifikpmfpdaaDoor.PAll
open Go.RowKit Go.Proofs.YtpnoifikpmfpdaaDoorW.PrintWords Go.Proofs.YtpnoifikpmfpdaaDoorW.PrintLast Go.Proofs.YtpnoifikpmfpdaaDoorW.PrintMore
set_option linter.unusedVariables false
set_option linter.unusedSimpArgs false

def arcNode (n : List Int) (a : S27) : Bool := decide (a.f1 ≥ n.length) || decide (n.getD a.f1.toNat 0 < 0)
set_option maxHeartbeats 8000000 in
set_option maxRecDepth 100000 in
theorem mayClosure1.calls (x : Int) (W : World) :
    Calls Tryd.prog 64 #[.int .i64 x] W fun e W' => e = .returned (.bool (decide (x < -1) || decide (x ≥ 4))) ∧ Below W.heap.size W W' := by
  by_cases h : x < -1
  · have hb : decide (x < -1) = true := decide_eq_true h
    rw [hb, Bool.true_or]
    go_enter Tryd.func64, Tryd.ntmps64
    go_wp2
    go_ret
    exact ⟨rfl, Below.refl _ _⟩
  · have hb : decide (x < -1) = false := decide_eq_false h
    rw [hb, Bool.false_or]
    go_enter Tryd.func64, Tryd.ntmps64
    go_wp2
    go_ret
    exact ⟨rfl, Below.refl _ _⟩

set_option maxHeartbeats 8000000 in
set_option maxRecDepth 100000 in
theorem mayClosure2.calls (b : Nat) (e : Int) (v1 : Value) (A : Option Addr) (c : Nat) (n : List Int) (x : S27) (W : World) (hx : 0 ≤ x.f1) (hc : W.cell? ⟨b, 2, none⟩ = some (.slice A n.length c)) (hr : Kd.C (Kd.int .i64) W A n.length n) :
    Calls Tryd.prog 66 #[.agg #[.int .u32 x.f0, .int .i64 x.f1], .pointer (some ⟨b, 0, none⟩)] W fun e W' => e = .returned (.bool (arcNode n x)) ∧ Below W.heap.size W W' := by
  have hlt : b < W.heap.size := World.block_lt_of_cell? W ⟨b, 2, none⟩ hc
  by_cases h : x.f1 ≥ n.length
  · have hb : decide (x.f1 ≥ n.length) = true := decide_eq_true h
    have hf : arcNode n x = true := by unfold arcNode; rw [hb]; rfl
    rw [hf]
    have HR := Aside0.mk hr
    clear hf hr
    go_enter Tryd.func66, Tryd.ntmps66
    go_wp2
    go_ret
    exact ⟨rfl, (Below.refl _ _).alloc (Nat.le_refl _) _⟩
  · have hb : decide (x.f1 ≥ n.length) = false := decide_eq_false h
    have hf : arcNode n x = decide (rd n x.f1 < 0) := by unfold arcNode; rw [hb]; rfl
    rw [hf]
    obtain ⟨ad, e, hx0⟩ := Kd.at_int (Kd.C_alloc hr (.cells #[.int .u32 x.f0, .int .i64 x.f1] 27)) x.f1 hx (by omega)
    cases e
    clear hr hf
    generalize rd n x.f1 = q at hx0 ⊢
    go_enter Tryd.func66, Tryd.ntmps66
    go_wp2
    go_ret
    exact ⟨rfl, (Below.refl _ _).alloc (Nat.le_refl _) _⟩
end Go.Proofs.YtpnoifikpmfpdaaDoor.PAll
