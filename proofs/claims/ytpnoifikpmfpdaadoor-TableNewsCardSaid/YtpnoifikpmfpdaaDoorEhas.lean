/-
  The function 'has' of package table: whether a shard has arcs.
-/
import Derived.Test.YtpnoifikpmfpdaaDoorEidx
import Derived.Shelf.Abstract
namespace Go.Proofs.YtpnoifikpmfpdaaDoor.PAll
open Go.RowKit Go.Proofs.YtpnoifikpmfpdaaDoorW.PrintWords Go.Proofs.YtpnoifikpmfpdaaDoorW.PrintLast Go.Proofs.YtpnoifikpmfpdaaDoorW.PrintMore
set_option linter.unusedVariables false
set_option linter.unusedSimpArgs false

def table_has.f (l0 : List S27) (a1 : Int) : Option Bool := some (l0.any (fun a => a.f1 == a1))

theorem below_cell {w W : World} {n : Nat} (hb : Below n w W) (b o : Nat) (v : Value) (hlt : b < n) (h : w.cell? ⟨b, o, none⟩ = some v) : W.cell? ⟨b, o, none⟩ = some v := (hb.cell (p := ⟨b, o, none⟩) hlt).trans h

set_option maxHeartbeats 8000000 in
set_option maxRecDepth 100000 in
theorem hasClosure.calls (b : Nat) (s : Int) (x : S27) (W : World) (hc : W.cell? ⟨b, 0, none⟩ = some (.int .i64 s)) :
    Calls Tryd.prog 67 #[.agg #[.int .u32 x.f0, .int .i64 x.f1], .pointer (some ⟨b, 0, none⟩)] W fun e W' => e = .returned (.bool (x.f1 == s)) ∧ Below W.heap.size W W' := by
  have hlt : b < W.heap.size := World.block_lt_of_cell? W ⟨b, 0, none⟩ hc
  go_enter Tryd.func67, Tryd.ntmps67
  go_wp2
  go_ret
  exact ⟨rfl, (Below.refl _ _).alloc (Nat.le_refl _) _⟩

set_option maxHeartbeats 8000000 in
set_option maxRecDepth 100000 in
theorem table_has.calls (A0 : Option Addr) (c0 : Nat) (l0 : List (S27)) (a1 : Int) (r : Bool) (w : World) (hr0 : Kd.C k27 w A0 l0.length l0) (hc0 : l0.length ≤ c0) (h : table_has.f l0 a1 = some r) :
    Calls Tryd.prog 43 #[.slice A0 l0.length c0, .int .i64 a1] w fun e w' => e = .returned (.bool r) ∧ Below w.heap.size w w' := by
  obtain rfl := Option.some.inj h
  clear h
  have eg : ∀ args w, (callFunc 67 args).run Tryd.prog w = .ok (.enter 67 args) w := enters_of Tryd.func67 (by kernel_rfl) rfl
  have HI := Aside0.mk (containsFuncArc.calls A0 c0 l0 67 #[.pointer (some ⟨w.heap.size, 0, none⟩)] (fun a => a.f1 == a1) (w.alloc (.cells #[.int .i64 a1] 3)) (w.alloc (.cells #[.int .i64 a1] 3)) eg (Below.refl _ _)
    (fun x W _ hb => hasClosure.calls w.heap.size a1 x W (below_cell hb _ _ _ (by simp) (by simp [go_sem]))) (Kd.C_alloc hr0 _) hc0)
  clear hr0 eg
  generalize (l0.any fun a => a.f1 == a1) = r at HI ⊢
  go_enter Tryd.func43, Tryd.ntmps43
  go_wp2_with (fail)
  refine HI.out.mono ?_
  rintro e w' ⟨rfl, hb⟩
  have HB := Aside0.mk hb
  clear hb
  go_wp2
  go_ret
  exact ⟨rfl, ((Below.refl _ _).alloc (Nat.le_refl _) _).trans (HB.out.mono (by simp))⟩

end Go.Proofs.YtpnoifikpmfpdaaDoor.PAll
