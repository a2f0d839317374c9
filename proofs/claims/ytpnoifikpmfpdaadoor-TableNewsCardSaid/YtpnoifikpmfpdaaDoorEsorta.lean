/-
  slices.SortFunc at arcs, with a function value that compares: the contract in the print's words.
-/
import Derived.Test.YtpnoifikpmfpdaaDoorEsort
import Derived.Test.YtpnoifikpmfpdaaDoorLay
namespace Go.Proofs.YtpnoifikpmfpdaaDoor.PAll
open Go.RowKit Go.Proofs.YtpnoifikpmfpdaaDoorW.PrintWords Go.Proofs.YtpnoifikpmfpdaaDoorW.PrintLast Go.Proofs.YtpnoifikpmfpdaaDoorW.PrintMore
open Go.Sort (HoldsK Holds SWO PermIn SortedIn grow)
set_option linter.unusedVariables false
set_option linter.unusedSimpArgs false

instance : Inhabited S27 := ⟨z27⟩
def encA (x : S27) : List Value := [.int .u32 x.f0, .int .i64 x.f1]
theorem flat27 : FlatKd k27 encA where
  hM := fun w base ok x cs => ⟨fun h => k27_openM h, fun h => by rw [h]; exact k27_mkM w base ok x⟩
  hl := fun _ => rfl
  hp := by decide

theorem isAgg27 : ∀ w, (isAgg 27).run Tryd.prog w = .ok true w := fun w => Tryd.isAgg27 w
theorem sizeOf27 : ∀ w, (Go.sizeOf 27).run Tryd.prog w = .ok 2 w := fun w => Tryd.sizeOf27 w

theorem sortFuncArc.calls (g : Nat) (cf : S27 → S27 → Int) (hO : SWO (ltOf cf)) (eg : ∀ args w, (callFunc g args).run Tryd.prog w = .ok (.enter g args) w)
    (hcl : ∀ (x y : S27) (W : World), Calls Tryd.prog g #[.agg #[.int .u32 x.f0, .int .i64 x.f1], .agg #[.int .u32 y.f0, .int .i64 y.f1]] W fun e W' => e = .returned (.int .i64 (cf x y)) ∧ ∃ q os', W' = grow (W.drewN q) os')
    (base : Nat) (ok : Nat → Prop) (v : Value) (xs : List S27) (w : World) (hR : k27.R 27 w base ok v xs) (hne : xs ≠ []) (hsz : xs.length < 4611686018427387904) :
    Calls Tryd.prog 34 #[v, .func (.func g) #[] #[]] w fun e w' => e = .returned (.tuple #[]) ∧ ∃ ys : List S27, ys.Perm xs ∧ ys.Pairwise (fun a b => ¬ cf b a < 0) ∧ k27.R 27 w' base ok v ys ∧ Below base w w' ∧ Kept w w' (fun k => some k = v.ownBlock) := by
  obtain ⟨blk, cap, cur, rfl, hb, hlt, hok, hh, h1, h2, h3, hH⟩ := R_holds flat27 hR hne
  have hcmp : CmpLays Tryd.prog g #[] encA 2 cf blk 0 xs.toArray.size w := fun m os dk hs x y => hcl x y _
  have hcon := AnyQ.slices_SortFunc Tryd.sortArc 2 isAgg27 sizeOf27 encA (fun _ => rfl) (fun x v hv => by simp [encA] at hv; rcases hv with rfl | rfl <;> rfl) cf hO g #[] blk 0 cap xs.toArray w eg hcmp hH hlt (by simpa using hsz)
  change Calls Tryd.prog 34 _ _ _ at hcon
  have hsz' : xs.toArray.size = xs.length := by simp
  rw [hsz'] at hcon
  refine hcon.mono ?_
  rintro e w' ⟨he, d', n, os, hp, hs, rfl⟩
  have hds : d'.size = xs.length := by simpa using hp.1
  obtain ⟨r1, r2, r3⟩ := R_sorted flat27 hR n d' os hds
  refine ⟨he, d'.toList, ?_, ?_, r1, r2, ?_⟩
  · have := hp.2.2
    have e1 : d'.extract 0 xs.length = d' := by rw [← hds]; simp
    rw [e1] at this
    simpa using this
  · rw [List.pairwise_iff_getElem]
    intro i j hi hj hij
    simp only [Array.length_toList] at hi hj
    have := hs i j (Nat.zero_le _) hij (by omega)
    rw [getElem!_pos d' i hi, getElem!_pos d' j hj] at this
    simp only [Array.getElem_toList]
    exact of_decide_eq_false this
  · exact r3.mono (fun k hk => by subst hk; rfl)
end Go.Proofs.YtpnoifikpmfpdaaDoor.PAll
