/-
  The function 'Halve' of package ring: the contract.
-/
import Derived.Test.YtpnoifikpmfpdaaDoorEring
import Derived.Test.YtpnoifikpmfpdaaDoorEhas
import Derived.Test.YtpnoifikpmfpdaaDoorPAllx3
import Derived.Test.YtpnoifikpmfpdaaDoorPAllx0
import Derived.Lib.SliceRun
import Derived.Test.YtpnoifikpmfpdaaDoorEcmp
namespace Go.Proofs.YtpnoifikpmfpdaaDoor.PAll
open Go.RowKit Go.Proofs.YtpnoifikpmfpdaaDoorW.PrintWords Go.Proofs.YtpnoifikpmfpdaaDoorW.PrintLast Go.Proofs.YtpnoifikpmfpdaaDoorW.PrintMore
set_option linter.unusedVariables false
set_option linter.unusedSimpArgs false

/-- How wide the arc at a place is. -/
def widthZ (l : List S27) (k : Nat) : Int := if l.length = 1 then 4294967296 else ((l.getD ((k + 1) % l.length) z27).f0 - (l.getD k z27).f0) % 4294967296
theorem ring_width_f (l : List S27) (k : Nat) (hk : k < l.length) (hn : l.length ≤ 1024) : ring_width.f l (k : Int) = some (widthZ l k) := by
  unfold ring_width.f widthZ
  by_cases h1 : l.length = 1
  · rw [if_pos (by omega), if_pos h1]
  · have hw : wrap64 ((k : Int) + 1) = ((k + 1 : Nat) : Int) := by unfold wrap64; omega
    have hm : Int.tmod ((k + 1 : Nat) : Int) (l.length : Int) = (((k + 1) % l.length : Nat) : Int) := by rw [Int.tmod_eq_emod_of_nonneg (by omega)]; rfl
    have hlt : (k + 1) % l.length < l.length := Nat.mod_lt _ (by omega)
    have hr1 : rd_T27 l (k : Int) = l.getD k z27 := by simp [rd_T27]
    have hr2 : rd_T27 l (((k + 1) % l.length : Nat) : Int) = l.getD ((k + 1) % l.length) z27 := by simp only [rd_T27, Int.toNat_natCast]
    rw [if_neg (by omega), if_neg h1, if_pos (by omega), if_pos (by omega), if_neg (by omega), hw, hm, if_pos (by omega), if_pos (by omega), hr1, hr2]
    unfold point_Way.f
    simp only [Option.bind_some]
    congr 1
    rw [IntKind.wrap_u64]
    omega

theorem widthZ_le (l : List S27) (k : Nat) : widthZ l k ≤ 4294967296 := by
  unfold widthZ
  split <;> omega

/-- What the arc at a place gives to the other one. -/
def halfNew (l : List S27) (s o : Int) (k : Nat) : List S27 :=
  if (l.getD k z27).f1 = s ∧ 2 ≤ widthZ l k then [⟨((l.getD k z27).f0 + widthZ l k / 2) % 4294967296, o⟩] else []
def halfAll (l : List S27) (s o : Int) (k : Nat) : List S27 := l ++ (List.range k).flatMap (halfNew l s o)
theorem halfAll_succ (l : List S27) (s o : Int) (k : Nat) : halfAll l s o (k + 1) = halfAll l s o k ++ halfNew l s o k := by
  simp [halfAll, List.range_succ]
theorem halfNew_len (l : List S27) (s o : Int) (k : Nat) : (halfNew l s o k).length ≤ 1 := by
  unfold halfNew; split <;> simp
theorem halfAll_len (l : List S27) (s o : Int) (k : Nat) : (halfAll l s o k).length ≤ l.length + k := by
  induction k with
  | zero => simp [halfAll]
  | succ k ih => rw [halfAll_succ, List.length_append]; have := halfNew_len l s o k; omega
/-- An arc among others by its point. -/
def insArc (a : S27) : List S27 → List S27
  | [] => [a]
  | b :: l => if a.f0 ≤ b.f0 then a :: b :: l else b :: insArc a l
def sortArcs : List S27 → List S27
  | [] => []
  | a :: l => insArc a (sortArcs l)
theorem insArc_perm (a : S27) : ∀ l, (insArc a l).Perm (a :: l)
  | [] => List.Perm.refl _
  | b :: l => by
    unfold insArc
    split
    · exact List.Perm.refl _
    · exact ((insArc_perm a l).cons b).trans (List.Perm.swap a b l)
theorem sortArcs_perm : ∀ l, (sortArcs l).Perm l
  | [] => List.Perm.refl _
  | a :: l => (insArc_perm a _).trans ((sortArcs_perm l).cons a)
theorem rises_pairwise : ∀ {l : List S27}, risesB l = true → l.Pairwise (fun a b => a.f0 < b.f0)
  | [], _ => List.Pairwise.nil
  | [a], _ => by simp
  | a :: b :: l, h => by
    obtain ⟨h1, h2⟩ := rises_cons h
    have ih := rises_pairwise h2
    refine List.Pairwise.cons (fun c hc => ?_) ih
    rcases List.mem_cons.1 hc with rfl | hc
    · exact h1
    · exact Int.lt_trans h1 ((List.pairwise_cons.1 ih).1 c hc)
theorem perm_unique : ∀ {xs ys : List S27}, xs.Pairwise (fun a b => a.f0 < b.f0) → ys.Pairwise (fun a b => ¬ b.f0 < a.f0) → ys.Perm xs → ys = xs
  | [], ys, _, _, h => List.Perm.eq_nil h
  | x :: xs, ys, hx, hy, h => by
    cases ys with
    | nil => exact absurd h.symm.eq_nil (by simp)
    | cons y ys =>
      obtain ⟨hx1, hx2⟩ := List.pairwise_cons.1 hx
      obtain ⟨hy1, hy2⟩ := List.pairwise_cons.1 hy
      have hxy : x = y := by
        have hm : x ∈ y :: ys := h.mem_iff.2 List.mem_cons_self
        have hn : y ∈ x :: xs := h.mem_iff.1 List.mem_cons_self
        rcases List.mem_cons.1 hm with e | hm
        · exact e
        rcases List.mem_cons.1 hn with e | hn
        · exact e.symm
        have h1 := hy1 x hm
        have h2 := hx1 y hn
        omega
      subst hxy
      rw [perm_unique hx2 hy2 (List.Perm.cons_inv h)]
def ring_Halve.f (l : List S27) (s o : Int) : Option (List S27) :=
  if arcsOK l = false ∨ o < 0 ∨ 16 ≤ o then some []
  else if risesB (sortArcs (halfAll l s o l.length)) = true then (if (halfAll l s o l.length).length > 1024 then some [] else some (sortArcs (halfAll l s o l.length))) else none

end Go.Proofs.YtpnoifikpmfpdaaDoor.PAll
