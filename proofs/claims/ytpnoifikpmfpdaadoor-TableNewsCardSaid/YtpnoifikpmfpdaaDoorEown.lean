/-
  Owners, widths, ways in plain words.
-/
import Derived.Test.YtpnoifikpmfpdaaDoorPAllx3
import Derived.Test.YtpnoifikpmfpdaaDoorEring
import Derived.Test.YtpnoifikpmfpdaaDoorEhalve
namespace Go.Proofs.YtpnoifikpmfpdaaDoor.PAll
open Go.RowKit Go.Proofs.YtpnoifikpmfpdaaDoorW.PrintWords Go.Proofs.YtpnoifikpmfpdaaDoorW.PrintLast Go.Proofs.YtpnoifikpmfpdaaDoorW.PrintMore
set_option linter.unusedVariables false
set_option linter.unusedSimpArgs false

/-- Points are numbers of 32 bits. -/
def BitsOK (l : List S27) : Prop := ∀ j, j < l.length → 0 ≤ (l.getD j z27).f0 ∧ (l.getD j z27).f0 < 4294967296

theorem cnt_split : ∀ (l : List S27) (p : Int), risesB l = true → ∃ k, k ≤ l.length ∧ (∀ i, i < k → (l.getD i z27).f0 ≤ p) ∧ (∀ i, k ≤ i → i < l.length → p < (l.getD i z27).f0)
  | [], p, _ => ⟨0, by simp, fun i hi => by omega, fun i _ hi => by simp at hi⟩
  | a :: l, p, h => by
    by_cases ha : a.f0 ≤ p
    · obtain ⟨k, h1, h2, h3⟩ := cnt_split l p (rises_tail h)
      refine ⟨k + 1, by simpa using h1, fun i hi => ?_, fun i hk hi => ?_⟩
      · cases i with
        | zero => exact ha
        | succ i => exact h2 i (by omega)
      · cases i with
        | zero => omega
        | succ i => exact h3 i (by omega) (by simpa using hi)
    · refine ⟨0, by omega, fun i hi => by omega, fun i _ hi => ?_⟩
      cases i with
      | zero => simp; omega
      | succ i =>
        have := rises_lt h 0 (i + 1) (by omega) hi
        simp only [List.getD_cons_zero] at this
        omega
theorem cnt_spec (l : List S27) (p : Int) (h : risesB l = true) : cntLe l p ≤ l.length ∧ (∀ i, i < cntLe l p → (l.getD i z27).f0 ≤ p) ∧ (∀ i, cntLe l p ≤ i → i < l.length → p < (l.getD i z27).f0) := by
  obtain ⟨k, h1, h2, h3⟩ := cnt_split l p h
  rw [cnt_eq l p k h1 h2 h3]
  exact ⟨h1, h2, h3⟩
/-- The place of the arc that holds a point. -/
def placeN (l : List S27) (p : Int) : Nat := if cntLe l p = 0 then l.length - 1 else cntLe l p - 1
theorem place_f (l : List S27) (p : Int) (h0 : 0 < l.length) (h1 : l.length ≤ 1024) (h : risesB l = true) : ring_place.f l p = some ((placeN l p : Nat) : Int) ∧ placeN l p < l.length := by
  obtain ⟨c1, _, _⟩ := cnt_spec l p h
  unfold ring_place.f placeN
  rw [if_pos ⟨⟨h0, h1⟩, h⟩]
  split
  · rename_i e
    refine ⟨?_, by omega⟩
    rw [e]
    congr 1
    rw [Int.emod_eq_of_lt (by omega) (by omega)]
    omega
  · refine ⟨?_, by omega⟩
    congr 1
    rw [show ((cntLe l p : Int) + l.length - 1) = ((cntLe l p - 1 : Nat) : Int) + (l.length : Int) from by omega, Int.add_emod_right, Int.emod_eq_of_lt (by omega) (by omega)]

theorem arcs_facts {l : List S27} (h : arcsOK l = true) : 1 ≤ l.length ∧ l.length ≤ 1024 ∧ risesB l = true := by
  have h1 := ((arcsOK_iff l).1 h).1
  unfold arcsOK at h
  rw [Bool.and_eq_true, Bool.and_eq_true] at h
  exact ⟨h1.1, h1.2, h.2.2⟩
theorem owner_f (l : List S27) (p : Int) (h : arcsOK l = true) (k : Nat) (hk : 1100 ≤ k) : ring_Owner.f k l p = some (l.getD (placeN l p) z27).f1 := by
  obtain ⟨h1, h2, h3⟩ := arcs_facts h
  obtain ⟨p1, p2⟩ := place_f l p (by omega) h2 h3
  unfold ring_Owner.f
  rw [ring_May_f l k hk, h]
  simp only [Option.bind_some, if_true]
  rw [p1]
  simp only [Option.bind_some]
  rw [if_pos (by omega), if_pos (by omega)]
  simp only [rd_T27, Int.toNat_natCast]
theorem Width_f (l : List S27) (b : Nat) (h : arcsOK l = true) (hb : b < l.length) (k : Nat) (hk : 1100 ≤ k) : ring_Width.f k l (b : Int) = some (widthZ l b) := by
  obtain ⟨h1, h2, h3⟩ := arcs_facts h
  unfold ring_Width.f
  rw [ring_May_f l k hk, h]
  simp only [Option.bind_some, if_true]
  rw [if_neg (by omega), if_neg (by omega), ring_width_f l b hb h2]
  rfl

/-- The way from an arc to a point. -/
def wayZ (l : List S27) (p : Int) (i : Nat) : Int := (p - (l.getD i z27).f0) % 4294967296
end Go.Proofs.YtpnoifikpmfpdaaDoor.PAll
