/-
  When arcs may be: the printed function's answer, in plain words, and its contract without rounds.
-/
import Derived.Test.YtpnoifikpmfpdaaDoorPAllx2
import Derived.Test.YtpnoifikpmfpdaaDoorEplace
namespace Go.Proofs.YtpnoifikpmfpdaaDoor.PAll
open Go.RowKit Go.Proofs.YtpnoifikpmfpdaaDoorW.PrintWords Go.Proofs.YtpnoifikpmfpdaaDoorW.PrintLast Go.Proofs.YtpnoifikpmfpdaaDoorW.PrintMore
set_option linter.unusedVariables false
set_option linter.unusedSimpArgs false

/-- What an arc at a place must meet. -/
def OkAt (l : List S27) (j : Nat) : Prop := 0 ≤ (l.getD j z27).f1 ∧ (l.getD j z27).f1 < 16 ∧ (0 < j → (l.getD (j - 1) z27).f0 < (l.getD j z27).f0)
/-- Arcs that may be. -/
def arcsOK (l : List S27) : Bool := decide (1 ≤ l.length ∧ l.length ≤ 1024) && (l.all (fun a => decide (0 ≤ a.f1 ∧ a.f1 < 16)) && risesB l)

theorem may_l0 (l : List S27) (hn : l.length ≤ 1024) (d : Nat) : ∀ (k i : Nat), l.length - i = d → i ≤ l.length → d < k →
    ∃ r, ring_May.l0 k l l (l.length : Int) (i : Int) = some r ∧ (r = true ↔ ∀ j, i ≤ j → j < l.length → OkAt l j) := by
  induction d with
  | zero =>
    intro k i hd hi hk
    obtain ⟨k, rfl⟩ : ∃ m, k = m + 1 := ⟨k - 1, by omega⟩
    refine ⟨true, ?_, by simp; intro j h1 h2; omega⟩
    simp only [ring_May.l0]; rw [if_neg (by omega)]
  | succ d ih =>
    intro k i hd hi hk
    obtain ⟨k, rfl⟩ : ∃ m, k = m + 1 := ⟨k - 1, by omega⟩
    have hlt : i < l.length := by omega
    obtain ⟨r, hr, hiff⟩ := ih k (i + 1) (by omega) (by omega) (by omega)
    have hw : wrap64 ((i : Int) + 1) = ((i + 1 : Nat) : Int) := by unfold wrap64; omega
    have hrd : rd_T27 l (i : Int) = l.getD i z27 := by simp [rd_T27]
    simp only [ring_May.l0]
    rw [if_pos (by omega), if_pos (by omega), if_pos (by omega), hrd]
    by_cases h1 : (l.getD i z27).f1 < 0
    · rw [if_pos h1]
      exact ⟨false, rfl, by simp; exact ⟨i, by omega, hlt, fun h => by have := h.1; omega⟩⟩
    rw [if_neg h1]
    by_cases h2 : (l.getD i z27).f1 ≥ 16
    · rw [if_pos h2]
      exact ⟨false, rfl, by simp; exact ⟨i, by omega, hlt, fun h => by have := h.2.1; omega⟩⟩
    rw [if_neg h2]
    have step : ∀ (_ : 0 < i → (l.getD (i - 1) z27).f0 < (l.getD i z27).f0), (r = true ↔ ∀ j, i ≤ j → j < l.length → OkAt l j) := by
      intro h0
      rw [hiff]
      refine ⟨fun h j hj hjl => ?_, fun h j hj hjl => h j (by omega) hjl⟩
      by_cases e : j = i
      · subst e; exact ⟨by omega, by omega, h0⟩
      · exact h j (by omega) hjl
    by_cases h0 : (i : Int) > 0
    · rw [if_pos h0]
      have hw1 : wrap64 ((i : Int) - 1) = ((i - 1 : Nat) : Int) := by unfold wrap64; omega
      have hrd1 : rd_T27 l ((i - 1 : Nat) : Int) = l.getD (i - 1) z27 := by simp [rd_T27]
      rw [hw1, if_pos (by omega), if_pos (by omega), hrd1]
      by_cases h3 : (l.getD (i - 1) z27).f0 ≥ (l.getD i z27).f0
      · rw [if_pos h3]
        exact ⟨false, rfl, by simp; exact ⟨i, by omega, hlt, fun h => by have := h.2.2 (by omega); omega⟩⟩
      · rw [if_neg h3, hw]
        exact ⟨r, hr, step (fun _ => by omega)⟩
    · rw [if_neg h0, hw]
      exact ⟨r, hr, step (fun h => by omega)⟩

theorem rises_iff : ∀ (l : List S27), risesB l = true ↔ ∀ j, 0 < j → j < l.length → (l.getD (j - 1) z27).f0 < (l.getD j z27).f0
  | [] => by simp [risesB]
  | [a] => by simp [risesB]; intro j h1 h2; omega
  | a :: b :: l => by
    have ih := rises_iff (b :: l)
    rw [show risesB (a :: b :: l) = (decide (a.f0 < b.f0) && risesB (b :: l)) from rfl, Bool.and_eq_true, ih, decide_eq_true_iff]
    constructor
    · rintro ⟨h1, h2⟩ j hj hjl
      cases j with
      | zero => omega
      | succ j =>
        cases j with
        | zero => exact h1
        | succ j => exact h2 (j + 1) (by omega) (by simpa using hjl)
    · intro h
      refine ⟨h 1 (by omega) (by simp), fun j hj hjl => ?_⟩
      have := h (j + 1) (by omega) (by simpa using hjl)
      cases j with
      | zero => omega
      | succ j => exact this

theorem arcsOK_iff (l : List S27) : arcsOK l = true ↔ (1 ≤ l.length ∧ l.length ≤ 1024) ∧ ∀ j, j < l.length → OkAt l j := by
  unfold arcsOK
  rw [Bool.and_eq_true, Bool.and_eq_true, rises_iff, decide_eq_true_iff, List.all_eq_true]
  constructor
  · rintro ⟨h1, h2, h3⟩
    refine ⟨h1, fun j hj => ?_⟩
    have := h2 (l.getD j z27) (by rw [List.getD_eq_getElem?_getD, List.getElem?_eq_getElem hj]; exact List.getElem_mem hj)
    rw [decide_eq_true_iff] at this
    exact ⟨this.1, this.2, fun h0 => h3 j h0 hj⟩
  · rintro ⟨h1, h2⟩
    refine ⟨h1, fun x hx => ?_, fun j h0 hj => (h2 j hj).2.2 h0⟩
    obtain ⟨j, hj, rfl⟩ := List.getElem_of_mem hx
    have := h2 j hj
    unfold OkAt at this
    rw [List.getD_eq_getElem?_getD, List.getElem?_eq_getElem hj] at this
    rw [decide_eq_true_iff]
    exact ⟨this.1, this.2.1⟩

theorem ring_May_f (l : List S27) (k : Nat) (hk : 1100 ≤ k) : ring_May.f k l = some (arcsOK l) := by
  obtain ⟨k, rfl⟩ : ∃ m, k = m + 1 := ⟨k - 1, by omega⟩
  unfold ring_May.f
  simp only [ring_May.j0]
  by_cases h1 : (l.length : Int) < 1
  · rw [if_pos h1]
    have : arcsOK l = false := by
      rw [Bool.eq_false_iff]; intro h; have := (arcsOK_iff l).1 h; omega
    rw [this, if_pos trivial]
  rw [if_neg h1]
  by_cases h2 : (l.length : Int) > 1024
  · have : arcsOK l = false := by
      rw [Bool.eq_false_iff]; intro h; have := (arcsOK_iff l).1 h; omega
    rw [this, decide_eq_true h2, if_pos rfl]
  · rw [decide_eq_false h2, if_neg (by decide)]
    obtain ⟨r, hr, hiff⟩ := may_l0 l (by omega) l.length k 0 (by omega) (by omega) (by omega)
    rw [show (0 : Int) = ((0 : Nat) : Int) from rfl, hr]
    congr 1
    rw [Bool.eq_iff_iff, hiff, arcsOK_iff]
    constructor
    · intro h; exact ⟨by omega, fun j hj => h j (by omega) hj⟩
    · intro h j _ hj; exact h.2 j hj

theorem arcsMay.calls (A0 : Option Addr) (c0 : Nat) (l0 : List (S27)) (w : World) (hr0 : Kd.C k27 w A0 l0.length l0) (hc0 : l0.length ≤ c0) :
    Calls Tryd.prog 9 #[.slice A0 l0.length c0] w fun e w' => e = .returned (.bool (arcsOK l0)) ∧ Below w.heap.size w w' :=
  ring_May.calls 1100 A0 c0 l0 _ w hr0 hc0 (ring_May_f l0 1100 (Nat.le_refl _))
end Go.Proofs.YtpnoifikpmfpdaaDoor.PAll
