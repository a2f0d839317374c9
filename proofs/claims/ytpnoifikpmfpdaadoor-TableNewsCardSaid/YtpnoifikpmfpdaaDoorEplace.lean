/-
  The function 'place' of package ring (a loop made with goto): the contract, for sorted arcs that are some.
-/
import Derived.Test.YtpnoifikpmfpdaaDoorPAllx0
import Derived.ScopeJumps
import Derived.WalkMore
namespace Go.Proofs.YtpnoifikpmfpdaaDoor.PAll
open Go.RowKit Go.Proofs.YtpnoifikpmfpdaaDoorW.PrintWords Go.Proofs.YtpnoifikpmfpdaaDoorW.PrintLast Go.Proofs.YtpnoifikpmfpdaaDoorW.PrintMore
set_option linter.unusedVariables false
set_option linter.unusedSimpArgs false

/-- How many points are at most p. -/
def cntLe (l : List S27) (p : Int) : Nat := l.countP (fun a => decide (a.f0 ≤ p))
/-- Points rise. -/
def risesB : List S27 → Bool
  | [] => true
  | a :: l => (match l with | [] => true | b :: _ => decide (a.f0 < b.f0)) && risesB l
def ring_place.f (l0 : List S27) (a1 : Int) : Option Int :=
  if (0 < l0.length ∧ l0.length ≤ 1024) ∧ risesB l0 = true then some (((cntLe l0 a1 : Int) + l0.length - 1) % l0.length) else none

theorem rises_cons {a b : S27} {l : List S27} (h : risesB (a :: b :: l) = true) : a.f0 < b.f0 ∧ risesB (b :: l) = true := by
  simp only [risesB] at h
  simp at h
  exact ⟨h.1, by simp [risesB]; exact h.2⟩
theorem rises_tail {a : S27} {l : List S27} (h : risesB (a :: l) = true) : risesB l = true := by
  cases l with
  | nil => rfl
  | cons b l => exact (rises_cons h).2
theorem rises_lt : ∀ {l : List S27}, risesB l = true → ∀ (i j : Nat), i < j → j < l.length → (l.getD i z27).f0 < (l.getD j z27).f0
  | [], _, i, j, _, hj => by simp at hj
  | [a], _, i, j, hij, hj => by simp at hj; omega
  | a :: b :: l, h, i, j, hij, hj => by
    obtain ⟨h1, h2⟩ := rises_cons h
    cases j with
    | zero => omega
    | succ j =>
      cases i with
      | succ i => exact rises_lt h2 i j (by omega) (by simpa using hj)
      | zero =>
        cases j with
        | zero => exact h1
        | succ j => exact Int.lt_trans h1 (rises_lt h2 0 (j + 1) (by omega) (by simpa using hj))
theorem cnt_eq : ∀ (l : List S27) (p : Int) (k : Nat), k ≤ l.length → (∀ i, i < k → (l.getD i z27).f0 ≤ p) → (∀ i, k ≤ i → i < l.length → p < (l.getD i z27).f0) → cntLe l p = k
  | [], p, k, hk, _, _ => by simp at hk; simp [cntLe, hk]
  | a :: l, p, k, hk, h1, h2 => by
    cases k with
    | zero =>
      have ha := h2 0 (by omega) (by simp)
      simp at ha
      have := cnt_eq l p 0 (by omega) (fun i hi => by omega) (fun i _ hi => by have := h2 (i + 1) (by omega) (by simpa using hi); simpa using this)
      simp [cntLe] at this ⊢
      exact ⟨by omega, this⟩
    | succ k =>
      have ha := h1 0 (by omega)
      simp at ha
      have := cnt_eq l p k (by simpa using hk) (fun i hi => by have := h1 (i + 1) (by omega); simpa using this) (fun i hk hi => by have := h2 (i + 1) (by omega) (by simpa using hi); simpa using this)
      simp only [cntLe] at this ⊢
      rw [List.countP_cons_of_pos (by simpa using ha), this]

/-- What the two bounds know. -/
structure PlaceAt (l : List S27) (p : Int) (lo hi : Nat) : Prop where
  le : lo ≤ hi
  hn : hi ≤ l.length
  lows : ∀ i, i < lo → (l.getD i z27).f0 ≤ p
  highs : ∀ i, hi ≤ i → i < l.length → p < (l.getD i z27).f0
theorem PlaceAt.up {l : List S27} {p : Int} {lo hi : Nat} (hs : risesB l = true) (h : PlaceAt l p lo hi) (hlt : lo < hi) (hp : (l.getD ((lo + hi) / 2) z27).f0 ≤ p) : PlaceAt l p ((lo + hi) / 2 + 1) hi :=
  { h with
    le := by omega
    lows := fun i hi' => by
      by_cases e : i = (lo + hi) / 2
      · rw [e]; exact hp
      · have := rises_lt hs i ((lo + hi) / 2) (by omega) (by have := h.hn; omega); omega }
theorem PlaceAt.down {l : List S27} {p : Int} {lo hi : Nat} (hs : risesB l = true) (h : PlaceAt l p lo hi) (hlt : lo < hi) (hp : p < (l.getD ((lo + hi) / 2) z27).f0) : PlaceAt l p lo ((lo + hi) / 2) :=
  { h with
    le := by omega
    hn := by have := h.hn; omega
    highs := fun i hi' hl => by
      by_cases e : i = (lo + hi) / 2
      · rw [e]; exact hp
      · have := rises_lt hs ((lo + hi) / 2) i (by omega) hl; omega }

section
variable {P : Program} {a : Act} {w : World} {Q : Exit → Act → World → Prop}
/-- A scope with one label: what holds at the label, each pass from there, and the way to it. -/
theorem wp_scope_goto {c rest : Code} (l : Nat) (J : Act → World → Prop) (μ : Act → World → Nat) (hf : findLabel c l = some (Code.skip.seq rest))
    (pass : ∀ a w, J a w → rest.wp P (Exit.jump l (fun a' w' => J a' w' ∧ μ a' w' < μ a w) Q) a w)
    (first : (∀ a w, J a w → rest.wp P (Exit.jump l J Q) a w) → c.wp P (Exit.jump l J Q) a w) : (Code.scope c).wp P Q a w :=
  wp_scope_jumps l J μ hf (first (fun a w h => wp_mono (pass a w h) (fun e a' w' hq => by cases e <;> first | exact hq | exact ⟨hq.1, hq.2.1⟩))) (fun a w h => wp_seq (wp_skip (pass a w h)))
end

end Go.Proofs.YtpnoifikpmfpdaaDoor.PAll
