/-
  Arcs that come in as an argument: what the walks want to know of them.
-/
import Derived.Test.YtpnoifikpmfpdaaDoorEown
import Derived.Test.YtpnoifikpmfpdaaDoorRows
import Derived.Deep.Slices
import Derived.Deep.Fields
import Derived.ChangeSame
import Derived.ProofKit
import Derived.OpenShut
import Derived.LaidMore
import Derived.Stop.Joined
import Derived.SizedLaws
import Derived.ChangeOld
import Derived.ShutString
namespace Go.Proofs.YtpnoifikpmfpdaaDoor.PAll
open Go.ChangeShapes Go.WideShapes Go.ChangeAt Go.RowKit Go.Deep Go.Proofs.YtpnoifikpmfpdaaDoorW.PrintWords
set_option linter.unusedVariables false
set_option linter.unusedSimpArgs false

theorem list_two {α : Type} {l : List α} (h : l.length = 2) : ∃ a b, l = [a, b] := by
  match l, h with
  | [a, b], _ => exact ⟨a, b, rfl⟩

section
variable {H : Type} {enc : TypeId × Value → H} {w : World} {base : Nat} {spare : Nat → Bool} {held : Bool}
/-- One arc, read out of its two cells. -/
theorem open_arc {fuel : Nat} {cs : List Value} {x : DataW H × List MemPlace} (h : DataW.trod enc Tryd.prog w base spare held fuel 27 cs = some x) :
    ∃ a b : Int, cs = [.int .u32 a, .int .i64 b] ∧ (Lit.int .u32 a).wf = true ∧ (Lit.int .i64 b).wf = true := by
  obtain ⟨xs, n, _, _, hlen, hxl, hf⟩ := DataW.trod_struct Tryd.underlying27 h
  have h2 : cs.length = 2 := hlen.trans (by kernel_rfl)
  have hx2 : xs.length = 2 := hxl
  have e0 : DataW.trod enc Tryd.prog w base spare held n 23 ((cs.drop 0).take (Tryd.prog.cellsOf 23)) = xs[0]? := hf 0 _ rfl
  have e1 : DataW.trod enc Tryd.prog w base spare held n 3 ((cs.drop 1).take (Tryd.prog.cellsOf 3)) = xs[1]? := hf 1 _ rfl
  have c23 : Tryd.prog.cellsOf 23 = 1 := by kernel_rfl
  have c3 : Tryd.prog.cellsOf 3 = 1 := by kernel_rfl
  rw [c23] at e0
  rw [c3] at e1
  obtain ⟨c0, c1, rfl⟩ := list_two h2
  obtain ⟨y0, y1, rfl⟩ := list_two hx2
  obtain ⟨a, ha, _, wa⟩ := DataW.trod_int Tryd.underlying23 (show DataW.trod enc Tryd.prog w base spare held n 23 [c0] = some y0 from e0)
  obtain ⟨b, hb, _, wb⟩ := DataW.trod_int Tryd.underlying3 (show DataW.trod enc Tryd.prog w base spare held n 3 [c1] = some y1 from e1)
  injection ha with ha
  injection hb with hb
  exact ⟨a, b, by rw [ha, hb], wa, wb⟩

/-- Arcs that come in: a row that is read, its points of 32 bits, its numbers ints. -/
theorem open_arcs {fuel : Nat} {v : Value} {x : DataW H × List MemPlace} (h : DataW.trod enc Tryd.prog w base spare held fuel 22 [v] = some x) :
    ∃ (A : Option Addr) (c : Nat) (l : List S27), v = .slice A l.length c ∧ l.length ≤ c ∧ c ≤ maxLen ∧ k27.C w A l.length l ∧ BitsOK l ∧ ∀ j, j < l.length → (Lit.int .i64 (l.getD j z27).f1).wf = true := by
  rcases open_slice Tryd.underlying22 h with ⟨hcs, _⟩ | ⟨a, len, cap, m, n, D, Pl, hcs, _, hl, hm, hmm, _, hi⟩
  · injection hcs with hv
    exact ⟨none, 0, [], hv, Nat.le_refl _, by decide, Kd.C_nil _ _, fun j hj => by simp at hj, fun j hj => by simp at hj⟩
  · injection hcs with hv
    have c27 : Tryd.prog.cellsOf 27 = 2 := by kernel_rfl
    have hle : len ≤ m := by rw [hmm]; split <;> omega
    have key : ∀ i, i < len → ∃ p : S27, w.cell? (a.add (i * 2)) = some (.int .u32 p.f0) ∧ w.cell? (a.add (i * 2 + 1)) = some (.int .i64 p.f1) ∧ (Lit.int .u32 p.f0).wf = true ∧ (Lit.int .i64 p.f1).wf = true := by
      intro i hil
      obtain ⟨cs', hc, ht⟩ := hi i (by omega)
      rw [c27] at hc
      obtain ⟨p0, p1, rfl, w0, w1⟩ := open_arc ht
      obtain ⟨_, _, hat⟩ := World.cells?_some hc
      have g0 := hat 0 (by omega)
      have g1 := hat 1 (by omega)
      rw [Go.Deep.add_add] at g0 g1
      exact ⟨⟨p0, p1⟩, by simpa using g0, by simpa using g1, w0, w1⟩
    have build : ∀ k, k ≤ len → ∃ l : List S27, l.length = k ∧ ∀ i p, l[i]? = some p → w.cell? (a.add (i * 2)) = some (.int .u32 p.f0) ∧ w.cell? (a.add (i * 2 + 1)) = some (.int .i64 p.f1) ∧ (Lit.int .u32 p.f0).wf = true ∧ (Lit.int .i64 p.f1).wf = true := by
      intro k
      induction k with
      | zero => exact fun _ => ⟨[], rfl, fun i p h => by simp at h⟩
      | succ k ih =>
        intro hk
        obtain ⟨l, hll, hlp⟩ := ih (by omega)
        obtain ⟨p, hp⟩ := key k (by omega)
        refine ⟨l ++ [p], by simp [hll], fun i q hq => ?_⟩
        rcases Nat.lt_or_ge i l.length with h | h
        · rw [List.getElem?_append_left h] at hq
          exact hlp i q hq
        · rw [List.getElem?_append_right h] at hq
          have : i = k := by
            rcases Nat.eq_or_lt_of_le h with e | e
            · omega
            · rw [List.getElem?_eq_none (by simp; omega)] at hq; cases hq
          subst this
          rw [hll, Nat.sub_self] at hq
          simp at hq
          subst hq
          exact hp
    obtain ⟨l, rfl, hlp⟩ := build len (Nat.le_refl _)
    have hget : ∀ j, j < l.length → l[j]? = some (l.getD j z27) := fun j hj => by rw [List.getD_eq_getElem?_getD, List.getElem?_eq_getElem hj]; rfl
    refine ⟨some a, cap, l, hv, hl, hm, ⟨rfl, by unfold maxLen at hm; omega, fun _ => ⟨a, rfl, fun j p hj => ⟨[.int .u32 p.f0, .int .i64 p.f1], rfl, k27_mk w p, fun i u hu => ?_⟩⟩⟩, fun j hj => ?_, fun j hj => (hlp j _ (hget j hj)).2.2.2⟩
    · obtain ⟨h0, h1, _, _⟩ := hlp j p hj
      rcases i with _ | _ | i
      · simp at hu; subst hu; exact h0
      · simp at hu; subst hu; exact h1
      · simp at hu
    · have := (hlp j _ (hget j hj)).2.2.1
      generalize (l.getD j z27).f0 = q at this ⊢
      simp [Lit.wf, IntKind.min, IntKind.max, IntKind.signed, IntKind.bits] at this
      exact ⟨by omega, by omega⟩
end

theorem row_own : ownKnob Tryd.prog.godebug = none := by kernel_rfl
theorem row_laidOut : laidOutB Tryd.prog = true := by kernel_rfl
end Go.Proofs.YtpnoifikpmfpdaaDoor.PAll
