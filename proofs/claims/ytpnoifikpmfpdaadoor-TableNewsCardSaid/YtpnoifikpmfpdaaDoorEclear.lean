/-
  Clearing the end of a row.
-/
import Derived.Test.YtpnoifikpmfpdaaDoorEcmp
import Derived.Lib.SliceRun
namespace Go.Proofs.YtpnoifikpmfpdaaDoor.PAll
open Go.RowKit Go.Proofs.YtpnoifikpmfpdaaDoorW.PrintWords Go.Proofs.YtpnoifikpmfpdaaDoorW.PrintLast Go.Proofs.YtpnoifikpmfpdaaDoorW.PrintMore
set_option linter.unusedVariables false
set_option linter.unusedSimpArgs false

theorem setCells_what (g : Nat) : ∀ (vs : List Value) (o : Nat) (w : World),
    (w.setCells g o vs).os = w.os ∧ (w.setCells g o vs).tape = w.tape ∧ (w.setCells g o vs).output = w.output ∧ (w.setCells g o vs).heap.size = w.heap.size ∧
    (∀ i, i ≠ g → (w.setCells g o vs).heap[i]? = w.heap[i]?) ∧
    ∀ cur e fr, w.heap[g]? = some (.cells cur e fr) → ∃ cur', (w.setCells g o vs).heap[g]? = some (.cells cur' e fr) ∧ cur'.size = cur.size ∧ ∀ t, t < o → cur'[t]? = cur[t]?
  | [], o, w => ⟨rfl, rfl, rfl, rfl, fun _ _ => rfl, fun cur e fr h => ⟨cur, h, rfl, fun _ _ => rfl⟩⟩
  | v :: vs, o, w => by
    obtain ⟨h1, h2, h3, h4, h5, h6⟩ := setCells_what g vs (o + 1) (w.setCell ⟨g, o, none⟩ v)
    have e1 : (w.setCell ⟨g, o, none⟩ v).heap.size = w.heap.size := by simp [World.setCell]
    refine ⟨h1, h2, h3, h4.trans e1, fun i hi => (h5 i hi).trans ?_, fun cur e fr h => ?_⟩
    · simp only [World.setCell, Array.getElem?_modify]
      rw [if_neg (fun h => hi h.symm)]
    · have hh : (w.setCell ⟨g, o, none⟩ v).heap[g]? = some (.cells (cur.setIfInBounds o v) e fr) := by
        simp only [World.setCell, Array.getElem?_modify, if_true, h]
        rfl
      obtain ⟨cur', c1, c2, c3⟩ := h6 _ _ _ hh
      refine ⟨cur', c1, by rw [c2]; simp, fun t ht => (c3 t (by omega)).trans ?_⟩
      rw [Array.getElem?_setIfInBounds_ne (by omega)]

theorem run_clear_cells {P : Program} (w : World) (t e ty : TypeId) (z : Value) (ht : P.underlying t = some (.slice e)) (hv : ∀ w, (zeroValue e).run P w = .ok z w) (h1 : ∀ v ∈ z.cells, v.oneCell' = true) (b o n c : Nat) (hn : 0 < n)
    (hc : ∀ j, j < n * z.cells.size → (w.cell? ⟨b, o + j, none⟩).isSome = true) (hf : ∀ j, j < n * z.cells.size → w.frozen? ⟨b, o + j, none⟩ = false) :
    ∃ vs, (Builtin.clear_ #[t] ty #[.slice (some ⟨b, o, none⟩) n c]).run P w = .ok (.tuple #[]) (w.setCells b o vs) := by
  refine ⟨(Builtin.zeroCells z.cells n).toList, ?_⟩
  have hl : (Builtin.zeroCells z.cells n).toList.length = n * z.cells.size := by simp [Builtin.zeroCells]
  have hone : ∀ v ∈ (Builtin.zeroCells z.cells n).toList, v.oneCell' = true := by
    intro v hv'
    simp only [Builtin.zeroCells, Array.toList_map, List.mem_map] at hv'
    obtain ⟨i, hi, rfl⟩ := hv'
    have hi' : i < n * z.cells.size := by simpa using hi
    have hp : 0 < z.cells.size := Nat.pos_of_ne_zero (fun h => by rw [h] at hi'; simp at hi')
    have hm : i % z.cells.size < z.cells.size := Nat.mod_lt _ hp
    rw [getElem!_pos z.cells _ hm]
    exact h1 _ (Array.getElem_mem hm)
  have hst := run_storeCells_cells (P := P) b o (Builtin.zeroCells z.cells n).toList 0 w (by rw [hl]; simpa using hc) (by rw [hl]; simpa using hf) hone
  simp only [Nat.add_zero] at hst
  obtain ⟨m, rfl⟩ : ∃ m, n = m + 1 := ⟨n - 1, by omega⟩
  simp [Builtin.clear_, run_underlying ht, hv, hst]

/-- What is cleared behind a part of a row doesn't count for the part. -/
theorem R_clear {W : World} {base g cap n : Nat} {ok : Nat → Prop} {xs : List S27} (h : k27.R 27 W base ok (.slice (some ⟨g, 0, none⟩) n cap) xs) (k : Nat) (hk : k ≤ xs.length) (vs : List Value) :
    k27.R 27 (W.setCells g (k * 2) vs) base ok (.slice (some ⟨g, 0, none⟩) k cap) (xs.take k) := by
  obtain ⟨h0, inner, ⟨hil, ho⟩, hr⟩ := Kd.R_take h hk
  obtain ⟨_, _, _, _, _, h6⟩ := setCells_what g vs (k * 2) W
  refine ⟨h0, inner, ⟨hil, ?_⟩, ⟨hr.1, fun j p hj => ?_⟩⟩
  · rcases ho with ⟨hn, _⟩ | ⟨g', cap', cur, he, hg, hh, c1, c2, c3, c4⟩
    · cases hn
    · obtain ⟨rfl, rfl⟩ : g = g' ∧ cap = cap' := by injection he with h1 _ h3; injection h1 with h1; injection h1 with h1; exact ⟨h1, h3⟩
      obtain ⟨cur', d1, d2, d3⟩ := h6 _ _ _ hh
      have hlen : (xs.take k).length = k := by rw [List.length_take]; omega
      refine .inr ⟨g, cap, cur', by rw [hlen], hg, d1, c1, c2, by rw [d2]; exact c3, ?_⟩
      rw [← c4]
      apply List.ext_getElem?
      intro t
      rw [List.getElem?_take, List.getElem?_take]
      by_cases ht : t < (xs.take k).length * k27.sz
      · rw [if_pos ht, if_pos ht, Array.getElem?_toList, Array.getElem?_toList]
        exact d3 t (by rw [hlen] at ht; exact ht)
      · rw [if_neg ht, if_neg ht]
  · have := (flat27.hM _ _ _ _ _).1 (hr.2 j p hj)
    exact (flat27.hM _ _ _ _ _).2 this
theorem below_cells {B g o : Nat} {w W : World} (h : Below B w W) (hg : B ≤ g) (vs : List Value) : Below B w (W.setCells g o vs) := by
  obtain ⟨h1, h2, h3, h4, h5, _⟩ := setCells_what g vs o W
  exact h.trans ⟨h1, h2, h3, Nat.le_of_eq h4.symm, fun k hk => h5 k (by omega)⟩
theorem zero27 : ∀ w, (zeroValue 27).run Tryd.prog w = .ok (.agg #[.int .u32 0, .int .i64 0]) w := fun w => by kernel_rfl
/-- 'clear' of the end of a row of one's own. -/
theorem run_clear_row {W : World} {base g cap : Nat} {ok : Nat → Prop} {xs : List S27} (h : k27.R 27 W base ok (.slice (some ⟨g, 0, none⟩) xs.length cap) xs) (k c : Nat) (hk : k < xs.length) :
    ∃ vs, (Builtin.clear_ #[22] 0 #[.slice (some ⟨g, k * 2, none⟩) (xs.length - k) c]).run Tryd.prog W = .ok (.tuple #[]) (W.setCells g (k * 2) vs) := by
  obtain ⟨g', cap', cur, he, _, _, _, hh, _, _, _, hH⟩ := R_holds flat27 h (by intro h; rw [h] at hk; simp at hk)
  obtain ⟨rfl, rfl⟩ : g = g' ∧ cap = cap' := by injection he with h1 _ h3; injection h1 with h1; injection h1 with h1; exact ⟨h1, h3⟩
  refine run_clear_cells W 22 27 0 (.agg #[.int .u32 0, .int .i64 0]) Tryd.underlying22 zero27 (fun v hv => ?_) g (k * 2) (xs.length - k) c (by omega) (fun j hj => ?_) (fun j hj => ?_)
  · simp [Value.cells] at hv
    rcases hv with rfl | rfl <;> rfl
  · have hj' : j < (xs.length - k) * 2 := hj
    have := (hH (k * 2 + j) (by rw [Go.Sort.size_flatK]; show k * 2 + j < xs.toArray.size * 2; simp; omega)).1
    rw [Nat.zero_add] at this
    rw [this]; rfl
  · have hj' : j < (xs.length - k) * 2 := hj
    have := (hH (k * 2 + j) (by rw [Go.Sort.size_flatK]; show k * 2 + j < xs.toArray.size * 2; simp; omega)).2
    rw [Nat.zero_add] at this
    exact this
end Go.Proofs.YtpnoifikpmfpdaaDoor.PAll
