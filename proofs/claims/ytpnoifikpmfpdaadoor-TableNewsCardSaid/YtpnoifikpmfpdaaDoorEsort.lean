/-
  Sorting rows of flat structs: between the rows as the print tells them and the rows as the library's sort tells them.
-/
import Derived.Test.YtpnoifikpmfpdaaDoorPAllx0
import Derived.Shelf.SlSortCmp.WholeK
namespace Go.Proofs.YtpnoifikpmfpdaaDoor.PAll
open Go.RowKit Go.Proofs.YtpnoifikpmfpdaaDoorW.PrintWords Go.Proofs.YtpnoifikpmfpdaaDoorW.PrintLast Go.Proofs.YtpnoifikpmfpdaaDoorW.PrintMore
open Go.Sort (HoldsK Holds flatK size_flatK get_flatK onCells putCells blk_iff)
set_option linter.unusedVariables false
set_option linter.unusedSimpArgs false

section
variable {α : Type} [Inhabited α] {d : Kd α} {e : Nat} {w : World} {base : Nat} {ok : Nat → Prop} {v : Value} {xs : List α} {enc : α → List Value}

/-- A kind whose cells are a plain function of the value. -/
structure FlatKd (d : Kd α) (enc : α → List Value) : Prop where
  hM : ∀ w base ok x cs, d.M w base ok x cs ↔ cs = enc x
  hl : ∀ x, (enc x).length = d.sz
  hp : 0 < d.sz

theorem reps_get (hF : FlatKd d enc) {w : World} {base : Nat} {ok : Nat → Prop} {inner : List Value} (h : Reps (d.M w base ok) d.sz xs inner) (t : Nat) (ht : t < xs.length * d.sz) :
    inner[t]? = some ((enc (xs.toArray[t / d.sz]!))[t % d.sz]!) := by
  have hp := hF.hp
  have hj : t / d.sz < xs.length := (Nat.div_lt_iff_lt_mul hp).2 ht
  have h2 := (hF.hM _ _ _ _ _).1 (h.2 (t / d.sz) _ (List.getElem?_eq_getElem hj))
  have hm : t % d.sz < d.sz := Nat.mod_lt _ hp
  have e1 : t / d.sz * d.sz + t % d.sz = t := Nat.div_add_mod' t d.sz
  have h3 : ((inner.drop (t / d.sz * d.sz)).take d.sz)[t % d.sz]? = inner[t]? := by
    rw [List.getElem?_take, if_pos hm, List.getElem?_drop, e1]
  rw [← h3, h2]
  have hlen : t % d.sz < (enc xs[t / d.sz]).length := by rw [hF.hl]; exact hm
  rw [List.getElem?_eq_getElem hlen]
  congr 1
  rw [getElem!_pos xs.toArray (t / d.sz) (by simpa using hj)]
  simp only [List.getElem_toArray]
  exact (getElem!_pos (enc xs[t / d.sz]) (t % d.sz) hlen).symm

theorem R_holds (hF : FlatKd d enc) (h : d.R e w base ok v xs) (hne : xs ≠ []) :
    ∃ g cap cur, v = .slice (some ⟨g, 0, none⟩) xs.length cap ∧ base ≤ g ∧ g < w.heap.size ∧ ok g ∧ w.heap[g]? = some (.cells cur e (0, 0)) ∧ xs.length ≤ cap ∧ cap ≤ maxLen ∧ cur.size = cap * d.sz ∧ HoldsK enc d.sz w g 0 xs.toArray := by
  obtain ⟨h0, inner, ⟨hil, ho⟩, hr⟩ := h
  rcases ho with ⟨rfl, hn⟩ | ⟨g, cap, cur, rfl, hg, hh, hc1, hc2, hc3, hc4⟩
  · exact absurd (List.eq_nil_of_length_eq_zero hn) hne
  · have hlt : g < w.heap.size := by
      rcases Nat.lt_or_ge g w.heap.size with h | h
      · exact h
      · rw [Array.getElem?_eq_none h] at hh; cases hh
    refine ⟨g, cap, cur, rfl, hg, hlt, h0 g rfl, hh, hc1, hc2, hc3, ?_⟩
    intro t ht
    rw [size_flatK] at ht
    have ht' : t < xs.length * d.sz := by simpa using ht
    rw [get_flatK _ _ _ _ ht]
    have h1 := reps_get hF hr t ht'
    rw [← hc4, List.getElem?_take, if_pos ht'] at h1
    simp only [Nat.zero_add, id]
    constructor
    · simp only [World.cell?, hh]
      simpa using h1
    · simp [World.frozen?, hh]

theorem sortWorld_heap (enc : α → List Value) (k : Nat) (w : World) (g : Nat) (m : Nat) (ds : Array α) (os : Array Obj) :
    (sortWorldK enc k w g 0 m ds os).heap = (w.heap.modify g (onCells (putCells id 0 (flatK enc k ds)))) ++ os := rfl
theorem sortWorld_other (enc : α → List Value) (k : Nat) (w : World) (g : Nat) (m : Nat) (ds : Array α) (os : Array Obj) (i : Nat) (hi : i < w.heap.size) (hg : i ≠ g) :
    (sortWorldK enc k w g 0 m ds os).heap[i]? = w.heap[i]? := by
  rw [sortWorld_heap, Array.getElem?_append_left (by simpa using hi), Array.getElem?_modify, if_neg (Ne.symm hg)]
theorem sortWorld_size (enc : α → List Value) (k : Nat) (w : World) (g : Nat) (m : Nat) (ds : Array α) (os : Array Obj) :
    w.heap.size ≤ (sortWorldK enc k w g 0 m ds os).heap.size := by
  rw [sortWorld_heap]; simp

theorem R_sorted (hF : FlatKd d enc) {g cap : Nat} (h : d.R e w base ok (.slice (some ⟨g, 0, none⟩) xs.length cap) xs) (m : Nat) (ds : Array α) (os : Array Obj) (hs : ds.size = xs.length) :
    d.R e (sortWorldK enc d.sz w g 0 m ds os) base ok (.slice (some ⟨g, 0, none⟩) xs.length cap) ds.toList ∧ Below base w (sortWorldK enc d.sz w g 0 m ds os) ∧ Kept w (sortWorldK enc d.sz w g 0 m ds os) (fun k => k = g) := by
  obtain ⟨h0, inner, ⟨hil, ho⟩, hr⟩ := h
  rcases ho with ⟨hn, _⟩ | ⟨g', cap', cur, he, hg, hh, hc1, hc2, hc3, hc4⟩
  · cases hn
  · obtain ⟨rfl, rfl⟩ : g = g' ∧ cap = cap' := by injection he with h1 _ h3; injection h1 with h1; injection h1 with h1; exact ⟨h1, h3⟩
    have hlt : g < w.heap.size := by
      rcases Nat.lt_or_ge g w.heap.size with h | h
      · exact h
      · rw [Array.getElem?_eq_none h] at hh; cases hh
    have hp := hF.hp
    refine ⟨⟨h0, (flatK enc d.sz ds).toList, ⟨?_, .inr ⟨g, cap, putCells id 0 (flatK enc d.sz ds) cur, ?_, hg, ?_, ?_, hc2, ?_, ?_⟩⟩, ?_⟩, ⟨rfl, rfl, rfl, sortWorld_size _ _ _ _ _ _ _, fun k hk => sortWorld_other _ _ _ _ _ _ _ _ (by omega) (by omega)⟩, sortWorld_size _ _ _ _ _ _ _, fun i hi hn => sortWorld_other _ _ _ _ _ _ _ _ hi hn⟩
    · simp
    · simp [hs]
    · rw [sortWorld_heap, Array.getElem?_append_left (by simpa using hlt), Array.getElem?_modify, if_pos rfl, hh]
      rfl
    · simpa [hs] using hc1
    · simp [putCells, hc3]
    · have hle : xs.length * d.sz ≤ cap * d.sz := Nat.mul_le_mul_right _ hc1
      apply List.ext_getElem?
      intro t
      rw [List.getElem?_take]
      simp only [Array.length_toList, hs]
      by_cases ht : t < xs.length * d.sz
      · rw [if_pos ht]
        have htc : t < cur.size := by rw [hc3]; omega
        have htf : t < (flatK enc d.sz ds).size := by rw [size_flatK, hs]; exact ht
        simp only [Array.getElem?_toList]
        rw [Array.getElem?_eq_getElem (by simpa [putCells] using htc), Array.getElem?_eq_getElem htf]
        congr 1
        simp only [putCells, Array.getElem_mapIdx]
        rw [if_pos (by simp; rw [hs]; exact ht)]
        simp only [Nat.sub_zero, id]
        exact getElem!_pos (flatK enc d.sz ds) t htf
      · rw [if_neg ht]
        symm
        simp only [Array.getElem?_toList]
        exact Array.getElem?_eq_none (by rw [size_flatK, hs]; omega)
    · refine ⟨by simp, fun j p hj => (hF.hM _ _ _ _ _).2 ?_⟩
      have hjl : j < ds.size := by
        rcases Nat.lt_or_ge j ds.size with h | h
        · exact h
        · rw [List.getElem?_eq_none (by simpa using h)] at hj; cases hj
      have hpe : ds[j]! = p := by
        rw [getElem!_pos ds j hjl]
        rw [List.getElem?_eq_getElem (by simpa using hjl)] at hj
        simpa using hj
      have hb : j * d.sz + d.sz ≤ ds.size * d.sz := by
        have := Nat.mul_le_mul_right d.sz (show j + 1 ≤ ds.size from hjl)
        rwa [Nat.add_mul, Nat.one_mul] at this
      apply List.ext_getElem?
      intro t
      rw [List.getElem?_take]
      by_cases ht : t < d.sz
      · rw [if_pos ht, List.getElem?_drop, Array.getElem?_toList, Array.getElem?_eq_getElem (by rw [size_flatK]; omega)]
        have := get_flatK enc d.sz ds (j * d.sz + t) (by omega)
        rw [getElem!_pos (flatK enc d.sz ds) (j * d.sz + t) (by rw [size_flatK]; omega)] at this
        rw [this]
        have e1 : (j * d.sz + t) / d.sz = j := (blk_iff d.sz j _ hp).1 ⟨by omega, by omega⟩
        have e2 : (j * d.sz + t) % d.sz = t := by rw [Nat.mod_eq_sub_div_mul, e1]; omega
        rw [e1, e2, hpe]
        have hlt2 : t < (enc p).length := by rw [hF.hl]; exact ht
        rw [getElem!_pos (enc p) t hlt2, List.getElem?_eq_getElem hlt2]
      · rw [if_neg ht, List.getElem?_eq_none (by rw [hF.hl]; omega)]
end
end Go.Proofs.YtpnoifikpmfpdaaDoor.PAll
