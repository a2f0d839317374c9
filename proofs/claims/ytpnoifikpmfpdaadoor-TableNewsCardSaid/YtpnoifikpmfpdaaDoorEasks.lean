/-
  What the reference says of arcs, in plain words; RingAsks in plain words.
-/
import Derived.Test.YtpnoifikpmfpdaaDoorEquart
import Derived.Test.YtpnoifikpmfpdaaDoorPAllx13
namespace Go.Proofs.YtpnoifikpmfpdaaDoor.PAll
open Go.RowKit Go.Proofs.YtpnoifikpmfpdaaDoorW.PrintWords Go.Proofs.YtpnoifikpmfpdaaDoorW.PrintLast Go.Proofs.YtpnoifikpmfpdaaDoorW.PrintMore
set_option linter.unusedVariables false
set_option linter.unusedSimpArgs false

deriving instance DecidableEq for S27
theorem wrap_succ (i : Nat) (h : i ≤ 100000) : wrap64 ((i : Int) + 1) = ((i + 1 : Nat) : Int) := by unfold wrap64; omega
theorem wrap_pred (i : Nat) (h : 0 < i) (h2 : i ≤ 100000) : wrap64 ((i : Int) - 1) = ((i - 1 : Nat) : Int) := by unfold wrap64; omega

theorem refmay_l0 (l : List S27) (hn : l.length ≤ 1024) : ∀ (d k i : Nat), l.length - i = d → i ≤ l.length → d < k →
    ∃ r, carrefourref1_MayArcs.l0 k l (i : Int) = some r ∧ (r = true ↔ ∀ j, i ≤ j → j < l.length → OkAt l j)
  | 0, k, i, hd, hi, hk => by
    obtain ⟨k, rfl⟩ : ∃ m, k = m + 1 := ⟨k - 1, by omega⟩
    refine ⟨true, ?_, by simp; intro j h1 h2; omega⟩
    simp only [carrefourref1_MayArcs.l0]
    rw [if_neg (by omega)]
  | d + 1, k, i, hd, hi, hk => by
    obtain ⟨k, rfl⟩ : ∃ m, k = m + 1 := ⟨k - 1, by omega⟩
    obtain ⟨r, h1, h2⟩ := refmay_l0 l hn d k (i + 1) (by omega) (by omega) (by omega)
    simp only [carrefourref1_MayArcs.l0]
    rw [if_pos (by omega), if_pos (by omega), rd_nat, wrap_succ i (by omega)]
    by_cases g1 : (l.getD i z27).f1 < 0
    · rw [if_pos g1]
      exact ⟨false, rfl, by simp; exact ⟨i, Nat.le_refl _, by omega, fun h => by have := h.1; omega⟩⟩
    rw [if_neg g1]
    by_cases g2 : (l.getD i z27).f1 ≥ 16
    · rw [if_pos g2]
      exact ⟨false, rfl, by simp; exact ⟨i, Nat.le_refl _, by omega, fun h => by have := h.2.1; omega⟩⟩
    rw [if_neg g2]
    have step : OkAt l i → (r = true ↔ ∀ j, i ≤ j → j < l.length → OkAt l j) := fun ok => by
      rw [h2]
      constructor
      · intro h j hj1 hj2
        by_cases e : j = i
        · rw [e]; exact ok
        · exact h j (by omega) hj2
      · intro h j hj1 hj2; exact h j (by omega) hj2
    by_cases g3 : (i : Int) > 0
    · rw [if_pos g3, wrap_pred i (by omega) (by omega), if_pos (by omega), if_pos (by omega), rd_nat]
      by_cases g4 : (l.getD i z27).f0 ≤ (l.getD (i - 1) z27).f0
      · rw [if_pos g4]
        exact ⟨false, rfl, by simp; exact ⟨i, Nat.le_refl _, by omega, fun h => by have := h.2.2 (by omega); omega⟩⟩
      · rw [if_neg g4]
        exact ⟨r, h1, step ⟨by omega, by omega, fun _ => by omega⟩⟩
    · rw [if_neg g3]
      exact ⟨r, h1, step ⟨by omega, by omega, fun _ => by omega⟩⟩
theorem refmay_f (l : List S27) (k : Nat) (hk : 1100 ≤ k) : carrefourref1_MayArcs.f k l = some (arcsOK l) := by
  obtain ⟨k, rfl⟩ : ∃ m, k = m + 1 := ⟨k - 1, by omega⟩
  unfold carrefourref1_MayArcs.f
  simp only [carrefourref1_MayArcs.j0]
  by_cases h1 : (l.length : Int) < 1
  · rw [if_pos h1]
    have : arcsOK l = false := by
      rw [Bool.eq_false_iff]; intro h; have := (arcsOK_iff l).1 h; omega
    rw [this, if_pos trivial]
  rw [if_neg h1]
  by_cases h2 : (l.length : Int) > 1024
  · have : arcsOK l = false := by
      rw [Bool.eq_false_iff]; intro h; have := (arcsOK_iff l).1 h; omega
    rw [this, decide_eq_true h2, if_pos rfl]
  · rw [decide_eq_false h2, if_neg Bool.false_ne_true]
    obtain ⟨r, g1, g2⟩ := refmay_l0 l (by omega) l.length k 0 (by omega) (by omega) (by omega)
    rw [show ((0 : Nat) : Int) = 0 from rfl] at g1
    rw [g1]
    congr 1
    rw [Bool.eq_iff_iff, g2, arcsOK_iff]
    constructor
    · intro h; exact ⟨⟨by omega, by omega⟩, fun j hj => h j (by omega) hj⟩
    · intro h j _ hj; exact h.2 j hj

/-- The reference's place, from a place on. -/
theorem refplace_l0 (l : List S27) (p : Int) (hn : l.length ≤ 1024) (hr : risesB l = true) : ∀ (d k i : Nat) (x : Int), l.length - i = d → i ≤ l.length → d < k →
    carrefourref1_place.l0 k l p x (i : Int) = some (if i < cntLe l p then ((cntLe l p - 1 : Nat) : Int) else x)
  | 0, k, i, x, hd, hi, hk => by
    obtain ⟨k, rfl⟩ : ∃ m, k = m + 1 := ⟨k - 1, by omega⟩
    obtain ⟨c1, _, _⟩ := cnt_spec l p hr
    simp only [carrefourref1_place.l0]
    rw [if_neg (by omega), if_neg (by omega)]
  | d + 1, k, i, x, hd, hi, hk => by
    obtain ⟨k, rfl⟩ : ∃ m, k = m + 1 := ⟨k - 1, by omega⟩
    obtain ⟨c1, c2, c3⟩ := cnt_spec l p hr
    have ih := fun x => refplace_l0 l p hn hr d k (i + 1) x (by omega) (by omega) (by omega)
    simp only [carrefourref1_place.l0]
    rw [if_pos (by omega), if_pos (by omega), rd_nat, wrap_succ i (by omega), ih, ih]
    by_cases hc : i < cntLe l p
    · rw [if_pos (c2 i hc), if_pos hc]
      by_cases h2 : i + 1 < cntLe l p
      · rw [if_pos h2]
      · rw [if_neg h2]; congr 1; omega
    · have := c3 i (by omega) (by omega)
      rw [if_neg (by omega), if_neg hc, if_neg (by omega)]
theorem refplace_f (l : List S27) (p : Int) (h0 : 0 < l.length) (hn : l.length ≤ 1024) (hr : risesB l = true) (k : Nat) (hk : 1100 ≤ k) : carrefourref1_place.f k l p = some ((placeN l p : Nat) : Int) := by
  unfold carrefourref1_place.f
  rw [show wrap64 ((l.length : Int) - 1) = ((l.length - 1 : Nat) : Int) by unfold wrap64; omega]
  rw [show (0 : Int) = ((0 : Nat) : Int) from rfl, refplace_l0 l p hn hr l.length k 0 _ (by omega) (by omega) (by omega)]
  unfold placeN
  by_cases hc : cntLe l p = 0
  · rw [if_neg (by omega), if_pos hc]
  · rw [if_pos (by omega), if_neg hc]
def ownerZ (l : List S27) (p : Int) : Int := if arcsOK l = true then (l.getD (placeN l p) z27).f1 else -1
theorem owner_f' (l : List S27) (p : Int) (k : Nat) (hk : 1100 ≤ k) : ring_Owner.f k l p = some (ownerZ l p) := by
  unfold ownerZ
  split
  · rename_i h; exact owner_f l p h k hk
  · rename_i h
    unfold ring_Owner.f
    rw [ring_May_f l k hk, Option.bind_some, if_neg h]
theorem refowner_f (l : List S27) (p : Int) (k : Nat) (hk : 1100 ≤ k) : carrefourref1_Owner.f k l p = some (ownerZ l p) := by
  unfold ownerZ carrefourref1_Owner.f
  rw [refmay_f l k hk, Option.bind_some]
  split
  · rename_i h
    obtain ⟨h1, h2, h3⟩ := arcs_facts h
    have hp := (place_f l p (by omega) h2 h3).2
    rw [refplace_f l p (by omega) h2 h3 k hk, Option.bind_some, if_pos (by omega), if_pos (by omega), rd_nat]
  · rfl
def widthAt (l : List S27) (a : Int) : Int := if arcsOK l = true ∧ 0 ≤ a ∧ a < l.length then widthZ l a.toNat else 0
theorem Width_f' (l : List S27) (a : Int) (k : Nat) (hk : 1100 ≤ k) : ring_Width.f k l a = some (widthAt l a) := by
  unfold widthAt
  by_cases h : arcsOK l = true ∧ 0 ≤ a ∧ a < l.length
  · rw [if_pos h]
    have := Width_f l a.toNat h.1 (by omega) k hk
    rwa [Int.toNat_of_nonneg h.2.1] at this
  · rw [if_neg h]
    unfold ring_Width.f
    rw [ring_May_f l k hk, Option.bind_some]
    by_cases h1 : arcsOK l = true
    · rw [if_pos h1]
      by_cases h2 : a < 0
      · rw [if_pos h2]
      · rw [if_neg h2, if_pos (by have := not_and.1 h h1; omega)]
    · rw [if_neg h1]
theorem refWidth_f (l : List S27) (a : Int) (k : Nat) (hk : 1100 ≤ k) : carrefourref1_Width.f k l a = some (widthAt l a) := by
  obtain ⟨k, rfl⟩ : ∃ m, k = m + 1 := ⟨k - 1, by omega⟩
  unfold widthAt carrefourref1_Width.f
  rw [refmay_f l _ hk, Option.bind_some]
  simp only [carrefourref1_Width.j0]
  by_cases h1 : arcsOK l = true
  · obtain ⟨g1, g2, g3⟩ := arcs_facts h1
    rw [if_pos h1]
    by_cases h2 : a < 0
    · rw [if_pos h2, if_pos trivial, if_neg (by omega)]
    · rw [if_neg h2]
      by_cases h3 : a < l.length
      · rw [decide_eq_false (show ¬ a ≥ l.length by omega), if_neg Bool.false_ne_true, if_pos (show arcsOK l = true ∧ 0 ≤ a ∧ a < (l.length : Int) from ⟨h1, by omega, h3⟩)]
        obtain ⟨b, rfl⟩ : ∃ b : Nat, a = b := ⟨a.toNat, by omega⟩
        rw [Int.toNat_natCast]
        unfold widthZ
        by_cases hl : l.length = 1
        · rw [if_pos (by omega), if_pos hl]
        · have hm : Int.tmod ((b + 1 : Nat) : Int) (l.length : Int) = (((b + 1) % l.length : Nat) : Int) := by rw [Int.tmod_eq_emod_of_nonneg (by omega)]; rfl
          have hlt : (b + 1) % l.length < l.length := Nat.mod_lt _ (by omega)
          rw [if_neg (by omega), if_neg hl, if_neg (by omega), wrap_succ b (by omega), hm, if_pos (by omega), if_pos (by omega), if_pos (by omega), if_pos (by omega), rd_nat, rd_nat]
      · rw [decide_eq_true (show a ≥ l.length by omega), if_pos rfl, if_neg (fun h => h3 h.2.2)]
  · rw [if_neg h1, if_pos trivial, if_neg (fun h => h1 h.1)]
theorem widthAt_nat (l : List S27) (i : Nat) (h : arcsOK l = true) (hi : i < l.length) : widthAt l (i : Int) = widthZ l i := by
  unfold widthAt
  rw [if_pos ⟨h, by omega, by omega⟩, Int.toNat_natCast]

theorem refshare_l0 (l : List S27) (s : Int) (h : arcsOK l = true) : ∀ (d k i : Nat) (x : Int), l.length - i = d → i ≤ l.length → 1200 + 2 * d < k →
    carrefourref1_Share.l0 k l s x (i : Int) = some (shareGo l s d i x)
  | 0, k, i, x, hd, hi, hk => by
    obtain ⟨k, rfl⟩ : ∃ m, k = m + 2 := ⟨k - 2, by omega⟩
    simp only [carrefourref1_Share.l0, shareGo, carrefourref1_Share.j1]
    rw [if_neg (by omega), if_neg Bool.false_ne_true]
  | d + 1, k, i, x, hd, hi, hk => by
    obtain ⟨k, rfl⟩ : ∃ m, k = m + 2 := ⟨k - 2, by omega⟩
    obtain ⟨h1, h2, h3⟩ := arcs_facts h
    have ih := fun x => refshare_l0 l s h d k (i + 1) x (by omega) (by omega) (by omega)
    simp only [carrefourref1_Share.l0, shareGo, carrefourref1_Share.j1]
    rw [if_pos (by omega), refmay_f l _ (by omega), h, Option.bind_some, if_pos rfl, if_pos (by omega), if_pos (by omega), rd_nat, wrap_succ i (by omega), refWidth_f l _ k (by omega), widthAt_nat l i h (by omega), Option.bind_some]
    by_cases hc : (l.getD i z27).f1 = s
    · rw [if_pos hc, if_pos hc]; exact ih _
    · rw [if_neg hc, if_neg hc]; exact ih _
theorem refshare_f (l : List S27) (s : Int) (k : Nat) (hk : 4000 ≤ k) : carrefourref1_Share.f k l s = some (shareZ l s) := by
  unfold carrefourref1_Share.f shareZ
  split
  · rename_i h
    obtain ⟨h1, h2, h3⟩ := arcs_facts h
    exact refshare_l0 l s h l.length k 0 0 (by omega) (by omega) (by omega)
  · rename_i h
    obtain ⟨k, rfl⟩ : ∃ m, k = m + 2 := ⟨k - 2, by omega⟩
    simp only [carrefourref1_Share.l0, carrefourref1_Share.j1]
    rw [refmay_f l _ (by omega), Bool.eq_false_iff.2 h, Option.bind_some]
    simp

/-- An arc among others by its point; one that is there already stays. -/
def putL : List S27 → S27 → List S27
  | [], a => [a]
  | b :: l, a => if b.f0 < a.f0 then b :: putL l a else if b.f0 = a.f0 then b :: l else a :: b :: l
theorem putL_len : ∀ (l : List S27) (a : S27), (putL l a).length ≤ l.length + 1
  | [], a => by simp [putL]
  | b :: l, a => by
    have := putL_len l a
    unfold putL
    split
    · simp only [List.length_cons]; omega
    · split <;> simp only [List.length_cons] <;> omega
theorem put_l0 (l : List S27) (a b : Int) (hn : l.length ≤ 90000) : ∀ (d k i : Nat), l.length - i = d → i ≤ l.length → d < k →
    carrefourref1_put.l0 k l (i : Int) a b = some (l.take i ++ putL (l.drop i) ⟨a, b⟩)
  | 0, k, i, hd, hi, hk => by
    obtain ⟨k, rfl⟩ : ∃ m, k = m + 1 := ⟨k - 1, by omega⟩
    simp only [carrefourref1_put.l0, Option.bind_some, Int.toNat_natCast]
    have e : l.drop i = [] := List.drop_eq_nil_of_le (by omega)
    rw [if_neg (by omega), if_pos (by omega), if_pos (by omega), e]
    have e2 : l.take i = l := List.take_of_length_le (by omega)
    rw [e2]
    simp only [List.nil_append, List.append_nil, List.length_nil, List.length_append, List.length_cons]
    rw [if_pos (by omega), if_pos (by omega), if_pos (by omega)]
    rfl
  | d + 1, k, i, hd, hi, hk => by
    obtain ⟨k, rfl⟩ : ∃ m, k = m + 1 := ⟨k - 1, by omega⟩
    have ih := put_l0 l a b hn d k (i + 1) (by omega) (by omega) (by omega)
    have hlt : i < l.length := by omega
    have e : l.drop i = l.getD i z27 :: l.drop (i + 1) := by rw [List.getD_eq_getElem?_getD, List.getElem?_eq_getElem hlt]; exact List.drop_eq_getElem_cons hlt
    have e3 : l.take (i + 1) = l.take i ++ [l.getD i z27] := by rw [List.getD_eq_getElem?_getD, List.getElem?_eq_getElem hlt]; exact (List.take_append_getElem hlt).symm
    have e4 : (l.take i ++ l.drop i) = l := List.take_append_drop i l
    have hlen : (l.take i).length = i := by rw [List.length_take]; omega
    have hlen2 : (l.drop i).length = l.length - i := List.length_drop
    simp only [carrefourref1_put.l0, Option.bind_some, Int.toNat_natCast]
    rw [if_pos (by omega), if_pos (by omega), rd_nat, wrap_succ i (by omega), ih]
    by_cases g1 : (l.getD i z27).f0 < a
    · rw [if_pos g1, e, e3]
      simp only [putL]
      rw [if_pos g1, List.append_assoc]
      rfl
    · rw [if_neg g1]
      by_cases g2 : (l.getD i z27).f0 = a
      · rw [if_pos g2, e]
        simp only [putL]
        rw [if_neg g1, if_pos g2, ← e, e4]
      · rw [if_neg g2, if_pos (by omega)]
        simp only [List.nil_append, List.length_nil, List.length_append, List.length_cons]
        rw [if_pos (by omega), if_pos (by omega), if_pos (by omega)]
        rw [e]
        simp only [putL]
        rw [if_neg g1, if_neg g2, List.append_assoc]
        rfl
theorem put_f (l : List S27) (a b : Int) (hn : l.length ≤ 90000) (k : Nat) (hk : 90001 ≤ k) : carrefourref1_put.f k l a b = some (putL l ⟨a, b⟩) := by
  unfold carrefourref1_put.f
  have := put_l0 l a b hn l.length k 0 (by omega) (by omega) (by omega)
  simpa using this
theorem putL_facts : ∀ (l : List S27) (a : S27), l.Pairwise (fun a b => a.f0 < b.f0) → (∀ b ∈ l, b.f0 ≠ a.f0) → (putL l a).Perm (a :: l) ∧ (putL l a).Pairwise (fun a b => a.f0 < b.f0)
  | [], a, _, _ => ⟨List.Perm.refl _, by simp [putL]⟩
  | b :: l, a, h, hne => by
    obtain ⟨h1, h2⟩ := List.pairwise_cons.1 h
    obtain ⟨ih1, ih2⟩ := putL_facts l a h2 (fun c hc => hne c (List.mem_cons_of_mem _ hc))
    have hb := hne b List.mem_cons_self
    unfold putL
    by_cases g1 : b.f0 < a.f0
    · rw [if_pos g1]
      refine ⟨(ih1.cons b).trans (List.Perm.swap a b l), List.pairwise_cons.2 ⟨fun c hc => ?_, ih2⟩⟩
      rcases List.mem_cons.1 (ih1.mem_iff.1 hc) with rfl | hc
      · exact g1
      · exact h1 c hc
    · rw [if_neg g1, if_neg hb]
      refine ⟨List.Perm.refl _, List.pairwise_cons.2 ⟨fun c hc => ?_, h⟩⟩
      rcases List.mem_cons.1 hc with rfl | hc
      · omega
      · have := h1 c hc; omega

/-- A point inside an arc's width is that arc's. -/
theorem place_of {l : List S27} {p : Int} (h0 : 0 < l.length) (hr : risesB l = true) (hB : BitsOK l) (hp : 0 ≤ p ∧ p < 4294967296) (i : Nat) (hi : i < l.length) (hw : wayZ l p i < widthZ l i) : placeN l p = i := by
  have hbi := hB i hi
  have hb0 := hB 0 h0
  unfold widthZ wayZ at hw
  by_cases h1 : l.length = 1
  · have : i = 0 := by omega
    subst this
    have := (place_f l p h0 (by omega) hr).2
    omega
  rw [if_neg h1] at hw
  by_cases hn : i + 1 < l.length
  · have hbn := hB (i + 1) hn
    rw [Nat.mod_eq_of_lt hn] at hw
    have hlt := rises_lt hr i (i + 1) (by omega) hn
    have hc : cntLe l p = i + 1 := by
      refine cnt_eq l p (i + 1) (by omega) (fun j hj => ?_) (fun j hj hj2 => ?_)
      · by_cases e : j = i
        · rw [e]; omega
        · have := rises_lt hr j i (by omega) hi
          omega
      · by_cases e : j = i + 1
        · rw [e]; omega
        · have := rises_lt hr (i + 1) j (by omega) hj2
          omega
    unfold placeN
    rw [hc, if_neg (by omega)]
    omega
  · have e : i = l.length - 1 := by omega
    have en : (i + 1) % l.length = 0 := by rw [e, Nat.sub_add_cancel (by omega), Nat.mod_self]
    rw [en] at hw
    have hlt := rises_lt hr 0 i (by omega) hi
    unfold placeN
    by_cases hpi : (l.getD i z27).f0 ≤ p
    · have hc : cntLe l p = l.length := by
        refine cnt_eq l p l.length (by omega) (fun j hj => ?_) (fun j hj hj2 => by omega)
        by_cases ej : j = i
        · rw [ej]; omega
        · have := rises_lt hr j i (by omega) hi
          omega
      rw [hc, if_neg (by omega)]
      omega
    · have hc : cntLe l p = 0 := by
        refine cnt_eq l p 0 (by omega) (fun j hj => by omega) (fun j hj hj2 => ?_)
        by_cases ej : j = 0
        · rw [ej]; omega
        · have := rises_lt hr 0 j (by omega) hj2
          omega
      rw [hc, if_pos rfl]
      omega

/-- The arc that halving makes of the arc at a place. -/
def newPt (l : List S27) (k : Nat) : Int := ((l.getD k z27).f0 + widthZ l k / 2) % 4294967296
theorem new_place {l : List S27} (h : arcsOK l = true) (hB : BitsOK l) (k : Nat) (hk : k < l.length) (hw : 2 ≤ widthZ l k) : placeN l (newPt l k) = k ∧ newPt l k ≠ (l.getD k z27).f0 := by
  obtain ⟨h1, h2, h3⟩ := arcs_facts h
  have hb := hB k hk
  have hle := widthZ_le l k
  refine ⟨place_of (by omega) h3 hB (by unfold newPt; omega) k hk ?_, ?_⟩
  · unfold wayZ newPt; omega
  · unfold newPt; omega
theorem arc_place {l : List S27} (h : arcsOK l = true) (hB : BitsOK l) (k : Nat) (hk : k < l.length) : placeN l (l.getD k z27).f0 = k := by
  obtain ⟨h1, h2, h3⟩ := arcs_facts h
  have hb := hB k hk
  refine place_of (by omega) h3 hB hb k hk ?_
  have : 0 < widthZ l k := by
    have hlt : (k + 1) % l.length < l.length := Nat.mod_lt _ (by omega)
    have hbn := hB _ hlt
    unfold widthZ
    split
    · omega
    · by_cases hn : k + 1 < l.length
      · rw [Nat.mod_eq_of_lt hn] at hbn ⊢
        have := rises_lt h3 k (k + 1) (by omega) hn
        omega
      · have e : k = l.length - 1 := by omega
        have en : (k + 1) % l.length = 0 := by rw [e, Nat.sub_add_cancel (by omega), Nat.mod_self]
        rw [en] at hbn ⊢
        have := rises_lt h3 0 k (by omega) hk
        omega
  unfold wayZ
  omega
theorem getD_mem {l : List S27} {b : S27} (h : b ∈ l) : ∃ j, j < l.length ∧ l.getD j z27 = b := by
  obtain ⟨j, hj, e⟩ := List.getElem_of_mem h
  exact ⟨j, hj, by rw [List.getD_eq_getElem?_getD, List.getElem?_eq_getElem hj]; exact e⟩
/-- Every arc of a halved list: an old one, or one made at a place. -/
theorem halfAll_mem {l : List S27} {s o : Int} {k : Nat} {b : S27} (h : b ∈ halfAll l s o k) : (∃ j, j < l.length ∧ l.getD j z27 = b) ∨ ∃ j, j < k ∧ 2 ≤ widthZ l j ∧ b.f0 = newPt l j := by
  unfold halfAll at h
  rcases List.mem_append.1 h with h | h
  · exact .inl (getD_mem h)
  · obtain ⟨j, hj, hb⟩ := List.mem_flatMap.1 h
    unfold halfNew at hb
    split at hb
    · rename_i hc
      rw [List.mem_singleton] at hb
      subst hb
      exact .inr ⟨j, List.mem_range.1 hj, hc.2, rfl⟩
    · simp at hb
theorem new_apart {l : List S27} (h : arcsOK l = true) (hB : BitsOK l) (s o : Int) (k : Nat) (hk : k < l.length) (hw : 2 ≤ widthZ l k) : ∀ b ∈ halfAll l s o k, b.f0 ≠ newPt l k := by
  intro b hb e
  obtain ⟨n1, n2⟩ := new_place h hB k hk hw
  rcases halfAll_mem hb with ⟨j, hj, rfl⟩ | ⟨j, hj, hwj, e2⟩
  · rw [← e, arc_place h hB j hj] at n1
    subst n1
    exact n2 e.symm
  · obtain ⟨m1, m2⟩ := new_place h hB j (by omega) hwj
    rw [← e2, e, n1] at m1
    omega

/-- What the reference's loop has, place by place. -/
def putAll (l : List S27) (s o : Int) : Nat → List S27
  | 0 => l
  | k + 1 => if (l.getD k z27).f1 = s ∧ 2 ≤ widthZ l k then putL (putAll l s o k) ⟨newPt l k, o⟩ else putAll l s o k
theorem putAll_facts {l : List S27} (h : arcsOK l = true) (hB : BitsOK l) (s o : Int) : ∀ (k : Nat), k ≤ l.length → (putAll l s o k).Perm (halfAll l s o k) ∧ (putAll l s o k).Pairwise (fun a b => a.f0 < b.f0)
  | 0, _ => ⟨by simp [putAll, halfAll], rises_pairwise (arcs_facts h).2.2⟩
  | k + 1, hk => by
    obtain ⟨ih1, ih2⟩ := putAll_facts h hB s o k (by omega)
    rw [halfAll_succ]
    unfold putAll halfNew
    split
    · rename_i hc
      obtain ⟨p1, p2⟩ := putL_facts (putAll l s o k) ⟨newPt l k, o⟩ ih2 (fun b hb => new_apart h hB s o k (by omega) hc.2 b (ih1.mem_iff.1 hb))
      refine ⟨p1.trans ?_, p2⟩
      exact (List.perm_append_singleton _ _).symm.trans (ih1.append_right _)
    · exact ⟨by simpa using ih1, ih2⟩
theorem insArc_sorted (a : S27) : ∀ l : List S27, l.Pairwise (fun a b => ¬ b.f0 < a.f0) → (insArc a l).Pairwise (fun a b => ¬ b.f0 < a.f0)
  | [], _ => by simp [insArc]
  | b :: l, h => by
    obtain ⟨h1, h2⟩ := List.pairwise_cons.1 h
    unfold insArc
    split
    · refine List.pairwise_cons.2 ⟨fun c hc => ?_, h⟩
      rcases List.mem_cons.1 hc with rfl | hc
      · omega
      · have := h1 c hc; omega
    · refine List.pairwise_cons.2 ⟨fun c hc => ?_, insArc_sorted a l h2⟩
      rcases List.mem_cons.1 ((insArc_perm a l).mem_iff.1 hc) with rfl | hc
      · omega
      · exact h1 c hc
theorem sortArcs_sorted : ∀ l : List S27, (sortArcs l).Pairwise (fun a b => ¬ b.f0 < a.f0)
  | [] => by simp [sortArcs]
  | a :: l => insArc_sorted a _ (sortArcs_sorted l)
theorem pairwise_rises : ∀ {l : List S27}, l.Pairwise (fun a b => a.f0 < b.f0) → risesB l = true
  | [], _ => rfl
  | [a], _ => rfl
  | a :: b :: l, h => by
    obtain ⟨h1, h2⟩ := List.pairwise_cons.1 h
    have ih := pairwise_rises h2
    unfold risesB
    simp [ih, h1 b List.mem_cons_self]
theorem halve_eq {l : List S27} (h : arcsOK l = true) (hB : BitsOK l) (s o : Int) : sortArcs (halfAll l s o l.length) = putAll l s o l.length := by
  obtain ⟨p1, p2⟩ := putAll_facts h hB s o l.length (Nat.le_refl _)
  exact perm_unique p2 (sortArcs_sorted _) ((sortArcs_perm _).trans p1.symm)
def halveZ (l : List S27) (s o : Int) : List S27 := if arcsOK l = false ∨ o < 0 ∨ 16 ≤ o then [] else if (halfAll l s o l.length).length > 1024 then [] else putAll l s o l.length
theorem halve_f' (l : List S27) (s o : Int) (hB : BitsOK l) : ring_Halve.f l s o = some (halveZ l s o) := by
  unfold ring_Halve.f halveZ
  split
  · rfl
  · rename_i hc
    have h : arcsOK l = true := by cases e : arcsOK l <;> simp_all
    rw [halve_eq h hB, if_pos (pairwise_rises (putAll_facts h hB s o _ (Nat.le_refl _)).2)]
    split <;> rfl
theorem refhalve_l0 (l : List S27) (s o : Int) (h : arcsOK l = true) (hB : BitsOK l) : ∀ (d k i : Nat), l.length - i = d → i ≤ l.length → 95000 + d < k →
    carrefourref1_Halve.l0 k l s o (putAll l s o i) (i : Int) = some (if (putAll l s o l.length).length > 1024 then [] else putAll l s o l.length)
  | 0, k, i, hd, hi, hk => by
    obtain ⟨k, rfl⟩ : ∃ m, k = m + 1 := ⟨k - 1, by omega⟩
    obtain rfl : i = l.length := by omega
    simp only [carrefourref1_Halve.l0]
    rw [if_neg (by omega)]
    by_cases hl : (putAll l s o l.length).length > 1024
    · rw [if_pos (by omega), if_pos hl]
    · rw [if_neg (by omega), if_neg hl]
  | d + 1, k, i, hd, hi, hk => by
    obtain ⟨k, rfl⟩ : ∃ m, k = m + 1 := ⟨k - 1, by omega⟩
    obtain ⟨h1, h2, h3⟩ := arcs_facts h
    have ih := refhalve_l0 l s o h hB d k (i + 1) (by omega) (by omega) (by omega)
    obtain ⟨p1, p2⟩ := putAll_facts h hB s o i hi
    have hlen : (putAll l s o i).length ≤ 2048 := by rw [p1.length_eq]; have := halfAll_len l s o i; omega
    have hw0 := widthZ_le l i
    have hb := hB i (by omega)
    simp only [carrefourref1_Halve.l0]
    rw [if_pos (by omega), refWidth_f l _ k (by omega), widthAt_nat l i h (by omega), Option.bind_some, if_pos (by omega), rd_nat, wrap_succ i (by omega)]
    by_cases hc : (l.getD i z27).f1 = s
    · rw [if_pos hc]
      by_cases hw : widthZ l i ≥ 2
      · have e : ((l.getD i z27).f0 + IntKind.u64.wrap (Int.tdiv (widthZ l i) 2)) % 4294967296 = newPt l i := by
          unfold newPt
          rw [IntKind.wrap_u64, Int.tdiv_eq_ediv_of_nonneg (by omega)]
          omega
        rw [if_pos hw, e, put_f _ _ _ (by omega) k (by omega), Option.bind_some]
        rw [show putL (putAll l s o i) ⟨newPt l i, o⟩ = putAll l s o (i + 1) by rw [putAll, if_pos ⟨hc, hw⟩]]
        exact ih
      · rw [if_neg hw]
        rw [show putAll l s o i = putAll l s o (i + 1) by rw [putAll, if_neg (fun g => hw g.2)]]
        exact ih
    · rw [if_neg hc]
      rw [show putAll l s o i = putAll l s o (i + 1) by rw [putAll, if_neg (fun g => hc g.1)]]
      exact ih
theorem refhalve_f (l : List S27) (s o : Int) (hB : BitsOK l) (k : Nat) (hk : 100000 ≤ k) : carrefourref1_Halve.f k l s o = some (halveZ l s o) := by
  obtain ⟨k, rfl⟩ : ∃ m, k = m + 1 := ⟨k - 1, by omega⟩
  unfold carrefourref1_Halve.f halveZ
  simp only [carrefourref1_Halve.j0]
  rw [refmay_f l _ (by omega), Option.bind_some]
  by_cases h : arcsOK l = true
  · obtain ⟨h1, h2, h3⟩ := arcs_facts h
    rw [if_pos h]
    by_cases ho : o < 0
    · rw [if_pos ho, if_pos trivial, if_pos (.inr (.inl ho))]
    rw [if_neg ho]
    by_cases ho2 : o ≥ 16
    · rw [decide_eq_true ho2, if_pos rfl, if_pos (.inr (.inr ho2))]
    have hno : ¬ (arcsOK l = false ∨ o < 0 ∨ 16 ≤ o) := by
      rintro (g | g | g)
      · rw [h] at g; cases g
      · omega
      · omega
    rw [decide_eq_false ho2, if_neg Bool.false_ne_true, if_neg hno]
    simp only [Option.bind_some, List.nil_append, List.length_nil]
    have p1 := (putAll_facts h hB s o l.length (Nat.le_refl _)).1.length_eq
    have := refhalve_l0 l s o h hB l.length k 0 (by omega) (by omega) (by omega)
    rw [if_pos (by omega), ← p1]
    exact this
  · rw [if_neg h, if_pos trivial, if_pos (.inl (Bool.eq_false_iff.2 h))]

/-- Two lists of arcs, compared from a place on. -/
theorem refsame_l0 (l m : List S27) (hlm : l.length = m.length) (hn : l.length ≤ 90000) : ∀ (d k i : Nat), l.length - i = d → i ≤ l.length → d < k →
    carrefourref1_SameArcs.l0 k l m (i : Int) = some (decide (l.drop i = m.drop i))
  | 0, k, i, hd, hi, hk => by
    obtain ⟨k, rfl⟩ : ∃ m, k = m + 1 := ⟨k - 1, by omega⟩
    simp only [carrefourref1_SameArcs.l0]
    rw [if_neg (by omega), List.drop_eq_nil_of_le (by omega), List.drop_eq_nil_of_le (by omega)]
    simp
  | d + 1, k, i, hd, hi, hk => by
    obtain ⟨k, rfl⟩ : ∃ m, k = m + 1 := ⟨k - 1, by omega⟩
    have ih := refsame_l0 l m hlm hn d k (i + 1) (by omega) (by omega) (by omega)
    have hlt : i < l.length := by omega
    have hlt2 : i < m.length := by omega
    have e : l.drop i = l.getD i z27 :: l.drop (i + 1) := by rw [List.getD_eq_getElem?_getD, List.getElem?_eq_getElem hlt]; exact List.drop_eq_getElem_cons hlt
    have e2 : m.drop i = m.getD i z27 :: m.drop (i + 1) := by rw [List.getD_eq_getElem?_getD, List.getElem?_eq_getElem hlt2]; exact List.drop_eq_getElem_cons hlt2
    simp only [carrefourref1_SameArcs.l0]
    rw [if_pos (by omega), if_pos (by omega), if_pos (by omega), rd_nat, rd_nat, wrap_succ i (by omega), ih, e, e2]
    generalize l.getD i z27 = a
    generalize m.getD i z27 = b
    obtain ⟨a0, a1⟩ := a
    obtain ⟨b0, b1⟩ := b
    by_cases g : a0 = b0 <;> by_cases g2 : a1 = b1 <;> simp [g, g2]
theorem refsame_f (l m : List S27) (hn : l.length ≤ 90000) (k : Nat) (hk : 90001 ≤ k) : carrefourref1_SameArcs.f k l m = some (decide (l = m)) := by
  unfold carrefourref1_SameArcs.f
  by_cases h : l.length = m.length
  · rw [if_pos (by omega)]
    simpa using refsame_l0 l m h hn l.length k 0 (by omega) (by omega) (by omega)
  · rw [if_neg (by omega), decide_eq_false (fun e => h (by rw [e]))]
theorem arcsame_l0 (l m : List S27) (hlm : l.length = m.length) (hn : l.length ≤ 90000) : ∀ (d k i : Nat), l.length - i = d → i ≤ l.length → d < k →
    api_Arc_39.l0 k l m (l.length : Int) (i : Int) = some (decide (l.drop i = m.drop i))
  | 0, k, i, hd, hi, hk => by
    obtain ⟨k, rfl⟩ : ∃ m, k = m + 1 := ⟨k - 1, by omega⟩
    simp only [api_Arc_39.l0]
    rw [if_neg (by omega), List.drop_eq_nil_of_le (by omega), List.drop_eq_nil_of_le (by omega)]
    simp
  | d + 1, k, i, hd, hi, hk => by
    obtain ⟨k, rfl⟩ : ∃ m, k = m + 1 := ⟨k - 1, by omega⟩
    have ih := arcsame_l0 l m hlm hn d k (i + 1) (by omega) (by omega) (by omega)
    have hlt : i < l.length := by omega
    have hlt2 : i < m.length := by omega
    have e : l.drop i = l.getD i z27 :: l.drop (i + 1) := by rw [List.getD_eq_getElem?_getD, List.getElem?_eq_getElem hlt]; exact List.drop_eq_getElem_cons hlt
    have e2 : m.drop i = m.getD i z27 :: m.drop (i + 1) := by rw [List.getD_eq_getElem?_getD, List.getElem?_eq_getElem hlt2]; exact List.drop_eq_getElem_cons hlt2
    simp only [api_Arc_39.l0]
    rw [if_pos (by omega), if_pos (by omega), if_pos (by omega), if_pos (by omega), rd_nat, rd_nat, wrap_succ i (by omega), ih, e, e2]
    generalize l.getD i z27 = a
    generalize m.getD i z27 = b
    obtain ⟨a0, a1⟩ := a
    obtain ⟨b0, b1⟩ := b
    by_cases g : a0 = b0 <;> by_cases g2 : a1 = b1 <;> simp [g, g2]
theorem arcsame_f (l m : List S27) (hn : l.length ≤ 90000) (k : Nat) (hk : 90001 ≤ k) : ring_Same.f k l m = some (decide (l = m)) := by
  unfold ring_Same.f api_Arc_39.f
  by_cases h : l.length = m.length
  · rw [if_pos (by omega)]
    have := arcsame_l0 l m h hn l.length k 0 (by omega) (by omega) (by omega)
    rw [show (0 : Int) = ((0 : Nat) : Int) from rfl, this]
    simp
  · rw [if_neg (by omega), decide_eq_false (fun e => h (by rw [e]))]
    rfl
theorem halveZ_len (l : List S27) (s o : Int) (hB : BitsOK l) : (halveZ l s o).length ≤ 90000 := by
  unfold halveZ
  split
  · simp
  · rename_i hc
    have h : arcsOK l = true := by cases e : arcsOK l <;> simp_all
    split
    · simp
    · rw [(putAll_facts h hB s o l.length (Nat.le_refl _)).1.length_eq]; omega
theorem few_f (l : List S27) : carrefourlaw9_Few.f l = some (decide (l.length ≤ 60)) := by
  unfold carrefourlaw9_Few.f
  congr 1
  rw [decide_eq_decide]
  omega
theorem asks_j0 (k : Nat) (hk : 100000 ≤ k) (l m : List S27) (p a s o : Int) (hB : BitsOK l) (b : Bool) (h : b = false → l.length ≤ 60 ∧ m.length ≤ 60) :
    carrefourlaw9_RingAsks.j0 (k + 1) l m p a s o b = some true := by
  simp only [carrefourlaw9_RingAsks.j0]
  rw [told9_true]
  cases b with
  | true => rw [if_pos rfl]; rfl
  | false =>
    obtain ⟨g1, g2⟩ := h rfl
    rw [if_neg Bool.false_ne_true, Option.bind_some, if_pos rfl, ring_May_f l k (by omega), refmay_f l k (by omega), Option.bind_some, Option.bind_some, if_pos (by simp), owner_f' l p k (by omega), refowner_f l p k (by omega), Option.bind_some, Option.bind_some, if_pos rfl,
      Width_f' l a k (by omega), refWidth_f l a k (by omega), Option.bind_some, Option.bind_some, if_pos rfl, share_f l s k (by omega), refshare_f l s k (by omega), Option.bind_some, Option.bind_some, if_pos rfl, halve_f' l s o hB, refhalve_f l s o hB k hk, Option.bind_some, Option.bind_some,
      refsame_f _ _ (halveZ_len l s o hB) k (by omega), Option.bind_some, if_pos (by simp), arcsame_f l m (by omega) k (by omega), refsame_f l m (by omega) k (by omega), Option.bind_some, Option.bind_some]
    simp
theorem RingAsks.pure (l m : List S27) (p a s o : Int) (hB : BitsOK l) : carrefourlaw9_RingAsks.f 100001 l m p a s o = some true := by
  unfold carrefourlaw9_RingAsks.f
  rw [few_f, Option.bind_some, few_f, Option.bind_some]
  split
  · rename_i h
    exact asks_j0 100000 (Nat.le_refl _) l m p a s o hB _ (fun g => ⟨of_decide_eq_true h, by simpa using g⟩)
  · exact asks_j0 100000 (Nat.le_refl _) l m p a s o hB _ (fun g => by cases g)
end Go.Proofs.YtpnoifikpmfpdaaDoor.PAll
