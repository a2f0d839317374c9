/-
  A new table in plain words: sorted marks without doubles are the marks put one by one.
-/
import Derived.Test.YtpnoifikpmfpdaaDoorEasks
import Derived.Test.YtpnoifikpmfpdaaDoorPAllx4
import Derived.Test.YtpnoifikpmfpdaaDoorPAllx17
import Derived.Test.YtpnoifikpmfpdaaDoorEbuild
namespace Go.Proofs.YtpnoifikpmfpdaaDoor.PAll
open Go.RowKit Go.Proofs.YtpnoifikpmfpdaaDoorW.PrintWords Go.Proofs.YtpnoifikpmfpdaaDoorW.PrintLast Go.Proofs.YtpnoifikpmfpdaaDoorW.PrintMore
set_option linter.unusedVariables false
set_option linter.unusedSimpArgs false

/-- Of each point the arc of the least shard, by points. -/
structure Least (M r : List S27) : Prop where
  rise : r.Pairwise (fun a b => a.f0 < b.f0)
  sub : ∀ x ∈ r, x ∈ M
  all : ∀ y ∈ M, ∃ x ∈ r, x.f0 = y.f0 ∧ x.f1 ≤ y.f1
theorem rise_inj : ∀ {r : List S27}, r.Pairwise (fun a b => a.f0 < b.f0) → ∀ x ∈ r, ∀ y ∈ r, x.f0 = y.f0 → x = y
  | [], _, x, hx, _, _, _ => by simp at hx
  | a :: r, h, x, hx, y, hy, e => by
    obtain ⟨h1, h2⟩ := List.pairwise_cons.1 h
    rcases List.mem_cons.1 hx with ex | hx <;> rcases List.mem_cons.1 hy with ey | hy
    · rw [ex, ey]
    · have := h1 y hy; rw [ex] at e; omega
    · have := h1 x hx; rw [ey] at e; omega
    · exact rise_inj h2 x hx y hy e
theorem rise_ext : ∀ {r s : List S27}, r.Pairwise (fun a b => a.f0 < b.f0) → s.Pairwise (fun a b => a.f0 < b.f0) → (∀ x, x ∈ r ↔ x ∈ s) → r = s
  | [], [], _, _, _ => rfl
  | [], b :: s, _, _, h => by have := (h b).2 List.mem_cons_self; simp at this
  | a :: r, [], _, _, h => by have := (h a).1 List.mem_cons_self; simp at this
  | a :: r, b :: s, hr, hs, h => by
    obtain ⟨r1, r2⟩ := List.pairwise_cons.1 hr
    obtain ⟨s1, s2⟩ := List.pairwise_cons.1 hs
    have hab : a = b := by
      rcases List.mem_cons.1 ((h a).1 List.mem_cons_self) with e | h1
      · exact e
      rcases List.mem_cons.1 ((h b).2 List.mem_cons_self) with e | h2
      · exact e.symm
      have := s1 a h1
      have := r1 b h2
      omega
    subst hab
    rw [rise_ext r2 s2 (fun x => ?_)]
    constructor
    · intro hx
      rcases List.mem_cons.1 ((h x).1 (List.mem_cons_of_mem _ hx)) with e | h1
      · have := r1 x hx; rw [e] at this; omega
      · exact h1
    · intro hx
      rcases List.mem_cons.1 ((h x).2 (List.mem_cons_of_mem _ hx)) with e | h1
      · have := s1 x hx; rw [e] at this; omega
      · exact h1
theorem S27_ext {a b : S27} (h0 : a.f0 = b.f0) (h1 : a.f1 = b.f1) : a = b := by
  obtain ⟨a0, a1⟩ := a
  obtain ⟨b0, b1⟩ := b
  simp only at h0 h1
  rw [h0, h1]
theorem Least.half {M r s : List S27} (hr : Least M r) (hs : Least M s) : ∀ x ∈ r, x ∈ s := by
  intro x hx
  obtain ⟨y, hy, e0, e1⟩ := hs.all x (hr.sub x hx)
  obtain ⟨z, hz, f0, f1⟩ := hr.all y (hs.sub y hy)
  have := rise_inj hr.rise z hz x hx (by omega)
  subst this
  rwa [S27_ext (a := z) (b := y) (by omega) (by omega)]
theorem Least.unique {M r s : List S27} (hr : Least M r) (hs : Least M s) : r = s :=
  rise_ext hr.rise hs.rise (fun x => ⟨hr.half hs x, hs.half hr x⟩)

theorem putL_there : ∀ (r : List S27) (a : S27), r.Pairwise (fun a b => a.f0 < b.f0) → (∃ x ∈ r, x.f0 = a.f0) → putL r a = r
  | [], a, _, h => by simp at h
  | b :: r, a, hr, h => by
    obtain ⟨r1, r2⟩ := List.pairwise_cons.1 hr
    obtain ⟨x, hx, e⟩ := h
    unfold putL
    rcases List.mem_cons.1 hx with ex | hx
    · subst ex
      rw [if_neg (by omega), if_pos e]
    · have := r1 x hx
      rw [if_pos (by omega), putL_there r a r2 ⟨x, hx, e⟩]
theorem Least.put {M r : List S27} (h : Least M r) (a : S27) (ha : ∀ x ∈ M, x.f1 ≤ a.f1) : Least (M ++ [a]) (putL r a) := by
  by_cases hx : ∃ x ∈ r, x.f0 = a.f0
  · rw [putL_there r a h.rise hx]
    refine ⟨h.rise, fun x hx => List.mem_append_left _ (h.sub x hx), fun y hy => ?_⟩
    rcases List.mem_append.1 hy with hy | hy
    · exact h.all y hy
    · rw [List.mem_singleton] at hy
      subst hy
      obtain ⟨x, hx, e⟩ := hx
      exact ⟨x, hx, e, ha x (h.sub x hx)⟩
  · obtain ⟨p1, p2⟩ := putL_facts r a h.rise (fun b hb e => hx ⟨b, hb, e⟩)
    refine ⟨p2, fun x hx => ?_, fun y hy => ?_⟩
    · rcases List.mem_cons.1 (p1.mem_iff.1 hx) with e | hx
      · rw [e]; simp
      · exact List.mem_append_left _ (h.sub x hx)
    · rcases List.mem_append.1 hy with hy | hy
      · obtain ⟨x, hx, e⟩ := h.all y hy
        exact ⟨x, p1.mem_iff.2 (List.mem_cons_of_mem _ hx), e⟩
      · rw [List.mem_singleton] at hy
        subst hy
        exact ⟨y, p1.mem_iff.2 List.mem_cons_self, rfl, by omega⟩
theorem Least.fold : ∀ (N M r : List S27), Least M r → (M ++ N).Pairwise (fun a b => a.f1 ≤ b.f1) → Least (M ++ N) (N.foldl putL r)
  | [], M, r, h, _ => by simpa using h
  | a :: N, M, r, h, hs => by
    rw [show M ++ a :: N = (M ++ [a]) ++ N by simp] at hs ⊢
    refine Least.fold N (M ++ [a]) (putL r a) (h.put a (fun x hx => ?_)) hs
    have h1 := (List.pairwise_append.1 hs).1
    exact (List.pairwise_append.1 h1).2.2 x hx a (by simp)
theorem dedupFrom_least : ∀ (l : List S27) (p : S27), (p :: l).Pairwise leB → (dedupFrom p l).Pairwise (fun a b => a.f0 < b.f0) ∧ (∀ x ∈ dedupFrom p l, x ∈ l ∧ p.f0 < x.f0) ∧ (∀ y ∈ l, (y.f0 = p.f0 ∧ p.f1 ≤ y.f1) ∨ ∃ x ∈ dedupFrom p l, x.f0 = y.f0 ∧ x.f1 ≤ y.f1)
  | [], p, _ => ⟨by simp [dedupFrom], by simp [dedupFrom], by simp⟩
  | b :: l, p, h => by
    obtain ⟨h1, h2⟩ := List.pairwise_cons.1 h
    obtain ⟨i1, i2, i3⟩ := dedupFrom_least l b h2
    have hb := h1 b List.mem_cons_self
    unfold leB at hb
    unfold dedupFrom
    by_cases e : b.f0 = p.f0
    · rw [if_pos e]
      refine ⟨i1, fun x hx => ⟨List.mem_cons_of_mem _ (i2 x hx).1, by have := (i2 x hx).2; omega⟩, fun y hy => ?_⟩
      rcases List.mem_cons.1 hy with ey | hy
      · subst ey; exact .inl ⟨e, by omega⟩
      · rcases i3 y hy with g | g
        · exact .inl ⟨by omega, by omega⟩
        · exact .inr g
    · rw [if_neg e]
      refine ⟨List.pairwise_cons.2 ⟨fun x hx => (i2 x hx).2, i1⟩, fun x hx => ?_, fun y hy => ?_⟩
      · rcases List.mem_cons.1 hx with ex | hx
        · subst ex; exact ⟨List.mem_cons_self, by omega⟩
        · exact ⟨List.mem_cons_of_mem _ (i2 x hx).1, by have := (i2 x hx).2; omega⟩
      · rcases List.mem_cons.1 hy with ey | hy
        · subst ey; exact .inr ⟨y, List.mem_cons_self, rfl, by omega⟩
        · rcases i3 y hy with g | ⟨x, hx, g⟩
          · exact .inr ⟨b, List.mem_cons_self, by omega, by omega⟩
          · exact .inr ⟨x, List.mem_cons_of_mem _ hx, g⟩
theorem dedup_least (M : List S27) : Least M (dedup (sortB M)) := by
  have hp := sortB_perm M
  have hs := sortB_sorted M
  generalize sortB M = S at hp hs
  cases S with
  | nil =>
    have : M = [] := hp.symm.eq_nil
    subst this
    exact ⟨by simp [dedup], by simp [dedup], by simp⟩
  | cons a l =>
    obtain ⟨i1, i2, i3⟩ := dedupFrom_least l a hs
    refine ⟨List.pairwise_cons.2 ⟨fun x hx => (i2 x hx).2, i1⟩, fun x hx => hp.mem_iff.1 ?_, fun y hy => ?_⟩
    · rcases List.mem_cons.1 hx with ex | hx
      · rw [ex]; exact List.mem_cons_self
      · exact List.mem_cons_of_mem _ (i2 x hx).1
    · rcases List.mem_cons.1 (hp.mem_iff.2 hy) with ey | hy
      · exact ⟨a, List.mem_cons_self, by rw [ey], by rw [ey]; omega⟩
      · rcases i3 y hy with g | ⟨x, hx, g⟩
        · exact ⟨a, List.mem_cons_self, by omega, by omega⟩
        · exact ⟨x, List.mem_cons_of_mem _ hx, g⟩
theorem pair_all {α : Type} {R : α → α → Prop} : ∀ l : List α, (∀ x ∈ l, ∀ y ∈ l, R x y) → l.Pairwise R
  | [], _ => List.Pairwise.nil
  | a :: l, h => List.pairwise_cons.2 ⟨fun y hy => h a List.mem_cons_self y (List.mem_cons_of_mem _ hy), pair_all l (fun x hx y hy => h x (List.mem_cons_of_mem _ hx) y (List.mem_cons_of_mem _ hy))⟩
theorem marks_shards (w : List Int) : ∀ n, (marksAll w n).Pairwise (fun a b => a.f1 ≤ b.f1) ∧ ∀ x ∈ marksAll w n, x.f1 < n
  | 0 => by simp [marksAll]
  | n + 1 => by
    obtain ⟨i1, i2⟩ := marks_shards w n
    rw [marksAll_succ]
    have hm : ∀ x ∈ marksOf n (w.getD n 0 * 8).toNat, x.f1 = n := by
      intro x hx
      obtain ⟨i, _, rfl⟩ := List.mem_map.1 hx
      rfl
    refine ⟨List.pairwise_append.2 ⟨i1, ?_, fun x hx y hy => by have := i2 x hx; have := hm y hy; omega⟩, fun x hx => ?_⟩
    · exact pair_all _ (fun x hx y hy => by have := hm x hx; have := hm y hy; omega)
    · rcases List.mem_append.1 hx with hx | hx
      · have := i2 x hx; omega
      · have := hm x hx; omega
/-- Sorted marks without doubles are the marks put one by one. -/
theorem dedup_fold (w : List Int) (n : Nat) : dedup (sortB (marksAll w n)) = (marksAll w n).foldl putL [] := by
  refine (dedup_least _).unique ?_
  have := Least.fold (marksAll w n) [] [] ⟨by simp, by simp, by simp⟩ (by simpa using (marks_shards w n).1)
  simpa using this

theorem fold_len : ∀ (N r : List S27), (N.foldl putL r).length ≤ r.length + N.length
  | [], r => by simp
  | a :: N, r => by
    have h1 := putL_len r a
    have h2 := fold_len N (putL r a)
    simp only [List.foldl_cons, List.length_cons]
    omega
/-- The marks of a shard from one on. -/
def marksFrom (s i n : Nat) : List S27 := (List.range (n - i)).map fun j => ⟨markZ s (i + j), s⟩
theorem marksFrom_cons (s i n : Nat) (h : i < n) : marksFrom s i n = ⟨markZ s i, s⟩ :: marksFrom s (i + 1) n := by
  unfold marksFrom
  obtain ⟨d, hd⟩ : ∃ d, n - i = d + 1 := ⟨n - i - 1, by omega⟩
  rw [hd, show n - (i + 1) = d by omega, List.range_succ_eq_map]
  simp only [List.map_cons, List.map_map, Nat.add_zero]
  congr 1
  apply List.map_congr_left
  intro j _
  simp only [Function.comp]
  rw [show i + (j + 1) = i + 1 + j by omega]
theorem marksFrom_nil (s i n : Nat) (h : n ≤ i) : marksFrom s i n = [] := by
  unfold marksFrom
  rw [show n - i = 0 by omega]
  rfl
theorem marksFrom_zero (s n : Nat) : marksFrom s 0 n = marksOf s n := by
  unfold marksFrom marksOf
  simp
theorem rd_getD (l : List Int) (i : Nat) : rd l (i : Int) = l.getD i 0 := by simp [rd]
/-- The marks of the shards from one on. -/
def marksBack (w : List Int) (s : Nat) : Nat → List S27
  | 0 => []
  | d + 1 => marksOf s (w.getD s 0 * 8).toNat ++ marksBack w (s + 1) d
theorem marks_split (w : List Int) : ∀ d s, marksAll w s ++ marksBack w s d = marksAll w (s + d)
  | 0, s => by simp [marksBack]
  | d + 1, s => by
    rw [marksBack, ← List.append_assoc, ← marksAll_succ, marks_split w d (s + 1)]
    congr 1
    omega
theorem refbuild_l1 (w : List Int) (hn : w.length ≤ 16) (hw : ∀ i, weightOK (w.getD i 0) = true) : ∀ (d s k : Nat) (r : List S27), w.length - s = d → s ≤ w.length → 91000 + 100 * d < k → r.length + 32 * d ≤ 1000 →
    carrefourref1_Build.l1 k w r (s : Int) = some ((marksBack w s d).foldl putL r, 0)
  | 0, s, k, r, hd, hs, hk, hr => by
    obtain ⟨k, rfl⟩ : ∃ m, k = m + 1 := ⟨k - 1, by omega⟩
    simp only [carrefourref1_Build.l1, marksBack, List.foldl_nil]
    rw [if_neg (by omega)]
  | d + 1, s, k, r, hd, hs, hk, hr => by
    obtain ⟨k, rfl⟩ : ∃ m, k = m + 1 := ⟨k - 1, by omega⟩
    have hlt : s < w.length := by omega
    have hws := hw s
    simp only [weightOK, decide_eq_true_eq] at hws
    have ih := refbuild_l1 w hn hw d (s + 1)
    have l2 : ∀ (e i k : Nat) (r : List S27), (w.getD s 0 * 8).toNat - i = e → i ≤ (w.getD s 0 * 8).toNat → 91000 + 100 * d + e + 1 < k → r.length + e + 32 * d ≤ 1000 →
        carrefourref1_Build.l2 k w r (s : Int) (i : Int) = some ((marksBack w (s + 1) d).foldl putL ((marksFrom s i (w.getD s 0 * 8).toNat).foldl putL r), 0) := by
      intro e
      induction e with
      | zero =>
        intro i k r he hi hk hr
        obtain ⟨k, rfl⟩ : ∃ m, k = m + 1 := ⟨k - 1, by omega⟩
        simp only [carrefourref1_Build.l2]
        rw [if_pos (by omega), if_pos (by omega), rd_getD, show wrap64 (w.getD s 0 * 8) = w.getD s 0 * 8 by unfold wrap64; omega, if_neg (by omega), wrap_succ s (by omega), marksFrom_nil _ _ _ (by omega), List.foldl_nil]
        exact ih k r (by omega) (by omega) (by omega) (by omega)
      | succ e ie =>
        intro i k r he hi hk hr
        obtain ⟨k, rfl⟩ : ∃ m, k = m + 1 := ⟨k - 1, by omega⟩
        simp only [carrefourref1_Build.l2]
        have hm : carrefourref1_Mark.f (s : Int) (i : Int) = some (markZ s i) := by
          unfold carrefourref1_Mark.f
          rw [if_pos ⟨⟨by omega, by omega⟩, by omega, by omega⟩, Int.toNat_natCast, Int.toNat_natCast]
        have hp := putL_len r ⟨markZ s i, s⟩
        rw [if_pos (by omega), if_pos (by omega), rd_getD, show wrap64 (w.getD s 0 * 8) = w.getD s 0 * 8 by unfold wrap64; omega, if_pos (by omega), hm, Option.bind_some, put_f _ _ _ (by omega) k (by omega), Option.bind_some, wrap_succ i (by omega), marksFrom_cons _ _ _ (by omega), List.foldl_cons]
        exact ie (i + 1) k _ (by omega) (by omega) (by omega) (by omega)
    simp only [carrefourref1_Build.l1]
    rw [if_pos (by omega)]
    have := l2 (w.getD s 0 * 8).toNat 0 k r (by omega) (by omega) (by omega) (by omega)
    rw [show carrefourref1_Build.l2 k w r (s : Int) 0 = _ from this, marksFrom_zero, marksBack, List.foldl_append]

theorem getD_drop' {l : List Int} {i : Nat} (h : i < l.length) : l.drop i = l.getD i 0 :: l.drop (i + 1) := by
  rw [List.getD_eq_getElem?_getD, List.getElem?_eq_getElem h]; exact List.drop_eq_getElem_cons h
theorem refbuild_l0 (w : List Int) (hn : w.length ≤ 16) : ∀ (d i k : Nat) (x : Bool), w.length - i = d → i ≤ w.length → 93000 + d < k → (∀ j, j < i → weightOK (w.getD j 0) = true) →
    carrefourref1_Build.l0 k w x (i : Int) = some (if (w.drop i).all weightOK = true ∧ (x = true ∨ (w.drop i).any (fun y => y != 0) = true) then ((marksBack w 0 w.length).foldl putL [], 0) else ([], 1))
  | 0, i, k, x, hd, hi, hk, hp => by
    obtain ⟨k, rfl⟩ : ∃ m, k = m + 1 := ⟨k - 1, by omega⟩
    have e : w.drop i = [] := List.drop_eq_nil_of_le (by omega)
    simp only [carrefourref1_Build.l0]
    rw [if_neg (by omega), e]
    have hw : ∀ j, weightOK (w.getD j 0) = true := by
      intro j
      by_cases hj : j < i
      · exact hp j hj
      · rw [List.getD_eq_getElem?_getD, List.getElem?_eq_none (by omega)]; rfl
    have h1 := refbuild_l1 w hn hw w.length 0 k [] (by omega) (by omega) (by omega) (by simp; omega)
    cases x with
    | true => rw [if_pos rfl, show carrefourref1_Build.l1 k w [] 0 = _ from h1, if_pos ⟨rfl, .inl rfl⟩]
    | false => rw [if_neg Bool.false_ne_true, if_neg (by simp)]
  | d + 1, i, k, x, hd, hi, hk, hp => by
    obtain ⟨k, rfl⟩ : ∃ m, k = m + 1 := ⟨k - 1, by omega⟩
    have hlt : i < w.length := by omega
    have ih := refbuild_l0 w hn d (i + 1) k
    simp only [carrefourref1_Build.l0]
    rw [if_pos (by omega), if_pos (by omega), rd_getD, wrap_succ i (by omega), getD_drop' hlt, List.all_cons, List.any_cons]
    by_cases g1 : w.getD i 0 < 0
    · have hf : weightOK (w.getD i 0) = false := by simp only [weightOK, decide_eq_false_iff_not]; omega
      rw [if_pos g1, hf, if_neg (by simp)]
    rw [if_neg g1]
    by_cases g2 : w.getD i 0 > 4
    · have hf : weightOK (w.getD i 0) = false := by simp only [weightOK, decide_eq_false_iff_not]; omega
      rw [if_pos g2, hf, if_neg (by simp)]
    rw [if_neg g2]
    have hok : weightOK (w.getD i 0) = true := by simp only [weightOK, decide_eq_true_eq]; omega
    have hp2 : ∀ j, j < i + 1 → weightOK (w.getD j 0) = true := by
      intro j hj
      by_cases e : j = i
      · rw [e]; exact hok
      · exact hp j (by omega)
    cases x with
    | true =>
      rw [if_pos rfl, ih true (by omega) (by omega) (by omega) hp2, hok]
      simp
    | false =>
      rw [if_neg Bool.false_ne_true, ih _ (by omega) (by omega) (by omega) hp2, hok]
      by_cases g3 : w.getD i 0 > 0
      · have hb : (w.getD i 0 != 0) = true := bne_iff_ne.2 (by omega)
        rw [decide_eq_true g3, hb]
        simp
      · have hb : (w.getD i 0 != 0) = false := by rw [bne_eq_false_iff_eq]; omega
        rw [decide_eq_false g3, hb]
        simp
theorem refbuild_f (w : List Int) (k : Nat) (hk : 100000 ≤ k) : carrefourref1_Build.f k w = ring_Build.f w := by
  obtain ⟨k, rfl⟩ : ∃ m, k = m + 1 := ⟨k - 1, by omega⟩
  unfold carrefourref1_Build.f ring_Build.f
  simp only [carrefourref1_Build.j0]
  by_cases h1 : (w.length : Int) < 1
  · rw [if_pos h1, if_pos trivial, if_pos (.inl (by omega))]
  rw [if_neg h1]
  by_cases h2 : (w.length : Int) > 16
  · rw [decide_eq_true h2, if_pos rfl, if_pos (.inr (.inl (by omega)))]
  rw [decide_eq_false h2, if_neg Bool.false_ne_true]
  have h0 := refbuild_l0 w (by omega) w.length 0 k false (by omega) (by omega) (by omega) (fun j hj => by omega)
  rw [show carrefourref1_Build.l0 k w false 0 = _ from h0, List.drop_zero]
  have hs := marks_split w w.length 0
  rw [show marksAll w 0 = [] from rfl, List.nil_append, Nat.zero_add] at hs
  rw [hs, ← dedup_fold]
  by_cases ha : w.all weightOK = true
  · by_cases hb : w.any (fun y => y != 0) = true
    · have hno : ¬ (w.length < 1 ∨ 16 < w.length ∨ w.any (fun x => x != 0) = false ∨ w.all weightOK = false) := by
        rintro (g | g | g | g)
        · omega
        · omega
        · rw [hb] at g; cases g
        · rw [ha] at g; cases g
      rw [if_pos ⟨ha, .inr hb⟩, if_neg hno]
    · rw [if_neg (by simp [hb]), if_pos (.inr (.inr (.inl (Bool.eq_false_iff.2 hb))))]
  · rw [if_neg (fun h => ha h.1), if_pos (.inr (.inr (.inr (Bool.eq_false_iff.2 ha))))]

theorem refhas_l0 (l : List S27) (s : Int) (hn : l.length ≤ 90000) : ∀ (d k i : Nat), l.length - i = d → i ≤ l.length → d < k →
    carrefourref1_has.l0 k l s (i : Int) = some ((l.drop i).any (fun a => a.f1 == s))
  | 0, k, i, hd, hi, hk => by
    obtain ⟨k, rfl⟩ : ∃ m, k = m + 1 := ⟨k - 1, by omega⟩
    simp only [carrefourref1_has.l0]
    rw [if_neg (by omega), List.drop_eq_nil_of_le (by omega)]
    rfl
  | d + 1, k, i, hd, hi, hk => by
    obtain ⟨k, rfl⟩ : ∃ m, k = m + 1 := ⟨k - 1, by omega⟩
    have hlt : i < l.length := by omega
    have ih := refhas_l0 l s hn d k (i + 1) (by omega) (by omega) (by omega)
    simp only [carrefourref1_has.l0]
    rw [if_pos (by omega), if_pos (by omega), rd_nat, wrap_succ i (by omega), ih]
    have e : l.drop i = l.getD i z27 :: l.drop (i + 1) := by rw [List.getD_eq_getElem?_getD, List.getElem?_eq_getElem hlt]; exact List.drop_eq_getElem_cons hlt
    rw [e, List.any_cons]
    by_cases g : (l.getD i z27).f1 = s
    · rw [if_pos g, show ((l.getD i z27).f1 == s) = true from beq_iff_eq.2 g]; rfl
    · rw [if_neg g, show ((l.getD i z27).f1 == s) = false from beq_eq_false_iff_ne.2 g]; rfl
theorem refhas_f (l : List S27) (s : Int) (hn : l.length ≤ 90000) (k : Nat) (hk : 90001 ≤ k) : carrefourref1_has.f k l s = some (l.any (fun a => a.f1 == s)) := by
  unfold carrefourref1_has.f
  exact refhas_l0 l s hn l.length k 0 (by omega) (by omega) (by omega)
/-- Who has a shard at first. -/
def nodeOf (l : List S27) (m : Int) (s : Nat) : Int := if l.any (fun a => a.f1 == (s : Int)) = true then (s : Int) % m else -1
def nodesFrom (l : List S27) (m : Int) (s d : Nat) : List Int := (List.range d).map fun j => nodeOf l m (s + j)
theorem nodesFrom_succ (l : List S27) (m : Int) (s d : Nat) : nodesFrom l m s (d + 1) = nodeOf l m s :: nodesFrom l m (s + 1) d := by
  unfold nodesFrom
  rw [List.range_succ_eq_map]
  simp only [List.map_cons, List.map_map, Nat.add_zero]
  congr 1
  apply List.map_congr_left
  intro j _
  simp only [Function.comp]
  rw [show s + (j + 1) = s + 1 + j by omega]
theorem new_l0 (l : List S27) (m : Int) (n : Nat) (hn : n ≤ 1000) (hm : 1 ≤ m) (x0 : Int) (xl : List S27) : ∀ (d k s : Nat) (ns : List Int), n - s = d → s ≤ n → d < k → ns.length + d ≤ 100000 →
    table_New.l0 k m l (n : Int) (s : Int) x0 xl ns = some (x0, xl, ns ++ nodesFrom l m s d, 0)
  | 0, k, s, ns, hd, hs, hk, hl => by
    obtain ⟨k, rfl⟩ : ∃ q, k = q + 1 := ⟨k - 1, by omega⟩
    simp only [table_New.l0]
    rw [if_neg (by omega)]
    simp [nodesFrom]
  | d + 1, k, s, ns, hd, hs, hk, hl => by
    obtain ⟨k, rfl⟩ : ∃ q, k = q + 1 := ⟨k - 1, by omega⟩
    have ih := fun x => new_l0 l m n hn hm x0 xl d k (s + 1) (ns ++ [x]) (by omega) (by omega) (by omega) (by simp; omega)
    have hlen : ns.length < 17592186044416 := by omega
    simp only [table_New.l0, table_has.f, Option.bind_some]
    rw [if_pos (by omega), wrap_succ s (by omega), nodesFrom_succ, if_neg (show ¬ m = 0 by omega), if_pos hlen, if_pos hlen, ih, ih, Int.tmod_eq_emod_of_nonneg (by omega)]
    unfold nodeOf
    split <;> simp
theorem refnew_l0 (w : List Int) (l : List S27) (m : Int) (hn : w.length ≤ 1000) (hl : l.length ≤ 90000) (hm : 1 ≤ m) (x0 : Int) (xl : List S27) : ∀ (d k s : Nat) (ns : List Int), w.length - s = d → s ≤ w.length → 91000 + d < k → ns.length + d ≤ 100000 →
    carrefourref1_NewTable.l0 k w m l (s : Int) x0 xl ns = some (x0, xl, ns ++ nodesFrom l m s d, 0)
  | 0, k, s, ns, hd, hs, hk, hl2 => by
    obtain ⟨k, rfl⟩ : ∃ q, k = q + 1 := ⟨k - 1, by omega⟩
    simp only [carrefourref1_NewTable.l0]
    rw [if_neg (by omega)]
    simp [nodesFrom]
  | d + 1, k, s, ns, hd, hs, hk, hl2 => by
    obtain ⟨k, rfl⟩ : ∃ q, k = q + 1 := ⟨k - 1, by omega⟩
    have ih := fun x => refnew_l0 w l m hn hl hm x0 xl d k (s + 1) (ns ++ [x]) (by omega) (by omega) (by omega) (by simp; omega)
    have hlen : ns.length < 17592186044416 := by omega
    simp only [carrefourref1_NewTable.l0]
    rw [if_pos (by omega), refhas_f l _ hl k (by omega), Option.bind_some, wrap_succ s (by omega), nodesFrom_succ, if_neg (show ¬ m = 0 by omega), if_pos hlen, if_pos hlen, ih, ih, Int.tmod_eq_emod_of_nonneg (by omega)]
    unfold nodeOf
    split <;> simp

/-- The first table of a queue. -/
def newV (w : List Int) (m : Int) : Int × List S27 × List Int × Int :=
  if m < 1 ∨ 4 < m then (0, [], [], 1)
  else if w.length < 1 ∨ 16 < w.length ∨ w.any (fun x => x != 0) = false ∨ w.all weightOK = false then (0, [], [], 1)
  else (1, dedup (sortB (marksAll w w.length)), nodesFrom (dedup (sortB (marksAll w w.length))) m 0 w.length, 0)
theorem new_f (w : List Int) (m : Int) (k : Nat) (hk : 100000 ≤ k) : table_New.f k w m = some (newV w m) := by
  obtain ⟨k, rfl⟩ : ∃ q, k = q + 1 := ⟨k - 1, by omega⟩
  unfold table_New.f newV
  simp only [table_New.j0]
  by_cases h1 : m < 1
  · rw [if_pos h1, if_pos trivial, if_pos (.inl h1)]
  rw [if_neg h1]
  by_cases h2 : m > 4
  · rw [decide_eq_true h2, if_pos rfl, if_pos (.inr h2)]
  rw [decide_eq_false h2, if_neg Bool.false_ne_true, if_neg (show ¬ (m < 1 ∨ 4 < m) by omega)]
  unfold ring_Build.f
  split
  · rw [Option.bind_some, if_neg (by decide)]
  · rename_i h3
    rw [Option.bind_some, if_pos rfl]
    have := new_l0 (dedup (sortB (marksAll w w.length))) m w.length (by omega) (by omega) 1 (dedup (sortB (marksAll w w.length))) w.length k 0 [] (by omega) (by omega) (by omega) (by simp; omega)
    rw [show table_New.l0 k m (dedup (sortB (marksAll w w.length))) (w.length : Int) 0 1 (dedup (sortB (marksAll w w.length))) [] = _ from this, List.nil_append]
theorem dedup_len (w : List Int) (hn : w.length ≤ 16) (hw : ∀ i, i < w.length → weightOK (w.getD i 0) = true) : (dedup (sortB (marksAll w w.length))).length ≤ 1000 := by
  rw [dedup_fold]
  have h1 := fold_len (marksAll w w.length) []
  have h2 := marksAll_len w w.length hw
  simp only [List.length_nil] at h1
  omega
theorem refnew_f (w : List Int) (m : Int) (k : Nat) (hk : 100001 ≤ k) : carrefourref1_NewTable.f k w m = some (newV w m) := by
  obtain ⟨k, rfl⟩ : ∃ q, k = q + 1 := ⟨k - 1, by omega⟩
  unfold carrefourref1_NewTable.f newV
  rw [refbuild_f w _ (by omega)]
  simp only [carrefourref1_NewTable.j0]
  by_cases h3 : w.length < 1 ∨ 16 < w.length ∨ w.any (fun x => x != 0) = false ∨ w.all weightOK = false
  · unfold ring_Build.f
    rw [if_pos h3, Option.bind_some, if_pos h3]
    by_cases h1 : m < 1
    · rw [if_pos h1, if_pos trivial, if_pos (.inl h1)]
    rw [if_neg h1]
    by_cases h2 : m > 4
    · rw [if_pos h2, if_pos trivial, if_pos (.inr h2)]
    · rw [if_neg h2, if_neg (show ¬ (m < 1 ∨ 4 < m) by omega)]
      rfl
  · unfold ring_Build.f
    rw [if_neg h3, Option.bind_some, if_neg h3]
    by_cases h1 : m < 1
    · rw [if_pos h1, if_pos trivial, if_pos (.inl h1)]
    rw [if_neg h1]
    by_cases h2 : m > 4
    · rw [if_pos h2, if_pos trivial, if_pos (.inr h2)]
    rw [if_neg h2, if_neg (show ¬ (m < 1 ∨ 4 < m) by omega), if_neg (by simp)]
    have hall : w.all weightOK = true := by
      cases e : w.all weightOK with
      | true => rfl
      | false => exact absurd (.inr (.inr (.inr e))) h3
    have hl := dedup_len w (by omega) (fun i hi => by
      rw [List.all_eq_true] at hall
      refine hall _ ?_
      rw [List.getD_eq_getElem?_getD, List.getElem?_eq_getElem hi]
      exact List.getElem_mem hi)
    have := refnew_l0 w (dedup (sortB (marksAll w w.length))) m (by omega) (by omega) (by omega) 1 (dedup (sortB (marksAll w w.length))) w.length k 0 [] (by omega) (by omega) (by omega) (by simp; omega)
    rw [show carrefourref1_NewTable.l0 k w m (dedup (sortB (marksAll w w.length))) 0 1 (dedup (sortB (marksAll w w.length))) [] = _ from this, List.nil_append]
theorem sametable_l0 (a b : Int) (l m : List S27) (n : List Int) (hn : n.length ≤ 90000) : ∀ (d k i : Nat), n.length - i = d → i ≤ n.length → d < k →
    carrefourref1_SameTable.l0 k (i : Int) a l n b m n = some true
  | 0, k, i, hd, hi, hk => by
    obtain ⟨k, rfl⟩ : ∃ q, k = q + 1 := ⟨k - 1, by omega⟩
    simp only [carrefourref1_SameTable.l0]
    rw [if_neg (by omega)]
  | d + 1, k, i, hd, hi, hk => by
    obtain ⟨k, rfl⟩ : ∃ q, k = q + 1 := ⟨k - 1, by omega⟩
    have ih := sametable_l0 a b l m n hn d k (i + 1) (by omega) (by omega) (by omega)
    simp only [carrefourref1_SameTable.l0]
    rw [if_pos (by omega), if_pos (by omega), if_pos (by omega), if_pos trivial, wrap_succ i (by omega)]
    exact ih
theorem sametable_f (a : Int) (l : List S27) (n : List Int) (hl : l.length ≤ 90000) (hn : n.length ≤ 90000) (k : Nat) (hk : 100001 ≤ k) : carrefourref1_SameTable.f k a l n a l n = some true := by
  obtain ⟨k, rfl⟩ : ∃ q, k = q + 1 := ⟨k - 1, by omega⟩
  unfold carrefourref1_SameTable.f
  rw [if_pos rfl, refsame_f l l hl _ (by omega), Option.bind_some, if_pos (by simp)]
  simp only [carrefourref1_SameTable.j0]
  rw [if_neg (by simp)]
  exact sametable_l0 a a l l n hn n.length k 0 (by omega) (by omega) (by omega)
theorem newV_len (w : List Int) (m : Int) : (newV w m).2.1.length ≤ 90000 ∧ (newV w m).2.2.1.length ≤ 90000 := by
  unfold newV
  split
  · simp
  · split
    · simp
    · rename_i h1 h3
      have hall : w.all weightOK = true := by
        cases e : w.all weightOK with
        | true => rfl
        | false => exact absurd (.inr (.inr (.inr e))) h3
      have hl := dedup_len w (by omega) (fun i hi => by
        rw [List.all_eq_true] at hall
        refine hall _ ?_
        rw [List.getD_eq_getElem?_getD, List.getElem?_eq_getElem hi]
        exact List.getElem_mem hi)
      refine ⟨Nat.le_trans hl (by decide), ?_⟩
      simp only [nodesFrom, List.length_map, List.length_range]
      omega
end Go.Proofs.YtpnoifikpmfpdaaDoor.PAll
