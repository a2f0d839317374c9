/-
  slices.CompactFunc at arcs, by their points: the contract.
-/
import Derived.Test.YtpnoifikpmfpdaaDoorEcmp
import Derived.Test.YtpnoifikpmfpdaaDoorEclear
import Derived.Test.YtpnoifikpmfpdaaDoorEhas
namespace Go.Proofs.YtpnoifikpmfpdaaDoor.PAll
open Go.RowKit Go.Proofs.YtpnoifikpmfpdaaDoorW.PrintWords Go.Proofs.YtpnoifikpmfpdaaDoorW.PrintLast Go.Proofs.YtpnoifikpmfpdaaDoorW.PrintMore
set_option linter.unusedVariables false
set_option linter.unusedSimpArgs false

/-- Of neighbours with one point the first alone. -/
def dedupFrom (p : S27) : List S27 → List S27
  | [] => []
  | b :: l => if b.f0 = p.f0 then dedupFrom b l else b :: dedupFrom b l
def dedup : List S27 → List S27
  | [] => []
  | a :: l => a :: dedupFrom a l
theorem dedupFrom_snoc : ∀ (l : List S27) (p b : S27), dedupFrom p (l ++ [b]) = dedupFrom p l ++ (if b.f0 = ((p :: l).getLast (by simp)).f0 then [] else [b])
  | [], p, b => by
    by_cases h : b.f0 = p.f0 <;> simp [dedupFrom, h]
  | a :: l, p, b => by
    have ih := dedupFrom_snoc l a b
    have e : ((p :: a :: l).getLast (by simp)) = ((a :: l).getLast (by simp)) := by simp
    rw [e]
    generalize ((a :: l).getLast (by simp)) = q at ih
    simp only [List.cons_append, dedupFrom]
    by_cases h1 : a.f0 = p.f0
    · rw [if_pos h1, if_pos h1]; exact ih
    · rw [if_neg h1, if_neg h1, ih]; rfl
theorem dedup_snoc (l : List S27) (b : S27) (h : l ≠ []) : dedup (l ++ [b]) = dedup l ++ (if b.f0 = (l.getLast h).f0 then [] else [b]) := by
  cases l with
  | nil => exact absurd rfl h
  | cons a l => simp only [List.cons_append, dedup, dedupFrom_snoc]
theorem dedup_take (l : List S27) (k : Nat) (h1 : 1 ≤ k) (h2 : k < l.length) : dedup (l.take (k + 1)) = dedup (l.take k) ++ (if (l.getD k z27).f0 = (l.getD (k - 1) z27).f0 then [] else [l.getD k z27]) := by
  have e : l.take (k + 1) = l.take k ++ [l.getD k z27] := by
    rw [List.take_add_one, List.getElem?_eq_getElem h2, List.getD_eq_getElem?_getD, List.getElem?_eq_getElem h2]; rfl
  have hne : l.take k ≠ [] := by
    intro h
    have := congrArg List.length h
    rw [List.length_take] at this
    simp only [List.length_nil] at this
    omega
  rw [e, dedup_snoc _ _ hne]
  have hl : (l.take k).getLast hne = l.getD (k - 1) z27 := by
    rw [List.getLast_eq_getElem, List.getElem_take, List.getD_eq_getElem?_getD, List.getElem?_eq_getElem (by omega), Option.getD_some]
    have : (List.take k l).length - 1 = k - 1 := by rw [List.length_take]; omega
    simp only [this]
  rw [hl]
theorem dedup_same (l : List S27) (k : Nat) (hk : k ≤ l.length) (h : ∀ i, 1 ≤ i → i < k → (l.getD i z27).f0 ≠ (l.getD (i - 1) z27).f0) : dedup (l.take k) = l.take k := by
  induction k with
  | zero => simp [dedup]
  | succ k ih =>
    rcases Nat.eq_zero_or_pos k with h0 | h0
    · subst h0
      cases l with
      | nil => simp [dedup]
      | cons a l => simp [dedup, dedupFrom]
    · rw [dedup_take l k h0 (by omega), ih (by omega) (fun i h1 h2 => h i h1 (by omega)), if_neg (h k h0 (by omega))]
      rw [List.take_add_one, List.getElem?_eq_getElem (by omega), List.getD_eq_getElem?_getD, List.getElem?_eq_getElem (by omega)]; rfl

set_option maxHeartbeats 8000000 in
set_option maxRecDepth 100000 in
theorem eqFrom.calls (x y : S27) (W : World) : Calls Tryd.prog 57 #[.agg #[.int .u32 x.f0, .int .i64 x.f1], .agg #[.int .u32 y.f0, .int .i64 y.f1]] W fun e W' => e = .returned (.bool (x.f0 == y.f0)) ∧ Below W.heap.size W W' := by
  go_enter Tryd.func57, Tryd.ntmps57
  go_wp2
  go_ret
  exact ⟨rfl, ((Below.refl _ _).alloc (Nat.le_refl _) _).alloc (by simp) _⟩

theorem addr_zero (g n : Nat) : (⟨g, 0, none⟩ : Addr).add n = ⟨g, n, none⟩ := by
  unfold Addr.add
  split
  · rename_i h; rw [h]
  · simp

theorem cells_two {w : World} {g o : Nat} {a b : Value} (h0 : w.cell? ⟨g, o, none⟩ = some a) (h1 : w.cell? ⟨g, o + 1, none⟩ = some b) (j : Nat) (u : Value) (h : [a, b][j]? = some u) : w.cell? ⟨g, o + j, none⟩ = some u := by
  rcases j with _ | _ | j
  · simp at h; subst h; exact h0
  · simp at h; subst h; exact h1
  · simp at h
theorem take_set (cs : List S27) (q : Nat) (x : S27) (h : q < cs.length) : (cs.set q x).take (q + 1) = cs.take q ++ [x] := by
  rw [List.take_add_one, List.getElem?_set_self h]
  have : (cs.set q x).take q = cs.take q := by rw [List.take_set_of_le (Nat.le_refl _)]
  rw [this]
  rfl

set_option maxHeartbeats 8000000 in
set_option maxRecDepth 100000 in
theorem compactArc.calls (base : Nat) (ok : Nat → Prop) (v : Value) (xs : List S27) (w : World) (hR : k27.R 27 w base ok v xs) (hn : xs.length ≤ 1000000) :
    Calls Tryd.prog 56 #[v, .func (.func 57) #[] #[]] w fun e w' => ∃ v', e = .returned v' ∧ k27.R 27 w' base ok v' (dedup xs) ∧ Below base w w' := by
  have eg : ∀ args w, (callFunc 57 args).run Tryd.prog w = .ok (.enter 57 args) w := enters_of Tryd.func57 (by kernel_rfl) rfl
  by_cases h2 : xs.length < 2
  · have hd : dedup xs = xs := by
      match xs, h2 with
      | [], _ => rfl
      | [a], _ => rfl
      | a :: b :: l, h => simp at h; omega
    rw [hd]
    obtain ⟨A, c, rfl, hc, hr⟩ := Kd.R_reads hR
    have HR := Aside0.mk hR
    have h2b : decide (xs.length < 2) = true := decide_eq_true h2
    clear hR hr hd eg
    go_enter Tryd.func56, Tryd.ntmps56
    go_wp2
    go_ret
    exact ⟨_, rfl, HR.out, Below.refl _ _⟩
  · obtain ⟨g, cap, cur, rfl, hb, hlt, hok, hh, hc1, hc2, hc3, _⟩ := R_holds flat27 hR (by intro h; rw [h] at h2; simp at h2)
    have h2b : decide (xs.length < 2) = false := decide_eq_false h2
    have h2c : decide ((xs.length : Int) < 2) = false := decide_eq_false (by omega)
    have HR := Aside0.mk hR
    have HE := Aside0.mk eg
    have HX := fun (x y : S27) W => Aside0.mk (eqFrom.calls x y W)
    clear hR eg hh hc3
    go_enter Tryd.func56, Tryd.ntmps56
    go_wp2
    go_loopw [5] (fun v5 w' => ∃ k : Nat, v5 = .int .i64 k ∧ 1 ≤ k ∧ k ≤ xs.length ∧ Aside0 (∀ i, 1 ≤ i → i < k → (xs.getD i z27).f0 ≠ (xs.getD (i - 1) z27).f0) ∧ Aside0 (k27.R 27 w' base ok (.slice (some ⟨g, 0, none⟩) xs.length cap) xs) ∧ Aside0 (Below base w w')) (fun v5 _ => xs.length - (intOf v5).toNat)
    case atStart => exact ⟨1, by go_num, by omega, by omega, ⟨fun i h1 h2 => by omega⟩, HR, ⟨Below.refl _ _⟩⟩
    case round =>
      obtain ⟨k, rfl, hk1, hk2, HN, HR1, HB1⟩ := hrel
      clear HR
      obtain ⟨wo, rfl⟩ : ∃ wo : World, wo = wr := ⟨_, rfl⟩
      by_cases hlt : k < xs.length
      · have HC := Aside0.mk (Kd.R_reads' HR1.out).2.2
        obtain ⟨ad1, e1, hx0, hx1⟩ := at_T27 HC.out (k : Int) (by omega) (by omega)
        obtain ⟨ad2, e2, hy0, hy1⟩ := at_T27 HC.out ((k - 1 : Nat) : Int) (by omega) (by omega)
        cases e1
        cases e2
        simp only [Int.toNat_natCast, rd_T27, addr_zero] at hx0 hx1 hy0 hy1
        have hw1 : IntKind.i64.wrap ((k : Int) - 1) = ((k - 1 : Nat) : Int) := by rw [IntKind.wrap_i64]; omega
        have hb0 : base ≤ g := hb
        by_cases he : (xs.getD k z27).f0 = (xs.getD (k - 1) z27).f0
        · have hbq : ((xs.getD k z27).f0 == (xs.getD (k - 1) z27).f0) = true := by simpa using he
          have HD0 : Aside0 (dedup (xs.take (k + 1)) = xs.take k) := ⟨by rw [dedup_take xs k hk1 hlt, if_pos he, List.append_nil]; exact dedup_same xs k (by omega) HN.out⟩
          have HX2 := HX (xs.getD k z27) (xs.getD (k - 1) z27)
          rw [hbq] at HX2
          clear he hbq HN
          generalize xs.getD k z27 = x at hx0 hx1 HX2
          generalize xs.getD (k - 1) z27 = y at hy0 hy1 HX2
          have k0 : (0 : Int) ≤ (k : Int) := by omega
          have k1 : (k : Int) < (xs.length : Int) := by omega
          have k2 : (0 : Int) ≤ ((k - 1 : Nat) : Int) := by omega
          have k3 : ((k - 1 : Nat) : Int) < (xs.length : Int) := by omega
          have hgl : g < wo.heap.size := World.block_lt_of_cell? wo ⟨g, k * 2, none⟩ hx0
          go_wp2_with (fail)
          go_region_held3 (fun w' => w'.cell? ⟨g, k * 2, none⟩ = some (.int .u32 x.f0) ∧ w'.cell? ⟨g, k * 2 + 1, none⟩ = some (.int .i64 x.f1) ∧ w'.cell? ⟨g, (k - 1) * 2, none⟩ = some (.int .u32 y.f0) ∧ w'.cell? ⟨g, (k - 1) * 2 + 1, none⟩ = some (.int .i64 y.f1))
            (first | go_keep | exact ⟨hx0, hx1, hy0, hy1⟩ | exact ⟨below_cell hbb _ _ _ hgl hx0, below_cell hbb _ _ _ hgl hx1, below_cell hbb _ _ _ hgl hy0, below_cell hbb _ _ _ hgl hy1⟩)
            ((first | (go_at_call 57; refine (HX2 _).out.mono ?_; rintro e w1 ⟨rfl, hbb⟩)))
          have hbo : Below wo.heap.size wo w1 := (below_drew (Below.refl _ _)).trans hbb
          have HR2 := Aside0.mk (Kd.R_below HR1.out hbo)
          have HB2 := Aside0.mk (HB1.out.trans (hbo.mono (Nat.le_trans hb0 (Nat.le_of_lt hgl))))
          clear hbb hbo hx0 hx1 hy0 hy1 k0 k1 k2 k3 hw1 HR1 HB1 HC HX2
          go_wp2_with (fail)
          go_loopw [5, 7] (fun v5 v7 w' => ∃ (q m : Nat) (cs : List S27), v5 = .int .i64 q ∧ v7 = .int .i64 m ∧ 1 ≤ m ∧ k + m ≤ xs.length ∧ k ≤ q ∧ q + 1 ≤ k + m ∧ cs.length = xs.length ∧ Aside0 (cs.take q = dedup (xs.take (k + m))) ∧ Aside0 (∀ i, q ≤ i → i < xs.length → cs.getD i z27 = xs.getD i z27) ∧ Aside0 (k27.R 27 w' base ok (.slice (some ⟨g, 0, none⟩) xs.length cap) cs) ∧ Aside0 (Below base w w')) (fun _ v7 _ => xs.length - (intOf v7).toNat)
          case atStart => exact ⟨k, 1, xs, rfl, by go_num, by omega, by omega, by omega, by omega, rfl, ⟨HD0.out.symm⟩, ⟨fun i _ _ => rfl⟩, HR2, HB2⟩
          case round =>
          clear HR2 HB2 HD0 hgl
          obtain ⟨q, m, cs, rfl, rfl, hm1, hm2, hq1, hq2, hcl, HT, HS, HRi, HBi⟩ := hrel
          obtain ⟨wi, rfl⟩ : ∃ wi : World, wi = wr := ⟨_, rfl⟩
          by_cases hml : m < xs.length - k
          · have HC := Aside0.mk (Kd.R_reads' HRi.out).2.2
            obtain ⟨ad1, e1, hx0, hx1⟩ := at_T27 HC.out ((k + m : Nat) : Int) (by omega) (by omega)
            obtain ⟨ad2, e2, hy0, hy1⟩ := at_T27 HC.out ((k + m - 1 : Nat) : Int) (by omega) (by omega)
            cases e1
            cases e2
            simp only [Int.toNat_natCast, rd_T27, addr_zero] at hx0 hx1 hy0 hy1
            rw [HS.out (k + m) (by omega) (by omega)] at hx0 hx1
            rw [HS.out (k + m - 1) (by omega) (by omega)] at hy0 hy1
            rw [show (k + m) * 2 = k * 2 + m * 2 from by omega] at hx0 hx1
            rw [show (k + m - 1) * 2 = k * 2 + (m - 1) * 2 from by omega] at hy0 hy1
            have hw1 : IntKind.i64.wrap ((m : Int) - 1) = ((m - 1 : Nat) : Int) := by rw [IntKind.wrap_i64]; omega
            have HDt := Aside0.mk (dedup_take xs (k + m) (by omega) (by omega))
            clear HC
            by_cases he : (xs.getD (k + m) z27).f0 = (xs.getD (k + m - 1) z27).f0
            · have hbq : ((xs.getD (k + m) z27).f0 == (xs.getD (k + m - 1) z27).f0) = true := by simpa using he
              have HT2 : Aside0 (cs.take q = dedup (xs.take (k + (m + 1)))) := ⟨by rw [← Nat.add_assoc, HDt.out, if_pos he, List.append_nil]; exact HT.out⟩
              have HX2 := HX (xs.getD (k + m) z27) (xs.getD (k + m - 1) z27)
              rw [hbq] at HX2
              clear he hbq HT HDt
              generalize xs.getD (k + m) z27 = x at hx0 hx1 HX2
              generalize xs.getD (k + m - 1) z27 = y at hy0 hy1 HX2
              have k0 : (0 : Int) ≤ (m : Int) := by omega
              have k1 : (m : Int) < ((xs.length - k : Nat) : Int) := by omega
              have k2 : (0 : Int) ≤ ((m - 1 : Nat) : Int) := by omega
              have k3 : ((m - 1 : Nat) : Int) < ((xs.length - k : Nat) : Int) := by omega
              have hgl : g < wi.heap.size := World.block_lt_of_cell? wi ⟨g, k * 2 + m * 2, none⟩ hx0
              go_wp2_with (fail)
              go_region_held3 (fun w' => w'.cell? ⟨g, k * 2 + m * 2, none⟩ = some (.int .u32 x.f0) ∧ w'.cell? ⟨g, k * 2 + m * 2 + 1, none⟩ = some (.int .i64 x.f1) ∧ w'.cell? ⟨g, k * 2 + (m - 1) * 2, none⟩ = some (.int .u32 y.f0) ∧ w'.cell? ⟨g, k * 2 + (m - 1) * 2 + 1, none⟩ = some (.int .i64 y.f1))
                (first | go_keep | exact ⟨hx0, hx1, hy0, hy1⟩ | exact ⟨below_cell hbb _ _ _ hgl hx0, below_cell hbb _ _ _ hgl hx1, below_cell hbb _ _ _ hgl hy0, below_cell hbb _ _ _ hgl hy1⟩)
                ((first | (go_at_call 57; refine (HX2 _).out.mono ?_; rintro e w3 ⟨rfl, hbb⟩)))
              have hbo : Below wi.heap.size wi w3 := (below_drew (Below.refl _ _)).trans hbb
              have HRj := Aside0.mk (Kd.R_below HRi.out hbo)
              have HBj := Aside0.mk (HBi.out.trans (hbo.mono (Nat.le_trans hb0 (Nat.le_of_lt hgl))))
              have hz0 := below_cell hbo _ _ _ hgl hx0
              have hz1 := below_cell hbo _ _ _ hgl hx1
              clear hbb hbo hx0 hx1 hy0 hy1 k2 k3 hw1 HRi HBi HX2
              go_wp2
              go_roundw
              case rel => exact ⟨q, m + 1, cs, rfl, by go_num, by omega, by omega, by omega, by omega, hcl, HT2, HS, HRj, HBj⟩
              case measure => simp [intOf]; omega
            · have hbq : ((xs.getD (k + m) z27).f0 == (xs.getD (k + m - 1) z27).f0) = false := by simpa using he
              have HT2 : Aside0 ((cs.set q (xs.getD (k + m) z27)).take (q + 1) = dedup (xs.take (k + (m + 1)))) := ⟨by
                rw [← Nat.add_assoc, HDt.out, if_neg he, ← HT.out]
                exact take_set cs q _ (by omega)⟩
              have HS2 : Aside0 (∀ i, q + 1 ≤ i → i < xs.length → (cs.set q (xs.getD (k + m) z27)).getD i z27 = xs.getD i z27) := ⟨fun i h1 h2 => by
                rw [List.getD_eq_getElem?_getD, List.getElem?_set_ne (by omega), ← List.getD_eq_getElem?_getD]
                exact HS.out i (by omega) h2⟩
              have HX2 := HX (xs.getD (k + m) z27) (xs.getD (k + m - 1) z27)
              rw [hbq] at HX2
              clear he hbq HT HDt HS
              generalize xs.getD (k + m) z27 = x at hx0 hx1 HX2 HT2 HS2
              generalize xs.getD (k + m - 1) z27 = y at hy0 hy1 HX2
              have k0 : (0 : Int) ≤ (m : Int) := by omega
              have k1 : (m : Int) < ((xs.length - k : Nat) : Int) := by omega
              have k2 : (0 : Int) ≤ ((m - 1 : Nat) : Int) := by omega
              have k3 : ((m - 1 : Nat) : Int) < ((xs.length - k : Nat) : Int) := by omega
              have hgl : g < wi.heap.size := World.block_lt_of_cell? wi ⟨g, k * 2 + m * 2, none⟩ hx0
              go_wp2_with (fail)
              go_region_held3 (fun w' => w'.cell? ⟨g, k * 2 + m * 2, none⟩ = some (.int .u32 x.f0) ∧ w'.cell? ⟨g, k * 2 + m * 2 + 1, none⟩ = some (.int .i64 x.f1) ∧ w'.cell? ⟨g, k * 2 + (m - 1) * 2, none⟩ = some (.int .u32 y.f0) ∧ w'.cell? ⟨g, k * 2 + (m - 1) * 2 + 1, none⟩ = some (.int .i64 y.f1))
                (first | go_keep | exact ⟨hx0, hx1, hy0, hy1⟩ | exact ⟨below_cell hbb _ _ _ hgl hx0, below_cell hbb _ _ _ hgl hx1, below_cell hbb _ _ _ hgl hy0, below_cell hbb _ _ _ hgl hy1⟩)
                ((first | (go_at_call 57; refine (HX2 _).out.mono ?_; rintro e w3 ⟨rfl, hbb⟩)))
              have hbo : Below wi.heap.size wi w3 := (below_drew (Below.refl _ _)).trans hbb
              have HRj := Aside0.mk (Kd.R_below HRi.out hbo)
              have HBj := Aside0.mk (HBi.out.trans (hbo.mono (Nat.le_trans hb0 (Nat.le_of_lt hgl))))
              have hz0 := below_cell hbo _ _ _ hgl hx0
              have hz1 := below_cell hbo _ _ _ hgl hx1
              clear hbb hbo hx0 hx1 hy0 hy1 k2 k3 hw1 HRi HBi HX2
              have q0 : (0 : Int) ≤ (q : Int) := by omega
              have q1 : (q : Int) < (xs.length : Int) := by omega
              obtain ⟨ad3, e3, ho0, ho1⟩ := at_T27 (Kd.R_reads' HRj.out).2.2 (q : Int) (by omega) (by omega)
              cases e3
              simp only [Int.toNat_natCast, rd_T27, addr_zero] at ho0 ho1
              generalize cs.getD q z27 = old at ho0 ho1
              have HO0 := Aside0.mk ho0
              have HO1 := Aside0.mk ho1
              clear ho0 ho1 q0
              have q0 : (0 : Int) ≤ (q : Int) := by omega
              go_wp2_with ((with_reducible refine gate_store (t := 27) (p := 56) (v := .tmp 55) rfl ?_); refine Kd.R_store k27 (w0 := w) base rfl rfl 27 (.tmp 56) (.tmp 55) rfl 27 (g := g) (n := xs.length) (cap := cap) (o' := q * 2) (q : Int) 0 cs x (.agg #[.int .u32 x.f0, .int .i64 x.f1]) [.int .u32 x.f0, .int .i64 x.f1] [.int .u32 old.f0, .int .i64 old.f1] ok (fun _ => False) rfl ?aF rfl rfl ?aT ?a1 HRj.out q0 q1 rfl ?aC (Nat.le_refl 2) ?aM (fun _ h => h.elim) HBj.out ?_; (case aF => simp [k27, Kd.iso, Kd.pair, Kd.int, Kd.scalar]); (case aT => kernel_rfl); (case a1 => intro z hz; simp at hz; rcases hz with rfl | rfl <;> rfl); (case aM => exact k27_mkM _ _ _ x); (case aC => exact cells_two HO0.out HO1.out); intro w4 ho hb4 hg4; have HR4 := Aside0.mk ho; have HB4 := Aside0.mk hb4; clear ho hb4 hg4)
              go_roundw
              case rel => exact ⟨q + 1, m + 1, cs.set q x, by go_num, by go_num, by omega, by omega, by omega, by omega, by rw [List.length_set]; exact hcl, HT2, HS2, HR4, HB4⟩
              case measure => simp [intOf]; omega
          · have e : k + m = xs.length := by omega
            have hq : cs.take q = dedup xs := by rw [HT.out, e, List.take_length]
            have HQ := Aside0.mk hq
            have q0 : (0 : Int) ≤ (q : Int) := by omega
            have q1 : (q : Int) ≤ (xs.length : Int) := by omega
            have HRc : Aside0 (k27.R 27 wi base ok (.slice (some ⟨g, 0, none⟩) cs.length cap) cs) := ⟨by rw [hcl]; exact HRi.out⟩
            obtain ⟨vs, hclr⟩ := run_clear_row HRc.out q (cap - q) (by omega)
            rw [hcl] at hclr
            have HRe := Aside0.mk (R_clear HRc.out q (by omega) vs)
            have HBe := Aside0.mk (below_cells (o := q * 2) HBi.out hb vs)
            rw [HQ.out] at HRe
            have hqc : q ≤ cap := by omega
            clear HT HS hq e HRi HBi HRc
            generalize wi.setCells g (q * 2) vs = we at hclr HRe HBe
            go_wp2
            go_ret
            exact ⟨_, rfl, HRe.out, HBe.out⟩
        · have hbq : ((xs.getD k z27).f0 == (xs.getD (k - 1) z27).f0) = false := by simpa using he
          have HN2 : Aside0 (∀ i, 1 ≤ i → i < k + 1 → (xs.getD i z27).f0 ≠ (xs.getD (i - 1) z27).f0) := ⟨fun i h1 h2 => by
            by_cases e : i = k
            · rw [e]; exact he
            · exact HN.out i h1 (by omega)⟩
          have HX2 := HX (xs.getD k z27) (xs.getD (k - 1) z27)
          rw [hbq] at HX2
          clear he hbq HN
          generalize xs.getD k z27 = x at hx0 hx1 HX2
          generalize xs.getD (k - 1) z27 = y at hy0 hy1 HX2
          have k0 : (0 : Int) ≤ (k : Int) := by omega
          have k1 : (k : Int) < (xs.length : Int) := by omega
          have k2 : (0 : Int) ≤ ((k - 1 : Nat) : Int) := by omega
          have k3 : ((k - 1 : Nat) : Int) < (xs.length : Int) := by omega
          have hgl : g < wo.heap.size := World.block_lt_of_cell? wo ⟨g, k * 2, none⟩ hx0
          go_wp2_with (fail)
          go_region_held3 (fun w' => w'.cell? ⟨g, k * 2, none⟩ = some (.int .u32 x.f0) ∧ w'.cell? ⟨g, k * 2 + 1, none⟩ = some (.int .i64 x.f1) ∧ w'.cell? ⟨g, (k - 1) * 2, none⟩ = some (.int .u32 y.f0) ∧ w'.cell? ⟨g, (k - 1) * 2 + 1, none⟩ = some (.int .i64 y.f1))
            (first | go_keep | exact ⟨hx0, hx1, hy0, hy1⟩ | exact ⟨below_cell hbb _ _ _ hgl hx0, below_cell hbb _ _ _ hgl hx1, below_cell hbb _ _ _ hgl hy0, below_cell hbb _ _ _ hgl hy1⟩)
            ((first | (go_at_call 57; refine (HX2 _).out.mono ?_; rintro e w1 ⟨rfl, hbb⟩)))
          have hbo : Below wo.heap.size wo w1 := (below_drew (Below.refl _ _)).trans hbb
          have HR2 := Aside0.mk (Kd.R_below HR1.out hbo)
          have HB2 := Aside0.mk (HB1.out.trans (hbo.mono (Nat.le_trans hb0 (Nat.le_of_lt hgl))))
          clear hbb hbo hx0 hx1 hy0 hy1 k0 k1 k2 k3 hw1 HR1 HB1 HC HX2
          go_wp2
          go_roundw
          case rel => exact ⟨k + 1, by go_num, by omega, by omega, HN2, HR2, HB2⟩
          case measure => simp [intOf]; omega
      · have e : k = xs.length := by omega
        subst e
        have hd := dedup_same xs xs.length (Nat.le_refl _) HN.out
        rw [List.take_length] at hd
        have HD := Aside0.mk hd
        clear hd
        go_wp2
        go_ret
        refine ⟨_, rfl, ?_, HB1.out⟩
        rw [HD.out]
        exact HR1.out
end Go.Proofs.YtpnoifikpmfpdaaDoor.PAll
