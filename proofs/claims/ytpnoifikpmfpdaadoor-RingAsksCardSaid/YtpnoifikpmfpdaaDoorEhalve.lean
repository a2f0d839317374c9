/-
  The function 'Halve' of package ring: the contract.
-/
import Derived.Test.YtpnoifikpmfpdaaDoorEring
import Derived.Test.YtpnoifikpmfpdaaDoorEhas
import Derived.Test.YtpnoifikpmfpdaaDoorPAllx3
import Derived.Test.YtpnoifikpmfpdaaDoorEclone
import Derived.Test.YtpnoifikpmfpdaaDoorEcmp
namespace Go.Proofs.YtpnoifikpmfpdaaDoor.PAll
open Go.RowKit Go.Proofs.YtpnoifikpmfpdaaDoorW.PrintWords Go.Proofs.YtpnoifikpmfpdaaDoorW.PrintLast Go.Proofs.YtpnoifikpmfpdaaDoorW.PrintMore
set_option linter.unusedVariables false
set_option linter.unusedSimpArgs false

/-- How wide the arc at a place is. -/
def widthZ (l : List S27) (k : Nat) : Int := if l.length = 1 then 4294967296 else ((l.getD ((k + 1) % l.length) z27).f0 - (l.getD k z27).f0) % 4294967296
theorem ring_width_f (l : List S27) (k : Nat) (hk : k < l.length) (hn : l.length ≤ 1024) : ring_width.f l (k : Int) = some (widthZ l k) := by
  unfold ring_width.f widthZ
  by_cases h1 : l.length = 1
  · rw [if_pos (by omega), if_pos h1]
  · have hw : wrap64 ((k : Int) + 1) = ((k + 1 : Nat) : Int) := by unfold wrap64; omega
    have hm : Int.tmod ((k + 1 : Nat) : Int) (l.length : Int) = (((k + 1) % l.length : Nat) : Int) := by rw [Int.tmod_eq_emod_of_nonneg (by omega)]; rfl
    have hlt : (k + 1) % l.length < l.length := Nat.mod_lt _ (by omega)
    have hr1 : rd_T27 l (k : Int) = l.getD k z27 := by simp [rd_T27]
    have hr2 : rd_T27 l (((k + 1) % l.length : Nat) : Int) = l.getD ((k + 1) % l.length) z27 := by simp only [rd_T27, Int.toNat_natCast]
    rw [if_neg (by omega), if_neg h1, if_pos (by omega), if_pos (by omega), if_neg (by omega), hw, hm, if_pos (by omega), if_pos (by omega), hr1, hr2]
    unfold point_Way.f
    simp only [Option.bind_some]
    congr 1
    rw [IntKind.wrap_u64]
    omega

theorem widthZ_le (l : List S27) (k : Nat) : widthZ l k ≤ 4294967296 := by
  unfold widthZ
  split <;> omega

/-- What the arc at a place gives to the other one. -/
def halfNew (l : List S27) (s o : Int) (k : Nat) : List S27 :=
  if (l.getD k z27).f1 = s ∧ 2 ≤ widthZ l k then [⟨((l.getD k z27).f0 + widthZ l k / 2) % 4294967296, o⟩] else []
def halfAll (l : List S27) (s o : Int) (k : Nat) : List S27 := l ++ (List.range k).flatMap (halfNew l s o)
theorem halfAll_succ (l : List S27) (s o : Int) (k : Nat) : halfAll l s o (k + 1) = halfAll l s o k ++ halfNew l s o k := by
  simp [halfAll, List.range_succ]
theorem halfNew_len (l : List S27) (s o : Int) (k : Nat) : (halfNew l s o k).length ≤ 1 := by
  unfold halfNew; split <;> simp
theorem halfAll_len (l : List S27) (s o : Int) (k : Nat) : (halfAll l s o k).length ≤ l.length + k := by
  induction k with
  | zero => simp [halfAll]
  | succ k ih => rw [halfAll_succ, List.length_append]; have := halfNew_len l s o k; omega
/-- An arc among others by its point. -/
def insArc (a : S27) : List S27 → List S27
  | [] => [a]
  | b :: l => if a.f0 ≤ b.f0 then a :: b :: l else b :: insArc a l
def sortArcs : List S27 → List S27
  | [] => []
  | a :: l => insArc a (sortArcs l)
theorem insArc_perm (a : S27) : ∀ l, (insArc a l).Perm (a :: l)
  | [] => List.Perm.refl _
  | b :: l => by
    unfold insArc
    split
    · exact List.Perm.refl _
    · exact ((insArc_perm a l).cons b).trans (List.Perm.swap a b l)
theorem sortArcs_perm : ∀ l, (sortArcs l).Perm l
  | [] => List.Perm.refl _
  | a :: l => (insArc_perm a _).trans ((sortArcs_perm l).cons a)
theorem rises_pairwise : ∀ {l : List S27}, risesB l = true → l.Pairwise (fun a b => a.f0 < b.f0)
  | [], _ => List.Pairwise.nil
  | [a], _ => by simp
  | a :: b :: l, h => by
    obtain ⟨h1, h2⟩ := rises_cons h
    have ih := rises_pairwise h2
    refine List.Pairwise.cons (fun c hc => ?_) ih
    rcases List.mem_cons.1 hc with rfl | hc
    · exact h1
    · exact Int.lt_trans h1 ((List.pairwise_cons.1 ih).1 c hc)
theorem perm_unique : ∀ {xs ys : List S27}, xs.Pairwise (fun a b => a.f0 < b.f0) → ys.Pairwise (fun a b => ¬ b.f0 < a.f0) → ys.Perm xs → ys = xs
  | [], ys, _, _, h => List.Perm.eq_nil h
  | x :: xs, ys, hx, hy, h => by
    cases ys with
    | nil => exact absurd h.symm.eq_nil (by simp)
    | cons y ys =>
      obtain ⟨hx1, hx2⟩ := List.pairwise_cons.1 hx
      obtain ⟨hy1, hy2⟩ := List.pairwise_cons.1 hy
      have hxy : x = y := by
        have hm : x ∈ y :: ys := h.mem_iff.2 List.mem_cons_self
        have hn : y ∈ x :: xs := h.mem_iff.1 List.mem_cons_self
        rcases List.mem_cons.1 hm with e | hm
        · exact e
        rcases List.mem_cons.1 hn with e | hn
        · exact e.symm
        have h1 := hy1 x hm
        have h2 := hx1 y hn
        omega
      subst hxy
      rw [perm_unique hx2 hy2 (List.Perm.cons_inv h)]
theorem sorted_unique {xs ys out : List S27} (h1 : ys.Perm out) (h2 : ys.Pairwise (fun a b : S27 => ¬ (Lib.compareInt b.f0 a.f0) < 0)) (h3 : xs.Perm out) (h4 : risesB xs = true) : ys = xs :=
  perm_unique (rises_pairwise h4) (h2.imp (fun {a b} h => fun hlt => h (by unfold Lib.compareInt; rw [if_pos hlt]; decide))) (h1.trans h3.symm)
def ring_Halve.f (l : List S27) (s o : Int) : Option (List S27) :=
  if arcsOK l = false ∨ o < 0 ∨ 16 ≤ o then some []
  else if risesB (sortArcs (halfAll l s o l.length)) = true then (if (halfAll l s o l.length).length > 1024 then some [] else some (sortArcs (halfAll l s o l.length))) else none

set_option maxHeartbeats 8000000 in
set_option maxRecDepth 100000 in
theorem ring_Halve.calls (A0 : Option Addr) (c0 : Nat) (l0 : List (S27)) (a1 : Int) (a2 : Int) (r : List (S27)) (w : World) (hr0 : Kd.C k27 w A0 l0.length l0) (hc0 : l0.length ≤ c0) (h : ring_Halve.f l0 a1 a2 = some r) :
    Calls Tryd.prog 13 #[.slice A0 l0.length c0, .int .i64 a1, .int .i64 a2] w fun e w' => ∃ v0_ : Value, e = .returned (v0_) ∧ Kd.R k27 27 w' w.heap.size (fun _ => True) v0_ r ∧ Below w.heap.size w w' := by
  have HM := Aside0.mk (arcsMay.calls A0 c0 l0 w hr0 hc0)
  have HR0 := Aside0.mk hr0
  clear hr0
  unfold ring_Halve.f at h
  cases hM : arcsOK l0 with
  | false =>
    rw [if_pos (.inl hM)] at h
    obtain rfl := Option.some.inj h
    rw [hM] at HM
    clear h hM
    go_enter Tryd.func13, Tryd.ntmps13
    go_wp2_with (fail)
    refine HM.out.mono ?_
    rintro e w' ⟨rfl, hb⟩
    have HB := Aside0.mk hb
    clear hb
    go_wp2
    go_ret
    exact ⟨_, rfl, Kd.R_nil _ _ _ _ _, HB.out⟩
  | true =>
  have HOK := Aside0.mk hM
  rw [hM] at HM
  by_cases h1 : a2 < 0
  · rw [if_pos (.inr (.inl h1))] at h
    obtain rfl := Option.some.inj h
    have h1b : decide (a2 < 0) = true := decide_eq_true h1
    clear h hM
    go_enter Tryd.func13, Tryd.ntmps13
    go_wp2_with (fail)
    refine HM.out.mono ?_
    rintro e w' ⟨rfl, hb⟩
    have HB := Aside0.mk hb
    clear hb
    go_wp2
    go_ret
    exact ⟨_, rfl, Kd.R_nil _ _ _ _ _, HB.out⟩
  have h1b : decide (a2 < 0) = false := decide_eq_false h1
  by_cases h2 : a2 ≥ 16
  · rw [if_pos (.inr (.inr h2))] at h
    obtain rfl := Option.some.inj h
    have h2b : decide (a2 ≥ 16) = true := decide_eq_true h2
    clear h hM
    go_enter Tryd.func13, Tryd.ntmps13
    go_wp2_with (fail)
    refine HM.out.mono ?_
    rintro e w' ⟨rfl, hb⟩
    have HB := Aside0.mk hb
    clear hb
    go_wp2
    go_ret
    exact ⟨_, rfl, Kd.R_nil _ _ _ _ _, HB.out⟩
  have h2b : decide (a2 ≥ 16) = false := decide_eq_false h2
  rw [if_neg (by rw [hM]; simp; omega)] at h
  have H := Aside0.mk h
  have hlen := ((arcsOK_iff l0).1 hM).1
  have hlen1 := hlen.1
  have hlen2 := hlen.2
  clear h hM hlen
  go_enter Tryd.func13, Tryd.ntmps13
  go_wp2_with (fail)
  refine HM.out.mono ?_
  rintro e w' ⟨rfl, hb⟩
  have HB := Aside0.mk hb
  clear hb HM
  go_wp2_with (fail)
  refine (api_Arc_33.calls A0 c0 l0 l0 w' (Kd.C_below HR0.out HB.out) hc0 (by unfold api_Arc_33.f; rw [if_pos (by omega)])).mono ?_
  rintro e w1 ⟨v, rfl, hv, hb⟩
  have HV := Aside0.mk (Kd.R_lower hv HB.out.size)
  have HB1 := Aside0.mk (HB.out.trans (hb.mono HB.out.size))
  clear hv hb HB
  go_wp2_with (fail)
  go_loopw [7, 26] (fun v7 v26 w' => ∃ k : Nat, v26 = .int .i64 k ∧ k ≤ l0.length ∧ Aside0 (Kd.R k27 27 w' w.heap.size (fun _ => True) v7 (halfAll l0 a1 a2 k)) ∧ Aside0 (Below w.heap.size w w')) (fun _ v26 _ => l0.length - (intOf v26).toNat)
  case atStart => exact ⟨0, rfl, by omega, ⟨by simpa [halfAll] using HV.out⟩, HB1⟩
  case round =>
    clear HV HB1
    obtain ⟨k, rfl, hk, HV, HB⟩ := hrel
    by_cases hlt : k < l0.length
    · obtain ⟨ad, e, hx0, hx1⟩ := at_T27 (Kd.C_below HR0.out HB.out) (k : Int) (by omega) (by omega)
      cases e
      simp only [Int.toNat_natCast] at hx0 hx1
      have hrd : rd_T27 l0 (k : Int) = l0.getD k z27 := by simp only [rd_T27, Int.toNat_natCast]
      rw [hrd] at hx0 hx1
      clear hrd
      have HW := Aside0.mk (ring_width_f l0 k hlt (by omega))
      have HS := Aside0.mk (halfAll_succ l0 a1 a2 k)
      generalize hx : l0.getD k z27 = x at hx0 hx1
      have HX := Aside0.mk hx
      clear hx
      go_wp2_with (fail)
      refine (ring_width.calls _ c0 l0 _ _ _ (Kd.C_alloc (Kd.C_below HR0.out HB.out) _) hc0 HW.out).mono ?_
      rintro e w2 ⟨rfl, hd⟩
      have hb := hd.below
      have hsz : wr.heap.size < w2.heap.size := by have := hb.size; simp at this; omega
      have hc1 : w2.cell? ⟨wr.heap.size, 0, none⟩ = some (.int .u32 x.f0) := below_cell hb _ _ _ (by simp) (by simp [go_sem])
      have hc2 : w2.cell? ⟨wr.heap.size, 1, none⟩ = some (.int .i64 x.f1) := below_cell hb _ _ _ (by simp) (by simp [go_sem])
      have hb2 : Below wr.heap.size wr w2 := ((Below.refl _ _).alloc (Nat.le_refl _) _).trans (hb.mono (by simp))
      have HB2 := Aside0.mk (HB.out.trans (hb2.mono HB.out.size))
      have HV2 := Aside0.mk (Kd.R_below HV.out hb2)
      clear hd hb hb2 HV HB hx0 hx1
      by_cases hs : x.f1 = a1
      · have hsb : (x.f1 == a1) = true := by simpa using hs
        by_cases hw : 2 ≤ widthZ l0 k
        · have hwb : decide (widthZ l0 k ≥ 2) = true := decide_eq_true hw
          have HE : Aside0 (halfAll l0 a1 a2 (k + 1) = halfAll l0 a1 a2 k ++ [⟨(x.f0 + widthZ l0 k / 2) % 4294967296, a2⟩]) := ⟨by rw [HS.out]; unfold halfNew; rw [HX.out, if_pos ⟨hs, hw⟩]⟩
          have hw0 : 0 ≤ widthZ l0 k := by omega
          have hw1 : widthZ l0 k ≤ 4294967296 := widthZ_le l0 k
          clear HW
          generalize widthZ l0 k = q at hwb hw hw0 hw1 HE
          clear hs
          have HLn := Aside0.mk (halfAll_len l0 a1 a2 k)
          go_wp2_with ((with_reducible refine gate_builtin (b := .append) (xs := #[.tmp 42, .tmp 51]) rfl ?_); at_builtin; refine Kd.R_append k27 (w0 := w) w.heap.size rfl (.tmp 42) (.tmp 51) 22 27 (.agg #[(.int .u32 0), (.int .i64 0)]) 16 rfl Tryd.underlying22 info27 rfl (by decide) (by omega) u7 (halfAll l0 a1 a2 k) ⟨(x.f0 + q / 2) % 4294967296, a2⟩ [.int .u32 ((x.f0 + q / 2) % 4294967296), .int .i64 a2] (fun _ => True) (fun _ => False) rfl rfl ?aP (fun _ h => h.elim) (fun _ _ => trivial) ?aO ?aB ?aS ?aL ?_; (case aP => exact k27_mkM _ _ _ ⟨_, _⟩); (case aO => exact HV2.out); (case aB => exact HB2.out); (case aS => exact HB2.out.size); (case aL => have := HLn.out; omega); intro v3 w3 ho hb hg hat; have HV3 := Aside0.mk ho; have HB3 := Aside0.mk hb; clear ho hb hg hat)
          go_roundw
          case rel => exact ⟨k + 1, by go_num, by omega, ⟨by rw [HE.out]; exact HV3.out⟩, HB3⟩
          case measure => simp [intOf]; omega
        · have hwb : decide (widthZ l0 k ≥ 2) = false := decide_eq_false hw
          have HE : Aside0 (halfAll l0 a1 a2 (k + 1) = halfAll l0 a1 a2 k) := ⟨by rw [HS.out]; unfold halfNew; rw [HX.out, if_neg (fun h => hw h.2), List.append_nil]⟩
          clear HW
          generalize widthZ l0 k = q at hwb hw
          clear hs
          go_wp2
          go_roundw
          case rel => exact ⟨k + 1, by go_num, by omega, ⟨by rw [HE.out]; exact HV2.out⟩, HB2⟩
          case measure => simp [intOf]; omega
      · have hsb : (x.f1 == a1) = false := by simpa using hs
        have HE : Aside0 (halfAll l0 a1 a2 (k + 1) = halfAll l0 a1 a2 k) := ⟨by rw [HS.out]; unfold halfNew; rw [HX.out, if_neg (fun h => hs h.1), List.append_nil]⟩
        clear hs
        go_wp2
        go_roundw
        case rel => exact ⟨k + 1, by go_num, by omega, ⟨by rw [HE.out]; exact HV2.out⟩, HB2⟩
        case measure => simp [intOf]; omega
    · have e : k = l0.length := by omega
      subst e
      have HH := H.out
      have HL := Aside0.mk (halfAll_len l0 a1 a2 l0.length)
      have hne : halfAll l0 a1 a2 l0.length ≠ [] := by
        unfold halfAll
        intro h
        have := congrArg List.length h
        rw [List.length_append] at this
        simp only [List.length_nil] at this
        omega
      have HN := Aside0.mk hne
      have HP := Aside0.mk (sortArcs_perm (halfAll l0 a1 a2 l0.length))
      generalize halfAll l0 a1 a2 l0.length = out at HV HH HL HN HP
      clear H hne
      split at HH
      case isFalse => cases HH
      case isTrue hri =>
      have HRi := Aside0.mk hri
      have HR := Aside0.mk HH
      clear HH hri
      have eg35 : ∀ args w, (callFunc 35 args).run Tryd.prog w = .ok (.enter 35 args) w := enters_of Tryd.func35 (by kernel_rfl) rfl
      have HSort := Aside0.mk (sortFuncArc.calls 35 (fun x y => Lib.compareInt x.f0 y.f0) swo_from eg35 cmpHalve.calls w.heap.size (fun _ => True) u7 out wr HV.out HN.out (by have := HL.out; omega))
      clear eg35
      go_wp2_with (fail)
      refine HSort.out.mono ?_
      rintro e w2 ⟨rfl, ys, hperm, hsort, hR2, hb2, hk2⟩
      have HB2 := Aside0.mk (HB.out.trans hb2)
      have hys : ys = sortArcs out := sorted_unique hperm (by first | exact hsort | exact hsort.imp (fun h => Int.not_lt.2 h)) HP.out HRi.out
      subst hys
      have HR2 := Aside0.mk hR2
      obtain ⟨A, c, hv, hcl, _⟩ := Kd.R_reads hR2
      have hlen := HP.out.length_eq
      have HLen := Aside0.mk hlen
      subst hv
      clear hperm hsort hR2 hb2 hk2 hcl HSort hlen
      by_cases h3 : out.length > 1024
      · have h3b : decide ((sortArcs out).length > 1024) = true := decide_eq_true (by have := HLen.out; omega)
        have h3c : 1024 < (sortArcs out).length := by have := HLen.out; omega
        have h3d : decide (((sortArcs out).length : Int) > 1024) = true := decide_eq_true (by omega)
        have hr := HR.out
        rw [if_pos h3] at hr
        obtain rfl := Option.some.inj hr
        clear hr
        go_wp2
        go_ret
        exact ⟨_, rfl, Kd.R_nil _ _ _ _ _, HB2.out⟩
      · have h3b : decide ((sortArcs out).length > 1024) = false := decide_eq_false (by have := HLen.out; omega)
        have h3c : (sortArcs out).length ≤ 1024 := by have := HLen.out; omega
        have h3d : decide (((sortArcs out).length : Int) > 1024) = false := decide_eq_false (by omega)
        have hr := HR.out
        rw [if_neg h3] at hr
        obtain rfl := Option.some.inj hr
        clear hr
        go_wp2
        go_ret
        exact ⟨_, rfl, HR2.out, HB2.out⟩
end Go.Proofs.YtpnoifikpmfpdaaDoor.PAll
