/-
  The function 'Build' of package ring: the contract.
-/
import Derived.Test.YtpnoifikpmfpdaaDoorEcompact
import Derived.Test.YtpnoifikpmfpdaaDoorEmark
import Derived.Test.YtpnoifikpmfpdaaDoorEhalve
namespace Go.Proofs.YtpnoifikpmfpdaaDoor.PAll
open Go.RowKit Go.Proofs.YtpnoifikpmfpdaaDoorW.PrintWords Go.Proofs.YtpnoifikpmfpdaaDoorW.PrintLast Go.Proofs.YtpnoifikpmfpdaaDoorW.PrintMore
set_option linter.unusedVariables false
set_option linter.unusedSimpArgs false

/-- A shard's marks, so many. -/
def marksOf (s n : Nat) : List S27 := (List.range n).map fun i => ⟨markZ s i, s⟩
theorem marksOf_succ (s n : Nat) : marksOf s (n + 1) = marksOf s n ++ [⟨markZ s n, s⟩] := by simp [marksOf, List.range_succ]
/-- The marks of the first shards. -/
def marksAll (w : List Int) (n : Nat) : List S27 := (List.range n).flatMap fun s => marksOf s (w.getD s 0 * 8).toNat
theorem marksAll_succ (w : List Int) (n : Nat) : marksAll w (n + 1) = marksAll w n ++ marksOf n (w.getD n 0 * 8).toNat := by simp [marksAll, List.range_succ]
/-- Whether a ring's weights may be. -/
def weightOK (x : Int) : Bool := decide (0 ≤ x ∧ x ≤ 4)
theorem marksAll_len (w : List Int) (n : Nat) (h : ∀ i, i < n → weightOK (w.getD i 0) = true) : (marksAll w n).length ≤ 32 * n := by
  induction n with
  | zero => simp [marksAll]
  | succ n ih =>
    rw [marksAll_succ, List.length_append]
    have h1 := ih (fun i hi => h i (by omega))
    have h2 := h n (by omega)
    simp only [weightOK, decide_eq_true_eq] at h2
    have : (marksOf n (w.getD n 0 * 8).toNat).length ≤ 32 := by simp only [marksOf, List.length_map, List.length_range]; omega
    omega
/-- By points, and by shards. -/
def insB (a : S27) : List S27 → List S27
  | [] => [a]
  | b :: l => if a.f0 < b.f0 ∨ a.f0 = b.f0 ∧ a.f1 ≤ b.f1 then a :: b :: l else b :: insB a l
def sortB : List S27 → List S27
  | [] => []
  | a :: l => insB a (sortB l)
theorem insB_perm (a : S27) : ∀ l, (insB a l).Perm (a :: l)
  | [] => List.Perm.refl _
  | b :: l => by
    unfold insB
    split
    · exact List.Perm.refl _
    · exact ((insB_perm a l).cons b).trans (List.Perm.swap a b l)
theorem sortB_perm : ∀ l, (sortB l).Perm l
  | [] => List.Perm.refl _
  | a :: l => (insB_perm a _).trans ((sortB_perm l).cons a)
/-- Not behind. -/
def leB (a b : S27) : Prop := a.f0 < b.f0 ∨ a.f0 = b.f0 ∧ a.f1 ≤ b.f1
theorem leB_trans {a b c : S27} (h1 : leB a b) (h2 : leB b c) : leB a c := by unfold leB at *; omega
theorem leB_total (a b : S27) : leB a b ∨ leB b a := by unfold leB; omega
theorem leB_eq {a b : S27} (h1 : leB a b) (h2 : leB b a) : a = b := by
  obtain ⟨a0, a1⟩ := a
  obtain ⟨b0, b1⟩ := b
  unfold leB at *
  simp only at h1 h2
  have h3 : a0 = b0 := by omega
  have h4 : a1 = b1 := by omega
  rw [h3, h4]
theorem insB_sorted (a : S27) : ∀ l : List S27, l.Pairwise leB → (insB a l).Pairwise leB
  | [], _ => by simp [insB]
  | b :: l, h => by
    obtain ⟨h1, h2⟩ := List.pairwise_cons.1 h
    unfold insB
    split
    · rename_i hle
      refine List.Pairwise.cons (fun c hc => ?_) h
      rcases List.mem_cons.1 hc with rfl | hc
      · exact hle
      · exact leB_trans hle (h1 c hc)
    · rename_i hle
      have hba : leB b a := by
        rcases leB_total a b with h | h
        · exact absurd h hle
        · exact h
      refine List.Pairwise.cons (fun c hc => ?_) (insB_sorted a l h2)
      rcases List.mem_cons.1 ((insB_perm a l).mem_iff.1 hc) with rfl | hc
      · exact hba
      · exact h1 c hc
theorem sortB_sorted : ∀ l, (sortB l).Pairwise leB
  | [] => List.Pairwise.nil
  | a :: l => insB_sorted a _ (sortB_sorted l)
theorem uniqueB : ∀ {xs ys : List S27}, xs.Pairwise leB → ys.Pairwise leB → ys.Perm xs → ys = xs
  | [], ys, _, _, h => List.Perm.eq_nil h
  | x :: xs, ys, hx, hy, h => by
    cases ys with
    | nil => exact absurd h.symm.eq_nil (by simp)
    | cons y ys =>
      obtain ⟨hx1, hx2⟩ := List.pairwise_cons.1 hx
      obtain ⟨hy1, hy2⟩ := List.pairwise_cons.1 hy
      have hxy : x = y := by
        have hm : x ∈ y :: ys := h.mem_iff.2 List.mem_cons_self
        have hn : y ∈ x :: xs := h.mem_iff.1 List.mem_cons_self
        rcases List.mem_cons.1 hm with e | hm
        · exact e
        rcases List.mem_cons.1 hn with e | hn
        · exact e.symm
        exact leB_eq (hx1 y hn) (hy1 x hm)
      subst hxy
      rw [uniqueB hx2 hy2 (List.Perm.cons_inv h)]
theorem sorted_B {ys out : List S27} (h1 : ys.Perm out) (h2 : ys.Pairwise (fun a b : S27 => ¬ (orI (Lib.compareInt b.f0 a.f0) (Lib.compareInt b.f1 a.f1)) < 0)) : ys = sortB out :=
  uniqueB (sortB_sorted out) (h2.imp (fun {a b} h => by
    have := lt_both b a
    unfold ltOf at this
    rw [decide_eq_false h] at this
    have := of_decide_eq_false this.symm
    unfold leB
    omega)) (h1.trans (sortB_perm out).symm)

def ring_Build.f (w : List Int) : Option (List S27 × Int) :=
  if w.length < 1 ∨ 16 < w.length ∨ w.any (fun x => x != 0) = false ∨ w.all weightOK = false then some ([], 1)
  else some (dedup (sortB (marksAll w w.length)), 0)

set_option maxHeartbeats 8000000 in
set_option maxRecDepth 100000 in
theorem someWeight.calls (x : Int) (W : World) : Calls Tryd.prog 51 #[.int .i64 x] W fun e W' => e = .returned (.bool (x != 0)) ∧ Below W.heap.size W W' := by
  go_enter Tryd.func51, Tryd.ntmps51
  go_wp2
  go_ret
  exact ⟨rfl, Below.refl _ _⟩

theorem all_weights {w : List Int} {s : Nat} (hs : s < w.length) (h : weightOK (w.getD s 0) = false) : w.all weightOK = false := by
  rw [Bool.eq_false_iff]
  intro ha
  rw [List.all_eq_true] at ha
  rw [ha _ (mem_getD 0 hs)] at h
  cases h
theorem all_weights_of {w : List Int} (h : ∀ i, i < w.length → weightOK (w.getD i 0) = true) : w.all weightOK = true := by
  rw [List.all_eq_true]
  intro x hx
  obtain ⟨i, hi, rfl⟩ := List.getElem_of_mem hx
  have := h i hi
  rwa [List.getD_eq_getElem?_getD, List.getElem?_eq_getElem hi] at this
theorem marks_some {w : List Int} (h : ∀ i, i < w.length → weightOK (w.getD i 0) = true) (ha : w.any (fun x => x != 0) = true) : marksAll w w.length ≠ [] := by
  rw [List.any_eq_true] at ha
  obtain ⟨x, hx, hne⟩ := ha
  obtain ⟨i, hi, rfl⟩ := List.getElem_of_mem hx
  have h1 := h i hi
  rw [List.getD_eq_getElem?_getD, List.getElem?_eq_getElem hi] at h1
  simp only [Option.getD_some, weightOK, decide_eq_true_eq] at h1
  have hne' : w[i] ≠ 0 := by simpa using hne
  have hm : (⟨markZ i 0, i⟩ : S27) ∈ marksAll w w.length := by
    unfold marksAll
    rw [List.mem_flatMap]
    refine ⟨i, List.mem_range.2 hi, ?_⟩
    unfold marksOf
    rw [List.mem_map]
    refine ⟨0, List.mem_range.2 ?_, rfl⟩
    rw [List.getD_eq_getElem?_getD, List.getElem?_eq_getElem hi]
    simp only [Option.getD_some]
    omega
  intro h
  rw [h] at hm
  cases hm

set_option maxHeartbeats 8000000 in
set_option maxRecDepth 100000 in
theorem ring_Build.calls (A0 : Option Addr) (c0 : Nat) (l0 : List Int) (r1 : List S27) (r2 : Int) (w : World) (hr0 : Kd.C (Kd.int .i64) w A0 l0.length l0) (hc0 : l0.length ≤ c0) (h : ring_Build.f l0 = some (r1, r2)) :
    Calls Tryd.prog 30 #[.slice A0 l0.length c0] w fun e w' => ∃ v0_ : Value, e = .returned (.tuple #[v0_, .int .i64 r2]) ∧ Kd.R k27 27 w' w.heap.size (fun _ => True) v0_ r1 ∧ Below w.heap.size w w' := by
  unfold ring_Build.f at h
  by_cases h1 : l0.length < 1
  · rw [if_pos (.inl h1)] at h
    obtain ⟨rfl, rfl⟩ := Prod.mk.inj (Option.some.inj h)
    have h1b : decide (l0.length < 1) = true := decide_eq_true h1
    have h1c : decide ((l0.length : Int) < 1) = true := decide_eq_true (by omega)
    clear h hr0
    go_enter Tryd.func30, Tryd.ntmps30
    go_wp2
    go_ret2
    exact ⟨_, rfl, Kd.R_nil _ _ _ _ _, Below.refl _ _⟩
  have h1b : decide (l0.length < 1) = false := decide_eq_false h1
  have h1c : decide ((l0.length : Int) < 1) = false := decide_eq_false (by omega)
  by_cases h2 : 16 < l0.length
  · rw [if_pos (.inr (.inl h2))] at h
    obtain ⟨rfl, rfl⟩ := Prod.mk.inj (Option.some.inj h)
    have h2b : decide (l0.length > 16) = true := decide_eq_true h2
    have h2c : decide ((l0.length : Int) > 16) = true := decide_eq_true (by omega)
    clear h hr0
    go_enter Tryd.func30, Tryd.ntmps30
    go_wp2
    go_ret2
    exact ⟨_, rfl, Kd.R_nil _ _ _ _ _, Below.refl _ _⟩
  have h2b : decide (l0.length > 16) = false := decide_eq_false h2
  have h2c : decide ((l0.length : Int) > 16) = false := decide_eq_false (by omega)
  have eg51 : ∀ args w, (callFunc 51 args).run Tryd.prog w = .ok (.enter 51 args) w := enters_of Tryd.func51 (by kernel_rfl) rfl
  have HA := Aside0.mk (containsFuncInt.calls A0 c0 l0 51 #[] (fun x => x != 0) w w eg51 (Below.refl _ _) (fun x W _ _ => someWeight.calls x W) hr0 hc0)
  have HR0 := Aside0.mk hr0
  clear hr0 eg51
  cases h3 : l0.any (fun x => x != 0) with
  | false =>
    rw [if_pos (.inr (.inr (.inl h3)))] at h
    obtain ⟨rfl, rfl⟩ := Prod.mk.inj (Option.some.inj h)
    rw [h3] at HA
    clear h h3
    go_enter Tryd.func30, Tryd.ntmps30
    go_wp2_with (fail)
    refine HA.out.mono ?_
    rintro e w1 ⟨rfl, hb⟩
    have HB := Aside0.mk hb
    clear hb
    go_wp2
    go_ret2
    exact ⟨_, rfl, Kd.R_nil _ _ _ _ _, HB.out⟩
  | true =>
  rw [h3] at HA
  have H3 := Aside0.mk h3
  have H := Aside0.mk h
  clear h h3
  go_enter Tryd.func30, Tryd.ntmps30
  go_wp2_with (fail)
  refine HA.out.mono ?_
  rintro e w1 ⟨rfl, hb⟩
  have HB := Aside0.mk hb
  clear hb HA
  go_wp2_with (fail)
  go_loopw [4, 23] (fun v4 v23 w' => ∃ s : Nat, v23 = .int .i64 s ∧ s ≤ l0.length ∧ Aside0 (∀ i, i < s → weightOK (l0.getD i 0) = true) ∧ Aside0 (Kd.R k27 27 w' w.heap.size (fun _ => True) v4 (marksAll l0 s)) ∧ Aside0 (Below w.heap.size w w')) (fun _ v23 _ => l0.length - (intOf v23).toNat)
  case atStart => exact ⟨0, rfl, by omega, ⟨fun i hi => by omega⟩, ⟨Kd.R_nil _ _ _ _ _⟩, HB⟩
  case round =>
    obtain ⟨s, rfl, hs, HW, HV, HB1⟩ := hrel
    clear HB
    obtain ⟨wo, rfl⟩ : ∃ wo : World, wo = wr := ⟨_, rfl⟩
    by_cases hlt : s < l0.length
    · obtain ⟨ad, e, hx⟩ := Kd.at_int (Kd.C_below HR0.out HB1.out) (s : Int) (by omega) (by omega)
      cases e
      simp only [Int.toNat_natCast] at hx
      have hrd : rd l0 (s : Int) = l0.getD s 0 := by simp only [rd, Int.toNat_natCast]
      rw [hrd] at hx
      clear hrd
      have HM := Aside0.mk (marksAll_succ l0 s)
      have HLn := Aside0.mk (marksAll_len l0 s HW.out)
      have HF := Aside0.mk (fun h => all_weights hlt h)
      have HW2 : Aside0 (weightOK (l0.getD s 0) = true → ∀ i, i < s + 1 → weightOK (l0.getD i 0) = true) := ⟨fun h i hi => by
        by_cases e : i = s
        · rw [e]; exact h
        · exact HW.out i (by omega)⟩
      generalize l0.getD s 0 = x at hx HM HF HW2
      by_cases h4 : x < 0
      · have h4b : decide (x < 0) = true := decide_eq_true h4
        have hr := H.out
        rw [if_pos (.inr (.inr (.inr (HF.out (decide_eq_false (by omega))))))] at hr
        obtain ⟨rfl, rfl⟩ := Prod.mk.inj (Option.some.inj hr)
        clear hr H
        go_wp2
        go_ret2
        exact ⟨_, rfl, Kd.R_nil _ _ _ _ _, HB1.out⟩
      have h4b : decide (x < 0) = false := decide_eq_false h4
      by_cases h5 : x > 4
      · have h5b : decide (x > 4) = true := decide_eq_true h5
        have hr := H.out
        rw [if_pos (.inr (.inr (.inr (HF.out (decide_eq_false (by omega))))))] at hr
        obtain ⟨rfl, rfl⟩ := Prod.mk.inj (Option.some.inj hr)
        clear hr H
        go_wp2
        go_ret2
        exact ⟨_, rfl, Kd.R_nil _ _ _ _ _, HB1.out⟩
      have h5b : decide (x > 4) = false := decide_eq_false h5
      have HW3 := Aside0.mk (HW2.out (decide_eq_true (by omega)))
      obtain ⟨x, rfl⟩ := Int.eq_ofNat_of_zero_le (show 0 ≤ x by omega)
      have hx4 : x ≤ 4 := by omega
      have hs16 : s < 16 := by omega
      clear HF HW2 h4 h5
      have hx8 : ((x : Int) * 8).toNat = x * 8 := by omega
      rw [hx8] at HM
      clear hx8
      go_wp2_with (fail)
      go_loopw [4, 36] (fun v4 v36 w' => ∃ i : Nat, v36 = .int .i64 i ∧ i ≤ x * 8 ∧ Aside0 (Kd.R k27 27 w' w.heap.size (fun _ => True) v4 (marksAll l0 s ++ marksOf s i)) ∧ Aside0 (Below w.heap.size w w')) (fun _ v36 _ => x * 8 - (intOf v36).toNat)
      case atStart => exact ⟨0, rfl, by omega, ⟨by simpa [marksOf] using HV.out⟩, HB1⟩
      case round =>
        clear HV HB1 hx
        obtain ⟨i, rfl, hi, HV, HB1⟩ := hrel
        obtain ⟨wi, rfl⟩ : ∃ wi : World, wi = wr := ⟨_, rfl⟩
        by_cases hil : i < x * 8
        · have HMs := Aside0.mk (marksOf_succ s i)
          have hml : (marksOf s i).length = i := by simp [marksOf]
          have hln := HLn.out
          have HLa : Aside0 ((marksAll l0 s ++ marksOf s i).length + 1 ≤ 1000) := ⟨by rw [List.length_append, hml]; omega⟩
          clear hml hln
          go_wp2_with (fail)
          refine (point_Mark.calls s i (by omega) (by omega) _).mono ?_
          rintro e w2 ⟨rfl, hd⟩
          have hb2 := hd.below
          have HB2 := Aside0.mk (HB1.out.trans (hb2.mono HB1.out.size))
          have HV2 := Aside0.mk (Kd.R_below HV.out hb2)
          clear hd hb2 HV HB1
          go_wp2_with ((with_reducible refine gate_builtin (b := .append) (xs := #[.tmp 39, .tmp 45]) rfl ?_); at_builtin; refine Kd.R_append k27 (w0 := w) w.heap.size rfl (.tmp 39) (.tmp 45) 22 27 (.agg #[(.int .u32 0), (.int .i64 0)]) 16 rfl Tryd.underlying22 info27 rfl (by decide) (by omega) u4 (marksAll l0 s ++ marksOf s i) ⟨markZ s i, s⟩ [.int .u32 (markZ s i), .int .i64 s] (fun _ => True) (fun _ => False) rfl rfl ?aP (fun _ h => h.elim) (fun _ _ => trivial) ?aO ?aB ?aS ?aL ?_; (case aP => exact k27_mkM _ _ _ ⟨_, _⟩); (case aO => exact HV2.out); (case aB => exact HB2.out); (case aS => exact HB2.out.size); (case aL => have := HLa.out; omega); intro v3 w3 ho hb hg hat; have HV3 := Aside0.mk ho; have HB3 := Aside0.mk hb; clear ho hb hg hat)
          go_roundw
          case rel => exact ⟨i + 1, by go_num, by omega, ⟨by rw [HMs.out, ← List.append_assoc]; exact HV3.out⟩, HB3⟩
          case measure => simp [intOf]; omega
        · have e : i = x * 8 := by omega
          subst e
          go_wp2
          go_roundw
          case rel => exact ⟨s + 1, by go_num, by omega, HW3, ⟨by rw [HM.out]; exact HV.out⟩, HB1⟩
          case measure => simp [intOf]; omega
    · have e : s = l0.length := by omega
      subst e
      have hr := H.out
      rw [if_neg (by
        rintro (h | h | h | h)
        · omega
        · omega
        · rw [H3.out] at h; cases h
        · rw [all_weights_of HW.out] at h; cases h)] at hr
      obtain ⟨rfl, rfl⟩ := Prod.mk.inj (Option.some.inj hr)
      have HN := Aside0.mk (marks_some HW.out H3.out)
      have HL := Aside0.mk (marksAll_len l0 l0.length HW.out)
      clear hr H
      generalize hout : marksAll l0 l0.length = out at HV HN HL
      have HOut := Aside0.mk hout
      clear hout
      have eg53 : ∀ args w, (callFunc 53 args).run Tryd.prog w = .ok (.enter 53 args) w := enters_of Tryd.func53 (by kernel_rfl) rfl
      have HSort := Aside0.mk (sortFuncArc.calls 53 (fun x y => orI (Lib.compareInt x.f0 y.f0) (Lib.compareInt x.f1 y.f1)) swo_both eg53 cmpBuild.calls w.heap.size (fun _ => True) u4 out wo HV.out HN.out (by have := HL.out; omega))
      clear eg53
      go_wp2_with (fail)
      refine HSort.out.mono ?_
      rintro e w2 ⟨rfl, ys, hperm, hsort, hR2, hb2, hk2⟩
      have HB2 := Aside0.mk (HB1.out.trans hb2)
      have hys : ys = sortB out := sorted_B hperm (by first | exact hsort | exact hsort.imp (fun h => Int.not_lt.2 h))
      subst hys
      have hlen := (sortB_perm out).length_eq
      have HComp := Aside0.mk (compactArc.calls w.heap.size (fun _ => True) u4 (sortB out) w2 hR2 (by have := HL.out; omega))
      clear hperm hsort hR2 hb2 hk2 HSort hlen
      go_wp2_with (fail)
      refine HComp.out.mono ?_
      rintro e w3 ⟨v', rfl, hR3, hb3⟩
      have HR3 := Aside0.mk hR3
      have HB3 := Aside0.mk (HB2.out.trans hb3)
      clear hR3 hb3 HComp
      go_wp2
      go_ret2
      refine ⟨_, rfl, ?_, HB3.out⟩
      rw [HOut.out]
      exact HR3.out
end Go.Proofs.YtpnoifikpmfpdaaDoor.PAll
