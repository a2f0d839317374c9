/-
  slices.IndexFunc and slices.ContainsFunc at arcs and at numbers: the contracts, for a function value whose own contract is known.
-/
import Derived.Test.YtpnoifikpmfpdaaDoorPAllx0
namespace Go.Proofs.YtpnoifikpmfpdaaDoor.PAll
open Go.RowKit Go.Proofs.YtpnoifikpmfpdaaDoorW.PrintWords Go.Proofs.YtpnoifikpmfpdaaDoorW.PrintLast Go.Proofs.YtpnoifikpmfpdaaDoorW.PrintMore
set_option linter.unusedVariables false
set_option linter.unusedSimpArgs false

/-- What a function value answers of an arc, in all worlds behind w0. -/
def ClosArc (l0 : List S27) (w0 : World) (g : Nat) (cb : Array Value) (f : S27 → Bool) : Prop :=
  ∀ (x : S27) (W : World), x ∈ l0 → Below w0.heap.size w0 W → Calls Tryd.prog g (#[.agg #[.int .u32 x.f0, .int .i64 x.f1]] ++ cb) W fun e W' => e = .returned (.bool (f x)) ∧ Below W.heap.size W W'

theorem mem_getD {α : Type} {l : List α} {k : Nat} (z : α) (h : k < l.length) : l.getD k z ∈ l := by
  rw [List.getD_eq_getElem?_getD, List.getElem?_eq_getElem h]; exact List.getElem_mem h

/-- The first place, or -1. -/
def idxF {α : Type} (f : α → Bool) (l : List α) : Int := match l.findIdx? f with | some i => (i : Int) | none => -1

theorem idxF_at {α : Type} (z : α) (f : α → Bool) : ∀ (l : List α) (k : Nat), k < l.length → (∀ i, i < k → f (l.getD i z) = false) → f (l.getD k z) = true → idxF f l = (k : Int)
  | [], k, h, _, _ => by simp at h
  | a :: l, 0, _, _, h => by simp at h; simp [idxF, List.findIdx?_cons, h]
  | a :: l, k + 1, h, hn, hk => by
    have h0 := hn 0 (by omega)
    have := idxF_at z f l k (by simpa using h) (fun i hi => by have := hn (i + 1) (by omega); simpa using this) (by simpa using hk)
    simp at h0
    simp [idxF, List.findIdx?_cons, h0] at this ⊢
    split at this <;> simp_all <;> omega
theorem idxF_none {α : Type} (z : α) (f : α → Bool) (l : List α) (hn : ∀ i, i < l.length → f (l.getD i z) = false) : idxF f l = -1 := by
  have : l.findIdx? f = none := by
    rw [List.findIdx?_eq_none_iff]
    intro x hx
    obtain ⟨i, hi, rfl⟩ := List.getElem_of_mem hx
    have := hn i hi
    simpa [List.getD_eq_getElem?_getD, List.getElem?_eq_getElem hi] using this
  simp [idxF, this]

set_option maxHeartbeats 8000000 in
set_option maxRecDepth 100000 in
theorem indexFuncArc.calls (A0 : Option Addr) (c0 : Nat) (l0 : List (S27)) (g : Nat) (cb : Array Value) (f : S27 → Bool) (w0 w : World) (eg : ∀ args w, (callFunc g args).run Tryd.prog w = .ok (.enter g args) w)
    (hb : Below w0.heap.size w0 w) (hcl : ClosArc l0 w0 g cb f) (hr0 : Kd.C k27 w A0 l0.length l0) (hc0 : l0.length ≤ c0) :
    Calls Tryd.prog 83 #[.slice A0 l0.length c0, .func (.func g) #[] cb] w fun e w' => e = .returned (.int .i64 (idxF f l0)) ∧ Below w.heap.size w w' := by
  have HR0 := Aside0.mk hr0
  have HCL := Aside0.mk hcl
  have HB0 := Aside0.mk hb
  have hle : l0.length ≤ 9223372036854775807 := hr0.2.1
  clear hr0 hcl hb
  go_enter Tryd.func83, Tryd.ntmps83
  go_wp2
  go_loopw [8] (fun v8 w' => ∃ k : Nat, v8 = .int .i64 k ∧ k ≤ l0.length ∧ Aside0 (∀ i, i < k → f (l0.getD i z27) = false) ∧ Aside0 (Below w.heap.size w w')) (fun v8 _ => l0.length - (intOf v8).toNat)
  case atStart => exact ⟨0, rfl, by omega, ⟨fun i hi => by omega⟩, ⟨Below.refl _ _⟩⟩
  case round =>
    obtain ⟨k, rfl, hk, HN, HB⟩ := hrel
    by_cases hlt : k < l0.length
    · obtain ⟨ad, e, hx0, hx1⟩ := at_T27 (Kd.C_below HR0.out HB.out) (k : Int) (by omega) (by omega)
      cases e
      simp only [Int.toNat_natCast] at hx0 hx1
      have hx := HCL.out (rd_T27 l0 k) wr (by simp only [rd_T27, Int.toNat_natCast]; exact mem_getD _ hlt) (HB0.out.trans (HB.out.mono HB0.out.size))
      have hrd : rd_T27 l0 k = l0.getD k z27 := by simp [rd_T27]
      rw [hrd] at hx hx0 hx1
      cases hf : f (l0.getD k z27) with
      | false =>
        rw [hf] at hx
        have HN2 : Aside0 (∀ i, i < k + 1 → f (l0.getD i z27) = false) := ⟨fun i hi => by
          by_cases e : i = k
          · rw [e]; exact hf
          · exact HN.out i (by omega)⟩
        generalize l0.getD k z27 = x at hx hx0 hx1
        clear hf hrd
        have HX := Aside0.mk hx
        clear hx
        go_wp2_with (fail)
        refine HX.out.mono ?_
        rintro e w' ⟨rfl, hb'⟩
        have HB' := Aside0.mk (HB.out.trans (hb'.mono HB.out.size))
        clear hb'
        go_wp2
        go_roundw
        case rel => exact ⟨k + 1, by go_num, by omega, HN2, HB'⟩
        case measure => simp [intOf]; omega
      | true =>
        rw [hf] at hx
        have hfin : idxF f l0 = (k : Int) := idxF_at z27 f l0 k hlt (HN.out) hf
        generalize l0.getD k z27 = x at hx hx0 hx1
        clear hf hrd
        have HX := Aside0.mk hx
        have HF := Aside0.mk hfin
        clear hx hfin
        go_wp2_with (fail)
        refine HX.out.mono ?_
        rintro e w' ⟨rfl, hb'⟩
        have HB' := Aside0.mk (HB.out.trans (hb'.mono HB.out.size))
        clear hb'
        go_wp2
        go_ret
        rw [HF.out]
        exact ⟨rfl, HB'.out⟩
    · have hfin : idxF f l0 = -1 := idxF_none z27 f l0 (fun i hi => HN.out i (by omega))
      have HF := Aside0.mk hfin
      clear hfin
      go_wp2
      go_ret
      rw [HF.out]
      exact ⟨rfl, HB.out⟩

theorem idxF_any {α : Type} (f : α → Bool) (l : List α) : decide (idxF f l ≥ 0) = l.any f := by
  unfold idxF
  cases h : l.findIdx? f with
  | none =>
    rw [List.findIdx?_eq_none_iff] at h
    have : l.any f = false := by simp; exact fun x hx => h x hx
    rw [this]; rfl
  | some i =>
    have : l.any f = true := by
      rw [List.findIdx?_eq_some_iff_getElem] at h
      obtain ⟨hi, ht, _⟩ := h
      simp; exact ⟨_, List.getElem_mem hi, ht⟩
    rw [this]; simp

set_option maxHeartbeats 8000000 in
set_option maxRecDepth 100000 in
theorem containsFuncArc.calls (A0 : Option Addr) (c0 : Nat) (l0 : List (S27)) (g : Nat) (cb : Array Value) (f : S27 → Bool) (w0 w : World) (eg : ∀ args w, (callFunc g args).run Tryd.prog w = .ok (.enter g args) w)
    (hb : Below w0.heap.size w0 w) (hcl : ClosArc l0 w0 g cb f) (hr0 : Kd.C k27 w A0 l0.length l0) (hc0 : l0.length ≤ c0) :
    Calls Tryd.prog 65 #[.slice A0 l0.length c0, .func (.func g) #[] cb] w fun e w' => e = .returned (.bool (l0.any f)) ∧ Below w.heap.size w w' := by
  have HI := Aside0.mk (indexFuncArc.calls A0 c0 l0 g cb f w0 w eg hb hcl hr0 hc0)
  have HE := Aside0.mk (idxF_any f l0)
  clear hr0 hcl hb eg hc0
  generalize l0.any f = r at HE ⊢
  generalize idxF f l0 = q at HE HI
  go_enter Tryd.func65, Tryd.ntmps65
  go_wp2_with (fail)
  refine HI.out.mono ?_
  rintro e w' ⟨rfl, hb'⟩
  have HB' := Aside0.mk hb'
  clear hb'
  have hq := HE.out
  clear HE
  go_wp2
  go_ret
  exact ⟨rfl, HB'.out⟩

/-- What a function value answers of a number. -/
def ClosInt (l0 : List Int) (w0 : World) (g : Nat) (cb : Array Value) (f : Int → Bool) : Prop :=
  ∀ (x : Int) (W : World), x ∈ l0 → Below w0.heap.size w0 W → Calls Tryd.prog g (#[.int .i64 x] ++ cb) W fun e W' => e = .returned (.bool (f x)) ∧ Below W.heap.size W W'

set_option maxHeartbeats 8000000 in
set_option maxRecDepth 100000 in
theorem indexFuncInt.calls (A0 : Option Addr) (c0 : Nat) (l0 : List (Int)) (g : Nat) (cb : Array Value) (f : Int → Bool) (w0 w : World) (eg : ∀ args w, (callFunc g args).run Tryd.prog w = .ok (.enter g args) w)
    (hb : Below w0.heap.size w0 w) (hcl : ClosInt l0 w0 g cb f) (hr0 : Kd.C (Kd.int .i64) w A0 l0.length l0) (hc0 : l0.length ≤ c0) :
    Calls Tryd.prog 69 #[.slice A0 l0.length c0, .func (.func g) #[] cb] w fun e w' => e = .returned (.int .i64 (idxF f l0)) ∧ Below w.heap.size w w' := by
  have HR0 := Aside0.mk hr0
  have HCL := Aside0.mk hcl
  have HB0 := Aside0.mk hb
  have hle : l0.length ≤ 9223372036854775807 := hr0.2.1
  clear hr0 hcl hb
  go_enter Tryd.func69, Tryd.ntmps69
  go_wp2
  go_loopw [8] (fun v8 w' => ∃ k : Nat, v8 = .int .i64 k ∧ k ≤ l0.length ∧ Aside0 (∀ i, i < k → f (l0.getD i (0 : Int)) = false) ∧ Aside0 (Below w.heap.size w w')) (fun v8 _ => l0.length - (intOf v8).toNat)
  case atStart => exact ⟨0, rfl, by omega, ⟨fun i hi => by omega⟩, ⟨Below.refl _ _⟩⟩
  case round =>
    obtain ⟨k, rfl, hk, HN, HB⟩ := hrel
    by_cases hlt : k < l0.length
    · obtain ⟨ad, e, hx0⟩ := Kd.at_int (Kd.C_below HR0.out HB.out) (k : Int) (by omega) (by omega)
      cases e
      simp only [Int.toNat_natCast] at hx0
      have hx := HCL.out (rd l0 k) wr (by simp only [rd, Int.toNat_natCast]; exact mem_getD _ hlt) (HB0.out.trans (HB.out.mono HB0.out.size))
      have hrd : rd l0 k = l0.getD k (0 : Int) := by simp [rd]
      rw [hrd] at hx hx0
      cases hf : f (l0.getD k (0 : Int)) with
      | false =>
        rw [hf] at hx
        have HN2 : Aside0 (∀ i, i < k + 1 → f (l0.getD i (0 : Int)) = false) := ⟨fun i hi => by
          by_cases e : i = k
          · rw [e]; exact hf
          · exact HN.out i (by omega)⟩
        generalize l0.getD k (0 : Int) = x at hx hx0
        clear hf hrd
        have HX := Aside0.mk hx
        clear hx
        go_wp2_with (fail)
        refine HX.out.mono ?_
        rintro e w' ⟨rfl, hb'⟩
        have HB' := Aside0.mk (HB.out.trans (hb'.mono HB.out.size))
        clear hb'
        go_wp2
        go_roundw
        case rel => exact ⟨k + 1, by go_num, by omega, HN2, HB'⟩
        case measure => simp [intOf]; omega
      | true =>
        rw [hf] at hx
        have hfin : idxF f l0 = (k : Int) := idxF_at (0 : Int) f l0 k hlt (HN.out) hf
        generalize l0.getD k (0 : Int) = x at hx hx0
        clear hf hrd
        have HX := Aside0.mk hx
        have HF := Aside0.mk hfin
        clear hx hfin
        go_wp2_with (fail)
        refine HX.out.mono ?_
        rintro e w' ⟨rfl, hb'⟩
        have HB' := Aside0.mk (HB.out.trans (hb'.mono HB.out.size))
        clear hb'
        go_wp2
        go_ret
        rw [HF.out]
        exact ⟨rfl, HB'.out⟩
    · have hfin : idxF f l0 = -1 := idxF_none (0 : Int) f l0 (fun i hi => HN.out i (by omega))
      have HF := Aside0.mk hfin
      clear hfin
      go_wp2
      go_ret
      rw [HF.out]
      exact ⟨rfl, HB.out⟩

set_option maxHeartbeats 8000000 in
set_option maxRecDepth 100000 in
theorem containsFuncInt.calls (A0 : Option Addr) (c0 : Nat) (l0 : List (Int)) (g : Nat) (cb : Array Value) (f : Int → Bool) (w0 w : World) (eg : ∀ args w, (callFunc g args).run Tryd.prog w = .ok (.enter g args) w)
    (hb : Below w0.heap.size w0 w) (hcl : ClosInt l0 w0 g cb f) (hr0 : Kd.C (Kd.int .i64) w A0 l0.length l0) (hc0 : l0.length ≤ c0) :
    Calls Tryd.prog 50 #[.slice A0 l0.length c0, .func (.func g) #[] cb] w fun e w' => e = .returned (.bool (l0.any f)) ∧ Below w.heap.size w w' := by
  have HI := Aside0.mk (indexFuncInt.calls A0 c0 l0 g cb f w0 w eg hb hcl hr0 hc0)
  have HE := Aside0.mk (idxF_any f l0)
  clear hr0 hcl hb eg hc0
  generalize l0.any f = r at HE ⊢
  generalize idxF f l0 = q at HE HI
  go_enter Tryd.func50, Tryd.ntmps50
  go_wp2_with (fail)
  refine HI.out.mono ?_
  rintro e w' ⟨rfl, hb'⟩
  have HB' := Aside0.mk hb'
  clear hb'
  have hq := HE.out
  clear HE
  go_wp2
  go_ret
  exact ⟨rfl, HB'.out⟩
end Go.Proofs.YtpnoifikpmfpdaaDoor.PAll
