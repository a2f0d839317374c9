/-
  The function 'May' of package table.
-/
import Derived.Test.YtpnoifikpmfpdaaDoorEhas
import Derived.Test.YtpnoifikpmfpdaaDoorEring
namespace Go.Proofs.YtpnoifikpmfpdaaDoor.PAll
open Go.RowKit Go.Proofs.YtpnoifikpmfpdaaDoorW.PrintWords Go.Proofs.YtpnoifikpmfpdaaDoorW.PrintLast Go.Proofs.YtpnoifikpmfpdaaDoorW.PrintMore
set_option linter.unusedVariables false
set_option linter.unusedSimpArgs false

def nodesOK (n : List Int) : Bool := !(n.any (fun x => decide (x < -1) || decide (x ≥ 4)))
def arcNode (n : List Int) (a : S27) : Bool := decide (a.f1 ≥ n.length) || decide (n.getD a.f1.toNat 0 < 0)
def tableOK (e : Int) (l : List S27) (n : List Int) : Bool :=
  !(decide (e < 1)) && (!(decide (e > 1073741824)) && (arcsOK l && (!(decide ((n.length : Int) < 1)) && (!(decide ((n.length : Int) > 16)) && (nodesOK n && !(l.any (arcNode n)))))))
def table_May.f (e : Int) (l : List S27) (n : List Int) : Option Bool := some (tableOK e l n)

set_option maxHeartbeats 8000000 in
set_option maxRecDepth 100000 in
theorem mayClosure1.calls (x : Int) (W : World) :
    Calls Tryd.prog 64 #[.int .i64 x] W fun e W' => e = .returned (.bool (decide (x < -1) || decide (x ≥ 4))) ∧ Below W.heap.size W W' := by
  by_cases h : x < -1
  · have hb : decide (x < -1) = true := decide_eq_true h
    rw [hb, Bool.true_or]
    go_enter Tryd.func64, Tryd.ntmps64
    go_wp2
    go_ret
    exact ⟨rfl, Below.refl _ _⟩
  · have hb : decide (x < -1) = false := decide_eq_false h
    rw [hb, Bool.false_or]
    go_enter Tryd.func64, Tryd.ntmps64
    go_wp2
    go_ret
    exact ⟨rfl, Below.refl _ _⟩

set_option maxHeartbeats 8000000 in
set_option maxRecDepth 100000 in
theorem mayClosure2.calls (b : Nat) (e : Int) (v1 : Value) (A : Option Addr) (c : Nat) (n : List Int) (x : S27) (W : World) (hx : 0 ≤ x.f1) (hc : W.cell? ⟨b, 2, none⟩ = some (.slice A n.length c)) (hr : Kd.C (Kd.int .i64) W A n.length n) :
    Calls Tryd.prog 66 #[.agg #[.int .u32 x.f0, .int .i64 x.f1], .pointer (some ⟨b, 0, none⟩)] W fun e W' => e = .returned (.bool (arcNode n x)) ∧ Below W.heap.size W W' := by
  have hlt : b < W.heap.size := World.block_lt_of_cell? W ⟨b, 2, none⟩ hc
  by_cases h : x.f1 ≥ n.length
  · have hb : decide (x.f1 ≥ n.length) = true := decide_eq_true h
    have hf : arcNode n x = true := by unfold arcNode; rw [hb]; rfl
    rw [hf]
    have HR := Aside0.mk hr
    clear hf hr
    go_enter Tryd.func66, Tryd.ntmps66
    go_wp2
    go_ret
    exact ⟨rfl, (Below.refl _ _).alloc (Nat.le_refl _) _⟩
  · have hb : decide (x.f1 ≥ n.length) = false := decide_eq_false h
    have hf : arcNode n x = decide (rd n x.f1 < 0) := by unfold arcNode; rw [hb]; rfl
    rw [hf]
    obtain ⟨ad, e, hx0⟩ := Kd.at_int (Kd.C_alloc hr (.cells #[.int .u32 x.f0, .int .i64 x.f1] 27)) x.f1 hx (by omega)
    cases e
    clear hr hf
    generalize rd n x.f1 = q at hx0 ⊢
    go_enter Tryd.func66, Tryd.ntmps66
    go_wp2
    go_ret
    exact ⟨rfl, (Below.refl _ _).alloc (Nat.le_refl _) _⟩
set_option maxHeartbeats 8000000 in
set_option maxRecDepth 100000 in
theorem table_May.calls (a0_0 : Int) (A0_1 : Option Addr) (c0_1 : Nat) (l0_1 : List (S27)) (A0_2 : Option Addr) (c0_2 : Nat) (l0_2 : List Int) (r : Bool) (w : World) (hr0_1 : Kd.C k27 w A0_1 l0_1.length l0_1) (hc0_1 : l0_1.length ≤ c0_1) (hr0_2 : Kd.C (Kd.int .i64) w A0_2 l0_2.length l0_2) (hc0_2 : l0_2.length ≤ c0_2) (h : table_May.f a0_0 l0_1 l0_2 = some r) :
    Calls Tryd.prog 42 #[.agg #[.int .i64 a0_0, .slice A0_1 l0_1.length c0_1, .slice A0_2 l0_2.length c0_2]] w fun e w' => e = .returned (.bool r) ∧ Below w.heap.size w w' := by
  obtain rfl := Option.some.inj h
  clear h
  by_cases h1 : a0_0 < 1
  · have h1b : decide (a0_0 < 1) = true := decide_eq_true h1
    have hf : tableOK a0_0 l0_1 l0_2 = false := by unfold tableOK; rw [h1b]; rfl
    rw [hf]
    clear hf hr0_1 hr0_2
    go_enter Tryd.func42, Tryd.ntmps42
    go_wp2
    go_ret
    exact ⟨rfl, (Below.refl _ _).alloc (Nat.le_refl _) _⟩
  have h1b : decide (a0_0 < 1) = false := decide_eq_false h1
  by_cases h2 : a0_0 > 1073741824
  · have h2b : decide (a0_0 > 1073741824) = true := decide_eq_true h2
    have hf : tableOK a0_0 l0_1 l0_2 = false := by unfold tableOK; rw [h1b, h2b]; rfl
    rw [hf]
    clear hf hr0_1 hr0_2
    go_enter Tryd.func42, Tryd.ntmps42
    go_wp2
    go_ret
    exact ⟨rfl, (Below.refl _ _).alloc (Nat.le_refl _) _⟩
  have h2b : decide (a0_0 > 1073741824) = false := decide_eq_false h2
  have HM := Aside0.mk (arcsMay.calls A0_1 c0_1 l0_1 (w.alloc (.cells #[.int .i64 a0_0, .slice A0_1 l0_1.length c0_1, .slice A0_2 l0_2.length c0_2] 39)) (Kd.C_alloc hr0_1 _) hc0_1)
  have HR1 := Aside0.mk hr0_1
  have HR2 := Aside0.mk hr0_2
  clear hr0_1 hr0_2
  cases hM : arcsOK l0_1 with
  | false =>
    have hf : tableOK a0_0 l0_1 l0_2 = false := by unfold tableOK; rw [h1b, h2b, hM]; rfl
    rw [hf]
    rw [hM] at HM
    clear hf hM
    go_enter Tryd.func42, Tryd.ntmps42
    go_wp2_with (fail)
    refine HM.out.mono ?_
    rintro e w' ⟨rfl, hb⟩
    have hsz : w.heap.size < w'.heap.size := by have := hb.size; simp at this; omega
    have hc1 : w'.cell? ⟨w.heap.size, 1, none⟩ = some (.slice A0_1 l0_1.length c0_1) := below_cell hb _ _ _ (by simp) (by simp [go_sem])
    have hc2 : w'.cell? ⟨w.heap.size, 2, none⟩ = some (.slice A0_2 l0_2.length c0_2) := below_cell hb _ _ _ (by simp) (by simp [go_sem])
    have HB := Aside0.mk (((Below.refl _ _).alloc (Nat.le_refl _) _).trans (hb.mono (by simp)) : Below w.heap.size w w')
    have HR := Aside0.mk (Kd.C_below (Kd.C_alloc HR2.out _) hb)
    have HR1' := Aside0.mk (Kd.C_below (Kd.C_alloc HR1.out _) hb)
    clear hb
    go_wp2
    go_ret
    exact ⟨rfl, HB.out⟩
  | true =>
  have HOK := Aside0.mk hM
  rw [hM] at HM
  clear hM
  by_cases h3 : (l0_2.length : Int) < 1
  · have h3b : decide (l0_2.length < 1) = true := decide_eq_true (by omega)
    have h3c : decide ((l0_2.length : Int) < 1) = true := decide_eq_true (by omega)
    have hf : tableOK a0_0 l0_1 l0_2 = false := by unfold tableOK; rw [h1b, h2b, HOK.out, h3c]; rfl
    rw [hf]
    clear hf
    go_enter Tryd.func42, Tryd.ntmps42
    go_wp2_with (fail)
    refine HM.out.mono ?_
    rintro e w' ⟨rfl, hb⟩
    have hsz : w.heap.size < w'.heap.size := by have := hb.size; simp at this; omega
    have hc1 : w'.cell? ⟨w.heap.size, 1, none⟩ = some (.slice A0_1 l0_1.length c0_1) := below_cell hb _ _ _ (by simp) (by simp [go_sem])
    have hc2 : w'.cell? ⟨w.heap.size, 2, none⟩ = some (.slice A0_2 l0_2.length c0_2) := below_cell hb _ _ _ (by simp) (by simp [go_sem])
    have HB := Aside0.mk (((Below.refl _ _).alloc (Nat.le_refl _) _).trans (hb.mono (by simp)) : Below w.heap.size w w')
    have HR := Aside0.mk (Kd.C_below (Kd.C_alloc HR2.out _) hb)
    have HR1' := Aside0.mk (Kd.C_below (Kd.C_alloc HR1.out _) hb)
    clear hb
    go_wp2
    go_ret
    exact ⟨rfl, HB.out⟩
  have h3b : decide (l0_2.length < 1) = false := decide_eq_false (by omega)
  have h3c : decide ((l0_2.length : Int) < 1) = false := decide_eq_false (by omega)
  by_cases h4 : (l0_2.length : Int) > 16
  · have h4b : decide (l0_2.length > 16) = true := decide_eq_true (by omega)
    have h4c : decide ((l0_2.length : Int) > 16) = true := decide_eq_true (by omega)
    have hf : tableOK a0_0 l0_1 l0_2 = false := by unfold tableOK; rw [h1b, h2b, HOK.out, h3c, h4c]; rfl
    rw [hf]
    clear hf
    go_enter Tryd.func42, Tryd.ntmps42
    go_wp2_with (fail)
    refine HM.out.mono ?_
    rintro e w' ⟨rfl, hb⟩
    have hsz : w.heap.size < w'.heap.size := by have := hb.size; simp at this; omega
    have hc1 : w'.cell? ⟨w.heap.size, 1, none⟩ = some (.slice A0_1 l0_1.length c0_1) := below_cell hb _ _ _ (by simp) (by simp [go_sem])
    have hc2 : w'.cell? ⟨w.heap.size, 2, none⟩ = some (.slice A0_2 l0_2.length c0_2) := below_cell hb _ _ _ (by simp) (by simp [go_sem])
    have HB := Aside0.mk (((Below.refl _ _).alloc (Nat.le_refl _) _).trans (hb.mono (by simp)) : Below w.heap.size w w')
    have HR := Aside0.mk (Kd.C_below (Kd.C_alloc HR2.out _) hb)
    have HR1' := Aside0.mk (Kd.C_below (Kd.C_alloc HR1.out _) hb)
    clear hb
    go_wp2
    go_ret
    exact ⟨rfl, HB.out⟩
  have h4b : decide (l0_2.length > 16) = false := decide_eq_false (by omega)
  have h4c : decide ((l0_2.length : Int) > 16) = false := decide_eq_false (by omega)
  have eg64 : ∀ args w, (callFunc 64 args).run Tryd.prog w = .ok (.enter 64 args) w := enters_of Tryd.func64 (by kernel_rfl) rfl
  have eg66 : ∀ args w, (callFunc 66 args).run Tryd.prog w = .ok (.enter 66 args) w := enters_of Tryd.func66 (by kernel_rfl) rfl
  have E64 := Aside0.mk eg64
  have E66 := Aside0.mk eg66
  clear eg64 eg66
  cases h5 : nodesOK l0_2 with
  | false =>
    have hf : tableOK a0_0 l0_1 l0_2 = false := by unfold tableOK; rw [h1b, h2b, HOK.out, h3c, h4c, h5]; rfl
    rw [hf]
    have hany : l0_2.any (fun x => decide (x < -1) || decide (x ≥ 4)) = true := by unfold nodesOK at h5; simpa using h5
    have HA := Aside0.mk hany
    clear hf h5 hany
    go_enter Tryd.func42, Tryd.ntmps42
    go_wp2_with (fail)
    refine HM.out.mono ?_
    rintro e w' ⟨rfl, hb⟩
    have hsz : w.heap.size < w'.heap.size := by have := hb.size; simp at this; omega
    have hc1 : w'.cell? ⟨w.heap.size, 1, none⟩ = some (.slice A0_1 l0_1.length c0_1) := below_cell hb _ _ _ (by simp) (by simp [go_sem])
    have hc2 : w'.cell? ⟨w.heap.size, 2, none⟩ = some (.slice A0_2 l0_2.length c0_2) := below_cell hb _ _ _ (by simp) (by simp [go_sem])
    have HB := Aside0.mk (((Below.refl _ _).alloc (Nat.le_refl _) _).trans (hb.mono (by simp)) : Below w.heap.size w w')
    have HR := Aside0.mk (Kd.C_below (Kd.C_alloc HR2.out _) hb)
    have HR1' := Aside0.mk (Kd.C_below (Kd.C_alloc HR1.out _) hb)
    clear hb
    go_wp2_with (fail)
    refine (containsFuncInt.calls _ _ l0_2 64 #[] (fun x => decide (x < -1) || decide (x ≥ 4)) w' w' E64.out (Below.refl _ _) (fun x W _ _ => mayClosure1.calls x W) HR.out hc0_2).mono ?_
    rintro e w2 ⟨rfl, hb⟩
    rw [HA.out]
    have HB2 := Aside0.mk (HB.out.trans (hb.mono HB.out.size))
    clear hb
    go_wp2
    go_ret
    exact ⟨rfl, HB2.out⟩
  | true =>
    have hf : tableOK a0_0 l0_1 l0_2 = !(l0_1.any (arcNode l0_2)) := by unfold tableOK; rw [h1b, h2b, HOK.out, h3c, h4c, h5]; rfl
    rw [hf]
    have hany : l0_2.any (fun x => decide (x < -1) || decide (x ≥ 4)) = false := by unfold nodesOK at h5; simpa using h5
    have HA := Aside0.mk hany
    have hpos : ∀ x ∈ l0_1, 0 ≤ x.f1 := fun x hx => by
      obtain ⟨j, hj, rfl⟩ := List.getElem_of_mem hx
      have := ((arcsOK_iff l0_1).1 HOK.out).2 j hj
      unfold OkAt at this
      rw [List.getD_eq_getElem?_getD, List.getElem?_eq_getElem hj] at this
      exact this.1
    have HP := Aside0.mk hpos
    generalize hq : l0_1.any (arcNode l0_2) = q
    have HQ := Aside0.mk hq
    clear hf h5 hany hpos hq
    go_enter Tryd.func42, Tryd.ntmps42
    go_wp2_with (fail)
    refine HM.out.mono ?_
    rintro e w' ⟨rfl, hb⟩
    have hsz : w.heap.size < w'.heap.size := by have := hb.size; simp at this; omega
    have hc1 : w'.cell? ⟨w.heap.size, 1, none⟩ = some (.slice A0_1 l0_1.length c0_1) := below_cell hb _ _ _ (by simp) (by simp [go_sem])
    have hc2 : w'.cell? ⟨w.heap.size, 2, none⟩ = some (.slice A0_2 l0_2.length c0_2) := below_cell hb _ _ _ (by simp) (by simp [go_sem])
    have HB := Aside0.mk (((Below.refl _ _).alloc (Nat.le_refl _) _).trans (hb.mono (by simp)) : Below w.heap.size w w')
    have HR := Aside0.mk (Kd.C_below (Kd.C_alloc HR2.out _) hb)
    have HR1' := Aside0.mk (Kd.C_below (Kd.C_alloc HR1.out _) hb)
    clear hb
    go_wp2_with (fail)
    refine (containsFuncInt.calls _ _ l0_2 64 #[] (fun x => decide (x < -1) || decide (x ≥ 4)) w' w' E64.out (Below.refl _ _) (fun x W _ _ => mayClosure1.calls x W) HR.out hc0_2).mono ?_
    rintro e w2 ⟨rfl, hb⟩
    rw [HA.out]
    have hsz2 : w.heap.size < w2.heap.size := by have := hb.size; omega
    have hd1 : w2.cell? ⟨w.heap.size, 1, none⟩ = some (.slice A0_1 l0_1.length c0_1) := below_cell hb _ _ _ hsz hc1
    have hd2 : w2.cell? ⟨w.heap.size, 2, none⟩ = some (.slice A0_2 l0_2.length c0_2) := below_cell hb _ _ _ hsz hc2
    have HB2 := Aside0.mk (HB.out.trans (hb.mono HB.out.size))
    have HS1 := Aside0.mk (Kd.C_below HR1'.out hb)
    have HS2 := Aside0.mk (Kd.C_below HR.out hb)
    have HD2 := Aside0.mk hd2
    clear hb hc1 hc2 hsz
    go_wp2_with (fail)
    refine (containsFuncArc.calls _ _ l0_1 66 #[.pointer (some ⟨w.heap.size, 0, none⟩)] (arcNode l0_2) w2 w2 E66.out (Below.refl _ _) (fun x W hx hb => mayClosure2.calls w.heap.size a0_0 (.bool true) A0_2 c0_2 l0_2 x W (HP.out x hx) (below_cell hb _ _ _ hsz2 HD2.out) (Kd.C_below HS2.out hb)) HS1.out hc0_1).mono ?_
    rintro e w3 ⟨rfl, hb⟩
    have HB3 := Aside0.mk (HB2.out.trans (hb.mono HB2.out.size))
    clear hb
    rw [HQ.out]
    go_wp2
    go_ret
    exact ⟨rfl, HB3.out⟩
end Go.Proofs.YtpnoifikpmfpdaaDoor.PAll
