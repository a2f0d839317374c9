/-
  The comparing function values of package ring: the contracts.
-/
import Derived.Test.YtpnoifikpmfpdaaDoorEsorta
import Derived.Deep.RegionHeld3
namespace Go.Proofs.YtpnoifikpmfpdaaDoor.PAll
open Go.RowKit Go.Proofs.YtpnoifikpmfpdaaDoorW.PrintWords Go.Proofs.YtpnoifikpmfpdaaDoorW.PrintLast Go.Proofs.YtpnoifikpmfpdaaDoorW.PrintMore
open Go.Sort (HoldsK Holds SWO PermIn SortedIn grow alloc_eq_grow grow_grow)
set_option linter.unusedVariables false
set_option linter.unusedSimpArgs false

set_option maxHeartbeats 8000000 in
set_option maxRecDepth 100000 in
theorem compareU32.calls (a b : Int) (w : World) : Calls Tryd.prog 36 #[.int .u32 a, .int .u32 b] w fun e w' => e = .returned (.int .i64 (Lib.compareInt a b)) ∧ w' = w := by
  rcases Int.lt_trichotomy a b with h | h | h
  ·
    have hb : decide (a < b) = true := decide_eq_true h
    have hf : Lib.compareInt a b = -1 := by unfold Lib.compareInt; rw [if_pos h]
    rw [hf]
    clear hf
    go_enter Tryd.func36, Tryd.ntmps36
    go_wp2
    go_ret
    exact ⟨rfl, rfl⟩
  ·
    subst h
    have hb : decide (a < a) = false := decide_eq_false (Int.lt_irrefl a)
    have hf : Lib.compareInt a a = 0 := by unfold Lib.compareInt; rw [if_neg (Int.lt_irrefl a), if_neg (Int.lt_irrefl a)]
    rw [hf]
    clear hf
    go_enter Tryd.func36, Tryd.ntmps36
    go_wp2
    go_ret
    exact ⟨rfl, rfl⟩
  ·
    have hb : decide (a < b) = false := decide_eq_false (by omega)
    have hb2 : decide (b < a) = true := decide_eq_true h
    have hb3 : decide (a > b) = true := decide_eq_true h
    have hf : Lib.compareInt a b = 1 := by unfold Lib.compareInt; rw [if_neg (by omega), if_pos h]
    rw [hf]
    clear hf
    go_enter Tryd.func36, Tryd.ntmps36
    go_wp2
    go_ret
    exact ⟨rfl, rfl⟩

set_option maxHeartbeats 8000000 in
set_option maxRecDepth 100000 in
theorem compareInt.calls (a b : Int) (w : World) : Calls Tryd.prog 55 #[.int .i64 a, .int .i64 b] w fun e w' => e = .returned (.int .i64 (Lib.compareInt a b)) ∧ w' = w := by
  rcases Int.lt_trichotomy a b with h | h | h
  ·
    have hb : decide (a < b) = true := decide_eq_true h
    have hf : Lib.compareInt a b = -1 := by unfold Lib.compareInt; rw [if_pos h]
    rw [hf]
    clear hf
    go_enter Tryd.func55, Tryd.ntmps55
    go_wp2
    go_ret
    exact ⟨rfl, rfl⟩
  ·
    subst h
    have hb : decide (a < a) = false := decide_eq_false (Int.lt_irrefl a)
    have hf : Lib.compareInt a a = 0 := by unfold Lib.compareInt; rw [if_neg (Int.lt_irrefl a), if_neg (Int.lt_irrefl a)]
    rw [hf]
    clear hf
    go_enter Tryd.func55, Tryd.ntmps55
    go_wp2
    go_ret
    exact ⟨rfl, rfl⟩
  ·
    have hb : decide (a < b) = false := decide_eq_false (by omega)
    have hb2 : decide (b < a) = true := decide_eq_true h
    have hb3 : decide (a > b) = true := decide_eq_true h
    have hf : Lib.compareInt a b = 1 := by unfold Lib.compareInt; rw [if_neg (by omega), if_pos h]
    rw [hf]
    clear hf
    go_enter Tryd.func55, Tryd.ntmps55
    go_wp2
    go_ret
    exact ⟨rfl, rfl⟩


/-- 'cmp.Or' of two. -/
def orI (x y : Int) : Int := if x = 0 then y else x

theorem orTwo_reads {w : World} {ad : Addr} {x y : Int} (h0 : w.cell? ad = some (.int .i64 x)) (h1 : w.cell? (ad.add 1) = some (.int .i64 y)) (k : Nat) (hk : k < 2) :
    w.cell? (ad.add k) = some (.int .i64 ([x, y].getD k 0)) := by
  rcases k with _ | _ | k
  · simpa [Addr.add] using h0
  · simpa using h1
  · omega

set_option maxHeartbeats 8000000 in
set_option maxRecDepth 100000 in
theorem orTwo.calls (ad : Addr) (x y : Int) (c : Nat) (w : World) (h0 : w.cell? ad = some (.int .i64 x)) (h1 : w.cell? (ad.add 1) = some (.int .i64 y)) :
    Calls Tryd.prog 54 #[.slice (some ad) 2 c] w fun e w' => e = .returned (.int .i64 (orI x y)) ∧ w' = w := by
  have HC := Aside0.mk (orTwo_reads h0 h1)
  clear h0 h1
  go_enter Tryd.func54, Tryd.ntmps54
  go_wp2
  go_loop [8] (fun v8 => ∃ k : Nat, v8 = .int .i64 k ∧ k ≤ 2 ∧ Aside0 (∀ i, i < k → [x, y].getD i 0 = 0)) (fun v8 => 2 - (intOf v8).toNat)
  case atStart => exact ⟨0, rfl, by omega, ⟨fun i hi => by omega⟩⟩
  case round =>
    obtain ⟨k, rfl, hk, HN⟩ := hrel
    by_cases hlt : k < 2
    · have hx := HC.out k hlt
      by_cases hz : [x, y].getD k 0 = 0
      · have HN2 : Aside0 (∀ i, i < k + 1 → [x, y].getD i 0 = 0) := ⟨fun i hi => by
          by_cases e : i = k
          · rw [e]; exact hz
          · exact HN.out i (by omega)⟩
        rw [hz] at hx
        clear hz
        go_wp2
        go_round
        case rel => exact ⟨k + 1, by go_num, by omega, HN2⟩
        case measure => simp [intOf]; omega
      · have hf : orI x y = [x, y].getD k 0 := by
          unfold orI
          rcases k with _ | _ | k
          · simp at hz ⊢; exact fun h => absurd h hz
          · have := HN.out 0 (by omega)
            simp at this; rw [if_pos this]; simp
          · omega
        have HF := Aside0.mk hf
        generalize [x, y].getD k 0 = q at hx hz HF
        have hq : (q != 0) = true := by simpa using hz
        clear hf hz
        go_wp2
        go_ret
        rw [HF.out]
        exact ⟨rfl, rfl⟩
    · have hf : orI x y = 0 := by
        have h0 := HN.out 0 (by omega)
        have h1 := HN.out 1 (by omega)
        simp at h0 h1
        simp [orI, h0, h1]
      have HF := Aside0.mk hf
      clear hf
      go_wp2
      go_ret
      rw [HF.out]
      exact ⟨rfl, rfl⟩

set_option maxHeartbeats 8000000 in
set_option maxRecDepth 100000 in
theorem cmpHalve.calls (x y : S27) (W : World) : Calls Tryd.prog 35 #[.agg #[.int .u32 x.f0, .int .i64 x.f1], .agg #[.int .u32 y.f0, .int .i64 y.f1]] W fun e W' => e = .returned (.int .i64 (Lib.compareInt x.f0 y.f0)) ∧ ∃ q os', W' = grow (W.drewN q) os' := by
  have HC := fun w => Aside0.mk (compareU32.calls x.f0 y.f0 w)
  generalize Lib.compareInt x.f0 y.f0 = r at HC ⊢
  go_enter Tryd.func35, Tryd.ntmps35
  go_wp2_with (fail)
  refine (HC _).out.mono ?_
  rintro e w' ⟨rfl, rfl⟩
  go_wp2
  go_ret
  exact ⟨rfl, 0, _, by rw [alloc_eq_grow, alloc_eq_grow, grow_grow]; rfl⟩

set_option maxHeartbeats 8000000 in
set_option maxRecDepth 100000 in
theorem cmpBuild.calls (x y : S27) (W : World) : Calls Tryd.prog 53 #[.agg #[.int .u32 x.f0, .int .i64 x.f1], .agg #[.int .u32 y.f0, .int .i64 y.f1]] W fun e W' => e = .returned (.int .i64 (orI (Lib.compareInt x.f0 y.f0) (Lib.compareInt x.f1 y.f1))) ∧ ∃ q os', W' = grow (W.drewN q) os' := by
  have HC := fun w => (compareU32.calls x.f0 y.f0 w)
  have HD := fun w => (compareInt.calls x.f1 y.f1 w)
  have HCa := Aside0.mk HC
  have HDa := Aside0.mk HD
  clear HC HD
  generalize Lib.compareInt x.f0 y.f0 = r at HCa ⊢
  generalize Lib.compareInt x.f1 y.f1 = s at HDa ⊢
  go_enter Tryd.func53, Tryd.ntmps53
  go_wp2_with (fail)
  go_region_held3 (fun w' => w'.cell? ⟨W.heap.size, 0, none⟩ = some (.int .u32 x.f0) ∧ w'.cell? ⟨W.heap.size, 1, none⟩ = some (.int .i64 x.f1) ∧
      w'.cell? ⟨W.heap.size + 1, 0, none⟩ = some (.int .u32 y.f0) ∧ w'.cell? ⟨W.heap.size + 1, 1, none⟩ = some (.int .i64 y.f1))
    (first | go_keep | (refine ⟨?_, ?_, ?_, ?_⟩ <;> simp [go_sem, World.cell?_alloc_past]))
    ((first | (go_at_call 36; refine (HCa.out _).mono ?_; rintro e w' ⟨rfl, rfl⟩) | (go_at_call 55; refine (HDa.out _).mono ?_; rintro e w' ⟨rfl, rfl⟩) | (go_at_call 54; refine (orTwo.calls _ r s _ _ ?_ ?_).mono ?_; (case refine_1 => go_simp); (case refine_2 => go_simp); rintro e w' ⟨rfl, rfl⟩)))
  go_wp2
  go_ret
  exact ⟨rfl, 1, _, by rw [alloc_eq_grow, alloc_eq_grow, alloc_eq_grow, grow_grow, grow_grow]; rfl⟩
theorem lt_both (x y : S27) : ltOf (fun x y : S27 => orI (Lib.compareInt x.f0 y.f0) (Lib.compareInt x.f1 y.f1)) x y = decide (x.f0 < y.f0 ∨ x.f0 = y.f0 ∧ x.f1 < y.f1) := by
  unfold ltOf Lib.compareInt orI
  by_cases h1 : x.f0 < y.f0
  · simp [h1]
  · by_cases h2 : y.f0 < x.f0
    · simp [h1, h2]; omega
    · have h3 : x.f0 = y.f0 := by omega
      by_cases h4 : x.f1 < y.f1
      · simp [h3, h4]
      · by_cases h5 : y.f1 < x.f1 <;> simp [h3, h4, h5]
theorem swo_both : SWO (ltOf fun x y : S27 => orI (Lib.compareInt x.f0 y.f0) (Lib.compareInt x.f1 y.f1)) where
  irrefl x := by rw [lt_both]; simp
  trans x y z h1 h2 := by rw [lt_both] at *; simp at *; omega
  ntrans x y z h1 h2 := by rw [lt_both] at *; simp at *; omega
end Go.Proofs.YtpnoifikpmfpdaaDoor.PAll
