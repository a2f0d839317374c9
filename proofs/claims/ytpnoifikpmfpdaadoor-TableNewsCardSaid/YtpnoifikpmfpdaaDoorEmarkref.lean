/-
  The reference's Decimal, Of and Mark, for numbers below a hundred: the contracts.
-/
import Derived.Test.YtpnoifikpmfpdaaDoorEmark
namespace Go.Proofs.YtpnoifikpmfpdaaDoor.PAll
open Go.RowKit Go.Proofs.YtpnoifikpmfpdaaDoorW.PrintWords Go.Proofs.YtpnoifikpmfpdaaDoorW.PrintLast Go.Proofs.YtpnoifikpmfpdaaDoorW.PrintMore
set_option linter.unusedVariables false
set_option linter.unusedSimpArgs false

set_option maxHeartbeats 8000000 in
set_option maxRecDepth 100000 in
theorem refOf.calls (s : ByteArray) (w : World) (hn : s.size ≤ 1000) :
    Calls Tryd.prog 84 #[.string s] w fun e w' => e = .returned (.int .u32 (hashZ s)) ∧ Drawn0 w w' := by
  obtain ⟨r, hr⟩ : ∃ r, hashZ s = r := ⟨_, rfl⟩
  rw [hr]
  have H := Aside0.mk hr
  clear hr
  go_enter Tryd.func84, Tryd.ntmps84
  go_wp2
  go_loopw [3, 4] (fun v3 v4 w' => ∃ (h : Int) (i : Nat), v3 = .int .u32 h ∧ v4 = .int .i64 i ∧ Aside0 (hashGo s (s.size - i) h i = r) ∧ i ≤ s.size ∧ Aside0 (Drawn0 w w')) (fun _ v4 _ => s.size - (intOf v4).toNat)
  case atStart => exact ⟨_, 0, rfl, rfl, H, by omega, ⟨Drawn0.refl _⟩⟩
  case round =>
    obtain ⟨h, i, rfl, rfl, HA, hi, ⟨⟨nd, rfl⟩⟩⟩ := hrel
    by_cases hlt : i < s.size
    · have H := HA.out
      obtain ⟨d, hd⟩ : ∃ d, s.size - i = d + 1 := ⟨s.size - i - 1, by omega⟩
      have hd' : s.size - (i + 1) = d := by omega
      rw [hd] at H
      have HA2 : Aside0 (hashGo s (s.size - (i + 1)) (hashStep h (bt s (i : Int))) (i + 1) = r) := ⟨by rw [hd']; exact H⟩
      have hx := bt_at s (i : Int)
      simp only [Int.toNat_natCast] at hx
      clear H hd hd' HA
      unfold hashStep at HA2
      go_wp2
      go_roundw
      case rel => exact ⟨_, i + 1, rfl, by go_num, HA2, by omega, ⟨(Drawn0.refl _).step _⟩⟩
      case measure => simp [intOf]; omega
    · have e : i = s.size := by omega
      subst e
      have H := HA.out
      rw [Nat.sub_self] at H
      subst H
      clear HA
      go_wp2
      go_ret
      exact ⟨rfl, (Drawn0.refl _).step _⟩

/-- One digit, as the reference cuts it. -/
theorem digit_cut (d : Nat) (h : d < 10) : (⟨#[48, 49, 50, 51, 52, 53, 54, 55, 56, 57]⟩ : ByteArray).extract d (d + 1) = ⟨[UInt8.ofNat (48 + d)].toArray⟩ := by
  have : d = 0 ∨ d = 1 ∨ d = 2 ∨ d = 3 ∨ d = 4 ∨ d = 5 ∨ d = 6 ∨ d = 7 ∨ d = 8 ∨ d = 9 := by omega
  rcases this with rfl | rfl | rfl | rfl | rfl | rfl | rfl | rfl | rfl | rfl <;> rfl

/-- One digit as text. -/
def dg (d : Nat) : ByteArray := ⟨#[UInt8.ofNat (48 + d)]⟩
theorem run_digit (d : Nat) (hd : d < 10) (w : World) : (Instr.slice 9 (.string ⟨#[48, 49, 50, 51, 52, 53, 54, 55, 56, 57]⟩) (some (.int .u64 (d : Int))) (some (.int .u64 ((d : Int) + 1))) none).run Tryd.prog w = .ok (.string (dg d)) w := by
  have hs : (⟨#[48, 49, 50, 51, 52, 53, 54, 55, 56, 57]⟩ : ByteArray).size = 10 := rfl
  have hx : (⟨#[48, 49, 50, 51, 52, 53, 54, 55, 56, 57]⟩ : ByteArray).extract d (d + 1) = dg d := digit_cut d hd
  have e1 : ((d : Int) + 1).toNat = d + 1 := by omega
  have b1 := run_sliceBound (P := Tryd.prog) (w := w) .u64 (d : Int) (d + 1) .sliceB (by omega) (by omega)
  simp [Instr.slice, run_underlying Tryd.underlying9, Instr.sliceBounds, run_sliceBound, hs, hx, e1, b1, (by omega : (0 : Int) ≤ d), (by omega : (d : Int) + 1 ≤ 10), (by omega : (0 : Int) ≤ (d : Int) + 1)]
theorem dg_nil (d : Nat) : dg d ++ ⟨#[]⟩ = ⟨[UInt8.ofNat (48 + d)].toArray⟩ := by
  apply ByteArray.ext
  simp [dg]
theorem dg_two (d e : Nat) : dg d ++ (dg e ++ ⟨#[]⟩) = ⟨[UInt8.ofNat (48 + d), UInt8.ofNat (48 + e)].toArray⟩ := by
  apply ByteArray.ext
  simp [dg]

set_option maxHeartbeats 8000000 in
set_option maxRecDepth 100000 in
theorem refDecimal.calls (n : Nat) (hn : n < 100) (w : World) :
    Calls Tryd.prog 85 #[.int .i64 n] w fun e w' => e = .returned (.string ⟨(dig2 n).toArray⟩) ∧ w' = w := by
  have hb : decide ((n : Int) < 0) = false := decide_eq_false (by omega)
  have hu : IntKind.u64.wrap (n : Int) = n := by rw [IntKind.wrap_u64]; omega
  by_cases h10 : n < 10
  · have hd := digit_cut n h10
    have hf : dig2 n = [UInt8.ofNat (48 + n)] := by unfold dig2; rw [if_pos h10]
    rw [hf]
    have hgt : decide ((n : Int) > 9) = false := decide_eq_false (by omega)
    go_enter Tryd.func85, Tryd.ntmps85
    go_wp2
    go_loopw [3, 5] (fun v3 v5 w' => v3 = .string ⟨#[]⟩ ∧ v5 = .int .u64 (n : Int) ∧ Aside0 (w' = w)) (fun _ _ _ => 0)
    case atStart => exact ⟨rfl, by first | rfl | simp [hu], ⟨rfl⟩⟩
    case round =>
      obtain ⟨rfl, rfl, ⟨rfl⟩⟩ := hrel
      have hdg := run_digit n h10
      go_wp2
      go_ret
      exact ⟨by rw [dg_nil]; rfl, rfl⟩
  · have h10' : 10 ≤ n := by omega
    have hf : dig2 n = [UInt8.ofNat (48 + n / 10), UInt8.ofNat (48 + n % 10)] := by unfold dig2; rw [if_neg h10]
    rw [hf]
    clear hf
    obtain ⟨q, r, hq, hr, e1, e2, e3, e4, H1⟩ : ∃ q r : Nat, q < 10 ∧ r < 10 ∧ (n : Int) % 10 = (r : Int) ∧ (n : Int) / 10 = (q : Int) ∧ Int.tmod (n : Int) 10 = (r : Int) ∧ Int.tdiv (n : Int) 10 = (q : Int) ∧
        Aside0 (dg q ++ (dg r ++ ⟨#[]⟩) = ⟨[UInt8.ofNat (48 + n / 10), UInt8.ofNat (48 + n % 10)].toArray⟩) :=
      ⟨n / 10, n % 10, by omega, by omega, by omega, by omega, by rw [Int.tmod_eq_emod_of_nonneg (by omega)]; omega, by rw [Int.tdiv_eq_ediv_of_nonneg (by omega)]; omega, ⟨dg_two (n / 10) (n % 10)⟩⟩
    have hgt : decide ((n : Int) > 9) = true := decide_eq_true (by omega)
    have hgt2 : decide ((q : Int) > 9) = false := decide_eq_false (by omega)
    have hlt : q < n := by omega
    go_enter Tryd.func85, Tryd.ntmps85
    go_wp2
    go_loopw [3, 5] (fun v3 v5 w' => ((v3 = .string ⟨#[]⟩ ∧ v5 = .int .u64 (n : Int)) ∨ (v3 = .string (dg r ++ ⟨#[]⟩) ∧ v5 = .int .u64 (q : Int))) ∧ Aside0 (w' = w)) (fun _ v5 _ => (intOf v5).toNat)
    case atStart => exact ⟨.inl ⟨rfl, by first | rfl | simp [hu]⟩, ⟨rfl⟩⟩
    case round =>
      obtain ⟨⟨rfl, rfl⟩ | ⟨rfl, rfl⟩, ⟨rfl⟩⟩ := hrel
      · have hdg := run_digit r hr
        go_wp2
        go_roundw
        case rel => exact ⟨.inr ⟨rfl, rfl⟩, ⟨trivial⟩⟩
        case measure => simp [intOf]; omega
      · have hdg := run_digit q hq
        go_wp2
        go_ret
        exact ⟨by rw [H1.out]; rfl, rfl⟩

def carrefourref1_Mark.f (a0 a1 : Int) : Option Int := if (0 ≤ a0 ∧ a0 < 100) ∧ 0 ≤ a1 ∧ a1 < 100 then some (markZ a0.toNat a1.toNat) else none
set_option maxHeartbeats 8000000 in
set_option maxRecDepth 100000 in
theorem carrefourref1_Mark.calls (a0 : Int) (a1 : Int) (r : Int) (w : World) (h : carrefourref1_Mark.f a0 a1 = some r) :
    Calls Tryd.prog 68 #[.int .i64 a0, .int .i64 a1] w fun e w' => e = .returned (.int .u32 r) ∧ Drawn0 w w' := by
  unfold carrefourref1_Mark.f at h
  split at h
  case isFalse => cases h
  case isTrue hb =>
  obtain ⟨s, rfl⟩ : ∃ s : Nat, a0 = s := ⟨a0.toNat, by omega⟩
  obtain ⟨i, rfl⟩ : ∃ i : Nat, a1 = i := ⟨a1.toNat, by omega⟩
  rw [Int.toNat_natCast, Int.toNat_natCast] at h
  obtain rfl := Option.some.inj h
  have hs : s < 100 := by omega
  have hi : i < 100 := by omega
  clear h hb
  have ls := dig2_len s
  have li := dig2_len i
  have HS := fun w => Aside0.mk (refDecimal.calls s hs w)
  have HI := fun w => Aside0.mk (refDecimal.calls i hi w)
  have hz : (markText s i).size ≤ 5 := by
    unfold markText
    rw [ByteArray.size_append, ByteArray.size_append]
    show (dig2 s).toArray.size + 1 + (dig2 i).toArray.size ≤ 5
    simp
    omega
  have HO := fun w => Aside0.mk (refOf.calls (markText s i) w (by omega))
  have hm : markText s i = (⟨(dig2 s).toArray⟩ ++ ⟨#[47]⟩ ++ ⟨(dig2 i).toArray⟩ : ByteArray) := rfl
  unfold markZ
  generalize hashZ (markText s i) = r at HO ⊢
  have hz1 : (⟨(dig2 s).toArray⟩ : ByteArray).size ≤ 2 := by show (dig2 s).toArray.size ≤ 2; simpa using ls
  have hz2 : (⟨(dig2 i).toArray⟩ : ByteArray).size ≤ 2 := by show (dig2 i).toArray.size ≤ 2; simpa using li
  rw [hm] at HO hz
  clear hm ls li
  generalize (⟨(dig2 s).toArray⟩ : ByteArray) = A at HO HS hz hz1
  generalize (⟨(dig2 i).toArray⟩ : ByteArray) = B at HO HI hz hz2
  go_enter Tryd.func68, Tryd.ntmps68
  go_wp2_with (fail)
  refine (HS _).out.mono ?_
  rintro e w1 ⟨rfl, rfl⟩
  go_wp2_with (fail)
  refine (HI _).out.mono ?_
  rintro e w1 ⟨rfl, rfl⟩
  go_wp2_with (fail)
  refine (HO _).out.mono ?_
  rintro e w2 ⟨rfl, hd⟩
  have HD := Aside0.mk hd
  clear hd
  go_wp2
  go_ret
  exact ⟨rfl, HD.out⟩
end Go.Proofs.YtpnoifikpmfpdaaDoor.PAll
