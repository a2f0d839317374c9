/-
  RingScans, whatever the arcs and the point: true.
-/
import Derived.Test.YtpnoifikpmfpdaaDoorEown
import Derived.Test.YtpnoifikpmfpdaaDoorEtold9
namespace Go.Proofs.YtpnoifikpmfpdaaDoor.PAll
open Go.RowKit Go.Proofs.YtpnoifikpmfpdaaDoorW.PrintWords Go.Proofs.YtpnoifikpmfpdaaDoorW.PrintLast Go.Proofs.YtpnoifikpmfpdaaDoorW.PrintMore
set_option linter.unusedVariables false
set_option linter.unusedSimpArgs false

theorem few9.calls (A0 : Option Addr) (c0 : Nat) (l0 : List S27) (w : World) : Calls Tryd.prog 8 #[.slice A0 l0.length c0] w fun e w' => e = .returned (.bool (decide ((l0.length : Int) ≤ 60))) ∧ w' = w := by
  go_enter Tryd.func8, Tryd.ntmps8
  go_wp2
  go_ret
  exact ⟨rfl, rfl⟩

theorem told9.calls (w : World) : Calls Tryd.prog 10 #[] w fun e w' => e = .returned (.bool true) ∧ Below w.heap.size w w' := carrefourlaw9_told.calls true w rfl

theorem held2 {W0 W W' : World} {a a' : Addr} {v v' : Value} (h : W.cell? a = some v ∧ W.cell? a' = some v' ∧ Below W0.heap.size W0 W) (hb : Below W.heap.size W W') : W'.cell? a = some v ∧ W'.cell? a' = some v' ∧ Below W0.heap.size W0 W' :=
  ⟨(hb.cell (World.block_lt_of_cell? _ _ h.1)).trans h.1, (hb.cell (World.block_lt_of_cell? _ _ h.2.1)).trans h.2.1, h.2.2.trans (hb.mono h.2.2.size)⟩
theorem C_held {α : Type} {d : Kd α} {W0 W : World} {A : Option Addr} {n : Nat} {xs : List α} {a a' : Addr} {v v' : Value} (hC : d.C W0 A n xs) (h : W.cell? a = some v ∧ W.cell? a' = some v' ∧ Below W0.heap.size W0 W) : d.C W A n xs := Kd.C_below hC h.2.2
theorem B_held {B : Nat} {w0 W0 W : World} {a a' : Addr} {v v' : Value} (hB : Below B w0 W0) (hle : B ≤ W0.heap.size) (h : W.cell? a = some v ∧ W.cell? a' = some v' ∧ Below W0.heap.size W0 W) : Below B w0 W := hB.trans (h.2.2.mono hle)
theorem way_u32 (p x : Int) : IntKind.u32.wrap (p - x) = (p - x) % 4294967296 := by simp [IntKind.wrap, IntKind.bits, IntKind.signed]

set_option maxHeartbeats 8000000 in
set_option maxRecDepth 100000 in
theorem ringScans.calls (A0 : Option Addr) (c0 : Nat) (l0 : List S27) (p : Int) (w : World) (hr0 : Kd.C k27 w A0 l0.length l0) (hc0 : l0.length ≤ c0) (hB : BitsOK l0) (hp : 0 ≤ p ∧ p < 4294967296) :
    Calls Tryd.prog 3 #[.slice A0 l0.length c0, .int .u32 p] w fun e w' => e = .returned (.bool true) ∧ Below w.heap.size w w' := by
  have HF := fun w => Aside0.mk (few9.calls A0 c0 l0 w)
  have HT := fun w => Aside0.mk (told9.calls w)
  have HM := Aside0.mk (arcsMay.calls A0 c0 l0 w hr0 hc0)
  have HR0 := Aside0.mk hr0
  have HB0 := Aside0.mk hB
  have HP := Aside0.mk hp
  clear hr0 hB hp
  by_cases h60 : (l0.length : Int) ≤ 60
  · have hfb := decide_eq_true h60
    rw [hfb] at HF
    clear hfb
    cases hOK : arcsOK l0 with
    | false =>
      rw [hOK] at HM
      clear hOK
      go_enter Tryd.func3, Tryd.ntmps3
      go_wp2_with (fail)
      refine (HF _).out.mono ?_
      rintro e w1 ⟨rfl, rfl⟩
      go_wp2_with (fail)
      refine HM.out.mono ?_
      rintro e w2 ⟨rfl, hb⟩
      have HB1 := Aside0.mk hb
      clear hb
      go_wp2_with (fail)
      refine (HT _).out.mono ?_
      rintro e w3 ⟨rfl, hb⟩
      have HB2 := Aside0.mk (HB1.out.trans (hb.mono HB1.out.size))
      clear hb
      go_wp2
      go_ret
      exact ⟨rfl, HB2.out⟩
    | true =>
      rw [hOK] at HM
      obtain ⟨f1, f2, f3⟩ := arcs_facts hOK
      have HOK := Aside0.mk hOK
      have HRi := Aside0.mk f3
      clear hOK f3
      go_enter Tryd.func3, Tryd.ntmps3
      go_wp2_with (fail)
      refine (HF _).out.mono ?_
      rintro e w1 ⟨rfl, rfl⟩
      go_wp2_with (fail)
      refine HM.out.mono ?_
      rintro e w2 ⟨rfl, hb⟩
      have HB1 := Aside0.mk hb
      clear hb HM HF
      go_wp2_with (fail)
      go_loopw [5, 6] (fun v5 v6 w' => ∃ b i : Nat, v5 = .int .i64 b ∧ v6 = .int .i64 i ∧ b < l0.length ∧ i ≤ l0.length ∧ Aside0 (∀ j, j < i → wayZ l0 p b ≤ wayZ l0 p j) ∧ Aside0 (Below w1.heap.size w1 w')) (fun _ v6 _ => l0.length - (intOf v6).toNat)
      case atStart => exact ⟨0, 0, rfl, rfl, by omega, by omega, ⟨fun j hj => by omega⟩, HB1⟩
      case round =>
        clear HB1
        obtain ⟨b, i, rfl, rfl, hbl, hil, HMin, HBr⟩ := hrel
        obtain ⟨wo, rfl⟩ : ∃ wo : World, wo = wr := ⟨_, rfl⟩
        obtain ⟨ad2, e2, hy0, hy1⟩ := at_T27 (Kd.C_below HR0.out HBr.out) (b : Int) (by omega) (by omega)
        cases e2
        simp only [Int.toNat_natCast, rd_T27] at hy0 hy1
        by_cases hlt : i < l0.length
        · obtain ⟨ad1, e1, hx0, hx1⟩ := at_T27 (Kd.C_below HR0.out HBr.out) (i : Int) (by omega) (by omega)
          cases e1
          simp only [Int.toNat_natCast, rd_T27] at hx0 hx1
          have hw1 := way_u32 p (l0.getD i z27).f0
          have hw2 := way_u32 p (l0.getD b z27).f0
          have i0 : (0 : Int) ≤ (i : Int) := by omega
          have i1 : (i : Int) < (l0.length : Int) := by omega
          have b0 : (0 : Int) ≤ (b : Int) := by omega
          have b1 : (b : Int) < (l0.length : Int) := by omega
          by_cases hc : (p - (l0.getD i z27).f0) % 4294967296 < (p - (l0.getD b z27).f0) % 4294967296
          · have HMin2 : Aside0 (∀ j, j < i + 1 → wayZ l0 p i ≤ wayZ l0 p j) := ⟨fun j hj => by
              by_cases e : j = i
              · rw [e]; exact Int.le_refl _
              · have := HMin.out j (by omega)
                unfold wayZ at *
                omega⟩
            have hcb := decide_eq_true hc
            generalize l0.getD i z27 = x at hx0 hx1 hw1 hcb
            generalize l0.getD b z27 = y at hy0 hy1 hw2 hcb
            clear hc HMin hx1 hy1
            go_wp2_with (fail)
            go_quiet (fail)
            go_wp2
            go_roundw
            case rel => exact ⟨i, i + 1, rfl, by go_num, by omega, by omega, HMin2, ⟨pw_below_drewN HBr.out _⟩⟩
            case measure => simp [intOf]; omega
          · have HMin2 : Aside0 (∀ j, j < i + 1 → wayZ l0 p b ≤ wayZ l0 p j) := ⟨fun j hj => by
              by_cases e : j = i
              · rw [e]; unfold wayZ; omega
              · exact HMin.out j (by omega)⟩
            have hcb := decide_eq_false hc
            generalize l0.getD i z27 = x at hx0 hx1 hw1 hcb
            generalize l0.getD b z27 = y at hy0 hy1 hw2 hcb
            clear hc HMin hx1 hy1
            go_wp2_with (fail)
            go_quiet (fail)
            go_wp2
            go_roundw
            case rel => exact ⟨b, i + 1, rfl, by go_num, by omega, by omega, HMin2, ⟨pw_below_drewN HBr.out _⟩⟩
            case measure => simp [intOf]; omega
        · have hi : i = l0.length := by omega
          subst hi
          have hbp : b = placeN l0 p := (way_place (by omega) HRi.out HB0.out HP.out b hbl).2 (HMin.out _ (place_f l0 p (by omega) (by omega) HRi.out).2)
          have HOw := Aside0.mk (owner_f l0 p HOK.out 1100 (Nat.le_refl _))
          have HWi := Aside0.mk (Width_f l0 b HOK.out hbl 1100 (Nat.le_refl _))
          have hww := way_width (by omega) HRi.out HB0.out HP.out
          rw [← hbp] at hww HOw
          unfold wayZ at hww
          have hw2 := way_u32 p (l0.getD b z27).f0
          have HBf := Aside0.mk HBr.out
          have HC1 := Aside0.mk (Kd.C_below HR0.out HBr.out)
          have b0 : (0 : Int) ≤ (b : Int) := by omega
          have b1 : (b : Int) < (l0.length : Int) := by omega
          have h64 : IntKind.u64.wrap ((p - (l0.getD b z27).f0) % 4294967296) = (p - (l0.getD b z27).f0) % 4294967296 := by rw [IntKind.wrap_u64]; omega
          clear hbp HMin
          generalize widthZ l0 b = q at hww HWi
          generalize l0.getD b z27 = y at hy0 hy1 hw2 hww HOw h64
          have hqb := decide_eq_true hww
          have hq0 : (0 : Int) ≤ (p - y.f0) % 4294967296 := by omega
          have hq1 : (p - y.f0) % 4294967296 < 4294967296 := by omega
          clear hww
          go_wp2_with (fail)
          go_region_held3 (fun w' => w'.cell? (ad2.add (b * 2)) = some (.int .u32 y.f0) ∧ w'.cell? ⟨(ad2.add (b * 2)).block, (ad2.add (b * 2)).off + 1, none⟩ = some (.int .i64 y.f1) ∧ Below wo.heap.size wo w')
            (first | exact ⟨hy0, hy1, below_drew1 (Below.refl _ _)⟩ | exact held2 (by assumption) hbb)
            ((first | (go_at_call 10; refine (HT _).out.mono ?_; rintro e wa ⟨rfl, hbb⟩) | (go_at_call 11; refine (ring_Owner.calls 1100 _ c0 l0 p _ _ ?_ hc0 HOw.out).mono ?_; (case refine_1 => exact C_held HC1.out (by assumption)); rintro e wb ⟨rfl, hbb⟩) | (go_at_call 12; refine (ring_Width.calls 1100 _ c0 l0 _ _ _ ?_ hc0 HWi.out).mono ?_; (case refine_1 => exact C_held HC1.out (by assumption)); rintro e wc ⟨rfl, hbb⟩)))
          go_wp2
          go_ret
          exact ⟨rfl, B_held HBf.out HBf.out.size (by assumption)⟩
  · have hfb := decide_eq_false h60
    rw [hfb] at HF
    clear hfb
    go_enter Tryd.func3, Tryd.ntmps3
    go_wp2_with (fail)
    refine (HF _).out.mono ?_
    rintro e w1 ⟨rfl, rfl⟩
    go_wp2_with (fail)
    refine (HT _).out.mono ?_
    rintro e w3 ⟨rfl, hb⟩
    have HB2 := Aside0.mk hb
    clear hb
    go_wp2
    go_ret
    exact ⟨rfl, HB2.out⟩
end Go.Proofs.YtpnoifikpmfpdaaDoor.PAll
