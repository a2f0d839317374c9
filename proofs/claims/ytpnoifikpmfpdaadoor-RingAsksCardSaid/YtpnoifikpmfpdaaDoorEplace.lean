/-
  The function 'place' of package ring (a loop made with goto): the contract, for sorted arcs that are some.
-/
import Derived.Test.YtpnoifikpmfpdaaDoorPAllx0
import Derived.ScopeJumps
import Derived.WalkMore
namespace Go.Proofs.YtpnoifikpmfpdaaDoor.PAll
open Go.RowKit Go.Proofs.YtpnoifikpmfpdaaDoorW.PrintWords Go.Proofs.YtpnoifikpmfpdaaDoorW.PrintLast Go.Proofs.YtpnoifikpmfpdaaDoorW.PrintMore
set_option linter.unusedVariables false
set_option linter.unusedSimpArgs false

/-- How many points are at most p. -/
def cntLe (l : List S27) (p : Int) : Nat := l.countP (fun a => decide (a.f0 ≤ p))
/-- Points rise. -/
def risesB : List S27 → Bool
  | [] => true
  | a :: l => (match l with | [] => true | b :: _ => decide (a.f0 < b.f0)) && risesB l
def ring_place.f (l0 : List S27) (a1 : Int) : Option Int :=
  if (0 < l0.length ∧ l0.length ≤ 1024) ∧ risesB l0 = true then some (((cntLe l0 a1 : Int) + l0.length - 1) % l0.length) else none

theorem rises_cons {a b : S27} {l : List S27} (h : risesB (a :: b :: l) = true) : a.f0 < b.f0 ∧ risesB (b :: l) = true := by
  simp only [risesB] at h
  simp at h
  exact ⟨h.1, by simp [risesB]; exact h.2⟩
theorem rises_tail {a : S27} {l : List S27} (h : risesB (a :: l) = true) : risesB l = true := by
  cases l with
  | nil => rfl
  | cons b l => exact (rises_cons h).2
theorem rises_lt : ∀ {l : List S27}, risesB l = true → ∀ (i j : Nat), i < j → j < l.length → (l.getD i z27).f0 < (l.getD j z27).f0
  | [], _, i, j, _, hj => by simp at hj
  | [a], _, i, j, hij, hj => by simp at hj; omega
  | a :: b :: l, h, i, j, hij, hj => by
    obtain ⟨h1, h2⟩ := rises_cons h
    cases j with
    | zero => omega
    | succ j =>
      cases i with
      | succ i => exact rises_lt h2 i j (by omega) (by simpa using hj)
      | zero =>
        cases j with
        | zero => exact h1
        | succ j => exact Int.lt_trans h1 (rises_lt h2 0 (j + 1) (by omega) (by simpa using hj))
theorem cnt_eq : ∀ (l : List S27) (p : Int) (k : Nat), k ≤ l.length → (∀ i, i < k → (l.getD i z27).f0 ≤ p) → (∀ i, k ≤ i → i < l.length → p < (l.getD i z27).f0) → cntLe l p = k
  | [], p, k, hk, _, _ => by simp at hk; simp [cntLe, hk]
  | a :: l, p, k, hk, h1, h2 => by
    cases k with
    | zero =>
      have ha := h2 0 (by omega) (by simp)
      simp at ha
      have := cnt_eq l p 0 (by omega) (fun i hi => by omega) (fun i _ hi => by have := h2 (i + 1) (by omega) (by simpa using hi); simpa using this)
      simp [cntLe] at this ⊢
      exact ⟨by omega, this⟩
    | succ k =>
      have ha := h1 0 (by omega)
      simp at ha
      have := cnt_eq l p k (by simpa using hk) (fun i hi => by have := h1 (i + 1) (by omega); simpa using this) (fun i hk hi => by have := h2 (i + 1) (by omega) (by simpa using hi); simpa using this)
      simp only [cntLe] at this ⊢
      rw [List.countP_cons_of_pos (by simpa using ha), this]

/-- What the two bounds know. -/
structure PlaceAt (l : List S27) (p : Int) (lo hi : Nat) : Prop where
  le : lo ≤ hi
  hn : hi ≤ l.length
  lows : ∀ i, i < lo → (l.getD i z27).f0 ≤ p
  highs : ∀ i, hi ≤ i → i < l.length → p < (l.getD i z27).f0
theorem PlaceAt.up {l : List S27} {p : Int} {lo hi : Nat} (hs : risesB l = true) (h : PlaceAt l p lo hi) (hlt : lo < hi) (hp : (l.getD ((lo + hi) / 2) z27).f0 ≤ p) : PlaceAt l p ((lo + hi) / 2 + 1) hi :=
  { h with
    le := by omega
    lows := fun i hi' => by
      by_cases e : i = (lo + hi) / 2
      · rw [e]; exact hp
      · have := rises_lt hs i ((lo + hi) / 2) (by omega) (by have := h.hn; omega); omega }
theorem PlaceAt.down {l : List S27} {p : Int} {lo hi : Nat} (hs : risesB l = true) (h : PlaceAt l p lo hi) (hlt : lo < hi) (hp : p < (l.getD ((lo + hi) / 2) z27).f0) : PlaceAt l p lo ((lo + hi) / 2) :=
  { h with
    le := by omega
    hn := by have := h.hn; omega
    highs := fun i hi' hl => by
      by_cases e : i = (lo + hi) / 2
      · rw [e]; exact hp
      · have := rises_lt hs ((lo + hi) / 2) i (by omega) hl; omega }

section
variable {P : Program} {a : Act} {w : World} {Q : Exit → Act → World → Prop}
/-- A scope with one label: what holds at the label, each pass from there, and the way to it. -/
theorem wp_scope_goto {c rest : Code} (l : Nat) (J : Act → World → Prop) (μ : Act → World → Nat) (hf : findLabel c l = some (Code.skip.seq rest))
    (pass : ∀ a w, J a w → rest.wp P (Exit.jump l (fun a' w' => J a' w' ∧ μ a' w' < μ a w) Q) a w)
    (first : (∀ a w, J a w → rest.wp P (Exit.jump l J Q) a w) → c.wp P (Exit.jump l J Q) a w) : (Code.scope c).wp P Q a w :=
  wp_scope_jumps l J μ hf (first (fun a w h => wp_mono (pass a w h) (fun e a' w' hq => by cases e <;> first | exact hq | exact ⟨hq.1, hq.2.1⟩))) (fun a w h => wp_seq (wp_skip (pass a w h)))
end

/-- What holds at the label. -/
def PlaceJ (A0 : Option Addr) (c0 : Nat) (l0 : List S27) (a1 : Int) (w : World) (a' : Act) (w' : World) : Prop := ∃ (lo hi : Nat), Aside0 (PlaceAt l0 a1 lo hi) ∧ Aside0 (Drawn0 w w') ∧ ∃ (u2 u3 u4 u7 u8 u9 u10 u11 u12 u13 u14 u15 u16 u17 u18 u19 u20 u21 u22 u23 u24 u25 u26 u27 u28 u29 u30 u31 u32 u33 u34 : Value), a' = { tmps := #[.slice A0 l0.length c0, .int .u32 a1, u2, u3, u4, .int .i64 lo, .int .i64 hi, u7, u8, u9, u10, u11, u12, u13, u14, u15, u16, u17, u18, u19, u20, u21, u22, u23, u24, u25, u26, u27, u28, u29, u30, u31, u32, u33, u34], defers := [] }

set_option maxHeartbeats 8000000 in
set_option maxRecDepth 100000 in
theorem ring_place.calls (A0 : Option Addr) (c0 : Nat) (l0 : List (S27)) (a1 : Int) (r : Int) (w : World) (hr0 : Kd.C k27 w A0 l0.length l0) (hc0 : l0.length ≤ c0) (h : ring_place.f l0 a1 = some r) :
    Calls Tryd.prog 31 #[.slice A0 l0.length c0, .int .u32 a1] w fun e w' => e = .returned (.int .i64 r) ∧ Drawn0 w w' := by
  unfold ring_place.f at h
  split at h
  case isFalse => cases h
  case isTrue hs =>
  obtain ⟨⟨hpos, hle⟩, hs⟩ := hs
  have H := Aside0.mk (Option.some.inj h)
  have HR0 := Aside0.mk hr0
  have HS := Aside0.mk hs
  clear h hr0 hs
  go_enter Tryd.func31, Tryd.ntmps31
  go_wp2
  refine wp_scope_goto 0 (PlaceJ A0 c0 l0 a1 w) (fun a' _ => (intOf (a'.tmps.getD 6 undef)).toNat - (intOf (a'.tmps.getD 5 undef)).toNat) rfl ?_ ?_
  · rintro a' w' ⟨lo, hi, HP, ⟨⟨nd, rfl⟩⟩, u2, u3, u4, u7, u8, u9, u10, u11, u12, u13, u14, u15, u16, u17, u18, u19, u20, u21, u22, u23, u24, u25, u26, u27, u28, u29, u30, u31, u32, u33, u34, rfl⟩
    have hle := HP.out.le
    have hn := HP.out.hn
    by_cases hlt : lo < hi
    · have hk0 : (0 : Int) ≤ (((lo + hi) / 2 : Nat) : Int) := by omega
      have hk1 : ((((lo + hi) / 2 : Nat) : Int)) < (l0.length : Int) := by omega
      obtain ⟨ad, e, hx0, hx1⟩ := at_T27 HR0.out _ hk0 hk1
      cases e
      clear hx1 hk0 hk1
      simp only [Int.toNat_natCast, rd_T27] at hx0
      by_cases hp : (l0.getD ((lo + hi) / 2) z27).f0 ≤ a1
      · have HP2 := Aside0.mk (HP.out.up HS.out hlt hp)
        generalize (l0.getD ((lo + hi) / 2) z27).f0 = x at hx0 hp
        have hpb : decide (x ≤ a1) = true := decide_eq_true hp
        go_wp2
        go_step3
        refine ⟨rfl, ⟨(lo + hi) / 2 + 1, hi, HP2, ⟨(Drawn0.refl _).step _⟩, _, _, _, _, _, _, _, _, _, _, _, _, _, _, _, _, _, _, _, _, _, _, _, _, _, _, _, _, _, _, _, rfl⟩, ?_⟩
        simp [intOf]; omega
      · have HP2 := Aside0.mk (HP.out.down HS.out hlt (by omega))
        generalize (l0.getD ((lo + hi) / 2) z27).f0 = x at hx0 hp
        have hpb : decide (x ≤ a1) = false := decide_eq_false hp
        go_wp2
        go_step3
        refine ⟨rfl, ⟨lo, (lo + hi) / 2, HP2, ⟨(Drawn0.refl _).step _⟩, _, _, _, _, _, _, _, _, _, _, _, _, _, _, _, _, _, _, _, _, _, _, _, _, _, _, _, _, _, _, _, rfl⟩, ?_⟩
        simp [intOf]; omega
    · have hc := cnt_eq l0 a1 lo (by omega) HP.out.lows (fun i h1 h2 => HP.out.highs i (by omega) h2)
      have HH := H.out
      rw [hc] at HH
      subst HH
      clear hc H
      go_wp2
      simp only [Exit.jump]
      go_ret
      exact ⟨rfl, (Drawn0.refl _).step _⟩
  · intro hpass
    go_wp2
    go_step3
    rename_i hK
    exact hK _ _ (hpass _ _ ⟨0, l0.length, ⟨⟨by omega, Nat.le_refl _, fun i hi => by omega, fun i h1 h2 => by omega⟩⟩, ⟨Drawn0.refl _⟩, _, _, _, _, _, _, _, _, _, _, _, _, _, _, _, _, _, _, _, _, _, _, _, _, _, _, _, _, _, _, _, rfl⟩)
end Go.Proofs.YtpnoifikpmfpdaaDoor.PAll
