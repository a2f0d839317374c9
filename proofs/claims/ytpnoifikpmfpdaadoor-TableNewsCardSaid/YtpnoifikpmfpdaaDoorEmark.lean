/-
  The functions 'Of' and 'Mark' of package point: the contracts.
-/
import Derived.Test.YtpnoifikpmfpdaaDoorEplace
import Derived.Test.YtpnoifikpmfpdaaDoorLay
namespace Go.Proofs.YtpnoifikpmfpdaaDoor.PAll
open Go.RowKit Go.Proofs.YtpnoifikpmfpdaaDoorW.PrintWords Go.Proofs.YtpnoifikpmfpdaaDoorW.PrintLast Go.Proofs.YtpnoifikpmfpdaaDoorW.PrintMore
set_option linter.unusedVariables false
set_option linter.unusedSimpArgs false

/-- The end of a text's point. -/
def hashEnd (h : Int) : Int := Go.bits .xor .u32 (((Go.bits .xor .u32 h (h / 32768)) * 2246822519) % 4294967296) ((((Go.bits .xor .u32 h (h / 32768)) * 2246822519) % 4294967296) / 8192)
def hashStep (h b : Int) : Int := ((Go.bits .xor .u32 h (b % 4294967296)) * 16777619) % 4294967296
/-- From a byte on, so many bytes. -/
def hashGo (s : ByteArray) : Nat → Int → Nat → Int
  | 0, h, _ => hashEnd h
  | d + 1, h, i => hashGo s d (hashStep h (bt s (i : Int))) (i + 1)
/-- A text's point. -/
def hashZ (s : ByteArray) : Int := hashGo s s.size 2166136261 0

/-- What holds at the label. -/
def OfJ (s : ByteArray) (r : Int) (w : World) (a' : Act) (w' : World) : Prop := ∃ (h : Int) (i : Nat), Aside0 (hashGo s (s.size - i) h i = r) ∧ i ≤ s.size ∧ Aside0 (Drawn0 w w') ∧ ∃ (u1 u2 u5 u6 u7 u8 u9 u10 u11 u12 u13 u14 u15 u16 u17 u18 u19 u20 u21 u22 u23 u24 u25 u26 u27 : Value), a' = { tmps := #[.string s, u1, u2, .int .u32 h, .int .i64 i, u5, u6, u7, u8, u9, u10, u11, u12, u13, u14, u15, u16, u17, u18, u19, u20, u21, u22, u23, u24, u25, u26, u27], defers := [] }

set_option maxHeartbeats 8000000 in
set_option maxRecDepth 100000 in
theorem point_Of.calls (s : ByteArray) (w : World) (hn : s.size ≤ 1000) :
    Calls Tryd.prog 70 #[.string s] w fun e w' => e = .returned (.int .u32 (hashZ s)) ∧ Drawn0 w w' := by
  obtain ⟨r, hr⟩ : ∃ r, hashZ s = r := ⟨_, rfl⟩
  rw [hr]
  have H := Aside0.mk hr
  clear hr
  go_enter Tryd.func70, Tryd.ntmps70
  go_wp2
  refine wp_scope_goto 0 (OfJ s r w) (fun a' _ => s.size - (intOf (a'.tmps.getD 4 undef)).toNat) rfl ?_ ?_
  · rintro a' w' ⟨h, i, HA, hi, ⟨⟨nd, rfl⟩⟩, u1, u2, u5, u6, u7, u8, u9, u10, u11, u12, u13, u14, u15, u16, u17, u18, u19, u20, u21, u22, u23, u24, u25, u26, u27, rfl⟩
    by_cases hlt : i < s.size
    · have H := HA.out
      obtain ⟨d, hd⟩ : ∃ d, s.size - i = d + 1 := ⟨s.size - i - 1, by omega⟩
      have hd' : s.size - (i + 1) = d := by omega
      rw [hd] at H
      have HA2 : Aside0 (hashGo s (s.size - (i + 1)) (hashStep h (bt s (i : Int))) (i + 1) = r) := ⟨by rw [hd']; exact H⟩
      have hx := bt_at s (i : Int)
      simp only [Int.toNat_natCast] at hx
      clear H hd hd' HA
      unfold hashStep at HA2
      go_wp2
      go_step3
      exact ⟨rfl, ⟨_, i + 1, HA2, by omega, ⟨(Drawn0.refl _).step _⟩, _, _, _, _, _, _, _, _, _, _, _, _, _, _, _, _, _, _, _, _, _, _, _, _, _, rfl⟩, by simp [intOf]; omega⟩
    · have e : i = s.size := by omega
      subst e
      have H := HA.out
      rw [Nat.sub_self] at H
      subst H
      clear HA
      go_wp2
      simp only [Exit.jump]
      go_ret
      exact ⟨rfl, (Drawn0.refl _).step _⟩
  · intro hpass
    go_wp2
    go_step3
    rename_i hK
    exact hK _ _ (hpass _ _ ⟨_, 0, H, by omega, ⟨Drawn0.refl _⟩, _, _, _, _, _, _, _, _, _, _, _, _, _, _, _, _, _, _, _, _, _, _, _, _, _, rfl⟩)

/-- A number below a hundred, in digits. -/
def dig2 (n : Nat) : List UInt8 := if n < 10 then [UInt8.ofNat (48 + n)] else [UInt8.ofNat (48 + n / 10), UInt8.ofNat (48 + n % 10)]
theorem decDigits_dig2 (n : Nat) (h : n < 100) : Lib.decDigits n = dig2 n := by
  unfold Lib.decDigits dig2
  split
  · rfl
  · unfold Lib.decDigits
    rw [dif_pos (by omega)]
    rfl
theorem dig2_len (n : Nat) : (dig2 n).length ≤ 2 := by unfold dig2; split <;> simp
/-- The text of a shard's point. -/
def markText (s i : Nat) : ByteArray := ⟨(dig2 s).toArray⟩ ++ ⟨#[47]⟩ ++ ⟨(dig2 i).toArray⟩
def markZ (s i : Nat) : Int := hashZ (markText s i)

set_option maxHeartbeats 8000000 in
set_option maxRecDepth 100000 in
theorem point_Mark.calls (s i : Nat) (hs : s < 100) (hi : i < 100) (w : World) :
    Calls Tryd.prog 52 #[.int .i64 s, .int .i64 i] w fun e w' => e = .returned (.int .u32 (markZ s i)) ∧ Drawn0 w w' := by
  have ls := dig2_len s
  have li := dig2_len i
  have HS := fun w => Aside0.mk (Tryd.strconv_Itoa_small s hs w)
  have HI := fun w => Aside0.mk (Tryd.strconv_Itoa_small i hi w)
  rw [decDigits_dig2 s hs] at HS
  rw [decDigits_dig2 i hi] at HI
  have hz : (markText s i).size ≤ 5 := by
    unfold markText
    rw [ByteArray.size_append, ByteArray.size_append]
    show (dig2 s).toArray.size + 1 + (dig2 i).toArray.size ≤ 5
    simp
    omega
  have HO := fun w => Aside0.mk (point_Of.calls (markText s i) w (by omega))
  have hm : markText s i = (⟨(dig2 s).toArray⟩ ++ ⟨#[47]⟩ ++ ⟨(dig2 i).toArray⟩ : ByteArray) := rfl
  unfold markZ
  generalize hashZ (markText s i) = r at HO ⊢
  have hz1 : (⟨(dig2 s).toArray⟩ : ByteArray).size ≤ 2 := by show (dig2 s).toArray.size ≤ 2; simpa using ls
  have hz2 : (⟨(dig2 i).toArray⟩ : ByteArray).size ≤ 2 := by show (dig2 i).toArray.size ≤ 2; simpa using li
  rw [hm] at HO hz
  clear hm ls li
  generalize (⟨(dig2 s).toArray⟩ : ByteArray) = A at HO HS hz hz1
  generalize (⟨(dig2 i).toArray⟩ : ByteArray) = B at HO HI hz hz2
  go_enter Tryd.func52, Tryd.ntmps52
  go_wp2_with (fail)
  refine (HS _).out.mono ?_
  rintro e w1 ⟨rfl, rfl⟩
  go_wp2_with (fail)
  refine (HI _).out.mono ?_
  rintro e w1 ⟨rfl, rfl⟩
  go_wp2_with (fail)
  refine (HO _).out.mono ?_
  rintro e w2 ⟨rfl, hd⟩
  have HD := Aside0.mk hd
  clear hd
  go_wp2
  go_ret
  exact ⟨rfl, HD.out⟩
end Go.Proofs.YtpnoifikpmfpdaaDoor.PAll
