/-
  RingQuarters in plain words, and laws about shares.
-/
import Derived.Test.YtpnoifikpmfpdaaDoorPAllx10
import Derived.Test.YtpnoifikpmfpdaaDoorEown
namespace Go.Proofs.YtpnoifikpmfpdaaDoor.PAll
open Go.RowKit Go.Proofs.YtpnoifikpmfpdaaDoorW.PrintWords Go.Proofs.YtpnoifikpmfpdaaDoorW.PrintLast Go.Proofs.YtpnoifikpmfpdaaDoorW.PrintMore
set_option linter.unusedVariables false
set_option linter.unusedSimpArgs false

theorem rd_nat (l : List S27) (i : Nat) : rd_T27 l (i : Int) = l.getD i z27 := by simp [rd_T27]
def shareGo (l : List S27) (s : Int) : Nat → Nat → Int → Int
  | 0, _, x => x
  | d + 1, i, x => shareGo l s d (i + 1) (if (l.getD i z27).f1 = s then IntKind.u64.wrap (x + widthZ l i) else x)
theorem share_l0 (l : List S27) (s : Int) (hn : l.length ≤ 1024) : ∀ (d k i : Nat) (x : Int), l.length - i = d → i ≤ l.length → d < k →
    ring_Share.l0 k l s x l (l.length : Int) (i : Int) = some (shareGo l s d i x)
  | 0, k, i, x, hd, hi, hk => by
    obtain ⟨k, rfl⟩ : ∃ m, k = m + 1 := ⟨k - 1, by omega⟩
    simp only [ring_Share.l0, shareGo]
    rw [if_neg (by omega)]
  | d + 1, k, i, x, hd, hi, hk => by
    obtain ⟨k, rfl⟩ : ∃ m, k = m + 1 := ⟨k - 1, by omega⟩
    have hlt : i < l.length := by omega
    have hw : wrap64 ((i : Int) + 1) = ((i + 1 : Nat) : Int) := by unfold wrap64; omega
    have ih := fun x => share_l0 l s hn d k (i + 1) x (by omega) (by omega) (by omega)
    simp only [ring_Share.l0, shareGo]
    rw [if_pos (by omega), if_pos (by omega), if_pos (by omega), hw, ring_width_f l i hlt hn]
    rw [rd_nat, Option.bind_some]
    by_cases hc : (l.getD i z27).f1 = s
    · rw [if_pos hc, if_pos hc]; exact ih _
    · rw [if_neg hc, if_neg hc]; exact ih _
def shareZ (l : List S27) (s : Int) : Int := if arcsOK l = true then shareGo l s l.length 0 0 else 0
theorem share_f (l : List S27) (s : Int) (k : Nat) (hk : 1100 ≤ k) : ring_Share.f k l s = some (shareZ l s) := by
  unfold ring_Share.f shareZ
  rw [ring_May_f l k hk]
  simp only [Option.bind_some]
  split
  · rename_i h
    obtain ⟨h1, h2, h3⟩ := arcs_facts h
    exact share_l0 l s h2 l.length k 0 0 rfl (by omega) (by omega)
  · rfl
theorem same_l0 (l : List S27) (hn : l.length ≤ 100000) : ∀ (d k i : Nat), l.length - i = d → i ≤ l.length → d < k →
    carrefourref1_SameArcs.l0 k l l (i : Int) = some true
  | 0, k, i, hd, hi, hk => by
    obtain ⟨k, rfl⟩ : ∃ m, k = m + 1 := ⟨k - 1, by omega⟩
    simp only [carrefourref1_SameArcs.l0]
    rw [if_neg (by omega)]
  | d + 1, k, i, hd, hi, hk => by
    obtain ⟨k, rfl⟩ : ∃ m, k = m + 1 := ⟨k - 1, by omega⟩
    have hw : wrap64 ((i : Int) + 1) = ((i + 1 : Nat) : Int) := by unfold wrap64; omega
    simp only [carrefourref1_SameArcs.l0]
    rw [if_pos (by omega), if_pos (by omega), if_pos (by omega), hw, if_neg (by simp)]
    exact same_l0 l hn d k (i + 1) (by omega) (by omega) (by omega)
theorem same_f (l : List S27) (k : Nat) (hn : l.length ≤ 100000) (hk : 100001 ≤ k) : carrefourref1_SameArcs.f k l l = some true := by
  unfold carrefourref1_SameArcs.f
  rw [if_pos rfl]
  exact same_l0 l hn l.length k 0 rfl (by omega) (by omega)

theorem rises2 {a b : S27} (h : a.f0 < b.f0) : risesB [a, b] = true := by simp [risesB, h]
theorem rises3 {a b c : S27} (h : a.f0 < b.f0) (h2 : b.f0 < c.f0) : risesB [a, b, c] = true := by simp [risesB, h, h2]
theorem ok1 {a : S27} (h : 0 ≤ a.f1 ∧ a.f1 < 16) : arcsOK [a] = true := by simp [arcsOK, risesB, h]
theorem ok2 {a b : S27} (ha : 0 ≤ a.f1 ∧ a.f1 < 16) (hb : 0 ≤ b.f1 ∧ b.f1 < 16) (h : a.f0 < b.f0) : arcsOK [a, b] = true := by simp [arcsOK, risesB, h, ha, hb]
theorem ok3 {a b c : S27} (ha : 0 ≤ a.f1 ∧ a.f1 < 16) (hb : 0 ≤ b.f1 ∧ b.f1 < 16) (hc : 0 ≤ c.f1 ∧ c.f1 < 16) (h : a.f0 < b.f0) (h2 : b.f0 < c.f0) : arcsOK [a, b, c] = true := by simp [arcsOK, risesB, h, h2, ha, hb, hc]

theorem halve_f {l out r : List S27} {s o : Int} (h1 : arcsOK l = true) (ho : 0 ≤ o ∧ o < 16) (h2 : halfAll l s o l.length = out) (h3 : out.length ≤ 1024) (h4 : sortArcs out = r) (h5 : risesB r = true) : ring_Halve.f l s o = some r := by
  unfold ring_Halve.f
  rw [if_neg (by simp [h1]; omega), h2, h4, if_pos h5, if_neg (by omega)]

theorem sort2 (a b : S27) : sortArcs [a, b] = if a.f0 ≤ b.f0 then [a, b] else [b, a] := by simp [sortArcs, insArc]
theorem half1 (at_ a b : Int) (hat : 0 ≤ at_ ∧ at_ < 4294967296) : halfAll [⟨at_, a⟩] a b 1 = [⟨at_, a⟩, ⟨(at_ + 2147483648) % 4294967296, b⟩] := by
  simp [halfAll, halfNew, widthZ]
/-- The arcs after the first halving. -/
theorem first_half (p a b : Int) (hp : 0 ≤ p ∧ p < 4294967296) (ha : 0 ≤ a ∧ a < 16) (hb : 0 ≤ b ∧ b < 16) :
    ring_Halve.f [⟨p, a⟩] a b = some (if p < 2147483648 then [⟨p, a⟩, ⟨p + 2147483648, b⟩] else [⟨p - 2147483648, b⟩, ⟨p, a⟩]) := by
  refine halve_f (ok1 ha) hb (half1 p a b hp) (by simp) (sort2 _ _) ?_ |>.trans ?_
  · simp only
    split <;> exact rises2 (by simp only; omega)
  · by_cases h : p < 2147483648
    · rw [if_pos h, if_pos (by simp only; omega)]
      rw [show (p + 2147483648) % 4294967296 = p + 2147483648 by omega]
    · rw [if_neg h, if_neg (by simp only; omega)]
      rw [show (p + 2147483648) % 4294967296 = p - 2147483648 by omega]
theorem range2 : List.range 2 = [0, 1] := rfl
theorem half2 (u v : S27) (s o : Int) : halfAll [u, v] s o 2 = [u, v] ++ (halfNew [u, v] s o 0 ++ halfNew [u, v] s o 1) := by
  simp [halfAll, range2]
theorem w20 (u v : S27) : widthZ [u, v] 0 = (v.f0 - u.f0) % 4294967296 := by simp [widthZ]
theorem w21 (u v : S27) : widthZ [u, v] 1 = (u.f0 - v.f0) % 4294967296 := by simp [widthZ]
theorem w30 (u v x : S27) : widthZ [u, v, x] 0 = (v.f0 - u.f0) % 4294967296 := by simp [widthZ]
theorem w31 (u v x : S27) : widthZ [u, v, x] 1 = (x.f0 - v.f0) % 4294967296 := by simp [widthZ]
theorem w32 (u v x : S27) : widthZ [u, v, x] 2 = (u.f0 - x.f0) % 4294967296 := by simp [widthZ]
theorem hn20 (u v : S27) (s o : Int) : halfNew [u, v] s o 0 = if u.f1 = s ∧ 2 ≤ (v.f0 - u.f0) % 4294967296 then [⟨(u.f0 + (v.f0 - u.f0) % 4294967296 / 2) % 4294967296, o⟩] else [] := by
  unfold halfNew; rw [w20]; rfl
theorem hn21 (u v : S27) (s o : Int) : halfNew [u, v] s o 1 = if v.f1 = s ∧ 2 ≤ (u.f0 - v.f0) % 4294967296 then [⟨(v.f0 + (u.f0 - v.f0) % 4294967296 / 2) % 4294967296, o⟩] else [] := by
  unfold halfNew; rw [w21]; rfl
theorem sort3a (u v x : S27) (h1 : u.f0 < v.f0) (h2 : v.f0 < x.f0) : sortArcs [u, v, x] = [u, v, x] := by
  simp only [sortArcs, insArc]; rw [if_pos (by omega)]; simp only [insArc]; rw [if_pos (by omega)]
theorem sort3b (u v x : S27) (h1 : u.f0 < v.f0) (h2 : x.f0 < u.f0) : sortArcs [u, v, x] = [x, u, v] := by
  simp only [sortArcs, insArc]; rw [if_neg (by omega)]; simp only [insArc]; rw [if_neg (by omega), if_pos (by omega)]
theorem sort3c (u v x : S27) (h1 : u.f0 < x.f0) (h2 : x.f0 < v.f0) : sortArcs [u, v, x] = [u, x, v] := by
  simp only [sortArcs, insArc]; rw [if_neg (by omega)]; simp only [insArc]; rw [if_pos (by omega)]
theorem share3 (u v x : S27) (s : Int) (h : arcsOK [u, v, x] = true) : shareZ [u, v, x] s =
    (let a := if u.f1 = s then IntKind.u64.wrap (0 + (v.f0 - u.f0) % 4294967296) else 0
     let b := if v.f1 = s then IntKind.u64.wrap (a + (x.f0 - v.f0) % 4294967296) else a
     if x.f1 = s then IntKind.u64.wrap (b + (u.f0 - x.f0) % 4294967296) else b) := by
  unfold shareZ
  rw [if_pos h]
  simp only [List.length_cons, List.length_nil, shareGo, w30, show widthZ [u, v, x] (0 + 1) = _ from w31 u v x, show widthZ [u, v, x] (0 + 1 + 1) = _ from w32 u v x]
  rfl
theorem halve_self2 (u v : S27) (s : Int) (h : u.f0 < v.f0) (ha : 0 ≤ u.f1 ∧ u.f1 < 16) (hb : 0 ≤ v.f1 ∧ v.f1 < 16) (hs : 0 ≤ s ∧ s < 16) (h1 : u.f1 ≠ s) (h2 : v.f1 ≠ s) : ring_Halve.f [u, v] s s = some [u, v] := by
  refine halve_f (ok2 ha hb h) hs (by rw [show [u, v].length = 2 from rfl, half2, hn20, hn21, if_neg (fun g => h1 g.1), if_neg (fun g => h2 g.1)]) (by simp) ?_ (rises2 h)
  show sortArcs [u, v] = _
  rw [sort2, if_pos (by omega)]

/-- What the law asks of the arcs after the second halving. -/
def Quart (l m : List S27) (x y z : Int) : Prop := ring_Halve.f l y z = some m ∧ l.length = 2 ∧ m.length = 3 ∧ shareZ m x = 2147483648 ∧ shareZ m y = 1073741824 ∧ shareZ m z = 1073741824 ∧ ring_Halve.f l z z = some l
theorem quart_a (p x y z : Int) (hp : 0 ≤ p ∧ p < 2147483648) (hx : 0 ≤ x ∧ x < 16) (hy : 0 ≤ y ∧ y < 16) (hz : 0 ≤ z ∧ z < 16) (h1 : x ≠ y) (h2 : y ≠ z) (h3 : x ≠ z) :
    ∃ m, Quart [⟨p, x⟩, ⟨p + 2147483648, y⟩] m x y z := by
  have e : halfAll [(⟨p, x⟩ : S27), ⟨p + 2147483648, y⟩] y z 2 = [⟨p, x⟩, ⟨p + 2147483648, y⟩, ⟨(p + 3221225472) % 4294967296, z⟩] := by
    rw [half2, hn20, hn21, if_neg (fun g => h1 g.1), if_pos ⟨rfl, by simp only; omega⟩]
    simp only [List.nil_append, List.cons_append]
    rw [show (p + 2147483648 + (p - (p + 2147483648)) % 4294967296 / 2) % 4294967296 = (p + 3221225472) % 4294967296 by omega]
  have hself := halve_self2 ⟨p, x⟩ ⟨p + 2147483648, y⟩ z (by simp only; omega) hx hy hz h3 h2
  by_cases hlt : p < 1073741824
  · have e2 : (p + 3221225472) % 4294967296 = p + 3221225472 := by omega
    rw [e2] at e
    have ok : arcsOK [(⟨p, x⟩ : S27), ⟨p + 2147483648, y⟩, ⟨p + 3221225472, z⟩] = true := ok3 hx hy hz (by simp only; omega) (by simp only; omega)
    refine ⟨_, halve_f (ok2 hx hy (by simp only; omega)) hz e (by simp) (sort3a _ _ _ (by simp only; omega) (by simp only; omega)) (rises3 (by simp only; omega) (by simp only; omega)), rfl, rfl, ?_, ?_, ?_, hself⟩ <;> rw [share3 _ _ _ _ ok] <;> simp only [if_true, if_neg h1, if_neg h2, if_neg h3, if_neg (Ne.symm h1), if_neg (Ne.symm h2), if_neg (Ne.symm h3), IntKind.wrap_u64] <;> omega
  · have e2 : (p + 3221225472) % 4294967296 = p - 1073741824 := by omega
    rw [e2] at e
    have ok : arcsOK [(⟨p - 1073741824, z⟩ : S27), ⟨p, x⟩, ⟨p + 2147483648, y⟩] = true := ok3 hz hx hy (by simp only; omega) (by simp only; omega)
    refine ⟨_, halve_f (ok2 hx hy (by simp only; omega)) hz e (by simp) (sort3b _ _ _ (by simp only; omega) (by simp only; omega)) (rises3 (by simp only; omega) (by simp only; omega)), rfl, rfl, ?_, ?_, ?_, hself⟩ <;> rw [share3 _ _ _ _ ok] <;> simp only [if_true, if_neg h1, if_neg h2, if_neg h3, if_neg (Ne.symm h1), if_neg (Ne.symm h2), if_neg (Ne.symm h3), IntKind.wrap_u64] <;> omega
theorem quart_b (p x y z : Int) (hp : 2147483648 ≤ p ∧ p < 4294967296) (hx : 0 ≤ x ∧ x < 16) (hy : 0 ≤ y ∧ y < 16) (hz : 0 ≤ z ∧ z < 16) (h1 : x ≠ y) (h2 : y ≠ z) (h3 : x ≠ z) :
    ∃ m, Quart [⟨p - 2147483648, y⟩, ⟨p, x⟩] m x y z := by
  have e : halfAll [(⟨p - 2147483648, y⟩ : S27), ⟨p, x⟩] y z 2 = [⟨p - 2147483648, y⟩, ⟨p, x⟩, ⟨p - 1073741824, z⟩] := by
    rw [half2, hn20, hn21, if_pos ⟨rfl, by simp only; omega⟩, if_neg (fun g => h1 g.1)]
    simp only [List.append_nil, List.cons_append, List.nil_append]
    rw [show (p - 2147483648 + (p - (p - 2147483648)) % 4294967296 / 2) % 4294967296 = p - 1073741824 by omega]
  have hself := halve_self2 ⟨p - 2147483648, y⟩ ⟨p, x⟩ z (by simp only; omega) hy hx hz h2 h3
  have ok : arcsOK [(⟨p - 2147483648, y⟩ : S27), ⟨p - 1073741824, z⟩, ⟨p, x⟩] = true := ok3 hy hz hx (by simp only; omega) (by simp only; omega)
  refine ⟨_, halve_f (ok2 hy hx (by simp only; omega)) hz e (by simp) (sort3c _ _ _ (by simp only; omega) (by simp only; omega)) (rises3 (by simp only; omega) (by simp only; omega)), rfl, rfl, ?_, ?_, ?_, hself⟩ <;> rw [share3 _ _ _ _ ok] <;> simp only [if_true, if_neg h1, if_neg h2, if_neg h3, if_neg (Ne.symm h1), if_neg (Ne.symm h2), if_neg (Ne.symm h3), IntKind.wrap_u64] <;> omega

theorem told9_true : carrefourlaw9_told.f = some true := by decide +kernel
theorem quart_j0 (k : Nat) (hk : 100001 ≤ k) (p x y z : Int) (hp : 0 ≤ p ∧ p < 4294967296) (hx : 0 ≤ x ∧ x < 16) (hy : 0 ≤ y ∧ y < 16) (hz : 0 ≤ z ∧ z < 16) (b : Bool) (h1 : b = false → x ≠ y ∧ y ≠ z ∧ x ≠ z) :
    carrefourlaw9_RingQuarters.j0 (k + 1) p x y z b = some true := by
  simp only [carrefourlaw9_RingQuarters.j0]
  rw [told9_true]
  cases b with
  | true => rw [if_pos rfl]; rfl
  | false =>
    obtain ⟨g1, g2, g3⟩ := h1 rfl
    rw [if_neg (by decide), first_half p x y hp hx hy]
    simp only [Option.bind_some]
    obtain ⟨m, q1, q2, q3, q4, q5, q6, q7⟩ : ∃ m, Quart (if p < 2147483648 then [⟨p, x⟩, ⟨p + 2147483648, y⟩] else [⟨p - 2147483648, y⟩, ⟨p, x⟩]) m x y z := by
      split
      · exact quart_a p x y z ⟨hp.1, by omega⟩ hx hy hz g1 g2 g3
      · exact quart_b p x y z ⟨by omega, hp.2⟩ hx hy hz g1 g2 g3
    rw [q1]
    simp only [Option.bind_some]
    rw [if_pos trivial, if_pos (by omega), if_pos (by omega), share_f m x k (by omega), q4]
    simp only [Option.bind_some]
    rw [if_pos trivial, share_f m y k (by omega), q5]
    simp only [Option.bind_some]
    rw [if_pos trivial, share_f m z k (by omega), q6]
    simp only [Option.bind_some]
    rw [if_pos trivial, q7]
    simp only [Option.bind_some]
    rw [same_f _ k (by omega) hk]
    rfl
theorem mod16 (a : Int) : 0 ≤ wrap64 (Int.tmod (IntKind.u64.wrap a) 16) ∧ wrap64 (Int.tmod (IntKind.u64.wrap a) 16) < 16 := by
  rw [IntKind.wrap_u64, Int.tmod_eq_emod_of_nonneg (by omega)]
  unfold wrap64
  omega
theorem RingQuarters.pure : carrefourlaw9_RingQuarters.Pure := by
  intro p a b c hp _ _ _
  have hp' : 0 ≤ p ∧ p < 4294967296 := by
    simp [Lit.wf, IntKind.min, IntKind.max, IntKind.signed, IntKind.bits] at hp
    exact ⟨by omega, by omega⟩
  refine ⟨100002, ?_⟩
  unfold carrefourlaw9_RingQuarters.f
  have ha := mod16 a
  have hb := mod16 b
  have hc := mod16 c
  generalize wrap64 (Int.tmod (IntKind.u64.wrap a) 16) = x at ha ⊢
  generalize wrap64 (Int.tmod (IntKind.u64.wrap b) 16) = y at hb ⊢
  generalize wrap64 (Int.tmod (IntKind.u64.wrap c) 16) = z at hc ⊢
  split
  · exact quart_j0 100001 (by omega) p x y z hp' ha hb hc true (fun h => by cases h)
  · split
    · exact quart_j0 100001 (by omega) p x y z hp' ha hb hc true (fun h => by cases h)
    · rename_i g1 g2
      exact quart_j0 100001 (by omega) p x y z hp' ha hb hc _ (fun h => ⟨g1, g2, by simpa using h⟩)
end Go.Proofs.YtpnoifikpmfpdaaDoor.PAll
