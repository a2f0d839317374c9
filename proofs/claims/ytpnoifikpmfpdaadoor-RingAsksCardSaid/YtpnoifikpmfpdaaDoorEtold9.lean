/-
  The statements' own 'told' of layer 9: it answers true.
-/
import Derived.Test.YtpnoifikpmfpdaaDoorEbuild
import Derived.Test.YtpnoifikpmfpdaaDoorEhalve
import Derived.Test.YtpnoifikpmfpdaaDoorPAllx3
namespace Go.Proofs.YtpnoifikpmfpdaaDoor.PAll
open Go.RowKit Go.Proofs.YtpnoifikpmfpdaaDoorW.PrintWords Go.Proofs.YtpnoifikpmfpdaaDoorW.PrintLast Go.Proofs.YtpnoifikpmfpdaaDoorW.PrintMore
set_option linter.unusedVariables false
set_option linter.unusedSimpArgs false

theorem heap_new (w : World) (o : Obj) : (w.alloc o).heap[w.heap.size]? = some o := by unfold World.alloc; simp only [Array.getElem?_push, if_true]
theorem heap_size (w : World) (o : Obj) : (w.alloc o).heap.size = w.heap.size + 1 := by unfold World.alloc; simp only [Array.size_push]
theorem heap_old (w : World) (o : Obj) (i : Nat) (h : i < w.heap.size) : (w.alloc o).heap[i]? = w.heap[i]? := by
  simp only [World.alloc, Array.getElem?_push]
  rw [if_neg (by omega)]
theorem flat_at : ∀ (xs : List S27) (j : Nat) (p : S27) (i : Nat) (u : Value), xs[j]? = some p → (encA p)[i]? = some u → i < 2 → (xs.flatMap encA)[j * 2 + i]? = some u
  | [], j, p, i, u, hj, _, _ => by simp at hj
  | x :: xs, 0, p, i, u, hj, hi, h2 => by
    simp at hj
    subst hj
    rw [List.flatMap_cons, Nat.zero_mul, Nat.zero_add, List.getElem?_append_left (by simpa [encA] using h2)]
    exact hi
  | x :: xs, j + 1, p, i, u, hj, hi, h2 => by
    rw [List.flatMap_cons, List.getElem?_append_right (by simp [encA]; omega)]
    rw [show (j + 1) * 2 + i - (encA x).length = j * 2 + i from by simp [encA]; omega]
    exact flat_at xs j p i u (by simpa using hj) hi h2
theorem C_block27 {w : World} {b : Nat} {cs : Array Value} {e : TypeId} {fr : Nat × Nat} {xs : List S27} (h : w.heap[b]? = some (.cells cs e fr)) (hn : xs.length ≤ 1000) (hc : cs.toList = xs.flatMap encA) :
    k27.C w (some ⟨b, 0, none⟩) xs.length xs := by
  refine ⟨rfl, by omega, fun _ => ⟨_, rfl, fun j p hj => ⟨encA p, rfl, ?_, ?_⟩⟩⟩
  · exact k27_mk w p
  · intro i u hi
    have hi2 : i < 2 := by
      rcases Nat.lt_or_ge i 2 with h | h
      · exact h
      · rw [List.getElem?_eq_none (by simpa [encA] using h)] at hi; cases hi
    rw [addr_zero]
    simp only [World.cell?, h]
    show cs[j * 2 + i]? = some u
    rw [← Array.getElem?_toList, hc]
    exact flat_at xs j p i u hj hi hi2
theorem C_blockI {w : World} {b : Nat} {cs : Array Value} {e : TypeId} {fr : Nat × Nat} {xs : List Int} (h : w.heap[b]? = some (.cells cs e fr)) (hn : xs.length ≤ 1000) (hc : cs.toList = xs.map (Value.int .i64)) :
    (Kd.int .i64).C w (some ⟨b, 0, none⟩) xs.length xs := by
  refine ⟨rfl, by omega, fun _ => ⟨_, rfl, fun j p hj => ⟨[.int .i64 p], rfl, ?_, ?_⟩⟩⟩
  · rfl
  · intro i u hi
    have hi2 : i = 0 := by
      rcases i with _ | i
      · rfl
      · simp at hi
    subst hi2
    simp at hi
    subst hi
    rw [addr_zero]
    simp only [World.cell?, h]
    show cs[j * 1 + 0]? = _
    rw [← Array.getElem?_toList, hc]
    simp [hj]

def carrefourlaw9_told.f : Option Bool := some true

set_option maxHeartbeats 8000000 in
set_option maxRecDepth 100000 in
theorem carrefourlaw9_told.calls (r : Bool) (w : World) (h : carrefourlaw9_told.f = some r) :
    Calls Tryd.prog 10 #[] w fun e w' => e = .returned (.bool r) ∧ Below w.heap.size w w' := by
  obtain rfl := Option.some.inj h
  clear h
  obtain ⟨r12, hr12, hl12⟩ : ∃ r1, ring_Build.f [1, 2] = some (r1, 0) ∧ r1.length = 24 := by
    have h : (ring_Build.f [1, 2]).map (fun p => (p.1.length, p.2)) = some (24, 0) := by decide +kernel
    obtain ⟨⟨a, b⟩, h1, h2⟩ := Option.map_eq_some_iff.1 h
    simp at h2
    exact ⟨a, by rw [h1, h2.2], h2.1⟩
  have HR12 := Aside0.mk hr12
  have h0 : ring_Build.f [0] = some ([], 1) := by kernel_rfl
  have HR0 := Aside0.mk h0
  have hh : ring_Halve.f [(⟨5, 2⟩ : S27)] 2 3 = some [(⟨5, 2⟩ : S27), ⟨2147483653, 3⟩] := by kernel_rfl
  have HH := Aside0.mk hh
  clear hr12 h0 hh
  go_enter Tryd.func10, Tryd.ntmps10
  go_wp2_with (fail)
  have HL := Aside0.mk (C_block27 (w := (w.alloc (.cells #[.int .u32 5, .int .i64 2] 27)).alloc (.cells #[.int .i64 1, .int .i64 2] 3)) (b := w.heap.size) (xs := [(⟨5, 2⟩ : S27)]) (cs := #[.int .u32 5, .int .i64 2]) (e := 27) (fr := (0, 0)) (by rw [heap_old _ _ _ (by rw [heap_size]; omega)]; exact heap_new _ _) (by decide) rfl)
  have HB := Aside0.mk (((Below.refl w.heap.size w).alloc (Nat.le_refl _) (.cells #[.int .u32 5, .int .i64 2] 27)).alloc (by simp) (.cells #[.int .i64 1, .int .i64 2] 3))
  refine (ring_Build.calls _ 2 [1, 2] r12 0 _ (C_blockI (b := w.heap.size + 1) (cs := #[.int .i64 1, .int .i64 2]) (e := 3) (fr := (0, 0)) (xs := [1, 2]) (by rw [← heap_size w (.cells #[.int .u32 5, .int .i64 2] 27)]; exact heap_new _ _) (by decide) rfl) (by simp) HR12.out).mono ?_
  rintro e w1 ⟨v, rfl, hv, hb⟩
  have HL1 := Aside0.mk (Kd.C_below HL.out hb)
  have HB1 := Aside0.mk (HB.out.trans (hb.mono HB.out.size))
  obtain ⟨A, c, rfl, _, _⟩ := Kd.R_reads hv
  rw [hl12]
  clear hv hb HL HB
  go_wp2_with (fail)
  have HL2 := Aside0.mk (Kd.C_alloc HL1.out (.cells #[.int .i64 0] 3))
  have HB2 := Aside0.mk (HB1.out.alloc (HB1.out.size) (.cells #[.int .i64 0] 3))
  refine (ring_Build.calls _ 1 [0] [] 1 _ (C_blockI (b := w1.heap.size) (cs := #[.int .i64 0]) (e := 3) (fr := (0, 0)) (xs := [0]) (heap_new _ _) (by decide) rfl) (by simp) HR0.out).mono ?_
  rintro e w2 ⟨v2, rfl, hv, hb⟩
  have HL3 := Aside0.mk (Kd.C_below HL2.out hb)
  have HB3 := Aside0.mk (HB2.out.trans (hb.mono HB2.out.size))
  clear hv hb HL1 HB1 HL2 HB2
  go_wp2_with (fail)
  refine (ring_Halve.calls _ 1 [(⟨5, 2⟩ : S27)] 2 3 _ _ HL3.out (by simp) HH.out).mono ?_
  rintro e w3 ⟨v3, rfl, hv, hb⟩
  have HL4 := Aside0.mk (Kd.C_below HL3.out hb)
  have HB4 := Aside0.mk (HB3.out.trans (hb.mono HB3.out.size))
  obtain ⟨A3, c3, rfl, hc3, hC⟩ := Kd.R_reads hv
  have HC3 := Aside0.mk hC
  have HCc := Aside0.mk hc3
  clear hv hb HL3 HB3 hC hc3
  go_wp2_with (fail)
  refine (ring_Owner.calls 10 _ 1 [(⟨5, 2⟩ : S27)] 3 2 _ HL4.out (by simp) (by decide +kernel)).mono ?_
  rintro e w4 ⟨rfl, hb⟩
  have HL5 := Aside0.mk (Kd.C_below HL4.out hb)
  have HC4 := Aside0.mk (Kd.C_below HC3.out hb)
  have HB5 := Aside0.mk (HB4.out.trans (hb.mono HB4.out.size))
  clear hb HL4 HB4 HC3
  go_wp2_with (fail)
  refine (ring_Width.calls 10 _ 1 [(⟨5, 2⟩ : S27)] 0 4294967296 _ HL5.out (by simp) (by decide +kernel)).mono ?_
  rintro e w5 ⟨rfl, hb⟩
  have HL6 := Aside0.mk (Kd.C_below HL5.out hb)
  have HC5 := Aside0.mk (Kd.C_below HC4.out hb)
  have HB6 := Aside0.mk (HB5.out.trans (hb.mono HB5.out.size))
  clear hb HL5 HB5 HC4
  go_wp2_with (fail)
  refine (ring_Share.calls 10 _ 1 [(⟨5, 2⟩ : S27)] 2 4294967296 _ HL6.out (by simp) (by decide +kernel)).mono ?_
  rintro e w6 ⟨rfl, hb⟩
  have HL7 := Aside0.mk (Kd.C_below HL6.out hb)
  have HC6 := Aside0.mk (Kd.C_below HC5.out hb)
  have HB7 := Aside0.mk (HB6.out.trans (hb.mono HB6.out.size))
  clear hb HL6 HB6 HC5
  go_wp2_with (fail)
  refine (ring_Owner.calls 10 _ c3 [(⟨5, 2⟩ : S27), ⟨2147483653, 3⟩] 2147483653 3 _ HC6.out HCc.out (by decide +kernel)).mono ?_
  rintro e w7 ⟨rfl, hb⟩
  have HL8 := Aside0.mk (Kd.C_below HL7.out hb)
  have HC7 := Aside0.mk (Kd.C_below HC6.out hb)
  have HB8 := Aside0.mk (HB7.out.trans (hb.mono HB7.out.size))
  clear hb HL7 HB7 HC6
  go_wp2_with (fail)
  refine (ring_Owner.calls 10 _ c3 [(⟨5, 2⟩ : S27), ⟨2147483653, 3⟩] 2147483652 2 _ HC7.out HCc.out (by decide +kernel)).mono ?_
  rintro e w8 ⟨rfl, hb⟩
  have HL9 := Aside0.mk (Kd.C_below HL8.out hb)
  have HC8 := Aside0.mk (Kd.C_below HC7.out hb)
  have HB9 := Aside0.mk (HB8.out.trans (hb.mono HB8.out.size))
  clear hb HL8 HB8 HC7
  go_wp2_with (fail)
  refine (ring_May.calls 10 _ 1 [(⟨5, 2⟩ : S27)] true _ HL9.out (by simp) (by decide +kernel)).mono ?_
  rintro e w9 ⟨rfl, hb⟩
  have HL10 := Aside0.mk (Kd.C_below HL9.out hb)
  have HC9 := Aside0.mk (Kd.C_below HC8.out hb)
  have HB10 := Aside0.mk (HB9.out.trans (hb.mono HB9.out.size))
  clear hb HL9 HB9 HC8
  go_wp2_with (fail)
  refine (ring_May.calls 10 none 0 ([] : List S27) false _ (Kd.C_nil _ _) (by simp) (by decide +kernel)).mono ?_
  rintro e w10 ⟨rfl, hb⟩
  have HL11 := Aside0.mk (Kd.C_below HL10.out hb)
  have HC10 := Aside0.mk (Kd.C_below HC9.out hb)
  have HB11 := Aside0.mk (HB10.out.trans (hb.mono HB10.out.size))
  clear hb HL10 HB10 HC9
  go_wp2_with (fail)
  refine (ring_Owner.calls 10 none 0 ([] : List S27) 0 (-1) _ (Kd.C_nil _ _) (by simp) (by decide +kernel)).mono ?_
  rintro e w11 ⟨rfl, hb⟩
  have HL12 := Aside0.mk (Kd.C_below HL11.out hb)
  have HC11 := Aside0.mk (Kd.C_below HC10.out hb)
  have HB12 := Aside0.mk (HB11.out.trans (hb.mono HB11.out.size))
  clear hb HL11 HB11 HC10
  go_wp2
  go_ret
  exact ⟨rfl, HB12.out⟩
end Go.Proofs.YtpnoifikpmfpdaaDoor.PAll
