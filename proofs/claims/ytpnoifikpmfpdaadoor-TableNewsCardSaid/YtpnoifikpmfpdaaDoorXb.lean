/-
  A RUN OF A GO FUNCTION OVER A SMALL PICTURE OF MEMORY, second part: regions, code, calls: a run that answers true is a call that answers true and leaves what was there as it was.
-/
import Derived.Test.YtpnoifikpmfpdaaDoorXa
namespace Go.Proofs.YtpnoifikpmfpdaaDoorX
open Go
set_option linter.unusedVariables false
set_option linter.unusedSimpArgs false
noncomputable section

theorem EOk.quiet {P : Program} {s : Sg} {h : H} {w : World} {e : Sem Next} {v : AV} (k : HR s h w) (q : ∃ v', e.run P w = .ok (.value v') w ∧ VR s v v') : EOk P s h w e v h := by
  obtain ⟨v', h1, h2⟩ := q
  exact ⟨s, v', w, .inl h1, k, Grows.refl _ _ _, h2⟩

theorem EOk.make {P : Program} {s : Sg} {h : H} {w : World} {e : Sem Next} {ob : AO} {mk : Id → AV} (k : HR s h w) (q : MOk P s e ob mk) : EOk P s h w e (mk h.nx) ⟨T.put (some ob) h.nx h.t, inc h.nx⟩ := by
  obtain ⟨lim, o, v', w', h1, h2, h3, h4⟩ := q w
  have hp : ¬ Pic s h w.heap.size := fun ⟨b, x, l, hb, hl, e⟩ => by
    obtain ⟨l', hl', hob⟩ := k.live b x hb
    rw [hl] at hl'; cases hl'
    have := hob.lt
    omega
  obtain ⟨s', q1, q2, q3, q4, q5⟩ := k.name ob ⟨w.heap.size, 0, lim⟩ h.nx ⟨T.put (some ob) h.nx h.t, inc h.nx⟩ (by show num h.nx < num (inc h.nx); rw [num_inc]; omega) (Nat.le_refl _) (by show num h.nx ≤ num (inc h.nx); rw [num_inc]; omega) rfl w'
    (fun c hc _ => h2.old c hc) hp (fun s' hs => h3 s' w' hs h2.new)
  exact ⟨s', v', w', .inl h1, q1, ⟨q3, q4, by show num h.nx ≤ num (inc h.nx); rw [num_inc]; omega, h2.os, h2.tape, h2.output, by rw [h2.size]; omega, fun c hc _ => h2.old c hc, fun c hc => (q5 c hc).imp id fun e => by subst e; exact Nat.le_refl _⟩, h4 s' h.nx q3 q2⟩

/-- Behind a call. -/
def Post (s : Sg) (h : H) (w : World) (v : AV) (h' : H) (e : Ending) (w' : World) : Prop :=
  ∃ s' v', e = .returned v' ∧ HR s' h' w' ∧ Grows s h w s' h' w' ∧ VR s' v v'

/-- Calls by K are calls. -/
def KOk (P : Program) (K : CallF) : Prop :=
  ∀ g args h v h', K g args h = some (v, h') → ∀ s w args', HR s h w → VRs s args args' →
    (∃ f2 args2, (callFunc g ⟨args'⟩).run P w = .ok (.enter f2 args2) w ∧ Calls P f2 args2 w (Post s h w v h')) ∨
    (∃ v' w', (callFunc g ⟨args'⟩).run P w = .ok (.value v') w' ∧ Post s h w v h' (.returned v') w')

/-- Is an operation a call of a function? -/
def isFn (o : Oper) : Bool :=
  match o.op with
  | .call c => (match c.callee with | .value _ => true | _ => false)
  | _ => false

theorem run_call {P : Program} {w : World} (ρ : Operand → Value) (dst : Option Tmp) (f : Operand) (args : Array Operand) (ats : Array TypeId) (type : TypeId) (pos : String) (after : Array Edge) (guard : Option (Nat × Bool)) {g : Nat} {fs cs : List Value}
    (hf : ρ f = .func (.func g) ⟨fs⟩ ⟨cs⟩) : (execOp ρ ⟨dst, .call ⟨.value f, args, ats⟩, type, pos, after, guard⟩).run P w = (callFunc g ⟨fs ++ args.toList.map ρ ++ cs⟩).run P w := by
  have : (⟨fs⟩ : Array Value) ++ args.map ρ ++ ⟨cs⟩ = ⟨fs ++ args.toList.map ρ ++ cs⟩ := by apply Array.ext'; simp
  simp only [execOp, resolve, hf, Deferred.ofValue, Sem.run_bind, Sem.run_pure, Result.andThen_ok, invoke, this]

/-- An operation that is no call of a function. -/
theorem eop_ok {P : Program} {K : CallF} {s : Sg} {n : Nat} {fr : Fr} {a : Act} {h h' : H} {w : World} {o : Oper} {v : AV} (k : FR s n fr a) (hr : HR s h w) (hc : isFn o = false) (e : xop P K fr h o = some (v, h')) : EOk P s h w (execOp a.eval o) v h' := by
  by_cases h0 : classOf P o = 0
  · obtain ⟨h1, v', h2, h3⟩ := q0_ok k h0 e
    subst h1
    exact EOk.quiet hr ⟨v', h2 w, h3⟩
  by_cases h3 : classOf P o = 3
  · obtain ⟨h1, h2⟩ := q3_ok k hr h3 e
    subst h1
    exact EOk.quiet hr h2
  by_cases h1 : classOf P o = 1
  · obtain ⟨ob, mk, h2, h4⟩ := m_ok k h1 e
    rw [h2] at e
    have e := Option.some.inj e
    cases e
    exact EOk.make hr h4
  obtain ⟨dst, op, type, pos, after, guard⟩ := o
  cases op
  case store t x y =>
    replace e : opStore t x y P K type fr h = some (v, h') := e
    simp only [opStore] at e
    split at e
    · rename_i hx hy
      split at e
      · rename_i h2 hs
        cases e
        exact xstore_ok hr hs (ev_ok k hx) (ev_ok k hy)
      · cases e
    · cases e
  case mapUpdate t m i x =>
    replace e : opMapUpdate t m i x P K type fr h = some (v, h') := e
    simp only [opMapUpdate] at e
    split at e
    · rename_i hx hy hz
      split at e
      · rename_i h2 hs
        cases e
        exact xmapUpdate_ok hr hs (ev_ok k hx) (ev_ok k hy) (ev_ok k hz)
      · cases e
    · cases e
  case insert t m i x =>
    replace e : opInsert t m i x P K type fr h = some (v, h') := e
    simp only [opInsert] at e
    split at e
    · rename_i hx hy hz
      split at e
      · rename_i h2 hs
        cases e
        exact xmapUpdate_ok hr hs (ev_ok k hx) (ev_ok k hy) (ev_ok k hz)
      · cases e
    · cases e
  case mapEntry t m i =>
    replace e : opMapEntry t m i P K type fr h = some (v, h') := e
    simp only [opMapEntry] at e
    split at e
    · rename_i hx hy
      exact xmapEntry_ok hr e (ev_ok k hx) (ev_ok k hy)
    · cases e
  case entryStore t m i x =>
    replace e : opEntryStore t m i x P K type fr h = some (v, h') := e
    simp only [opEntryStore] at e
    split at e
    · rename_i hx hy hz
      split at e
      · rename_i h2 hs
        cases e
        exact xentryStore_ok hr hs (ev_ok k hx) (ev_ok k hy) (ev_ok k hz)
      · cases e
    · cases e
  case range t x =>
    replace e : opRange t x P K type fr h = some (v, h') := e
    simp only [opRange] at e
    split at e
    · rename_i hx
      exact xrange_ok hr e (ev_ok k hx)
    · cases e
  case next x b =>
    replace e : opNext x b P K type fr h = some (v, h') := e
    simp only [opNext] at e
    split at e
    · rename_i hx
      exact xnext_ok hr e (ev_ok k hx)
    · cases e
  case entry x =>
    replace e : opEntry x P K type fr h = some (v, h') := e
    simp only [opEntry] at e
    split at e
    · rename_i hx
      obtain ⟨e1, e2⟩ := val_some e
      subst e2
      obtain ⟨v', q1, q2⟩ := xentry_ok (P := P) hr e1 (ev_ok k hx)
      exact EOk.quiet hr ⟨v', by simp only [execOp, Sem.run_bind, q1, Result.andThen_ok, Sem.run_pure], q2⟩
    · cases e
  case call c =>
    obtain ⟨callee, args, ats⟩ := c
    cases callee
    case builtin b =>
      replace e : callB b ⟨.builtin b, args, ats⟩ P type fr h = some (v, h') := e
      simp only [callB] at e
      split at e
      · rename_i l hl
        have hargs := evAll_ok k hl
        obtain ⟨cs, hrun⟩ := run_callB (P := P) a.eval dst b args ats type pos after guard
        have fin : ∀ {v h'}, EOk P s h w (builtin b ats type cs (args.toList.map a.eval).toArray) v h' → EOk P s h w (execOp a.eval ⟨dst, .call ⟨.builtin b, args, ats⟩, type, pos, after, guard⟩) v h' := fun ⟨s', v', w', q1, q2⟩ => ⟨s', v', w', by rw [hrun w]; exact q1, q2⟩
        cases b
        case append =>
          rcases l with _ | ⟨x, _ | ⟨y, _ | ⟨z, l⟩⟩⟩ <;> (try cases e; done)
          obtain ⟨x', y', hxy, hx, hy⟩ := hargs.two
          refine fin ?_
          rw [hxy]
          exact xappend_ok hr (show xappend P ats x y h = some (v, h') from e) hx hy
        case copy =>
          rcases l with _ | ⟨x, _ | ⟨y, _ | ⟨z, l⟩⟩⟩ <;> (try cases e; done)
          obtain ⟨x', y', hxy, hx, hy⟩ := hargs.two
          refine fin ?_
          rw [hxy]
          exact xcopy_ok hr (show xcopy P ats x y h = some (v, h') from e) hx hy
        case clear =>
          rcases l with _ | ⟨x, _ | ⟨y, l⟩⟩ <;> (try cases e; done)
          obtain ⟨x', hx', hx⟩ := hargs.one
          refine fin ?_
          rw [hx']
          exact xclear_ok hr (show xclear P ats x h = some (v, h') from e) hx
        case delete =>
          rcases l with _ | ⟨x, _ | ⟨y, _ | ⟨z, l⟩⟩⟩ <;> (try cases e; done)
          obtain ⟨x', y', hxy, hx, hy⟩ := hargs.two
          refine fin ?_
          rw [hxy]
          simp only [xbuiltin] at e
          split at e
          · rename_i t ht
            split at e
            · rename_i h2 hd
              cases e
              exact xdelete_ok hr ht hd hx hy
            · cases e
          · cases e
        case len => exact (h3 rfl).elim
        case min => exact (h0 rfl).elim
        case max => exact (h0 rfl).elim
        case complex => exact (h0 rfl).elim
        case real => exact (h0 rfl).elim
        case imag => exact (h0 rfl).elim
        all_goals (rcases l with _ | ⟨x, _ | ⟨y, _ | ⟨z, l⟩⟩⟩ <;> cases e)
      · cases e
    case value f => cases hc
    case invoke r m => cases e
  all_goals first
    | exact (h0 rfl).elim
    | exact (h1 rfl).elim
    | exact (h3 rfl).elim
    | (cases e; done)
    | skip
  case convert src dst x =>
    exfalso
    simp only [classOf] at h1 h3
    split at h1
    · exact h1 rfl
    · rename_i hne
      split at h3
      · rename_i e he; exact hne e he
      · exact h3 rfl
  case makeMap t r =>
    cases r
    · exact (h1 rfl).elim
    · cases e

/-- An operation, in whatever is asked behind it. -/
theorem op_wp {P : Program} {K : CallF} (hK : KOk P K) {s : Sg} {n : Nat} {fr : Fr} {a : Act} {h h' : H} {w : World} {o : Oper} {v : AV} {next : Act → World → Prop} {Q : Exit → Act → World → Prop} (k : FR s n fr a) (hr : HR s h w)
    (e : xop P K fr h o = some (v, h')) (hn : ∀ s' v' w', HR s' h' w' → Grows s h w s' h' w' → VR s' v v' → next (a.put o.dst v') w') : o.wp P a w next Q := by
  by_cases hc : isFn o = true
  · obtain ⟨dst, op, type, pos, after, guard⟩ := o
    cases op <;> (try cases hc; done)
    rename_i c
    obtain ⟨callee, args, ats⟩ := c
    cases callee <;> (try cases hc; done)
    rename_i f
    replace e : callV K args.toList fr h (ev fr f) = some (v, h') := e
    simp only [callV] at e
    split at e
    · rename_i g first caps hf
      split at e
      · rename_i l hl
        have hv := ev_ok k hf
        generalize hfv : a.eval f = fv at hv
        cases hv
        rename_i fs cs hfs hcs
        have hargs := evAll_ok k hl
        show Oper.upon P _ a next Q ((execOp a.eval _).run P w)
        rw [run_call a.eval dst f args ats type pos after guard hfv]
        rcases hK g _ h v h' e s w _ hr ((hfs.append hargs).append hcs) with ⟨f2, args2, h1, h2⟩ | ⟨v', w', h1, s', v'', h2, h3, h4, h5⟩
        · rw [h1, Oper.upon_enter]
          refine h2.mono fun e' w' he => ?_
          obtain ⟨s', v', rfl, q1, q2, q3⟩ := he
          exact hn s' v' w' q1 q2 q3
        · rw [h1, Oper.upon_value]
          cases h2
          exact hn s' v' w' h3 h4 h5
      · cases e
    · cases e
  · have hc : isFn o = false := by simpa using hc
    obtain ⟨s', v', w', h1, h2, h3, h4⟩ := eop_ok k hr hc e
    show Oper.upon P o a next Q ((execOp a.eval o).run P w)
    rcases h1 with h1 | ⟨h1, rfl⟩
    · rw [h1, Oper.upon_value]; exact hn s' v' w' h2 h3 h4
    · rw [h1, Oper.upon_skip]; exact hn s' undef w' h2 h3 h4
end
end Go.Proofs.YtpnoifikpmfpdaaDoorX
namespace Go.Proofs.YtpnoifikpmfpdaaDoorX
open Go
set_option linter.unusedVariables false
set_option linter.unusedSimpArgs false
noncomputable section

/-- A slot that was only moved into holds what its source holds. -/
def AlOk (a : Act) (al : Alias) : Prop := ∀ t x, (t, x) ∈ al → a.eval (.tmp t) = a.eval x

theorem AlOk.nil (a : Act) : AlOk a [] := fun t x h => by cases h

theorem subst_eq {a : Act} {al : Alias} (k : AlOk a al) (x : Operand) : a.eval (subst al x) = a.eval x := by
  cases x with
  | tmp t =>
    induction al with
    | nil => rfl
    | cons y l ih =>
      show a.eval (aliasOf (y :: l) t) = _
      simp only [aliasOf, cnd_eq]
      split
      · rename_i e
        have e : y.1 = t := Nat.eq_of_beq_eq_true e
        subst e
        exact (k y.1 y.2 (List.mem_cons_self ..)).symm
      · exact ih (fun t x hx => k t x (List.mem_cons_of_mem _ hx))
  | const c => rfl
  | global g => rfl
  | func f => rfl

theorem put_eval {a : Act} {d : Option Tmp} {v : Value} {x : Operand} (h : ∀ t, x = .tmp t → d ≠ some t) : (a.put d v).eval x = a.eval x := by
  cases d with
  | none => rfl
  | some d =>
    cases x with
    | tmp t =>
      have hne : d ≠ t := fun e => h t rfl (by rw [e])
      show (a.tmps.setIfInBounds d v).getD t undef = a.tmps.getD t undef
      rw [Array.getD_eq_getD_getElem?, Array.getD_eq_getD_getElem?, Array.getElem?_setIfInBounds, if_neg hne]
    | const _ => rfl
    | global _ => rfl
    | func _ => rfl

theorem put_same {a : Act} {d : Nat} {v : Value} (h : d < a.tmps.size) : (a.put (some d) v).eval (.tmp d) = v := by
  show (a.tmps.setIfInBounds d v).getD d undef = v
  rw [Array.getD_eq_getD_getElem?, Array.getElem?_setIfInBounds, if_pos rfl, if_pos h]
  rfl

theorem isTmp_ne {d : Nat} {x : Operand} (h : isTmp d x = false) : ∀ t, x = .tmp t → (some d : Option Tmp) ≠ some t := by
  rintro t rfl e
  have e := Option.some.inj e
  subst e
  have : Nat.beq d d = false := h
  rw [Nat.beq_refl] at this
  cases this

theorem AlOk.put {a : Act} {al : Alias} {d : Nat} {v : Value} (k : AlOk a al) : AlOk (a.put (some d) v) (al.filter fun x => !(isTmp d x.2 || Nat.beq x.1 d)) := fun t x hx => by
  obtain ⟨h1, h2⟩ := List.mem_filter.1 hx
  simp only [Bool.not_eq_true', Bool.or_eq_false_iff] at h2
  rw [put_eval (isTmp_ne h2.1), put_eval]
  · exact k t x h1
  · rintro t' e e2
    cases e
    cases e2
    have := h2.2
    rw [show Nat.beq d d = true from Nat.beq_refl d] at this
    cases this

theorem AlOk.move {a : Act} {al : Alias} {d : Nat} {x : Operand} (k : AlOk a al) (hd : d < a.tmps.size) (hx : isTmp d (subst al x) = false) :
    AlOk (a.put (some d) (a.eval x)) ((d, subst al x) :: al.filter fun y => !(isTmp d y.2 || Nat.beq y.1 d)) := fun t y hy => by
  cases hy with
  | head => rw [put_same hd, put_eval (isTmp_ne hx), subst_eq k]
  | tail _ hm => exact k.put t y hm

theorem args_map (ρ : Operand → Value) (g : Operand → Operand) (l : Array Operand) : (⟨l.toList.map g⟩ : Array Operand).map ρ = l.map fun x => ρ (g x) := by
  apply Array.ext'; simp

theorem parts_map (ρ : Operand → Value) (g : Operand → Operand) (l : Array (Nat × Operand)) : (⟨l.toList.map fun x => (x.1, g x.2)⟩ : Array (Nat × Operand)).map (fun x => (x.1, ρ x.2)) = l.map fun x => (x.1, ρ (g x.2)) := by
  apply Array.ext'; simp

theorem eqGuard_any {op : BinOp} {t : TypeId} {x y x' y' : Operand} {u v : Value} (h : u ≠ .nilIface) : eqGuard op t x y u v = eqGuard op t x' y' u v := by
  cases u <;> first | (exact (h rfl).elim) | (cases v <;> rfl)

/-- Other operands that hold the same: the same. -/
theorem exec_mapOp {P : Program} {ρ : Operand → Value} {g : Operand → Operand} {o : Oper} (hm : mapsOp o.op = true) (hg : ∀ x, ρ (g x) = ρ x) (hb : ∀ op t x y t2, o.op = .binOp op t x y t2 → ρ x ≠ .nilIface) :
    ∀ w, (execOp ρ { o with op := mapOp g o.op }).run P w = (execOp ρ o).run P w := by
  obtain ⟨dst, op, type, pos, after, guard⟩ := o
  have hfun : (fun x => ρ (g x)) = ρ := funext hg
  have ho : ∀ (r : Option Operand), (r.map g).map ρ = r.map ρ := fun r => by cases r with | none => rfl | some x => simp [hg]
  intro w
  cases op <;> (try (cases hm; done)) <;> (try (simp only [mapOp, execOp, hg]; done))
  case build t ps => simp only [mapOp, execOp, parts_map ρ g ps, hg]
  case buildSlice t n ps => simp only [mapOp, execOp, parts_map ρ g ps, hg]
  case binOp op t x y t2 =>
    simp only [mapOp, execOp, hg]
    rw [eqGuard_any (x' := x) (y' := y) (hb op t x y t2 rfl)]
  case makeFunc f a c => simp only [mapOp, execOp, args_map ρ g, hfun]
  case makeMap t r => simp only [mapOp, execOp, ho]
  case slice t x l h m => simp only [mapOp, execOp, ho, hg]
  case call c =>
    obtain ⟨callee, args, ats⟩ := c
    cases callee
    case value f => simp only [mapOp, execOp, resolve, args_map ρ g, hfun, hg]
    case invoke r m => simp only [mapOp, execOp, resolve, args_map ρ g, hfun, hg]
    case builtin b =>
      simp only [mapOp, execOp, resolve, Sem.run_bind, Sem.run_pure, Result.andThen_ok, invoke, args_map ρ g, hfun]
      cases b <;> first | rfl | (cases hm)
end
end Go.Proofs.YtpnoifikpmfpdaaDoorX
namespace Go.Proofs.YtpnoifikpmfpdaaDoorX
open Go
set_option linter.unusedVariables false
set_option linter.unusedSimpArgs false
noncomputable section

/-- Slots of a set are not in the picture. -/
def MaskOk (mask : Nat) (fr : Fr) : Prop := ∀ t, mask.testBit t = true → T.get (slot t) fr = none

theorem putT_some {fr fr' : Fr} {d n : Nat} {v : AV} (h : putT fr (some d) n v = some fr') : d < n ∧ fr' = T.put (some v) (slot d) fr := by
  simp only [putT, cnd_eq] at h
  split at h
  · cases h
  · rename_i hd
    refine ⟨?_, (Option.some.inj h).symm⟩
    rcases Nat.lt_or_ge d n with h1 | h1
    · exact h1
    · exact (hd (by simpa using h1)).elim

theorem MaskOk.put {mask : Nat} {fr fr' : Fr} {d : Option Tmp} {n : Nat} {v : AV} (k : MaskOk mask fr) (h : putT fr d n v = some fr') (hd : ∀ t, d = some t → mask.testBit t = false) : MaskOk mask fr' := fun t ht => by
  cases d with
  | none => have := Option.some.inj h; subst this; exact k t ht
  | some d =>
    obtain ⟨_, rfl⟩ := putT_some h
    have hne : slot d ≠ slot t := fun e => by
      have := slot_inj e
      subst this
      rw [hd d rfl] at ht
      cases ht
    rw [T.get_put_ne _ _ _ _ hne]
    exact k t ht

theorem wanted_ok {s : Sg} {n : Nat} {fr : Fr} {a : Act} {ops : Array Oper} {o : Oper} {b : Bool} (k : FR s n fr a) (h : wantedA ops fr o = some b) : Region.wanted o (yielded ops a.tmps) = b := by
  obtain ⟨dst, op, type, pos, after, guard⟩ := o
  cases guard with
  | none => exact Option.some.inj h
  | some g =>
    obtain ⟨j, want⟩ := g
    replace h : wantedG ops fr (j, want) = some b := h
    simp only [wantedG] at h
    split at h
    · rename_i oj hj
      split at h
      · rename_i d hd
        split at h
        · rename_i c hc
          cases h
          obtain ⟨v', h1, h2⟩ := k.get d _ hc
          cases h2
          show (yielded ops a.tmps j == some want) = (c == want)
          simp only [yielded, hj, Option.bind_some, hd, h1]
          cases c <;> cases want <;> rfl
        · rename_i l hc
          cases h
          obtain ⟨v', h1, h2⟩ := k.get d _ hc
          cases h2
          show (yielded ops a.tmps j == some want) = false
          simp only [yielded, hj, Option.bind_some, hd, h1]
          rfl
        · cases h
      · cases h
    · cases h

theorem not_inil {P : Program} {K : CallF} {s : Sg} {n : Nat} {fr : Fr} {a : Act} {h : H} {o : Oper} {g : Operand → Operand} {r : AV × H} (k : FR s n fr a) (hg : ∀ x, a.eval (g x) = a.eval x) (e : xop P K fr h { o with op := mapOp g o.op } = some r) :
    ∀ op t x y t2, o.op = .binOp op t x y t2 → a.eval x ≠ .nilIface := by
  intro op t x y t2 ho hn
  obtain ⟨dst, op0, type, pos, after, guard⟩ := o
  cases ho
  replace e : opBinOp op t (g x) (g y) t2 P K type fr h = some r := e
  simp only [opBinOp] at e
  split at e
  · rename_i a1 a2 hx hy
    have hv := ev_ok k hx
    rw [hg, hn] at hv
    cases hv
    obtain ⟨r1, r2⟩ := r
    obtain ⟨h1, _⟩ := val_some e
    cases h1
  · cases e

theorem FR.put_masked {s : Sg} {n : Nat} {fr : Fr} {a : Act} {d : Nat} {v : Value} (k : FR s n fr a) (hm : T.get (slot d) fr = none) : FR s n fr (a.put (some d) v) := by
  refine ⟨by simpa [Act.put] using k.size, k.defers, fun t u hu => ?_⟩
  have hne : d ≠ t := fun e => by subst e; rw [hm] at hu; cases hu
  obtain ⟨v', h1, h2⟩ := k.get t u hu
  exact ⟨v', by simp only [Act.put]; rw [Array.getElem?_setIfInBounds, if_neg hne]; exact h1, h2⟩

theorem undef_ok (s : Sg) : VR s undefA undef := .tup .nil

/-- Operations one behind the other. -/
theorem seq_ok {P : Program} {K : CallF} (hK : KOk P K) {mask n : Nat} {arr : Array Oper} {Q : Exit → Act → World → Prop} {fr' : Fr} {h' : H} : ∀ (ops : List Oper) (i : Nat) (al : Alias) (l : List Oper) (s : Sg) (fr : Fr) (a : Act) (h : H) (w : World),
    (∀ j, ops[j]? = arr[i + j]?) → comp mask n ops al = some l → xseqOps P K n arr l fr h = some (fr', h') → FR s n fr a → MaskOk mask fr → HR s h w → AlOk a al →
    (∀ s' a' w', FR s' n fr' a' → MaskOk mask fr' → HR s' h' w' → Grows s h w s' h' w' → Q .normal a' w') → wpOps P arr Q (List.range' i ops.length) a w
  | [], i, al, l, s, fr, a, h, w, _, hc, hx, k, km, hr, ka, hq => by
    have := Option.some.inj hc
    subst this
    have hx : some (fr, h) = some (fr', h') := hx
    cases hx
    exact hq s a w k km hr (Grows.refl _ _ _)
  | o :: ops, i, al, l, s, fr, a, h, w, hi, hc, hx, k, km, hr, ka, hq => by
    have ho : arr[i]? = some o := by have := hi 0; simpa using this.symm
    have hi' : ∀ j, ops[j]? = arr[i + 1 + j]? := fun j => by have := hi (j + 1); rw [show i + 1 + j = i + (j + 1) by omega]; simpa using this
    simp only [List.length_cons, List.range'_succ, wpOps, ho]
    simp only [comp] at hc
    split at hc
    · rename_i hmo
      -- an operation that is done
      have done : ∀ (al' : Alias) (l' : List Oper), l = { o with op := mapOp (subst al) o.op } :: l' → comp mask n ops al' = some l' → (∀ t, o.dst = some t → mask.testBit t = false) → (∀ v, AlOk (a.put o.dst v) al') →
          if Region.wanted o (yielded arr a.tmps) = true then o.wp P a w (wpOps P arr Q (List.range' (i + 1) ops.length)) Q ∨ (o.asks P a w ∧ LetsOut Q) else wpOps P arr Q (List.range' (i + 1) ops.length) (a.put o.dst undef) w := fun al' l' hl hc' hd hal => by
        subst hl
        replace hx : runW P K n (xseqOps P K n arr l') fr h { o with op := mapOp (subst al) o.op } (wantedA arr fr { o with op := mapOp (subst al) o.op }) = some (fr', h') := hx
        cases hw : wantedA arr fr { o with op := mapOp (subst al) o.op } with
        | none => rw [hw] at hx; cases hx
        | some b =>
          rw [hw] at hx
          have hwo : Region.wanted o (yielded arr a.tmps) = b := wanted_ok (o := { o with op := mapOp (subst al) o.op }) k hw
          rw [hwo]
          cases b with
          | false =>
            replace hx : fin n (xseqOps P K n arr l') fr o.dst (some (undefA, h)) = some (fr', h') := hx
            rw [if_neg (by simp)]
            cases hp : putT fr o.dst n undefA with
            | none => simp only [fin, hp] at hx; cases hx
            | some fr1 =>
              simp only [fin, hp] at hx
              exact seq_ok hK ops (i + 1) al' l' s fr1 _ h w hi' hc' hx (putT_ok k hp (undef_ok s)) (km.put hp hd) hr (hal _) hq
          | true =>
            replace hx : fin n (xseqOps P K n arr l') fr o.dst (xop P K fr h { o with op := mapOp (subst al) o.op }) = some (fr', h') := hx
            rw [if_pos rfl]
            left
            cases hxo : xop P K fr h { o with op := mapOp (subst al) o.op } with
            | none => rw [hxo] at hx; cases hx
            | some vh =>
              obtain ⟨v, h1⟩ := vh
              rw [hxo] at hx
              cases hp : putT fr o.dst n v with
              | none => simp only [fin, hp] at hx; cases hx
              | some fr1 =>
                simp only [fin, hp] at hx
                have hwp := op_wp (next := fun a' w' => wpOps P arr Q (List.range' (i + 1) ops.length) a' w') (Q := Q) hK k hr hxo (fun s' v' w' q1 q2 q3 => by
                  exact seq_ok hK ops (i + 1) al' l' s' fr1 _ h1 w' hi' hc' hx (putT_ok (k.mono q2.le) hp q3) (km.put hp hd) q1 (hal _) (fun s2 a2 w2 p1 p2 p3 p4 => hq s2 a2 w2 p1 p2 p3 (q2.trans p4)))
                show o.upon P a _ Q ((execOp a.eval o).run P w)
                rw [← exec_mapOp hmo (subst_eq ka) (not_inil k (subst_eq ka) hxo) w]
                exact hwp
      split at hc
      · rename_i hd
        split at hc
        · rename_i l' hl'
          cases hc
          exact done al l' rfl hl' (fun t ht => by rw [hd] at ht; cases ht) (fun v => by rw [hd]; exact ka)
        · cases hc
      · rename_i d hd
        split at hc
        · rename_i hmk
          split at hc
          · rename_i hgd
            split at hc
            · rename_i x hop
              split at hc
              · cases hc
              · rename_i hcond
                simp only [Bool.or_eq_true, not_or, Bool.not_eq_true] at hcond
                have hdn : d < n := by
                  rcases Nat.lt_or_ge d n with h1 | h1
                  · exact h1
                  · exact absurd (hcond.1) (by simp [h1])
                have hw : Region.wanted o (yielded arr a.tmps) = true := by unfold Region.wanted; rw [hgd]
                rw [if_pos hw]
                left
                show o.upon P a _ Q ((execOp a.eval o).run P w)
                have he : (execOp a.eval o).run P w = .ok (.value (a.eval x)) w := by
                  unfold execOp; rw [hop]; rfl
                rw [he, Oper.upon_value, hd]
                refine seq_ok hK ops (i + 1) _ l s fr _ h w hi' hc hx (k.put_masked (km d hmk)) km hr (ka.move (by rw [k.size]; exact hdn) hcond.2) hq
            · cases hc
          · cases hc
        · rename_i hmk
          split at hc
          · rename_i l' hl'
            cases hc
            exact done _ l' rfl hl' (fun t ht => by rw [hd] at ht; cases ht; simpa using hmk) (fun v => by rw [hd]; exact ka.put)
          · cases hc
    · cases hc
end
end Go.Proofs.YtpnoifikpmfpdaaDoorX
namespace Go.Proofs.YtpnoifikpmfpdaaDoorX
open Go
set_option linter.unusedVariables false
set_option linter.unusedSimpArgs false
noncomputable section

/-- How the run of code goes on. -/
def XE.ex : XE → Exit
  | .norm => .normal
  | .exit i => .exit i
  | .goto l => .goto l
  | .ret => .ret

/-- Behind a piece of code. -/
def Behind (s : Sg) (mask n : Nat) (h : H) (w : World) (fr' : Fr) (h' : H) (x : Exit) (Q : Exit → Act → World → Prop) : Prop :=
  ∀ s' a' w', FR s' n fr' a' → MaskOk mask fr' → HR s' h' w' → Grows s h w s' h' w' → Q x a' w'

/-- A region is run as the model does. -/
def RegOk (P : Program) (mask : Nat) (tab : Nat → List Item) (K : CallF) (n : Nat) (id : Nat) (ops : Array Oper) (draw : Bool) : Prop :=
  ∀ fr h fr' h' s a w Q, xregion P mask tab K n id ops draw fr h = some (fr', h') → FR s n fr a → MaskOk mask fr → HR s h w → Behind s mask n h w fr' h' .normal Q → (Code.region id ops draw).wp P Q a w

def Good (P : Program) (mask : Nat) (tab : Nat → List Item) (K : CallF) (n : Nat) : Code → Prop
  | .region id ops draw => RegOk P mask tab K n id ops draw
  | .seq a b => Good P mask tab K n a ∧ Good P mask tab K n b
  | .cond _ a b => Good P mask tab K n a ∧ Good P mask tab K n b
  | .block _ b => Good P mask tab K n b
  | .loop b => Good P mask tab K n b
  | .scope b => Good P mask tab K n b
  | _ => True

theorem Good.label {P : Program} {mask : Nat} {tab : Nat → List Item} {K : CallF} {n l : Nat} : ∀ {c r : Code}, findLabel c l = some r → Good P mask tab K n c → Good P mask tab K n r := by
  intro c
  induction c with
  | seq a b iha ihb =>
    intro r h g
    simp only [findLabel] at h
    split at h
    · rename_i r0 hr0
      cases h
      exact ⟨iha hr0 g.1, g.2⟩
    · exact ihb h g.2
  | label l' =>
    intro r h g
    simp only [findLabel] at h
    split at h
    · cases h; trivial
    · cases h
  | _ => intro r h g; cases h

theorem reg_seq {P : Program} {K : CallF} (hK : KOk P K) {mask n id : Nat} {tab : Nat → List Item} {ops : Array Oper} : RegOk P mask tab K n id ops false := fun fr h fr' h' s a w Q e k km hr hq => by
  replace e : (match comp mask n ops.toList [] with | some l => xseqOps P K n ops l fr h | none => none) = some (fr', h') := e
  split at e
  · rename_i l hl
    refine wp_region ?_
    have := seq_ok hK (Q := Q) ops.toList 0 [] l s fr a h w (fun j => by simp) hl e k km hr (AlOk.nil a) (fun s' a' w' q1 q2 q3 q4 => hq s' a' w' q1 q2 q3 q4)
    rw [List.range_eq_range']
    simpa using this
  · cases e

/-- Code that stands within a loop's round or a scope's pass. -/
def wpIn (P : Program) (it : Go.Item) (c : Code) (Q : Exit → Act → World → Prop) (a : Act) (w : World) : Prop :=
  ∀ (b : Frame) (k : List Go.Item) (cs : List Frame), ∃ e a' w', Q e a' w' ∧ Arrives P (lone (b.at a (.code c :: it :: k)) cs w) b k cs e a' w'

theorem code_ok {P : Program} {mask n : Nat} {tab : Nat → List Item} {K : CallF} : ∀ (f : Nat),
    (∀ c0 c fr h x fr' h' s a w Q, xcode P mask tab K n f false c0 c fr h = some (x, fr', h') → Good P mask tab K n c → FR s n fr a → MaskOk mask fr → HR s h w → Behind s mask n h w fr' h' x.ex Q → c.wp P Q a w) ∧
    (∀ b fr h x fr' h' s a w Q, xcode P mask tab K n f true (.loop b) b fr h = some (x, fr', h') → Good P mask tab K n b → FR s n fr a → MaskOk mask fr → HR s h w → Behind s mask n h w fr' h' x.ex Q → wpIn P (.inLoop b) b Q a w) ∧
    (∀ b c fr h x fr' h' s a w Q, xcode P mask tab K n f true (.scope b) c fr h = some (x, fr', h') → Good P mask tab K n b → Good P mask tab K n c → FR s n fr a → MaskOk mask fr → HR s h w → Behind s mask n h w fr' h' x.ex Q → wpIn P (.inScope b) c Q a w)
  | 0 => ⟨(fun c0 c fr h x fr' h' s a w Q e => by cases e), (fun b fr h x fr' h' s a w Q e => by cases e), (fun b c fr h x fr' h' s a w Q e => by cases e)⟩
  | f + 1 => by
    obtain ⟨ih1, ih2, ih3⟩ := code_ok (P := P) (mask := mask) (n := n) (tab := tab) (K := K) f
    refine ⟨fun c0 c fr h x fr' h' s a w Q e g k km hr hq => ?_, fun b fr h x fr' h' s a w Q e g k km hr hq => ?_, fun b c fr h x fr' h' s a w Q e g gc k km hr hq => ?_⟩
    · replace e : stepF c ⟨P, mask, tab, K, n, xcode P mask tab K n f⟩ fr h = some (x, fr', h') := e
      cases c with
      | skip =>
        cases Option.some.inj e
        exact wp_skip (hq s a w k km hr (Grows.refl _ _ _))
      | label l =>
        cases Option.some.inj e
        exact wp_label (hq s a w k km hr (Grows.refl _ _ _))
      | exit i =>
        cases Option.some.inj e
        exact wp_exit (hq s a w k km hr (Grows.refl _ _ _))
      | goto l =>
        cases Option.some.inj e
        exact wp_goto (hq s a w k km hr (Grows.refl _ _ _))
      | ret =>
        cases Option.some.inj e
        exact wp_ret (hq s a w k km hr (Grows.refl _ _ _))
      | rangeFunc _ _ _ _ => cases e
      | refuse _ => cases e
      | region id ops draw =>
        replace e : afterRegion (xregion P mask tab K n id ops draw fr h) = some (x, fr', h') := e
        cases hx : xregion P mask tab K n id ops draw fr h with
        | none => rw [hx] at e; cases e
        | some y =>
          obtain ⟨fr1, h1⟩ := y
          rw [hx] at e
          cases Option.some.inj e
          exact g fr h fr' h' s a w Q hx k km hr hq
      | seq c1 c2 =>
        replace e : afterSeq (xcode P mask tab K n f) c2 (xcode P mask tab K n f false .skip c1 fr h) = some (x, fr', h') := e
        cases hx : xcode P mask tab K n f false .skip c1 fr h with
        | none => rw [hx] at e; cases e
        | some y =>
          obtain ⟨x1, fr1, h1⟩ := y
          rw [hx] at e
          refine wp_seq (ih1 _ c1 fr h x1 fr1 h1 s a w _ hx g.1 k km hr fun s' a' w' q1 q2 q3 q4 => ?_)
          cases x1 with
          | norm =>
            replace e : xcode P mask tab K n f false .skip c2 fr1 h1 = some (x, fr', h') := e
            exact ih1 _ c2 fr1 h1 x fr' h' s' a' w' Q e g.2 q1 q2 q3 fun s2 a2 w2 p1 p2 p3 p4 => hq s2 a2 w2 p1 p2 p3 (q4.trans p4)
          | exit i => cases Option.some.inj e; exact hq s' a' w' q1 q2 q3 q4
          | goto l => cases Option.some.inj e; exact hq s' a' w' q1 q2 q3 q4
          | ret => cases Option.some.inj e; exact hq s' a' w' q1 q2 q3 q4
      | cond y c1 c2 =>
        replace e : stCond y c1 c2 ⟨P, mask, tab, K, n, xcode P mask tab K n f⟩ fr h = some (x, fr', h') := e
        simp only [stCond] at e
        split at e
        · rename_i t ht
          have hv := ev_ok k ht
          have hvb : a.eval y = .bool t := by
            generalize a.eval y = v at hv
            cases hv; rfl
          refine wp_cond hvb ?_
          cases t with
          | true => exact ih1 _ c1 fr h x fr' h' s a w Q e g.1 k km hr hq
          | false => exact ih1 _ c2 fr h x fr' h' s a w Q e g.2 k km hr hq
        · cases e
      | block id b =>
        replace e : afterBlock id (xcode P mask tab K n f false .skip b fr h) = some (x, fr', h') := e
        cases hx : xcode P mask tab K n f false .skip b fr h with
        | none => rw [hx] at e; cases e
        | some y =>
          obtain ⟨x1, fr1, h1⟩ := y
          rw [hx] at e
          refine wp_block (ih1 _ b fr h x1 fr1 h1 s a w _ hx g k km hr fun s' a' w' q1 q2 q3 q4 => ?_)
          cases x1 with
          | norm => cases Option.some.inj e; exact hq s' a' w' q1 q2 q3 q4
          | exit i =>
            replace e : cnd (Nat.beq i id) (some (.norm, fr1, h1)) (some (.exit i, fr1, h1)) = some (x, fr', h') := e
            rw [cnd_eq] at e
            show if i = id then Q .normal a' w' else Q (.exit i) a' w'
            by_cases hi : i = id
            · rw [if_pos (by rw [hi]; exact Nat.beq_refl id)] at e
              cases Option.some.inj e
              rw [if_pos hi]
              exact hq s' a' w' q1 q2 q3 q4
            · rw [if_neg (fun e => hi (Nat.eq_of_beq_eq_true e))] at e
              cases Option.some.inj e
              rw [if_neg hi]
              exact hq s' a' w' q1 q2 q3 q4
          | goto l => cases Option.some.inj e; exact hq s' a' w' q1 q2 q3 q4
          | ret => cases Option.some.inj e; exact hq s' a' w' q1 q2 q3 q4
      | loop b =>
        replace e : xcode P mask tab K n f true (.loop b) b fr h = some (x, fr', h') := e
        intro bb kk cs
        obtain ⟨e1, a1, w1, p, q⟩ := ih2 b fr h x fr' h' s a w Q e g k km hr hq bb kk cs
        exact ⟨e1, a1, w1, p, .of_steps (.one step_loop) q⟩
      | scope b =>
        replace e : xcode P mask tab K n f true (.scope b) b fr h = some (x, fr', h') := e
        intro bb kk cs
        obtain ⟨e1, a1, w1, p, q⟩ := ih3 b b fr h x fr' h' s a w Q e g g k km hr hq bb kk cs
        exact ⟨e1, a1, w1, p, .of_steps (.one step_scope) q⟩
    · replace e : afterRound (xcode P mask tab K n f) (.loop b) b (xcode P mask tab K n f false .skip b fr h) = some (x, fr', h') := e
      cases hx : xcode P mask tab K n f false .skip b fr h with
      | none => rw [hx] at e; cases e
      | some y =>
        obtain ⟨x1, fr1, h1⟩ := y
        rw [hx] at e
        intro bb kk cs
        obtain ⟨e1, a1, w1, ⟨s1, q0, q1, q2, q3, q4⟩, harr⟩ := ih1 _ b fr h x1 fr1 h1 s a w (fun e' a' w' => ∃ s', e' = x1.ex ∧ FR s' n fr1 a' ∧ MaskOk mask fr1 ∧ HR s' h1 w' ∧ Grows s h w s' h1 w') hx g k km hr (fun s' a' w' q1 q2 q3 q4 => ⟨s', rfl, q1, q2, q3, q4⟩) bb (.inLoop b :: kk) cs
        subst q0
        cases x1 with
        | norm =>
          replace e : xcode P mask tab K n f true (.loop b) b fr1 h1 = some (x, fr', h') := e
          obtain ⟨e2, a2, w2, p, q⟩ := ih2 b fr1 h1 x fr' h' s1 a1 w1 Q e g q1 q2 q3 (fun s2 a2 w2 p1 p2 p3 p4 => hq s2 a2 w2 p1 p2 p3 (q4.trans p4)) bb kk cs
          exact ⟨e2, a2, w2, p, .of_steps (Steps.trans harr (.one step_inLoop)) q⟩
        | exit i => cases Option.some.inj e; exact ⟨_, a1, w1, hq s1 a1 w1 q1 q2 q3 q4, .pass (x := .inLoop b) rfl (fun _ _ => .inl (by simp [XE.ex])) harr⟩
        | goto l => cases Option.some.inj e; exact ⟨_, a1, w1, hq s1 a1 w1 q1 q2 q3 q4, .pass (x := .inLoop b) rfl (fun _ _ => .inl (by simp [XE.ex])) harr⟩
        | ret => cases Option.some.inj e; exact ⟨_, a1, w1, hq s1 a1 w1 q1 q2 q3 q4, .pass (x := .inLoop b) rfl (fun _ _ => .inl (by simp [XE.ex])) harr⟩
    · replace e : afterRound (xcode P mask tab K n f) (.scope b) c (xcode P mask tab K n f false .skip c fr h) = some (x, fr', h') := e
      cases hx : xcode P mask tab K n f false .skip c fr h with
      | none => rw [hx] at e; cases e
      | some y =>
        obtain ⟨x1, fr1, h1⟩ := y
        rw [hx] at e
        intro bb kk cs
        obtain ⟨e1, a1, w1, ⟨s1, q0, q1, q2, q3, q4⟩, harr⟩ := ih1 _ c fr h x1 fr1 h1 s a w (fun e' a' w' => ∃ s', e' = x1.ex ∧ FR s' n fr1 a' ∧ MaskOk mask fr1 ∧ HR s' h1 w' ∧ Grows s h w s' h1 w') hx gc k km hr (fun s' a' w' q1 q2 q3 q4 => ⟨s', rfl, q1, q2, q3, q4⟩) bb (.inScope b :: kk) cs
        subst q0
        cases x1 with
        | norm =>
          cases Option.some.inj e
          exact ⟨.normal, a1, w1, hq s1 a1 w1 q1 q2 q3 q4, Steps.trans harr (.one step_inScope)⟩
        | exit i =>
          cases Option.some.inj e
          exact ⟨.exit i, a1, w1, hq s1 a1 w1 q1 q2 q3 q4, fun k' hk => harr k' (by simp [exitTo, hk])⟩
        | goto l =>
          simp only [afterRound] at e
          split at e
          · rename_i r hfl
            obtain ⟨e2, a2, w2, p, q⟩ := ih3 b r fr1 h1 x fr' h' s1 a1 w1 Q e g (Good.label hfl g) q1 q2 q3 (fun s2 a2 w2 p1 p2 p3 p4 => hq s2 a2 w2 p1 p2 p3 (q4.trans p4)) bb kk cs
            exact ⟨e2, a2, w2, p, .of_steps (harr _ (by simp [gotoIn, hfl])) q⟩
          · rename_i hfl
            cases Option.some.inj e
            exact ⟨.goto l, a1, w1, hq s1 a1 w1 q1 q2 q3 q4, fun k' hk => harr k' (by simp [gotoIn, hfl, hk])⟩
        | ret => cases Option.some.inj e; exact ⟨.ret, a1, w1, hq s1 a1 w1 q1 q2 q3 q4, harr⟩
end
end Go.Proofs.YtpnoifikpmfpdaaDoorX
namespace Go.Proofs.YtpnoifikpmfpdaaDoorX
open Go
set_option linter.unusedVariables false
set_option linter.unusedSimpArgs false
noncomputable section

theorem argsFr_get : ∀ (l : List AV) (i : Nat) (fr : Fr) (t : Nat), T.get (slot t) (argsFr l i fr) = if i ≤ t ∧ t < i + l.length then l[t - i]? else T.get (slot t) fr
  | [], i, fr, t => by rw [if_neg (by simp)]; rfl
  | v :: l, i, fr, t => by
    simp only [argsFr]
    rw [argsFr_get l (i + 1) _ t]
    by_cases h1 : i + 1 ≤ t ∧ t < i + 1 + l.length
    · rw [if_pos h1, if_pos (by simp; omega), show t - i = (t - (i + 1)) + 1 by omega]
      simp
    · rw [if_neg h1]
      by_cases h2 : i = t
      · subst h2
        rw [T.get_put_same, if_pos (by simp)]
        simp
      · rw [T.get_put_ne _ _ _ _ (fun e => h2 (slot_inj e)), if_neg (by simp; omega)]

theorem args_frame {s : Sg} {args : List AV} {args' : List Value} (h : VRs s args args') (m : Nat) :
    FR s (max args.length m) (argsFr args 0 .nil) { tmps := (⟨args'⟩ : Array Value) ++ Array.replicate (m - (⟨args'⟩ : Array Value).size) undef, defers := [] } := by
  have hlen := h.length
  refine ⟨?_, rfl, fun t v hv => ?_⟩
  · simp; omega
  · rw [argsFr_get] at hv
    split at hv
    · rename_i hc
      obtain ⟨v', h1, h2⟩ := h.get _ v hv
      refine ⟨v', ?_, h2⟩
      rw [Nat.sub_zero] at h1
      rw [Array.getElem?_append_left (by simp; omega)]
      simpa using h1
    · rw [T.get_nil] at hv
      cases hv

theorem args_mask {args : List AV} {mask : Nat} (h : (mask % 2 ^ args.length == 0) = true) : MaskOk mask (argsFr args 0 .nil) := fun t ht => by
  rw [argsFr_get]
  split
  · rename_i hc
    have h0 : mask % 2 ^ args.length = 0 := by simpa using h
    have := Nat.testBit_mod_two_pow mask args.length t
    rw [h0] at this
    simp only [Nat.zero_testBit] at this
    rw [ht] at this
    simp at this
    omega
  · exact T.get_nil _

theorem single_ok {s : Sg} {l : List AV} {l' : List Value} (h : VRs s l l') : VR s (single l) (if hh : (l'.toArray).size = 1 then (l'.toArray)[0] else .tuple l'.toArray) := by
  cases h with
  | nil => exact .tup .nil
  | cons a b =>
    cases b with
    | nil => exact a
    | cons c d =>
      rw [dif_neg (by simp)]
      exact .tup (.cons a (.cons c d))

theorem results_ok {P : Program} {s : Sg} {n : Nat} {fr : Fr} {a : Act} {h : H} {w : World} (k : FR s n fr a) (hr : HR s h w) (f : ResultVar → Sem Value) (f1 : ∀ t, f (.tmp t) = pure (a.tmps.getD t undef)) (f2 : ∀ c t, f (.cell c t) = (do loadVar t (← asAddr (a.tmps.getD c undef)))) : ∀ (rs : List ResultVar) (l : List AV), xresults P fr h rs = some l →
    ∃ l', VRs s l l' ∧ (rs.mapM (m := Sem) f).run P w = .ok l' w
  | [], l, e => by have := Option.some.inj e; subst this; exact ⟨[], .nil, rfl⟩
  | .tmp t :: rs, l, e => by
    simp only [xresults] at e
    split at e
    · rename_i v hv
      split at e
      · rename_i r hrr
        cases e
        obtain ⟨l', h1, h2⟩ := results_ok k hr f f1 f2 rs r hrr
        refine ⟨a.tmps.getD t undef :: l', .cons (ev_ok k hv) h1, ?_⟩
        simp only [List.mapM_cons, f1, Sem.run_bind, Sem.run_pure, Result.andThen_ok, h2]
      · cases e
    · cases e
  | .cell c t :: rs, l, e => by
    simp only [xresults] at e
    split at e
    · rename_i p hp
      split at e
      · rename_i v hv
        split at e
        · rename_i r hrr
          cases e
          obtain ⟨l', h1, h2⟩ := results_ok k hr f f1 f2 rs r hrr
          have hpv := ev_ok k hp
          have hld := xload_ok (P := P) hr hv hpv
          obtain ⟨v', q1, q2⟩ := hld
          refine ⟨v' :: l', .cons q2 h1, ?_⟩
          have hpv' : VR s p (a.tmps.getD c undef) := hpv
          generalize hg : a.tmps.getD c undef = u at hpv'
          cases hpv' <;> (try cases hv; done)
          rename_i b ll o hl
          have q1' : (loadVar t ⟨ll.blk, ll.sh + o, none⟩).run P w = .ok v' w := by
            have he : a.eval (.tmp c) = .pointer (some ⟨ll.blk, ll.sh + o, none⟩) := hg
            rw [he] at q1
            exact q1
          simp only [List.mapM_cons, f2, Sem.run_bind, hg, asAddr, Sem.run_pure, Result.andThen_ok, q1', h2]
        · cases e
      · cases e
    · cases e

/-- What a result's variable holds. -/
def resF (tmps : Array Value) : ResultVar → Sem Value
  | .tmp t => pure (tmps.getD t undef)
  | .cell c t => do loadVar t (← asAddr (tmps.getD c undef))

theorem results_eq (fn : Func) (tmps : Array Value) : results fn tmps = (do
    let vs ← fn.results.mapM (resF tmps)
    pure (if h : vs.size = 1 then vs[0] else .tuple vs)) := rfl

/-- All regions of all functions are run as the model does, if calls are. -/
def GoodAll (P : Program) (msk : Nat → Nat) (tab : Tab) : Prop := ∀ K, KOk P K → ∀ f fn c n, P.funcs[f]? = some fn → fn.body = some c → Good P (msk f) (tab f) K n c

theorem call_ok {P : Program} {msk : Nat → Nat} {tab : Tab} {steps : Nat} (hG : GoodAll P msk tab) : ∀ d, KOk P (xcall P msk tab steps d)
  | 0 => fun g args h v h' e => by cases e
  | d + 1 => fun g args h v h' e s w args' hr hv => by
    left
    have hK := call_ok (steps := steps) hG d
    simp only [xcall] at e
    split at e
    · rename_i fn hfn
      split at e
      · rename_i c hc
        rw [cnd_eq] at e
        split at e
        · cases e
        · rename_i hcond
          simp only [Bool.or_eq_true, not_or, Bool.not_eq_true, Bool.not_eq_false'] at hcond
          obtain ⟨⟨hname, hlen⟩, hmask⟩ := hcond
          rw [forceN_eq, forceN_eq] at e
          have fin : ∀ x fr h2 l, xcode P (msk g) (tab g) (xcall P msk tab steps d) (max args.length fn.ntmps) steps false .skip c (argsFr args 0 .nil) h = some (x, fr, h2) → (x = .norm ∨ x = .ret) → xresults P fr h2 fn.results.toList = some l → v = single l → h' = h2 →
              ∃ f2 args2, (callFunc g ⟨args'⟩).run P w = .ok (.enter f2 args2) w ∧ Calls P f2 args2 w (Post s h w v h') := fun x fr h2 l hx hxe hres hvv hh => by
            subst hvv hh
            refine ⟨g, ⟨args'⟩, ?_, ?_⟩
            · unfold callFunc
              simp only [Sem.run_bind, run_program, Result.andThen_ok, hfn, hname, Bool.false_eq_true, if_false, hc, Option.isNone_some, Sem.run_pure]
            · refine calls_of_wp hfn hc ?_
              refine ((code_ok (P := P) (K := xcall P msk tab steps d) steps).1 .skip c _ h x fr h' s _ w _ hx (hG _ hK g fn c _ hfn hc) (args_frame hv fn.ntmps) (args_mask hmask) hr fun s' a' w' q1 q2 q3 q4 => ?_)
              obtain ⟨l', r1, r2⟩ := results_ok (P := P) q1 q3 (resF a'.tmps) (fun t => rfl) (fun c t => rfl) fn.results.toList l hres
              have hrun : (results fn a'.tmps).run P w' = .ok (if hh : (l'.toArray).size = 1 then (l'.toArray)[0] else .tuple l'.toArray) w' := by
                rw [results_eq, Array.mapM_eq_mapM_toList]
                simp only [Sem.run_map, Sem.run_bind, r2, Result.andThen_ok, Sem.run_pure]
              rcases hxe with rfl | rfl
              · exact ⟨q1.defers, _, hrun, s', _, rfl, q3, q4, single_ok r1⟩
              · exact ⟨q1.defers, _, hrun, s', _, rfl, q3, q4, single_ok r1⟩
          split at e
          · rename_i fr h2 hx
            split at e
            · rename_i l hl
              cases e
              exact fin _ _ _ l hx (.inl rfl) hl rfl rfl
            · cases e
          · rename_i fr h2 hx
            split at e
            · rename_i l hl
              cases e
              exact fin _ _ _ l hx (.inr rfl) hl rfl rfl
            · cases e
          · cases e
      · cases e
    · cases e

/-- The end: a closed run that answers true. -/
def isTrueR (r : R) : Bool :=
  match r with
  | some (.bool true, _) => true
  | _ => false

theorem calls_true {P : Program} {msk : Nat → Nat} {tab : Tab} {steps d f : Nat} (hG : GoodAll P msk tab) (e : isTrueR (xcall P msk tab steps d f [] ⟨.nil, []⟩) = true) (w : World) :
    Calls P f #[] w fun e w' => e = .returned (.bool true) ∧ RowKit.Below w.heap.size w w' := by
  unfold isTrueR at e
  split at e
  · rename_i h' hx
    have hr : HR (fun _ => none) ⟨.nil, []⟩ w := ⟨(fun b o hb => by rw [T.get_nil] at hb; cases hb), (fun b b' o o' l l' hb => by rw [T.get_nil] at hb; cases hb), (fun b l hb => by cases hb)⟩
    have key : ∀ {e w'}, Post (fun _ => none) ⟨.nil, []⟩ w (.bool true) h' e w' → e = .returned (.bool true) ∧ RowKit.Below w.heap.size w w' := fun ⟨s', v', q0, q1, q2, q3⟩ => by
      cases q3
      exact ⟨q0, q2.os, q2.tape, q2.output, q2.size, fun k hk => q2.frame k hk (fun ⟨b, o, l, hb, _⟩ => by rw [T.get_nil] at hb; cases hb)⟩
    have hfn : ∃ fn c, P.funcs[f]? = some fn ∧ fn.body = some c := by
      cases d with
      | zero => cases hx
      | succ d =>
        simp only [xcall] at hx
        split at hx
        · rename_i fn h1
          split at hx
          · rename_i c h2; exact ⟨fn, c, h1, h2⟩
          · cases hx
        · cases hx
    rcases call_ok (steps := steps) hG d f [] ⟨.nil, []⟩ _ h' hx _ w [] hr .nil with ⟨f2, args2, h1, h2⟩ | ⟨v', w', h1, h2⟩
    · have hf : f2 = f ∧ args2 = #[] := by
        obtain ⟨fn, c, q1, q2⟩ := hfn
        unfold callFunc at h1
        simp only [Sem.run_bind, run_program, Result.andThen_ok, q1, q2, Option.isNone_some, Bool.false_eq_true, if_false] at h1
        split at h1
        · cases h1
        · cases h1; exact ⟨rfl, rfl⟩
      obtain ⟨rfl, rfl⟩ := hf
      exact h2.mono fun e w' he => key he
    · exfalso
      obtain ⟨fn, c, q1, q2⟩ := hfn
      unfold callFunc at h1
      simp only [Sem.run_bind, run_program, Result.andThen_ok, q1, q2, Option.isNone_some, Bool.false_eq_true, if_false] at h1
      split at h1 <;> cases h1
  · cases e
end
end Go.Proofs.YtpnoifikpmfpdaaDoorX
namespace Go.Proofs.YtpnoifikpmfpdaaDoorX
open Go
set_option linter.unusedVariables false
set_option linter.unusedSimpArgs false
noncomputable section

/-! ### who waits for whom -/

def addMask (acc : List Nat) (s : Nat) (e : Edge) : Nat := if Region.binds .any e then s ||| (2 ^ e.on) ||| acc.getD e.on 0 else s

theorem addMask_bit (acc : List Nat) (j : Nat) : ∀ (l : List Edge) (s : Nat), (l.foldl (addMask acc) s).testBit j = true → s.testBit j = true ∨ ∃ e ∈ l, Region.binds .any e = true ∧ (e.on = j ∨ (acc.getD e.on 0).testBit j = true)
  | [], s, h => .inl h
  | e :: l, s, h => by
    rcases addMask_bit acc j l _ h with h1 | ⟨e', he, hb, ho⟩
    · simp only [addMask] at h1
      split at h1
      · rename_i hb
        simp only [Nat.testBit_or, Bool.or_eq_true] at h1
        rcases h1 with (h1 | h1) | h1
        · exact .inl h1
        · refine .inr ⟨e, List.mem_cons_self .., hb, .inl ?_⟩
          rw [Nat.testBit_two_pow] at h1
          simpa using h1
        · exact .inr ⟨e, List.mem_cons_self .., hb, .inr h1⟩
      · exact .inl h1
    · exact .inr ⟨e', List.mem_cons_of_mem _ he, hb, ho⟩

theorem masks_cons (o : Oper) (rest : List Oper) (acc : List Nat) : masks (o :: rest) acc = masks rest (acc ++ [o.after.toList.foldl (addMask acc) 0]) := rfl

theorem masks_pre : ∀ (l : List Oper) (acc : List Nat), ∃ tl, masks l acc = acc ++ tl
  | [], acc => ⟨[], by simp [masks]⟩
  | o :: l, acc => by
    rw [masks_cons]
    obtain ⟨tl, h⟩ := masks_pre l (acc ++ [o.after.toList.foldl (addMask acc) 0])
    exact ⟨_ :: tl, by rw [h, List.append_assoc]; rfl⟩

/-- A bit of an operation's mask: an edge of its own, or a bit of the mask of whom it waits for. -/
theorem masks_bit (all : List Nat) : ∀ (l : List Oper) (acc : List Nat), masks l acc = all → ∀ (i : Nat) (o : Oper), l[i]? = some o → (∀ e ∈ o.after.toList, Region.binds .any e = true → e.on < acc.length + i) →
    ∀ j, (all.getD (acc.length + i) 0).testBit j = true → ∃ e ∈ o.after.toList, Region.binds .any e = true ∧ (e.on = j ∨ (all.getD e.on 0).testBit j = true)
  | [], acc, _, i, o, hi, _, j, _ => by simp at hi
  | x :: l, acc, hall, 0, o, hi, hlt, j, hj => by
    simp at hi
    subst hi
    rw [masks_cons] at hall
    obtain ⟨tl, htl⟩ := masks_pre l (acc ++ [x.after.toList.foldl (addMask acc) 0])
    rw [hall] at htl
    have hget : all.getD (acc.length + 0) 0 = x.after.toList.foldl (addMask acc) 0 := by
      rw [htl]; simp [List.getD]
    rw [hget] at hj
    rcases addMask_bit acc j _ _ hj with h | ⟨e, he, hb, ho⟩
    · simp at h
    · refine ⟨e, he, hb, ho.imp id fun h => ?_⟩
      have hel := hlt e he hb
      have : all.getD e.on 0 = acc.getD e.on 0 := by
        rw [htl]
        simp only [List.getD]
        rw [List.append_assoc, List.getElem?_append_left (by omega)]
      rw [this]; exact h
  | x :: l, acc, hall, i + 1, o, hi, hlt, j, hj => by
    rw [masks_cons] at hall
    have := masks_bit all l _ hall i o (by simpa using hi) (fun e he hb => by have := hlt e he hb; simp; omega) j (by
      rw [show (acc ++ [x.after.toList.foldl (addMask acc) 0]).length + i = acc.length + (i + 1) by simp; omega]; exact hj)
    exact this

/-- A set that holds with each operation those that it waits for. -/
def Down (ops : Array Oper) (D : Nat → Bool) : Prop := ∀ i o, ops[i]? = some o → D i = true → ∀ e ∈ o.after.toList, Region.binds .any e = true → D e.on = true

/-- What is static of a region and its order. -/
structure Plan (P : Program) (ops : Array Oper) (items : List Item) (mask : List Nat) : Prop where
  bit : ∀ i o, ops[i]? = some o → ∀ j, (mask.getD i 0).testBit j = true → ∃ e ∈ o.after.toList, Region.binds .any e = true ∧ e.on < i ∧ (e.on = j ∨ (mask.getD e.on 0).testBit j = true)
  names : ∀ i o j o' d, ops[i]? = some o → ops[j]? = some o' → o.dst = some d → i ≠ j → d ∈ opNames ops o' → ((mask.getD j 0).testBit i = true ∨ (mask.getD i 0).testBit j = true) ∧ o'.dst ≠ some d
  all : ∀ i o, ops[i]? = some o → ∃ c a, (i, c, a) ∈ items
  order : orderOk P ops mask ((ops.toList.zipIdx.filter fun x => classOf P x.1 == 2).map (·.2)) 0 items = true

theorem plan_ok {P : Program} {ops : Array Oper} {items : List Item} (h : planOk P ops items = true) : Plan P ops items (masks ops.toList []) := by
  simp only [planOk, Bool.and_eq_true] at h
  obtain ⟨⟨⟨h1, h2⟩, h3⟩, h4⟩ := h
  have hmem : ∀ i o, ops[i]? = some o → (o, i) ∈ ops.toList.zipIdx := fun i o ho => by
    rw [List.mem_zipIdx_iff_getElem?]
    simpa using ho
  have hlt : ∀ i o, ops[i]? = some o → ∀ e ∈ o.after.toList, Region.binds .any e = true → e.on < i := fun i o ho e he hb => by
    have := List.all_eq_true.1 h4 _ (hmem i o ho)
    have := List.all_eq_true.1 this e he
    simpa [hb] using this
  refine ⟨fun i o ho j hj => ?_, ?_, fun i o ho => ?_, h1⟩
  · obtain ⟨e, he, hb, hor⟩ := masks_bit _ ops.toList [] rfl i o (by simpa using ho) (fun e he hb => by have := hlt i o ho e he hb; simpa using this) j (by simpa using hj)
    exact ⟨e, he, hb, hlt i o ho e he hb, hor⟩
  · have key : ∀ (l : List (Oper × Nat)), namesOk ops (masks ops.toList []) ops.toList.zipIdx l = true → ∀ i o j o' d, (o, i) ∈ l → ops[j]? = some o' → o.dst = some d → i ≠ j → d ∈ opNames ops o' → (((masks ops.toList []).getD j 0).testBit i = true ∨ ((masks ops.toList []).getD i 0).testBit j = true) ∧ o'.dst ≠ some d := by
      intro l
      induction l with
      | nil => intro _ i o j o' d hm; cases hm
      | cons x l ih =>
        intro hn i o j o' d hm hj hd hne hdm
        obtain ⟨o1, i1⟩ := x
        simp only [namesOk, Bool.and_eq_true] at hn
        cases hm with
        | head =>
          have h1 := hn.1
          rw [hd] at h1
          dsimp only at h1
          have := List.all_eq_true.1 h1 _ (hmem j o' hj)
          simp only [Bool.or_eq_true, Bool.and_eq_true, Bool.not_eq_true', beq_iff_eq] at this
          rcases this with (h | h) | h
          · exact (hne h).elim
          · have : (opNames ops o').contains d = true := by simpa using hdm
            rw [h] at this
            cases this
          · refine ⟨h.1, fun e => ?_⟩
            have := h.2
            rw [e] at this
            simp at this
        | tail _ hm => exact ih hn.2 i o j o' d hm hj hd hne hdm
    exact fun i o j o' d ho hj hd hne hdm => key _ h2 i o j o' d (hmem i o ho) hj hd hne hdm
  · have := List.all_eq_true.1 h3 _ (hmem i o ho)
    obtain ⟨y, hy, he⟩ := List.any_eq_true.1 this
    obtain ⟨yi, yc, ya⟩ := y
    simp at he
    subst he
    exact ⟨yc, ya, hy⟩

/-- Whoever must be done ahead of what may be done, is done. -/
theorem Plan.closed {P : Program} {ops : Array Oper} {items : List Item} {mask : List Nat} (p : Plan P ops items mask) {D : Nat → Bool} (hD : Down ops D) (hsz : ∀ i, D i = true → ∃ o, ops[i]? = some o) : ∀ (i : Nat) (o : Oper), ops[i]? = some o →
    (∀ e ∈ o.after.toList, Region.binds .any e = true → D e.on = true) → ∀ j, (mask.getD i 0).testBit j = true → D j = true := by
  intro i
  induction i using Nat.strongRecOn with
  | _ i ih =>
    intro o ho hpre j hj
    obtain ⟨e, he, hb, hlt, hor⟩ := p.bit i o ho j hj
    have hde := hpre e he hb
    rcases hor with rfl | hor
    · exact hde
    · obtain ⟨oe, hoe⟩ := hsz _ hde
      exact ih e.on hlt oe hoe (hD e.on oe hoe hde) j hor
end
end Go.Proofs.YtpnoifikpmfpdaaDoorX
namespace Go.Proofs.YtpnoifikpmfpdaaDoorX
open Go
set_option linter.unusedVariables false
set_option linter.unusedSimpArgs false
noncomputable section

/-- An operation of a region that draws its order, as the picture's run did it: its number, itself, its class, how many effects must come ahead of it; was it wanted; its answer; how many effects came ahead of it; the block that it made. -/
structure Rec where
  i : Nat
  o : Oper
  c : Nat
  a : Nat
  w : Bool
  v : AV
  k : Nat
  b : Id
  ob : AO

def putV (fr : Fr) (d : Option Tmp) (v : AV) : Fr :=
  match d with
  | none => fr
  | some d => T.put (some v) (slot d) fr

theorem putT_putV {fr fr' : Fr} {d : Option Tmp} {n : Nat} {v : AV} (h : putT fr d n v = some fr') : fr' = putV fr d v ∧ ∀ t, d = some t → t < n := by
  cases d with
  | none => exact ⟨(Option.some.inj h).symm, fun t e => by cases e⟩
  | some d =>
    obtain ⟨h1, h2⟩ := putT_some h
    exact ⟨h2, fun t e => by cases e; exact h1⟩

theorem putV_putT {fr : Fr} {d : Option Tmp} {n : Nat} {v : AV} (h : ∀ t, d = some t → t < n) : putT fr d n v = some (putV fr d v) := by
  cases d with
  | none => rfl
  | some d =>
    have := h d rfl
    simp only [putT, cnd_eq]
    rw [if_neg (by simp; omega)]
    rfl

def frameOf (fr0 : Fr) (l : List Rec) : Fr := l.foldl (fun fr r => putV fr r.o.dst r.v) fr0
def effs (l : List Rec) : Nat := (l.filter fun r => r.c == 2).length
def mades (l : List Rec) : Nat := (l.filter fun r => r.c == 1).length
def linksOf (l : List Rec) (k : Nat) : List (Id × AO) := ((l.filter fun r => r.c == 1 && r.w && r.k == k).map fun r => (r.b, r.ob)).reverse

theorem frameOf_snoc (fr0 : Fr) (l : List Rec) (r : Rec) : frameOf fr0 (l ++ [r]) = putV (frameOf fr0 l) r.o.dst r.v := by simp [frameOf]

section
variable (P : Program) (K : CallF) (n : Nat) (ops : Array Oper) (fr0 : Fr) (S : Nat → H) (b0 : Id)

structure LF (pre : List Rec) (r : Rec) : Prop where
  op : ops[r.i]? = some r.o
  want : wantedA ops (frameOf fr0 pre) r.o = some r.w
  dst : ∀ d, r.o.dst = some d → d < n
  win : r.k = effs pre
  un : r.w = false → r.v = undefA
  quiet : r.c ≠ 1 → r.c ≠ 2 → r.w = true → ∃ h', xop P noCall (frameOf fr0 pre) (S r.k) r.o = some (r.v, h')
  look : r.c = 3 → r.w = true → ∀ k, r.a ≤ k → k < r.k → agrees P ops (frameOf fr0 pre) r.o r.v (S k) = true
  make : r.c = 1 → r.w = true → evalM P (frameOf fr0 pre) r.b r.o = some (r.v, r.ob)
  eff : r.c = 2 → r.w = true → xop P K (frameOf fr0 pre) (linkAll (linksOf pre r.k) (S r.k)) r.o = some (r.v, S (r.k + 1))
  effn : r.c = 2 → r.w = false → S (r.k + 1) = linkAll (linksOf pre r.k) (S r.k)
  name : r.b = incs (mades pre) b0

inductive Tr : List Rec → List Item → List Rec → Prop
  | nil {pre : List Rec} : Tr pre [] []
  | cons {pre : List Rec} {r : Rec} {items : List Item} {rs : List Rec} : LF P K n ops fr0 S b0 pre r → Tr (pre ++ [r]) items rs → Tr pre ((r.i, r.c, r.a) :: items) (r :: rs)
end

theorem incs_succ : ∀ (m : Nat) (b : Id), incs (m + 1) b = inc (incs m b)
  | 0, b => rfl
  | m + 1, b => by
    show incs (m + 1) (inc b) = inc (incs m (inc b))
    exact incs_succ m (inc b)

theorem num_incs : ∀ (m : Nat) (b : Id), num (incs m b) = num b + m
  | 0, b => rfl
  | m + 1, b => by rw [incs_succ, num_inc, num_incs m b]; omega

/-- The elder heaps. -/
def OldsOk (S : Nat → H) (k : Nat) (olds : List H) : Prop := ∀ a j, a ≤ j → j < k → S j ∈ olds.take (k - a)

theorem linksOf_snoc_other {l : List Rec} {r : Rec} {k : Nat} (h : (r.c == 1 && r.w && r.k == k) = false) : linksOf (l ++ [r]) k = linksOf l k := by
  simp [linksOf, List.filter_append, h]

theorem linksOf_snoc_made {l : List Rec} {r : Rec} {k : Nat} (h : (r.c == 1 && r.w && r.k == k) = true) : linksOf (l ++ [r]) k = (r.b, r.ob) :: linksOf l k := by
  simp [linksOf, List.filter_append, h]

theorem linksOf_later {l : List Rec} {k : Nat} (h : ∀ r ∈ l, r.k < k) : linksOf l k = [] := by
  have : l.filter (fun r => r.c == 1 && r.w && r.k == k) = [] := by
    rw [List.filter_eq_nil_iff]
    intro r hr e
    have := h r hr
    simp only [Bool.and_eq_true, beq_iff_eq] at e
    omega
  simp [linksOf, this]

/-- The picture's run of a region, told. -/
theorem trace {P : Program} {K : CallF} {n : Nat} {ops : Array Oper} {fr0 fr' : Fr} {h' : H} {b0 : Id} : ∀ (items : List Item) (k : Nat) (olds : List H) (b : Id) (links : List (Id × AO)) (fr : Fr) (h : H) (pre : List Rec) (S : Nat → H),
    xdraw P K n ops items k olds b links fr h = some (fr', h') → fr = frameOf fr0 pre → links = linksOf pre k → k = effs pre → b = incs (mades pre) b0 → S k = h → OldsOk S k olds → (∀ r ∈ pre, r.k ≤ k) →
    ∃ (S' : Nat → H) (tr : List Rec), (∀ j, j ≤ k → S' j = S j) ∧ Tr P K n ops fr0 S' b0 pre items tr ∧ fr' = frameOf fr0 (pre ++ tr) ∧ h' = linkAll (linksOf (pre ++ tr) (effs (pre ++ tr))) (S' (effs (pre ++ tr)))
  | [], k, olds, b, links, fr, h, pre, S, hx, hfr, hl, hk, hb, hS, ho, hp => by
    have hx : some (fr, linkAll links h) = some (fr', h') := hx
    cases hx
    refine ⟨S, [], fun _ _ => rfl, .nil, by simp [hfr], ?_⟩
    rw [List.append_nil, ← hk, ← hl, hS]
  | (i, c, a) :: items, k, olds, b, links, fr, h, pre, S, hx, hfr, hl, hk, hb, hS, ho, hp => by
    simp only [xdraw] at hx
    split at hx
    · rename_i o hop
      split at hx
      · rename_i w hw
        by_cases hc2 : c = 2
        · subst hc2
          rw [if_pos (by rfl)] at hx
          -- an effect
          have step : ∀ v h1, cnd w (xop P K fr (linkAll links h) o) (some (undefA, linkAll links h)) = some (v, h1) → fin n (xdraw P K n ops items (k + 1) (h :: olds) b []) fr o.dst (some (v, h1)) = some (fr', h') →
              ∃ (S' : Nat → H) (tr : List Rec), (∀ j, j ≤ k → S' j = S j) ∧ Tr P K n ops fr0 S' b0 pre ((i, 2, a) :: items) tr ∧ fr' = frameOf fr0 (pre ++ tr) ∧ h' = linkAll (linksOf (pre ++ tr) (effs (pre ++ tr))) (S' (effs (pre ++ tr))) := fun v h1 he hf => by
            cases hput : putT fr o.dst n v with
            | none => simp only [fin, hput] at hf; cases hf
            | some fr1 =>
              simp only [fin, hput] at hf
              obtain ⟨hfr1, hdst⟩ := putT_putV hput
              let r : Rec := ⟨i, o, 2, a, w, v, k, b, .omap [] 0⟩
              have heffs : effs (pre ++ [r]) = effs pre + 1 := by simp [effs, List.filter_append, r]
              have hmades : mades (pre ++ [r]) = mades pre := by simp [mades, List.filter_append, r]
              obtain ⟨S', tr, q1, q2, q3, q4⟩ := trace items (k + 1) (h :: olds) b [] fr1 h1 (pre ++ [r]) (fun j => if j = k + 1 then h1 else S j) hf (by rw [hfr1, frameOf_snoc, hfr])
                (by rw [linksOf_later]; intro r' hr'; rcases List.mem_append.1 hr' with hh | hh
                    · have := hp r' hh; omega
                    · simp at hh; subst hh; show k < k + 1; omega) (by rw [heffs, hk]) (by rw [hmades, hb]) (by simp)
                (fun a' j h1' h2' => by
                  have hne : j ≠ k + 1 := by omega
                  show (if j = k + 1 then h1 else S j) ∈ _
                  rw [if_neg hne]
                  by_cases hj : j = k
                  · subst hj
                    rw [hS, show j + 1 - a' = (j - a') + 1 by omega]
                    exact List.mem_cons_self ..
                  · rw [show k + 1 - a' = (k - a') + 1 by omega]
                    exact List.mem_cons_of_mem _ (ho a' j h1' (by omega)))
                (fun r' hr' => by
                  rcases List.mem_append.1 hr' with hh | hh
                  · have := hp r' hh; omega
                  · simp at hh; subst hh; show k ≤ k + 1; omega)
              have hSk : S' k = h := by rw [q1 k (by omega), if_neg (by omega), hS]
              have hSk1 : S' (k + 1) = h1 := by rw [q1 (k + 1) (by omega), if_pos rfl]
              refine ⟨S', r :: tr, fun j hj => by rw [q1 j (by omega), if_neg (by omega)], .cons ⟨hop, by rw [← hfr]; exact hw, hdst, hk, fun hwf => ?_, fun _ hh => (hh rfl).elim, fun hh => (by cases hh), fun hh => (by cases hh), fun _ hwt => ?_, fun _ hwf => ?_, hb⟩ q2, ?_, ?_⟩
              · have hwf : w = false := hwf
                subst hwf
                have := Option.some.inj he
                cases this; rfl
              · have hwt : w = true := hwt
                subst hwt
                show xop P K (frameOf fr0 pre) (linkAll (linksOf pre k) (S' k)) o = some (v, S' (k + 1))
                rw [hSk, hSk1, ← hfr, ← hl]
                exact he
              · have hwf : w = false := hwf
                subst hwf
                have := Option.some.inj he
                cases this
                show S' (k + 1) = linkAll (linksOf pre k) (S' k)
                rw [hSk, hSk1, ← hl]
              · rw [q3, List.append_assoc]; rfl
              · rw [q4, List.append_assoc]; rfl
          cases hcn : cnd w (xop P K fr (linkAll links h) o) (some (undefA, linkAll links h)) with
          | none => rw [hcn] at hx; cases hx
          | some vh =>
            obtain ⟨v, h1⟩ := vh
            rw [hcn] at hx
            exact step v h1 hcn hx
        · rw [if_neg (by simpa using hc2)] at hx
          by_cases hc1 : c = 1
          · subst hc1
            rw [if_pos (by rfl)] at hx
            have step : ∀ v ob links', (w = true → evalM P fr b o = some (v, ob) ∧ links' = (b, ob) :: links) → (w = false → v = undefA ∧ links' = links) → fin n (xdraw P K n ops items k olds (inc b) links') fr o.dst (some (v, h)) = some (fr', h') →
                ∃ (S' : Nat → H) (tr : List Rec), (∀ j, j ≤ k → S' j = S j) ∧ Tr P K n ops fr0 S' b0 pre ((i, 1, a) :: items) tr ∧ fr' = frameOf fr0 (pre ++ tr) ∧ h' = linkAll (linksOf (pre ++ tr) (effs (pre ++ tr))) (S' (effs (pre ++ tr))) := fun v ob links' ht hff hf => by
              cases hput : putT fr o.dst n v with
              | none => simp only [fin, hput] at hf; cases hf
              | some fr1 =>
                simp only [fin, hput] at hf
                obtain ⟨hfr1, hdst⟩ := putT_putV hput
                let r : Rec := ⟨i, o, 1, a, w, v, k, b, ob⟩
                have heffs : effs (pre ++ [r]) = effs pre := by simp [effs, List.filter_append, r]
                have hmades : mades (pre ++ [r]) = mades pre + 1 := by simp [mades, List.filter_append, r]
                have hlk : links' = linksOf (pre ++ [r]) k := by
                  cases hwv : w with
                  | true =>
                    rw [(ht hwv).2, linksOf_snoc_made (by simp [r, hwv]), hl]
                  | false =>
                    rw [(hff hwv).2, linksOf_snoc_other (by simp [r, hwv]), hl]
                obtain ⟨S', tr, q1, q2, q3, q4⟩ := trace items k olds (inc b) links' fr1 h (pre ++ [r]) S hf (by rw [hfr1, frameOf_snoc, hfr]) hlk (by rw [heffs, hk]) (by rw [hmades, incs_succ, hb]) hS ho
                  (fun r' hr' => by
                    rcases List.mem_append.1 hr' with hh | hh
                    · exact hp r' hh
                    · simp at hh; subst hh; exact Nat.le_refl _)
                refine ⟨S', r :: tr, q1, .cons ⟨hop, by rw [← hfr]; exact hw, hdst, hk, fun hwf => (hff hwf).1, fun hh => (hh rfl).elim, fun hh => (by cases hh), fun _ hwt => by rw [← hfr]; exact (ht hwt).1, fun hh => (by cases hh), fun hh => (by cases hh), hb⟩ q2, ?_, ?_⟩
                · rw [q3, List.append_assoc]; rfl
                · rw [q4, List.append_assoc]; rfl
            cases hwv : w with
            | true =>
              rw [hwv, cnd_true] at hx
              split at hx
              · rename_i v ob hev
                exact step v ob _ (fun _ => ⟨hev, rfl⟩) (fun hh => by rw [hwv] at hh; cases hh) hx
              · cases hx
            | false =>
              rw [hwv, cnd_false] at hx
              exact step undefA (.omap [] 0) links (fun hh => by rw [hwv] at hh; cases hh) (fun _ => ⟨rfl, rfl⟩) hx
          · rw [if_neg (by simpa using hc1)] at hx
            simp only [drawQ] at hx
            split at hx
            · rename_i v hv
              rw [cnd_eq] at hx
              split at hx
              · rename_i hag
                cases hput : putT fr o.dst n v with
                | none => simp only [fin, hput] at hx; cases hx
                | some fr1 =>
                  simp only [fin, hput] at hx
                  obtain ⟨hfr1, hdst⟩ := putT_putV hput
                  let r : Rec := ⟨i, o, c, a, w, v, k, b, .omap [] 0⟩
                  have heffs : effs (pre ++ [r]) = effs pre := by simp [effs, List.filter_append, r, hc2]
                  have hmades : mades (pre ++ [r]) = mades pre := by simp [mades, List.filter_append, r, hc1]
                  obtain ⟨S', tr, q1, q2, q3, q4⟩ := trace items k olds b links fr1 h (pre ++ [r]) S hx (by rw [hfr1, frameOf_snoc, hfr]) (by rw [linksOf_snoc_other (by simp [r, hc1]), hl]) (by rw [heffs, hk]) (by rw [hmades, hb]) hS ho
                    (fun r' hr' => by
                      rcases List.mem_append.1 hr' with hh | hh
                      · exact hp r' hh
                      · simp at hh; subst hh; exact Nat.le_refl _)
                  refine ⟨S', r :: tr, q1, .cons ⟨hop, by rw [← hfr]; exact hw, hdst, hk, fun hwf => ?_, fun _ _ hwt => ?_, fun h3 hwt kk hka hkk => ?_, fun hh => (hc1 hh).elim, fun hh => (hc2 hh).elim, fun hh => (hc2 hh).elim, hb⟩ q2, ?_, ?_⟩
                  · have hwf : w = false := hwf
                    rw [hwf, cnd_false] at hv
                    exact (Option.some.inj hv).symm
                  · have hwt : w = true := hwt
                    rw [hwt, cnd_true] at hv
                    split at hv
                    · rename_i v1 h1 hxo
                      cases hv
                      refine ⟨h1, ?_⟩
                      show xop P noCall (frameOf fr0 pre) (S' k) o = some (v, h1)
                      rw [q1 k (Nat.le_refl _), hS, ← hfr]
                      exact hxo
                    · cases hv
                  · have hwt : w = true := hwt
                    have h3 : c = 3 := h3
                    have hkk : kk < k := hkk
                    have hka : a ≤ kk := hka
                    rw [hwt, h3] at hag
                    simp only [Bool.true_and, beq_self_eq_true, Bool.not_true, Bool.false_or] at hag
                    have := List.all_eq_true.1 hag _ (ho a kk hka hkk)
                    show agrees P ops (frameOf fr0 pre) o v (S' kk) = true
                    rw [q1 kk (by omega), ← hfr]
                    exact this
                  · rw [q3, List.append_assoc]; rfl
                  · rw [q4, List.append_assoc]; rfl
              · cases hx
            · cases hx
      · cases hx
    · cases hx
end
end Go.Proofs.YtpnoifikpmfpdaaDoorX
namespace Go.Proofs.YtpnoifikpmfpdaaDoorX
open Go
set_option linter.unusedVariables false
set_option linter.unusedSimpArgs false
noncomputable section

/-! ### what an operation sees of the slots -/
theorem evParts_congr {fr fr2 : Fr} : ∀ {l : List (Nat × Operand)}, (∀ x ∈ l, ev fr x.2 = ev fr2 x.2) → evParts fr l = evParts fr2 l
  | [], _ => rfl
  | (i, x) :: l, h => by
    simp only [evParts]
    rw [h (i, x) (List.mem_cons_self ..), evParts_congr fun y hy => h y (List.mem_cons_of_mem _ hy)]

theorem evAll_congr {fr fr2 : Fr} : ∀ {l : List Operand}, (∀ x ∈ l, ev fr x = ev fr2 x) → evAll fr l = evAll fr2 l
  | [], _ => rfl
  | x :: l, h => by
    have ih := evAll_congr (l := l) fun y hy => h y (List.mem_cons_of_mem _ hy)
    simp only [evAll] at ih ⊢
    simp only [mapO]
    rw [h x (List.mem_cons_self ..), ih]

theorem evO_congr {fr fr2 : Fr} {x : Option Operand} (h : ∀ y ∈ x.toArray, ev fr y = ev fr2 y) : evO fr x = evO fr2 x := by
  cases x with
  | none => rfl
  | some y => simp only [evO]; rw [h y (by simp)]

theorem xop_congr {P : Program} {K : CallF} {fr fr2 : Fr} {h : H} {o : Oper} (hm : mapsOp o.op = true) (hx : ∀ x ∈ o.op.operands, ev fr x = ev fr2 x) : xop P K fr h o = xop P K fr2 h o := by
  obtain ⟨dst, op, type, pos, after, guard⟩ := o
  cases op <;> (try (cases hm; done))
  case move x => show opMove x P K type fr h = opMove x P K type fr2 h; simp only [opMove]; rw [hx x (by simp [Op.operands])]
  case assign x => show opAssign x P K type fr h = opAssign x P K type fr2 h; simp only [opAssign]; rw [hx x (by simp [Op.operands])]
  case pick c x y => show opPick c x y P K type fr h = opPick c x y P K type fr2 h; simp only [opPick]; rw [hx c (by simp [Op.operands]), hx x (by simp [Op.operands]), hx y (by simp [Op.operands])]
  case alloc t => rfl
  case box t x => show opBox t x P K type fr h = opBox t x P K type fr2 h; simp only [opBox]; rw [hx x (by simp [Op.operands])]
  case build t ps => show opBuild t ps P K type fr h = opBuild t ps P K type fr2 h; simp only [opBuild]; rw [evParts_congr fun x hm => hx x.2 (by simp [Op.operands]; exact ⟨x.1, by simpa using hm⟩)]
  case buildSlice t n ps => show opBuildSlice t n ps P K type fr h = opBuildSlice t n ps P K type fr2 h; simp only [opBuildSlice]; rw [evParts_congr fun x hm => hx x.2 (by simp [Op.operands]; exact ⟨x.1, by simpa using hm⟩)]
  case insert t m i x => show opInsert t m i x P K type fr h = opInsert t m i x P K type fr2 h; simp only [opInsert]; rw [hx m (by simp [Op.operands]), hx i (by simp [Op.operands]), hx x (by simp [Op.operands])]
  case load t x => show opLoad t x P K type fr h = opLoad t x P K type fr2 h; simp only [opLoad]; rw [hx x (by simp [Op.operands])]
  case store t x y => show opStore t x y P K type fr h = opStore t x y P K type fr2 h; simp only [opStore]; rw [hx x (by simp [Op.operands]), hx y (by simp [Op.operands])]
  case nilCheck x => show opNilCheck x P K type fr h = opNilCheck x P K type fr2 h; simp only [opNilCheck]; rw [hx x (by simp [Op.operands])]
  case binOp op t x y t2 => show opBinOp op t x y t2 P K type fr h = opBinOp op t x y t2 P K type fr2 h; simp only [opBinOp]; rw [hx x (by simp [Op.operands]), hx y (by simp [Op.operands])]
  case unOp op t x => show opUnOp op t x P K type fr h = opUnOp op t x P K type fr2 h; simp only [opUnOp]; rw [hx x (by simp [Op.operands])]
  case convert s d x => show opConvert s d x P K type fr h = opConvert s d x P K type fr2 h; simp only [opConvert]; rw [hx x (by simp [Op.operands])]
  case makeFunc f a c => show opMakeFunc f a c P K type fr h = opMakeFunc f a c P K type fr2 h; simp only [opMakeFunc]; rw [evAll_congr fun x hm => hx x (by simp [Op.operands]; exact .inl (by simpa using hm)), evAll_congr fun x hm => hx x (by simp [Op.operands]; exact .inr (by simpa using hm))]
  case makeMap t r => cases r <;> rfl
  case makeSlice t l c => show opMakeSlice t l c P K type fr h = opMakeSlice t l c P K type fr2 h; simp only [opMakeSlice]; rw [hx l (by simp [Op.operands]), hx c (by simp [Op.operands])]
  case slice t x l u m => show opSlice t x l u m P K type fr h = opSlice t x l u m P K type fr2 h; simp only [opSlice]; rw [hx x (by simp [Op.operands]), evO_congr fun y hm => hx y (by simp [Op.operands] at hm ⊢; simp [hm]), evO_congr fun y hm => hx y (by simp [Op.operands] at hm ⊢; simp [hm]), evO_congr fun y hm => hx y (by simp [Op.operands] at hm ⊢; simp [hm])]
  case fieldAddr t x f => show opFieldAddr t x f P K type fr h = opFieldAddr t x f P K type fr2 h; simp only [opFieldAddr]; rw [hx x (by simp [Op.operands])]
  case field t x f => show opField t x f P K type fr h = opField t x f P K type fr2 h; simp only [opField]; rw [hx x (by simp [Op.operands])]
  case indexAddr t x i => show opIndexAddr t x i P K type fr h = opIndexAddr t x i P K type fr2 h; simp only [opIndexAddr]; rw [hx x (by simp [Op.operands]), hx i (by simp [Op.operands])]
  case index t x i => show opIndex t x i P K type fr h = opIndex t x i P K type fr2 h; simp only [opIndex]; rw [hx x (by simp [Op.operands]), hx i (by simp [Op.operands])]
  case lookup t x i ok => show opLookup t x i ok P K type fr h = opLookup t x i ok P K type fr2 h; simp only [opLookup]; rw [hx x (by simp [Op.operands]), hx i (by simp [Op.operands])]
  case mapUpdate t m i x => show opMapUpdate t m i x P K type fr h = opMapUpdate t m i x P K type fr2 h; simp only [opMapUpdate]; rw [hx m (by simp [Op.operands]), hx i (by simp [Op.operands]), hx x (by simp [Op.operands])]
  case mapEntry t m i => show opMapEntry t m i P K type fr h = opMapEntry t m i P K type fr2 h; simp only [opMapEntry]; rw [hx m (by simp [Op.operands]), hx i (by simp [Op.operands])]
  case entryStore t m i x => show opEntryStore t m i x P K type fr h = opEntryStore t m i x P K type fr2 h; simp only [opEntryStore]; rw [hx m (by simp [Op.operands]), hx i (by simp [Op.operands]), hx x (by simp [Op.operands])]
  case range t x => show opRange t x P K type fr h = opRange t x P K type fr2 h; simp only [opRange]; rw [hx x (by simp [Op.operands])]
  case next x b => show opNext x b P K type fr h = opNext x b P K type fr2 h; simp only [opNext]; rw [hx x (by simp [Op.operands])]
  case entry x => show opEntry x P K type fr h = opEntry x P K type fr2 h; simp only [opEntry]; rw [hx x (by simp [Op.operands])]
  case extract x i => show opExtract x i P K type fr h = opExtract x i P K type fr2 h; simp only [opExtract]; rw [hx x (by simp [Op.operands])]
  case call c =>
    obtain ⟨callee, args, ats⟩ := c
    cases callee
    case value f =>
      show callV K args.toList fr h (ev fr f) = callV K args.toList fr2 h (ev fr2 f)
      have ha := evAll_congr (l := args.toList) (fr := fr) (fr2 := fr2) fun x hm => hx x (by simp [Op.operands, Call.operands]; exact .inr (by simpa using hm))
      simp only [callV]
      rw [hx f (by simp [Op.operands, Call.operands]), ha]
    case invoke r m => rfl
    case builtin b =>
      show callB b ⟨.builtin b, args, ats⟩ P type fr h = callB b ⟨.builtin b, args, ats⟩ P type fr2 h
      have ha := evAll_congr (l := args.toList) (fr := fr) (fr2 := fr2) fun x hm => hx x (by simp [Op.operands, Call.operands]; simpa using hm)
      simp only [callB]
      rw [ha]

/-! ### frames of what was done -/
theorem get_frame_none {fr0 : Fr} {t : Nat} : ∀ {l : List Rec}, (∀ r ∈ l, r.o.dst ≠ some t) → T.get (slot t) (frameOf fr0 l) = T.get (slot t) fr0 := by
  intro l
  induction l generalizing fr0 with
  | nil => intro _; rfl
  | cons r l ih =>
    intro h
    have h1 := h r (List.mem_cons_self ..)
    show T.get (slot t) (frameOf (putV fr0 r.o.dst r.v) l) = _
    rw [ih fun r' hr' => h r' (List.mem_cons_of_mem _ hr')]
    cases hd : r.o.dst with
    | none => rfl
    | some d =>
      have hne : slot d ≠ slot t := fun e => h1 (by rw [hd, slot_inj e])
      exact T.get_put_ne _ _ _ _ hne

theorem get_frame_some {fr0 : Fr} {t : Nat} {r0 : Rec} (hd0 : r0.o.dst = some t) : ∀ {l : List Rec}, r0 ∈ l → (∀ r ∈ l, r.o.dst = some t → r = r0) → T.get (slot t) (frameOf fr0 l) = some r0.v := by
  intro l
  induction l generalizing fr0 with
  | nil => intro h; cases h
  | cons r l ih =>
    intro hm hu
    show T.get (slot t) (frameOf (putV fr0 r.o.dst r.v) l) = _
    by_cases hin : r0 ∈ l
    · exact ih hin fun r' hr' => hu r' (List.mem_cons_of_mem _ hr')
    · have hr : r0 = r := by
        cases hm with
        | head => rfl
        | tail _ hm => exact (hin hm).elim
      subst hr
      rw [get_frame_none]
      · rw [hd0]; exact T.get_put_same _ _ _
      · intro r' hr' hd
        have := hu r' (List.mem_cons_of_mem _ hr') hd
        subst this
        exact hin hr'

theorem FR.congr {s : Sg} {n : Nat} {fr fr2 : Fr} {a : Act} (k : FR s n fr a) (h : ∀ t, T.get (slot t) fr2 = T.get (slot t) fr) : FR s n fr2 a := ⟨k.size, k.defers, fun t v e => k.get t v (by rw [← h]; exact e)⟩

/-! ### blocks that were made ahead of their turn -/
theorem HR.link {s : Sg} {h : H} {w : World} (k : HR s h w) {b : Id} {o : AO} {l : Loc} (hl : s b = some l) (ho : ObjR s o l w) (hp : ¬ Pic s h l.blk) : HR s ⟨T.put (some o) b h.t, h.nx⟩ w := by
  have hget : ∀ c x, T.get c (T.put (some o) b h.t) = some x → (c = b ∧ x = o) ∨ (c ≠ b ∧ T.get c h.t = some x) := fun c x hx => by
    by_cases e : b = c
    · subst e; rw [T.get_put_same] at hx; cases hx; exact .inl ⟨rfl, rfl⟩
    · rw [T.get_put_ne _ _ _ _ e] at hx; exact .inr ⟨fun x => e x.symm, hx⟩
  refine ⟨fun c x hx => ?_, fun c c' x x' m m' hx hx' hm hm' e => ?_, k.fresh⟩
  · rcases hget c x hx with ⟨rfl, rfl⟩ | ⟨_, h2⟩
    · exact ⟨l, hl, ho⟩
    · exact k.live c x h2
  · rcases hget c x hx with ⟨rfl, rfl⟩ | ⟨hne, h2⟩ <;> rcases hget c' x' hx' with ⟨rfl, rfl⟩ | ⟨hne', h2'⟩
    · rfl
    · rw [hl] at hm; cases hm
      exact (hp ⟨c', x', m', h2', hm', e.symm⟩).elim
    · rw [hl] at hm'; cases hm'
      exact (hp ⟨c, x, m, h2, hm, e⟩).elim
    · exact k.inj c c' x x' m m' h2 h2' hm hm' e

theorem pic_link {s : Sg} {h : H} {b : Id} {o : AO} {l : Loc} (hl : s b = some l) {c : Nat} (hp : Pic s ⟨T.put (some o) b h.t, h.nx⟩ c) : Pic s h c ∨ l.blk = c := by
  obtain ⟨d, x, m, hx, hm, e⟩ := hp
  have hx : T.get d (T.put (some o) b h.t) = some x := hx
  by_cases eb : b = d
  · subst eb
    rw [hl] at hm; cases hm
    exact .inr e
  · rw [T.get_put_ne _ _ _ _ eb] at hx
    exact .inl ⟨d, x, m, hx, hm, e⟩

/-- A made block that waits: where it lies. -/
def Born (s : Sg) (h : H) (w : World) (base : Nat) (x : Id × AO) : Prop := ∃ l, s x.1 = some l ∧ ObjR s x.2 l w ∧ ¬ Pic s h l.blk ∧ base ≤ l.blk

def Apart (s : Sg) (x y : Id × AO) : Prop := ∀ l l', s x.1 = some l → s y.1 = some l' → l.blk ≠ l'.blk

theorem link_ok {s : Sg} {w : World} {base : Nat} : ∀ (links : List (Id × AO)) (h : H), HR s h w → (∀ x ∈ links, Born s h w base x) → links.Pairwise (Apart s) →
    HR s (linkAll links h) w ∧ (∀ c, Pic s (linkAll links h) c → Pic s h c ∨ ∃ x ∈ links, ∃ l, s x.1 = some l ∧ l.blk = c) ∧ (linkAll links h).nx = h.nx
  | [], h, k, _, _ => ⟨k, fun c hc => .inl hc, rfl⟩
  | (b, o) :: links, h, k, hb, hp => by
    obtain ⟨l, hl, ho, hnp, hbase⟩ := hb (b, o) (List.mem_cons_self ..)
    have hp1 := List.pairwise_cons.1 hp
    have k' := k.link hl ho hnp
    obtain ⟨q1, q2, q3⟩ := link_ok links _ k' (fun x hx => by
      obtain ⟨l2, hl2, ho2, hnp2, hb2⟩ := hb x (List.mem_cons_of_mem _ hx)
      refine ⟨l2, hl2, ho2, fun hpic => ?_, hb2⟩
      rcases pic_link hl hpic with h1 | h1
      · exact hnp2 h1
      · exact hp1.1 x hx l l2 hl hl2 h1) hp1.2
    refine ⟨q1, fun c hc => ?_, q3⟩
    rcases q2 c hc with h1 | ⟨x, hx, l2, hl2, e⟩
    · rcases pic_link hl h1 with h2 | h2
      · exact .inl h2
      · exact .inr ⟨(b, o), List.mem_cons_self .., l, hl, h2⟩
    · exact .inr ⟨x, List.mem_cons_of_mem _ hx, l2, hl2, e⟩
end
end Go.Proofs.YtpnoifikpmfpdaaDoorX
namespace Go.Proofs.YtpnoifikpmfpdaaDoorX
open Go
set_option linter.unusedVariables false
set_option linter.unusedSimpArgs false
noncomputable section

theorem tr_split {P : Program} {K : CallF} {n : Nat} {ops : Array Oper} {fr0 : Fr} {S : Nat → H} {b0 : Id} {pre : List Rec} {items : List Item} {rs : List Rec} (t : Tr P K n ops fr0 S b0 pre items rs) : ∀ l1 r l2, rs = l1 ++ r :: l2 → LF P K n ops fr0 S b0 (pre ++ l1) r := by
  induction t with
  | nil => intro l1 r l2 e; cases l1 <;> cases e
  | cons hlf _ ih =>
    intro l1 r l2 e
    cases l1 with
    | nil => cases e; rw [List.append_nil]; exact hlf
    | cons x l1 =>
      cases e
      have := ih l1 r l2 rfl
      rw [List.append_assoc] at this
      exact this

theorem tr_items {P : Program} {K : CallF} {n : Nat} {ops : Array Oper} {fr0 : Fr} {S : Nat → H} {b0 : Id} {pre : List Rec} {items : List Item} {rs : List Rec} (t : Tr P K n ops fr0 S b0 pre items rs) : items = rs.map fun r => (r.i, r.c, r.a) := by
  induction t with
  | nil => rfl
  | cons _ _ ih => rw [ih]; rfl

theorem order_split {P : Program} {ops : Array Oper} {mask en : List Nat} : ∀ (rs : List Rec) (dn : Nat) (pre : List Rec), orderOk P ops mask en dn (rs.map fun r => (r.i, r.c, r.a)) = true → (∀ i, dn.testBit i = true ↔ ∃ r ∈ pre, r.i = i) →
    ∀ l1 r l2, rs = l1 ++ r :: l2 → ∃ o, ops[r.i]? = some o ∧ (∀ e ∈ o.after.toList, Region.binds .any e = true → ∃ r' ∈ pre ++ l1, r'.i = e.on) ∧ (∀ r' ∈ pre ++ l1, r'.i ≠ r.i) ∧ r.c = classOf P o ∧ r.a = countBits (mask.getD r.i 0) en ∧ (r.c = 2 → ∀ r' ∈ pre ++ l1, (mask.getD r.i 0).testBit r'.i = true)
  | [], dn, pre, _, _, l1, r, l2, e => by cases l1 <;> cases e
  | x :: rs, dn, pre, h, hd, l1, r, l2, e => by
    simp only [List.map_cons, orderOk] at h
    split at h
    · rename_i o ho
      simp only [Bool.and_eq_true] at h
      obtain ⟨⟨⟨⟨⟨h1, h2⟩, h3⟩, h4⟩, h5⟩, h6⟩ := h
      cases l1 with
      | nil =>
        cases e
        rw [List.append_nil]
        refine ⟨o, ho, fun e he hb => ?_, fun r' hr' he => ?_, by simpa using h3, by simpa using h4, fun hc r' hr' => ?_⟩
        · have := List.all_eq_true.1 h1 e he
          rw [hb] at this
          exact (hd _).1 (by simpa using this)
        · have := (hd x.i).2 ⟨r', hr', he⟩
          rw [this] at h2
          cases h2
        · rw [if_pos (by simpa using hc)] at h5
          have hbit := (hd r'.i).2 ⟨r', hr', rfl⟩
          have h5 : dn &&& mask.getD x.i 0 = dn := by simpa using h5
          have hb2 := congrArg (fun m => m.testBit r'.i) h5
          simp only [Nat.testBit_and, hbit, Bool.true_and] at hb2
          exact hb2
      | cons y l1 =>
        cases e
        have := order_split (l1 ++ r :: l2) (dn ||| 2 ^ x.i) (pre ++ [x]) h6 (fun i => by
          rw [Nat.testBit_or, Bool.or_eq_true, hd, Nat.testBit_two_pow]
          constructor
          · rintro (⟨r', hr', e⟩ | e)
            · exact ⟨r', List.mem_append_left _ hr', e⟩
            · exact ⟨x, by simp, by simpa using e⟩
          · rintro ⟨r', hr', e⟩
            rcases List.mem_append.1 hr' with hh | hh
            · exact .inl ⟨r', hh, e⟩
            · simp at hh; subst hh; exact .inr (by simpa using e)) l1 r l2 rfl
        rw [List.append_assoc] at this
        exact this
    · cases h

/-- A run that was told, and its order. -/
structure Told (P : Program) (K : CallF) (n : Nat) (ops : Array Oper) (fr0 : Fr) (S : Nat → H) (b0 : Id) (mask en : List Nat) (tr : List Rec) : Prop where
  lf : ∀ l1 r l2, tr = l1 ++ r :: l2 → LF P K n ops fr0 S b0 l1 r
  pre : ∀ l1 r l2, tr = l1 ++ r :: l2 → ∀ e ∈ r.o.after.toList, Region.binds .any e = true → ∃ r' ∈ l1, r'.i = e.on
  un : ∀ l1 r l2, tr = l1 ++ r :: l2 → ∀ r' ∈ l1, r'.i ≠ r.i
  cls : ∀ r ∈ tr, r.c = classOf P r.o
  cnt : ∀ r ∈ tr, r.a = countBits (mask.getD r.i 0) en
  eff : ∀ l1 r l2, tr = l1 ++ r :: l2 → r.c = 2 → ∀ r' ∈ l1, (mask.getD r.i 0).testBit r'.i = true
  all : ∀ i o, ops[i]? = some o → ∃ r ∈ tr, r.i = i

theorem told {P : Program} {K : CallF} {n : Nat} {ops : Array Oper} {fr0 : Fr} {S : Nat → H} {b0 : Id} {items : List Item} {mask : List Nat} {tr : List Rec} (p : Plan P ops items mask) (t : Tr P K n ops fr0 S b0 [] items tr) :
    Told P K n ops fr0 S b0 mask ((ops.toList.zipIdx.filter fun x => classOf P x.1 == 2).map (·.2)) tr := by
  have hit := tr_items t
  have hord := p.order
  rw [hit] at hord
  have hos := order_split tr 0 [] hord (fun i => by simp)
  have hlf : ∀ l1 r l2, tr = l1 ++ r :: l2 → LF P K n ops fr0 S b0 l1 r := fun l1 r l2 e => by simpa using tr_split t l1 r l2 e
  have hop : ∀ l1 r l2, tr = l1 ++ r :: l2 → ∀ o, ops[r.i]? = some o → o = r.o := fun l1 r l2 e o ho => by
    have := (hlf l1 r l2 e).op
    rw [ho] at this
    exact Option.some.inj this
  refine ⟨hlf, fun l1 r l2 e => ?_, fun l1 r l2 e => ?_, fun r hr => ?_, fun r hr => ?_, fun l1 r l2 e => ?_, fun i o ho => ?_⟩
  · obtain ⟨o, ho, q1, q2, q3, q4, q5⟩ := hos l1 r l2 e
    have := hop l1 r l2 e o ho
    subst this
    simpa using q1
  · obtain ⟨o, ho, q1, q2, q3, q4, q5⟩ := hos l1 r l2 e
    simpa using q2
  · obtain ⟨l1, l2, e⟩ := List.append_of_mem hr
    obtain ⟨o, ho, q1, q2, q3, q4, q5⟩ := hos l1 r l2 e
    have := hop l1 r l2 e o ho
    subst this
    exact q3
  · obtain ⟨l1, l2, e⟩ := List.append_of_mem hr
    obtain ⟨o, ho, q1, q2, q3, q4, q5⟩ := hos l1 r l2 e
    exact q4
  · obtain ⟨o, ho, q1, q2, q3, q4, q5⟩ := hos l1 r l2 e
    simpa using q5
  · obtain ⟨c, a, hm⟩ := p.all i o ho
    rw [hit] at hm
    obtain ⟨r, hr, e⟩ := List.mem_map.1 hm
    cases e
    exact ⟨r, hr, rfl⟩

section
variable {P : Program} {K : CallF} {n : Nat} {ops : Array Oper} {fr0 : Fr} {S : Nat → H} {b0 : Id} {items : List Item} {mask en : List Nat} {tr : List Rec}

theorem Told.op (T : Told P K n ops fr0 S b0 mask en tr) {r : Rec} (hr : r ∈ tr) : ops[r.i]? = some r.o := by
  obtain ⟨l1, l2, e⟩ := List.append_of_mem hr
  exact (T.lf l1 r l2 e).op

theorem Told.nodup (T : Told P K n ops fr0 S b0 mask en tr) {l1 l2 : List Rec} {r : Rec} (e : tr = l1 ++ r :: l2) : (∀ r' ∈ l1, r'.i ≠ r.i) ∧ (∀ r' ∈ l2, r'.i ≠ r.i) := by
  refine ⟨T.un l1 r l2 e, fun r' hr' hi => ?_⟩
  obtain ⟨m1, m2, rfl⟩ := List.append_of_mem hr'
  exact T.un (l1 ++ r :: m1) r' m2 (by rw [e]; simp) r (by simp) hi.symm

theorem Told.eq (T : Told P K n ops fr0 S b0 mask en tr) {r r' : Rec} (hr : r ∈ tr) (hr' : r' ∈ tr) (h : r'.i = r.i) : r' = r := by
  obtain ⟨l1, l2, e⟩ := List.append_of_mem hr
  obtain ⟨q1, q2⟩ := T.nodup e
  rw [e] at hr'
  rcases List.mem_append.1 hr' with hh | hh
  · exact (q1 r' hh h).elim
  · cases hh with
    | head => rfl
    | tail _ hh => exact (q2 r' hh h).elim

theorem Told.sz (T : Told P K n ops fr0 S b0 mask en tr) {l : List Rec} (hl : ∀ r ∈ l, r ∈ tr) : ∀ i, (l.any fun r => r.i == i) = true → ∃ o, ops[i]? = some o := fun i h => by
  obtain ⟨r, hr, e⟩ := List.any_eq_true.1 h
  have : r.i = i := by simpa using e
  subst this
  exact ⟨r.o, T.op (hl r hr)⟩

/-- What stands ahead in the told run is closed. -/
theorem Told.down (T : Told P K n ops fr0 S b0 mask en tr) {l1 l2 : List Rec} (e : tr = l1 ++ l2) : Down ops fun i => l1.any fun r => r.i == i := fun i o ho hi ed hed hb => by
  obtain ⟨r, hr, e1⟩ := List.any_eq_true.1 hi
  have e1 : r.i = i := by simpa using e1
  subst e1
  obtain ⟨m1, m2, rfl⟩ := List.append_of_mem hr
  have hop := T.op (r := r) (by rw [e]; simp)
  rw [hop] at ho
  cases ho
  obtain ⟨r', hr', e2⟩ := T.pre m1 r (m2 ++ l2) (by rw [e]; simp) ed hed hb
  refine List.any_eq_true.2 ⟨r', List.mem_append_left _ hr', by simpa using e2⟩

/-- Who must be done ahead of a record stands ahead of it. -/
theorem Told.ahead (T : Told P K n ops fr0 S b0 mask en tr) (p : Plan P ops items mask) {l1 l2 : List Rec} {r : Rec} (e : tr = l1 ++ r :: l2) {r' : Rec} (hr' : r' ∈ tr) (hb : (mask.getD r.i 0).testBit r'.i = true) : r' ∈ l1 := by
  have hD := T.down (l1 := l1) (l2 := r :: l2) e
  have := p.closed hD (T.sz (l := l1) fun x hx => by rw [e]; exact List.mem_append_left _ hx) r.i r.o (T.op (by rw [e]; simp)) (fun ed hed hb => by
    obtain ⟨x, hx, e2⟩ := T.pre l1 r l2 e ed hed hb
    exact List.any_eq_true.2 ⟨x, hx, by simpa using e2⟩) r'.i hb
  obtain ⟨x, hx, e2⟩ := List.any_eq_true.1 this
  have e2 : x.i = r'.i := by simpa using e2
  have := T.eq hr' (by rw [e]; exact List.mem_append_left _ hx) e2
  subst this
  exact hx
end
end
end Go.Proofs.YtpnoifikpmfpdaaDoorX
namespace Go.Proofs.YtpnoifikpmfpdaaDoorX
open Go
set_option linter.unusedVariables false
set_option linter.unusedSimpArgs false
noncomputable section
section
variable {P : Program} {K : CallF} {n : Nat} {ops : Array Oper} {fr0 : Fr} {S : Nat → H} {b0 : Id} {items : List Item} {mask en : List Nat} {tr : List Rec}

/-- What is done. -/
def done (D : Nat → Bool) (tr : List Rec) : List Rec := tr.filter fun r => D r.i

theorem mem_done {D : Nat → Bool} {r : Rec} : r ∈ done D tr ↔ r ∈ tr ∧ D r.i = true := List.mem_filter

/-- Only one record writes a slot. -/
theorem Told.one (tt : Told P K n ops fr0 S b0 mask en tr) (p : Plan P ops items mask) {r r' : Rec} {t : Nat} (hr : r ∈ tr) (hr' : r' ∈ tr) (h : r.o.dst = some t) (h' : r'.o.dst = some t) : r' = r := by
  by_cases e : r.i = r'.i
  · exact tt.eq hr hr' e.symm
  · have := (p.names r.i r.o r'.i r'.o t (tt.op hr) (tt.op hr') h e (by simp [opNames, h'])).2
    exact (this h').elim

theorem Told.see (tt : Told P K n ops fr0 S b0 mask en tr) (p : Plan P ops items mask) {D : Nat → Bool} (hD : Down ops D) (hsz : ∀ i, D i = true → ∃ o, ops[i]? = some o) {l1 l2 : List Rec} {r : Rec} (e : tr = l1 ++ r :: l2)
    (hun : D r.i = false) (hpre : ∀ ed ∈ r.o.after.toList, Region.binds .any ed = true → D ed.on = true) : ∀ t ∈ opNames ops r.o, T.get (slot t) (frameOf fr0 (done D tr)) = T.get (slot t) (frameOf fr0 l1) := by
  intro t ht
  have hrt : r ∈ tr := by rw [e]; simp
  have hl1 : ∀ x ∈ l1, x ∈ tr := fun x hx => by rw [e]; exact List.mem_append_left _ hx
  by_cases hex : ∃ r0 ∈ tr, r0.o.dst = some t ∧ r0.i ≠ r.i
  · obtain ⟨r0, h0, hd, hne⟩ := hex
    rcases (p.names r0.i r0.o r.i r.o t (tt.op h0) (tt.op hrt) hd hne ht).1 with hb | hb
    · have hin : D r0.i = true := p.closed hD hsz r.i r.o (tt.op hrt) hpre r0.i hb
      have hin1 : r0 ∈ l1 := tt.ahead p e h0 hb
      rw [get_frame_some hd (mem_done.2 ⟨h0, hin⟩) (fun x hx hxd => tt.one p h0 (mem_done.1 hx).1 hd hxd), get_frame_some hd hin1 (fun x hx hxd => tt.one p h0 (hl1 x hx) hd hxd)]
    · have hnD : D r0.i = false := by
        cases hq : D r0.i with
        | false => rfl
        | true =>
          have := p.closed hD hsz r0.i r0.o (tt.op h0) (fun ed hed hb2 => hD r0.i r0.o (tt.op h0) hq ed hed hb2) r.i hb
          rw [hun] at this; cases this
      have hn1 : r0 ∉ l1 := fun hm => by
        obtain ⟨m1, m2, hm2⟩ := List.append_of_mem hm
        have := tt.ahead p (l1 := m1) (l2 := m2 ++ r :: l2) (r := r0) (by rw [e, hm2]; simp) hrt hb
        exact tt.un l1 r l2 e r (by rw [hm2]; exact List.mem_append_left _ this) rfl
      rw [get_frame_none fun x hx hxd => ?_, get_frame_none fun x hx hxd => ?_]
      · have := tt.one p h0 (hl1 x hx) hd hxd
        subst this
        exact hn1 hx
      · have := tt.one p h0 (mem_done.1 hx).1 hd hxd
        subst this
        rw [(mem_done.1 hx).2] at hnD; cases hnD
  · rw [get_frame_none fun x hx hxd => ?_, get_frame_none fun x hx hxd => ?_]
    · refine hex ⟨x, hl1 x hx, hxd, tt.un l1 r l2 e x hx⟩
    · refine hex ⟨x, (mem_done.1 hx).1, hxd, fun hi => ?_⟩
      have := (mem_done.1 hx).2
      rw [hi, hun] at this; cases this

theorem ev_names {fr fr2 : Fr} {o : Oper} (h : ∀ t ∈ opNames ops o, T.get (slot t) fr = T.get (slot t) fr2) : ∀ x ∈ o.op.operands, ev fr x = ev fr2 x := fun x hx => by
  cases x with
  | tmp t => exact h t (by simp only [opNames, List.mem_append, List.mem_flatMap]; exact .inl (.inr ⟨.tmp t, by simpa using hx, by simp [opTmp]⟩))
  | const c => rfl
  | global g => rfl
  | func f => rfl

theorem wanted_names {fr fr2 : Fr} {o : Oper} (h : ∀ t ∈ opNames ops o, T.get (slot t) fr = T.get (slot t) fr2) : wantedA ops fr o = wantedA ops fr2 o := by
  obtain ⟨dst, op, type, pos, after, guard⟩ := o
  cases guard with
  | none => rfl
  | some g =>
    obtain ⟨j, want⟩ := g
    show wantedG ops fr (j, want) = wantedG ops fr2 (j, want)
    simp only [wantedG]
    split
    · rename_i oj hj
      split
      · rename_i d hd
        have := h d (by simp [opNames, hj, hd])
        rw [this]
      · rfl
    · rfl

theorem class4 (P : Program) (o : Oper) : classOf P o = 0 ∨ classOf P o = 1 ∨ classOf P o = 2 ∨ classOf P o = 3 := by
  unfold classOf
  split <;> (try split) <;> simp

theorem sameL_eq {g : AV → AV → Bool} (hg : ∀ a b, g a b = true → a = b) : ∀ (l l' : List AV), AV.same.sameL g l l' = true → l = l'
  | [], [], _ => rfl
  | [], _ :: _, h => by cases h
  | _ :: _, [], h => by cases h
  | a :: l, b :: l', h => by
    simp only [AV.same.sameL, Bool.and_eq_true] at h
    rw [hg a b h.1, sameL_eq hg l l' h.2]

theorem same_eq : ∀ (f : Nat) (a b : AV), AV.same f a b = true → a = b
  | 0, a, b, h => by cases h
  | f + 1, a, b, h => by
    have ih := sameL_eq (same_eq f)
    cases a <;> cases b <;> (first | (cases h; done) | skip) <;> simp only [AV.same, Bool.and_eq_true, beq_iff_eq, decide_eq_true_eq] at h
    all_goals first
      | rfl
      | (subst h; rfl)
      | (obtain ⟨⟨⟨⟨rfl, rfl⟩, rfl⟩, rfl⟩, rfl⟩ := h; rfl)
      | (obtain ⟨⟨rfl, rfl⟩, rfl⟩ := h; rfl)
      | (obtain ⟨rfl, rfl⟩ := h; rfl)
      | (obtain ⟨⟨rfl, h1⟩, h2⟩ := h; rw [ih _ _ h1, ih _ _ h2])
      | (rw [ih _ _ h])
      | skip
end
end
end Go.Proofs.YtpnoifikpmfpdaaDoorX
namespace Go.Proofs.YtpnoifikpmfpdaaDoorX
open Go
set_option linter.unusedVariables false
set_option linter.unusedSimpArgs false
noncomputable section

theorem effs_append (l l' : List Rec) : effs (l ++ l') = effs l + effs l' := by simp [effs, List.filter_append]
theorem effs_cons (r : Rec) (l : List Rec) : effs (r :: l) = (if r.c = 2 then 1 else 0) + effs l := by
  by_cases h : r.c = 2
  · simp [effs, List.filter_cons, h]; omega
  · simp [effs, List.filter_cons, h]
theorem mades_append (l l' : List Rec) : mades (l ++ l') = mades l + mades l' := by simp [mades, List.filter_append]
theorem mades_cons (r : Rec) (l : List Rec) : mades (r :: l) = (if r.c = 1 then 1 else 0) + mades l := by
  by_cases h : r.c = 1
  · simp [mades, List.filter_cons, h]; omega
  · simp [mades, List.filter_cons, h]
theorem done_append (D : Nat → Bool) (l l' : List Rec) : done D (l ++ l') = done D l ++ done D l' := by simp [done, List.filter_append]
theorem done_cons (D : Nat → Bool) (r : Rec) (l : List Rec) : done D (r :: l) = if D r.i = true then r :: done D l else done D l := by simp [done, List.filter_cons]
theorem effs_done_le (D : Nat → Bool) : ∀ l : List Rec, effs (done D l) ≤ effs l
  | [] => Nat.le_refl _
  | r :: l => by
    have ih := effs_done_le D l
    rw [done_cons, effs_cons]
    split
    · rw [effs_cons]; omega
    · omega
theorem done_all {D : Nat → Bool} {l : List Rec} (h : ∀ r ∈ l, D r.i = true) : done D l = l := List.filter_eq_self.2 h
theorem effs_zero {l : List Rec} (h : ∀ r ∈ l, r.c ≠ 2) : effs l = 0 := by
  unfold effs
  rw [List.length_eq_zero_iff, List.filter_eq_nil_iff]
  intro r hr e
  exact h r hr (by simpa using e)

theorem len_le : ∀ (M L : List Nat), M.Nodup → (∀ x ∈ M, x ∈ L) → M.length ≤ L.length
  | [], L, _, _ => Nat.zero_le _
  | x :: M, L, hn, hs => by
    have hn := List.nodup_cons.1 hn
    have hx := hs x (List.mem_cons_self ..)
    have := len_le M (L.erase x) hn.2 fun y hy => by
      refine (List.mem_erase_of_ne (fun e => ?_)).2 (hs y (List.mem_cons_of_mem _ hy))
      subst e; exact hn.1 hy
    rw [List.length_erase_of_mem hx] at this
    have hpos := List.length_pos_of_mem hx
    simp only [List.length_cons]
    omega

/-- One more is done. -/
def More (D D' : Nat → Bool) (i : Nat) : Prop := D' i = true ∧ ∀ j, j ≠ i → D' j = D j

section
variable {P : Program} {K : CallF} {n : Nat} {ops : Array Oper} {fr0 : Fr} {S : Nat → H} {b0 : Id} {items : List Item} {mask en : List Nat} {tr : List Rec}

theorem Told.mono (tt : Told P K n ops fr0 S b0 mask en tr) {l1 l2 : List Rec} {r : Rec} (e : tr = l1 ++ r :: l2) : (∀ x ∈ l1, x.k ≤ r.k) ∧ (∀ x ∈ l2, r.k + (if r.c = 2 then 1 else 0) ≤ x.k) := by
  have hr := (tt.lf l1 r l2 e).win
  refine ⟨fun x hx => ?_, fun x hx => ?_⟩
  · obtain ⟨m1, m2, rfl⟩ := List.append_of_mem hx
    have := (tt.lf m1 x (m2 ++ r :: l2) (by rw [e]; simp)).win
    rw [this, hr, effs_append]; omega
  · obtain ⟨m1, m2, rfl⟩ := List.append_of_mem hx
    have := (tt.lf (l1 ++ r :: m1) x m2 (by rw [e]; simp)).win
    rw [this, hr, effs_append, effs_cons]; omega

/-- A ready record, and what is done. -/
structure Rdy (ops : Array Oper) (D : Nat → Bool) (r : Rec) : Prop where
  down : Down ops D
  sz : ∀ i, D i = true → ∃ o, ops[i]? = some o
  un : D r.i = false
  pre : ∀ ed ∈ r.o.after.toList, Region.binds .any ed = true → D ed.on = true

theorem Told.anc (tt : Told P K n ops fr0 S b0 mask en tr) (p : Plan P ops items mask) {D : Nat → Bool} (hD : Down ops D) (hsz : ∀ i, D i = true → ∃ o, ops[i]? = some o) {r : Rec} (hr : r ∈ tr) (h : D r.i = true) {j : Nat} (hb : (mask.getD r.i 0).testBit j = true) : D j = true :=
  p.closed hD hsz r.i r.o (tt.op hr) (fun ed hed hb2 => hD r.i r.o (tt.op hr) h ed hed hb2) j hb

theorem Told.k_le (tt : Told P K n ops fr0 S b0 mask en tr) (p : Plan P ops items mask) {D : Nat → Bool} (hD : Down ops D) (hsz : ∀ i, D i = true → ∃ o, ops[i]? = some o) {l1 l2 : List Rec} {r : Rec} (e : tr = l1 ++ r :: l2) (hun : D r.i = false) : effs (done D tr) ≤ r.k := by
  rw [e, done_append, done_cons, if_neg (by rw [hun]; simp), effs_append, (tt.lf l1 r l2 e).win]
  have h1 := effs_done_le D l1
  have h2 : effs (done D l2) = 0 := effs_zero fun x hx hc => by
    obtain ⟨hx1, hx2⟩ := mem_done.1 hx
    obtain ⟨m1, m2, rfl⟩ := List.append_of_mem hx1
    have hb := tt.eff (l1 ++ r :: m1) x m2 (by rw [e]; simp) hc r (by simp)
    have := tt.anc p hD hsz (r := x) (by rw [e]; simp) hx2 hb
    rw [hun] at this; cases this
  omega

theorem Told.k_eq (tt : Told P K n ops fr0 S b0 mask en tr) (p : Plan P ops items mask) {D : Nat → Bool} {l1 l2 : List Rec} {r : Rec} (q : Rdy ops D r) (e : tr = l1 ++ r :: l2) (hc : r.c = 2) : effs (done D tr) = r.k ∧ ∀ x ∈ l1, D x.i = true := by
  have hl1 : ∀ x ∈ l1, D x.i = true := fun x hx => p.closed q.down q.sz r.i r.o (tt.op (by rw [e]; simp)) q.pre x.i (tt.eff l1 r l2 e hc x hx)
  refine ⟨Nat.le_antisymm (tt.k_le p q.down q.sz e q.un) ?_, hl1⟩
  rw [e, done_append, effs_append, done_all hl1, (tt.lf l1 r l2 e).win]
  omega

theorem Told.count (tt : Told P K n ops fr0 S b0 mask ((ops.toList.zipIdx.filter fun x => classOf P x.1 == 2).map (·.2)) tr) (p : Plan P ops items mask) {D : Nat → Bool} {l1 l2 : List Rec} {r : Rec} (q : Rdy ops D r) (e : tr = l1 ++ r :: l2) : r.a ≤ effs (done D tr) := by
  have hrt : r ∈ tr := by rw [e]; simp
  have cb : ∀ (m : Nat) (l : List Nat), countBits m l = (l.filter fun j => m.testBit j).length := fun m l => by
    induction l with
    | nil => rfl
    | cons x l ih =>
      simp only [countBits, List.filter_cons]
      by_cases h : m.testBit x = true
      · simp [h, ih]; omega
      · simp [h, ih]
  rw [tt.cnt r hrt, cb]
  have : effs (done D tr) = (((done D tr).filter fun r => r.c == 2).map fun r => r.i).length := by simp [effs]
  rw [this]
  refine len_le _ _ ?_ fun j hj => ?_
  · refine List.Nodup.sublist List.filter_sublist ?_
    have hnd : (ops.toList.zipIdx.map (·.2)).Nodup := by
      rw [List.zipIdx_map_snd]
      exact List.nodup_range'
    exact List.Nodup.sublist (List.Sublist.map _ List.filter_sublist) hnd
  · obtain ⟨hj1, hj2⟩ := List.mem_filter.1 hj
    obtain ⟨⟨o, j'⟩, hm, rfl⟩ := List.mem_map.1 hj1
    obtain ⟨hm1, hm2⟩ := List.mem_filter.1 hm
    have ho : ops[j']? = some o := by
      have := List.mem_zipIdx_iff_getElem?.1 hm1
      simpa using this
    obtain ⟨x, hx, hxi⟩ := tt.all j' o ho
    have hxo := tt.op hx
    rw [hxi, ho] at hxo
    cases hxo
    refine List.mem_map.2 ⟨x, List.mem_filter.2 ⟨mem_done.2 ⟨hx, ?_⟩, ?_⟩, hxi⟩
    · rw [hxi]; exact p.closed q.down q.sz r.i r.o (tt.op hrt) q.pre j' (by simpa using hj2)
    · rw [tt.cls x hx]; exact hm2

/-- One more is done: what is done then. -/
theorem Told.more (tt : Told P K n ops fr0 S b0 mask en tr) {D D' : Nat → Bool} {l1 l2 : List Rec} {r : Rec} (e : tr = l1 ++ r :: l2) (hun : D r.i = false) (hm : More D D' r.i) : done D tr = done D l1 ++ done D l2 ∧ done D' tr = done D l1 ++ r :: done D l2 := by
  obtain ⟨q1, q2⟩ := tt.nodup e
  have h1 : done D' l1 = done D l1 := List.filter_congr fun x hx => hm.2 _ (q1 x hx)
  have h2 : done D' l2 = done D l2 := List.filter_congr fun x hx => hm.2 _ (q2 x hx)
  constructor
  · rw [e, done_append, done_cons, if_neg (by rw [hun]; simp)]
  · rw [e, done_append, done_cons, if_pos hm.1, h1, h2]

theorem Told.effs_more (tt : Told P K n ops fr0 S b0 mask en tr) {D D' : Nat → Bool} {r : Rec} (hr : r ∈ tr) (hun : D r.i = false) (hm : More D D' r.i) : effs (done D' tr) = effs (done D tr) + (if r.c = 2 then 1 else 0) := by
  obtain ⟨l1, l2, e⟩ := List.append_of_mem hr
  obtain ⟨h1, h2⟩ := tt.more e hun hm
  rw [h1, h2, effs_append, effs_append, effs_cons]; omega

theorem Told.fr_more (tt : Told P K n ops fr0 S b0 mask en tr) (p : Plan P ops items mask) {D D' : Nat → Bool} {r : Rec} (hr : r ∈ tr) (hun : D r.i = false) (hm : More D D' r.i) {s : Sg} {a : Act} {v' : Value} (k : FR s n (frameOf fr0 (done D tr)) a) (hv : VR s r.v v') : FR s n (frameOf fr0 (done D' tr)) (a.put r.o.dst v') := by
  obtain ⟨l1, l2, e⟩ := List.append_of_mem hr
  have hdst := (tt.lf l1 r l2 e).dst
  refine (putT_ok k (putV_putT hdst) hv).congr fun t => ?_
  have hD' : ∀ x, x ∈ done D' tr ↔ x = r ∨ x ∈ done D tr := fun x => by
    rw [mem_done, mem_done]
    constructor
    · rintro ⟨h1, h2⟩
      by_cases hi : x.i = r.i
      · exact .inl (tt.eq hr h1 hi)
      · rw [hm.2 _ hi] at h2; exact .inr ⟨h1, h2⟩
    · rintro (rfl | ⟨h1, h2⟩)
      · exact ⟨hr, hm.1⟩
      · refine ⟨h1, ?_⟩
        rw [hm.2 _ (fun hi => by rw [hi, hun] at h2; cases h2)]; exact h2
  by_cases hd : r.o.dst = some t
  · rw [get_frame_some hd ((hD' r).2 (.inl rfl)) (fun x hx hxd => tt.one p hr (mem_done.1 hx).1 hd hxd), hd]
    exact (T.get_put_same _ _ _).symm
  · have hrhs : T.get (slot t) (putV (frameOf fr0 (done D tr)) r.o.dst r.v) = T.get (slot t) (frameOf fr0 (done D tr)) := by
      cases hdd : r.o.dst with
      | none => rfl
      | some d =>
        have hne : slot d ≠ slot t := fun e => hd (by rw [hdd, slot_inj e])
        exact T.get_put_ne _ _ _ _ hne
    rw [hrhs]
    by_cases hex : ∃ x ∈ done D tr, x.o.dst = some t
    · obtain ⟨x, hx, hxd⟩ := hex
      rw [get_frame_some hxd ((hD' x).2 (.inr hx)) (fun y hy hyd => tt.one p (mem_done.1 hx).1 (mem_done.1 hy).1 hxd hyd), get_frame_some hxd hx (fun y hy hyd => tt.one p (mem_done.1 hx).1 (mem_done.1 hy).1 hxd hyd)]
    · rw [get_frame_none fun x hx hxd => ?_, get_frame_none fun x hx hxd => hex ⟨x, hx, hxd⟩]
      rcases (hD' x).1 hx with rfl | hx
      · exact hd hxd
      · exact hex ⟨x, hx, hxd⟩
end
end
end Go.Proofs.YtpnoifikpmfpdaaDoorX
namespace Go.Proofs.YtpnoifikpmfpdaaDoorX
open Go
set_option linter.unusedVariables false
set_option linter.unusedSimpArgs false
noncomputable section
section
variable {P : Program} {K : CallF} {n : Nat} {ops : Array Oper} {fr0 : Fr} {S : Nat → H} {b0 : Id} {items : List Item} {mask en : List Nat} {tr : List Rec} {s0 : Sg} {h : H} {w0 : World}

structure Inv (n : Nat) (fr0 : Fr) (S : Nat → H) (b0 : Id) (tr : List Rec) (s0 : Sg) (h : H) (w0 : World) (D : Nat → Bool) (k : Nat) (s : Sg) (a : Act) (w : World) : Prop where
  hk : k = effs (done D tr)
  fr : FR s n (frameOf fr0 (done D tr)) a
  hr : HR s (S k) w
  nxk : num b0 + mades tr ≤ num (S k).nx
  born : ∀ r ∈ tr, r.c = 1 → r.w = true → D r.i = true → k ≤ r.k → Born s (S k) w w0.heap.size (r.b, r.ob)
  apart : ∀ r ∈ tr, ∀ r' ∈ tr, r.c = 1 → r'.c = 1 → r.w = true → r'.w = true → D r.i = true → D r'.i = true → k ≤ r.k → k ≤ r'.k → r.i ≠ r'.i → Apart s (r.b, r.ob) (r'.b, r'.ob)
  unborn : ∀ r ∈ tr, r.c = 1 → D r.i = false → s r.b = none
  grows : Grows s0 h w0 s (S k) w

theorem Told.or (tt : Told P K n ops fr0 S b0 mask en tr) {D D' : Nat → Bool} {r : Rec} (hr : r ∈ tr) (hun : D r.i = false) (hm : More D D' r.i) {x : Rec} (hx : x ∈ tr) : (D' x.i = true → x = r ∨ D x.i = true) ∧ (D' x.i = false → D x.i = false) := by
  by_cases hi : x.i = r.i
  · exact ⟨fun _ => .inl (tt.eq hr hx hi), fun h => by rw [hi, hm.1] at h; cases h⟩
  · rw [hm.2 _ hi]; exact ⟨.inr, id⟩

theorem Told.b_lt (tt : Told P K n ops fr0 S b0 mask en tr) {r : Rec} (hr : r ∈ tr) (hc : r.c = 1) : num b0 ≤ num r.b ∧ num r.b < num b0 + mades tr := by
  obtain ⟨l1, l2, e⟩ := List.append_of_mem hr
  have := (tt.lf l1 r l2 e).name
  rw [this, num_incs, e, mades_append, mades_cons, if_pos hc]
  omega

theorem Told.b_ne (tt : Told P K n ops fr0 S b0 mask en tr) {r x : Rec} (hr : r ∈ tr) (hx : x ∈ tr) (hc : r.c = 1) (hcx : x.c = 1) (hi : x.i ≠ r.i) : x.b ≠ r.b := by
  obtain ⟨l1, l2, e⟩ := List.append_of_mem hr
  have hrb := (tt.lf l1 r l2 e).name
  rw [e] at hx
  intro he
  have hne : num x.b ≠ num r.b := by
    rcases List.mem_append.1 hx with hh | hh
    · obtain ⟨m1, m2, rfl⟩ := List.append_of_mem hh
      have := (tt.lf m1 x (m2 ++ r :: l2) (by rw [e]; simp)).name
      rw [this, hrb, num_incs, num_incs, mades_append, mades_cons, if_pos hcx]; omega
    · cases hh with
      | head => exact (hi rfl).elim
      | tail _ hh =>
        obtain ⟨m1, m2, rfl⟩ := List.append_of_mem hh
        have := (tt.lf (l1 ++ r :: m1) x m2 (by rw [e]; simp)).name
        rw [this, hrb, num_incs, num_incs, mades_append, mades_cons, if_pos hc]; omega
  exact hne (by rw [he])

theorem Inv.plain {D D' : Nat → Bool} {k : Nat} {s : Sg} {a : Act} {w : World} {v' : Value} {r : Rec} (tt : Told P K n ops fr0 S b0 mask en tr) (p : Plan P ops items mask) (I : Inv n fr0 S b0 tr s0 h w0 D k s a w)
    (hr : r ∈ tr) (hun : D r.i = false) (hm : More D D' r.i) (hc : r.c ≠ 2) (hb : r.c = 1 → r.w = false) (hv : VR s r.v v') : Inv n fr0 S b0 tr s0 h w0 D' k s (a.put r.o.dst v') w := by
  have ho : ∀ x ∈ tr, x.c = 1 → x.w = true → D' x.i = true → D x.i = true := fun x hx hxc hxw hd => by
    rcases (tt.or hr hun hm hx).1 hd with rfl | h1
    · rw [hb hxc] at hxw; cases hxw
    · exact h1
  refine ⟨?_, tt.fr_more p hr hun hm I.fr hv, I.hr, I.nxk, fun x hx h1 h2 h3 h4 => I.born x hx h1 h2 (ho x hx h1 h2 h3) h4, fun x hx y hy c1 c2 w1 w2 d1 d2 k1 k2 hi => I.apart x hx y hy c1 c2 w1 w2 (ho x hx c1 w1 d1) (ho y hy c2 w2 d2) k1 k2 hi, fun x hx h1 h2 => I.unborn x hx h1 ((tt.or hr hun hm hx).2 h2), I.grows⟩
  rw [tt.effs_more hr hun hm, if_neg hc, I.hk]; rfl

theorem Inv.birth {D D' : Nat → Bool} {k : Nat} {s : Sg} {a : Act} {w w' : World} {v' : Value} {r : Rec} {o : Obj} {lim : Nat} {mk : Id → AV} (tt : Told P K n ops fr0 S b0 mask en tr) (p : Plan P ops items mask) (I : Inv n fr0 S b0 tr s0 h w0 D k s a w) (hb0 : num b0 = num h.nx)
    (hr : r ∈ tr) (hun : D r.i = false) (hm : More D D' r.i) (hc : r.c = 1) (hw : r.w = true) (hf : Fresh w w' o)
    (hob : ∀ s' w2, s.le s' → w2.heap[w.heap.size]? = some o → ObjR s' r.ob ⟨w.heap.size, 0, lim⟩ w2) (hv : ∀ s' b, s.le s' → s' b = some ⟨w.heap.size, 0, lim⟩ → VR s' (mk b) v') (hrv : r.v = mk r.b) :
    ∃ s', Inv n fr0 S b0 tr s0 h w0 D' k s' (a.put r.o.dst v') w' := by
  have hsb := I.unborn r hr hc hun
  have hblt := tt.b_lt hr hc
  let s' : Sg := fun c => if c = r.b then some ⟨w.heap.size, 0, lim⟩ else s c
  have hs'b : s' r.b = some ⟨w.heap.size, 0, lim⟩ := if_pos rfl
  have hs'n : ∀ c, c ≠ r.b → s' c = s c := fun c e => if_neg e
  have hle : s.le s' := fun c m e => by
    have : c ≠ r.b := fun x => by subst x; rw [hsb] at e; cases e
    rw [hs'n c this]; exact e
  have hlive : ∀ c x, T.get c (S k).t = some x → c ≠ r.b := fun c x hx e => by
    obtain ⟨l, hl, _⟩ := I.hr.live c x hx
    rw [e, hsb] at hl; cases hl
  have hpic : ∀ c, Pic s' (S k) c → Pic s (S k) c := fun c ⟨d, x, m, hx, hm, e⟩ => ⟨d, x, m, hx, (hs'n d (hlive d x hx)) ▸ hm, e⟩
  have hplt : ∀ c, Pic s (S k) c → c < w.heap.size := fun c ⟨d, x, m, hx, hm, e⟩ => by
    obtain ⟨l, hl, ho⟩ := I.hr.live d x hx
    rw [hm] at hl; cases hl
    rw [← e]; exact ho.lt
  have old : ∀ x ∈ tr, x.c = 1 → x.w = true → D' x.i = true → x ≠ r → D x.i = true := fun x hx _ _ hd hne => ((tt.or hr hun hm hx).1 hd).resolve_left hne
  have hbne : ∀ x ∈ tr, x.c = 1 → x ≠ r → x.b ≠ r.b := fun x hx hxc hne => tt.b_ne hr hx hc hxc fun hi => hne (tt.eq hr hx hi)
  refine ⟨s', ?_, tt.fr_more p hr hun hm (I.fr.mono hle) (hrv ▸ hv s' r.b hle hs'b), ?_, I.nxk, fun x hx h1 h2 h3 h4 => ?_, fun x hx y hy c1 c2 w1 w2 d1 d2 k1 k2 hi => ?_, fun x hx h1 h2 => ?_, ?_⟩
  · rw [tt.effs_more hr hun hm, if_neg (by omega), I.hk]; rfl
  · refine ⟨fun c x hx => ?_, fun c c' x x' m m' hx hx' hm hm' e => ?_, fun c m hcm => ?_⟩
    · obtain ⟨l, hl, ho⟩ := I.hr.live c x hx
      exact ⟨l, (hs'n c (hlive c x hx)).trans hl, ho.mono hle (hf.old _ ho.lt)⟩
    · rw [hs'n c (hlive c x hx)] at hm
      rw [hs'n c' (hlive c' x' hx')] at hm'
      exact I.hr.inj c c' x x' m m' hx hx' hm hm' e
    · by_cases e : c = r.b
      · subst e; exact Nat.lt_of_lt_of_le hblt.2 I.nxk
      · rw [hs'n c e] at hcm; exact I.hr.fresh c m hcm
  · by_cases hxr : x = r
    · subst hxr
      refine ⟨_, hs'b, hob s' w' hle hf.new, fun hp => ?_, I.grows.size⟩
      have := hplt _ (hpic _ hp)
      exact Nat.lt_irrefl _ this
    · obtain ⟨l, hl, ho, hnp, hbase⟩ := I.born x hx h1 h2 (old x hx h1 h2 h3 hxr) h4
      exact ⟨l, hle _ _ hl, ho.mono hle (hf.old _ ho.lt), fun hp => hnp (hpic _ hp), hbase⟩
  · have key : ∀ z ∈ tr, z.c = 1 → z.w = true → D' z.i = true → k ≤ z.k → z ≠ r → ∀ m, s' z.b = some m → s z.b = some m ∧ m.blk < w.heap.size := fun z hz zc zw zd zk hne m hm' => by
      obtain ⟨l, hl, ho, _, _⟩ := I.born z hz zc zw (old z hz zc zw zd hne) zk
      have hl : s z.b = some l := hl
      rw [hs'n _ (hbne z hz zc hne), hl] at hm'
      cases hm'
      exact ⟨hl, ho.lt⟩
    intro l l' hl hl'
    have hl : s' x.b = some l := hl
    have hl' : s' y.b = some l' := hl'
    by_cases hxr : x = r
    · have hyr : y ≠ r := fun e => hi (by rw [hxr, e])
      obtain ⟨_, q⟩ := key y hy c2 w2 d2 k2 hyr l' hl'
      rw [hxr, hs'b] at hl; cases hl
      exact fun e => by have e : w.heap.size = l'.blk := e; omega
    · obtain ⟨q1, q2⟩ := key x hx c1 w1 d1 k1 hxr l hl
      by_cases hyr : y = r
      · rw [hyr, hs'b] at hl'; cases hl'
        exact fun e => by have e : l.blk = w.heap.size := e; omega
      · obtain ⟨q3, q4⟩ := key y hy c2 w2 d2 k2 hyr l' hl'
        exact I.apart x hx y hy c1 c2 w1 w2 (old x hx c1 w1 d1 hxr) (old y hy c2 w2 d2 hyr) k1 k2 hi l l' q1 q3
  · have hxr : x ≠ r := fun e => by rw [e, hm.1] at h2; cases h2
    rw [hs'n _ (hbne x hx h1 hxr)]
    exact I.unborn x hx h1 ((tt.or hr hun hm hx).2 h2)
  · have g := I.grows
    refine ⟨Sg.le_trans g.le hle, fun c hcn => (hs'n c fun e => ?_).trans (g.keep c hcn), g.nx, hf.os.trans g.os, hf.tape.trans g.tape, hf.output.trans g.output, by rw [hf.size]; have := g.size; omega, fun c hcl hnp => (hf.old c (Nat.lt_of_lt_of_le hcl g.size)).trans (g.frame c hcl hnp), fun c hp => g.img c (hpic c hp)⟩
    subst e; omega

theorem Told.pw (tt : Told P K n ops fr0 S b0 mask en tr) : tr.Pairwise fun x y => x.i ≠ y.i := by
  have key : ∀ (l2 l1 : List Rec), tr = l1 ++ l2 → l1.Pairwise (fun x y => x.i ≠ y.i) → tr.Pairwise fun x y => x.i ≠ y.i := by
    intro l2
    induction l2 with
    | nil => intro l1 e h; rw [e, List.append_nil]; exact h
    | cons x l2 ih =>
      intro l1 e h
      refine ih (l1 ++ [x]) (by rw [e]; simp) (List.pairwise_append.2 ⟨h, by simp, fun y hy z hz => ?_⟩)
      simp at hz; subst hz
      exact tt.un l1 z l2 e y hy
  exact key tr [] rfl (by simp)

theorem mem_links {l : List Rec} {k : Nat} {x : Id × AO} : x ∈ linksOf l k ↔ ∃ r ∈ l, r.c = 1 ∧ r.w = true ∧ r.k = k ∧ x = (r.b, r.ob) := by
  simp only [linksOf, List.mem_reverse, List.mem_map, List.mem_filter, Bool.and_eq_true, beq_iff_eq]
  constructor
  · rintro ⟨r, ⟨h1, ⟨h2, h3⟩, h4⟩, rfl⟩; exact ⟨r, h1, h2, h3, h4, rfl⟩
  · rintro ⟨r, h1, h2, h3, h4, rfl⟩; exact ⟨r, ⟨h1, ⟨h2, h3⟩, h4⟩, rfl⟩

theorem Inv.links {D : Nat → Bool} {k : Nat} {s : Sg} {a : Act} {w : World} (tt : Told P K n ops fr0 S b0 mask en tr) (I : Inv n fr0 S b0 tr s0 h w0 D k s a w) {l1 l2 : List Rec} (e : tr = l1 ++ l2) (hd : ∀ x ∈ l1, D x.i = true) :
    (∀ x ∈ linksOf l1 k, Born s (S k) w w0.heap.size x) ∧ (linksOf l1 k).Pairwise (Apart s) := by
  have hin : ∀ x ∈ l1, x ∈ tr := fun x hx => by rw [e]; exact List.mem_append_left _ hx
  refine ⟨fun x hx => ?_, ?_⟩
  · obtain ⟨r, h1, h2, h3, h4, rfl⟩ := mem_links.1 hx
    exact I.born r (hin r h1) h2 h3 (hd r h1) (Nat.le_of_eq h4.symm)
  · rw [linksOf, List.pairwise_reverse, List.pairwise_map]
    have hpw := tt.pw
    rw [e] at hpw
    refine List.Pairwise.imp_of_mem ?_ (List.Pairwise.sublist List.filter_sublist (List.pairwise_append.1 hpw).1)
    intro x y hx hy hne
    obtain ⟨x1, x2⟩ := List.mem_filter.1 hx
    obtain ⟨y1, y2⟩ := List.mem_filter.1 hy
    simp only [Bool.and_eq_true, beq_iff_eq] at x2 y2
    exact I.apart y (hin y y1) x (hin x x1) y2.1.1 x2.1.1 y2.1.2 x2.1.2 (hd y y1) (hd x x1) (Nat.le_of_eq y2.2.symm) (Nat.le_of_eq x2.2.symm) (fun e => hne e.symm)

/-- Behind what was linked. -/
theorem Inv.growsL {D : Nat → Bool} {k : Nat} {s : Sg} {a : Act} {w : World} (tt : Told P K n ops fr0 S b0 mask en tr) (I : Inv n fr0 S b0 tr s0 h w0 D k s a w) {l1 l2 : List Rec} (e : tr = l1 ++ l2) (hd : ∀ x ∈ l1, D x.i = true) :
    HR s (linkAll (linksOf l1 k) (S k)) w ∧ Grows s0 h w0 s (linkAll (linksOf l1 k) (S k)) w := by
  obtain ⟨hb, hp⟩ := I.links tt e hd
  obtain ⟨q1, q2, q3⟩ := link_ok (linksOf l1 k) (S k) I.hr hb hp
  have g := I.grows
  refine ⟨q1, g.le, g.keep, by rw [q3]; exact g.nx, g.os, g.tape, g.output, g.size, g.frame, fun c hc => ?_⟩
  rcases q2 c hc with h1 | ⟨x, hx, l, hl, he⟩
  · exact g.img c h1
  · obtain ⟨l', hl', _, _, hbase⟩ := hb x hx
    rw [hl] at hl'; cases hl'
    exact .inr (he ▸ hbase)

theorem Inv.after {D D' : Nat → Bool} {k : Nat} {s s' : Sg} {a : Act} {w w' : World} {v' : Value} {r : Rec} (tt : Told P K n ops fr0 S b0 mask en tr) (p : Plan P ops items mask) (I : Inv n fr0 S b0 tr s0 h w0 D k s a w) (q : Rdy ops D r)
    {l1 l2 : List Rec} (e : tr = l1 ++ r :: l2) (hm : More D D' r.i) (hc : r.c = 2) (hr' : HR s' (S (k + 1)) w') (g : Grows s (linkAll (linksOf l1 k) (S k)) w s' (S (k + 1)) w') (hv : VR s' r.v v') :
    Inv n fr0 S b0 tr s0 h w0 D' (k + 1) s' (a.put r.o.dst v') w' := by
  have hrt : r ∈ tr := by rw [e]; simp
  obtain ⟨hke, hd⟩ := tt.k_eq p q e hc
  obtain ⟨hb, hp⟩ := I.links tt (l1 := l1) (l2 := r :: l2) e hd
  obtain ⟨q1, q2, q3⟩ := link_ok (linksOf l1 k) (S k) I.hr hb hp
  have ho : ∀ x ∈ tr, x.c = 1 → D' x.i = true → D x.i = true := fun x hx hxc hd' => by
    rcases (tt.or hrt q.un hm hx).1 hd' with rfl | h1
    · omega
    · exact h1
  refine ⟨?_, tt.fr_more p hrt q.un hm (I.fr.mono g.le) hv, hr', ?_, fun x hx h1 h2 h3 h4 => ?_, fun x hx y hy c1 c2 w1 w2 d1 d2 k1 k2 hi l l' hl hl' => ?_, fun x hx h1 h2 => ?_, (I.growsL tt (l1 := l1) (l2 := r :: l2) e hd).2.trans g⟩
  · rw [tt.effs_more hrt q.un hm, if_pos hc, I.hk]
  · have := I.nxk
    have := g.nx
    rw [q3] at this
    omega
  · obtain ⟨l, hl, hob, hnp, hbase⟩ := I.born x hx h1 h2 (ho x hx h1 h3) (by omega)
    have hnl : ¬ Pic s (linkAll (linksOf l1 k) (S k)) l.blk := fun hpc => by
      rcases q2 _ hpc with h5 | ⟨y, hy, l2, hl2, he⟩
      · exact hnp h5
      · obtain ⟨r', y1, y2, y3, y4, rfl⟩ := mem_links.1 hy
        have hr't : r' ∈ tr := by rw [e]; exact List.mem_append_left _ y1
        refine I.apart r' hr't x hx y2 h1 y3 h2 (hd r' y1) (ho x hx h1 h3) (by omega) (by omega) (fun hi => ?_) l2 l hl2 hl he
        have := tt.eq hx hr't hi
        subst this
        omega
    refine ⟨l, g.le _ _ hl, hob.mono g.le (g.frame _ hob.lt hnl), fun hpc => ?_, hbase⟩
    rcases g.img _ hpc with h5 | h5
    · exact hnl h5
    · have := hob.lt; omega
  · obtain ⟨m, hm1, _⟩ := I.born x hx c1 w1 (ho x hx c1 d1) (by omega)
    obtain ⟨m', hm2, _⟩ := I.born y hy c2 w2 (ho y hy c2 d2) (by omega)
    have e1 := g.le _ _ hm1
    have e2 := g.le _ _ hm2
    have hl : s' x.b = some l := hl
    have hl' : s' y.b = some l' := hl'
    have e1 : s' x.b = some m := e1
    have e2 : s' y.b = some m' := e2
    rw [hl] at e1; cases e1
    rw [hl'] at e2; cases e2
    exact I.apart x hx y hy c1 c2 w1 w2 (ho x hx c1 d1) (ho y hy c2 d2) (by omega) (by omega) hi l l' hm1 hm2
  · rw [g.keep x.b (by rw [q3]; exact Nat.lt_of_lt_of_le (tt.b_lt hx h1).2 I.nxk)]
    exact I.unborn x hx h1 ((tt.or hrt q.un hm hx).2 h2)
end
end
end Go.Proofs.YtpnoifikpmfpdaaDoorX
namespace Go.Proofs.YtpnoifikpmfpdaaDoorX
open Go
set_option linter.unusedVariables false
set_option linter.unusedSimpArgs false
noncomputable section
section
variable {P : Program} {K : CallF} {n : Nat} {ops : Array Oper} {fr0 : Fr} {S : Nat → H} {b0 : Id} {items : List Item} {mask : List Nat} {tr : List Rec} {s0 : Sg} {h : H} {w0 : World}

abbrev enOf (P : Program) (ops : Array Oper) : List Nat := (ops.toList.zipIdx.filter fun x => classOf P x.1 == 2).map (·.2)

theorem Inv.step (hK : KOk P K) {D D' : Nat → Bool} {k : Nat} {s : Sg} {a : Act} {w : World} {r : Rec} (tt : Told P K n ops fr0 S b0 mask (enOf P ops) tr) (p : Plan P ops items mask) (hmaps : ∀ (i : Nat) (o : Oper), ops[i]? = some o → mapsOp o.op = true)
    (I : Inv n fr0 S b0 tr s0 h w0 D k s a w) (q : Rdy ops D r) (hr : r ∈ tr) (hm : More D D' r.i) (hb0 : num b0 = num h.nx) {Q : Exit → Act → World → Prop} {next : Act → World → Prop}
    (hn : ∀ k' s' a' w', Inv n fr0 S b0 tr s0 h w0 D' k' s' a' w' → next a' w') : wpOp P ops Q r.i next a w := by
  obtain ⟨l1, l2, e⟩ := List.append_of_mem hr
  have lf := tt.lf l1 r l2 e
  have hsee := tt.see p q.down q.sz e q.un q.pre
  have hop := lf.op
  have hmo := hmaps _ _ hop
  have hwant := lf.want
  rw [← wanted_names hsee] at hwant
  have hwo := wanted_ok I.fr hwant
  have hcong : ∀ (K' : CallF) h2, xop P K' (frameOf fr0 l1) h2 r.o = xop P K' (frameOf fr0 (done D tr)) h2 r.o := fun K' h2 => xop_congr hmo fun x hx => (ev_names hsee x hx).symm
  have hcls := tt.cls r hr
  simp only [wpOp, hop, hwo]
  by_cases hc2 : r.c = 2
  · obtain ⟨hke, hd⟩ := tt.k_eq p q e hc2
    rw [← I.hk] at hke
    obtain ⟨hL, _⟩ := I.growsL tt (l1 := l1) (l2 := r :: l2) e hd
    cases hw : r.w with
    | false =>
      rw [if_neg (by simp)]
      have hS := lf.effn hc2 hw
      rw [← hke] at hS
      refine hn (k + 1) s _ w (I.after tt p q e hm hc2 (by rw [hS]; exact hL) (by rw [hS]; exact Grows.refl _ _ _) (by rw [lf.un hw]; exact undef_ok s))
    | true =>
      rw [if_pos rfl]
      left
      have hx := lf.eff hc2 hw
      rw [hcong, ← hke] at hx
      exact op_wp hK I.fr hL hx fun s' v' w' q1 q2 q3 => hn (k + 1) s' _ w' (I.after tt p q e hm hc2 q1 q2 q3)
  · cases hw : r.w with
    | false =>
      rw [if_neg (by simp)]
      exact hn k s _ w (I.plain tt p hr q.un hm hc2 (fun _ => hw) (by rw [lf.un hw]; exact undef_ok s))
    | true =>
      rw [if_pos rfl]
      left
      by_cases hc1 : r.c = 1
      · have hev := lf.make hc1 hw
        simp only [evalM] at hev
        split at hev
        · rename_i v h1 hx
          split at hev
          · rename_i ob hob
            rw [hcong] at hx
            obtain ⟨ob', mk, hnb, hmk⟩ := m_ok I.fr (by rw [← hcls]; exact hc1) hx
            have hx2 := hnb noCall ⟨.nil, r.b⟩
            rw [hx] at hx2
            have hx2 : some (v, h1) = some (mk r.b, (⟨T.put (some ob') r.b .nil, inc r.b⟩ : H)) := hx2
            cases hx2
            have hob : T.get r.b (T.put (some ob') r.b .nil) = some ob := hob
            rw [T.get_put_same] at hob
            cases hob
            have hev : some (mk r.b, ob) = some (r.v, r.ob) := hev
            have e1 : mk r.b = r.v := congrArg (fun x => (x.getD (undefA, .omap [] 0)).1) hev
            have e2 : ob = r.ob := congrArg (fun x => (x.getD (undefA, .omap [] 0)).2) hev
            obtain ⟨lim, o, v', w', m1, m2, m3, m4⟩ := hmk w
            show Oper.upon P r.o a next Q ((execOp a.eval r.o).run P w)
            rw [m1, Oper.upon_value]
            obtain ⟨s', hI⟩ := I.birth tt p hb0 hr q.un hm hc1 hw m2 (by rw [← e2]; exact m3) m4 e1.symm
            exact hn k s' _ w' hI
          · cases hev
        · cases hev
      · have hkr := tt.k_le p q.down q.sz e q.un
        rw [← I.hk] at hkr
        obtain ⟨h1, hx⟩ := lf.quiet hc1 hc2 hw
        have key : ∃ v', (execOp a.eval r.o).run P w = .ok (.value v') w ∧ VR s r.v v' := by
          rcases class4 P r.o with h0 | h0 | h0 | h0
          · rw [hcong] at hx
            obtain ⟨_, v', q1, q2⟩ := q0_ok I.fr h0 hx
            exact ⟨v', q1 w, q2⟩
          · exact (hc1 (by rw [hcls, h0])).elim
          · exact (hc2 (by rw [hcls, h0])).elim
          · have hx2 : ∃ h2, xop P noCall (frameOf fr0 (done D tr)) (S k) r.o = some (r.v, h2) := by
              by_cases hkk : k = r.k
              · rw [hcong, ← hkk] at hx; exact ⟨h1, hx⟩
              · have ha := tt.count p q e
                rw [← I.hk] at ha
                have hag := lf.look (by rw [hcls, h0]) hw k ha (by omega)
                simp only [agrees, evalQ, lf.want, hw] at hag
                split at hag
                · rename_i u hu
                  split at hu
                  · rename_i u' h2 hxu
                    cases hu
                    have := same_eq _ _ _ hag
                    subst this
                    rw [hcong] at hxu
                    exact ⟨h2, hxu⟩
                  · cases hu
                · cases hag
            obtain ⟨h2, hx2⟩ := hx2
            exact (q3_ok I.fr I.hr h0 hx2).2
        obtain ⟨v', q1, q2⟩ := key
        show Oper.upon P r.o a next Q ((execOp a.eval r.o).run P w)
        rw [q1, Oper.upon_value]
        exact hn k s _ w (I.plain tt p hr q.un hm hc2 (fun hh => (hc1 hh).elim) q2)

theorem Told.finish (tt : Told P K n ops fr0 S b0 mask (enOf P ops) tr) {D : Nat → Bool} (hno : ∀ r ∈ tr, D r.i = false → ∃ ed ∈ r.o.after.toList, Region.binds .any ed = true ∧ D ed.on = false) : ∀ r ∈ tr, D r.i = true := by
  have key : ∀ (l2 l1 : List Rec), tr = l1 ++ l2 → (∀ x ∈ l1, D x.i = true) → ∀ x ∈ tr, D x.i = true := by
    intro l2
    induction l2 with
    | nil => intro l1 e h; rw [e, List.append_nil]; exact h
    | cons r l2 ih =>
      intro l1 e h
      refine ih (l1 ++ [r]) (by rw [e]; simp) fun x hx => ?_
      rcases List.mem_append.1 hx with hh | hh
      · exact h x hh
      · simp at hh; subst hh
        cases hq : D x.i with
        | true => rfl
        | false =>
          obtain ⟨ed, h1, h2, h3⟩ := hno x (by rw [e]; simp) hq
          obtain ⟨y, hy, he⟩ := tt.pre l1 x l2 e ed h1 h2
          have := h y hy
          rw [he, h3] at this; cases this
  exact key tr [] rfl (fun x hx => by cases hx)

theorem Inv.run (hK : KOk P K) (tt : Told P K n ops fr0 S b0 mask (enOf P ops) tr) (p : Plan P ops items mask) (hmaps : ∀ (i : Nat) (o : Oper), ops[i]? = some o → mapsOp o.op = true) (hb0 : num b0 = num h.nx) {Q : Exit → Act → World → Prop}
    (hQ : ∀ s a w, FR s n (frameOf fr0 tr) a → HR s (linkAll (linksOf tr (effs tr)) (S (effs tr))) w → Grows s0 h w0 s (linkAll (linksOf tr (effs tr)) (S (effs tr))) w → Q .normal a w) :
    ∀ (fuel : Nat) (listed : Array Bool) (k : Nat) (s : Sg) (a : Act) (w : World), listed.size = ops.size → Down ops (fun i => listed.getD i false) → Inv n fr0 S b0 tr s0 h w0 (fun i => listed.getD i false) k s a w → (tr.filter fun r => !listed.getD r.i false).length ≤ fuel → wpAny P .any ops Q fuel listed a w := by
  intro fuel listed k s a w hsz hD I hf
  have hunl : ∀ j, j < ops.size → listed.getD j false = false → listed.getD j true = false := fun j hj hl => by
    have hj : j < listed.size := by omega
    simp [hj] at hl ⊢
    exact hl
  have hend : (∀ r ∈ tr, listed.getD r.i false = true) → Q .normal a w := fun hall => by
    have hdn : done (fun i => listed.getD i false) tr = tr := done_all hall
    obtain ⟨g1, g2⟩ := I.growsL tt (l1 := tr) (l2 := []) (by simp) hall
    have hk := I.hk
    have hfr := I.fr
    rw [hdn] at hk hfr
    subst hk
    exact hQ s a w hfr g1 g2
  have hnone : Region.ready .any ops listed = [] → Q .normal a w := fun hno => hend (tt.finish (D := fun i => listed.getD i false) fun r hr hun => by
    have hlt : r.i < ops.size := (Array.getElem?_eq_some_iff.1 (tt.op hr)).1
    refine Classical.byContradiction fun hcon => ?_
    have : r.i ∈ Region.ready .any ops listed := mem_ready.2 ⟨hunl r.i hlt hun, r.o, tt.op hr, fun ed hed hb => by
      cases hq : listed.getD ed.on false with
      | true => rfl
      | false => exact (hcon ⟨ed, by simpa using hed, hb, hq⟩).elim⟩
    rw [hno] at this; cases this)
  cases fuel with
  | zero =>
    have hnil : ∀ r ∈ tr, listed.getD r.i false = true := fun r hr => by
      cases hq : listed.getD r.i false with
      | true => rfl
      | false =>
        have : r ∈ tr.filter fun r => !listed.getD r.i false := List.mem_filter.2 ⟨hr, by simp only [hq, Bool.not_false]⟩
        have := List.length_pos_of_mem this
        omega
    refine ⟨?_, hend hnil⟩
    cases hrd : Region.ready .any ops listed with
    | nil => rfl
    | cons j l =>
      have hj : j ∈ Region.ready .any ops listed := by rw [hrd]; simp
      obtain ⟨hjl, o, ho, _⟩ := mem_ready.1 hj
      obtain ⟨r, hr, rfl⟩ := tt.all j o ho
      have h1 := hnil r hr
      have hlt : r.i < listed.size := by rw [hsz]; exact (Array.getElem?_eq_some_iff.1 ho).1
      simp [hlt] at h1 hjl
      rw [h1] at hjl; cases hjl
  | succ fuel =>
    refine ⟨hnone, fun j hj => ?_⟩
    obtain ⟨hjl, o, ho, hpre⟩ := mem_ready.1 hj
    obtain ⟨r, hr, rfl⟩ := tt.all j o ho
    have hro := tt.op hr
    rw [ho] at hro
    cases hro
    have hlt : r.i < listed.size := by rw [hsz]; exact (Array.getElem?_eq_some_iff.1 ho).1
    have hun : listed.getD r.i false = false := by
      simp [hlt] at hjl ⊢; exact hjl
    have hm : More (fun i => listed.getD i false) (fun i => (listed.setIfInBounds r.i true).getD i false) r.i := ⟨by
      show (listed.setIfInBounds r.i true).getD r.i false = true
      simp [hlt], fun x hx => getD_set_ne false (Ne.symm hx)⟩
    have hszD : ∀ i, listed.getD i false = true → ∃ o, ops[i]? = some o := fun i hi => by
      rcases Nat.lt_or_ge i ops.size with h1 | h1
      · exact ⟨ops[i], by simp [h1]⟩
      · simp [Array.getElem?_eq_none (show listed.size ≤ i by omega)] at hi
    have q : Rdy ops (fun i => listed.getD i false) r := ⟨hD, hszD, hun, fun ed hed hb => hpre ed (by simpa using hed) hb⟩
    refine I.step hK tt p hmaps q hr hm hb0 fun k' s' a' w' I' => ?_
    refine Inv.run hK tt p hmaps hb0 hQ fuel _ k' s' a' w' (by simpa using hsz) ?_ I' ?_
    · intro i o' hi' hdi ed hed hb
      by_cases hi : i = r.i
      · subst hi
        rw [ho] at hi'; cases hi'
        exact getD_set_true (hpre ed (by simpa using hed) hb)
      · have hdi : (listed.setIfInBounds r.i true).getD i false = true := hdi
        rw [getD_set_ne false (Ne.symm hi)] at hdi
        exact getD_set_true (hD i o' hi' hdi ed hed hb)
    · obtain ⟨l1, l2, e⟩ := List.append_of_mem hr
      obtain ⟨q1, q2⟩ := tt.nodup e
      have c1 : l1.filter (fun x => !(listed.setIfInBounds r.i true).getD x.i false) = l1.filter fun x => !listed.getD x.i false := List.filter_congr fun x hx => by rw [getD_set_ne false (Ne.symm (q1 x hx))]
      have c2 : l2.filter (fun x => !(listed.setIfInBounds r.i true).getD x.i false) = l2.filter fun x => !listed.getD x.i false := List.filter_congr fun x hx => by rw [getD_set_ne false (Ne.symm (q2 x hx))]
      have hmr : (listed.setIfInBounds r.i true).getD r.i false = true := hm.1
      rw [e, List.filter_append, List.filter_cons, if_pos (by rw [hun]; rfl), List.length_append, List.length_cons] at hf
      rw [e, List.filter_append, List.filter_cons, if_neg (by rw [hmr]; simp), List.length_append, c1, c2]
      omega
  termination_by fuel => fuel
end
end
end Go.Proofs.YtpnoifikpmfpdaaDoorX
namespace Go.Proofs.YtpnoifikpmfpdaaDoorX
open Go
set_option linter.unusedVariables false
set_option linter.unusedSimpArgs false
noncomputable section

theorem made_map (l : List Rec) : made (l.map fun r => (r.i, r.c, r.a)) = mades l := by
  induction l with
  | nil => rfl
  | cons r l ih =>
    rw [mades_cons, List.map_cons, ← ih]
    show (if r.c == 1 then 1 else 0) + _ = _
    by_cases h : r.c = 1
    · rw [if_pos (by simpa using h), if_pos h]
    · rw [if_neg (by simpa using h), if_neg h]

theorem reg_draw {P : Program} {K : CallF} (hK : KOk P K) {mask n id : Nat} {tab : Nat → List Item} {ops : Array Oper} (hpl : planOk P ops (tab id) = true) (hmaps : ∀ (i : Nat) (o : Oper), ops[i]? = some o → mapsOp o.op = true)
    (hmask : ∀ (i : Nat) (o : Oper) (d : Nat), ops[i]? = some o → o.dst = some d → mask.testBit d = false) (hm : P.follows .mixedOrders = true) : RegOk P mask tab K n id ops true := by
  intro fr h fr' h' s a w Q e k km hr hq
  have hplan := plan_ok hpl
  replace e : (match tab id with
    | [] => none
    | x :: l => xdraw P K n ops (x :: l) 0 [] h.nx [] fr ⟨h.t, incs (made (x :: l)) h.nx⟩) = some (fr', h') := e
  have e2 : xdraw P K n ops (tab id) 0 [] h.nx [] fr ⟨h.t, incs (made (tab id)) h.nx⟩ = some (fr', h') := by
    split at e
    · cases e
    · rename_i x l hx; rw [hx]; exact e
  clear e
  generalize tab id = items at e2 hplan
  obtain ⟨S, tr, hS, htr, hfr, hh⟩ := trace (fr0 := fr) (b0 := h.nx) items 0 [] h.nx [] fr _ [] (fun _ => ⟨h.t, incs (made items) h.nx⟩) e2 rfl rfl rfl rfl rfl (fun a j _ hj => by omega) (fun r hr => by cases hr)
  have hS0 : S 0 = ⟨h.t, incs (made items) h.nx⟩ := hS 0 (Nat.le_refl _)
  rw [List.nil_append] at hfr hh
  have tt := told hplan htr
  have hmd : made items = mades tr := by rw [tr_items htr, made_map]
  have hge : num h.nx ≤ num (incs (made items) h.nx) := by rw [num_incs]; omega
  have hD0 : ∀ i, (Array.replicate ops.size false).getD i false = false := fun i => by
    rw [Array.getD_eq_getD_getElem?, Array.getElem?_replicate]
    split <;> rfl
  have hr0 := hr.fresh
  have hdn : done (fun i => (Array.replicate ops.size false).getD i false) tr = [] := by
    rw [done, List.filter_eq_nil_iff]
    intro r _
    rw [hD0]; simp
  subst hfr hh
  refine wp_region_any hm ?_
  refine Inv.run (s0 := s) (h := h) (w0 := w) (fr0 := fr) (S := S) hK tt hplan hmaps rfl (fun s' a' w' q1 q2 q3 => hq s' a' w' q1 (fun t ht => ?_) q2 q3) ops.size _ 0 s a _ (by simp) (fun i o _ hd => ?_) ?_ ?_
  · rw [get_frame_none]
    · exact km t ht
    · intro r hr hd
      have := hmask r.i r.o t (tt.op hr) hd
      rw [this] at ht; cases ht
  · have hd : (Array.replicate ops.size false).getD i false = true := hd
    rw [hD0] at hd; cases hd
  · refine ⟨by rw [hdn]; rfl, by rw [hdn]; exact k, ?_, ?_, fun r _ _ _ hd => ?_, fun r _ r' _ _ _ _ _ hd => ?_, fun r hr hc _ => ?_, ?_⟩
    · rw [hS0]
      have := hr.drawn (w.drawn + 1)
      exact ⟨this.live, this.inj, fun b l hb => Nat.lt_of_lt_of_le (hr.fresh b l hb) hge⟩
    · rw [hS0, ← hmd]
      show _ ≤ num (incs (made items) h.nx)
      rw [num_incs]; exact Nat.le_refl _
    · have hd : (Array.replicate ops.size false).getD r.i false = true := hd
      rw [hD0] at hd; cases hd
    · have hd : (Array.replicate ops.size false).getD r.i false = true := hd
      rw [hD0] at hd; cases hd
    · cases hsb : s r.b with
      | none => rfl
      | some l =>
        have h1 := hr0 r.b l hsb
        have h2 := (tt.b_lt hr hc).1
        omega
    · rw [hS0]
      exact ⟨Sg.le_refl s, fun _ _ => rfl, hge, rfl, rfl, rfl, Nat.le_refl _, fun _ _ _ => rfl, fun _ h => .inl h⟩
  · have hlen : (tr.filter fun r => !(Array.replicate ops.size false).getD r.i false).length ≤ (tr.map fun r => r.i).length := by
      rw [List.length_map]; exact List.length_filter_le _ _
    refine Nat.le_trans hlen ?_
    have := len_le (tr.map fun r => r.i) (List.range ops.size) (List.pairwise_map.2 tt.pw) fun j hj => by
      obtain ⟨r, hr, rfl⟩ := List.mem_map.1 hj
      exact List.mem_range.2 (Array.getElem?_eq_some_iff.1 (tt.op hr)).1
    simpa using this
end
end Go.Proofs.YtpnoifikpmfpdaaDoorX
namespace Go.Proofs.YtpnoifikpmfpdaaDoorX
open Go
set_option linter.unusedVariables false
set_option linter.unusedSimpArgs false
noncomputable section

def opsOk (mask : Nat) (ops : Array Oper) : Bool := ops.toList.all fun o => mapsOp o.op && (match o.dst with | some d => !mask.testBit d | none => true)

/-- Are the regions of code that draw their order fit? -/
def fitC (P : Program) (mask : Nat) (tab : Nat → List Item) : Code → Bool
  | .region id ops draw => !draw || (tab id).isEmpty || (planOk P ops (tab id) && opsOk mask ops)
  | .seq a b => fitC P mask tab a && fitC P mask tab b
  | .cond _ a b => fitC P mask tab a && fitC P mask tab b
  | .block _ b => fitC P mask tab b
  | .loop b => fitC P mask tab b
  | .scope b => fitC P mask tab b
  | _ => true

theorem reg_none {P : Program} {K : CallF} {mask n id : Nat} {tab : Nat → List Item} {ops : Array Oper} (h : tab id = []) : RegOk P mask tab K n id ops true := fun fr h1 fr' h' s a w Q e => by
  replace e : (match tab id with
    | [] => none
    | x :: l => xdraw P K n ops (x :: l) 0 [] h1.nx [] fr ⟨h1.t, incs (made (x :: l)) h1.nx⟩) = some (fr', h') := e
  rw [h] at e
  cases e

theorem fit_good {P : Program} {K : CallF} (hK : KOk P K) (hm : P.follows .mixedOrders = true) {mask n : Nat} {tab : Nat → List Item} : ∀ {c : Code}, fitC P mask tab c = true → Good P mask tab K n c := by
  intro c
  induction c with
  | region id ops draw =>
    intro h
    show RegOk P mask tab K n id ops draw
    cases draw with
    | false => exact reg_seq hK
    | true =>
      simp only [fitC, Bool.not_true, Bool.false_or, Bool.or_eq_true, Bool.and_eq_true] at h
      rcases h with h | ⟨h1, h2⟩
      · exact reg_none (List.isEmpty_iff.1 h)
      · have hall : ∀ (i : Nat) (o : Oper), ops[i]? = some o → mapsOp o.op = true ∧ (match o.dst with | some d => !mask.testBit d | none => true) = true := fun i o ho => by
          have := List.all_eq_true.1 h2 o (by
            have : ops.toList[i]? = some o := by simpa using ho
            exact List.mem_of_getElem? this)
          simpa [Bool.and_eq_true] using this
        refine reg_draw hK h1 (fun i o ho => (hall i o ho).1) (fun i o d ho hd => ?_) hm
        have := (hall i o ho).2
        rw [hd] at this
        simpa using this
  | seq a b iha ihb => intro h; simp only [fitC, Bool.and_eq_true] at h; exact ⟨iha h.1, ihb h.2⟩
  | cond x a b iha ihb => intro h; simp only [fitC, Bool.and_eq_true] at h; exact ⟨iha h.1, ihb h.2⟩
  | block id b ih => intro h; exact ih h
  | loop b ih => intro h; exact ih h
  | scope b ih => intro h; exact ih h
  | _ => intro _; trivial

theorem fit_empty {P : Program} {mask : Nat} {tab : Nat → List Item} (h : ∀ r, tab r = []) : ∀ c : Code, fitC P mask tab c = true := by
  intro c
  induction c with
  | region id ops draw => simp [fitC, h]
  | seq a b iha ihb => simp [fitC, iha, ihb]
  | cond x a b iha ihb => simp [fitC, iha, ihb]
  | block id b ih => simpa [fitC] using ih
  | loop b ih => simpa [fitC] using ih
  | scope b ih => simpa [fitC] using ih
  | _ => rfl

/-- The orders that a list holds. -/
def tabOf (L : List (Nat × Nat × Nat)) : Tab := fun f r => decItems 300 (assoc2 f r L)

def fitF (P : Program) (msk : Nat → Nat) (tab : Tab) (f : Nat) : Bool :=
  match P.funcs[f]? with
  | some fn => (match fn.body with
    | some c => fitC P (msk f) (tab f) c
    | none => true)
  | none => true

theorem assoc2_zero {f r : Nat} : ∀ {L : List (Nat × Nat × Nat)}, (∀ x ∈ L, x.1 ≠ f) → assoc2 f r L = 0
  | [], _ => rfl
  | x :: L, h => by
    have h1 := h x (List.mem_cons_self ..)
    have ih := assoc2_zero (r := r) (L := L) fun y hy => h y (List.mem_cons_of_mem _ hy)
    simp only [assoc2, cnd_eq]
    rw [if_neg]
    · exact ih
    · simp [h1]

theorem good_all {P : Program} {msk : Nat → Nat} {L : List (Nat × Nat × Nat)} (fs : List Nat) (hm : P.follows .mixedOrders = true) (hL : (L.all fun x => fs.contains x.1) = true) (hf : fs.all (fitF P msk (tabOf L)) = true) : GoodAll P msk (tabOf L) := fun K hK f fn c n hfn hc => by
  refine fit_good hK hm ?_
  by_cases hmem : f ∈ fs
  · have := List.all_eq_true.1 hf f hmem
    simp only [fitF, hfn, hc] at this
    exact this
  · refine fit_empty (fun r => ?_) c
    show decItems 300 (assoc2 f r L) = []
    rw [assoc2_zero fun x hx he => hmem (by
      have := List.all_eq_true.1 hL x hx
      rw [he] at this
      simpa using this)]
    rfl
end
end Go.Proofs.YtpnoifikpmfpdaaDoorX
