/-
  Regions in the text's order; what a loop's head keeps; results; deferred calls.
-/
import Derived.Test.YtmmlgodbknhijaaGreatDoorCwM
import Derived.Scope
import Derived.LoopN
import Derived.RangeFuncRecord
namespace Cw
open Go

/-- 'wpOps' without the way out -/
def opsP (P : Program) (ops : Array Oper) (Q : Exit → Act → World → Prop) : List Nat → Act → World → Prop
  | [], a, w => Q .normal a w
  | i :: rest, a, w =>
    match ops[i]? with
    | none => opsP P ops Q rest a w
    | some o => if Region.wanted o (yielded ops a.tmps) then o.wp P a w (opsP P ops Q rest) Q else opsP P ops Q rest (a.put o.dst undef) w

theorem opsP_wpOps {P : Program} {ops : Array Oper} {Q : Exit → Act → World → Prop} : ∀ (l : List Nat) (a : Act) (w : World), opsP P ops Q l a w → wpOps P ops Q l a w
  | [], _, _, h => h
  | i :: rest, a, w, h => by
    simp only [opsP] at h
    simp only [wpOps]
    cases ho : ops[i]? with
    | none => simp only [ho] at h ⊢; exact opsP_wpOps rest a w h
    | some o =>
      simp only [ho] at h ⊢
      split
      · rename_i hw
        simp only [hw, if_true] at h
        exact .inl (Oper.wp_mono (fun a w => opsP_wpOps rest a w) h)
      · rename_i hw
        simp only [hw] at h
        exact opsP_wpOps rest _ w h

theorem opsP_wpOpsS {P : Program} {ops : Array Oper} {Q : Exit → Act → List Frame → World → Prop} (cs : List Frame) : ∀ (l : List Nat) (a : Act) (w : World),
    opsP P ops (fun e a' w' => Q e a' cs w') l a w → wpOpsS P ops Q l a cs w
  | [], _, _, h => h
  | i :: rest, a, w, h => by
    simp only [opsP] at h
    simp only [wpOpsS]
    cases ho : ops[i]? with
    | none => simp only [ho] at h ⊢; exact opsP_wpOpsS cs rest a w h
    | some o =>
      simp only [ho] at h ⊢
      split
      · rename_i hw
        simp only [hw, if_true] at h
        have h := Oper.wp_mono (fun a w => opsP_wpOpsS (Q := Q) cs rest a w) h
        unfold Oper.wp at h
        split
        · rename_i w' hr
          rw [hr] at h
          exact h.elim
        · exact h
      · rename_i hw
        simp only [hw] at h
        exact opsP_wpOpsS cs rest _ w h

/-- how a piece of code ends -/
def XitOk (ρ : Rho) : Xit → Exit → Prop
  | .norm, .normal => True
  | .ret, .ret => True
  | .ext i, .exit j => i = j
  | .pan v, .panic ch => ∃ c, ch = [{ v := c, recovered := false }] ∧ V ρ v c
  | _, _ => False

section
variable {P : Program} {H : Hints} {n N0 : Nat}

/-- the post-condition of a piece of code that the evaluator ends with x in s' -/
def Post (P : Program) (n N0 : Nat) (ρ : Rho) (π : Pi) (s : St) (w : World) (x : Xit) (s' : St) (Q : Exit → Act → World → Prop) : Prop :=
  ∀ ρ' π' a' w' e, SR P n N0 ρ' π' s' a' w' → Stp ρ π s.h w ρ' π' s'.h w' → XitOk ρ' x e → Q e a' w'

theorem elabOpers_cons {ops : Array Oper} {o : Oper} {rest : List Oper} {os : List AOper} (h : elabOpers P H ops (o :: rest) = some os) :
    ∃ ao aos, os = ao :: aos ∧ elabOper P H ops o = some ao ∧ elabOpers P H ops rest = some aos := by
  simp only [elabOpers] at h
  split at h
  · rename_i a as h1 h2
    simp only [Option.some.injEq] at h
    exact ⟨a, as, h.symm, h1, h2⟩
  · simp at h
theorem elabOper_dst {ops : Array Oper} {o : Oper} {ao : AOper} (h : elabOper P H ops o = some ao) : ao.dst = o.dst := by
  simp only [elabOper] at h
  split at h
  · simp at h
  · split at h
    · simp at h
    · split at h
      · simp only [Option.some.injEq] at h; subst h; rfl
      · split at h
        · split at h
          · simp only [Option.some.injEq] at h; subst h; rfl
          · simp at h
        · simp at h

theorem text_ops (hH : HOk P H) {ops : Array Oper} {Q : Exit → Act → World → Prop} : ∀ (rest : List Oper) (os : List AOper) (k : Nat), elabOpers P H ops rest = some os → (∀ i, rest[i]? = ops[k + i]?) → dstOk n os = true →
    ∀ s x s', evOps P os s = some (x, s') → ∀ ρ π a w, SR P n N0 ρ π s a w → Post P n N0 ρ π s w x s' Q → opsP P ops Q (List.range' k rest.length) a w
  | [], os, k, he, _, _, s, x, s', hev, ρ, π, a, w, hS, hQ => by
    simp only [elabOpers, Option.some.injEq] at he; subst he
    simp only [evOps, Option.some.injEq, Prod.mk.injEq] at hev
    obtain ⟨rfl, rfl⟩ := hev
    exact hQ ρ π a w .normal hS (Stp.refl _ _ _ _) trivial
  | o :: rest, os, k, he, hk, hd, s, x, s', hev, ρ, π, a, w, hS, hQ => by
    obtain ⟨ao, aos, rfl, h1, h2⟩ := elabOpers_cons he
    have ho : ops[k]? = some o := by have := hk 0; simpa using this.symm
    have hk' : ∀ i, rest[i]? = ops[k + 1 + i]? := fun i => by have := hk (i + 1); simp only [List.getElem?_cons_succ] at this; rw [this]; congr 1; omega
    simp only [dstOk, Bool.and_eq_true] at hd
    have hn : ∀ d, ao.dst = some d → d < n := fun d e => by
      have := hd.1; rw [e] at this
      simpa using this
    simp only [List.length_cons, List.range'_succ, opsP, ho]
    simp only [evOps] at hev
    cases hst : stepOp P ao s.t s.pb s.h with
    | none => simp [hst] at hev
    | some r =>
      simp only [hst] at hev
      refine op_wp hH h1 hn hS hst ?_ ?_ ?_
      · rintro v pb' h' rfl ρ' π' a' w' hS' st hp
        simp only at hev
        exact text_ops hH rest aos (k + 1) h2 hk' hd.2 _ x s' hev ρ' π' a' w' hS' (fun ρ2 π2 a2 w2 e hS2 st2 hx => hQ ρ2 π2 a2 w2 e hS2 (st.trans st2) hx)
      · rintro v h' rfl ρ' cv w' hS' st hv
        simp only [Option.some.injEq, Prod.mk.injEq] at hev
        obtain ⟨rfl, rfl⟩ := hev
        exact hQ ρ' π a w' _ hS' st ⟨cv, rfl, hv⟩
      · rintro d rfl a' hS'
        simp only at hev
        exact text_ops hH rest aos (k + 1) h2 hk' hd.2 _ x s' hev ρ π a' w hS' (fun ρ2 π2 a2 w2 e hS2 st2 hx => hQ ρ2 π2 a2 w2 e hS2 st2 hx)

/-! ### What a loop's head keeps -/
def kpOf (kp : List Nat) (v : Value) : Prop := ∀ k, (∃ o, v = .pointer (some ⟨k, o, some 0⟩)) ∨ (∃ o m c, v = .slice (some ⟨k, o, some 0⟩) m c) → k ∈ kp
theorem keepT_spec {t : T Value} {kp : List Nat} : ∀ (ns : List Nat) (u u' : T Value), keepT t kp ns u = some u' → (∀ m v, u.get m = some v → t.get m = some v ∧ kpOf kp v) →
    ∀ m v, u'.get m = some v → t.get m = some v ∧ kpOf kp v
  | [], u, u', h, hu => by simp only [keepT, Option.some.injEq] at h; subst h; exact hu
  | x :: ns, u, u', h, hu => by
    simp only [keepT] at h
    have step : ∀ v, t.get x = some v → kpOf kp v → keepT t kp ns (u.set x (some v)) = some u' → ∀ m v, u'.get m = some v → t.get m = some v ∧ kpOf kp v := fun v h1 h2 h3 =>
      keepT_spec ns _ u' h3 (fun m v' hm => by
        simp only [T.get_set] at hm
        by_cases e : m = x
        · simp only [e, if_true, Option.some.injEq] at hm; subst hm; exact ⟨e ▸ h1, h2⟩
        · simp only [e, if_false] at hm; exact hu m v' hm)
    cases hx : t.get x with
    | none => simp only [hx] at h; exact keepT_spec ns u u' h hu
    | some v =>
      simp only [hx] at h
      split at h
      · rename_i k o
        cases hk : kp.elem k
        · rw [hk] at h; cases h
        · simp only [hk, cond_true] at h
          refine step _ hx ?_ h
          rintro j (⟨o', e⟩ | ⟨o', m, c, e⟩)
          · cases e; exact List.elem_iff.1 hk
          · cases e
      · rename_i k o m c
        cases hk : kp.elem k
        · rw [hk] at h; cases h
        · simp only [hk, cond_true] at h
          refine step _ hx ?_ h
          rintro j (⟨o', e⟩ | ⟨o', m', c', e⟩)
          · cases e
          · cases e; exact List.elem_iff.1 hk
      · rename_i h1 h2
        refine step _ hx ?_ h
        rintro j (⟨o', e⟩ | ⟨o', m', c', e⟩)
        · exact absurd e (h1 j o')
        · exact absurd e (h2 j o' m' c')
theorem keepP_get {pb : PB} : ∀ (ks : List Nat) (u : PB) (k : Nat), (keepP pb ks u).get k = if k ∈ ks then pb.get k else u.get k
  | [], u, k => by simp [keepP]
  | x :: ks, u, k => by
    simp only [keepP, keepP_get ks, T.get_set, List.mem_cons]
    by_cases h1 : k ∈ ks
    · simp [h1]
    · by_cases h2 : k = x <;> simp [h1, h2]

theorem SR.prune {ρ : Rho} {π : Pi} {s s1 : St} {a : Act} {w : World} {ks kp : List Nat} (hS : SR P n N0 ρ π s a w) (h : prune ks kp s = some s1) : SR P n N0 ρ π s1 a w ∧ s1.h = s.h ∧ s1.df = s.df := by
  simp only [Cw.prune] at h
  cases ht : keepT s.t kp ks .nil with
  | none => simp [ht] at h
  | some u =>
    simp only [ht, Option.some.injEq] at h; subst h
    have hsp := keepT_spec ks .nil u ht (fun m v hm => by simp [T.get_nil] at hm)
    have hg : ∀ k vs, (keepP s.pb kp .nil).get k = some vs → s.pb.get k = some vs := fun k vs hk => by
      rw [keepP_get] at hk
      split at hk
      · exact hk
      · simp [T.get_nil] at hk
    refine ⟨⟨hS.r, ⟨fun k vs hk => hS.p.box k vs (hg k vs hk), fun k k' vs vs' hkk h1 h2 => hS.p.inj k k' vs vs' hkk (hg _ _ h1) (hg _ _ h2), fun k vs b i o sg hk => hS.p.apart k vs b i o sg (hg _ _ hk)⟩, ?_, hS.sz, hS.d, hS.n0, hS.pl⟩, rfl, rfl⟩
    intro m v hm
    obtain ⟨h1, h2⟩ := hsp m v hm
    obtain ⟨c, c1, c2⟩ := hS.t m v h1
    refine ⟨c, c1, ?_⟩
    cases c2 with
    | v _ _ hv => exact .v _ _ hv
    | ptr k o b hb hp =>
      have hmem := h2 k (.inl ⟨o, rfl⟩)
      exact .ptr k o b hb (by rw [keepP_get, if_pos hmem]; exact hp)
    | slice k o m' c' b hb hp hle =>
      have hmem := h2 k (.inr ⟨o, m', _, rfl⟩)
      exact .slice k o m' c' b hb (by rw [keepP_get, if_pos hmem]; exact hp) hle

/-! ### Results -/
theorem run_results {ρ : Rho} {π : Pi} {s : St} {tmps : Array Value} {w : World} (hR : R ρ s.h w) (hP : RP ρ π s.h s.pb w) (hT : FT ρ π s.pb s.t tmps) {fn : Func} {rs : List RVar}
    (he : elabRes P fn.results.toList = some rs) {v : Value} (hv : resAll s rs = some v) : ∃ c, (results fn tmps).run P w = .ok c w ∧ V ρ v c := by
  obtain ⟨f, hf, hf1, hf2⟩ : ∃ f : ResultVar → Sem Value, results fn tmps = (do let vs ← fn.results.mapM f; pure (if h : vs.size = 1 then vs[0] else .tuple vs)) ∧
      (∀ t, f (.tmp t) = pure (tmps.getD t undef)) ∧ (∀ a t, f (.cell a t) = do loadVar t (← asAddr (tmps.getD a undef))) := ⟨_, rfl, fun _ => rfl, fun _ _ => rfl⟩
  have key : ∀ (l : List ResultVar) (rs : List RVar), elabRes P l = some rs → ∀ vs, allSome (rs.map (resOne s)) = some vs → ∃ cs, (l.mapM f).run P w = .ok cs w ∧ FL ρ π s.pb vs cs ∧ (∀ v, vs = [v] → isLoc v = false → ∃ c, cs = [c] ∧ V ρ v c) := by
    intro l
    induction l with
    | nil =>
      intro rs he vs hvs
      simp only [elabRes, Option.some.injEq] at he; subst he
      simp only [List.map_nil, allSome, Option.some.injEq] at hvs; subst hvs
      exact ⟨[], by simp, .nil, fun v hv => by simp at hv⟩
    | cons x l ih =>
      intro rs he vs hvs
      have hone : ∃ y rs', rs = y :: rs' ∧ elabRes P l = some rs' ∧ ∀ v, resOne s y = some v → ∃ c, (f x).run P w = .ok c w ∧ FV ρ π s.pb v c := by
        cases x with
        | tmp t =>
          simp only [elabRes] at he
          cases hr : elabRes P l with
          | none => simp [hr] at he
          | some rs' =>
            simp only [hr, Option.some.injEq] at he
            refine ⟨_, rs', he.symm, rfl, fun v hv => ?_⟩
            simp only [resOne] at hv
            obtain ⟨c, c1, c2⟩ := hT t v hv
            exact ⟨c, by simp [hf1, Array.getD_eq_getD_getElem?, c1], c2⟩
        | cell p t =>
          simp only [elabRes] at he
          cases hz : aggSz P t with
          | none => simp [hz] at he
          | some sz =>
            cases hr : elabRes P l with
            | none => simp [hz, hr] at he
            | some rs' =>
              simp only [hz, hr, Option.some.injEq] at he
              refine ⟨_, rs', he.symm, rfl, fun v hv => ?_⟩
              simp only [resOne] at hv
              split at hv
              · rename_i ad had
                split at hv
                · rename_i us hus
                  obtain ⟨c, c1, c2⟩ := hT p _ had
                  obtain ⟨cv, w', ρ', π', h1, h2, h3, h4, h5, h6⟩ := v_load (P := P) hR hP c2 hus hz hv
                  obtain ⟨b, o, cs, elem, fr, m, rfl, hb, hvl⟩ := block_at hR hP c2 hus
                  obtain ⟨cv, r1, r2⟩ := hvl.read hv
                  have r3 := read_sub r1
                  exact ⟨cv, by simp [hf2, Array.getD_eq_getD_getElem?, c1, asAddr, run_loadVar hz hb r3], .v _ _ r2⟩
                · simp at hv
              · simp at hv
      obtain ⟨y, rs', rfl, he', h1⟩ := hone
      simp only [List.map_cons, allSome] at hvs
      cases hy : resOne s y with
      | none => simp [hy, allSome] at hvs
      | some u =>
        simp only [hy, allSome] at hvs
        cases hq : allSome (rs'.map (resOne s)) with
        | none => simp [hq] at hvs
        | some us =>
          simp only [hq, Option.some.injEq] at hvs; subst hvs
          obtain ⟨c, c1, c2⟩ := h1 u hy
          obtain ⟨cs, d1, d2, _⟩ := ih rs' he' us hq
          refine ⟨c :: cs, ?_, .cons _ _ _ _ c2 d2, fun v hv hl => ?_⟩
          · rw [List.mapM_cons, Sem.run_bind, c1, Result.andThen_ok, Sem.run_bind, d1]; rfl
          · simp only [List.cons.injEq] at hv
            obtain ⟨rfl, rfl⟩ := hv
            cases d2
            exact ⟨c, rfl, c2.of_noLoc hl⟩
  simp only [resAll] at hv
  cases hq : allSome (rs.map (resOne s)) with
  | none => simp [hq] at hv
  | some vs =>
    obtain ⟨cs, d1, d2, d3⟩ := key _ _ he vs hq
    have hrun : ∀ k, (results fn tmps).run P w = .ok k w ↔ (if h : cs.toArray.size = 1 then cs.toArray[0] else Value.tuple cs.toArray) = k := by
      intro k
      have hm : ∀ (f : ResultVar → Sem Value), Array.mapM f fn.results = List.toArray <$> List.mapM f fn.results.toList := fun f => by
        have := List.mapM_toArray (m := Sem) (l := fn.results.toList) (f := f)
        rwa [Array.toArray_toList] at this
      rw [hf]
      simp only [hm, Sem.run_bind, Sem.run_map, d1, Result.andThen_ok, Sem.run_pure, Result.ok.injEq, and_true]
    have d4 : vs.length = cs.length := FL.length d2
    cases vs with
    | nil =>
      have : cs = [] := by cases cs with | nil => rfl | cons => simp at d4
      subst this
      simp only [hq, noLocs, cond_true, Option.some.injEq] at hv; subst hv
      exact ⟨.tuple #[], (hrun _).2 (by simp), .tup _ _ .nil⟩
    | cons u us =>
      cases us with
      | nil =>
        simp only [hq] at hv
        cases hl : isLoc u
        · simp only [hl, cond_false, Option.some.injEq] at hv; subst hv
          obtain ⟨c, rfl, hc⟩ := d3 u rfl hl
          exact ⟨c, (hrun _).2 (by simp), hc⟩
        · simp [hl] at hv
      | cons u' us =>
        simp only [hq] at hv
        cases hl : noLocs (u :: u' :: us)
        · simp [hl] at hv
        · simp only [hl, cond_true, Option.some.injEq] at hv; subst hv
          refine ⟨.tuple cs.toArray, (hrun _).2 (by rw [dif_neg]; simp; simp at d4; omega), .tup _ _ (d2.noLocs hl)⟩

/-! ### What the frame deferred -/
theorem Stp.drop {ρ ρ' : Rho} {π' : Pi} {h h' : AH} {w w' : World} (st : Stp ρ π0 h w ρ' π' h' w') : Stp ρ π0 h w ρ' π0 h' w' :=
  { st with growp := fun k b hk => by simp [π0] at hk }

theorem resAll_df (t : T Value) (pb : PB) (df df' : List ADef) (h : AH) (rs : List RVar) : resAll ⟨t, pb, df, h⟩ rs = resAll ⟨t, pb, df', h⟩ rs := by
  have : resOne ⟨t, pb, df, h⟩ = resOne ⟨t, pb, df', h⟩ := funext fun r => by cases r <;> rfl
  simp only [resAll, this]

/-- how a frame leaves, marks of ranges over functions among what it deferred -/
def LeavesM (P : Program) (fn : Func) (tmps : Array Value) (R : Ending → World → Prop) : List Deferred → FrameMode → World → Prop
  | [], .returning, w => ∃ v, (results fn tmps).run P w = .ok v w ∧ R (.returned v) w
  | [], .panicking chain, w => R (.panicked chain) w
  | [], .run, _ => False
  | d :: ds, u, w => u ≠ .run ∧
      ((∃ r w', d.target = .collected r ∧ (Instr.takeDeferred r).run P w = .ok [] w' ∧ LeavesM P fn tmps R ds u w') ∨
       (∃ fv cap f args, d.target = .fn fv cap ∧ (invoke d.target d.args).run P w = .ok (.enter f args) w ∧
        CallsD P f args u w fun
          | .returned _, u', w' => LeavesM P fn tmps R ds (settle u') w'
          | .panicked chain, u', w' => LeavesM P fn tmps R ds (raised u' chain) w'
          | .outgrown, _, w' => R .outgrown w'))

theorem leavesM_steps {fn : Func} {tmps : Array Value} {R : Ending → World → Prop} : ∀ (ds : List Deferred) (u : FrameMode) (w : World) (fr : Frame)
    (cs : List Frame), fr.mode = u → fr.defers = ds → fr.tmps = tmps → P.funcs[fr.fn]? = some fn → fr.kind = .normal → LeavesM P fn tmps R ds u w →
    ∃ e w' fr', R e w' ∧ Comes P (lone fr cs w) (lone fr' cs w') e ∧ fr'.fn = fr.fn ∧ fr'.leaving P w' e := by
  intro ds
  induction ds with
  | nil =>
    intro u w fr cs hu hd ht hf hk h
    cases u with
    | run => exact h.elim
    | returning =>
      obtain ⟨v, hr, hR⟩ := h
      exact ⟨.returned v, w, fr, hR, Steps.refl P _, rfl, hu, hd, hk, fn, hf, ht ▸ hr⟩
    | panicking chain => exact ⟨.panicked chain, w, fr, h, Steps.refl P _, rfl, hu, hd, fn, hf⟩
  | cons d ds ih =>
    intro u w fr cs hu hd ht hf hk h
    obtain ⟨hrun, h⟩ := h
    rcases h with ⟨r, w', htar, htake, hrest⟩ | ⟨fv, cap, f, args, htar, hinv, hcall⟩
    · have h1 := step_collected (cs := cs) (hu ▸ hrun) hd htar htake
      obtain ⟨e', w'', fr', hR', hs', hfn', hl'⟩ := ih u w' { fr with defers := [] ++ ds } cs hu rfl ht hf hk hrest
      exact ⟨e', w'', fr', hR', Comes.of_steps (.one h1) hs', hfn', hl'⟩
    · have h1 := step_defer (cs := cs) (hu ▸ hrun) hd htar hinv
      obtain ⟨e, u', w', frX, hR, hsteps, hkX, hgo⟩ := hcall { fr with defers := ds } cs hu
      cases e with
      | returned v =>
        have h2 := step_going_returned (c := { { fr with defers := ds } with mode := u' }) (cs := cs) hkX hgo
        obtain ⟨e', w'', fr', hR', hs', hfn', hl'⟩ := ih (settle u') w' { { { fr with defers := ds } with mode := u' } with mode := settle u' } cs rfl rfl ht hf hk hR
        exact ⟨e', w'', fr', hR', Comes.of_steps (.head h1 (Steps.trans hsteps (.one h2))) hs', hfn', hl'⟩
      | panicked chain =>
        have h2 := step_going_panicked (c := { { fr with defers := ds } with mode := u' }) (cs := cs) hgo
        obtain ⟨e', w'', fr', hR', hs', hfn', hl'⟩ := ih (raised u' chain) w' { { { fr with defers := ds } with mode := u' } with mode := raised u' chain } cs rfl rfl ht hf hk hR
        exact ⟨e', w'', fr', hR', Comes.of_steps (.head h1 (Steps.trans hsteps (.one h2))) hs', hfn', hl'⟩
      | outgrown => exact ⟨.outgrown, w', fr, hR, Outgrown.of_steps (.one h1) hsteps, rfl, trivial⟩

def bodyPostL (P : Program) (fn : Func) (R : Ending → World → Prop) : Exit → Act → World → Prop
  | .normal, a, w | .ret, a, w => LeavesM P fn a.tmps R a.defers .returning w
  | .panic chain, a, w => LeavesM P fn a.tmps R a.defers (.panicking chain) w
  | .outgrown, _, w => R .outgrown w
  | _, _, _ => False

theorem calls_of_wp_m {f : FuncId} {fn : Func} {c : Code} {args : Array Value} {w : World} {R : Ending → World → Prop}
    (hf : P.funcs[f]? = some fn) (hb : fn.body = some c)
    (h : c.wp P (bodyPostL P fn R) { tmps := args ++ Array.replicate (fn.ntmps - args.size) undef, defers := [] } w) : Calls P f args w R := by
  intro cs
  let b : Frame := { (default : Frame) with fn := f, kind := .normal }
  have henter : Frame.enter P f args .normal =
      b.at { tmps := args ++ Array.replicate (fn.ntmps - args.size) undef, defers := [] } [.code c] := by
    simp [Frame.enter, Frame.at, hf, hb, b]
  obtain ⟨e, a', w', hq, harr⟩ := h b [] cs
  rw [← henter] at harr
  cases e with
  | normal =>
    obtain ⟨e', w'', fr', hR, hs, hfn, hl⟩ := leavesM_steps a'.defers .returning w' { b.at a' [] with mode := .returning } cs rfl rfl rfl hf rfl hq
    exact ⟨e', w'', fr', hR, Comes.of_steps (Steps.trans harr (.one step_end)) hs, hfn, hl⟩
  | ret =>
    obtain ⟨todo, hs₀⟩ := harr
    obtain ⟨e', w'', fr', hR, hs, hfn, hl⟩ := leavesM_steps a'.defers .returning w' { b.at a' todo with mode := .returning } cs rfl rfl rfl hf rfl hq
    exact ⟨e', w'', fr', hR, Comes.of_steps hs₀ hs, hfn, hl⟩
  | panic chain =>
    obtain ⟨todo, hs₀⟩ := harr
    obtain ⟨e', w'', fr', hR, hs, hfn, hl⟩ := leavesM_steps a'.defers (.panicking chain) w' { b.at a' todo with mode := .panicking chain } cs rfl rfl rfl hf rfl hq
    exact ⟨e', w'', fr', hR, Comes.of_steps hs₀ hs, hfn, hl⟩
  | exit id => exact hq.elim
  | goto l => exact hq.elim
  | outgrown => exact ⟨.outgrown, w', b, hq, harr.resolve_left (by simp [b]), rfl, trivial⟩

/-- a block that is none of the relation's turns -/
theorem objOk.ne {ρ : Rho} {w : World} {s : Seg} {o : AObj} (h : objOk ρ w s o) {r : Nat} {ob : Obj} (hr : w.heap[r]? = some ob) (hc : ∀ cs e fr, ob ≠ .cells cs e fr) (hm : ∀ es c, ob ≠ .map es c) : s.b ≠ r := by
  intro e
  cases o with
  | cells ro esz vs => obtain ⟨cs, el, fr, h1, _⟩ := h; rw [e, hr] at h1; cases h1; exact hc _ _ _ rfl
  | map kvs => obtain ⟨es, c, h1, _⟩ := h; rw [e, hr] at h1; cases h1; exact hm _ _ rfl
  | raw b cs t fr => obtain ⟨rfl, h1⟩ := h; rw [e, hr] at h1; cases h1; exact hc _ _ _ rfl
theorem R.putObj {ρ : Rho} {h : AH} {w : World} (hR : R ρ h w) {r : Nat} {ob : Obj} (hr : w.heap[r]? = some ob) (hc : ∀ cs e fr, ob ≠ .cells cs e fr) (hm : ∀ es c, ob ≠ .map es c) (o : Obj) : R ρ h (w.putObj r o) :=
  hR.same fun i ob' s hi hs => by
    obtain ⟨t, ht, hok⟩ := hR.obj i ob' hi
    rw [hs] at ht; cases ht
    exact World.putObj_heap_other (hok.ne hr hc hm)
theorem RP.putObj {ρ : Rho} {π : Pi} {h : AH} {pb : PB} {w : World} (hP : RP ρ π h pb w) {r : Nat} {ob : Obj} (hr : w.heap[r]? = some ob) (hc : ∀ cs e fr, ob ≠ .cells cs e fr) (o : Obj) : RP ρ π h pb (w.putObj r o) where
  box := fun k vs hk => by
    obtain ⟨b, cs, elem, fr, h1, h2, h3, h4⟩ := hP.box k vs hk
    refine ⟨b, cs, elem, fr, h1, ?_, h3, h4⟩
    rw [World.putObj_heap_other, h2]
    intro e; rw [e, hr] at h2; cases h2; exact hc _ _ _ rfl
  inj := hP.inj
  apart := hP.apart
theorem Stp.putObj {ρ₀ ρ : Rho} {π₀ π : Pi} {h₀ h : AH} {w₀ w : World} (st : Stp ρ₀ π₀ h₀ w₀ ρ π h w) {r : Nat} (hr : w₀.heap.size ≤ r) (o : Obj) : Stp ρ₀ π₀ h₀ w₀ ρ π h (w.putObj r o) :=
  { st with
    keep := fun b hb h1 h2 => by rw [World.putObj_heap_other (by omega)]; exact st.keep b hb h1 h2
    growp := by simpa using st.growp
    size := by simp only [World.putObj_size]; exact st.size
    os := st.os
    tape := st.tape
    output := st.output }
theorem DL.putObj {ρ : Rho} {π : Pi} {h : AH} {w : World} {r : Nat} {o : Obj} {xs : List ADef} {ds : List Deferred} (hd : DL P N0 ρ π h w xs ds) (hr : ∀ d ∈ ds, ∀ r', d.target = .collected r' → r' ≠ r) : DL P N0 ρ π h (w.putObj r o) xs ds := by
  induction hd with
  | nil => exact .nil
  | cons f D args d xs ds h _ ih => exact .cons _ _ _ _ _ _ h (ih fun d hd => hr d (List.mem_cons_of_mem _ hd))
  | mark r' a xs ds hm hlt _ ih =>
    have hne := hr _ (List.mem_cons_self ..) r' rfl
    refine .mark _ _ _ _ ⟨hm.ge, by simpa using hm.lt, hm.nw, hm.np, ?_⟩ hlt (ih fun d hd => hr d (List.mem_cons_of_mem _ hd))
    rw [World.putObj_heap_other hne]; exact hm.obj

theorem R.other {ρ : Rho} {h : AH} {w : World} (hR : R ρ h w) (o : Obj) : R ρ h (w.alloc o) := hR.same fun i ob s hi hs => by
  obtain ⟨t, ht, hok⟩ := hR.obj i ob hi
  rw [hs] at ht; cases ht
  exact heap_push_lt _ _ _ hok.lt
theorem RP.other {ρ : Rho} {π : Pi} {h : AH} {pb : PB} {w : World} (hP : RP ρ π h pb w) (o : Obj) : RP ρ π h pb (w.alloc o) where
  box := fun k vs hk => by
    obtain ⟨b, cs, elem, fr, h1, h2, h3, h4⟩ := hP.box k vs hk
    exact ⟨b, cs, elem, fr, h1, by rw [heap_push_lt _ _ _ (lt_of_heap h2), h2], h3, h4⟩
  inj := hP.inj
  apart := hP.apart
theorem Stp.other (ρ : Rho) (π : Pi) (h : AH) (w : World) (o : Obj) : Stp ρ π h w ρ π h (w.alloc o) :=
  ⟨Ext.refl ρ, Nat.le_refl _, fun b hb _ _ => heap_push_lt _ _ _ hb, fun _ h => .inl h, fun _ _ h => .inl h, fun _ _ h _ => h, by simp, rfl, rfl, rfl⟩

theorem leaves_ok {fn : Func} {rs : List RVar} (he : elabRes P fn.results.toList = some rs) {tmps : Array Value} {π : Pi} {pb : PB} {t : T Value} {R' : Ending → World → Prop} {ρ₀ : Rho} {h₀ : AH} {w₀ : World} :
    ∀ (df : List ADef) (ds : List Deferred) (ρ : Rho) (h : AH) (w : World) (p : Option Value) (u : FrameMode), R ρ h w → RP ρ π h pb w → FT ρ π pb t tmps → DL P w₀.heap.size ρ π h w df ds → ModeOk ρ p u → Stp ρ₀ π0 h₀ w₀ ρ π h w →
      ∀ (r : Res) (h' : AH), leave rs ⟨t, pb, df, h⟩ p = some (r, h') →
      (∀ ρ' e w', R ρ' h' w' → Stp ρ₀ π0 h₀ w₀ ρ' π0 h' w' → EndOk ρ' r e → R' e w') → LeavesM P fn tmps R' ds u w
  | [], ds, ρ, h, w, p, u, hR, hP, hT, hD, hM, st, r, h', hl, hQ => by
    cases hD
    simp only [leave, runDefers] at hl
    cases p with
    | none =>
      simp only [ModeOk] at hM; subst hM
      simp only at hl
      cases hv : resAll ⟨t, pb, [], h⟩ rs with
      | none => simp [hv] at hl
      | some v =>
        simp only [hv, Option.some.injEq, Prod.mk.injEq] at hl
        obtain ⟨rfl, rfl⟩ := hl
        obtain ⟨c, h1, h2⟩ := run_results (s := ⟨t, pb, [], h⟩) hR hP hT he hv
        exact ⟨c, h1, hQ ρ _ w hR st.drop h2⟩
    | some v =>
      obtain ⟨c, rfl, hc⟩ := hM
      simp only [Option.some.injEq, Prod.mk.injEq] at hl
      obtain ⟨rfl, rfl⟩ := hl
      exact hQ ρ _ w hR st.drop ⟨c, rfl, hc⟩
  | .mark :: df, ds, ρ, h, w, p, u, hR, hP, hT, hD, hM, st, r, h', hl, hQ => by
    cases hD with
    | mark b a _ ds hm hlt hs =>
      have hu : u ≠ .run := by
        cases p with
        | none => simp only [ModeOk] at hM; subst hM; simp
        | some v => obtain ⟨c, rfl, _⟩ := hM; simp
      have hl' : leave rs ⟨t, pb, df, h⟩ p = some (r, h') := by
        simp only [leave, runDefers, resAll_df t pb (.mark :: df) df] at hl ⊢; exact hl
      refine ⟨hu, .inl ⟨b, _, rfl, run_takeDeferred hm.obj, ?_⟩⟩
      exact leaves_ok he df ds ρ h _ p u (hR.putObj hm.obj (by intros; simp) (by intros; simp) _) (hP.putObj hm.obj (by intros; simp) _) hT
        (hs.putObj fun d hd r' e => Nat.ne_of_lt (hlt d hd r' e)) hM (st.putObj hm.ge _) r h' hl' hQ
  | .call f D args :: df, ds, ρ, h, w, p, u, hR, hP, hT, hD, hM, st, r, h', hl, hQ => by
    cases hD with
    | cons _ _ _ dd _ ds hd hs =>
      obtain ⟨fv, cap, cargs, h1, h2, h3, h4⟩ := hd
      have hu : u ≠ .run := by
        cases p with
        | none => simp only [ModeOk] at hM; subst hM; simp
        | some v => obtain ⟨c, rfl, _⟩ := hM; simp
      have hsplit : ∃ p1 h1, D args p h = some (p1, h1) ∧ leave rs ⟨t, pb, df, h1⟩ p1 = some (r, h') := by
        simp only [leave, runDefers] at hl
        cases hd : D args p h with
        | none => simp [hd] at hl
        | some ph => exact ⟨ph.1, ph.2, rfl, by simp only [hd] at hl; simp only [leave, resAll_df t pb df (.call f D args :: df)]; exact hl⟩
      obtain ⟨p1, h1', hd1, hl'⟩ := hsplit
      refine ⟨hu, .inr ⟨fv, cap, f, cargs, h1, h2 w, ?_⟩⟩
      refine (h4.2 args p h p1 h1' hd1 ρ w cargs u hR h3 hM).mono ?_
      rintro e u' w' ⟨ρ', hR', st', ⟨c, rfl⟩, hM'⟩
      have stl := st'.lift π0_none π
      exact leaves_ok he df ds ρ' h1' w' p1 (settle u') hR' (hP.step hR hR' st' π0_none) (hT.mono st'.ext (PiOk.refl _ _)) (hs.mono stl) hM' (st.trans stl) r h' hl' hQ
end
end Cw
