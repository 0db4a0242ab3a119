/-
  Code and functions: what the evaluator says, the model does.
-/
import Derived.Test.YtmmlgodbknhijaaGreatDoorCwDr
import Derived.RangeFuncIn
namespace Cw
open Go

section
variable {P : Program} {H : Hints} {n N0 : Nat}

theorem Post.then {ρ : Rho} {π : Pi} {s s' : St} {w : World} {x : Xit} {Q : Exit → Act → World → Prop} {next : Act → World → Prop} (hx : x ≠ .norm) (hQ : Post P n N0 ρ π s w x s' Q) :
    Post P n N0 ρ π s w x s' (Exit.then next Q) := by
  intro ρ' π' a' w' e hS st hxe
  have := hQ ρ' π' a' w' e hS st hxe
  cases e with
  | normal => cases x <;> first | exact absurd rfl hx | exact hxe.elim
  | _ => exact this

theorem iter_rounds {P : Program} {n N0 : Nat} {c : Code} {f : St → Option (Xit × St)} {Q : Exit → Act → World → Prop}
    (hf : ∀ s x s', f s = some (x, s') → ∀ ρ π a w, SR P n N0 ρ π s a w → ∀ Q, Post P n N0 ρ π s w x s' Q → c.wp P Q a w) :
    ∀ (m : Nat) (s : St) (x : Xit) (s' : St), iter f m s = some (x, s') → ∀ ρ π a w, SR P n N0 ρ π s a w → Post P n N0 ρ π s w x s' Q → Code.rounds P c Q m a w
  | 0, s, x, s', h, _, _, _, _, _, _ => by simp [iter] at h
  | m + 1, s, x, s', h, ρ, π, a, w, hS, hQ => by
    simp only [iter] at h
    rw [rounds_succ]
    split at h
    · rename_i s1 hs1
      refine hf s .norm s1 hs1 ρ π a w hS _ ?_
      intro ρ' π' a' w' e hS' st hxe
      cases e <;> first | exact hxe.elim | skip
      exact iter_rounds hf m s1 x s' h ρ' π' a' w' hS' (fun ρ2 π2 a2 w2 e hS2 st2 hx => hQ ρ2 π2 a2 w2 e hS2 (st.trans st2) hx)
    · rename_i hne
      cases hs : f s with
      | none => rw [hs] at h; cases h
      | some r =>
        rw [hs] at h; cases h
        refine hf s x s' hs ρ π a w hS _ (Post.then ?_ hQ)
        rintro rfl
        exact hne s' hs

theorem ev_sound (hH : HOk P H) (hm : P.follows .mixedOrders = true) : ∀ (c : Code) (ls : List (List Nat × List Nat)) (ac : ACode) (ls' : List (List Nat × List Nat)), elabCode P H n c ls = some (ac, ls') →
    ∀ s x s', ev P ac s = some (x, s') → ∀ ρ π a w, SR P n N0 ρ π s a w → ∀ Q, Post P n N0 ρ π s w x s' Q → c.wp P Q a w := by
  intro c
  induction c with
  | skip =>
    intro ls ac ls' he s x s' hev ρ π a w hS Q hQ
    simp only [elabCode, Option.some.injEq, Prod.mk.injEq] at he
    obtain ⟨rfl, rfl⟩ := he
    simp only [ev, Option.some.injEq, Prod.mk.injEq] at hev
    obtain ⟨rfl, rfl⟩ := hev
    exact wp_skip (hQ ρ π a w .normal hS (Stp.refl _ _ _ _) trivial)
  | region id ops d =>
    intro ls ac ls' he s x s' hev ρ π a w hS Q hQ
    cases d with
    | false =>
      simp only [elabCode] at he
      cases h1 : elabOpers P H ops ops.toList with
      | none => simp [h1] at he
      | some os =>
        simp only [h1] at he
        cases h2 : dstOk n os
        · simp [h2] at he
        · simp only [h2, cond_true, Option.some.injEq, Prod.mk.injEq] at he
          obtain ⟨rfl, rfl⟩ := he
          simp only [ev] at hev
          refine wp_region (opsP_wpOps _ _ _ ?_)
          have := text_ops hH (Q := Q) ops.toList os 0 h1 (fun i => by simp) h2 s x s' hev ρ π a w hS hQ
          rw [List.range_eq_range', show ops.size = ops.toList.length by simp]; exact this
    | true =>
      simp only [elabCode] at he
      cases h1 : elabDraw P H ops with
      | none => simp [h1] at he
      | some ou =>
        obtain ⟨os, uw⟩ := ou
        simp only [h1] at he
        cases h2 : dstOk n os
        · simp [h2] at he
        · simp only [h2, cond_true, Option.some.injEq, Prod.mk.injEq] at he
          obtain ⟨rfl, rfl⟩ := he
          simp only [ev] at hev
          exact draw_wp hH hm h1 h2 hev hS hQ id
  | seq a b iha ihb =>
    intro ls ac ls' he s x s' hev ρ π act w hS Q hQ
    simp only [elabCode] at he
    cases h1 : elabCode P H n a ls with
    | none => simp [h1] at he
    | some r1 =>
      obtain ⟨x1, l1⟩ := r1
      simp only [h1] at he
      cases h2 : elabCode P H n b l1 with
      | none => simp [h2] at he
      | some r2 =>
        obtain ⟨y, l2⟩ := r2
        simp only [h2, Option.some.injEq, Prod.mk.injEq] at he
        obtain ⟨rfl, rfl⟩ := he
        simp only [ev] at hev
        refine wp_seq ?_
        split at hev
        · rename_i s1 hs1
          refine iha ls x1 l1 h1 s .norm s1 hs1 ρ π act w hS _ ?_
          intro ρ' π' a' w' e hS' st hxe
          cases e <;> first | exact hxe.elim | skip
          exact ihb l1 y l2 h2 s1 x s' hev ρ' π' a' w' hS' Q (fun ρ2 π2 a2 w2 e hS2 st2 hx => hQ ρ2 π2 a2 w2 e hS2 (st.trans st2) hx)
        · rename_i hne
          refine iha ls x1 l1 h1 s x s' hev ρ π act w hS _ (Post.then ?_ hQ)
          rintro rfl
          exact hne s' hev
  | cond cc a b iha ihb =>
    intro ls ac ls' he s x s' hev ρ π act w hS Q hQ
    simp only [elabCode] at he
    cases h0 : elabOpd cc with
    | none => simp [h0] at he
    | some oc =>
      cases h1 : elabCode P H n a ls with
      | none => simp [h0, h1] at he
      | some r1 =>
        obtain ⟨x1, l1⟩ := r1
        simp only [h0, h1] at he
        cases h2 : elabCode P H n b l1 with
        | none => simp [h2] at he
        | some r2 =>
          obtain ⟨y, l2⟩ := r2
          simp only [h2, Option.some.injEq, Prod.mk.injEq] at he
          obtain ⟨rfl, rfl⟩ := he
          simp only [ev] at hev
          split at hev
          · rename_i t ht
            have hb := (hS.t.env cc oc h0 _ ht).bool
            cases t
            · exact wp_cond_false hb (ihb l1 y l2 h2 s x s' hev ρ π act w hS Q hQ)
            · exact wp_cond_true hb (iha ls x1 l1 h1 s x s' hev ρ π act w hS Q hQ)
          · cases hev
  | block id a iha =>
    intro ls ac ls' he s x s' hev ρ π act w hS Q hQ
    simp only [elabCode] at he
    cases h1 : elabCode P H n a ls with
    | none => simp [h1] at he
    | some r1 =>
      obtain ⟨x1, l1⟩ := r1
      simp only [h1, Option.some.injEq, Prod.mk.injEq] at he
      obtain ⟨rfl, rfl⟩ := he
      simp only [ev] at hev
      refine wp_block ?_
      split at hev
      · rename_i i s1 hs1
        refine iha ls x1 l1 h1 s _ s1 hs1 ρ π act w hS _ ?_
        intro ρ' π' a' w' e hS' st hxe
        cases e <;> first | exact hxe.elim | skip
        rename_i j
        simp only [XitOk] at hxe; subst hxe
        simp only [Exit.inBlock]
        cases hb : Nat.beq i id
        · simp only [hb, cond_false, Option.some.injEq, Prod.mk.injEq] at hev
          obtain ⟨rfl, rfl⟩ := hev
          have hne : i ≠ id := fun e => by subst e; simp at hb
          rw [if_neg hne]
          exact hQ ρ' π' a' w' _ hS' st rfl
        · simp only [hb, cond_true, Option.some.injEq, Prod.mk.injEq] at hev
          obtain ⟨rfl, rfl⟩ := hev
          rw [if_pos (Nat.eq_of_beq_eq_true hb)]
          exact hQ ρ' π' a' w' .normal hS' st trivial
      · rename_i hne
        refine iha ls x1 l1 h1 s x s' hev ρ π act w hS _ ?_
        intro ρ' π' a' w' e hS' st hxe
        have := hQ ρ' π' a' w' e hS' st hxe
        cases e with
        | exit j =>
          cases x <;> first | exact hxe.elim | skip
          rename_i i
          exact absurd hev (hne i s')
        | _ => exact this
  | loop a iha =>
    intro ls ac ls' he s x s' hev ρ π act w hS Q hQ
    cases ls with
    | nil => simp [elabCode] at he
    | cons kk ls =>
      obtain ⟨ks, kp⟩ := kk
      simp only [elabCode] at he
      cases h1 : elabCode P H n a ls with
      | none => simp [h1] at he
      | some r1 =>
        obtain ⟨x1, l1⟩ := r1
        simp only [h1, Option.some.injEq, Prod.mk.injEq] at he
        obtain ⟨rfl, rfl⟩ := he
        simp only [ev] at hev
        refine wp_loop_rounds fuel ?_
        refine iter_rounds (n := n) (N0 := N0) ?_ fuel s x s' hev ρ π act w hS hQ
        intro s x s' hf ρ π a' w hS Q hQ
        cases hp : prune ks kp s with
        | none => simp [hp] at hf
        | some s1 =>
          simp only [hp] at hf
          obtain ⟨hS1, e1, _⟩ := hS.prune hp
          refine iha ls x1 l1 h1 s1 x s' hf ρ π a' w hS1 Q ?_
          intro ρ' π' a2 w' e hS' st hxe
          exact hQ ρ' π' a2 w' e hS' (by rw [← e1]; exact st) hxe
  | exit id =>
    intro ls ac ls' he s x s' hev ρ π a w hS Q hQ
    simp only [elabCode, Option.some.injEq, Prod.mk.injEq] at he
    obtain ⟨rfl, rfl⟩ := he
    simp only [ev, Option.some.injEq, Prod.mk.injEq] at hev
    obtain ⟨rfl, rfl⟩ := hev
    exact wp_exit (hQ ρ π a w (.exit id) hS (Stp.refl _ _ _ _) rfl)
  | scope a iha =>
    intro ls ac ls' he s x s' hev ρ π act w hS Q hQ
    simp only [elabCode] at he
    cases h1 : elabCode P H n a ls with
    | none => simp [h1] at he
    | some r1 =>
      obtain ⟨x1, l1⟩ := r1
      simp only [h1, Option.some.injEq, Prod.mk.injEq] at he
      obtain ⟨rfl, rfl⟩ := he
      simp only [ev] at hev
      refine wp_scope_straight (iha ls x1 l1 h1 s x s' hev ρ π act w hS _ ?_)
      intro ρ' π' a' w' e hS' st hxe
      have := hQ ρ' π' a' w' e hS' st hxe
      cases e with
      | goto l => cases x <;> exact hxe.elim
      | _ => exact this
  | label l =>
    intro ls ac ls' he s x s' hev ρ π a w hS Q hQ
    simp only [elabCode, Option.some.injEq, Prod.mk.injEq] at he
    obtain ⟨rfl, rfl⟩ := he
    simp only [ev, Option.some.injEq, Prod.mk.injEq] at hev
    obtain ⟨rfl, rfl⟩ := hev
    exact wp_label (hQ ρ π a w .normal hS (Stp.refl _ _ _ _) trivial)
  | ret =>
    intro ls ac ls' he s x s' hev ρ π a w hS Q hQ
    simp only [elabCode, Option.some.injEq, Prod.mk.injEq] at he
    obtain ⟨rfl, rfl⟩ := he
    simp only [ev, Option.some.injEq, Prod.mk.injEq] at hev
    obtain ⟨rfl, rfl⟩ := hev
    exact wp_ret (hQ ρ π a w .ret hS (Stp.refl _ _ _ _) trivial)
  | rangeFunc g ps assign body _ _ =>
    intro ls ac ls' he s x s' hev ρ π a w hS Q hQ
    simp only [elabCode] at he
    cases h0 : elabOpd g with
    | none => simp [h0] at he
    | some og =>
      simp only [h0] at he
      cases hcl : H.iters.all (fun x => callable P x.1)
      · simp [hcl] at he
      · simp only [hcl, cond_true, Option.some.injEq, Prod.mk.injEq] at he
        obtain ⟨rfl, rfl⟩ := he
        simp only [ev] at hev
        split at hev
        case h_2 => cases hev
        case h_1 f cap hg =>
        cases hfd : findF f H.iters with
        | none => simp [hfd] at hev
        | some S =>
          simp only [hfd] at hev
          split at hev
          case h_2 => cases hev
          case h_1 v h' hSv =>
          simp only [Option.some.injEq, Prod.mk.injEq] at hev
          obtain ⟨rfl, rfl⟩ := hev
          have hmem := findF_mem hfd
          have hG := hH.iters _ hmem
          have hcf := (List.all_eq_true.1 hcl) _ hmem
          have hgv := (hS.t.env g og h0 _ hg).of_noLoc rfl
          generalize hge : a.eval g = cg at hgv
          cases hgv with
          | func _ _ _ fs' cs' g1 g2 =>
            cases g1
            -- the two blocks that are laid
            let lp : Obj := .loop { state := .ready, pending := none, fn := 0, tmps := a.tmps, params := ps, assign, body, defers := w.heap.size }
            refine (wpIn_wide (n := 0)).1 (wpIn_rangeFunc fun fn _ => ?_)
            let w₁ := (w.alloc (.deferred (some []))).alloc (.loop { state := .ready, pending := none, fn, tmps := a.tmps, params := ps, assign, body, defers := w.heap.size })
            have hR1 : R ρ s.h w₁ := (hS.r.other _).other _
            have hP1 : RP ρ π s.h s.pb w₁ := (hS.p.other _).other _
            have st1 : Stp ρ π s.h w ρ π s.h w₁ := (Stp.other _ _ _ _ _).trans (Stp.other _ _ _ _ _)
            refine ⟨w.heap.size + 1, _, w₁, ⟨.fn (.func f) ⟨cs'⟩, #[.func (.yield (w.heap.size + 1)) #[] #[]]⟩, w₁, f, #[.func (.yield (w.heap.size + 1)) #[] #[]] ++ ⟨cs'⟩, w₁, run_enterLoop_outer fn a.tmps ps assign body, ?_, ?_, ?_, ?_, ?_⟩
            · have hcst : ∀ v, a.eval (.const v) = v := fun _ => rfl
              simp [resolve, rangeCall, hcst, hge, Deferred.ofValue]
            · intro f' _; trivial
            · simp [invoke, run_callFunc hcf]
            · intro h; simp [Fence.wide] at h
            refine (callsIn_wide).2 ((hG cap s.h (.ret v) h' hSv ρ w₁ _ ⟨cs'⟩ hR1 g2).mono ?_)
            rintro e w3 ⟨ρ', hR', st, hE⟩
            have stl := st.lift π0_none π
            have hP3 := hP1.step hR1 hR' st π0_none
            cases e with
            | panicked ch => exact hE.elim
            | outgrown => exact hE.elim
            | returned c =>
              have hsz : w₁.heap.size = w.heap.size + 2 := by simp [w₁]
              have hnw : ∀ b, w.heap.size ≤ b → ¬ wrB s.h ρ b := fun b hb ⟨i, o, sg, q1, _, q3, q4⟩ => by
                obtain ⟨t, ht, hok⟩ := hS.r.obj i o q1
                rw [q3] at ht; cases ht
                have := hok.lt; omega
              have hl1 : w₁.heap[w.heap.size + 1]? = some (.loop { state := .ready, pending := none, fn, tmps := a.tmps, params := ps, assign, body, defers := w.heap.size }) := by
                have := heap_push_new (w.alloc (.deferred (some []))) (.loop { state := .ready, pending := none, fn, tmps := a.tmps, params := ps, assign, body, defers := w.heap.size })
                simpa [w₁] using this
              have hd1 : w₁.heap[w.heap.size]? = some (.deferred (some [])) := by
                rw [show w₁ = (w.alloc (.deferred (some []))).alloc _ from rfl, heap_push_lt _ _ _ (by simp), heap_push_new]
              have hl3 : w3.heap[w.heap.size + 1]? = _ := (st.keep _ (by omega) (hnw _ (by omega)) (fun k => by simp [π0])).trans hl1
              have hd3 : w3.heap[w.heap.size]? = some (.deferred (some [])) := (st.keep _ (by omega) (hnw _ (Nat.le_refl _)) (fun k => by simp [π0])).trans hd1
              refine ⟨none, _, run_endLoop hl3 (by simp), ?_⟩
              have hSt := (st1.trans stl)
              have hSt2 : Stp ρ π s.h w ρ' π h' (w3.putObj (w.heap.size + 1) (.loop { state := .exhausted, pending := none, fn, tmps := a.tmps, params := ps, assign, body, defers := w.heap.size })) := hSt.putObj (by omega) _
              refine hQ ρ' π _ _ .normal ⟨hR'.putObj hl3 (by intros; simp) (by intros; simp) _, hP3.putObj hl3 (by intros; simp) _, hS.t.mono st.ext (PiOk.refl _ _), hS.sz, ?_, Nat.le_trans hS.n0 hSt2.size, hSt2.pl hS.pl⟩ hSt2 trivial
              have hdl := hS.d.mono hSt2
              refine .mark _ _ _ _ ⟨?_, ?_, ?_, ?_, ?_⟩ hS.d.marks hdl
              · exact hS.n0
              · have := st.size; simp only [World.putObj_size]; omega
              · intro hw
                rcases st.grow _ hw with q | q
                · exact hnw _ (Nat.le_refl _) q
                · omega
              · intro k hk
                have := hS.pl k _ hk; omega
              · rw [World.putObj_heap_other (by omega)]; exact hd3
  | _ => intro ls ac ls' he; simp [elabCode] at he

/-! ## Functions -/
theorem start_SR {ρ : Rho} {h : AH} {w : World} (hR : R ρ h w) {cargs : Array Value} (m : Nat) (t : T Value)
    (ht : ∀ k v, t.get k = some v → ∃ c, cargs[k]? = some c ∧ V ρ v c) : SR P m w.heap.size ρ π0 ⟨t, .nil, [], h⟩ { tmps := cargs ++ Array.replicate (m - cargs.size) undef, defers := [] } w where
  r := hR
  p := ⟨fun k vs hk => by simp [T.get_nil] at hk, fun k k' vs vs' _ hk => by simp [T.get_nil] at hk, fun k vs b i o s hk => by simp [T.get_nil] at hk⟩
  t := fun k v hk => by
    obtain ⟨c, c1, c2⟩ := ht k v hk
    have hlt : k < cargs.size := (Array.getElem?_eq_some_iff.1 c1).1
    exact ⟨c, by rw [Array.getElem?_append_left hlt]; exact c1, .v _ _ c2⟩
  sz := by simp; omega
  d := .nil
  n0 := Nat.le_refl _
  pl := fun k b hb => by simp [π0] at hb
theorem ofList_args {ρ : Rho} {args : List Value} {cargs : Array Value} (hv : VL ρ args cargs.toList) (k : Nat) (v : Value) (h : (T.ofList args 0 .nil).get k = some v) : ∃ c, cargs[k]? = some c ∧ V ρ v c := by
  rw [T.get_ofList] at h
  split at h
  · obtain ⟨c, h1, h2⟩ := hv.get k v (by simpa using h)
    exact ⟨c, by simpa using h1, h2⟩
  · simp [T.get_nil] at h
theorem ofList_args1 {ρ : Rho} {args : List Value} {cargs : Array Value} (hv : VL ρ args cargs.toList) (y : Value) (k : Nat) (v : Value) (h : (T.ofList args 1 .nil).get k = some v) : ∃ c, (#[y] ++ cargs)[k]? = some c ∧ V ρ v c := by
  rw [T.get_ofList] at h
  split at h
  · rename_i hk
    obtain ⟨c, h1, h2⟩ := hv.get (k - 1) v h
    refine ⟨c, ?_, h2⟩
    rw [Array.getElem?_append_right (by simpa using hk.1)]
    simpa using h1
  · simp [T.get_nil] at h

theorem good_fspec (hH : HOk P H) (hm : P.follows .mixedOrders = true) {ls : List (List Nat × List Nat)} {f : FuncId} {a : AFn} (he : elabF P H ls f = some a) : Good P f (fspec P a) := by
  simp only [elabF] at he
  cases hf : P.funcs[f]? with
  | none => simp [hf] at he
  | some fn =>
    simp only [hf] at he
    cases hb : fn.body with
    | none => simp [hb] at he
    | some c =>
      simp only [hb] at he
      split at he
      · rename_i b rs hc hrs
        cases hle : Nat.ble (fn.params.size + fn.nfree) fn.ntmps
        · simp [hle] at he
        · simp only [hle, cond_true, Option.some.injEq] at he; subst he
          intro args h r h' hs ρ w cargs hR hv
          simp only [fspec] at hs
          cases hg : (Nat.beq args.length (fn.params.size + fn.nfree) && noLocs args)
          · simp [hg] at hs
          · simp only [hg, cond_true] at hs
            refine calls_of_wp_m hf hb ?_
            have hS0 := start_SR (P := P) hR fn.ntmps (T.ofList args 0 .nil) (ofList_args hv)
            cases hev : ev P b ⟨T.ofList args 0 .nil, .nil, [], h⟩ with
            | none => simp [hev] at hs
            | some xs =>
              obtain ⟨x, s⟩ := xs
              refine ev_sound hH hm c ls b [] hc _ x s hev ρ π0 _ w hS0 _ ?_
              intro ρ' π' a' w' e hS st hxe
              have fin : ∀ p u, leave rs s p = some (r, h') → ModeOk ρ' p u → LeavesM P fn a'.tmps (fun e w' => ∃ ρ', R ρ' h' w' ∧ Stp ρ π0 h w ρ' π0 h' w' ∧ EndOk ρ' r e) a'.defers u w' := by
                intro p u hl hM
                refine leaves_ok hrs s.df a'.defers ρ' s.h w' p u hS.r hS.p hS.t hS.d hM st r h' hl ?_
                intro ρ2 e w2 g1 g2 g3
                exact ⟨ρ2, g1, g2, g3⟩
              cases x with
              | norm =>
                cases e <;> first | exact hxe.elim | skip
                simp only [hev] at hs
                exact fin none .returning hs rfl
              | ret =>
                cases e <;> first | exact hxe.elim | skip
                simp only [hev] at hs
                exact fin none .returning hs rfl
              | ext i => simp [hev] at hs
              | pan v =>
                cases e <;> first | exact hxe.elim | skip
                simp only [hev] at hs
                obtain ⟨cv, rfl, hcv⟩ := hxe
                exact fin (some v) _ hs ⟨cv, rfl, hcv⟩
      · cases he

theorem good_fspecI (hH : HOk P H) (hm : P.follows .mixedOrders = true) {ls : List (List Nat × List Nat)} {f : FuncId} {a : AFn} (he : elabF P H ls f = some a) : GoodI P f (fspecI P a) := by
  simp only [elabF] at he
  cases hf : P.funcs[f]? with
  | none => simp [hf] at he
  | some fn =>
    simp only [hf] at he
    cases hb : fn.body with
    | none => simp [hb] at he
    | some c =>
      simp only [hb] at he
      split at he
      · rename_i b rs hc hrs
        cases hle : Nat.ble (fn.params.size + fn.nfree) fn.ntmps
        · simp [hle] at he
        · simp only [hle, cond_true, Option.some.injEq] at he; subst he
          intro args h r h' hs ρ w y cargs hR hv
          simp only [fspecI] at hs
          cases hg : (Nat.beq (args.length + 1) (fn.params.size + fn.nfree) && noLocs args)
          · simp [hg] at hs
          · simp only [hg, cond_true] at hs
            refine calls_of_wp_m hf hb ?_
            have hS0 := start_SR (P := P) hR fn.ntmps (T.ofList args 1 .nil) (ofList_args1 hv y)
            cases hev : ev P b ⟨T.ofList args 1 .nil, .nil, [], h⟩ with
            | none => simp [hev] at hs
            | some xs =>
              obtain ⟨x, s⟩ := xs
              refine ev_sound hH hm c ls b [] hc _ x s hev ρ π0 _ w hS0 _ ?_
              intro ρ' π' a' w' e hS st hxe
              have fin : ∀ p u, leave rs s p = some (r, h') → ModeOk ρ' p u → LeavesM P fn a'.tmps (fun e w' => ∃ ρ', R ρ' h' w' ∧ Stp ρ π0 h w ρ' π0 h' w' ∧ EndOk ρ' r e) a'.defers u w' := by
                intro p u hl hM
                refine leaves_ok hrs s.df a'.defers ρ' s.h w' p u hS.r hS.p hS.t hS.d hM st r h' hl ?_
                intro ρ2 e w2 g1 g2 g3
                exact ⟨ρ2, g1, g2, g3⟩
              cases x with
              | norm =>
                cases e <;> first | exact hxe.elim | skip
                simp only [hev] at hs
                exact fin none .returning hs rfl
              | ret =>
                cases e <;> first | exact hxe.elim | skip
                simp only [hev] at hs
                exact fin none .returning hs rfl
              | ext i => simp [hev] at hs
              | pan v =>
                cases e <;> first | exact hxe.elim | skip
                simp only [hev] at hs
                obtain ⟨cv, rfl, hcv⟩ := hxe
                exact fin (some v) _ hs ⟨cv, rfl, hcv⟩
      · cases he

/-- a function that asks nothing of the heap -/
theorem goodP_of {f : FuncId} {S : Spec} (hG : Good P f S) {T' : PSpec} (hT : ∀ args r, T' args = some r → ∃ h', scalL args = true ∧ S args ⟨.nil, 0⟩ = some (r, h') ∧ (match r with | .ret v | .pan v => scal v = true)) : GoodP P f T' := by
  intro args r hs ρ h w cargs hR hv
  obtain ⟨h', h1, h2, h3⟩ := hT args r hs
  have e1 := VL.eq_scal hv h1
  have hR0 : R (fun _ => none) ⟨.nil, 0⟩ w := ⟨fun i s hs => by simp at hs, fun i o ho => by simp [T.get_nil] at ho, fun i j oi oj si sj _ hi => by simp [T.get_nil] at hi⟩
  have hv0 : VL (fun _ => none) args cargs.toList := by rw [e1]; exact VL.of_scal _ args h1
  refine (hG args ⟨.nil, 0⟩ r h' h2 (fun _ => none) w cargs hR0 hv0).mono ?_
  rintro e w' ⟨ρ', hR', st, hE⟩
  have keep : ∀ b, b < w.heap.size → w'.heap[b]? = w.heap[b]? := fun b hb => st.keep b hb (fun ⟨i, o, s, g1, _⟩ => by simp [T.get_nil] at g1) (fun k => by simp [π0])
  refine ⟨hR.same (fun i o s ho hs => ?_), ⟨Ext.refl ρ, Nat.le_refl _, fun b hb _ _ => keep b hb, fun _ h => .inl h, fun _ _ h => .inl h, fun _ _ h _ => h, st.size, st.os, st.tape, st.output⟩, ?_⟩
  · obtain ⟨t, ht, hok⟩ := hR.obj i o ho
    rw [hs] at ht; cases ht
    exact keep _ hok.lt
  · cases r with
    | ret v =>
      cases e with
      | returned c => have := V.eq_scal hE h3; subst this; exact V.of_scal ρ _ h3
      | _ => exact hE.elim
    | pan v =>
      cases e with
      | panicked ch => obtain ⟨c, rfl, hc⟩ := hE; have := V.eq_scal hc h3; subst this; exact ⟨_, rfl, V.of_scal ρ _ h3⟩
      | _ => exact hE.elim
theorem goodP_fpure {f : FuncId} {a : AFn} (hG : Good P f (fspec P a)) : GoodP P f (fpure P a) := by
  refine goodP_of hG fun args r hs => ?_
  simp only [fpure] at hs
  cases h1 : scalL args
  · simp [h1] at hs
  · simp only [h1, cond_true] at hs
    split at hs
    · rename_i v h' hq
      cases hv : scal v
      · simp [hv] at hs
      · simp only [hv, cond_true, Option.some.injEq] at hs; subst hs
        exact ⟨h', rfl, hq, hv⟩
    · rename_i v h' hq
      cases hv : scal v
      · simp [hv] at hs
      · simp only [hv, cond_true, Option.some.injEq] at hs; subst hs
        exact ⟨h', rfl, hq, hv⟩
    · cases hs

theorem good_fdefer (hH : HOk P H) (hm : P.follows .mixedOrders = true) {ls : List (List Nat × List Nat)} {f : FuncId} {a : AFn} {rr : Nat} (hc : callable P f = true) (he : elabD P H ls f = some (a, rr)) : GoodD P f (fdefer P a rr) := by
  simp only [elabD] at he
  split at he
  case h_2 => cases he
  case h_1 fn hf =>
  split at he
  case h_2 => cases he
  case h_1 id ops c hb =>
  split at he
  case h_2 => cases he
  case h_1 r args0 ats0 ty0 pos0 after0 hop =>
  split at he
  case h_2 => cases he
  case h_1 os hos =>
  split at he
  case h_2 => cases he
  case h_1 b hcode =>
  cases hg : (dstOk fn.ntmps os && Nat.blt r fn.ntmps && Nat.ble (fn.params.size + fn.nfree) fn.ntmps && fn.results.isEmpty)
  · simp [hg] at he
  simp only [hg, cond_true, Option.some.injEq, Prod.mk.injEq] at he
  obtain ⟨rfl, rfl⟩ := he
  simp only [Bool.and_eq_true] at hg
  obtain ⟨⟨⟨hd, hr⟩, hle⟩, hres⟩ := hg
  have hr : r < fn.ntmps := by simpa using hr
  have hres : fn.results = #[] := by simpa using hres
  refine ⟨hc, fun args p h p' h' hs ρ w cargs u hR hv hM => ?_⟩
  simp only [fdefer] at hs
  cases hgg : (Nat.beq args.length (fn.params.size + fn.nfree) && noLocs args)
  · simp [hgg] at hs
  simp only [hgg, cond_true] at hs
  simp only [Bool.and_eq_true] at hgg
  have hal : args.length = fn.params.size + fn.nfree := Nat.eq_of_beq_eq_true hgg.1
  obtain ⟨pv, hpv, hpv1, hpv2⟩ : ∃ pv, (match (match p with | some v => v | none => Value.nilIface : Value) with | q => q) = pv ∧ (p = none → pv = .nilIface) ∧ (∀ v, p = some v → pv = v) := by
    cases p with
    | none => exact ⟨_, rfl, fun _ => rfl, fun v e => by cases e⟩
    | some v => exact ⟨_, rfl, fun e => (by cases e), fun v' e => by cases e; rfl⟩
  clear hpv
  have hs : (match ev P (.seq (.region id os) b) ⟨(T.ofList args 0 .nil).set r (some pv), .nil, [], h⟩ with
    | some (.norm, s) | some (.ret, s) => match s.df with
      | [] => some ((none : Option Value), s.h)
      | _ => none
    | _ => none) = some (p', h') := by
    cases p with
    | none => rw [hpv1 rfl]; exact hs
    | some v => rw [hpv2 v rfl]; exact hs
  -- the code's run
  obtain ⟨x, s, hev, hx, hsd, rfl, rfl⟩ : ∃ x s, ev P (.seq (.region id os) b) ⟨(T.ofList args 0 .nil).set r (some pv), .nil, [], h⟩ = some (x, s) ∧ (x = .norm ∨ x = .ret) ∧ s.df = [] ∧ p' = none ∧ h' = s.h := by
    cases hev : ev P (.seq (.region id os) b) ⟨(T.ofList args 0 .nil).set r (some pv), .nil, [], h⟩ with
    | none => simp [hev] at hs
    | some xs =>
      obtain ⟨x, s⟩ := xs
      cases x with
      | norm =>
        simp only [hev] at hs
        cases hdf : s.df with
        | nil => simp only [hdf, Option.some.injEq, Prod.mk.injEq] at hs; exact ⟨_, s, rfl, .inl rfl, hdf, hs.1.symm, hs.2.symm⟩
        | cons => simp [hdf] at hs
      | ret =>
        simp only [hev] at hs
        cases hdf : s.df with
        | nil => simp only [hdf, Option.some.injEq, Prod.mk.injEq] at hs; exact ⟨_, s, rfl, .inr rfl, hdf, hs.1.symm, hs.2.symm⟩
        | cons => simp [hdf] at hs
      | ext i => simp [hev] at hs
      | pan v => simp [hev] at hs
  refine callsD_of_wpS hf hb ?_
  intro c₀ cs hu
  refine wpS_seq (wpS_region ?_)
  -- the first operation
  have hsize : ops.toList = (Oper.mk (some r) (.call (Call.mk (.builtin .recover) args0 ats0)) ty0 pos0 after0 none) :: ops.toList.drop 1 := by
    have h0 := hop
    rw [← Array.getElem?_toList] at h0
    cases hl : ops.toList with
    | nil => rw [hl] at h0; simp at h0
    | cons o l => rw [hl] at h0; simp only [List.getElem?_cons_zero, Option.some.injEq] at h0; subst h0; rfl
  have hrange : List.range ops.size = 0 :: List.range' 1 (ops.toList.drop 1).length := by
    have : ops.size = (ops.toList.drop 1).length + 1 := by
      have := congrArg List.length hsize
      simp only [List.length_cons] at this
      rw [← this]; simp
    rw [this, List.range_eq_range', List.range'_succ]
  -- what follows, once the slot is filled
  have hpick : ∃ cv u' , (recoverD (c₀ :: cs) = some (cv, { c₀ with mode := u' } :: cs) ∨ (recoverD (c₀ :: cs) = none ∧ cv = .nilIface ∧ { c₀ with mode := u' } = c₀)) ∧ V ρ pv cv ∧ settle u' = .returning := by
    cases p with
    | none =>
      simp only [ModeOk] at hM
      refine ⟨.nilIface, .returning, .inr ⟨?_, rfl, ?_⟩, ?_, rfl⟩
      · simp [recoverD, hu, hM]
      · rw [← (hu.trans hM)]
      · rw [hpv1 rfl]; exact .nilIface
    | some v =>
      obtain ⟨cv, hcu, hcv⟩ := hM
      refine ⟨cv, .panicking [{ v := cv, recovered := true }], .inl ?_, ?_, by simp [settle]⟩
      · simp [recoverD, hu, hcu]
      · rw [hpv2 v rfl]; exact hcv
  obtain ⟨cv, u', hrec, hcv, hset⟩ := hpick
  have hS0 := start_SR (P := P) hR fn.ntmps (T.ofList args 0 .nil) (ofList_args hv)
  have hS1 : SR P fn.ntmps w.heap.size ρ π0 ⟨(T.ofList args 0 .nil).set r (some pv), .nil, [], h⟩ (Act.put { tmps := cargs ++ Array.replicate (fn.ntmps - cargs.size) undef, defers := [] } (some r) cv) w :=
    hS0.put (dst := some r) (fun d e => by cases e; exact hr) hS0.r hS0.p (Stp.refl _ _ _ _) (PiOk.refl _ _) (fun v e => by cases e; exact .v _ _ hcv)
  generalize hRR : (fun (e : Ending) (u' : FrameMode) (w' : World) => ∃ ρ', R ρ' s.h w' ∧ Stp ρ π0 h w ρ' π0 s.h w' ∧ (∃ c, e = .returned c) ∧ ModeOk ρ' none (settle u')) = RR
  have hpost : ∀ (e : Exit) a' w' ρ' π', SR P fn.ntmps w.heap.size ρ' π' s a' w' → Stp ρ π0 h w ρ' π' s.h w' → (e = .normal ∨ e = .ret) → bodyPostS P fn c₀ cs RR e a' ({ c₀ with mode := u' } :: cs) w' := by
    intro e a' w' ρ' π' hS st he
    have hdl : a'.defers = [] := by
      have := hS.d
      rw [hsd] at this
      generalize a'.defers = ds at this ⊢
      cases this; rfl
    have hres' : (results fn a'.tmps).run P w' = .ok (.tuple #[]) w' := by simp [results, hres]
    have hRRok : RR (.returned (.tuple #[])) u' w' := by rw [← hRR]; exact ⟨ρ', hS.r, st.drop, ⟨_, rfl⟩, hset⟩
    rcases he with rfl | rfl
    · exact ⟨hdl, u', rfl, _, hres', hRRok⟩
    · exact ⟨hdl, u', rfl, _, hres', hRRok⟩
  have hgo : opsP P ops (fun e a' w' => Exit.thenS (c.wpS P (bodyPostS P fn c₀ cs RR)) (bodyPostS P fn c₀ cs RR) e a' ({ c₀ with mode := u' } :: cs) w') (List.range' 1 (ops.toList.drop 1).length)
      (Act.put { tmps := cargs ++ Array.replicate (fn.ntmps - cargs.size) undef, defers := [] } (some r) cv) w := by
    simp only [ev] at hev
    cases hreg : evOps P os ⟨(T.ofList args 0 .nil).set r (some pv), .nil, [], h⟩ with
    | none => simp [hreg] at hev
    | some xs1 =>
      obtain ⟨x1, s1⟩ := xs1
      refine text_ops hH (ops.toList.drop 1) os 1 hos (fun i => by rw [List.getElem?_drop, Array.getElem?_toList]) hd _ x1 s1 hreg ρ π0 _ w hS1 ?_
      intro ρ1 π1 a1 w1 e1 hSR1 st1 hxe1
      simp only [hreg] at hev
      cases x1 with
      | norm =>
        cases e1 <;> first | exact hxe1.elim | skip
        simp only at hev
        refine wpS_of_wp (ev_sound hH hm c ls b [] hcode s1 x s hev ρ1 π1 a1 w1 hSR1 _ ?_)
        intro ρ2 π2 a2 w2 e2 hSR2 st2 hxe2
        refine hpost e2 a2 w2 ρ2 π2 hSR2 (st1.trans st2) ?_
        rcases hx with rfl | rfl <;> cases e2 <;> first | exact hxe2.elim | simp
      | ret => 
        exfalso
        have : ∀ (os : List AOper) (s0 : St) (s1 : St), evOps P os s0 ≠ some (.ret, s1) := by
          intro os
          induction os with
          | nil => intro s0 s1 h; simp [evOps] at h
          | cons o os ih =>
            intro s0 s1 h
            simp only [evOps] at h
            split at h
            · cases h
            · exact ih _ _ h
            · cases h
            · exact ih _ _ h
        exact this _ _ _ hreg
      | ext i =>
        simp only [Option.some.injEq, Prod.mk.injEq] at hev
        rcases hx with rfl | rfl <;> (cases hev.1)
      | pan v =>
        simp only [Option.some.injEq, Prod.mk.injEq] at hev
        rcases hx with rfl | rfl <;> (cases hev.1)
  have hops := opsP_wpOpsS _ _ _ _ hgo
  rw [hrange]
  simp only [wpOpsS, hop, Region.wanted, if_true]
  have hex : ∀ (a : Act) (w : World), (execOp a.eval (Oper.mk (some r) (.call (Call.mk (.builtin .recover) args0 ats0)) ty0 pos0 after0 none)).run P w = .ok .recover w := by
    intro a w; simp [execOp, resolve, invoke, builtin]
  rw [hex]
  simp only
  rcases hrec with hrec | ⟨hrec, rfl, hc0⟩
  · rw [hrec]; exact hops
  · rw [hrec]; rw [hc0] at hops; exact hops
end
end Cw
