/-
  One operation, calls and deferred calls among them: the evaluator's step is the model's.
-/
import Derived.Test.YtmmlgodbknhijaaGreatDoorCwL
namespace Cw
open Go

def π0 : Pi := fun _ => none
theorem π0_none (k : Nat) : π0 k = none := rfl

/-- the end of a call is as the spec says -/
def EndOk (ρ : Rho) : Res → Ending → Prop
  | .ret v, .returned c => V ρ v c
  | .pan v, .panicked ch => ∃ c, ch = [{ v := c, recovered := false }] ∧ V ρ v c
  | _, _ => False
/-- what the spec says of a call, the model does -/
def Good (P : Program) (f : FuncId) (S : Spec) : Prop :=
  ∀ args h r h', S args h = some (r, h') → ∀ (ρ : Rho) (w : World) (cargs : Array Value), R ρ h w → VL ρ args cargs.toList →
    Calls P f cargs w fun e w' => ∃ ρ', R ρ' h' w' ∧ Stp ρ π0 h w ρ' π0 h' w' ∧ EndOk ρ' r e
def GoodP (P : Program) (f : FuncId) (S : PSpec) : Prop :=
  ∀ args r, S args = some r → ∀ (ρ : Rho) (h : AH) (w : World) (cargs : Array Value), R ρ h w → VL ρ args cargs.toList →
    Calls P f cargs w fun e w' => R ρ h w' ∧ Stp ρ π0 h w ρ π0 h w' ∧ EndOk ρ r e
/-- the frame's mode while deferred calls run: it returns, or a panic is on its way -/
def ModeOk (ρ : Rho) : Option Value → FrameMode → Prop
  | none, u => u = .returning
  | some v, u => ∃ c, u = .panicking [{ v := c, recovered := false }] ∧ V ρ v c
def GoodD (P : Program) (f : FuncId) (D : DSpec) : Prop :=
  callable P f = true ∧ ∀ args p h p' h', D args p h = some (p', h') → ∀ (ρ : Rho) (w : World) (cargs : Array Value) (u : FrameMode), R ρ h w → VL ρ args cargs.toList → ModeOk ρ p u →
    CallsD P f cargs u w fun e u' w' => ∃ ρ', R ρ' h' w' ∧ Stp ρ π0 h w ρ' π0 h' w' ∧ (∃ c, e = .returned c) ∧ ModeOk ρ' p' (settle u')

/-- of an iterator that does not come to its yield -/
def GoodI (P : Program) (f : FuncId) (S : Spec) : Prop :=
  ∀ args h r h', S args h = some (r, h') → ∀ (ρ : Rho) (w : World) (y : Value) (cargs : Array Value), R ρ h w → VL ρ args cargs.toList →
    Calls P f (#[y] ++ cargs) w fun e w' => ∃ ρ', R ρ' h' w' ∧ Stp ρ π0 h w ρ' π0 h' w' ∧ EndOk ρ' r e

structure HOk (P : Program) (H : Hints) : Prop where
  calls : ∀ f, match H.calls f with
    | .spec S => Good P f S
    | .pure S => GoodP P f S
    | .dspec D => GoodD P f D
    | .bad => True
  clos : ∀ x ∈ H.clos, Good P x.1 x.2
  dclos : ∀ x ∈ H.dclos, GoodD P x.1 x.2
  iters : ∀ x ∈ H.iters, GoodI P x.1 x.2

def DOk (P : Program) (ρ : Rho) (f : FuncId) (D : DSpec) (args : List Value) (d : Deferred) : Prop :=
  ∃ fv cap cargs, d.target = .fn fv cap ∧ (∀ w, (invoke d.target d.args).run P w = .ok (.enter f cargs) w) ∧ VL ρ args cargs.toList ∧ GoodD P f D
/-- the block of a range over a function lies untouched -/
structure MarkOk (N0 : Nat) (ρ : Rho) (π : Pi) (h : AH) (w : World) (r : Nat) : Prop where
  ge : N0 ≤ r
  lt : r < w.heap.size
  nw : ¬ wrB h ρ r
  np : ∀ k, π k ≠ some r
  obj : w.heap[r]? = some (.deferred (some []))
theorem MarkOk.mono {N0 : Nat} {ρ ρ' : Rho} {π π' : Pi} {h h' : AH} {w w' : World} (st : Stp ρ π h w ρ' π' h' w') {r : Nat} (hm : MarkOk N0 ρ π h w r) : MarkOk N0 ρ' π' h' w' r where
  ge := hm.ge
  lt := Nat.lt_of_lt_of_le hm.lt st.size
  nw := fun hw => by
    rcases st.grow r hw with h1 | h1
    · exact hm.nw h1
    · have := hm.lt; omega
  np := fun k hk => by
    rcases st.growp k r hk with h1 | ⟨k', h1⟩ | h1
    · exact hm.np k h1
    · exact hm.np k' h1
    · have := hm.lt; omega
  obj := by rw [st.keep r hm.lt hm.nw hm.np]; exact hm.obj
inductive DL (P : Program) (N0 : Nat) (ρ : Rho) (π : Pi) (h : AH) (w : World) : List ADef → List Deferred → Prop where
  | nil : DL P N0 ρ π h w [] []
  | cons (f : FuncId) (D : DSpec) (args : List Value) (d : Deferred) (xs : List ADef) (ds : List Deferred) (hd : DOk P ρ f D args d) (hs : DL P N0 ρ π h w xs ds) : DL P N0 ρ π h w (.call f D args :: xs) (d :: ds)
  | mark (r : Nat) (a : Array Value) (xs : List ADef) (ds : List Deferred) (hm : MarkOk N0 ρ π h w r) (hlt : ∀ d ∈ ds, ∀ r', d.target = .collected r' → r' < r) (hs : DL P N0 ρ π h w xs ds) : DL P N0 ρ π h w (.mark :: xs) ({ target := .collected r, args := a } :: ds)
theorem DOk.mono {P : Program} {ρ ρ' : Rho} (hx : Ext ρ ρ') {f : FuncId} {D : DSpec} {args : List Value} {d : Deferred} : DOk P ρ f D args d → DOk P ρ' f D args d :=
  fun ⟨fv, cap, cargs, h1, h2, h3, h4⟩ => ⟨fv, cap, cargs, h1, h2, h3.mono hx, h4⟩
theorem DL.mono {P : Program} {N0 : Nat} {ρ ρ' : Rho} {π π' : Pi} {h h' : AH} {w w' : World} (st : Stp ρ π h w ρ' π' h' w') {xs : List ADef} {ds : List Deferred} (hd : DL P N0 ρ π h w xs ds) : DL P N0 ρ' π' h' w' xs ds := by
  induction hd with
  | nil => exact .nil
  | cons f D args d xs ds h _ ih => exact .cons _ _ _ _ _ _ (h.mono st.ext) ih
  | mark r a xs ds hm hlt _ ih => exact .mark _ _ _ _ (hm.mono st) hlt ih
theorem DL.marks {P : Program} {N0 : Nat} {ρ : Rho} {π : Pi} {h : AH} {w : World} {xs : List ADef} {ds : List Deferred} (hd : DL P N0 ρ π h w xs ds) : ∀ d ∈ ds, ∀ r, d.target = .collected r → r < w.heap.size := by
  induction hd with
  | nil => intro d hd; simp at hd
  | cons f D args d xs ds h _ ih =>
    intro d' hd' r e
    rcases List.mem_cons.1 hd' with rfl | hd'
    · obtain ⟨fv, cap, cargs, h1, _⟩ := h; rw [h1] at e; cases e
    · exact ih d' hd' r e
  | mark r a xs ds hm hlt _ ih =>
    intro d' hd' r' e
    rcases List.mem_cons.1 hd' with rfl | hd'
    · cases e; exact hm.lt
    · exact ih d' hd' r' e

structure SR (P : Program) (n N0 : Nat) (ρ : Rho) (π : Pi) (s : St) (a : Act) (w : World) : Prop where
  r : R ρ s.h w
  p : RP ρ π s.h s.pb w
  t : FT ρ π s.pb s.t a.tmps
  sz : n ≤ a.tmps.size
  d : DL P N0 ρ π s.h w s.df a.defers
  n0 : N0 ≤ w.heap.size
  pl : ∀ k b, π k = some b → b < w.heap.size

theorem Stp.pl {ρ ρ' : Rho} {π π' : Pi} {h h' : AH} {w w' : World} (st : Stp ρ π h w ρ' π' h' w') (hp : ∀ k b, π k = some b → b < w.heap.size) : ∀ k b, π' k = some b → b < w'.heap.size := fun k b hb => by
  rcases st.growp k b hb with h1 | ⟨k', h1⟩ | h1
  · exact Nat.lt_of_lt_of_le (hp k b h1) st.size
  · exact Nat.lt_of_lt_of_le (hp k' b h1) st.size
  · exact h1.2
theorem put_size (a : Act) (dst : Option Tmp) (v : Value) : (a.put dst v).tmps.size = a.tmps.size := by
  cases dst <;> simp [Act.put]
theorem put_defers (a : Act) (dst : Option Tmp) (v : Value) : (a.put dst v).defers = a.defers := by
  cases dst <;> rfl

theorem FT.put {ρ : Rho} {π : Pi} {pb : PB} {t : T Value} {a : Act} (h : FT ρ π pb t a.tmps) {dst : Option Nat} (hd : ∀ d, dst = some d → d < a.tmps.size) {v : Option Value} {c : Value}
    (hv : ∀ u, v = some u → FV ρ π pb u c) : FT ρ π pb (putT t dst v) (a.put dst c).tmps := by
  cases dst with
  | none => exact h
  | some d =>
    intro k u hk
    simp only [putT, T.get_set] at hk
    by_cases e : k = d
    · subst e
      simp only [if_true] at hk
      exact ⟨c, by simp [Act.put, hd k rfl], hv u hk⟩
    · simp only [e, if_false] at hk
      obtain ⟨x, h1, h2⟩ := h k u hk
      exact ⟨x, by simp only [Act.put]; rw [Array.getElem?_setIfInBounds_ne (fun e2 => e e2.symm)]; exact h1, h2⟩

theorem FT.env {ρ : Rho} {π : Pi} {pb : PB} {t : T Value} {a : Act} (h : FT ρ π pb t a.tmps) : Env ρ π pb (opdT t) a.eval := by
  intro x y hx v hv
  cases x with
  | tmp k =>
    simp only [elabOpd, Option.some.injEq] at hx; subst hx
    obtain ⟨c, h1, h2⟩ := h k v hv
    simp only [Act.eval, Array.getD_eq_getD_getElem?, h1, Option.getD_some]; exact h2
  | const c =>
    simp only [elabOpd] at hx
    cases hs : scal c
    · simp [hs] at hx
    · simp only [hs, cond_true, Option.some.injEq] at hx; subst hx
      simp only [opdT, Option.some.injEq] at hv; subst hv
      exact .v _ _ (V.of_scal ρ c hs)
  | func f =>
    simp only [elabOpd, Option.some.injEq] at hx; subst hx
    simp only [opdT, Option.some.injEq] at hv; subst hv
    exact .v _ _ (.func _ _ _ _ _ .nil .nil)
  | global g => simp [elabOpd] at hx

theorem SR.put {P : Program} {n N0 : Nat} {ρ ρ' : Rho} {π π' : Pi} {s : St} {a : Act} {w w' : World} (hS : SR P n N0 ρ π s a w) {dst : Option Nat} (hd : ∀ d, dst = some d → d < n)
    {v : Option Value} {c : Value} {pb' : PB} {h' : AH} (hR : R ρ' h' w') (hP : RP ρ' π' h' pb' w') (st : Stp ρ π s.h w ρ' π' h' w') (hp : PiOk s.pb π pb' π')
    (hv : ∀ u, v = some u → FV ρ' π' pb' u c) : SR P n N0 ρ' π' ⟨putT s.t dst v, pb', s.df, h'⟩ (a.put dst c) w' where
  r := hR
  p := hP
  t := (hS.t.mono st.ext hp).put (fun d e => Nat.lt_of_lt_of_le (hd d e) hS.sz) hv
  sz := by rw [put_size]; exact hS.sz
  d := by rw [put_defers]; exact hS.d.mono st
  n0 := Nat.le_trans hS.n0 st.size
  pl := st.pl hS.pl

section
variable {P : Program} {ρ : Rho} {π : Pi} {pb : PB} {h : AH} {w : World} {H : Hints} {op : AOp} {xs : List Operand} {as : List (Option Value)} {ρe : Operand → Value} {r : OR}

theorem op_pl (hR : R ρ h w) (hP : RP ρ π h pb w) {o : Oper} (he : elabOp P H o = some (op, xs)) (hl : OL ρ π pb as (xs.map ρe)) (hev : evM P op as pb h = some r)
    (hc : ∀ c, o.op = .call c → ∃ b, c.callee = .builtin b) (hd : ∀ c, o.op ≠ .defer c) : Pl ρ π pb h w r ((execOp ρe o).run P w) := by
  obtain ⟨dst, oop, ty, pos, after, guard⟩ := o
  cases oop with
  | move x => exact p_move hR hP he hl hev
  | assign x => exact p_assign hR hP he hl hev
  | pick x y z => exact p_pick hR hP he hl hev
  | alloc e => exact p_alloc hR hP he hl hev
  | box e x => exact p_box hR hP he hl hev
  | build t ps => exact p_build hR hP he hl hev
  | buildSlice t n ps => exact p_buildSlice hR hP he hl hev
  | load t x => exact p_load hR hP he hl hev
  | store t x y => exact p_store hR hP he hl hev
  | nilCheck x => exact p_nilCheck hR hP he hl hev
  | binOp b t x y yt => exact p_binOp hR hP he hl hev
  | unOp b t x => exact p_unOp hR hP he hl hev
  | convert s d x => exact p_convert hR hP he hl hev
  | makeInterface t x => exact p_makeInterface hR hP he hl hev
  | makeFunc f a b => exact p_makeFunc hR hP he hl hev
  | makeMap t x => exact p_makeMap hR hP he hl hev
  | makeSlice t x y => exact p_makeSlice hR hP he hl hev
  | slice t x lo hi mx => exact p_slice hR hP he hl hev
  | fieldAddr s x f => exact p_fieldAddr hR hP he hl hev
  | field s x f => exact p_field hR hP he hl hev
  | indexAddr t x y => exact p_indexAddr hR hP he hl hev
  | index t x y => exact p_index hR hP he hl hev
  | lookup t x y ok => exact p_lookup hR hP he hl hev
  | mapUpdate t x y z => exact p_mapUpdate hR hP he hl hev
  | typeAssert x xt t ok => exact p_typeAssert hR hP he hl hev
  | extract x i => exact p_extract hR hP he hl hev
  | panic x => exact p_panic hR hP he hl hev
  | call c =>
    obtain ⟨b, hb⟩ := hc c rfl
    have he' : (elabBuiltin P b c.argTypes.toList).map (fun a => (a, c.args.toList)) = some (op, xs) := by
      cases b <;> simp only [elabOp, hb] at he <;> first | exact he | (simp at he)
    rw [Option.map_eq_some_iff] at he'
    obtain ⟨a, h1, h2⟩ := he'
    simp only [Prod.mk.injEq] at h2
    obtain ⟨rfl, rfl⟩ := h2
    exact p_builtin hR hP hb h1 hl hev
  | defer c => exact absurd rfl (hd c)
  | _ => simp [elabOp] at he

theorem run_callFunc {f : FuncId} (hc : callable P f = true) (args : Array Value) (w : World) : (callFunc f args).run P w = .ok (.enter f args) w := by
  simp only [callable] at hc
  split at hc
  · rename_i fn hf
    simp only [Bool.and_eq_true, Bool.not_eq_true'] at hc
    have hb : fn.body.isNone = false := by cases hx : fn.body <;> simp_all
    have hb' : ¬ fn.body = none := by cases hx : fn.body <;> simp_all
    have hn : ¬ fn.name = "runtime.NumGoroutine" := by simpa using hc.2
    simp [callFunc, hf, hn, hb']
  · simp at hc

/-- a call, from the words of the spec -/
theorem upon_call {n N0 : Nat} {s : St} {a : Act} {o : Oper} (hS : SR P n N0 ρ π s a w) (hn : ∀ d, o.dst = some d → d < n) {f : FuncId} {S : Spec} (hG : Good P f S) {vs : List Value} {cargs : Array Value}
    (hv : VL ρ vs cargs.toList) (hev : ofRes s.pb (S vs s.h) = some r) {next : Act → World → Prop} {Q : Exit → Act → World → Prop}
    (hok : ∀ v pb' h', r = .ok v pb' h' → ∀ ρ' π' a' w', SR P n N0 ρ' π' ⟨putT s.t o.dst v, pb', s.df, h'⟩ a' w' → Stp ρ π s.h w ρ' π' h' w' → PiOk s.pb π pb' π' → next a' w')
    (hpan : ∀ v h', r = .pan v h' → ∀ ρ' cv w', SR P n N0 ρ' π ⟨s.t, s.pb, s.df, h'⟩ a w' → Stp ρ π s.h w ρ' π h' w' → V ρ' v cv → Q (.panic [{ v := cv, recovered := false }]) a w') :
    o.upon P a next Q (.ok (.enter f cargs) w) := by
  rw [Oper.upon_enter]
  cases hs : S vs s.h with
  | none => simp [hs, ofRes] at hev
  | some rh =>
    obtain ⟨rr, h'⟩ := rh
    refine (hG vs s.h rr h' hs ρ w cargs hS.r hv).mono ?_
    rintro e w' ⟨ρ', hR', st, hE⟩
    have hP' := hS.p.step hS.r hR' st π0_none
    have st' := st.lift π0_none π
    cases rr with
    | ret v =>
      cases e with
      | returned c =>
        simp only [hs, ofRes, Option.some.injEq] at hev
        exact hok _ _ _ hev.symm _ _ _ _ (hS.put hn hR' hP' st' (PiOk.refl _ _) (fun u hu => by cases hu; exact .v _ _ hE)) st' (PiOk.refl _ _)
      | panicked ch => exact hE.elim
      | outgrown => exact hE.elim
    | pan v =>
      cases e with
      | returned c => exact hE.elim
      | outgrown => exact hE.elim
      | panicked ch =>
        obtain ⟨c, rfl, hc⟩ := hE
        simp only [hs, ofRes, Option.some.injEq] at hev
        exact hpan _ _ hev.symm ρ' c w' ⟨hR', hP', hS.t.mono st.ext (PiOk.refl _ _), hS.sz, hS.d.mono st', Nat.le_trans hS.n0 st'.size, st'.pl hS.pl⟩ st' hc
end

theorem GoodP.good {P : Program} {f : FuncId} {S : PSpec} (hG : GoodP P f S) : Good P f (fun vs h => (S vs).map fun r => (r, h)) := by
  intro args h r h' hs ρ w cargs hR hv
  simp only [Option.map_eq_some_iff, Prod.mk.injEq] at hs
  obtain ⟨r', h1, rfl, rfl⟩ := hs
  exact (hG args r' h1 ρ h w cargs hR hv).mono fun e w' ⟨h1, h2, h3⟩ => ⟨ρ, h1, h2, h3⟩

theorem findF_mem {f : FuncId} : ∀ {cs : List (FuncId × Spec)} {S : Spec}, findF f cs = some S → (f, S) ∈ cs
  | [], S, h => by simp [findF] at h
  | (g, S') :: r, S, h => by
    simp only [findF] at h
    cases hb : Nat.beq f g
    · simp only [hb, cond_false] at h; exact List.mem_cons_of_mem _ (findF_mem h)
    · simp only [hb, cond_true, Option.some.injEq] at h; subst h
      rw [Nat.eq_of_beq_eq_true hb]; exact List.mem_cons_self ..
theorem findD_mem {f : FuncId} : ∀ {cs : List (FuncId × DSpec)} {S : DSpec}, findD f cs = some S → (f, S) ∈ cs
  | [], S, h => by simp [findD] at h
  | (g, S') :: r, S, h => by
    simp only [findD] at h
    cases hb : Nat.beq f g
    · simp only [hb, cond_false] at h; exact List.mem_cons_of_mem _ (findD_mem h)
    · simp only [hb, cond_true, Option.some.injEq] at h; subst h
      rw [Nat.eq_of_beq_eq_true hb]; exact List.mem_cons_self ..

theorem toList_map (f : Operand → Value) (xs : Array Operand) : (xs.map f).toList = xs.toList.map f := by simp

section
variable {P : Program} {ρ : Rho} {π : Pi} {w : World} {H : Hints} {n N0 : Nat} {s : St} {a : Act} {r : OR} {o : Oper} {op : AOp} {xs : List Operand} {ys : List Opd}

/-- one operation that is wanted -/
theorem op_upon (hH : HOk P H) (he : elabOp P H o = some (op, xs)) (hy : elabOpds xs = some ys) (hn : ∀ d, o.dst = some d → d < n) (hS : SR P n N0 ρ π s a w)
    (hev : evM P op (ys.map (opdT s.t)) s.pb s.h = some r) {next : Act → World → Prop} {Q : Exit → Act → World → Prop}
    (hok : ∀ v pb' h', r = .ok v pb' h' → ∀ ρ' π' a' w', SR P n N0 ρ' π' ⟨putT s.t o.dst v, pb', s.df, h'⟩ a' w' → Stp ρ π s.h w ρ' π' h' w' → PiOk s.pb π pb' π' → next a' w')
    (hpan : ∀ v h', r = .pan v h' → ∀ ρ' cv w', SR P n N0 ρ' π ⟨s.t, s.pb, s.df, h'⟩ a w' → Stp ρ π s.h w ρ' π h' w' → V ρ' v cv → Q (.panic [{ v := cv, recovered := false }]) a w')
    (hdfr : ∀ d, r = .dfr d → ∀ a', SR P n N0 ρ π ⟨putT s.t o.dst none, s.pb, d :: s.df, s.h⟩ a' w → next a' w) :
    o.wp P a w next Q := by
  have hE := hS.t.env
  have hl := hE.list hy
  unfold Oper.wp
  by_cases hcc : (∀ c, o.op = .call c → ∃ b, c.callee = .builtin b) ∧ (∀ c, o.op ≠ .defer c)
  · rcases op_pl hS.r hS.p he hl hev hcc.1 hcc.2 with ⟨v, pb', h', h1, nx, cv, w', ρ', π', h2, h3, h4, h5, h6, h7, h8⟩ | ⟨v, cv, h1, h2, h3⟩
    · rw [h2]
      have hS' := hS.put (c := cv) hn h4 h5 h6 h7 h8
      rcases h3 with h3 | ⟨h3, h9⟩
      · subst h3; exact hok _ _ _ h1 _ _ _ _ hS' h6 h7
      · subst h3; subst h9; exact hok _ _ _ h1 _ _ _ _ hS' h6 h7
    · rw [h2]
      exact hpan _ _ h1 ρ cv w ⟨hS.r, hS.p, hS.t, hS.sz, hS.d, hS.n0, hS.pl⟩ (Stp.refl _ _ _ _) h3
  · obtain ⟨dst, oop, ty, pos, after, guard⟩ := o
    cases oop with
    | call c =>
      obtain ⟨callee, args, argTypes⟩ := c
      cases callee with
      | builtin b => exact absurd ⟨fun c hc => by cases hc; exact ⟨b, rfl⟩, fun c hc => by cases hc⟩ hcc
      | invoke x m => simp [elabOp] at he
      | value x =>
        cases x with
        | const v => simp [elabOp] at he
        | global g => simp [elabOp] at he
        | func f =>
          simp only [elabOp] at he
          cases hcl : callable P f
          · simp [hcl] at he
          · simp only [hcl, cond_true] at he
            have hrun : (execOp a.eval ⟨dst, .call ⟨.value (.func f), args, argTypes⟩, ty, pos, after, guard⟩).run P w = .ok (.enter f (args.map a.eval)) w := by
              simp [execOp, resolve, Deferred.ofValue, Act.eval, invoke, run_callFunc hcl]
            rw [hrun]
            have hHf := hH.calls f
            cases hcf : H.calls f with
            | spec S =>
              rw [hcf] at hHf
              simp only [hcf, Option.some.injEq, Prod.mk.injEq] at he
              obtain ⟨rfl, rfl⟩ := he
              simp only [evM, k_call] at hev
              cases hs : allSome (ys.map (opdT s.t)) with
              | none => simp [hs] at hev
              | some vs =>
                simp only [hs] at hev
                cases hnl : noLocs vs
                · simp [hnl] at hev
                · simp only [hnl, cond_true] at hev
                  have hv := (hl.all hs).noLocs hnl
                  rw [← toList_map] at hv
                  exact upon_call hS hn hHf hv hev hok hpan
            | pure S =>
              rw [hcf] at hHf
              simp only [hcf, Option.some.injEq, Prod.mk.injEq] at he
              obtain ⟨rfl, rfl⟩ := he
              simp only [evM, k_pcall] at hev
              cases hs : allSome (ys.map (opdT s.t)) with
              | none => simp [hs] at hev
              | some vs =>
                simp only [hs] at hev
                cases hnl : scalL vs
                · simp [hnl] at hev
                · simp only [hnl, cond_true] at hev
                  have hnl' : noLocs vs = true := by
                    have : ∀ (l : List Value), scalL l = true → noLocs l = true := by
                      intro l
                      induction l with
                      | nil => intro _; rfl
                      | cons v l ih =>
                        intro hh
                        simp only [scalL, Bool.and_eq_true] at hh
                        simp only [noLocs, (V.of_scal (fun _ => none) v hh.1).noLoc, ih hh.2]; rfl
                    exact this vs hnl
                  have hv := (hl.all hs).noLocs hnl'
                  rw [← toList_map] at hv
                  refine upon_call hS hn hHf.good hv ?_ hok hpan
                  cases hq : S vs with
                  | none => simp [hq] at hev
                  | some q => simp only [hq] at hev; simp only [Option.map_some]; exact hev
            | dspec D => simp [hcf] at he
            | bad => simp [hcf] at he
        | tmp t =>
          simp only [elabOp] at he
          cases hcl : H.clos.all (fun x => callable P x.1)
          · simp [hcl] at he
          · simp only [hcl, cond_true, Option.some.injEq, Prod.mk.injEq] at he
            obtain ⟨rfl, rfl⟩ := he
            cases hl' : ys with
            | nil => subst hl'; simp [evM, k_callv] at hev
            | cons y ys' =>
              subst hl'
              simp only [List.map_cons] at hl hev
              cases hl with
              | cons _ _ _ _ hx hs' =>
                simp only [evM, k_callv] at hev
                split at hev
                · rename_i f first cap xs' heq
                  simp only [List.cons.injEq] at heq
                  obtain ⟨heq, rfl⟩ := heq
                  have hf := (hx _ heq).of_noLoc rfl
                  cases hs : allSome (ys'.map (opdT s.t)) with
                  | none => simp [hs] at hev
                  | some vs =>
                    simp only [hs] at hev
                    cases hnl : noLocs vs
                    · simp [hnl] at hev
                    · simp only [hnl, cond_true] at hev
                      cases hfd : findF f H.clos with
                      | none => simp [hfd] at hev
                      | some S =>
                        simp only [hfd] at hev
                        have hmem := findF_mem hfd
                        have hG := hH.clos _ hmem
                        have hcf := (List.all_eq_true.1 hcl) _ hmem
                        have hv := (hs'.all hs).noLocs hnl
                        generalize hge : a.eval (.tmp t) = ce at hf
                        cases hf with
                        | func _ _ _ fs' cs' g1 g2 =>
                          have hrun : (execOp a.eval ⟨dst, .call ⟨.value (.tmp t), args, argTypes⟩, ty, pos, after, guard⟩).run P w = .ok (.enter f (⟨fs'⟩ ++ args.map a.eval ++ ⟨cs'⟩)) w := by
                            simp [execOp, resolve, hge, Deferred.ofValue, invoke, run_callFunc hcf]
                          rw [hrun]
                          refine upon_call hS hn hG ?_ hev hok hpan
                          have := (g1.append hv).append g2
                          simpa using this
                · simp at hev
    | defer c =>
      obtain ⟨callee, args, argTypes⟩ := c
      cases callee with
      | builtin b => simp [elabOp] at he
      | invoke x m => simp [elabOp] at he
      | value x =>
        cases x with
        | const v => simp [elabOp] at he
        | global g => simp [elabOp] at he
        | func f =>
          simp only [elabOp] at he
          have hHf := hH.calls f
          cases hcf : H.calls f with
          | spec S => simp [hcf] at he
          | pure S => simp [hcf] at he
          | bad => simp [hcf] at he
          | dspec D =>
            rw [hcf] at hHf
            simp only [hcf, Option.some.injEq, Prod.mk.injEq] at he
            obtain ⟨rfl, rfl⟩ := he
            have hrun : (execOp a.eval ⟨dst, .defer ⟨.value (.func f), args, argTypes⟩, ty, pos, after, guard⟩).run P w = .ok (.defer ⟨.fn (.func f) #[], args.map a.eval⟩) w := by
              simp [execOp, resolve, Deferred.ofValue, Act.eval]
            rw [hrun, Oper.upon_defer]
            simp only [evM, k_defer] at hev
            cases hs : allSome (ys.map (opdT s.t)) with
            | none => simp [hs] at hev
            | some vs =>
              simp only [hs] at hev
              cases hnl : noLocs vs
              · simp [hnl] at hev
              · simp only [hnl, cond_true, Option.some.injEq] at hev
                have hv := (hl.all hs).noLocs hnl
                rw [← toList_map] at hv
                have hS' := hS.put (v := none) (c := undef) hn hS.r hS.p (Stp.refl _ _ _ _) (PiOk.refl _ _) (fun u hu => by cases hu)
                refine hdfr _ hev.symm _ ⟨hS'.r, hS'.p, ?_, ?_, ?_, hS'.n0, hS'.pl⟩
                · cases dst <;> exact hS'.t
                · cases dst <;> exact hS'.sz
                · have hd := hS.d
                  have hdo : DOk P ρ f D vs ⟨.fn (.func f) #[], args.map a.eval⟩ := ⟨.func f, #[], args.map a.eval, rfl, fun w => by simp [invoke, run_callFunc hHf.1], hv, hHf⟩
                  cases dst <;> exact .cons _ _ _ _ _ _ hdo hd
        | tmp t =>
          simp only [elabOp, Option.some.injEq, Prod.mk.injEq] at he
          obtain ⟨rfl, rfl⟩ := he
          cases hl' : ys with
          | nil => subst hl'; simp [evM, k_deferv] at hev
          | cons y ys' =>
            subst hl'
            simp only [List.map_cons] at hl hev
            cases hl with
            | cons _ _ _ _ hx hs' =>
              simp only [evM, k_deferv] at hev
              split at hev
              · rename_i f first cap xs' heq
                simp only [List.cons.injEq] at heq
                obtain ⟨heq, rfl⟩ := heq
                have hf := (hx _ heq).of_noLoc rfl
                cases hs : allSome (ys'.map (opdT s.t)) with
                | none => simp [hs] at hev
                | some vs =>
                  simp only [hs] at hev
                  cases hnl : noLocs vs
                  · simp [hnl] at hev
                  · simp only [hnl, cond_true] at hev
                    cases hfd : findD f H.dclos with
                    | none => simp [hfd] at hev
                    | some D =>
                      simp only [hfd, Option.some.injEq] at hev
                      have hmem := findD_mem hfd
                      have hG := hH.dclos _ hmem
                      have hv := (hs'.all hs).noLocs hnl
                      generalize hge : a.eval (.tmp t) = ce at hf
                      cases hf with
                      | func _ _ _ fs' cs' g1 g2 =>
                        have hrun : (execOp a.eval ⟨dst, .defer ⟨.value (.tmp t), args, argTypes⟩, ty, pos, after, guard⟩).run P w = .ok (.defer ⟨.fn (.func f) ⟨cs'⟩, ⟨fs'⟩ ++ args.map a.eval⟩) w := by
                          simp [execOp, resolve, hge, Deferred.ofValue]
                        rw [hrun, Oper.upon_defer]
                        have hS' := hS.put (v := none) (c := undef) hn hS.r hS.p (Stp.refl _ _ _ _) (PiOk.refl _ _) (fun u hu => by cases hu)
                        refine hdfr _ hev.symm _ ⟨hS'.r, hS'.p, ?_, ?_, ?_, hS'.n0, hS'.pl⟩
                        · cases dst <;> exact hS'.t
                        · cases dst <;> exact hS'.sz
                        · have hd := hS.d
                          have hdo : DOk P ρ f D (first ++ vs ++ cap) ⟨.fn (.func f) ⟨cs'⟩, ⟨fs'⟩ ++ args.map a.eval⟩ :=
                            ⟨.func f, ⟨cs'⟩, ⟨fs'⟩ ++ args.map a.eval ++ ⟨cs'⟩, rfl, fun w => by simp [invoke, run_callFunc hG.1], by have := (g1.append hv).append g2; simpa using this, hG⟩
                          cases dst <;> exact .cons _ _ _ _ _ _ hdo hd
              · simp at hev
    | _ => exact (hcc (And.intro (fun c hc => Op.noConfusion hc) (fun c hc => Op.noConfusion hc))).elim

/-- one operation of a region, its guard heeded -/
theorem op_wp {ops : Array Oper} {ao : AOper} (hH : HOk P H) (he : elabOper P H ops o = some ao) (hn : ∀ d, ao.dst = some d → d < n) (hS : SR P n N0 ρ π s a w)
    (hst : stepOp P ao s.t s.pb s.h = some r) {next : Act → World → Prop} {Q : Exit → Act → World → Prop}
    (hok : ∀ v pb' h', r = .ok v pb' h' → ∀ ρ' π' a' w', SR P n N0 ρ' π' ⟨putT s.t ao.dst v, pb', s.df, h'⟩ a' w' → Stp ρ π s.h w ρ' π' h' w' → PiOk s.pb π pb' π' → next a' w')
    (hpan : ∀ v h', r = .pan v h' → ∀ ρ' cv w', SR P n N0 ρ' π ⟨s.t, s.pb, s.df, h'⟩ a w' → Stp ρ π s.h w ρ' π h' w' → V ρ' v cv → Q (.panic [{ v := cv, recovered := false }]) a w')
    (hdfr : ∀ d, r = .dfr d → ∀ a', SR P n N0 ρ π ⟨putT s.t ao.dst none, s.pb, d :: s.df, s.h⟩ a' w → next a' w) :
    if Region.wanted o (yielded ops a.tmps) then o.wp P a w next Q else next (a.put o.dst undef) w := by
  simp only [elabOper] at he
  cases h1 : elabOp P H o with
  | none => simp [h1] at he
  | some ox =>
    obtain ⟨op, xs⟩ := ox
    simp only [h1] at he
    cases h2 : elabOpds xs with
    | none => simp [h2] at he
    | some ys =>
      simp only [h2] at he
      cases hg : o.guard with
      | none =>
        simp only [hg, Option.some.injEq] at he
        subst he
        simp only [stepOp, evMf_eq] at hst
        simp only [Region.wanted, hg, if_true]
        exact op_upon hH h1 h2 hn hS hst hok hpan hdfr
      | some gw =>
        obtain ⟨j, want⟩ := gw
        simp only [hg] at he
        cases hj : ops[j]? with
        | none => simp [hj] at he
        | some oj =>
          simp only [hj] at he
          cases hd : oj.dst with
          | none => simp [hd] at he
          | some d =>
            simp only [hd, Option.some.injEq] at he
            subst he
            have hun : r = .ok (some undef) s.pb s.h → next (a.put o.dst undef) w := fun hr =>
              hok _ _ _ hr _ _ _ _ (hS.put hn hS.r hS.p (Stp.refl _ _ _ _) (PiOk.refl _ _) (fun u hu => by cases hu; exact .v _ _ (.tup _ _ .nil))) (Stp.refl _ _ _ _) (PiOk.refl _ _)
            simp only [stepOp, evMf_eq] at hst
            cases hq : s.t.get d with
            | none => simp [hq] at hst
            | some v =>
              obtain ⟨c, c1, c2⟩ := hS.t d v hq
              simp only [hq] at hst
              split at hst
              · rename_i b hb
                cases hb
                have := c2.bool; subst this
                have hy : yielded ops a.tmps j = some b := by simp [yielded, hj, hd, c1]
                simp only [Region.wanted, hg, hy]
                by_cases e : b = want
                · subst e
                  simp only [beq_self_eq_true, cond_true] at hst
                  simp only [beq_self_eq_true, if_true]
                  exact op_upon hH h1 h2 hn hS hst hok hpan hdfr
                · have e1 : (b == want) = false := by simp [e]
                  have e2 : (some b == some want) = false := by simp [e]
                  simp only [e1, cond_false, Option.some.injEq] at hst
                  simp only [e2, Bool.false_eq_true, if_false]
                  exact hun hst.symm
              · rename_i hb
                cases hb
                obtain ⟨ys', hy1, hy2⟩ := c2.tupInv
                cases hy2
                subst hy1
                have hy : yielded ops a.tmps j = none := by simp [yielded, hj, hd, c1]
                simp only [Option.some.injEq] at hst
                have e2 : (none == some want) = false := rfl
                simp only [Region.wanted, hg, hy, e2, Bool.false_eq_true, if_false]
                exact hun hst.symm
              · simp at hst
end
end Cw
