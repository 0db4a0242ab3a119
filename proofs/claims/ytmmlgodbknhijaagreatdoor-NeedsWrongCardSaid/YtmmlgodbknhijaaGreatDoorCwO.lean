/-
  Operation by operation: where the evaluator says what it does, the model does the same, as far as the relation goes.
-/
import Derived.Test.YtmmlgodbknhijaaGreatDoorCwI
namespace Cw
open Go

theorem stp_priv_new (ρ : Rho) (π : Pi) (h : AH) (w : World) (k : Nat) (o : Obj) : Stp ρ π h w ρ (fun j => if j = k then some w.heap.size else π j) h (w.alloc o) where
  ext := Ext.refl ρ
  nx := Nat.le_refl _
  keep := fun b hb _ _ => heap_push_lt w o b hb
  grow := fun _ hw => .inl hw
  growp := fun j b hj => by
    by_cases e : j = k
    · simp only [e, if_true, Option.some.injEq] at hj; exact .inr (.inr ⟨Nat.le_of_eq hj, by rw [← hj]; simp⟩)
    · simp only [e, if_false] at hj; exact .inl hj
  ro := fun _ _ ho _ => ho
  size := by simp
  os := rfl
  tape := rfl
  output := rfl
theorem stp_priv_put (ρ : Rho) (π : Pi) (h : AH) {w w' : World} {k b : Nat} (hb : π k = some b) (hs : SameBut w w' b) : Stp ρ π h w ρ π h w' where
  ext := Ext.refl ρ
  nx := Nat.le_refl _
  keep := fun x _ _ hp => hs.heap x (fun e => hp k (by rw [hb, e]))
  grow := fun _ hw => .inl hw
  growp := fun _ _ hj => .inl hj
  ro := fun _ _ ho _ => ho
  size := Nat.le_of_eq hs.size.symm
  os := hs.os
  tape := hs.tape
  output := hs.output

inductive OL (ρ : Rho) (π : Pi) (pb : PB) : List (Option Value) → List Value → Prop where
  | nil : OL ρ π pb [] []
  | cons (x : Option Value) (c : Value) (xs : List (Option Value)) (cs : List Value) (h : ∀ v, x = some v → FV ρ π pb v c) (hs : OL ρ π pb xs cs) : OL ρ π pb (x :: xs) (c :: cs)

theorem VL.setRange' {ρ : Rho} {a b : List Value} (h : VL ρ a b) {ns ns' : List Value} (hn : VL ρ ns ns') (o : Nat) : VL ρ (Cw.setRange a o ns) (Cw.setRange b o ns') := VL.setRange hn o h
def ValOk (ρ : Rho) (π : Pi) (pb : PB) (h : AH) (w : World) (x : Result Value) (v : Option Value) (pb' : PB) (h' : AH) : Prop :=
  ∃ cv w' ρ' π', x = .ok cv w' ∧ R ρ' h' w' ∧ RP ρ' π' h' pb' w' ∧ Stp ρ π h w ρ' π' h' w' ∧ PiOk pb π pb' π' ∧ ∀ u, v = some u → FV ρ' π' pb' u cv
def UnitOk (ρ : Rho) (π : Pi) (pb : PB) (h : AH) (w : World) (x : Result Unit) (pb' : PB) (h' : AH) : Prop :=
  ∃ w' ρ' π', x = .ok () w' ∧ R ρ' h' w' ∧ RP ρ' π' h' pb' w' ∧ Stp ρ π h w ρ' π' h' w' ∧ PiOk pb π pb' π'

section
variable {ρ : Rho} {π : Pi} {pb : PB} {h : AH} {w : World} {x : Result Value}

theorem ValOk.same (hR : R ρ h w) (hP : RP ρ π h pb w) {v : Option Value} (cv : Value) (hx : x = .ok cv w) (hv : ∀ u, v = some u → FV ρ π pb u cv) :
    ValOk ρ π pb h w x v pb h := ⟨cv, w, ρ, π, hx, hR, hP, Stp.refl _ _ _ _, PiOk.refl _ _, hv⟩
theorem ValOk.sameV (hR : R ρ h w) (hP : RP ρ π h pb w) {v : Value} (cv : Value) (hx : x = .ok cv w) (hv : V ρ v cv) :
    ValOk ρ π pb h w x (some v) pb h := ValOk.same hR hP cv hx (fun _ hu => by cases hu; exact .v _ _ hv)
theorem ValOk.alloc (hR : R ρ h w) (hP : RP ρ π h pb w) {v : Value} (cv : Value) (o : AObj) (ob : Obj) (s : Seg) (hb : s.b = w.heap.size) (hrw : o.rw = true)
    (hx : x = .ok cv (w.alloc ob))
    (hok : objOk (fun i => if i = h.nx then some s else ρ i) (w.alloc ob) s o) (hv : V (fun i => if i = h.nx then some s else ρ i) v cv) :
    ValOk ρ π pb h w x (some v) pb (Cw.alloc h o) := by
  have hR' := hR.alloc (w' := w.alloc ob) o s (fun k hk => heap_push_lt w ob k hk) (Nat.le_of_eq hb.symm) hok
  have st := stp_alloc (w' := w.alloc ob) hR o s (Nat.le_of_eq hb.symm) hrw (fun k hk => heap_push_lt w ob k hk) (by simp) rfl rfl rfl (fun _ => none)
  exact ⟨cv, _, _, π, hx, hR', hP.step hR hR' st (fun _ => rfl), st.lift (fun _ => rfl) π, PiOk.refl _ _, fun u hu => by cases hu; exact .v _ _ hv⟩
theorem ValOk.allocW (hR : R ρ h w) (hP : RP ρ π h pb w) {v : Value} (cv : Value) (o : AObj) (w' : World) (s : Seg) (hb : s.b = w.heap.size) (hrw : o.rw = true)
    (hx : x = .ok cv w') (hold : ∀ k, k < w.heap.size → w'.heap[k]? = w.heap[k]?) (hsz : w.heap.size ≤ w'.heap.size) (h1 : w'.os = w.os) (h2 : w'.tape = w.tape) (h3 : w'.output = w.output)
    (hok : objOk (fun i => if i = h.nx then some s else ρ i) w' s o) (hv : V (fun i => if i = h.nx then some s else ρ i) v cv) :
    ValOk ρ π pb h w x (some v) pb (Cw.alloc h o) := by
  have hR' := hR.alloc (w' := w') o s hold (Nat.le_of_eq hb.symm) hok
  have st := stp_alloc (w' := w') hR o s (Nat.le_of_eq hb.symm) hrw hold hsz h1 h2 h3 (fun _ => none)
  exact ⟨cv, _, _, π, hx, hR', hP.step hR hR' st (fun _ => rfl), st.lift (fun _ => rfl) π, PiOk.refl _ _, fun u hu => by cases hu; exact .v _ _ hv⟩
theorem ValOk.priv (hR : R ρ h w) (hP : RP ρ π h pb w) (k : Nat) (hk : pb.get k = none) (vs cs : List Value) (elem : TypeId) (hv : VL ρ vs cs) {v : Value} (cv : Value)
    (hx : x = .ok cv (w.alloc (.cells ⟨cs⟩ elem))) (hf : FV ρ (fun j => if j = k then some w.heap.size else π j) (pb.set k (some vs)) v cv) :
    ValOk ρ π pb h w x (some v) (pb.set k (some vs)) h := by
  have hR' : R ρ h (w.alloc (.cells ⟨cs⟩ elem)) := hR.same (fun i o s ho hs => by
    obtain ⟨t, ht, hok⟩ := hR.obj i o ho
    rw [hs] at ht; cases ht
    exact heap_push_lt _ _ _ hok.lt)
  exact ⟨cv, _, ρ, _, hx, hR', hP.new hR k hk cs vs elem hv, stp_priv_new ρ π h w k _, PiOk.new pb π k _ hk vs, fun u hu => by cases hu; exact hf⟩

/-- one more draw from the tape changes nothing that the relation sees -/
theorem R.drawn (hR : R ρ h w) (n : Nat) : R ρ h { w with drawn := n } := ⟨hR.dom, fun i o ho => by
  obtain ⟨s, hs, hk⟩ := hR.obj i o ho
  exact ⟨s, hs, hk.mono (Ext.refl ρ) rfl⟩, hR.inj⟩

theorem mkCells_ok {ρ' : Rho} {s : Seg} {w' : World} {vs cs : List Value} {elem : TypeId} {n esz : Nat} (hh : w'.heap[s.b]? = some (.cells ⟨cs⟩ elem (0, 0)))
    (hb : s.base = 0) (hr : s.room = cs.length) (he : s.esz = esz) (hn : n = vs.length) (hle : n ≤ cs.length) (hv : VL ρ' vs (cs.take n)) : objOk ρ' w' s (.cells false esz vs) :=
  ⟨cs, elem, (0, 0), hh, fun _ => ⟨fun o _ => by simp, fun _ o => by simp⟩, by omega, by omega, he, by rw [hb, List.drop_zero, ← hn]; exact hv⟩

theorem V.cells {v c : Value} (h : V ρ v c) : VL ρ (cellsL v) (cellsL c) := by
  cases h with
  | agg xs xs' hh => exact hh
  | _ => first | exact .cons _ _ _ _ (by assumption) .nil | (refine .cons _ _ _ _ ?_ .nil; constructor <;> assumption)

variable {P : Program}

theorem v_newVar_heap (hR : R ρ h w) (hP : RP ρ π h pb w) {v c : Value} (hv : V ρ v c) (e : TypeId) (hx : x = (do pure (Value.pointer (some (← newVar e c))) : Sem Value).run P w) :
    ValOk ρ π pb h w x (some (.pointer (some ⟨h.nx, 0, none⟩))) pb (Cw.alloc h (.cells false 0 (cellsL v))) := by
  have hcl := hv.cells
  have hlen := hcl.length
  refine ValOk.alloc hR hP (.pointer (some ⟨w.heap.size, 0, none⟩)) (.cells false 0 (cellsL v)) (.cells c.cells e) ⟨w.heap.size, 0, (cellsL c).length, 0⟩ rfl rfl ?_ ?_ ?_
  · rw [hx]; simp [newVar, newRow]
  · refine mkCells_ok (cs := cellsL c) (elem := e) (n := (cellsL v).length) ?_ rfl rfl rfl rfl (by omega) ?_
    · rw [Value.cells_eq]; exact heap_push_new w _
    · rw [hlen, List.take_length]; exact hcl.mono (ext_alloc hR _)
  · have := V.ptr (ρ := fun i => if i = h.nx then some (⟨w.heap.size, 0, (cellsL c).length, 0⟩ : Seg) else ρ i) h.nx 0 ⟨w.heap.size, 0, (cellsL c).length, 0⟩ (by simp)
    simpa using this
theorem v_newVar_priv (hR : R ρ h w) (hP : RP ρ π h pb w) {v c : Value} (hv : V ρ v c) (e : TypeId) (k : Nat) (hk : pb.get k = none)
    (hx : x = (do pure (Value.pointer (some (← newVar e c))) : Sem Value).run P w) :
    ValOk ρ π pb h w x (some (loc k 0)) (pb.set k (some (cellsL v))) h := by
  refine ValOk.priv hR hP k hk (cellsL v) (cellsL c) e hv.cells (.pointer (some ⟨w.heap.size, 0, none⟩)) ?_ (.ptr k 0 _ (by simp) (by simp [T.get_set]))
  rw [hx]; simp [newVar, newRow, Value.cells_eq]

theorem getRange_of {cs : List Value} {off n : Nat} (h : ((cs.drop off).take n).length = n) : getRange cs off n = some ((cs.drop off).take n) := by
  unfold getRange
  have : Nat.beq ((cs.drop off).take n).length n = true := by rw [h]; exact Nat.beq_refl n
  simp only [this, cond_true]
theorem VL.read {vs cs : List Value} (hv : VL ρ vs cs) {o : Nat} {sz : Option Nat} {v : Value} (hr : readCells vs o sz = some v) : ∃ c, readCells cs o sz = some c ∧ V ρ v c := by
  cases sz with
  | none => simp only [readCells] at hr ⊢; exact hv.get o v hr
  | some n =>
    simp only [readCells, Option.map_eq_some_iff] at hr ⊢
    obtain ⟨r, hr, rfl⟩ := hr
    obtain ⟨h1, h2⟩ := getRange_spec hr
    have hh := (hv.drop o).take n
    refine ⟨.agg ⟨(cs.drop o).take n⟩, ⟨_, ?_, rfl⟩, .agg _ _ (by rw [h1]; exact hh)⟩
    have := hh.length
    rw [← h1, h2] at this
    exact getRange_of this.symm
theorem read_sub {cs : List Value} {b n o : Nat} {sz : Option Nat} {c : Value} (h : readCells ((cs.drop b).take n) o sz = some c) : readCells cs (b + o) sz = some c := by
  cases sz with
  | none =>
    simp only [readCells, List.getElem?_take] at h ⊢
    split at h
    · rwa [List.getElem?_drop] at h
    · simp at h
  | some k =>
    simp only [readCells, Option.map_eq_some_iff] at h ⊢
    obtain ⟨r, hr, rfl⟩ := h
    obtain ⟨h1, h2⟩ := getRange_spec hr
    refine ⟨r, ?_, rfl⟩
    have h3 : (cs.drop (b + o)).take k = r := by
      rw [h1]
      apply List.ext_getElem?
      intro i
      rw [h1] at h2
      simp only [List.length_take, List.length_drop] at h2
      simp only [List.getElem?_take, List.getElem?_drop]
      by_cases hi : i < k
      · simp only [hi, if_true]
        by_cases h4 : o + i < n
        · simp [h4, Nat.add_assoc]
        · simp [h4]; omega
      · simp [hi]
    have := getRange_of (cs := cs) (off := b + o) (n := k) (by rw [h3]; exact h2)
    rw [h3] at this; exact this

/-- the block behind an address of the evaluator's -/
theorem block_at (hR : R ρ h w) (hP : RP ρ π h pb w) {a : Addr} {c : Value} (hv : FV ρ π pb (.pointer (some a)) c) {vs : List Value} (hc : cellsAt pb h a = some vs) :
    ∃ b o cs elem fr n, c = .pointer (some ⟨b, o + a.off, none⟩) ∧ w.heap[b]? = some (.cells ⟨cs⟩ elem fr) ∧ VL ρ vs ((cs.drop o).take n) := by
  cases hv with
  | v _ _ hv =>
    cases hv with
    | ptr i o s hs =>
      simp only [cellsAt] at hc
      cases hm : h.m.get i with
      | none => simp [hm] at hc
      | some ob =>
        cases ob with
        | map kvs => simp [hm] at hc
        | raw b cs t fr => simp [hm] at hc
        | cells ro esz us =>
          simp only [hm, Option.some.injEq] at hc; subst hc
          obtain ⟨t, ht, hok⟩ := hR.obj i _ hm
          rw [hs] at ht; cases ht
          obtain ⟨cs, elem, fr, h1, _, _, _, _, h6⟩ := hok
          exact ⟨s.b, s.base, cs, elem, fr, us.length, rfl, h1, h6⟩
  | ptr k o b hb hp =>
    simp only [cellsAt] at hc
    obtain ⟨b', cs, elem, fr, h1, h2, _, h4⟩ := hP.box k vs hc
    rw [hb] at h1; cases h1
    exact ⟨b, 0, cs, elem, fr, cs.length, by simp, h2, by simpa using h4⟩

theorem v_load (hR : R ρ h w) (hP : RP ρ π h pb w) {a : Addr} {c : Value} (hv : FV ρ π pb (.pointer (some a)) c) {vs : List Value} (hc : cellsAt pb h a = some vs)
    {t : TypeId} {sz : Option Nat} {v : Value} (hs : aggSz P t = some sz) (hr : readCells vs a.off sz = some v) : ValOk ρ π pb h w ((Instr.loadAt t c).run P w) (some v) pb h := by
  obtain ⟨b, o, cs, elem, fr, n, rfl, hb, hvl⟩ := block_at hR hP hv hc
  obtain ⟨cv, h1, h2⟩ := hvl.read hr
  have h3 := read_sub h1
  refine ValOk.sameV hR hP cv ?_ h2
  simp [Instr.loadAt, Instr.sureAddr, run_loadVar hs hb h3]

theorem allOne {vs cs : List Value} (h : VL ρ vs cs) (ha : vs.all oneCell = true) : cs.all oneCell = true :=
  match h with
  | .nil => rfl
  | .cons v c _ _ h hs => by
    simp only [List.all_cons, Bool.and_eq_true] at ha ⊢
    exact ⟨by cases h <;> first | rfl | (simp [oneCell] at ha), allOne hs ha.2⟩

theorem u_store_priv (hR : R ρ h w) (hP : RP ρ π h pb w) {k o : Nat} {s : Nat} {c : Value} (hv : FV ρ π pb (.pointer (some ⟨k, o, some s⟩)) c) {us : List Value} (hc : pb.get k = some us)
    {t : TypeId} {n : Nat} {v cv : Value} (hs : szOf P t = some n) (hvv : V ρ v cv) (hn : (cellsL v).length = n) (ha : (cellsL v).all oneCell = true) (hl : o + n ≤ us.length) :
    UnitOk ρ π pb h w ((Instr.storeAt t c cv).run P w) (pb.set k (some (setRange us o (cellsL v)))) h := by
  cases hv with
  | v _ _ hv => cases hv
  | ptr _ _ b hb hp =>
    obtain ⟨b', cs, elem, fr, h1, h2, h3, h4⟩ := hP.box k us hc
    rw [hb] at h1; cases h1
    have hcl := hvv.cells
    have hlen := hcl.length
    have hl4 := h4.length
    obtain ⟨w', r1, r2, r3⟩ := run_storeVar (P := P) (o := o) (v := cv) (n := n) hs h2 h3 (by omega) (allOne hcl ha) (by omega)
    have hR' : R ρ h w' := hR.same (fun i ob sg hi hsg => r2.heap _ (hP.apart k us b i ob sg hc hb hi hsg))
    refine ⟨w', ρ, π, ?_, hR', hP.put k hc hb r2 r3 (by rw [length_setRange]; exact h3) (h4.setRange' hcl o), stp_priv_put ρ π h hb r2, PiOk.put pb π k _⟩
    simp [Instr.storeAt, Instr.sureAddr, r1]

theorem u_store_heap (hR : R ρ h w) (hP : RP ρ π h pb w) {i o : Nat} {c : Value} (hv : FV ρ π pb (.pointer (some ⟨i, o, none⟩)) c) {us : List Value} {esz : Nat} (hc : h.m.get i = some (.cells false esz us))
    {t : TypeId} {n : Nat} {v cv : Value} (hs : szOf P t = some n) (hvv : V ρ v cv) (hn : (cellsL v).length = n) (ha : (cellsL v).all oneCell = true) (hl : o + n ≤ us.length) :
    UnitOk ρ π pb h w ((Instr.storeAt t c cv).run P w) pb ⟨h.m.set i (some (.cells false esz (setRange us o (cellsL v)))), h.nx⟩ := by
  cases hv with
  | v _ _ hv =>
    cases hv with
    | ptr _ _ s hsg =>
      obtain ⟨t', ht, hok⟩ := hR.obj i _ hc
      rw [hsg] at ht; cases ht
      obtain ⟨cs, elem, fr, h1, h2, h3, h4, h5, h6⟩ := hok
      have hcl := hvv.cells
      have hlen := hcl.length
      obtain ⟨w', r1, r2, r3⟩ := run_storeVar (P := P) (o := s.base + o) (v := cv) (n := n) hs h1 (h2 rfl).1 (by omega) (allOne hcl ha) (by omega)
      have hR' := hR.upd (w' := w') (o' := .cells false esz (setRange us o (cellsL v))) hc hsg rfl r2.heap
        ⟨_, elem, fr, r3, fun _ => by rw [length_setRange]; exact h2 rfl, by rw [length_setRange]; exact h3, by rw [length_setRange]; exact h4, h5, by
          rw [length_setRange, setRange_drop, setRange_take]; exact h6.setRange' hcl o⟩
      have st := stp_upd (w' := w') (o' := .cells false esz (setRange us o (cellsL v))) hc hsg rfl rfl r2 (fun _ => none)
      refine ⟨w', ρ, π, ?_, hR', hP.step hR hR' st (fun _ => rfl), st.lift (fun _ => rfl) π, PiOk.refl _ _⟩
      simp [Instr.storeAt, Instr.sureAddr, r1]
end
end Cw
