/-
  The relation kept: new blocks, written blocks, objects let go, boxes of the frame.
-/
import Derived.Test.YtmmlgodbknhijaaGreatDoorCwH
namespace Cw
open Go

theorem R.same {ρ : Rho} {h : AH} {w w' : World} (hR : R ρ h w)
    (hk : ∀ i o s, h.m.get i = some o → ρ i = some s → w'.heap[s.b]? = w.heap[s.b]?) : R ρ h w' where
  dom := hR.dom
  obj := fun i o ho => by
    obtain ⟨s, hs, hok⟩ := hR.obj i o ho
    exact ⟨s, hs, hok.mono (Ext.refl ρ) (hk i o s ho hs)⟩
  inj := hR.inj

theorem ext_alloc {ρ : Rho} {h : AH} {w : World} (hR : R ρ h w) (s : Seg) : Ext ρ (fun i => if i = h.nx then some s else ρ i) := by
  intro i t ht
  have := hR.dom i t ht
  simp [show i ≠ h.nx by omega, ht]

theorem R.alloc {ρ : Rho} {h : AH} {w w' : World} (hR : R ρ h w) (o : AObj) (s : Seg)
    (hold : ∀ k, k < w.heap.size → w'.heap[k]? = w.heap[k]?) (hb : w.heap.size ≤ s.b)
    (hok : objOk (fun i => if i = h.nx then some s else ρ i) w' s o) : R (fun i => if i = h.nx then some s else ρ i) (Cw.alloc h o) w' where
  dom := fun i t ht => by
    by_cases e : i = h.nx
    · subst e; exact Nat.lt_succ_self _
    · simp only [e, if_false] at ht; exact Nat.lt_succ_of_lt (hR.dom i t ht)
  obj := fun i o' ho => by
    simp only [Cw.alloc, T.get_set] at ho
    by_cases e : i = h.nx
    · simp only [e, if_true, Option.some.injEq] at ho; subst ho
      exact ⟨s, by simp [e], hok⟩
    · simp only [e, if_false] at ho
      obtain ⟨t, ht, hk⟩ := hR.obj i o' ho
      exact ⟨t, by simp [e, ht], hk.mono (ext_alloc hR s) (hold _ hk.lt)⟩
  inj := fun i j oi oj si sj hij hi hj hsi hsj hrw => by
    simp only [Cw.alloc, T.get_set] at hi hj
    have old : ∀ i o' t, h.m.get i = some o' → ρ i = some t → t.b < w.heap.size := fun i o' t h1 h2 => by
      obtain ⟨t', h3, h4⟩ := hR.obj i o' h1
      rw [h2] at h3; cases h3; exact h4.lt
    by_cases e1 : i = h.nx
    · by_cases e2 : j = h.nx
      · exact absurd (e1.trans e2.symm) hij
      · simp only [e1, if_true, Option.some.injEq] at hsi; subst hsi
        simp only [e2, if_false] at hj hsj
        have := old j oj sj hj hsj; omega
    · by_cases e2 : j = h.nx
      · simp only [e2, if_true, Option.some.injEq] at hsj; subst hsj
        simp only [e1, if_false] at hi hsi
        have := old i oi si hi hsi; omega
      · simp only [e1, e2, if_false] at hi hj hsi hsj
        exact hR.inj i j oi oj si sj hij hi hj hsi hsj hrw

theorem stp_alloc {ρ : Rho} {h : AH} {w w' : World} (hR : R ρ h w) (o : AObj) (s : Seg) (hb : w.heap.size ≤ s.b) (hrw : o.rw = true)
    (hold : ∀ k, k < w.heap.size → w'.heap[k]? = w.heap[k]?) (hsz : w.heap.size ≤ w'.heap.size) (h1 : w'.os = w.os) (h2 : w'.tape = w.tape) (h3 : w'.output = w.output) (π : Pi) :
    Stp ρ π h w (fun i => if i = h.nx then some s else ρ i) π (Cw.alloc h o) w' where
  ext := ext_alloc hR s
  nx := Nat.le_succ _
  keep := fun b hb _ _ => hold b hb
  grow := fun b hw => by
    obtain ⟨i, o', s', g1, g2, g3, g4⟩ := hw
    simp only [Cw.alloc, T.get_set] at g1
    by_cases e : i = h.nx
    · simp only [e, if_true, Option.some.injEq] at g3; subst g3; exact .inr (by omega)
    · simp only [e, if_false] at g1 g3; exact .inl ⟨i, o', s', g1, g2, g3, g4⟩
  growp := fun _ _ hk => .inl hk
  ro := fun i o' ho hr => by
    simp only [Cw.alloc, T.get_set] at ho
    by_cases e : i = h.nx
    · simp only [e, if_true, Option.some.injEq] at ho; subst ho; rw [hrw] at hr; cases hr
    · simpa only [e, if_false] using ho
  size := hsz
  os := h1
  tape := h2
  output := h3

theorem R.upd {ρ : Rho} {h : AH} {w w' : World} (hR : R ρ h w) {i : Nat} {o o' : AObj} {s : Seg} (ho : h.m.get i = some o) (hs : ρ i = some s)
    (hrw : o.rw = true) (hsame : ∀ k, k ≠ s.b → w'.heap[k]? = w.heap[k]?) (hok : objOk ρ w' s o') : R ρ ⟨h.m.set i (some o'), h.nx⟩ w' where
  dom := hR.dom
  obj := fun j q hj => by
    simp only [T.get_set] at hj
    by_cases e : j = i
    · simp only [e, if_true, Option.some.injEq] at hj; subst hj
      exact ⟨s, by rw [e, hs], hok⟩
    · simp only [e, if_false] at hj
      obtain ⟨t, ht, hk⟩ := hR.obj j q hj
      exact ⟨t, ht, hk.mono (Ext.refl ρ) (hsame _ (fun e2 => hR.inj i j o q s t (fun e3 => e e3.symm) ho hj hs ht (by simp [hrw]) e2.symm))⟩
  inj := fun a b oa ob sa sb hab ha hb hsa hsb hrw' => by
    simp only [T.get_set] at ha hb
    by_cases e1 : a = i
    · subst e1
      by_cases e2 : b = a
      · exact absurd e2.symm hab
      · simp only [e2, if_false] at hb
        exact hR.inj a b o ob sa sb hab ho hb hsa hsb (by simp [hrw])
    · simp only [e1, if_false] at ha
      by_cases e2 : b = i
      · subst e2
        exact hR.inj a b oa o sa sb hab ha ho hsa hsb (by simp [hrw])
      · simp only [e2, if_false] at hb
        exact hR.inj a b oa ob sa sb hab ha hb hsa hsb hrw'

theorem stp_upd {ρ : Rho} {h : AH} {w w' : World} {i : Nat} {o o' : AObj} {s : Seg} (ho : h.m.get i = some o) (hs : ρ i = some s)
    (hrw : o.rw = true) (hrw' : o'.rw = true) (hb : SameBut w w' s.b) (π : Pi) : Stp ρ π h w ρ π ⟨h.m.set i (some o'), h.nx⟩ w' where
  ext := Ext.refl ρ
  nx := Nat.le_refl _
  keep := fun b _ hw _ => hb.heap b (fun e => hw ⟨i, o, s, ho, hrw, hs, e.symm⟩)
  grow := fun b hw => by
    obtain ⟨j, q, s', g1, g2, g3, g4⟩ := hw
    simp only [T.get_set] at g1
    by_cases e : j = i
    · rw [e, hs] at g3; cases g3; exact .inl ⟨i, o, s, ho, hrw, hs, g4⟩
    · simp only [e, if_false] at g1; exact .inl ⟨j, q, s', g1, g2, g3, g4⟩
  growp := fun _ _ hk => .inl hk
  ro := fun j q hj hr => by
    simp only [T.get_set] at hj
    by_cases e : j = i
    · simp only [e, if_true, Option.some.injEq] at hj; subst hj; rw [hrw'] at hr; cases hr
    · simpa only [e, if_false] using hj
  size := Nat.le_of_eq hb.size.symm
  os := hb.os
  tape := hb.tape
  output := hb.output

theorem R.erase {ρ : Rho} {h : AH} {w : World} (hR : R ρ h w) (i : Nat) : R ρ ⟨h.m.set i none, h.nx⟩ w where
  dom := hR.dom
  obj := fun j q hj => by
    simp only [T.get_set] at hj
    by_cases e : j = i
    · simp [e] at hj
    · simp only [e, if_false] at hj; exact hR.obj j q hj
  inj := fun a b oa ob sa sb hab ha hb => by
    simp only [T.get_set] at ha hb
    by_cases e1 : a = i
    · simp [e1] at ha
    · by_cases e2 : b = i
      · simp [e2] at hb
      · simp only [e1, e2, if_false] at ha hb; exact hR.inj a b oa ob sa sb hab ha hb
theorem stp_erase (ρ : Rho) (π : Pi) (h : AH) (w : World) (i : Nat) : Stp ρ π h w ρ π ⟨h.m.set i none, h.nx⟩ w where
  ext := Ext.refl ρ
  nx := Nat.le_refl _
  keep := fun _ _ _ _ => rfl
  grow := fun b hw => by
    obtain ⟨j, q, s', g1, g2, g3, g4⟩ := hw
    simp only [T.get_set] at g1
    by_cases e : j = i
    · simp [e] at g1
    · simp only [e, if_false] at g1; exact .inl ⟨j, q, s', g1, g2, g3, g4⟩
  growp := fun _ _ hk => .inl hk
  ro := fun j q hj hr => by
    simp only [T.get_set] at hj
    by_cases e : j = i
    · simp [e] at hj
    · simpa only [e, if_false] using hj
  size := Nat.le_refl _
  os := rfl
  tape := rfl
  output := rfl

/-- the program's own step, as a frame with boxes sees it -/
theorem Stp.lift {ρ ρ' : Rho} {π₀ π₁ : Pi} {h h' : AH} {w w' : World} (st : Stp ρ π₀ h w ρ' π₁ h' w') (h0 : ∀ k, π₀ k = none) (π : Pi) : Stp ρ π h w ρ' π h' w' where
  ext := st.ext
  nx := st.nx
  keep := fun b hb hw _ => st.keep b hb hw (fun k => by simp [h0 k])
  grow := st.grow
  growp := fun _ _ hk => .inl hk
  ro := st.ro
  size := st.size
  os := st.os
  tape := st.tape
  output := st.output

theorem RP.step {ρ ρ' : Rho} {π π₀ π₁ : Pi} {h h' : AH} {w w' : World} {pb : PB} (hR : R ρ h w) (hR' : R ρ' h' w') (hp : RP ρ π h pb w)
    (st : Stp ρ π₀ h w ρ' π₁ h' w') (h0 : ∀ k, π₀ k = none) : RP ρ' π h' pb w' where
  box := fun k vs hk => by
    obtain ⟨b, cs, elem, fr, h1, h2, h3, h4⟩ := hp.box k vs hk
    have hlt := lt_of_heap h2
    refine ⟨b, cs, elem, fr, h1, ?_, h3, h4.mono st.ext⟩
    rw [st.keep b hlt ?_ (fun k => by simp [h0 k]), h2]
    intro hw
    obtain ⟨i, o, s, g1, _, g3, g4⟩ := hw
    exact hp.apart k vs b i o s hk h1 g1 g3 g4
  inj := hp.inj
  apart := fun k vs b i o s hk hb hi hs e => by
    obtain ⟨b', cs, elem, fr, h1, h2, _, _⟩ := hp.box k vs hk
    rw [hb] at h1; cases h1
    have hlt := lt_of_heap h2
    cases hrw : o.rw with
    | true =>
      rcases st.grow b ⟨i, o, s, hi, hrw, hs, e⟩ with hw | hw
      · obtain ⟨j, q, t, g1, _, g3, g4⟩ := hw
        exact hp.apart k vs b j q t hk hb g1 g3 g4
      · omega
    | false =>
      have hold := st.ro i o hi hrw
      obtain ⟨t, ht, _⟩ := hR.obj i o hold
      have := st.ext i t ht
      rw [hs] at this; cases this
      exact hp.apart k vs b i o s hk hb hold ht e

theorem RP.new {ρ : Rho} {π : Pi} {h : AH} {w : World} {pb : PB} (hR : R ρ h w) (hp : RP ρ π h pb w) (k : Nat) (hk : pb.get k = none) (cs vs : List Value) (elem : TypeId)
    (hv : VL ρ vs cs) : RP ρ (fun j => if j = k then some w.heap.size else π j) h (pb.set k (some vs)) (w.alloc (.cells ⟨cs⟩ elem)) where
  box := fun j us hj => by
    simp only [T.get_set] at hj
    by_cases e : j = k
    · simp only [e, if_true, Option.some.injEq] at hj; subst hj
      exact ⟨w.heap.size, cs, elem, (0, 0), by simp [e], heap_push_new w _, by intro o; simp, hv⟩
    · simp only [e, if_false] at hj
      obtain ⟨b, ds, el, fr, h1, h2, h3, h4⟩ := hp.box j us hj
      exact ⟨b, ds, el, fr, by simp [e, h1], by rw [heap_push_lt _ _ _ (lt_of_heap h2), h2], h3, h4⟩
  inj := fun a b va vb hab ha hb => by
    have lt : ∀ j us, pb.get j = some us → ∃ b, π j = some b ∧ b < w.heap.size := fun j us hj => by
      obtain ⟨b, ds, el, fr, h1, h2, _, _⟩ := hp.box j us hj
      exact ⟨b, h1, lt_of_heap h2⟩
    simp only [T.get_set] at ha hb
    by_cases e1 : a = k
    · have e2 : b ≠ k := fun e => hab (e1.trans e.symm)
      simp only [e2, if_false] at hb
      obtain ⟨x, h1, h2⟩ := lt b vb hb
      simp only [e1, e2, if_true, if_false, h1]
      intro e; cases e; omega
    · simp only [e1, if_false] at ha
      by_cases e2 : b = k
      · obtain ⟨x, h1, h2⟩ := lt a va ha
        simp only [e1, e2, if_true, if_false, h1]
        intro e; cases e; omega
      · simp only [e2, if_false] at hb
        simp only [e1, e2, if_false]
        exact hp.inj a b va vb hab ha hb
  apart := fun j us b i o s hj hb hi hs e => by
    simp only [T.get_set] at hj
    by_cases e1 : j = k
    · simp only [e1, if_true, Option.some.injEq] at hb
      obtain ⟨t, ht, hok⟩ := hR.obj i o hi
      rw [hs] at ht; cases ht
      have := hok.lt; omega
    · simp only [e1, if_false] at hj hb
      exact hp.apart j us b i o s hj hb hi hs e

theorem RP.put {ρ : Rho} {π : Pi} {h : AH} {w w' : World} {pb : PB} (hp : RP ρ π h pb w) (k : Nat) {us vs cs : List Value} {b : Nat} {elem : TypeId} {fr : Nat × Nat}
    (hk : pb.get k = some us) (hb : π k = some b) (hs : SameBut w w' b) (hn : w'.heap[b]? = some (.cells ⟨cs⟩ elem fr)) (hf : unfrozen cs.length fr) (hv : VL ρ vs cs) :
    RP ρ π h (pb.set k (some vs)) w' where
  box := fun j us' hj => by
    simp only [T.get_set] at hj
    by_cases e : j = k
    · simp only [e, if_true, Option.some.injEq] at hj; subst hj
      exact ⟨b, cs, elem, fr, by rw [e, hb], hn, hf, hv⟩
    · simp only [e, if_false] at hj
      obtain ⟨x, ds, el, fr', h1, h2, h3, h4⟩ := hp.box j us' hj
      refine ⟨x, ds, el, fr', h1, ?_, h3, h4⟩
      rw [hs.heap x ?_, h2]
      intro e2
      exact hp.inj j k us' us e hj hk (by rw [h1, hb, e2])
  inj := fun a c va vc hac ha hc => by
    simp only [T.get_set] at ha hc
    have ha' : ∃ va', pb.get a = some va' := by
      by_cases e : a = k
      · exact ⟨us, e ▸ hk⟩
      · simp only [e, if_false] at ha; exact ⟨va, ha⟩
    have hc' : ∃ vc', pb.get c = some vc' := by
      by_cases e : c = k
      · exact ⟨us, e ▸ hk⟩
      · simp only [e, if_false] at hc; exact ⟨vc, hc⟩
    obtain ⟨x, hx⟩ := ha'; obtain ⟨y, hy⟩ := hc'
    exact hp.inj a c x y hac hx hy
  apart := fun j us' x i o s hj hx hi hs' => by
    simp only [T.get_set] at hj
    by_cases e : j = k
    · exact hp.apart k us x i o s hk (e ▸ hx) hi hs'
    · simp only [e, if_false] at hj; exact hp.apart j us' x i o s hj hx hi hs'

def PiOk (pb : PB) (π : Pi) (pb' : PB) (π' : Pi) : Prop := ∀ k, (pb.get k).isSome = true → π' k = π k ∧ (pb'.get k).isSome = true
theorem PiOk.refl (pb : PB) (π : Pi) : PiOk pb π pb π := fun _ h => ⟨rfl, h⟩
theorem PiOk.trans {a b c : PB} {x y z : Pi} (h : PiOk a x b y) (g : PiOk b y c z) : PiOk a x c z := fun k hk =>
  let ⟨h1, h2⟩ := h k hk; let ⟨g1, g2⟩ := g k h2; ⟨g1.trans h1, g2⟩
theorem FV.mono {ρ ρ' : Rho} {π π' : Pi} {pb pb' : PB} {v c : Value} (h : FV ρ π pb v c) (hx : Ext ρ ρ') (hp : PiOk pb π pb' π') : FV ρ' π' pb' v c := by
  cases h with
  | v _ _ h => exact .v _ _ (h.mono hx)
  | ptr k o b h g => exact .ptr k o b ((hp k g).1.trans h) (hp k g).2
  | slice k o n c b h g l => exact .slice k o n c b ((hp k g).1.trans h) (hp k g).2 l
theorem FT.mono {ρ ρ' : Rho} {π π' : Pi} {pb pb' : PB} {t : T Value} {tmps : Array Value} (h : FT ρ π pb t tmps) (hx : Ext ρ ρ') (hp : PiOk pb π pb' π') : FT ρ' π' pb' t tmps :=
  fun n v hv => let ⟨c, h1, h2⟩ := h n v hv; ⟨c, h1, h2.mono hx hp⟩
theorem PiOk.new (pb : PB) (π : Pi) (k b : Nat) (hk : pb.get k = none) (vs : List Value) : PiOk pb π (pb.set k (some vs)) (fun j => if j = k then some b else π j) := by
  intro j hj
  have : j ≠ k := fun e => by rw [e, hk] at hj; simp at hj
  simp [this, T.get_set, hj]
theorem PiOk.put (pb : PB) (π : Pi) (k : Nat) (vs : List Value) : PiOk pb π (pb.set k (some vs)) π := by
  intro j hj
  refine ⟨rfl, ?_⟩
  by_cases e : j = k
  · simp [e, T.get_set]
  · simp [e, T.get_set, hj]
end Cw
