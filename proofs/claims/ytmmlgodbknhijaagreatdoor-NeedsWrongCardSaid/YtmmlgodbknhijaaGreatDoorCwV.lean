/-
  A region whose order is drawn: in every order that the edges leave open it answers as in the text's order.
-/
import Derived.Test.YtmmlgodbknhijaaGreatDoorCwS
namespace Cw
open Go

/-! ## Values that are seen to be the same are the same -/
theorem aeq_spec : ∀ {a b : Option Addr}, aeq a b = true → a = b
  | none, none, _ => rfl
  | none, some _, h => by simp [aeq] at h
  | some _, none, h => by simp [aeq] at h
  | some ⟨a, o, none⟩, some ⟨b, p, none⟩, h => by
    simp only [aeq, Bool.and_eq_true] at h
    rw [Nat.eq_of_beq_eq_true h.1, Nat.eq_of_beq_eq_true h.2]
  | some ⟨a, o, some s⟩, some ⟨b, p, some r⟩, h => by
    simp only [aeq, Bool.and_eq_true] at h
    rw [Nat.eq_of_beq_eq_true h.1.1, Nat.eq_of_beq_eq_true h.1.2, Nat.eq_of_beq_eq_true h.2]
  | some ⟨_, _, none⟩, some ⟨_, _, some _⟩, h => by simp [aeq] at h
  | some ⟨_, _, some _⟩, some ⟨_, _, none⟩, h => by simp [aeq] at h
mutual
theorem veq_spec (a b : Value) (h : veq a b = true) : a = b :=
  match a, b with
  | .bool a, .bool b => by simp only [veq, beq_iff_eq] at h; rw [h]
  | .int k n, .int j m => by simp only [veq, Bool.and_eq_true, decide_eq_true_eq] at h; rw [h.1, h.2]
  | .string ⟨⟨a⟩⟩, .string ⟨⟨b⟩⟩ => by simp only [veq, bytesEq_spec, beq_iff_eq] at h; rw [h]
  | .pointer a, .pointer b => by simp only [veq] at h; rw [aeq_spec h]
  | .slice a n c, .slice b m d => by
    simp only [veq, Bool.and_eq_true] at h
    rw [aeq_spec h.1.1, Nat.eq_of_beq_eq_true h.1.2, Nat.eq_of_beq_eq_true h.2]
  | .map none, .map none => rfl
  | .map (some a), .map (some b) => by simp only [veq] at h; rw [Nat.eq_of_beq_eq_true h]
  | .map (some _), .map none | .map none, .map (some _) => by simp [veq] at h
  | .nilFunc, .nilFunc => rfl
  | .nilIface, .nilIface => rfl
  | .iface t v, .iface u w => by
    simp only [veq, Bool.and_eq_true] at h
    rw [Nat.eq_of_beq_eq_true h.1, veq_spec v w h.2]
  | .agg ⟨a⟩, .agg ⟨b⟩ => by simp only [veq] at h; rw [veqL_spec a b h]
  | .tuple ⟨a⟩, .tuple ⟨b⟩ => by simp only [veq] at h; rw [veqL_spec a b h]
  | .bool _, .int .. | .bool _, .float .. | .bool _, .complex .. | .bool _, .string _ | .bool _, .pointer _ | .bool _, .slice .. | .bool _, .map _ | .bool _, .chan .. | .bool _, .func .. | .bool _, .nilFunc | .bool _, .nilIface | .bool _, .iface .. | .bool _, .agg _ | .bool _, .tuple _ => by simp [veq] at h
  | .int .., .bool _ | .int .., .float .. | .int .., .complex .. | .int .., .string _ | .int .., .pointer _ | .int .., .slice .. | .int .., .map _ | .int .., .chan .. | .int .., .func .. | .int .., .nilFunc | .int .., .nilIface | .int .., .iface .. | .int .., .agg _ | .int .., .tuple _ => by simp [veq] at h
  | .float .., _ => by simp [veq] at h
  | .complex .., _ => by simp [veq] at h
  | .chan .., _ => by simp [veq] at h
  | .func .., _ => by simp [veq] at h
  | .string _, .int .. | .string _, .float .. | .string _, .complex .. | .string _, .bool _ | .string _, .pointer _ | .string _, .slice .. | .string _, .map _ | .string _, .chan .. | .string _, .func .. | .string _, .nilFunc | .string _, .nilIface | .string _, .iface .. | .string _, .agg _ | .string _, .tuple _ => by simp [veq] at h
  | .pointer _, .int .. | .pointer _, .float .. | .pointer _, .complex .. | .pointer _, .bool _ | .pointer _, .string _ | .pointer _, .slice .. | .pointer _, .map _ | .pointer _, .chan .. | .pointer _, .func .. | .pointer _, .nilFunc | .pointer _, .nilIface | .pointer _, .iface .. | .pointer _, .agg _ | .pointer _, .tuple _ => by simp [veq] at h
  | .slice .., .int .. | .slice .., .float .. | .slice .., .complex .. | .slice .., .bool _ | .slice .., .string _ | .slice .., .pointer _ | .slice .., .map _ | .slice .., .chan .. | .slice .., .func .. | .slice .., .nilFunc | .slice .., .nilIface | .slice .., .iface .. | .slice .., .agg _ | .slice .., .tuple _ => by simp [veq] at h
  | .map _, .int .. | .map _, .float .. | .map _, .complex .. | .map _, .bool _ | .map _, .string _ | .map _, .pointer _ | .map _, .slice .. | .map _, .chan .. | .map _, .func .. | .map _, .nilFunc | .map _, .nilIface | .map _, .iface .. | .map _, .agg _ | .map _, .tuple _ => by simp [veq] at h
  | .nilFunc, .int .. | .nilFunc, .float .. | .nilFunc, .complex .. | .nilFunc, .bool _ | .nilFunc, .string _ | .nilFunc, .pointer _ | .nilFunc, .slice .. | .nilFunc, .chan .. | .nilFunc, .func .. | .nilFunc, .map _ | .nilFunc, .nilIface | .nilFunc, .iface .. | .nilFunc, .agg _ | .nilFunc, .tuple _ => by simp [veq] at h
  | .nilIface, .int .. | .nilIface, .float .. | .nilIface, .complex .. | .nilIface, .bool _ | .nilIface, .string _ | .nilIface, .pointer _ | .nilIface, .slice .. | .nilIface, .chan .. | .nilIface, .func .. | .nilIface, .map _ | .nilIface, .nilFunc | .nilIface, .iface .. | .nilIface, .agg _ | .nilIface, .tuple _ => by simp [veq] at h
  | .iface .., .int .. | .iface .., .float .. | .iface .., .complex .. | .iface .., .bool _ | .iface .., .string _ | .iface .., .pointer _ | .iface .., .slice .. | .iface .., .chan .. | .iface .., .func .. | .iface .., .map _ | .iface .., .nilFunc | .iface .., .nilIface | .iface .., .agg _ | .iface .., .tuple _ => by simp [veq] at h
  | .agg _, .int .. | .agg _, .float .. | .agg _, .complex .. | .agg _, .bool _ | .agg _, .string _ | .agg _, .pointer _ | .agg _, .slice .. | .agg _, .chan .. | .agg _, .func .. | .agg _, .map _ | .agg _, .nilFunc | .agg _, .nilIface | .agg _, .iface .. | .agg _, .tuple _ => by simp [veq] at h
  | .tuple _, .int .. | .tuple _, .float .. | .tuple _, .complex .. | .tuple _, .bool _ | .tuple _, .string _ | .tuple _, .pointer _ | .tuple _, .slice .. | .tuple _, .chan .. | .tuple _, .func .. | .tuple _, .map _ | .tuple _, .nilFunc | .tuple _, .nilIface | .tuple _, .iface .. | .tuple _, .agg _ => by simp [veq] at h
theorem veqL_spec (a b : List Value) (h : veqL a b = true) : a = b :=
  match a, b with
  | [], [] => rfl
  | [], _ :: _ | _ :: _, [] => by simp [veqL] at h
  | v :: a, w :: b => by
    simp only [veqL, Bool.and_eq_true] at h
    rw [veq_spec v w h.1, veqL_spec a b h.2]
end
theorem ovEq_spec : ∀ {a b : Option Value}, ovEq a b = true → a = b
  | none, none, _ => rfl
  | none, some _, h => by simp [ovEq] at h
  | some _, none, h => by simp [ovEq] at h
  | some a, some b, h => by rw [veq_spec a b (by simpa [ovEq] using h)]

/-! ## One operation -/
section
variable {P : Program} {o : AOper} {t : T Value}

theorem stepOp_cases (P : Program) (o : AOper) (t : T Value) :
    ((∀ pb h, stepOp P o t pb h = evM P o.op (o.args.map (opdT t)) pb h) ∧ stepKey o t = opKey o.op (o.args.map (opdT t))) ∨
    ((∀ pb h, stepOp P o t pb h = some (.ok (some undef) pb h)) ∧ stepKey o t = none) ∨ (∀ pb h, stepOp P o t pb h = none) := by
  unfold stepOp stepKey
  simp only [evMf_eq]
  cases o.guard with
  | none => exact .inl ⟨fun _ _ => rfl, rfl⟩
  | some gw =>
    obtain ⟨g, want⟩ := gw
    simp only
    cases ht : t.get g with
    | none => exact .inr (.inr fun _ _ => rfl)
    | some v =>
      cases v with
      | bool b =>
        simp only
        cases hb : b == want
        · exact .inr (.inl ⟨fun _ _ => rfl, rfl⟩)
        · exact .inl ⟨fun _ _ => rfl, rfl⟩
      | tuple a =>
        obtain ⟨l⟩ := a
        cases l with
        | nil => exact .inr (.inl ⟨fun _ _ => rfl, rfl⟩)
        | cons => exact .inr (.inr fun _ _ => rfl)
      | _ => exact .inr (.inr fun _ _ => rfl)

theorem stepOp_cong {t2 : T Value} (h : ∀ d ∈ slots o, t.get d = t2.get d) (pb : PB) (hp : AH) : stepOp P o t pb hp = stepOp P o t2 pb hp ∧ stepKey o t = stepKey o t2 := by
  have ha : o.args.map (opdT t) = o.args.map (opdT t2) := by
    refine List.map_congr_left fun x hx => ?_
    cases x with
    | c v => rfl
    | t n => exact h n (List.mem_append_left _ (List.mem_filterMap.2 ⟨.t n, hx, rfl⟩))
  unfold stepOp stepKey
  cases hg : o.guard with
  | none => simp [ha]
  | some gw =>
    obtain ⟨g, want⟩ := gw
    have := h g (List.mem_append_right _ (by simp [hg]))
    simp [ha, this]

theorem stepOp_mono {pb1 pb2 : PB} {h : AH} (hle : ∀ k, pb1.get k = none ∨ pb2.get k = pb1.get k) (hk : ∀ k, stepKey o t = some k → pb2.get k = pb1.get k) {v : Option Value} {pb1' : PB} {h' : AH}
    (hev : stepOp P o t pb1 h = some (.ok v pb1' h')) : ∃ pb2', stepOp P o t pb2 h = some (.ok v pb2' h') ∧ (∀ k, stepKey o t = some k → pb2'.get k = pb1'.get k) ∧ (∀ k, stepKey o t ≠ some k → pb2'.get k = pb2.get k) := by
  rcases stepOp_cases P o t with ⟨h1, h2⟩ | ⟨h1, h2⟩ | h1
  · rw [h1] at hev ⊢
    rw [h2] at hk ⊢
    exact evM_mono hle hk hev
  · rw [h1] at hev ⊢
    simp only [Option.some.injEq, OR.ok.injEq] at hev
    obtain ⟨rfl, rfl, rfl⟩ := hev
    exact ⟨pb2, rfl, fun k e => (by rw [h2] at e; cases e), fun _ _ => rfl⟩
  · rw [h1] at hev; cases hev
theorem stepOp_frame {pb pb' : PB} {h h' : AH} {v : Option Value} (hev : stepOp P o t pb h = some (.ok v pb' h')) (k : Nat) (hk : stepKey o t ≠ some k) : pb'.get k = pb.get k := by
  obtain ⟨pb2', h1, _, h3⟩ := stepOp_mono (pb2 := pb) (fun _ => .inr rfl) (fun _ _ => rfl) hev
  rw [hev] at h1; cases h1
  exact h3 k hk
theorem stepOp_chain (hc : chains o.op = false) {pb pb' : PB} {h h' : AH} {v : Option Value} (hev : stepOp P o t pb h = some (.ok v pb' h')) : h' = h := by
  rcases stepOp_cases P o t with ⟨h1, _⟩ | ⟨h1, _⟩ | h1
  · rw [h1] at hev; exact evM_chain hc hev
  · rw [h1] at hev; cases hev; rfl
  · rw [h1] at hev; cases hev
theorem looks_key {op : AOp} (hl : looks op = false) (xs : List (Option Value)) : opKey op xs = none := by
  cases op with
  | box p => simp [looks] at hl
  | alloc p z => simp [looks] at hl
  | bslice p a b c d => simp [looks] at hl
  | store => simp [looks] at hl
  | _ => simp [opKey]
theorem stepOp_look (hl : looks o.op = false) {pb pb' : PB} {h h' : AH} {v : Option Value} (hev : stepOp P o t pb h = some (.ok v pb' h')) (pb2 : PB) (h2 : AH) :
    stepOp P o t pb2 h2 = some (.ok v pb2 h2) ∧ stepKey o t = none := by
  rcases stepOp_cases P o t with ⟨h1, h3⟩ | ⟨h1, h3⟩ | h1
  · rw [h1] at hev ⊢
    rw [evM_look hl _ pb pb2 h h2, hev]
    exact ⟨rfl, by rw [h3]; exact looks_key hl _⟩
  · rw [h1] at hev ⊢; cases hev; exact ⟨rfl, h3⟩
  · rw [h1] at hev; cases hev
theorem stepOp_keyed (hc : chains o.op = false) {k : Nat} (hk : stepKey o t = some k) {pb pb' : PB} {h h' : AH} {v : Option Value} (hev : stepOp P o t pb h = some (.ok v pb' h')) (h2 : AH) :
    stepOp P o t pb h2 = some (.ok v pb' h2) := by
  rcases stepOp_cases P o t with ⟨h1, h3⟩ | ⟨h1, h3⟩ | h1
  · rw [h1] at hev ⊢
    rw [h3] at hk
    exact evM_keyed hc hk hev h2
  · rw [h3] at hk; cases hk
  · rw [h1] at hev; cases hev
end

/-! ## The run in the text's order -/
def tAt (rs : List Rec) (tE : T Value) (j : Nat) : T Value := match rs[j]? with | some r => r.t | none => tE
def pbAt (rs : List Rec) (pbE : PB) (j : Nat) : PB := match rs[j]? with | some r => r.pb | none => pbE
def hAt (rs : List Rec) (hE : AH) (j : Nat) : AH := match rs[j]? with | some r => r.h | none => hE

structure Run (P : Program) (os : List AOper) (rs : List Rec) (t0 : T Value) (pb0 : PB) (h0 : AH) (tE : T Value) (pbE : PB) (hE : AH) : Prop where
  len : rs.length = os.length
  t0 : tAt rs tE 0 = t0
  pb0 : pbAt rs pbE 0 = pb0
  h0 : hAt rs hE 0 = h0
  step : ∀ j o r, os[j]? = some o → rs[j]? = some r → r.o = o ∧ r.key = stepKey o r.t ∧ stepOp P o r.t r.pb r.h = some (.ok r.v (pbAt rs pbE (j + 1)) (hAt rs hE (j + 1))) ∧ tAt rs tE (j + 1) = putT r.t o.dst r.v
theorem drawRun_spec {P : Program} : ∀ (os : List AOper) (t : T Value) (pb : PB) (h : AH) (rs : List Rec) (tE : T Value) (pbE : PB) (hE : AH),
    drawRun P os t pb h = some (rs, tE, pbE, hE) → Run P os rs t pb h tE pbE hE
  | [], t, pb, h, rs, tE, pbE, hE, hr => by
    simp only [drawRun, Option.some.injEq, Prod.mk.injEq] at hr
    obtain ⟨rfl, rfl, rfl, rfl⟩ := hr
    exact ⟨rfl, rfl, rfl, rfl, fun j o r ho => by simp at ho⟩
  | o :: os, t, pb, h, rs, tE, pbE, hE, hr => by
    simp only [drawRun] at hr
    split at hr
    · rename_i v pb' h' hst
      split at hr
      · rename_i rs' r' hd
        simp only [Option.some.injEq, Prod.mk.injEq] at hr
        obtain ⟨rfl, rfl⟩ := hr
        have ih := drawRun_spec os _ _ _ _ _ _ _ hd
        have s1 : ∀ j, tAt (⟨o, t, pb, h, v, stepKey o t⟩ :: rs') tE (j + 1) = tAt rs' tE j := fun j => rfl
        have s2 : ∀ j, pbAt (⟨o, t, pb, h, v, stepKey o t⟩ :: rs') pbE (j + 1) = pbAt rs' pbE j := fun j => rfl
        have s3 : ∀ j, hAt (⟨o, t, pb, h, v, stepKey o t⟩ :: rs') hE (j + 1) = hAt rs' hE j := fun j => rfl
        refine ⟨by simp [ih.len], rfl, rfl, rfl, fun j oj rj ho hrj => ?_⟩
        rw [s1, s2, s3]
        cases j with
        | zero =>
          simp only [List.getElem?_cons_zero, Option.some.injEq] at ho hrj
          subst ho; subst hrj
          refine ⟨rfl, rfl, ?_, ?_⟩
          · simp only [hst, ih.pb0, ih.h0]
          · simp only [ih.t0]
        | succ j =>
          simp only [List.getElem?_cons_succ] at ho hrj
          exact ih.step j oj rj ho hrj
      · cases hr
    · cases hr

section
variable {P : Program} {os : List AOper} {rs : List Rec} {t0 : T Value} {pb0 : PB} {h0 : AH} {tE : T Value} {pbE : PB} {hE : AH}

theorem Run.recAt (hR : Run P os rs t0 pb0 h0 tE pbE hE) {j : Nat} {o : AOper} (ho : os[j]? = some o) : ∃ r, rs[j]? = some r := by
  have hlt : j < os.length := (List.getElem?_eq_some_iff.1 ho).1
  exact ⟨rs[j]'(by rw [hR.len]; exact hlt), List.getElem?_eq_getElem _⟩
theorem Run.op (hR : Run P os rs t0 pb0 h0 tE pbE hE) {j : Nat} {r : Rec} (hr : rs[j]? = some r) : ∃ o, os[j]? = some o := by
  have hlt : j < rs.length := (List.getElem?_eq_some_iff.1 hr).1
  exact ⟨os[j]'(by rw [← hR.len]; exact hlt), List.getElem?_eq_getElem _⟩
theorem tAt_rec {j : Nat} {r : Rec} (hr : rs[j]? = some r) : tAt rs tE j = r.t := by simp [tAt, hr]
theorem pbAt_rec {j : Nat} {r : Rec} (hr : rs[j]? = some r) : pbAt rs pbE j = r.pb := by simp [pbAt, hr]
theorem hAt_rec {j : Nat} {r : Rec} (hr : rs[j]? = some r) : hAt rs hE j = r.h := by simp [hAt, hr]
theorem Run.opAt (hR : Run P os rs t0 pb0 h0 tE pbE hE) {j : Nat} (hj : j < os.length) : ∃ o r, os[j]? = some o ∧ rs[j]? = some r := by
  obtain ⟨r, hr⟩ := hR.recAt (List.getElem?_eq_getElem hj)
  exact ⟨_, r, List.getElem?_eq_getElem hj, hr⟩

/-- boxes in the text's order -/
theorem Run.pbKeep (hR : Run P os rs t0 pb0 h0 tE pbE hE) (k i : Nat) : ∀ m, i + m ≤ os.length → (∀ j r, i ≤ j → j < i + m → rs[j]? = some r → r.key ≠ some k) → (pbAt rs pbE (i + m)).get k = (pbAt rs pbE i).get k
  | 0, _, _ => rfl
  | m + 1, hm, hk => by
    obtain ⟨o, r, ho, hr⟩ := hR.opAt (j := i + m) (by omega)
    obtain ⟨h1, h2, h3, _⟩ := hR.step _ o r ho hr
    have := stepOp_frame h3 k (by rw [← h2]; exact hk (i + m) r (by omega) (by omega) hr)
    rw [show i + (m + 1) = i + m + 1 from rfl, this, ← pbAt_rec (pbE := pbE) hr]
    exact Run.pbKeep hR k i m (by omega) (fun j r h1 h2 => hk j r h1 (by omega))
/-- the heap in the text's order -/
theorem Run.hKeep (hR : Run P os rs t0 pb0 h0 tE pbE hE) (i : Nat) : ∀ m, i + m ≤ os.length → (∀ j o, i ≤ j → j < i + m → os[j]? = some o → chains o.op = false) → hAt rs hE (i + m) = hAt rs hE i
  | 0, _, _ => rfl
  | m + 1, hm, hk => by
    obtain ⟨o, r, ho, hr⟩ := hR.opAt (j := i + m) (by omega)
    obtain ⟨h1, h2, h3, _⟩ := hR.step _ o r ho hr
    have := stepOp_chain (hk (i + m) o (by omega) (by omega) ho) h3
    rw [show i + (m + 1) = i + m + 1 from rfl, this, ← hAt_rec (hE := hE) hr]
    exact Run.hKeep hR i m (by omega) (fun j r h1 h2 => hk j r h1 (by omega))
/-- slots in the text's order -/
theorem Run.slot (hR : Run P os rs t0 pb0 h0 tE pbE hE) (hu : ∀ (i j : Nat) (a b : AOper), i < j → os[i]? = some a → os[j]? = some b → dupOk a b = true) (d : Nat) : ∀ i, i ≤ os.length →
    (∀ j o r, j < i → os[j]? = some o → rs[j]? = some r → o.dst = some d → (tAt rs tE i).get d = r.v) ∧ ((∀ j o, j < i → os[j]? = some o → o.dst ≠ some d) → (tAt rs tE i).get d = t0.get d)
  | 0, _ => ⟨fun j o r hj => absurd hj (Nat.not_lt_zero _), fun _ => by rw [hR.t0]⟩
  | i + 1, hi => by
    obtain ⟨oi, ri, hoi, hri⟩ := hR.opAt (j := i) (by omega)
    obtain ⟨h1, h2, h3, h4⟩ := hR.step _ oi ri hoi hri
    obtain ⟨ih1, ih2⟩ := Run.slot hR hu d i (by omega)
    rw [tAt_rec hri] at ih1 ih2
    rw [h4]
    by_cases hd : oi.dst = some d
    · rw [hd]
      refine ⟨fun j o r hj ho hr hod => ?_, fun hno => absurd hd (hno i oi (by omega) hoi)⟩
      have hji : j = i := by
        rcases Nat.lt_or_ge j i with hlt | hge
        · have := hu j i o oi hlt ho hoi
          simp [dupOk, hod, hd] at this
        · omega
      subst hji
      rw [hri] at hr; cases hr
      simp [putT, T.get_set]
    · have hput : (putT ri.t oi.dst ri.v).get d = ri.t.get d := by
        cases hx : oi.dst with
        | none => rfl
        | some e =>
          have hne : d ≠ e := fun q => hd (by rw [hx, q])
          simp [putT, T.get_set, hne]
      rw [hput]
      refine ⟨fun j o r hj ho hr hod => ?_, fun hno => ih2 fun j o hj ho => hno j o (by omega) ho⟩
      have hji : j < i := by
        rcases Nat.lt_or_ge j i with hlt | hge
        · exact hlt
        · have : j = i := by omega
          subst this
          rw [hoi] at ho; cases ho
          exact absurd hod hd
      exact ih1 j o r hji ho hr hod
end

/-! ## Edges -/
theorem addAll_mem {xs ys : List Nat} {x : Nat} (h : x ∈ addAll xs ys) : x ∈ xs ∨ x ∈ ys := by
  simp only [addAll, List.mem_append, List.mem_filter] at h
  exact h.imp id (·.1)
theorem ancOne_spec {done : List (List Nat)} : ∀ {es : List Edge} {r : List Nat}, ancOne done es = some r →
    (∀ x ∈ r, ∃ e ∈ es, Region.binds .any e = true ∧ (x = e.on ∨ ∃ a, done[e.on]? = some a ∧ x ∈ a)) ∧ (∀ e ∈ es, Region.binds .any e = true → e.on < done.length)
  | [], r, h => by simp only [ancOne, Option.some.injEq] at h; subst h; exact ⟨fun x hx => by simp at hx, fun e he => by simp at he⟩
  | e :: es, r, h => by
    simp only [ancOne] at h
    cases hb : Region.binds .any e
    · simp only [hb, cond_false] at h
      obtain ⟨h1, h2⟩ := ancOne_spec h
      refine ⟨fun x hx => ?_, fun e' he' hb' => ?_⟩
      · obtain ⟨e', g1, g2⟩ := h1 x hx
        exact ⟨e', List.mem_cons_of_mem _ g1, g2⟩
      · rcases List.mem_cons.1 he' with rfl | he'
        · rw [hb] at hb'; cases hb'
        · exact h2 e' he' hb'
    · simp only [hb, cond_true] at h
      split at h
      · rename_i a r' ha hr
        simp only [Option.some.injEq] at h; subst h
        obtain ⟨h1, h2⟩ := ancOne_spec hr
        refine ⟨fun x hx => ?_, fun e' he' hb' => ?_⟩
        · rcases addAll_mem hx with hx | hx
          · rcases List.mem_cons.1 hx with rfl | hx
            · exact ⟨e, List.mem_cons_self .., hb, .inl rfl⟩
            · exact ⟨e, List.mem_cons_self .., hb, .inr ⟨a, ha, hx⟩⟩
          · obtain ⟨e', g1, g2⟩ := h1 x hx
            exact ⟨e', List.mem_cons_of_mem _ g1, g2⟩
        · rcases List.mem_cons.1 he' with rfl | he'
          · exact (List.getElem?_eq_some_iff.1 ha).1
          · exact h2 e' he' hb'
      · cases h
structure Anc (l : List Oper) (an : List (List Nat)) : Prop where
  mem : ∀ j o x, l[j]? = some o → ltd an x j = true → ∃ e ∈ o.after.toList, Region.binds .any e = true ∧ (x = e.on ∨ ltd an x e.on = true)
  lt : ∀ j o e, l[j]? = some o → e ∈ o.after.toList → Region.binds .any e = true → e.on < j
  len : an.length = l.length
theorem ancs_spec : ∀ (l : List Oper) (done an : List (List Nat)), ancs l done = some an → ∃ ext, an = done ++ ext ∧ ext.length = l.length ∧
    ∀ j o, l[j]? = some o → ∃ a, an[done.length + j]? = some a ∧ (∀ x ∈ a, ∃ e ∈ o.after.toList, Region.binds .any e = true ∧ (x = e.on ∨ ∃ a', an[e.on]? = some a' ∧ x ∈ a')) ∧
      (∀ e ∈ o.after.toList, Region.binds .any e = true → e.on < done.length + j)
  | [], done, an, h => by
    simp only [ancs, Option.some.injEq] at h; subst h
    exact ⟨[], by simp, rfl, fun j o ho => by simp at ho⟩
  | o :: l, done, an, h => by
    simp only [ancs] at h
    split at h
    · rename_i a ha
      obtain ⟨ext, h1, h2, h3⟩ := ancs_spec l (done ++ [a]) an h
      obtain ⟨g1, g2⟩ := ancOne_spec ha
      refine ⟨a :: ext, by rw [h1]; simp, by simp [h2], fun j o' ho' => ?_⟩
      cases j with
      | zero =>
        simp only [List.getElem?_cons_zero, Option.some.injEq] at ho'; subst ho'
        refine ⟨a, by rw [h1]; simp, fun x hx => ?_, g2⟩
        obtain ⟨e, e1, e2, e3⟩ := g1 x hx
        refine ⟨e, e1, e2, e3.imp id fun ⟨a', b1, b2⟩ => ⟨a', ?_, b2⟩⟩
        have hlt := (List.getElem?_eq_some_iff.1 b1).1
        rw [h1, List.append_assoc, List.getElem?_append_left hlt]; exact b1
      | succ j =>
        simp only [List.getElem?_cons_succ] at ho'
        obtain ⟨b, b1, b2, b3⟩ := h3 j o' ho'
        simp only [List.length_append, List.length_cons, List.length_nil] at b1 b3
        exact ⟨b, by rw [← b1]; congr 1; omega, b2, fun e he hb => by have := b3 e he hb; omega⟩
    · cases h
theorem ltd_iff {an : List (List Nat)} {i j : Nat} : ltd an i j = true ↔ ∃ a, an[j]? = some a ∧ i ∈ a := by
  unfold ltd
  cases an[j]? with
  | none => simp
  | some a => simp
theorem ancs_anc {l : List Oper} {an : List (List Nat)} (h : ancs l [] = some an) : Anc l an := by
  obtain ⟨ext, h1, h2, h3⟩ := ancs_spec l [] an h
  simp only [List.nil_append, List.length_nil, Nat.zero_add] at h1 h3
  refine ⟨fun j o x ho hx => ?_, fun j o e ho he hb => ?_, by rw [h1, h2]⟩
  · obtain ⟨a, b1, b2, _⟩ := h3 j o ho
    obtain ⟨a', c1, c2⟩ := ltd_iff.1 hx
    rw [b1] at c1; cases c1
    obtain ⟨e, e1, e2, e3⟩ := b2 x c2
    exact ⟨e, e1, e2, e3.imp id fun ⟨a', d1, d2⟩ => ltd_iff.2 ⟨a', d1, d2⟩⟩
  · obtain ⟨a, _, _, b3⟩ := h3 j o ho
    exact b3 e he hb
theorem Anc.at {l : List Oper} {an : List (List Nat)} (hA : Anc l an) {x j : Nat} (h : ltd an x j = true) : ∃ o, l[j]? = some o := by
  obtain ⟨a, h1, _⟩ := ltd_iff.1 h
  have hlt : j < l.length := by rw [← hA.len]; exact (List.getElem?_eq_some_iff.1 h1).1
  exact ⟨_, List.getElem?_eq_getElem hlt⟩
theorem Anc.ltd_lt {l : List Oper} {an : List (List Nat)} (hA : Anc l an) : ∀ (j x : Nat), ltd an x j = true → x < j := by
  intro j
  induction j using Nat.strongRecOn with
  | _ j ih =>
    intro x hx
    obtain ⟨o, ho⟩ := hA.at hx
    obtain ⟨e, h1, h2, h3⟩ := hA.mem j o x ho hx
    have hlt := hA.lt j o e ho h1 h2
    rcases h3 with rfl | h3
    · exact hlt
    · exact Nat.lt_trans (ih e.on hlt x h3) hlt
/-- what is closed under the edges is closed under what they order -/
theorem Anc.closed {l : List Oper} {an : List (List Nat)} (hA : Anc l an) {L : Nat → Prop} (hL : ∀ j o e, L j → l[j]? = some o → e ∈ o.after.toList → Region.binds .any e = true → L e.on) :
    ∀ (j x : Nat), L j → ltd an x j = true → L x := by
  intro j
  induction j using Nat.strongRecOn with
  | _ j ih =>
    intro x hj hx
    obtain ⟨o, ho⟩ := hA.at hx
    obtain ⟨e, h1, h2, h3⟩ := hA.mem j o x ho hx
    have he := hL j o e hj ho h1 h2
    rcases h3 with rfl | h3
    · exact he
    · exact ih e.on (hA.lt j o e ho h1 h2) x he h3
end Cw
