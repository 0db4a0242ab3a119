/-
  The drawn region: step by step in any order.
-/
import Derived.Test.YtmmlgodbknhijaaGreatDoorCwV
namespace Cw
open Go

theorem eraseP_get : ∀ (ks : List Nat) (pb : PB) (k : Nat), (eraseP pb ks).get k = if k ∈ ks then none else pb.get k
  | [], pb, k => by simp [eraseP]
  | x :: ks, pb, k => by
    simp only [eraseP, eraseP_get ks, T.get_set, List.mem_cons]
    by_cases h1 : k ∈ ks
    · simp [h1]
    · by_cases h2 : k = x <;> simp [h1, h2]
theorem keysOf_mem {rs : List Rec} {k : Nat} : ∀ {js : List Nat} {j : Nat} {r : Rec}, j ∈ js → rs[j]? = some r → r.key = some k → k ∈ keysOf rs js
  | [], j, r, h, _, _ => by simp at h
  | x :: js, j, r, h, hr, hk => by
    rcases List.mem_cons.1 h with rfl | h
    · simp only [keysOf, hr, hk]; exact List.mem_cons_self ..
    · have ih := keysOf_mem h hr hk
      simp only [keysOf]
      split
      · split
        · exact List.mem_cons_of_mem _ ih
        · exact ih
      · exact ih
theorem unOf_mem {an : List (List Nat)} {n i j : Nat} : j ∈ unOf an n i ↔ j < n ∧ j ≠ i ∧ ltd an j i = false ∧ ltd an i j = false := by
  simp only [unOf, List.mem_filter, List.mem_range, Bool.and_eq_true, Bool.not_eq_true']
  constructor
  · rintro ⟨h1, ⟨h2, h3⟩, h4⟩
    exact ⟨h1, fun e => by subst e; simp at h2, h3, h4⟩
  · rintro ⟨h1, h2, h3, h4⟩
    refine ⟨h1, ⟨?_, h3⟩, h4⟩
    cases hb : Nat.beq j i
    · rfl
    · exact absurd (Nat.eq_of_beq_eq_true hb) h2
theorem winOf_mem {os : List AOper} {o b : AOper} {i j : Nat} {us : List Nat} (hl : looks o.op = true) (hc : chains o.op = false) (hj : j ∈ us) (hb : os[j]? = some b) (hbc : chains b.op = true) :
    (if j < i then j else j + 1) ∈ winOf os o i us := by
  simp only [winOf, hl, hc, Bool.not_false, Bool.and_self, cond_true]
  refine List.mem_filterMap.2 ⟨j, hj, ?_⟩
  simp only [hb, hbc, cond_true]
  by_cases h : j < i
  · have : Nat.blt j i = true := by simpa using h
    simp [this, h]
  · have : Nat.blt j i = false := by
      cases hq : Nat.blt j i
      · rfl
      · exact absurd (by simpa using hq) h
    simp [this, h]

theorem drawChk_get {P : Program} {rs : List Rec} {hE : AH} : ∀ {rr : List Rec} {uw : List (List Nat × List Nat)}, drawChk P rs hE rr uw = true → ∀ (i : Nat) (r : Rec) (u : List Nat × List Nat), rr[i]? = some r → uw[i]? = some u →
    chk1 P r rs hE (keysOf rs u.1) u.2 = true
  | [], uw, _, i, r, u, hr, _ => by simp at hr
  | x :: rr, [], h, i, r, u, _, hu => by simp at hu
  | x :: rr, (us, ws) :: uw, h, i, r, u, hr, hu => by
    simp only [drawChk, Bool.and_eq_true] at h
    cases i with
    | zero =>
      simp only [List.getElem?_cons_zero, Option.some.injEq] at hr hu
      subst hr; subst hu
      exact h.1
    | succ i =>
      simp only [List.getElem?_cons_succ] at hr hu
      exact drawChk_get h.2 i r u hr hu
theorem uwOf_get {an : List (List Nat)} {os : List AOper} : ∀ {l : List AOper} {i0 i : Nat} {o : AOper}, l[i]? = some o → (uwOf an os l i0)[i]? = some (unOf an os.length (i0 + i), winOf os o (i0 + i) (unOf an os.length (i0 + i)))
  | [], i0, i, o, h => by simp at h
  | x :: l, i0, 0, o, h => by
    simp only [List.getElem?_cons_zero, Option.some.injEq] at h; subst h
    simp [uwOf]
  | x :: l, i0, i + 1, o, h => by
    simp only [List.getElem?_cons_succ] at h
    have := uwOf_get (an := an) (os := os) (i0 := i0 + 1) h
    simp only [uwOf, List.getElem?_cons_succ, this]
    rw [show i0 + 1 + i = i0 + (i + 1) by omega]
theorem again_spec {P : Program} {r : Rec} {pb : PB} {h : AH} (ha : again P r pb h = true) : ∃ pbx hx, stepOp P r.o r.t pb h = some (.ok r.v pbx hx) := by
  simp only [again] at ha
  split at ha
  · rename_i v pbx hx he
    exact ⟨pbx, hx, by rw [he, ovEq_spec ha]⟩
  · cases ha
theorem againAll_spec {P : Program} {r : Rec} {pb : PB} {rs : List Rec} {hE : AH} : ∀ {ps : List Nat}, againAll P r pb rs hE ps = true → ∀ p ∈ ps, ∃ pbx hx, stepOp P r.o r.t pb (hAt rs hE p) = some (.ok r.v pbx hx)
  | [], _, p, hp => by simp at hp
  | q :: ps, h, p, hp => by
    simp only [againAll, Bool.and_eq_true] at h
    rcases List.mem_cons.1 hp with rfl | hp
    · exact again_spec h.1
    · exact againAll_spec h.2 p hp

structure Inv (os : List AOper) (rs : List Rec) (t0 : T Value) (pbE : PB) (hE : AH) (L : Nat → Prop) (t : T Value) (pb : PB) (h : AH) : Prop where
  T1 : ∀ d j o r, os[j]? = some o → rs[j]? = some r → L j → o.dst = some d → t.get d = r.v
  T2 : ∀ d, (∀ j o, os[j]? = some o → L j → o.dst ≠ some d) → t.get d = t0.get d
  B : ∀ k i, i ≤ os.length → (∀ j r, rs[j]? = some r → r.key = some k → (L j ↔ j < i)) → pb.get k = (pbAt rs pbE i).get k
  H : ∀ i, i ≤ os.length → (∀ j o, os[j]? = some o → chains o.op = true → (L j ↔ j < i)) → h = hAt rs hE i

section
variable {P : Program} {os : List AOper} {rs : List Rec} {t0 : T Value} {pb0 : PB} {h0 : AH} {tE : T Value} {pbE : PB} {hE : AH} {l : List Oper} {an : List (List Nat)}

theorem stat_pair (hst : drawStat an os = true) {i j : Nat} {a b : AOper} (hij : i < j) (ha : os[i]? = some a) (hb : os[j]? = some b) : dupOk a b = true ∧ (ltd an i j = true ∨ pairOk a b = true) := by
  simp only [drawStat, List.all_eq_true, List.mem_range] at hst
  have hlt : j < os.length := (List.getElem?_eq_some_iff.1 hb).1
  have := hst j hlt i hij
  simpa [ha, hb] using this

theorem looks_chains {op : AOp} (hl : looks op = false) : chains op = false := by
  cases op <;> first | rfl | (simp [looks] at hl; done)
theorem evM_ldKey {P : Program} {op : AOp} {xs : List (Option Value)} {k : Nat} {v : Option Value} {pb pb2 pb' : PB} {h h2 h' : AH} (hp : ldKey op xs = some k) (he : pb2.get k = pb.get k)
    (hev : evM P op xs pb h = some (.ok v pb' h')) : evM P op xs pb2 h2 = some (.ok v pb2 h2) ∧ opKey op xs = none ∧ chains op = false := by
  simp only [ldKey] at hp
  split at hp
  case h_2 => cases hp
  split at hp
  case h_2 => cases hp
  rename_i k0 off
  simp only [Option.some.injEq] at hp; subst hp
  simp only [evM, k_load, cellsAt] at hev ⊢
  rw [he]
  refine ⟨?_, rfl, rfl⟩
  cases hc : pb.get k0 with
  | none => rw [hc] at hev; cases hev
  | some vs =>
    rw [hc] at hev
    simp only [valO] at hev ⊢
    split at hev
    · rename_i u hu
      simp only [Option.some.injEq, OR.ok.injEq] at hev
      rw [← hev.1]
    · cases hev
theorem evM_ldHeap {P : Program} {op : AOp} {xs : List (Option Value)} {v : Option Value} {pb pb' : PB} {h h' : AH} (hp : ldHeap op xs = true) (pb2 : PB)
    (hev : evM P op xs pb h = some (.ok v pb' h')) : evM P op xs pb2 h = some (.ok v pb2 h') ∧ opKey op xs = none := by
  simp only [ldHeap] at hp
  split at hp
  case h_2 => cases hp
  split at hp
  case h_2 => cases hp
  rename_i k0 off
  simp only [evM, k_load, cellsAt] at hev ⊢
  refine ⟨?_, rfl⟩
  split at hev
  case h_2 => cases hev
  rename_i vs hvs
  simp only [valO] at hev ⊢
  split at hev
  · simp only [Option.some.injEq, OR.ok.injEq] at hev
    rw [hev.1, hev.2.2]
  · cases hev
theorem stepOp_pload {P : Program} {o : AOper} {t : T Value} {k : Nat} {v : Option Value} {pb pb2 pb' : PB} {h h2 h' : AH} (hp : pload o t = some k) (he : pb2.get k = pb.get k)
    (hev : stepOp P o t pb h = some (.ok v pb' h')) : stepOp P o t pb2 h2 = some (.ok v pb2 h2) ∧ stepKey o t = none ∧ chains o.op = false := by
  unfold stepOp at hev ⊢
  unfold pload at hp
  unfold stepKey
  simp only [evMf_eq] at hev ⊢
  cases hg : o.guard with
  | none => simp only [hg] at hev hp ⊢; exact evM_ldKey hp he hev
  | some gw =>
    obtain ⟨g, want⟩ := gw
    simp only [hg] at hev hp ⊢
    split at hp
    case h_2 => cases hp
    rename_i b hb
    simp only [hb] at hev ⊢
    cases hbw : b == want
    · simp [hbw] at hp
    · simp only [hbw, cond_true] at hev hp ⊢
      exact evM_ldKey hp he hev
theorem stepOp_free {P : Program} {o : AOper} {t : T Value} {v : Option Value} {pb pb' : PB} {h h' : AH} (hp : boxFree o t = true) (pb2 : PB)
    (hev : stepOp P o t pb h = some (.ok v pb' h')) : stepOp P o t pb2 h = some (.ok v pb2 h') ∧ stepKey o t = none := by
  cases hu : usesPb o.op
  · rcases stepOp_cases P o t with ⟨h1, h3⟩ | ⟨h1, h3⟩ | h1
    · rw [h1] at hev ⊢
      rw [evM_pb hu _ pb pb2 h, hev]
      exact ⟨rfl, by rw [h3]; exact opKey_none hu _⟩
    · rw [h1] at hev ⊢; cases hev; exact ⟨rfl, h3⟩
    · rw [h1] at hev; cases hev
  · unfold stepOp at hev ⊢
    simp only [boxFree, hu] at hp
    unfold stepKey
    simp only [evMf_eq] at hev ⊢
    cases hg : o.guard with
    | none => simp only [hg] at hev hp ⊢; exact evM_ldHeap hp pb2 hev
    | some gw =>
      obtain ⟨g, want⟩ := gw
      simp only [hg] at hev hp ⊢
      split at hp
      case h_2 => cases hp
      rename_i b hb
      simp only [hb] at hev ⊢
      cases hbw : b == want
      · simp only [hbw, cond_false, Option.some.injEq, OR.ok.injEq] at hev ⊢
        obtain ⟨rfl, rfl, rfl⟩ := hev
        exact ⟨by simp, by simp⟩
      · simp only [hbw, cond_true] at hev hp ⊢
        exact evM_ldHeap hp pb2 hev

theorem draw_val (hR : Run P os rs t0 pb0 h0 tE pbE hE) (hA : Anc l an) (hst : drawStat an os = true) (hchk : drawChk P rs hE rs (uwOf an os os 0) = true)
    {L : Nat → Prop} {t : T Value} {pb : PB} {h : AH} (hI : Inv os rs t0 pbE hE L t pb h) (hcl : ∀ j x, L j → ltd an x j = true → L x) {i : Nat} {o : AOper} {r : Rec}
    (ho : os[i]? = some o) (hr : rs[i]? = some r) (hni : ¬ L i) (hanc : ∀ x, ltd an x i = true → L x) (hlt : ∀ j, L j → j < os.length) :
    ∃ pb' h', stepOp P o t pb h = some (.ok r.v pb' h') ∧ (∀ k, r.key = some k → pb'.get k = (pbAt rs pbE (i + 1)).get k) ∧ (∀ k, r.key ≠ some k → pb'.get k = pb.get k) ∧
      (chains o.op = true → h' = hAt rs hE (i + 1)) ∧ (chains o.op = false → h' = h) ∧ (∀ k j rj, r.key = some k → rs[j]? = some rj → rj.key = some k → j ∉ unOf an os.length i) := by
  have hil : i < os.length := (List.getElem?_eq_some_iff.1 ho).1
  obtain ⟨g1, g2, g3, g4⟩ := hR.step i o r ho hr
  -- what is ordered against i
  have hord : ∀ j, j < os.length → j ∉ unOf an os.length i → (L j ↔ j < i) := by
    intro j hj hju
    by_cases e : j = i
    · subst e; exact ⟨fun h => absurd h hni, fun h => absurd h (Nat.lt_irrefl _)⟩
    · have : ltd an j i = true ∨ ltd an i j = true := by
        cases h1 : ltd an j i
        · cases h2 : ltd an i j
          · exact absurd (unOf_mem.2 ⟨hj, e, h1, h2⟩) hju
          · exact .inr rfl
        · exact .inl rfl
      rcases this with h1 | h1
      · exact ⟨fun _ => hA.ltd_lt i j h1, fun _ => hanc j h1⟩
      · have h2 := hA.ltd_lt j i h1
        exact ⟨fun hL => absurd (hcl j i hL h1) hni, fun h3 => by omega⟩
  -- the checks
  generalize hus : unOf an os.length i = us at hord
  have hchk' := drawChk_get hchk i r _ hr (by have := uwOf_get (an := an) (os := os) (i0 := 0) ho; rwa [Nat.zero_add, hus] at this)
  simp only at hchk'
  generalize hks : keysOf rs us = ks at hchk'
  have hkus : ∀ k j rj, rs[j]? = some rj → rj.key = some k → k ∉ ks → j ∉ us := fun k j rj h1 h2 h3 h4 => h3 (hks ▸ keysOf_mem h4 h1 h2)
  -- boxes
  have hpb : ∀ k, k ∉ ks → pb.get k = r.pb.get k := by
    intro k hk
    have := hI.B k i (Nat.le_of_lt hil) (fun j rj hj hkj => hord j (by rw [← hR.len]; exact (List.getElem?_eq_some_iff.1 hj).1) (hkus k j rj hj hkj hk))
    rw [this, pbAt_rec hr]
  -- slots
  have hslots : ∀ d ∈ slots o, t.get d = r.t.get d := by
    intro d hd
    obtain ⟨s1, s2⟩ := hR.slot (fun i j a b hij ha hb => (stat_pair hst hij ha hb).1) d i (Nat.le_of_lt hil)
    rw [tAt_rec hr] at s1 s2
    by_cases hw : ∃ j oj, j < i ∧ os[j]? = some oj ∧ oj.dst = some d
    · obtain ⟨j, oj, hji, hoj, hdj⟩ := hw
      obtain ⟨rj, hrj⟩ := hR.recAt hoj
      have hL : L j := by
        rcases (stat_pair hst hji hoj ho).2 with h1 | h1
        · exact hanc j h1
        · simp only [pairOk, hdj, Bool.and_eq_true, Bool.not_eq_true'] at h1
          have := List.elem_iff.2 hd
          rw [h1.1.1.1] at this; cases this
      rw [s1 j oj rj hji hoj hrj hdj, hI.T1 d j oj rj hoj hrj hL hdj]
    · rw [s2 (fun j oj hji hoj hdj => hw ⟨j, oj, hji, hoj, hdj⟩)]
      refine hI.T2 d (fun j oj hoj hL hdj => ?_)
      rcases Nat.lt_trichotomy j i with h1 | h1 | h1
      · exact hw ⟨j, oj, h1, hoj, hdj⟩
      · subst h1; exact hni hL
      · rcases (stat_pair hst h1 ho hoj).2 with h2 | h2
        · exact hni (hcl j i hL h2)
        · simp only [pairOk, hdj, Bool.and_eq_true, Bool.not_eq_true'] at h2
          have := List.elem_iff.2 hd
          rw [h2.1.2] at this; cases this
  rw [chk1, g1] at hchk'
  cases hlk : looks o.op
  · obtain ⟨q1, q2⟩ := stepOp_look hlk g3 pb h
    have q3 : chains o.op = false := looks_chains hlk
    rw [(stepOp_cong hslots pb h).1]
    have hn : r.key = none := by rw [g2, q2]
    exact ⟨pb, h, q1, fun k hk => (by rw [hn] at hk; cases hk), fun _ _ => rfl, fun e => (by rw [q3] at e; cases e), fun _ => rfl, fun k j rj h1 => (by rw [hn] at h1; cases h1)⟩
  simp only [hlk] at hchk'
  cases hpl : pload o r.t with
  | some k =>
    simp only [hpl] at hchk'
    have hk : k ∉ ks := by
      intro hm
      simp only [keyOut, Bool.not_eq_true'] at hchk'
      have := List.elem_iff.2 hm
      rw [hchk'] at this; cases this
    obtain ⟨q1, q2, q3⟩ := stepOp_pload (pb2 := pb) (h2 := h) hpl (hpb k hk) g3
    rw [(stepOp_cong hslots pb h).1]
    have hn : r.key = none := by rw [g2, q2]
    exact ⟨pb, h, q1, fun k hk => (by rw [hn] at hk; cases hk), fun _ _ => rfl, fun e => (by rw [q3] at e; cases e), fun _ => rfl, fun k j rj h1 => (by rw [hn] at h1; cases h1)⟩
  | none =>
  simp only [hpl] at hchk'
  have hC : (∀ k, r.key = some k → k ∉ ks) ∧ (∃ pbx hx, stepOp P o r.t (eraseP r.pb ks) r.h = some (.ok r.v pbx hx)) ∧
      (∀ p ∈ winOf os o i us, ∃ pbx hx, stepOp P o r.t (eraseP r.pb ks) (hAt rs hE p) = some (.ok r.v pbx hx)) := by
    cases hbf : ks.isEmpty || boxFree o r.t
    · simp only [hbf, Bool.and_eq_true] at hchk'
      refine ⟨?_, ?_, ?_⟩
      · intro k hk hm
        have h1 := hchk'.1.1
        rw [hk] at h1
        simp only [keyOut, Bool.not_eq_true'] at h1
        have := List.elem_iff.2 hm
        rw [h1] at this; cases this
      · have := again_spec hchk'.1.2; rwa [g1] at this
      · intro p hp
        have := againAll_spec hchk'.2 p hp; rwa [g1] at this
    · simp only [hbf] at hchk'
      have hA2 : ∀ p ∈ winOf os o i us, ∃ pbx hx, stepOp P o r.t r.pb (hAt rs hE p) = some (.ok r.v pbx hx) := by
        intro p hp
        have := againAll_spec hchk' p hp; rwa [g1] at this
      rcases Bool.or_eq_true _ _ |>.mp hbf with hb | hb
      · have hk0 : ks = [] := by simpa using hb
        subst hk0
        exact ⟨fun k _ hm => (by simp at hm), ⟨_, _, g3⟩, hA2⟩
      · refine ⟨fun k hk => ?_, ⟨_, _, (stepOp_free hb _ g3).1⟩, fun p hp => ?_⟩
        · rw [g2, (stepOp_free hb r.pb g3).2] at hk; cases hk
        · obtain ⟨pbx, hx, e⟩ := hA2 p hp
          exact ⟨_, _, (stepOp_free hb _ e).1⟩
  obtain ⟨C0, C1, C2⟩ := hC
  have hle : ∀ k, (eraseP r.pb ks).get k = none ∨ pb.get k = (eraseP r.pb ks).get k := by
    intro k
    rw [eraseP_get]
    by_cases hk : k ∈ ks
    · simp [hk]
    · simp only [hk, if_false]; exact .inr (hpb k hk)
  have hkey : ∀ k, stepKey o r.t = some k → pb.get k = (eraseP r.pb ks).get k := by
    intro k hk
    rw [← g2] at hk
    have := C0 k hk
    rw [eraseP_get, if_neg this]; exact hpb k this
  have hle0 : ∀ k, (eraseP r.pb ks).get k = none ∨ r.pb.get k = (eraseP r.pb ks).get k := by
    intro k
    rw [eraseP_get]
    by_cases hk : k ∈ ks
    · simp [hk]
    · simp [hk]
  have hkey0 : ∀ k, stepKey o r.t = some k → r.pb.get k = (eraseP r.pb ks).get k := by
    intro k hk
    rw [← g2] at hk
    rw [eraseP_get, if_neg (C0 k hk)]
  rw [(stepOp_cong hslots pb h).1]
  obtain ⟨pbx, hx, hX⟩ := C1
  obtain ⟨pbt, e1, e2, e3⟩ := stepOp_mono hle0 hkey0 hX
  rw [g3] at e1
  simp only [Option.some.injEq, OR.ok.injEq, true_and] at e1
  obtain ⟨e1, rfl⟩ := e1
  have hxk : ∀ k, r.key = some k → pbx.get k = (pbAt rs pbE (i + 1)).get k := fun k hk => by rw [e1, e2 k (g2 ▸ hk)]
  have hlast : ∀ k j rj, r.key = some k → rs[j]? = some rj → rj.key = some k → j ∉ us := fun k j rj h1 h2 h3 => hkus k j rj h2 h3 (C0 k h1)
  -- finish from a run with the fewer boxes
  have fin : ∀ h2, h = h2 → ∀ pby hy, stepOp P o r.t (eraseP r.pb ks) h2 = some (.ok r.v pby hy) → (∀ k, r.key = some k → pby.get k = pbx.get k) → (chains o.op = true → hy = hAt rs hE (i + 1)) → (chains o.op = false → hy = h2) →
      ∃ pb' h', stepOp P o r.t pb h = some (.ok r.v pb' h') ∧ (∀ k, r.key = some k → pb'.get k = (pbAt rs pbE (i + 1)).get k) ∧ (∀ k, r.key ≠ some k → pb'.get k = pb.get k) ∧
      (chains o.op = true → h' = hAt rs hE (i + 1)) ∧ (chains o.op = false → h' = h) ∧ (∀ k j rj, r.key = some k → rs[j]? = some rj → rj.key = some k → j ∉ us) := by
    intro h2 e pby hy hs hk hc1 hc2
    subst e
    obtain ⟨pb', f1, f2, f3⟩ := stepOp_mono hle hkey hs
    exact ⟨pb', hy, f1, fun k hk' => by rw [f2 k (g2 ▸ hk'), hk k hk', hxk k hk'], fun k hk' => f3 k (g2 ▸ hk'), hc1, hc2, hlast⟩
  cases hc : chains o.op
  · -- no chain
    cases hl : looks o.op
    · obtain ⟨q1, q2⟩ := stepOp_look hl g3 pb h
      exact ⟨pb, h, q1, fun k hk => (by rw [g2, q2] at hk; cases hk), fun _ _ => rfl, fun e => (by cases e), fun _ => rfl, hlast⟩
    · -- where is the heap?
      have hpos : h = r.h ∨ ∃ p ∈ winOf os o i us, h = hAt rs hE p := by
        have hex : ∃ q, q ≤ os.length ∧ h = hAt rs hE q ∧ (q = 0 ∨ ∃ m b, q = m + 1 ∧ os[m]? = some b ∧ chains b.op = true ∧ L m) ∧ (∀ j b, q ≤ j → os[j]? = some b → chains b.op = true → ¬ L j) := by
          -- the last of the chain that is done
          have : ∀ n, n ≤ os.length → ∃ q, q ≤ n ∧ (q = 0 ∨ ∃ m b, q = m + 1 ∧ os[m]? = some b ∧ chains b.op = true ∧ L m) ∧ (∀ j b, q ≤ j → j < n → os[j]? = some b → chains b.op = true → ¬ L j) := by
            intro n
            induction n with
            | zero => intro _; exact ⟨0, Nat.le_refl _, .inl rfl, fun j b _ h => absurd h (Nat.not_lt_zero _)⟩
            | succ n ih =>
              intro hn
              obtain ⟨q, q1, q2, q3⟩ := ih (by omega)
              by_cases hm : ∃ b, os[n]? = some b ∧ chains b.op = true ∧ L n
              · obtain ⟨b, b1, b2, b3⟩ := hm
                exact ⟨n + 1, Nat.le_refl _, .inr ⟨n, b, rfl, b1, b2, b3⟩, fun j b h1 h2 => by omega⟩
              · refine ⟨q, by omega, q2, fun j b h1 h2 h3 h4 h5 => ?_⟩
                rcases Nat.lt_or_ge j n with h6 | h6
                · exact q3 j b h1 h6 h3 h4 h5
                · have : j = n := by omega
                  subst this
                  exact hm ⟨b, h3, h4, h5⟩
          obtain ⟨q, q1, q2, q3⟩ := this os.length (Nat.le_refl _)
          have q3' : ∀ j b, q ≤ j → os[j]? = some b → chains b.op = true → ¬ L j := fun j b h1 h2 => q3 j b h1 (List.getElem?_eq_some_iff.1 h2).1 h2
          refine ⟨q, q1, hI.H q q1 (fun j b hb hbc => ⟨fun hL => ?_, fun hj => ?_⟩), q2, q3'⟩
          · rcases Nat.lt_or_ge j q with h1 | h1
            · exact h1
            · exact absurd hL (q3' j b h1 hb hbc)
          · rcases q2 with rfl | ⟨m, c, rfl, hm1, hm2, hm3⟩
            · omega
            · by_cases e : j = m
              · subst e; exact hm3
              · rcases (stat_pair hst (show j < m by omega) hb hm1).2 with h1 | h1
                · exact hcl m j hm3 h1
                · simp [pairOk, hbc, hm2] at h1
        obtain ⟨q, q1, q2, q3, q4⟩ := hex
        have hun : ∀ j b, os[j]? = some b → chains b.op = true → j ≠ i → (j < i → ¬ L j) → (i < j → L j) → j ∈ us := by
          intro j b hb hbc hne h1 h2
          rw [← hus]
          refine unOf_mem.2 ⟨(List.getElem?_eq_some_iff.1 hb).1, hne, ?_, ?_⟩
          · cases hq : ltd an j i
            · rfl
            · exact absurd (hanc j hq) (h1 (hA.ltd_lt i j hq))
          · cases hq : ltd an i j
            · rfl
            · exact absurd (hcl j i (h2 (hA.ltd_lt j i hq)) hq) hni
        rcases Nat.lt_or_ge i q with hiq | hqi
        · -- the last one done stands behind i
          rcases q3 with rfl | ⟨m, b, rfl, hm1, hm2, hm3⟩
          · omega
          · have hne : m ≠ i := fun e => hni (e ▸ hm3)
            have hmi : ¬ m < i := by omega
            have := winOf_mem (i := i) hl hc (hun m b hm1 hm2 hne (fun h => absurd h hmi) (fun _ => hm3)) hm1 hm2
            rw [if_neg hmi] at this
            exact .inr ⟨m + 1, this, q2⟩
        · -- is one of the chain between?
          have : ∀ m, q + m ≤ i → (∃ j b, q ≤ j ∧ j < q + m ∧ os[j]? = some b ∧ chains b.op = true ∧ hAt rs hE j = hAt rs hE q) ∨ (∀ j b, q ≤ j → j < q + m → os[j]? = some b → chains b.op = false) := by
            intro m
            induction m with
            | zero => intro _; exact .inr fun j b h1 h2 => by omega
            | succ m ih =>
              intro hm
              rcases ih (by omega) with ⟨j, b, h1, h2, h3⟩ | hno
              · exact .inl ⟨j, b, h1, by omega, h3⟩
              · obtain ⟨b, rb, hb, _⟩ := hR.opAt (j := q + m) (by omega)
                cases hbc : chains b.op
                · refine .inr fun j c h1 h2 h3 => ?_
                  rcases Nat.lt_or_ge j (q + m) with h4 | h4
                  · exact hno j c h1 h4 h3
                  · have : j = q + m := by omega
                    subst this
                    rw [hb] at h3; cases h3; exact hbc
                · exact .inl ⟨q + m, b, by omega, by omega, hb, hbc, hR.hKeep q m (by omega) (fun j c h1 h2 h3 => hno j c h1 h2 h3)⟩
          rcases this (i - q) (by omega) with ⟨j, b, h1, h2, h3, h4, h5⟩ | hno
          · have hji : j < i := by omega
            have := winOf_mem (i := i) hl hc (hun j b h3 h4 (by omega) (fun _ => q4 j b h1 h3 h4) (fun h => by omega)) h3 h4
            rw [if_pos hji] at this
            exact .inr ⟨j, this, by rw [q2, h5]⟩
          · have := hR.hKeep q (i - q) (by omega) (fun j c h1 h2 h3 => hno j c h1 h2 h3)
            rw [show q + (i - q) = i by omega, hAt_rec hr] at this
            exact .inl (by rw [q2, this])
      cases hkk : stepKey o r.t with
      | some k =>
        have := stepOp_keyed hc hkk hX h
        have hf := fin h rfl pbx h this (fun _ _ => rfl) (fun e => by rw [hc] at e; cases e) (fun _ => rfl)
        rwa [hc] at hf
      | none =>
        have hget : ∃ pby hy, stepOp P o r.t (eraseP r.pb ks) h = some (.ok r.v pby hy) := by
          rcases hpos with e | ⟨p, hp, e⟩
          · rw [e]; exact ⟨_, _, hX⟩
          · rw [e]; exact C2 p hp
        obtain ⟨pby, hy, hY⟩ := hget
        have hf := fin h rfl pby hy hY (fun k hk => by rw [g2, hkk] at hk; cases hk) (fun e => by rw [hc] at e; cases e) (fun _ => stepOp_chain hc hY)
        rwa [hc] at hf
  · -- of the chain
    have hh : h = r.h := by
      have := hI.H i (Nat.le_of_lt hil) (fun j b hb hbc => hord j (List.getElem?_eq_some_iff.1 hb).1 (fun hju => by
        obtain ⟨_, u1, u2, u3⟩ := unOf_mem.1 (hus ▸ hju)
        rcases Nat.lt_trichotomy j i with h1 | h1 | h1
        · rcases (stat_pair hst h1 hb ho).2 with h2 | h2
          · rw [h2] at u2; cases u2
          · simp [pairOk, hbc, hc] at h2
        · exact u1 h1
        · rcases (stat_pair hst h1 ho hb).2 with h2 | h2
          · rw [h2] at u3; cases u3
          · simp [pairOk, hbc, hc] at h2))
      rw [this, hAt_rec hr]
    have hf := fin r.h hh pbx _ hX (fun _ _ => rfl) (fun _ => rfl) (fun e => by rw [hc] at e; cases e)
    rwa [hc] at hf

theorem draw_inv (hR : Run P os rs t0 pb0 h0 tE pbE hE) (hA : Anc l an) (hst : drawStat an os = true) {L : Nat → Prop} {t : T Value} {pb pb' : PB} {h h' : AH} (hI : Inv os rs t0 pbE hE L t pb h)
    (hcl : ∀ j x, L j → ltd an x j = true → L x) {i : Nat} {o : AOper} {r : Rec} (ho : os[i]? = some o) (hr : rs[i]? = some r) (hni : ¬ L i) (hanc : ∀ x, ltd an x i = true → L x)
    (h2 : ∀ k, r.key = some k → pb'.get k = (pbAt rs pbE (i + 1)).get k) (h3 : ∀ k, r.key ≠ some k → pb'.get k = pb.get k)
    (h4 : chains o.op = true → h' = hAt rs hE (i + 1)) (h5 : chains o.op = false → h' = h) (h6 : ∀ k j rj, r.key = some k → rs[j]? = some rj → rj.key = some k → j ∉ unOf an os.length i) :
    Inv os rs t0 pbE hE (fun j => L j ∨ j = i) (putT t o.dst r.v) pb' h' := by
  have hil : i < os.length := (List.getElem?_eq_some_iff.1 ho).1
  have hget : ∀ d, (putT t o.dst r.v).get d = if o.dst = some d then r.v else t.get d := by
    intro d
    cases hx : o.dst with
    | none => simp [putT]
    | some e =>
      simp only [putT, T.get_set, Option.some.injEq]
      by_cases q : d = e
      · simp [q]
      · rw [if_neg q, if_neg (fun q2 => q q2.symm)]
  constructor
  · intro d j oj rj hoj hrj hL hd
    rw [hget]
    rcases hL with hL | rfl
    · by_cases hod : o.dst = some d
      · have hne : j ≠ i := fun e => hni (e ▸ hL)
        rcases Nat.lt_or_gt_of_ne hne with q | q
        · have := (stat_pair hst q hoj ho).1
          simp [dupOk, hod, hd] at this
        · have := (stat_pair hst q ho hoj).1
          simp [dupOk, hod, hd] at this
      · rw [if_neg hod]; exact hI.T1 d j oj rj hoj hrj hL hd
    · rw [ho] at hoj; cases hoj
      rw [hr] at hrj; cases hrj
      rw [if_pos hd]
  · intro d hno
    rw [hget, if_neg (hno i o ho (.inr rfl))]
    exact hI.T2 d (fun j oj hoj hL => hno j oj hoj (.inl hL))
  · intro k i' hi' hp
    by_cases hk : r.key = some k
    · have hii : i < i' := (hp i r hr hk).1 (.inr rfl)
      rw [h2 k hk]
      have := hR.pbKeep k (i + 1) (i' - (i + 1)) (by omega) (fun j rj q1 q2 hrj hkj => by
        have hji : j < i' := by omega
        rcases (hp j rj hrj hkj).2 hji with hL | e
        · have hnu := h6 k j rj hk hrj hkj
          have hjl : j < os.length := by omega
          cases q : ltd an j i
          · cases q' : ltd an i j
            · exact hnu (unOf_mem.2 ⟨hjl, by omega, q, q'⟩)
            · exact hni (hcl j i hL q')
          · have := hA.ltd_lt i j q; omega
        · omega)
      rw [show i + 1 + (i' - (i + 1)) = i' by omega] at this
      exact this.symm
    · rw [h3 k hk]
      refine hI.B k i' hi' (fun j rj hrj hkj => ?_)
      have := hp j rj hrj hkj
      have hne : j ≠ i := fun e => by subst e; rw [hr] at hrj; cases hrj; exact hk hkj
      constructor
      · exact fun hL => this.1 (.inl hL)
      · exact fun hj => (this.2 hj).resolve_right hne
  · intro i' hi' hp
    cases hc : chains o.op
    · rw [h5 hc]
      refine hI.H i' hi' (fun j oj hoj hcj => ?_)
      have := hp j oj hoj hcj
      have hne : j ≠ i := fun e => by subst e; rw [ho] at hoj; cases hoj; rw [hc] at hcj; cases hcj
      exact ⟨fun hL => this.1 (.inl hL), fun hj => (this.2 hj).resolve_right hne⟩
    · rw [h4 hc]
      have hii : i < i' := (hp i o ho hc).1 (.inr rfl)
      have := hR.hKeep (i + 1) (i' - (i + 1)) (by omega) (fun j oj q1 q2 hoj => by
        cases hcj : chains oj.op
        · rfl
        · have hji : j < i' := by omega
          rcases (hp j oj hoj hcj).2 hji with hL | e
          · rcases (stat_pair hst (show i < j by omega) ho hoj).2 with q | q
            · exact absurd (hcl j i hL q) hni
            · simp [pairOk, hc, hcj] at q
          · omega)
      rw [show i + 1 + (i' - (i + 1)) = i' by omega] at this
      exact this.symm

theorem SR.congr {n N0 : Nat} {ρ : Rho} {π : Pi} {t t' : T Value} {pb pb' : PB} {df : List ADef} {h : AH} {a : Act} {w : World} (hS : SR P n N0 ρ π ⟨t, pb, df, h⟩ a w) (ht : ∀ d, t'.get d = t.get d) (hp : ∀ k, pb'.get k = pb.get k) :
    SR P n N0 ρ π ⟨t', pb', df, h⟩ a w where
  r := hS.r
  p := ⟨fun k vs hk => hS.p.box k vs (by rw [← hp]; exact hk), fun k k' vs vs' hkk h1 h2 => hS.p.inj k k' vs vs' hkk (by rw [← hp]; exact h1) (by rw [← hp]; exact h2), fun k vs b i o s hk => hS.p.apart k vs b i o s (by rw [← hp]; exact hk)⟩
  t := fun m v hm => by
    obtain ⟨c, c1, c2⟩ := hS.t m v (by rw [← ht]; exact hm)
    refine ⟨c, c1, ?_⟩
    cases c2 with
    | v _ _ hv => exact .v _ _ hv
    | ptr k o b hb hq => exact .ptr k o b hb (by rw [hp]; exact hq)
    | slice k o m' c' b hb hq hle => exact .slice k o m' c' b hb (by rw [hp]; exact hq) hle
  sz := hS.sz
  d := hS.d
  n0 := hS.n0
  pl := hS.pl
theorem RP.drawn {ρ : Rho} {π : Pi} {h : AH} {pb : PB} {w : World} (hP : RP ρ π h pb w) (m : Nat) : RP ρ π h pb { w with drawn := m } := ⟨hP.box, hP.inj, hP.apart⟩
theorem Stp.drawn (ρ : Rho) (π : Pi) (h : AH) (w : World) (m : Nat) : Stp ρ π h w ρ π h { w with drawn := m } :=
  ⟨Ext.refl ρ, Nat.le_refl _, fun _ _ _ _ => rfl, fun _ h => .inl h, fun _ _ h => .inl h, fun _ _ h _ => h, Nat.le_refl _, rfl, rfl, rfl⟩

theorem elabOpers_get {H : Hints} {ops : Array Oper} : ∀ {l : List Oper} {os : List AOper}, elabOpers P H ops l = some os → os.length = l.length ∧ ∀ (i : Nat) (o : Oper), l[i]? = some o → ∃ ao, os[i]? = some ao ∧ elabOper P H ops o = some ao
  | [], os, h => by simp only [elabOpers, Option.some.injEq] at h; subst h; exact ⟨rfl, fun i o ho => by simp at ho⟩
  | o :: l, os, h => by
    obtain ⟨ao, aos, rfl, h1, h2⟩ := elabOpers_cons h
    obtain ⟨g1, g2⟩ := elabOpers_get h2
    refine ⟨by simp [g1], fun i o' ho' => ?_⟩
    cases i with
    | zero => simp only [List.getElem?_cons_zero, Option.some.injEq] at ho'; subst ho'; exact ⟨ao, rfl, h1⟩
    | succ i => simp only [List.getElem?_cons_succ] at ho'; exact g2 i o' ho'
theorem dstOk_get {n : Nat} : ∀ {os : List AOper}, dstOk n os = true → ∀ (i : Nat) (o : AOper), os[i]? = some o → ∀ d, o.dst = some d → d < n
  | [], _, i, o, h => by simp at h
  | x :: os, h, i, o, ho => by
    simp only [dstOk, Bool.and_eq_true] at h
    cases i with
    | zero =>
      simp only [List.getElem?_cons_zero, Option.some.injEq] at ho; subst ho
      intro d e
      have := h.1; rw [e] at this
      simpa using this
    | succ i => simp only [List.getElem?_cons_succ] at ho; exact dstOk_get h.2 i o ho

theorem draw_wp {H : Hints} {n N0 : Nat} (hH : HOk P H) (hm : P.follows .mixedOrders = true) {ops : Array Oper} {os : List AOper} {uw : List (List Nat × List Nat)} (he : elabDraw P H ops = some (os, uw)) (hd : dstOk n os = true)
    {s s' : St} {x : Xit} (hev : evDraw P os uw s = some (x, s')) {ρ : Rho} {π : Pi} {a : Act} {w : World} (hS : SR P n N0 ρ π s a w) {Q : Exit → Act → World → Prop} (hQ : Post P n N0 ρ π s w x s' Q) (id : Nat) :
    (Code.region id ops true).wp P Q a w := by
  simp only [elabDraw] at he
  split at he
  case h_2 => cases he
  case h_1 os' an hos han =>
  cases hst : drawStat an os'
  · simp [hst] at he
  simp only [hst, cond_true, Option.some.injEq, Prod.mk.injEq] at he
  obtain ⟨rfl, rfl⟩ := he
  simp only [evDraw] at hev
  split at hev
  case h_2 => cases hev
  case h_1 rs tE pbE hE hdr =>
  cases hchk : drawChk P rs hE rs (uwOf an os' os' 0)
  · simp [hchk] at hev
  simp only [hchk, cond_true, Option.some.injEq, Prod.mk.injEq] at hev
  obtain ⟨rfl, rfl⟩ := hev
  have hR := drawRun_spec _ _ _ _ _ _ _ _ hdr
  have hA := ancs_anc han
  obtain ⟨hlen, hget⟩ := elabOpers_get hos
  have hsz : os'.length = ops.size := by rw [hlen]; simp
  have hdst := dstOk_get hd
  have ho? : ∀ (i : Nat) (o : Oper), ops[i]? = some o → ops.toList[i]? = some o := fun i o h => by simpa using h
  refine wp_region_any hm ?_
  have key : ∀ (fuel : Nat) (listed : Array Bool) (t : T Value) (pb : PB) (h : AH) (ρ' : Rho) (π' : Pi) (a' : Act) (w' : World), listed.size = ops.size → listed.toList.count false ≤ fuel →
      (∀ (j : Nat) (o : Oper) (e : Edge), listed[j]? = some true → ops.toList[j]? = some o → e ∈ o.after.toList → Region.binds .any e = true → listed[e.on]? = some true) →
      SR P n N0 ρ' π' ⟨t, pb, s.df, h⟩ a' w' → Stp ρ π s.h w ρ' π' h w' → Inv os' rs s.t pbE hE (fun j => listed[j]? = some true) t pb h → wpAny P .any ops Q fuel listed a' w' := by
    intro fuel
    induction fuel with
    | zero =>
      intro listed t pb h ρ' π' a' w' hls hcnt hcl hS' hst' hI
      have hall : ∀ j, j < ops.size → listed[j]? = some true := by
        intro j hj
        have hj' : j < listed.size := by omega
        rw [Array.getElem?_eq_getElem hj']
        have h0 := List.count_eq_zero.1 (Nat.le_zero.1 hcnt)
        cases hq : listed[j] with
        | true => rfl
        | false => exact absurd (by rw [← hq]; simp) h0
      have hr : Region.ready .any ops listed = [] := by
        cases hq : Region.ready .any ops listed with
        | nil => rfl
        | cons i is =>
          have : i ∈ Region.ready .any ops listed := by rw [hq]; exact List.mem_cons_self ..
          obtain ⟨h1, o, h2, _⟩ := mem_ready.1 this
          have hi : i < ops.size := (Array.getElem?_eq_some_iff.1 h2).1
          have := hall i hi
          simp [Array.getD_eq_getD_getElem?, this] at h1
      refine ⟨hr, ?_⟩
      refine hQ ρ' π' a' w' .normal ?_ ?_ trivial
      · have eh : h = hE := by
          have := hI.H os'.length (Nat.le_refl _) (fun j o ho _ => ⟨fun _ => (List.getElem?_eq_some_iff.1 ho).1, fun hj => hall j (by omega)⟩)
          rw [this]; simp [hAt, List.getElem?_eq_none (Nat.le_of_eq hR.len)]
        subst eh
        refine hS'.congr (fun d => ?_) (fun k => ?_)
        · obtain ⟨s1, s2⟩ := hR.slot (fun i j a b hij ha hb => (stat_pair hst hij ha hb).1) d os'.length (Nat.le_refl _)
          have eT : tAt rs tE os'.length = tE := by simp [tAt, List.getElem?_eq_none (Nat.le_of_eq hR.len)]
          rw [eT] at s1 s2
          by_cases hw : ∃ (j : Nat) (oj : AOper), os'[j]? = some oj ∧ oj.dst = some d
          · obtain ⟨j, oj, hoj, hdj⟩ := hw
            obtain ⟨rj, hrj⟩ := hR.recAt hoj
            have hj := (List.getElem?_eq_some_iff.1 hoj).1
            rw [s1 j oj rj hj hoj hrj hdj, hI.T1 d j oj rj hoj hrj (hall j (by omega)) hdj]
          · rw [s2 (fun j oj _ hoj hdj => hw ⟨j, oj, hoj, hdj⟩), hI.T2 d (fun j oj hoj _ hdj => hw ⟨j, oj, hoj, hdj⟩)]
        · have := hI.B k os'.length (Nat.le_refl _) (fun j r hr _ => ⟨fun _ => by rw [← hR.len]; exact (List.getElem?_eq_some_iff.1 hr).1, fun hj => hall j (by omega)⟩)
          rw [this]; simp [pbAt, List.getElem?_eq_none (Nat.le_of_eq hR.len)]
      · have eh : h = hE := by
          have := hI.H os'.length (Nat.le_refl _) (fun j o ho _ => ⟨fun _ => (List.getElem?_eq_some_iff.1 ho).1, fun hj => hall j (by omega)⟩)
          rw [this]; simp [hAt, List.getElem?_eq_none (Nat.le_of_eq hR.len)]
        rw [← eh]; exact hst'
    | succ fuel ih =>
      intro listed t pb h ρ' π' a' w' hls hcnt hcl hS' hst' hI
      have hcl' : ∀ j x, listed[j]? = some true → ltd an x j = true → listed[x]? = some true := hA.closed (L := fun j => listed[j]? = some true) hcl
      by_cases hfull : Region.ready .any ops listed = []
      · -- all are done: as with no fuel
        have hall : ∀ j, j < ops.size → listed[j]? = some true := by
          intro j
          induction j using Nat.strongRecOn with
          | _ j ihj =>
            intro hj
            have hj' : j < listed.size := by omega
            rw [Array.getElem?_eq_getElem hj']
            cases hq : listed[j] with
            | true => rfl
            | false =>
              have : j ∈ Region.ready .any ops listed := by
                refine mem_ready.2 ⟨by simp [Array.getD_eq_getD_getElem?, hj', hq], ops[j], Array.getElem?_eq_getElem hj, fun e he hb => ?_⟩
                have hlt := hA.lt j ops[j] e (ho? _ _ (Array.getElem?_eq_getElem hj)) (by simpa using he) hb
                have := ihj e.on hlt (by omega)
                simp [Array.getD_eq_getD_getElem?, this]
              rw [hfull] at this; simp at this
        have hz : listed.toList.count false ≤ 0 := by
          refine Nat.le_of_eq (List.count_eq_zero.2 fun hmem => ?_)
          obtain ⟨j, hj, hq⟩ := List.mem_iff_getElem.1 hmem
          have hj' : j < listed.size := by simpa using hj
          have := hall j (by omega)
          rw [Array.getElem?_eq_getElem hj'] at this
          simp only [Array.getElem_toList, Option.some.injEq] at hq this
          rw [this] at hq; cases hq
        have hnil : Q .normal a' w' := by
          refine hQ ρ' π' a' w' .normal ?_ ?_ trivial
          · have eh : h = hE := by
              have := hI.H os'.length (Nat.le_refl _) (fun j o ho _ => ⟨fun _ => (List.getElem?_eq_some_iff.1 ho).1, fun hj => hall j (by omega)⟩)
              rw [this]; simp [hAt, List.getElem?_eq_none (Nat.le_of_eq hR.len)]
            subst eh
            refine hS'.congr (fun d => ?_) (fun k => ?_)
            · obtain ⟨s1, s2⟩ := hR.slot (fun i j a b hij ha hb => (stat_pair hst hij ha hb).1) d os'.length (Nat.le_refl _)
              have eT : tAt rs tE os'.length = tE := by simp [tAt, List.getElem?_eq_none (Nat.le_of_eq hR.len)]
              rw [eT] at s1 s2
              by_cases hw : ∃ (j : Nat) (oj : AOper), os'[j]? = some oj ∧ oj.dst = some d
              · obtain ⟨j, oj, hoj, hdj⟩ := hw
                obtain ⟨rj, hrj⟩ := hR.recAt hoj
                have hj := (List.getElem?_eq_some_iff.1 hoj).1
                rw [s1 j oj rj hj hoj hrj hdj, hI.T1 d j oj rj hoj hrj (hall j (by omega)) hdj]
              · rw [s2 (fun j oj _ hoj hdj => hw ⟨j, oj, hoj, hdj⟩), hI.T2 d (fun j oj hoj _ hdj => hw ⟨j, oj, hoj, hdj⟩)]
            · have := hI.B k os'.length (Nat.le_refl _) (fun j r hr _ => ⟨fun _ => by rw [← hR.len]; exact (List.getElem?_eq_some_iff.1 hr).1, fun hj => hall j (by omega)⟩)
              rw [this]; simp [pbAt, List.getElem?_eq_none (Nat.le_of_eq hR.len)]
          · have eh : h = hE := by
              have := hI.H os'.length (Nat.le_refl _) (fun j o ho _ => ⟨fun _ => (List.getElem?_eq_some_iff.1 ho).1, fun hj => hall j (by omega)⟩)
              rw [this]; simp [hAt, List.getElem?_eq_none (Nat.le_of_eq hR.len)]
            rw [← eh]; exact hst'
        exact wpAny_done hfull hnil (fuel + 1)
      · refine ⟨fun h0 => absurd h0 hfull, fun i hi => ?_⟩
        obtain ⟨h1, o, h2, h3⟩ := mem_ready.1 hi
        have hil : i < listed.size := by have := (Array.getElem?_eq_some_iff.1 h2).1; omega
        have hq : listed[i] = false := by simpa [Array.getD_eq_getD_getElem?, hil] using h1
        have hni : ¬ (listed[i]? = some true) := by rw [Array.getElem?_eq_getElem hil, hq]; simp
        obtain ⟨ao, hao, hel⟩ := hget i o (ho? _ _ h2)
        obtain ⟨r, hr⟩ := hR.recAt hao
        have hedge : ∀ e ∈ o.after.toList, Region.binds .any e = true → listed[e.on]? = some true := by
          intro e he hb
          have := h3 e (by simpa using he) hb
          cases hx : listed[e.on]? with
          | none => simp [Array.getD_eq_getD_getElem?, hx] at this
          | some b => simp [Array.getD_eq_getD_getElem?, hx] at this; rw [this]
        have hanc : ∀ y, ltd an y i = true → listed[y]? = some true := by
          intro y hy
          obtain ⟨e, e1, e2, e3⟩ := hA.mem i o y (ho? _ _ h2) hy
          rcases e3 with rfl | e3
          · exact hedge e e1 e2
          · exact hcl' _ _ (hedge e e1 e2) e3
        obtain ⟨pb', h', v1, v2, v3, v4, v5, v6⟩ := draw_val hR hA hst hchk hI hcl' hao hr hni hanc (fun j hj => by
          have := (Array.getElem?_eq_some_iff.1 hj).1; omega)
        have hI' := draw_inv hR hA hst hI hcl' hao hr hni hanc v2 v3 v4 v5 v6
        have hset : ∀ j, (listed.setIfInBounds i true)[j]? = some true ↔ (listed[j]? = some true ∨ j = i) := by
          intro j
          by_cases e : j = i
          · subst e; simp [hil]
          · rw [Array.getElem?_setIfInBounds_ne (fun q => e q.symm)]; simp [e]
        unfold wpOp
        simp only [h2]
        have := op_wp (r := .ok r.v pb' h') (next := wpAny P .any ops Q fuel (listed.setIfInBounds i true)) (Q := Q) hH hel (hdst i ao hao) hS' v1 ?_ ?_ ?_
        · split
          · rename_i hw; simp only [hw, if_true] at this; exact .inl this
          · rename_i hw; simp only [hw] at this; exact this
        · intro v pbx hx e ρ2 π2 a2 w2 hS2 st2 _
          cases e
          refine ih (listed.setIfInBounds i true) _ _ _ ρ2 π2 a2 w2 (by simp [hls]) ?_ ?_ hS2 (hst'.trans st2) ?_
          · have : (listed.setIfInBounds i true).toList = listed.toList.set i true := by simp
            rw [this, List.count_set (by simpa using hil)]
            have h9 : listed.toList[i]'(by simpa using hil) = false := by simpa using hq
            have hpos : 0 < listed.toList.count false := List.count_pos_iff.2 (by rw [← h9]; exact List.getElem_mem _)
            have h10 : (true == false) = false := rfl
            simp only [h9, beq_self_eq_true, if_true, h10, Bool.false_eq_true, if_false]
            omega
          · intro j oj e hj hoj he hb
            rw [hset] at hj ⊢
            rcases hj with hj | rfl
            · exact .inl (hcl j oj e hj hoj he hb)
            · rw [ho? _ _ h2] at hoj; cases hoj
              exact .inl (hedge e he hb)
          · have : (fun j => (listed.setIfInBounds i true)[j]? = some true) = (fun j => listed[j]? = some true ∨ j = i) := funext fun j => propext (hset j)
            rw [this]; exact hI'
        · intro v hx e; cases e
        · intro d e; cases e
  refine key ops.size _ s.t s.pb s.h ρ π a _ (by simp) ?_ ?_ ⟨hS.r.drawn _, hS.p.drawn _, hS.t, hS.sz, hS.d.mono (Stp.drawn _ _ _ _ _), hS.n0, hS.pl⟩ (Stp.drawn _ _ _ _ _) ?_
  · simp [List.count_replicate]
  · intro j o e hj
    simp [Array.getElem?_replicate] at hj
  · have hno : ∀ j : Nat, ¬ ((Array.replicate ops.size false)[j]? = some true) := fun j hj => by rw [Array.getElem?_replicate] at hj; split at hj <;> cases hj
    refine ⟨fun d j o r _ _ hL => absurd hL (hno j), fun d _ => rfl, fun k i hi hp => ?_, fun i hi hp => ?_⟩
    · have := hR.pbKeep k 0 i (by omega) (fun j r _ hj hr hk => hno j ((hp j r hr hk).2 (by omega)))
      rw [Nat.zero_add, hR.pb0] at this; exact this.symm
    · have := hR.hKeep 0 i (by omega) (fun j o _ hj ho => by
        cases hc : chains o.op
        · rfl
        · exact absurd ((hp j o ho hc).2 (by omega)) (hno j))
      rw [Nat.zero_add, hR.h0] at this; exact this.symm
end
end Cw
