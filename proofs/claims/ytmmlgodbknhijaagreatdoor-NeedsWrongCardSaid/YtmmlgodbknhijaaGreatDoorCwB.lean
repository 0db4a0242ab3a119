/-
  Maps; copy and clear; lengths; min and max; bytes to a string.
-/
import Derived.Test.YtmmlgodbknhijaaGreatDoorCwZ
namespace Cw
open Go

theorem ba_beq (x y : List UInt8) : ((ByteArray.mk ⟨x⟩ == ByteArray.mk ⟨y⟩) : Bool) = bytesEq x y := by
  show ((⟨x⟩ : Array UInt8) == ⟨y⟩) = _
  rw [bytesEq_spec, Bool.eq_iff_iff]; simp
theorem bytesEq_true {x y : List UInt8} (h : bytesEq x y = true) : x = y := by
  rw [bytesEq_spec] at h; simpa using h

section
variable {P : Program} {ρ : Rho} {π : Pi} {pb : PB} {h : AH} {w : World}

def kindOk (ks : Bool) : TypeDesc → Bool | .int _ => !ks | .string => ks | _ => false
theorem keyKind_spec {t : TypeId} {ks : Bool} (h : keyKind P t = some ks) : ∃ d, P.underlying t = some d ∧ kindOk ks d = true := by
  unfold keyKind at h
  split at h
  · simp at h; subst h; exact ⟨_, by assumption, rfl⟩
  · simp at h; subst h; exact ⟨_, by assumption, rfl⟩
  · simp at h
theorem keyOk_shape {ks : Bool} {k : Value} (h : keyOk ks k = true) : (∃ j n, k = .int j n ∧ ks = false) ∨ (∃ s, k = .string ⟨⟨s⟩⟩ ∧ ks = true) := by
  cases k <;> simp [keyOk] at h
  · exact .inl ⟨_, _, rfl, h⟩
  · rename_i s; obtain ⟨⟨s⟩⟩ := s; exact .inr ⟨s, rfl, h⟩
theorem sameKey_spec {ks : Bool} {k k' c' : Value} {d : TypeDesc} (hk : keyOk ks k = true) (hd : kindOk ks d = true) {b : Bool} (hs : sameKey k k' = some b) (hv : V ρ k' c') :
    Instr.sameNow d k c' = some b ∧ (b = true → c' = k) ∧ c' = k' := by
  rcases keyOk_shape hk with ⟨j, n, rfl, rfl⟩ | ⟨s, rfl, rfl⟩
  · cases d <;> simp [kindOk] at hd
    cases k' <;> simp [sameKey] at hs
    rename_i j' n'
    cases hv
    cases hj : decide (j = j')
    · simp [hj] at hs
    · simp only [hj, cond_true, Option.some.injEq] at hs
      simp only [decide_eq_true_eq] at hj; subst hj
      subst hs
      refine ⟨by simp [Instr.sameNow]; rfl, fun h => by simp at h; rw [h], rfl⟩
  · cases d <;> simp [kindOk] at hd
    cases k' <;> simp [sameKey] at hs
    rename_i s'
    obtain ⟨⟨s'⟩⟩ := s'
    cases hv
    simp only [sameKey, Option.some.injEq] at hs
    subst hs
    refine ⟨by simp only [Instr.sameNow, ba_beq], fun h => by rw [bytesEq_true h], rfl⟩

theorem find_spec {ks : Bool} {k : Value} {d : TypeDesc} (hk : keyOk ks k = true) (hd : kindOk ks d = true) : ∀ {kvs : List (Value × Value)} {es : List MapEntry} (i : Nat), VK ρ kvs es →
    (findKV k kvs = some none → Instr.findNow d k es i = some none ∧ setKV k = setKV k) ∧
    (∀ v, findKV k kvs = some (some v) → ∃ j e, es[j]? = some e ∧ Instr.findNow d k es i = some (some (i + j, e.val)) ∧ V ρ v e.val ∧ e.key = k ∧
      (∀ u c, V ρ u c → VK ρ (setKV k u kvs) (es.modify j fun e => { e with key := k, val := c })) ∧ VK ρ (delKV k kvs) (es.eraseIdx j))
  | [], [], i, _ => ⟨fun _ => ⟨rfl, rfl⟩, fun v h => by simp [findKV] at h⟩
  | [], _ :: _, _, h => h.elim
  | (_, _) :: _, [], _, h => by simp [VK] at h
  | (k', v') :: kvs, e :: es, i, hv => by
    obtain ⟨h1, h2, h3⟩ := hv
    obtain ⟨ih1, ih2⟩ := find_spec hk hd (kvs := kvs) (es := es) (i + 1) h3
    cases hs : sameKey k k' with
    | none => exact ⟨fun h => by simp [findKV, hs] at h, fun v h => by simp [findKV, hs] at h⟩
    | some b =>
      obtain ⟨g1, g2, g3⟩ := sameKey_spec hk hd hs h1
      cases b with
      | true =>
        refine ⟨fun h => by simp [findKV, hs] at h, fun v h => ?_⟩
        simp only [findKV, hs, Option.some.injEq] at h; subst h
        refine ⟨0, e, rfl, by simp [Instr.findNow, g1], h2, g2 rfl, fun u c hu => ?_, ?_⟩
        · simp only [setKV, hs, List.modify_cons, if_true]
          refine ⟨?_, hu, h3⟩
          rcases keyOk_shape hk with ⟨j, n, rfl, _⟩ | ⟨s, rfl, _⟩
          · exact .int _ _
          · exact .str _
        · simp only [delKV, hs, List.eraseIdx_cons_zero]; exact h3
      | false =>
        refine ⟨fun h => ?_, fun v h => ?_⟩
        · simp only [findKV, hs] at h
          exact ⟨by simp only [Instr.findNow, g1]; exact (ih1 h).1, rfl⟩
        · simp only [findKV, hs] at h
          obtain ⟨j, e', q1, q2, q3, q4, q5, q6⟩ := ih2 v h
          refine ⟨j + 1, e', by simpa using q1, ?_, q3, q4, fun u c hu => ?_, ?_⟩
          · simp only [Instr.findNow, g1, q2]; congr 3; omega
          · simp only [setKV, hs]
            exact ⟨h1, h2, q5 u c hu⟩
          · simp only [delKV, hs, List.eraseIdx_cons_succ]; exact ⟨h1, h2, q6⟩
theorem findNone_set {k : Value} : ∀ {kvs : List (Value × Value)}, findKV k kvs = some none → ∀ u, setKV k u kvs = kvs ++ [(k, u)] ∧ delKV k kvs = kvs
  | [], _, u => ⟨rfl, rfl⟩
  | (k', v') :: kvs, h, u => by
    simp only [findKV] at h
    cases hs : sameKey k k' with
    | none => simp [hs] at h
    | some b =>
      cases b with
      | true => simp [hs] at h
      | false =>
        simp only [hs] at h
        obtain ⟨h1, h2⟩ := findNone_set h u
        exact ⟨by simp [setKV, hs, h1], by simp [delKV, hs, h2]⟩
theorem VK.append : ∀ {a c : List (Value × Value)} {b d : List MapEntry}, VK ρ a b → VK ρ c d → VK ρ (a ++ c) (b ++ d)
  | [], _, [], _, _, h => h
  | [], _, _ :: _, _, h, _ => h.elim
  | (_, _) :: _, _, [], _, h, _ => by simp [VK] at h
  | (_, _) :: _, _, _ :: _, _, h, k => ⟨h.1, h.2.1, VK.append h.2.2 k⟩
theorem VK.length : ∀ {a : List (Value × Value)} {b : List MapEntry}, VK ρ a b → a.length = b.length
  | [], [], _ => rfl
  | [], _ :: _, h => h.elim
  | (_, _) :: _, [], h => by simp [VK] at h
  | (_, _) :: _, _ :: _, h => by simp [VK.length h.2.2]

theorem run_checkKey {ks : Bool} {k : Value} {t : TypeId} {d : TypeDesc} (ht : P.underlying t = some d) (hd : kindOk ks d = true) (hk : keyOk ks k = true) (b : Bool) (w : World) :
    (Instr.checkKey b 10000 t k).run P w = .ok () w := by
  show (Instr.checkKey b (9999 + 1) t k).run P w = _
  unfold Instr.checkKey
  simp only [Sem.run_bind, run_underlying ht, Result.andThen_ok]
  cases d <;> simp [kindOk] at hd <;> cases k <;> simp [keyOk] at hk <;> rfl
theorem run_findKey {k : Value} {t : TypeId} {d : TypeDesc} (ht : P.underlying t = some d) {es : List MapEntry} {r : Option (Nat × Value)} (hf : Instr.findNow d k es 0 = some r) (w : World) :
    (Instr.findKey t k es).run P w = .ok r w := by
  simp [Instr.findKey, run_underlying ht, hf]

theorem FV.key {ks : Bool} {k c : Value} (hv : FV ρ π pb k c) (hk : keyOk ks k = true) : c = k := by
  rcases keyOk_shape hk with ⟨j, n, rfl, _⟩ | ⟨s, rfl, _⟩
  · exact hv.int
  · exact hv.str

def lookV (ok : Bool) (z : Value) : Option Value → Value
  | some v => bif ok then .tuple ⟨[v, .bool true]⟩ else v
  | none => bif ok then .tuple ⟨[z, .bool false]⟩ else z

theorem v_lookup (hR : R ρ h w) (hP : RP ρ π h pb w) {t kt e : TypeId} {ks ok : Bool} {z m cm k ck : Value} (ht : P.underlying t = some (.map kt e)) (hks : keyKind P kt = some ks) (hz : zeroOf P e = some z)
    (hm : FV ρ π pb m cm) (hk : FV ρ π pb k ck) (hko : keyOk ks k = true) {r : Option Value}
    (hr : (match (generalizing := false) m with
      | .map none => some none
      | .map (some i) => match h.m.get i with
        | some (.map kvs) => findKV k kvs
        | _ => none
      | _ => none : Option (Option Value)) = some r) :
    ValOk ρ π pb h w ((Instr.lookup t cm ck ok).run P w) (some (lookV ok z r)) pb h := by
  obtain ⟨d, hd1, hd2⟩ := keyKind_spec hks
  obtain ⟨z1, z2⟩ := run_zeroValue hz w
  obtain rfl := hk.key hko
  have zt : V ρ (lookV ok z none) (if ok = true then .tuple #[z, .bool false] else z) := by
    cases ok
    · exact V.of_scal ρ z z2
    · exact .tup _ _ (.cons _ _ _ _ (V.of_scal ρ z z2) (.cons _ _ _ _ (.bool _) .nil))
  cases m with
  | map r' =>
    cases r' with
    | none =>
      simp only [Option.some.injEq] at hr; subst hr
      cases hm.scal rfl
      refine ValOk.sameV hR hP _ ?_ zt
      simp only [Instr.lookup, Sem.run_bind, run_underlying ht, Result.andThen_ok, Sem.run_pure, run_checkKey hd1 hd2 hko]
      rw [run_findKey hd1 (r := none) (by simp [Instr.findNow])]
      simp [z1]
    | some i =>
      cases hob : h.m.get i with
      | none => simp [hob] at hr
      | some ob =>
        cases ob with
        | cells => simp [hob] at hr
        | raw => simp [hob] at hr
        | map kvs =>
          simp only [hob] at hr
          cases hm with
          | v _ _ hm =>
            cases hm with
            | map _ s hs =>
              obtain ⟨es, clock, p1, p2⟩ := block_elem hR hob hs
              obtain ⟨f1, f2⟩ := find_spec hko hd2 0 p2
              have hget : (getObj s.b).run P w = .ok (.map ⟨es⟩ clock) w := by simp [getObj, Sem.run, p1]
              cases r with
              | none =>
                obtain ⟨q, _⟩ := f1 hr
                refine ValOk.sameV hR hP _ ?_ zt
                simp only [Instr.lookup, Sem.run_bind, run_underlying ht, Result.andThen_ok, hget, Sem.run_pure, run_checkKey hd1 hd2 hko]
                rw [run_findKey hd1 (r := none) q]
                simp [z1]
              | some v =>
                obtain ⟨j, e', q1, q2, q3, _⟩ := f2 v hr
                have hv' : V ρ (lookV ok z (some v)) (if ok = true then .tuple #[e'.val, .bool true] else e'.val) := by
                  cases ok
                  · exact q3
                  · exact .tup _ _ (.cons _ _ _ _ q3 (.cons _ _ _ _ (.bool _) .nil))
                refine ValOk.sameV hR hP _ ?_ hv'
                simp only [Instr.lookup, Sem.run_bind, run_underlying ht, Result.andThen_ok, hget, Sem.run_pure, run_checkKey hd1 hd2 hko]
                rw [run_findKey hd1 (r := some (0 + j, e'.val)) q2]
                simp
  | _ => simp at hr

theorem run_setObj {b : Nat} {o o' : Obj} (hb : w.heap[b]? = some o) (hn : ∀ cs el fr, o ≠ .cells cs el fr) :
    (setObj b o').run P w = .ok () { w with heap := w.heap.setIfInBounds b o' } ∧ SameBut w { w with heap := w.heap.setIfInBounds b o' } b ∧ ({ w with heap := w.heap.setIfInBounds b o' } : World).heap[b]? = some o' := by
  have hlt := lt_of_heap hb
  refine ⟨?_, ⟨by simp, rfl, rfl, rfl, fun k hk => ?_⟩, ?_⟩
  · simp only [setObj, Sem.run, hb]
  · simp only [Array.getElem?_setIfInBounds]; rw [if_neg (fun e => hk e.symm)]
  · simp [Array.getElem?_setIfInBounds, hlt]

theorem u_mapupd (hR : R ρ h w) (hP : RP ρ π h pb w) {t kt e : TypeId} {ks : Bool} {i : Nat} {k ck cm v cv : Value} (ht : P.underlying t = some (.map kt e)) (hks : keyKind P kt = some ks)
    (hm : FV ρ π pb (.map (some i)) cm) (hk : FV ρ π pb k ck) (hko : keyOk ks k = true) (hv : V ρ v cv) {kvs : List (Value × Value)} (hob : h.m.get i = some (.map kvs)) {r : Option Value} (hf : findKV k kvs = some r) :
    UnitOk ρ π pb h w ((Instr.mapUpdate t cm ck cv).run P w) pb ⟨h.m.set i (some (.map (setKV k v kvs))), h.nx⟩ := by
  obtain ⟨d, hd1, hd2⟩ := keyKind_spec hks
  have e0 : k = ck := (hk.key hko).symm
  subst e0
  have hkk : V ρ k k := by
    rcases keyOk_shape hko with ⟨j, n, rfl, _⟩ | ⟨s, rfl, _⟩
    · exact .int _ _
    · exact .str _
  cases hm with
  | v _ _ hm =>
    cases hm with
    | map _ s hs =>
      obtain ⟨es, clock, p1, p2⟩ := block_elem hR hob hs
      obtain ⟨f1, f2⟩ := find_spec hko hd2 0 p2
      have hget : (getObj s.b).run P w = .ok (.map ⟨es⟩ clock) w := by simp [getObj, Sem.run, p1]
      cases r with
      | none =>
        obtain ⟨q, _⟩ := f1 hf
        obtain ⟨g1, g2, g3⟩ := run_setObj (P := P) (o' := .map ⟨es ++ [{ key := k, val := cv, born := clock }]⟩ (clock + 1)) p1 (by simp)
        have hok : objOk ρ { w with heap := w.heap.setIfInBounds s.b (.map ⟨es ++ [{ key := k, val := cv, born := clock }]⟩ (clock + 1)) } s (.map (setKV k v kvs)) := by
          refine ⟨_, _, g3, ?_⟩
          rw [(findNone_set hf v).1]
          exact p2.append ⟨hkk, hv, trivial⟩
        have hR' := hR.upd (o' := .map (setKV k v kvs)) hob hs rfl g2.heap hok
        have st := stp_upd (o' := .map (setKV k v kvs)) hob hs rfl rfl g2 (fun _ => none)
        refine ⟨_, ρ, π, ?_, hR', hP.step hR hR' st (fun _ => rfl), st.lift (fun _ => rfl) π, PiOk.refl _ _⟩
        simp only [Instr.mapUpdate, Sem.run_bind, run_underlying ht, Result.andThen_ok, hget, run_checkKey hd1 hd2 hko]
        rw [run_findKey hd1 (r := none) q]
        simp only [Result.andThen_ok, List.push_toArray]
        exact g1
      | some v0 =>
        obtain ⟨j, e', q1, q2, q3, q4, q5, q6⟩ := f2 v0 hf
        obtain ⟨g1, g2, g3⟩ := run_setObj (P := P) (o' := .map ⟨es.modify j fun e => { e with key := k, val := cv }⟩ clock) p1 (by simp)
        have hok : objOk ρ { w with heap := w.heap.setIfInBounds s.b (.map ⟨es.modify j fun e => { e with key := k, val := cv }⟩ clock) } s (.map (setKV k v kvs)) := ⟨_, _, g3, q5 v cv hv⟩
        have hR' := hR.upd (o' := .map (setKV k v kvs)) hob hs rfl g2.heap hok
        have st := stp_upd (o' := .map (setKV k v kvs)) hob hs rfl rfl g2 (fun _ => none)
        refine ⟨_, ρ, π, ?_, hR', hP.step hR hR' st (fun _ => rfl), st.lift (fun _ => rfl) π, PiOk.refl _ _⟩
        have hsb : Instr.sameBits 10000 k k = true := by
          rcases keyOk_shape hko with ⟨j, n, rfl, _⟩ | ⟨s, rfl, _⟩
          · simp [Instr.sameBits]
          · show (ByteArray.mk ⟨s⟩ == ByteArray.mk ⟨s⟩) = true
            rw [ba_beq, bytesEq_spec]; simp
        have hks' : (Instr.keyThatStays k k).run P w = .ok k w := by simp [Instr.keyThatStays, hsb]
        simp only [Instr.mapUpdate, Sem.run_bind, run_underlying ht, Result.andThen_ok, hget, run_checkKey hd1 hd2 hko]
        rw [run_findKey hd1 (r := some (0 + j, e'.val)) q2]
        simp only [Result.andThen_ok, Nat.zero_add, List.getElem?_toArray, q1, Option.map_some, Option.getD_some, q4, Sem.run_bind, hks']
        have : (Array.modify ⟨es⟩ j fun e => { e with key := k, val := cv }) = (⟨es.modify j fun e => { e with key := k, val := cv }⟩ : Array MapEntry) := by
          apply Array.ext'; simp
        rw [this]; exact g1
end
end Cw
