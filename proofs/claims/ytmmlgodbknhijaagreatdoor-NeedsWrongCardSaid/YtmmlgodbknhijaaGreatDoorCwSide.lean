/-
  errors.As and errors.Is: the evaluator's specs hold of them.
-/
import Derived.Test.YtmmlgodbknhijaaGreatDoorCwAs
import Derived.Test.YtmmlgodbknhijaaGreatDoorCwIs
namespace CwT
open Go Cw Go.Proofs Go.RowKit
theorem cell_of_obj {ρ : Rho} {h : AH} {w : World} (hR : R ρ h w) {i o : Nat} {ro : Bool} {z : Nat} {vs : List Value} (hm : h.m.get i = some (.cells ro z vs)) {s : Seg} (hs : ρ i = some s) {v : Value} (hv : vs[o]? = some v) :
    ∃ c, w.cell? ⟨s.b, s.base + o, none⟩ = some c ∧ V ρ v c := by
  obtain ⟨t, ht, cs, elem, fr, h1, h2, h3, h4, h5, h6⟩ := hR.obj i _ hm
  rw [hs] at ht; cases ht
  obtain ⟨c, c1, c2⟩ := h6.get o v hv
  refine ⟨c, ?_, c2⟩
  rw [cell_at h1]
  have hlt : o < vs.length := (List.getElem?_eq_some_iff.1 hv).1
  rw [List.getElem?_take_of_lt hlt, List.getElem?_drop] at c1
  exact c1
theorem asCode_spec {ρ : Rho} {h : AH} {w : World} (hR : R ρ h w) : ∀ (n : Nat) (e c : Value) (r : Option Int), asCode h n e = some r → V ρ e c → (c = .nilIface ∧ r = none) ∨ AsC w n c r
  | 0, e, c, r, he, _ => by simp [asCode] at he
  | n + 1, e, c, r, he, hv => by
    simp only [asCode] at he
    split at he
    · cases hv
      exact .inl ⟨rfl, by simpa using he.symm⟩
    · rename_i t v
      cases hv with
      | iface _ _ c' hv =>
        cases h38 : Nat.beq t 38
        · simp only [h38, cond_false] at he
          cases h257 : Nat.beq t 257
          · simp [h257] at he
          · simp only [h257, cond_true] at he
            have := Nat.eq_of_beq_eq_true h257; subst this
            split at he
            · rename_i i o
              cases hv with
              | ptr _ _ s hs =>
                split at he
                · rename_i ro z cs hm
                  split at he
                  · rename_i e' he'
                    obtain ⟨c', c1, c2⟩ := cell_of_obj hR hm hs he'
                    rw [← Nat.add_assoc] at c1
                    rcases asCode_spec hR n e' c' r he c2 with ⟨rfl, rfl⟩ | hA
                    · exact .inr (.last n s.b (s.base + o) c1)
                    · have : ∃ t x, c' = .iface t x := by cases hA <;> exact ⟨_, _, rfl⟩
                      obtain ⟨t, x, rfl⟩ := this
                      exact .inr (.unwrap n s.b (s.base + o) t x r c1 hA)
                  · cases he
                · cases he
            · cases he
        · simp only [h38, cond_true] at he
          have := Nat.eq_of_beq_eq_true h38; subst this
          split at he
          · rename_i m
            cases hv
            simp only [Option.some.injEq] at he; subst he
            exact .inr (.hit n m)
          · cases he
    · cases he
def codeIs (k : Int) : Option Int → Bool
  | some m => m == k
  | none => false
theorem AsC.isC {w : World} (k : Int) {n : Nat} {c : Value} {r : Option Int} (h : AsC w n c r) : IsC w k n c (codeIs k r) := by
  induction h with
  | hit n m => exact .code n m
  | unwrap n b o t x r h _ ih => exact .unwrap n b o t x _ h ih
  | last n b o h => exact .last n b o h

theorem AsC.later {w W : World} (hcell : ∀ a v, w.cell? a = some v → W.cell? a = some v) {n : Nat} {c : Value} {r : Option Int} (h : AsC w n c r) : AsC W n c r := by
  induction h with
  | hit n m => exact .hit n m
  | unwrap n b o t x r h _ ih => exact .unwrap n b o t x r (hcell _ _ h) ih
  | last n b o h => exact .last n b o (hcell _ _ h)

theorem g48 : Good prog 48 s48 := by
  intro args h r h' hs ρ w cargs hR hv
  simp only [s48] at hs
  split at hs
  · rename_i e t k
    cases h38 : Nat.beq t 38
    · simp [h38] at hs
    · simp only [h38, cond_true] at hs
      have := Nat.eq_of_beq_eq_true h38; subst this
      obtain ⟨c, d, rfl, hc, hd⟩ := vl2 hv
      have : d = .iface 38 (.int .i64 k) := V.eq_scal hd rfl
      subst this
      have fin : ∀ q, asCode h 1000 e = some q → r = .ret (.bool (codeIs k q)) → h' = h → Calls prog 48 #[c, .iface 38 (.int .i64 k)] w fun e w' => ∃ ρ', R ρ' h' w' ∧ Stp ρ π0 h w ρ' π0 h' w' ∧ EndOk ρ' r e := by
        rintro q hq rfl rfl
        rcases asCode_spec hR 1000 e c q hq hc with ⟨rfl, rfl⟩ | hA
        · refine (c48n k w).mono ?_
          rintro e w' ⟨rfl, rfl⟩
          exact ⟨ρ, hR, Stp.refl _ _ _ _, .bool _⟩
        · refine (c48 k 1000 c _ w (hA.isC k)).mono ?_
          rintro e w' ⟨rfl, rfl⟩
          exact ⟨ρ, hR, Stp.refl _ _ _ _, .bool _⟩
      split at hs
      · rename_i m hq
        simp only [Option.some.injEq, Prod.mk.injEq] at hs
        refine fin (some m) hq ?_ hs.2.symm
        rw [← hs.1, intEq_eq]
        rfl
      · rename_i hq
        simp only [Option.some.injEq, Prod.mk.injEq] at hs
        exact fin none hq hs.1.symm hs.2.symm
      · cases hs
  · cases hs

theorem errOk_spec {ρ : Rho} {h : AH} {w : World} (hR : R ρ h w) (he : errOk h = true) : w.cell? ⟨0, 0, none⟩ = some (.iface 266 (.agg #[.pointer (some ⟨4, 62, none⟩)])) := by
  simp only [errOk] at he
  split at he
  · rename_i b cs t fr hm
    simp only [Bool.and_eq_true] at he
    have := Nat.eq_of_beq_eq_true he.1; subst this
    have := veqL_spec _ _ he.2; subst this
    obtain ⟨s, hs, h1, h2⟩ := hR.obj 0 _ hm
    rw [cell_at h2]; rfl
  · cases he

/-- what is stored at the target, behind blocks of the call's own -/
theorem set_ok {ρ : Rho} {h : AH} {w W : World} (hR : R ρ h w) (hB : Below w.heap.size w W) {i o z : Nat} {vs : List Value} (hm : h.m.get i = some (.cells false z vs)) (ho : o < vs.length) {s : Seg} (hs : ρ i = some s) {v c : Value} (hv : V ρ v c) :
    R ρ ⟨h.m.set i (some (.cells false z (vs.set o v))), h.nx⟩ (W.setCell ⟨s.b, s.base + o, none⟩ c) ∧ Stp ρ π0 h w ρ π0 ⟨h.m.set i (some (.cells false z (vs.set o v))), h.nx⟩ (W.setCell ⟨s.b, s.base + o, none⟩ c) := by
  obtain ⟨hR2, st⟩ := below_ok hR hB
  obtain ⟨t, ht, cs, elem, fr, h1, h2, h3, h4, h5, h6⟩ := hR2.obj i _ hm
  rw [hs] at ht; cases ht
  obtain ⟨q1, q2⟩ := setCell_at h1 (o := s.base + o) c
  have hok : objOk ρ (W.setCell ⟨s.b, s.base + o, none⟩ c) s (.cells false z (vs.set o v)) := by
    refine ⟨cs.set (s.base + o) c, elem, fr, q2, fun e => by rw [List.length_set]; exact h2 e, by rw [List.length_set]; exact h3, by rw [List.length_set]; exact h4, h5, ?_⟩
    have e1 : ((cs.set (s.base + o) c).drop s.base).take (vs.set o v).length = ((cs.drop s.base).take vs.length).set o c := by
      rw [List.length_set, List.drop_set, if_neg (by omega), List.take_set]
      congr 1; omega
    rw [e1]
    exact h6.set o hv
  exact ⟨hR2.upd hm hs rfl q1.heap hok, st.trans (stp_upd hm hs rfl rfl q1 π0)⟩
theorem target_ok {ρ : Rho} {h : AH} {w W : World} (hR : R ρ h w) (hB : Below w.heap.size w W) {i o z : Nat} {vs : List Value} (hm : h.m.get i = some (.cells false z vs)) (ho : o < vs.length) {s : Seg} (hs : ρ i = some s) :
    (∃ old, W.cell? ⟨s.b, s.base + o, none⟩ = some old) ∧ W.frozen? ⟨s.b, s.base + o, none⟩ = false ∧ s.b < W.heap.size := by
  obtain ⟨hR2, st⟩ := below_ok hR hB
  obtain ⟨t, ht, hok⟩ := hR2.obj i _ hm
  rw [hs] at ht; cases ht
  have hlt := hok.lt
  obtain ⟨cs, elem, fr, h1, h2, h3, h4, h5, h6⟩ := hok
  exact ⟨⟨cs[s.base + o]'(by omega), by rw [cell_at h1, List.getElem?_eq_getElem]⟩, frozen_at h1 (h2 rfl).1 (by omega), hlt⟩
theorem below_alloc {B : Nat} {w W : World} (h : Below B w W) (hB : B ≤ w.heap.size) (o : Obj) : Below B w (W.alloc o) :=
  ⟨h.os, h.tape, h.output, Nat.le_trans h.size (by simp), fun k hk => by rw [heap_push_lt _ _ _ (by have := h.size; omega)]; exact h.block k hk⟩

theorem g55 : Good prog 55 s55 := by
  intro args h r h' hs ρ w cargs hR hv
  simp only [s55] at hs
  split at hs
  case h_2 => cases hs
  rename_i e pt i o
  cases hE : errOk h
  · simp [hE] at hs
  simp only [hE, cond_true] at hs
  have hg := errOk_spec hR hE
  obtain ⟨c, d, rfl, hc, hd⟩ := vl2 hv
  cases hd with
  | iface _ _ d' hd =>
    cases hd with
    | ptr _ _ s hsg =>
      have nil_case : c = .nilIface → r = .ret (.bool false) → h' = h → Calls prog 55 #[c, .iface pt (.pointer (some ⟨s.b, s.base + o, none⟩))] w fun e w' => ∃ ρ', R ρ' h' w' ∧ Stp ρ π0 h w ρ' π0 h' w' ∧ EndOk ρ' r e := by
        rintro rfl rfl rfl
        refine (as_nil _ w).mono ?_
        rintro e w' ⟨rfl, rfl⟩
        exact ⟨ρ, hR, Stp.refl _ _ _ _, .bool _⟩
      have set_inv : ∀ q, asSet h i o q = some (r, h') → ∃ z vs, h.m.get i = some (.cells false z vs) ∧ o < vs.length ∧ ∃ p, q = some p ∧ match p with
          | none => r = .ret (.bool false) ∧ h' = h
          | some v => r = .ret (.bool true) ∧ h' = ⟨h.m.set i (some (.cells false z (vs.set o v))), h.nx⟩ := by
        intro q hq
        simp only [asSet] at hq
        split at hq
        · rename_i z vs hm
          cases hb : Nat.blt o vs.length
          · simp [hb] at hq
          · simp only [hb, cond_true] at hq
            refine ⟨z, vs, hm, by simpa using hb, ?_⟩
            split at hq
            · cases hq
            · simp only [Option.some.injEq, Prod.mk.injEq] at hq
              exact ⟨none, rfl, hq.1.symm, hq.2.symm⟩
            · simp only [Option.some.injEq, Prod.mk.injEq] at hq
              exact ⟨some _, rfl, hq.1.symm, hq.2.symm⟩
        · cases hq
      have ret_inv : ∀ e w', (∃ ρ', R ρ' h' w' ∧ Stp ρ π0 h w ρ' π0 h' w' ∧ EndOk ρ' r e) → r = .ret (.bool true) ∨ r = .ret (.bool false) → ∃ u, e = .returned u := by
        rintro e w' ⟨ρ', _, _, hE⟩ (rfl | rfl) <;> cases e <;> first | exact ⟨_, rfl⟩ | exact hE.elim
      cases h1 : Nat.beq pt 127
      · simp only [h1, cond_false] at hs
        cases h2 : Nat.beq pt 332
        · simp [h2] at hs
        · simp only [h2, cond_true] at hs
          have := Nat.eq_of_beq_eq_true h2; subst this
          have hB : Below w.heap.size w ((asW332 ⟨s.b, s.base + o, none⟩ w).alloc (.cells #[.pointer (some ⟨4, 332, none⟩), .pointer (some ⟨w.heap.size, 0, none⟩), .int .u64 150] 199)) :=
            below_alloc (below_alloc (below_alloc (Below.refl _ w) (Nat.le_refl _) _) (Nat.le_refl _) _) (Nat.le_refl _) _
          obtain ⟨z, vs, hm, ho, p, hp, hrest⟩ := set_inv _ hs
          simp only [asFail] at hp
          split at hp
          · cases hc
            simp only [Option.some.injEq] at hp; subst hp
            exact nil_case rfl hrest.1 hrest.2
          · rename_i t v
            cases hc with
            | iface _ _ c' hc =>
              cases h257 : Nat.beq t 257
              · simp only [h257, cond_false] at hp
                cases h38 : Nat.beq t 38
                · simp [h38] at hp
                · simp only [h38, cond_true] at hp
                  have := Nat.eq_of_beq_eq_true h38; subst this
                  split at hp
                  · rename_i m
                    cases hc
                    simp only [Option.some.injEq] at hp; subst hp
                    obtain ⟨rfl, rfl⟩ := hrest
                    refine as55_332 38 _ _ w _ hg (as105_257n m _ _ _ _ _ rfl ?_) (fun e w' he => ret_inv e w' he (.inr rfl))
                    obtain ⟨g1, g2⟩ := below_ok hR hB
                    exact ⟨ρ, g1, g2, .bool _⟩
                  · cases hp
              · simp only [h257, cond_true] at hp
                have := Nat.eq_of_beq_eq_true h257; subst this
                split at hp
                · rename_i j q
                  cases hc with
                  | ptr _ _ sq hsq =>
                    simp only [Option.some.injEq] at hp; subst hp
                    obtain ⟨rfl, rfl⟩ := hrest
                    obtain ⟨⟨old, t1⟩, t2, t3⟩ := target_ok hR hB hm ho hsg
                    have hB2 := below_alloc hB (Nat.le_refl _) (.cells #[.pointer (some ⟨sq.b, sq.base + q, none⟩)] 257)
                    obtain ⟨g1, g2⟩ := set_ok hR hB2 hm ho hsg (V.ptr j q sq hsq)
                    refine as55_332 257 _ _ w _ hg (as105_257 ⟨sq.b, sq.base + q, none⟩ _ ⟨w.heap.size, 0, none⟩ ⟨s.b, s.base + o, none⟩ old _ _ _ rfl ?_ t1 t2 t3 (by simp [asW332]; omega) ?_) (fun e w' he => ret_inv e w' he (.inl rfl))
                    · rw [World.cell?_alloc_lt _ _ ⟨w.heap.size, 0, none⟩ (by simp [asW332]; omega)]; simp [asW332]
                    · exact ⟨ρ, g1, g2, .bool _⟩
                · cases hp
          · cases hp
      · simp only [h1, cond_true] at hs
        have := Nat.eq_of_beq_eq_true h1; subst this
        have hB : Below w.heap.size w ((asW127 ⟨s.b, s.base + o, none⟩ w).alloc (.cells #[.pointer (some ⟨4, 127, none⟩), .pointer (some ⟨w.heap.size, 0, none⟩), .int .u64 150] 199)) :=
          below_alloc (below_alloc (below_alloc (Below.refl _ w) (Nat.le_refl _) _) (Nat.le_refl _) _) (Nat.le_refl _) _
        obtain ⟨z, vs, hm, ho, p, hp, hrest⟩ := set_inv _ hs
        rw [Option.map_eq_some_iff] at hp
        obtain ⟨q, hq, rfl⟩ := hp
        obtain ⟨⟨old, t1⟩, t2, t3⟩ := target_ok hR hB hm ho hsg
        rcases asCode_spec hR 1000 e c q hq hc with ⟨rfl, rfl⟩ | hA
        · exact nil_case rfl hrest.1 hrest.2
        · have hif : ∃ t v, c = .iface t v := by cases hA <;> exact ⟨_, _, rfl⟩
          -- the chain lies below the call's own blocks
          have hA2 : AsC ((asW127 ⟨s.b, s.base + o, none⟩ w).alloc (.cells #[.pointer (some ⟨4, 127, none⟩), .pointer (some ⟨w.heap.size, 0, none⟩), .int .u64 150] 199)) 1000 c q := by
            have hcell : ∀ a v, w.cell? a = some v → ((asW127 ⟨s.b, s.base + o, none⟩ w).alloc (.cells #[.pointer (some ⟨4, 127, none⟩), .pointer (some ⟨w.heap.size, 0, none⟩), .int .u64 150] 199)).cell? a = some v := by
              intro a v ha
              have hlt : a.block < w.heap.size := by
                rcases Nat.lt_or_ge a.block w.heap.size with hh | hh
                · exact hh
                · simp [World.cell?, Array.getElem?_eq_none hh] at ha
              rw [World.cell?_alloc_lt _ _ a (by simp [asW127]; omega), asW127, World.cell?_alloc_lt _ _ a (by simp; omega), World.cell?_alloc_lt _ _ a hlt]
              exact ha
            exact hA.later hcell
          obtain ⟨tc, vc, rfl⟩ := hif
          have ha0 : ((asW127 ⟨s.b, s.base + o, none⟩ w).alloc (.cells #[.pointer (some ⟨4, 127, none⟩), .pointer (some ⟨w.heap.size, 0, none⟩), .int .u64 150] 199)).cell? ⟨w.heap.size, 0, none⟩ = some (.pointer (some ⟨s.b, s.base + o, none⟩)) := by
            rw [World.cell?_alloc_lt _ _ ⟨w.heap.size, 0, none⟩ (by simp [asW127]; omega)]; simp [asW127]
          cases q with
          | none =>
            obtain ⟨rfl, rfl⟩ := hrest
            obtain ⟨g1, g2⟩ := below_ok hR hB
            exact as55_127 tc vc _ w _ hg (as105_38 1000 _ _ none ⟨w.heap.size, 0, none⟩ ⟨s.b, s.base + o, none⟩ old _ _ _ rfl ha0 t1 t2 t3 (by simp [asW127]; omega) ⟨ρ, g1, g2, .bool _⟩ hA2) (fun e w' he => ret_inv e w' he (.inr rfl))
          | some m =>
            obtain ⟨rfl, rfl⟩ := hrest
            have hB2 := below_alloc hB (Nat.le_refl _) (.cells #[.int .i64 m] 38)
            obtain ⟨g1, g2⟩ := set_ok hR hB2 hm ho hsg (V.int .i64 m)
            exact as55_127 tc vc _ w _ hg (as105_38 1000 _ _ (some m) ⟨w.heap.size, 0, none⟩ ⟨s.b, s.base + o, none⟩ old _ _ _ rfl ha0 t1 t2 t3 (by simp [asW127]; omega) ⟨ρ, g1, g2, .bool _⟩ hA2) (fun e w' he => ret_inv e w' he (.inl rfl))
end CwT
