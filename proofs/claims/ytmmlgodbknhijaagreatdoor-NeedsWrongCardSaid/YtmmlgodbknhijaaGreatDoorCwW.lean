/-
  Cuts of strings, slices and arrays; make; min and max; lengths; function values.
-/
import Derived.Test.YtmmlgodbknhijaaGreatDoorCwU
namespace Cw
open Go

inductive OO (ρ : Rho) (π : Pi) (pb : PB) : Option Value → Option Value → Prop where
  | none : OO ρ π pb none none
  | some (x c : Value) (h : FV ρ π pb x c) : OO ρ π pb (some x) (some c)

section
variable {P : Program} {ρ : Rho} {π : Pi} {pb : PB} {h : AH} {w : World}

theorem beq_succ (n : Nat) : Nat.beq (n + 1) 0 = false := rfl
theorem cut1_some {v : Value} {d b k : Nat} (hc : cut1 (some v) d b = some k) : ∃ j i, v = .int j i ∧ natLe i b = some k := by
  cases v with
  | int j i => exact ⟨j, i, rfl, hc⟩
  | _ => simp [cut1] at hc
theorem run_sliceBound {v cv : Value} (hv : FV ρ π pb v cv) {d b k y : Nat} (code : BoundsCode) (hc : cut1 (some v) d b = some k) (hby : b ≤ y) :
    (Instr.sliceBound cv y code).run P w = .ok k w ∧ k ≤ b := by
  obtain ⟨j, i, rfl, hn⟩ := cut1_some hc
  cases hv.int
  obtain ⟨h1, h2, rfl⟩ := natLe_spec hn
  refine ⟨?_, by omega⟩
  simp only [Instr.sliceBound, asIntOf, Sem.run_bind, Sem.run_pure, Result.andThen_ok]
  rw [if_pos ⟨h1, by omega⟩]; rfl
/-- the bounds that the evaluator finds are those that the model finds; cap: the model's capacity -/
theorem run_sliceBounds {lo hi mx clo chi cmx : Option Value} (h1 : OO ρ π pb lo clo) (h2 : OO ρ π pb hi chi) (h3 : OO ρ π pb mx cmx) (hm : mx.isSome = true → hi.isSome = true)
    {n lim cap l k m : Nat} (hc : cuts n lim lo hi mx = some (l, k, m)) (hl : lim ≤ cap) (hn : n ≤ lim) (isS : Bool) :
    ∃ mc, (Instr.sliceBounds isS n cap clo chi cmx).run P w = .ok (l, k, mc) w ∧ l ≤ k ∧ k ≤ m ∧ m ≤ lim ∧ k ≤ mc ∧ mc ≤ cap ∧ (mx.isSome = true → mc = m) ∧ (mx = none → mc = cap ∧ m = lim) := by
  unfold cuts at hc
  have hM : ∃ m0, cut1 mx lim lim = some m0 := by
    cases hq : cut1 mx lim lim with
    | none => simp [hq] at hc
    | some m0 => exact ⟨m0, rfl⟩
  obtain ⟨m0, hm0⟩ := hM
  simp only [hm0] at hc
  have hK : ∃ k0, cut1 hi n m0 = some k0 := by
    cases hq : cut1 hi n m0 with
    | none => simp [hq] at hc
    | some k0 => exact ⟨k0, rfl⟩
  obtain ⟨k0, hk0⟩ := hK
  simp only [hk0] at hc
  have hL : ∃ l0, cut1 lo 0 k0 = some l0 := by
    cases hq : cut1 lo 0 k0 with
    | none => simp [hq] at hc
    | some l0 => exact ⟨l0, rfl⟩
  obtain ⟨l0, hl0⟩ := hL
  simp only [hl0, Option.some.injEq, Prod.mk.injEq] at hc
  obtain ⟨rfl, rfl, rfl⟩ := hc
  -- the low bound
  have lowOk : ∀ code, (match clo with | some v => Instr.sliceBound v k0 code | none => pure 0 : Sem Nat).run P w = .ok l0 w ∧ l0 ≤ k0 := by
    intro code
    cases h1 with
    | none => simp only [cut1, Option.some.injEq] at hl0; subst hl0; exact ⟨rfl, Nat.zero_le _⟩
    | some x c hx => exact run_sliceBound hx code hl0 (Nat.le_refl _)
  cases h3 with
  | none =>
    simp only [cut1, Option.some.injEq] at hm0; subst hm0
    cases h2 with
    | none =>
      simp only [cut1, Option.some.injEq] at hk0; subst hk0
      refine ⟨cap, ?_, (lowOk .index).2, hn, Nat.le_refl _, by omega, Nat.le_refl _, by simp, fun _ => ⟨rfl, rfl⟩⟩
      simp only [Instr.sliceBounds, Sem.run_bind, Sem.run_pure, Result.andThen_ok, Option.isSome_none, Bool.false_eq_true, if_false]
      cases h1 with
      | none => simp only [cut1, Option.some.injEq] at hl0; subst hl0; rfl
      | some x c hx => simp [(run_sliceBound (P := P) (w := w) hx _ hl0 (Nat.le_refl _)).1]
    | some y c hy =>
      obtain ⟨_, hkl⟩ := run_sliceBound (P := P) (w := w) hy .index hk0 hl
      refine ⟨cap, ?_, (lowOk .index).2, hkl, Nat.le_refl _, by omega, Nat.le_refl _, by simp, fun _ => ⟨rfl, rfl⟩⟩
      simp only [Instr.sliceBounds, Sem.run_bind, Sem.run_pure, Result.andThen_ok, Option.isSome_none, Bool.false_eq_true, if_false, (run_sliceBound (P := P) (w := w) hy _ hk0 hl).1]
      cases h1 with
      | none => simp only [cut1, Option.some.injEq] at hl0; subst hl0; rfl
      | some x c hx => simp [(run_sliceBound (P := P) (w := w) hx _ hl0 (Nat.le_refl _)).1]
  | some z c hz =>
    cases h2 with
    | none => simp at hm
    | some y c' hy =>
      obtain ⟨_, hml⟩ := run_sliceBound (P := P) (w := w) hz .index hm0 hl
      obtain ⟨_, hkl⟩ := run_sliceBound (P := P) (w := w) hy .index hk0 (Nat.le_refl _)
      refine ⟨m0, ?_, (lowOk .index).2, hkl, hml, hkl, by omega, fun _ => rfl, by simp⟩
      simp only [Instr.sliceBounds, Sem.run_bind, Sem.run_pure, Result.andThen_ok, Option.isSome_some, if_true, (run_sliceBound (P := P) (w := w) hz _ hm0 hl).1, (run_sliceBound (P := P) (w := w) hy _ hk0 (Nat.le_refl _)).1]
      cases h1 with
      | none => simp only [cut1, Option.some.injEq] at hl0; subst hl0; rfl
      | some x c hx => simp [(run_sliceBound (P := P) (w := w) hx _ hl0 (Nat.le_refl _)).1]

theorem extract_mk (l : List UInt8) (a b : Nat) : (ByteArray.mk ⟨l⟩).extract a b = ⟨⟨(l.drop a).take (b - a)⟩⟩ := by
  apply ByteArray.ext
  simp [ByteArray.data_extract, List.extract_eq_take_drop]
theorem v_slS (hR : R ρ h w) (hP : RP ρ π h pb w) {l : List UInt8} {cx : Value} (hx : FV ρ π pb (.string ⟨⟨l⟩⟩) cx) {t : TypeId} (ht : P.underlying t = some .string) {lo hi clo chi : Option Value}
    (h1 : OO ρ π pb lo clo) (h2 : OO ρ π pb hi chi) {a b m : Nat} (hc : cuts l.length l.length lo hi none = some (a, b, m)) :
    ValOk ρ π pb h w ((Instr.sliceAt t cx clo chi none).run P w) (some (mkStr ((l.drop a).take (b - a)))) pb h := by
  cases hx.str
  obtain ⟨mc, g1, _⟩ := run_sliceBounds (P := P) (w := w) h1 h2 .none (by simp) hc (Nat.le_refl _) (Nat.le_refl _) false
  refine ValOk.sameV hR hP (mkStr ((l.drop a).take (b - a))) ?_ (.str _)
  have hsz : (ByteArray.mk ⟨l⟩).size = l.length := rfl
  simp [Instr.sliceAt, run_underlying ht, Instr.slice, hsz, g1, extract_mk, mkStr]

theorem v_slV_nil (hR : R ρ h w) (hP : RP ρ π h pb w) {cx : Value} {n c : Nat} (hx : FV ρ π pb (.slice none n c) cx) {t e : TypeId} (ht : P.underlying t = some (.slice e)) {z : Nat} (hz : szOf P e = some z)
    {lo hi mx clo chi cmx : Option Value} (h1 : OO ρ π pb lo clo) (h2 : OO ρ π pb hi chi) (h3 : OO ρ π pb mx cmx) (hm : mx.isSome = true → hi.isSome = true) {r : Nat × Nat × Nat} (hc : cuts 0 0 lo hi mx = some r) :
    ValOk ρ π pb h w ((Instr.sliceAt t cx clo chi cmx).run P w) (some (.slice none 0 0)) pb h := by
  obtain ⟨rfl, _, _⟩ := hx.sliceNil
  obtain ⟨l, k, m⟩ := r
  obtain ⟨mc, g1, g2, g3, g4, g5, g6, _⟩ := run_sliceBounds (P := P) (w := w) h1 h2 h3 hm hc (Nat.le_refl _) (Nat.le_refl _) true
  refine ValOk.sameV hR hP (.slice none 0 0) ?_ .sliceN
  obtain rfl : l = 0 := by omega
  obtain rfl : k = 0 := by omega
  obtain rfl : mc = 0 := by omega
  simp [Instr.sliceAt, run_underlying ht, Instr.slice, g1, run_sizeOf hz]

theorem run_sliceV {ca : Addr} {n cap l k mc z : Nat} {t e : TypeId} (ht : P.underlying t = some (.slice e)) (hz : szOf P e = some z) {clo chi cmx : Option Value}
    (hb : (Instr.sliceBounds true n cap clo chi cmx).run P w = .ok (l, k, mc) w) :
    (Instr.sliceAt t (.slice (some ca) n cap) clo chi cmx).run P w = .ok (.slice (some (if mc = l then ca else ca.add (l * z))) (k - l) (mc - l)) w := by
  simp only [Instr.sliceAt, Sem.run_bind, run_underlying ht, Result.andThen_ok, Instr.slice, hb, run_sizeOf hz, Sem.run_pure]
  by_cases e : mc = l
  · simp [e]
  · simp [e]

/-- exact: the capacity behind the cut is known -/
theorem v_slV_exact (hR : R ρ h w) (hP : RP ρ π h pb w) {i o : Nat} {cx : Value} {n c : Nat} (hx : FV ρ π pb (.slice (some ⟨i, o, none⟩) n c) cx) {t e : TypeId} (ht : P.underlying t = some (.slice e)) {z : Nat} (hz : szOf P e = some z)
    {lo hi mx clo chi cmx : Option Value} (h1 : OO ρ π pb lo clo) (h2 : OO ρ π pb hi chi) (h3 : OO ρ π pb mx cmx) (hm : mx.isSome = true → hi.isSome = true)
    {l k m ez : Nat} {ro : Bool} {vs : List Value} (hc : cuts n (bif Nat.beq c 0 then n else c - 1) lo hi mx = some (l, k, m)) (hex : (mx.isSome || Nat.blt 0 c) = true)
    (ho : h.m.get i = some (.cells ro ez vs)) (hez : ez = z ∨ ez = 0) (hfit : o + n * z ≤ vs.length) (hln : l ≤ n) :
    ValOk ρ π pb h w ((Instr.sliceAt t cx clo chi cmx).run P w) (some (.slice (some ⟨i, bif Nat.beq m l then o else o + l * z, none⟩) (k - l) (m - l + 1))) pb h := by
  cases hx with
  | v _ _ hx =>
    cases hx with
    | slice _ _ _ _ cap s hs hle hcc hr =>
      have hlim : (bif Nat.beq c 0 then n else c - 1) ≤ cap ∧ n ≤ (bif Nat.beq c 0 then n else c - 1) := by
        rcases hcc with rfl | rfl
        · exact ⟨hle, Nat.le_refl _⟩
        · rw [beq_succ]; exact ⟨Nat.le_refl _, hle⟩
      obtain ⟨mc, g1, g2, g3, g4, g5, g6, g7, g8⟩ := run_sliceBounds (P := P) (w := w) h1 h2 h3 hm hc hlim.1 hlim.2 true
      have hmc : mc = m := by
        cases mx with
        | some _ => exact g7 rfl
        | none =>
          obtain ⟨e1, e2⟩ := g8 rfl
          rcases hcc with rfl | rfl
          · simp [Nat.blt] at hex
          · rw [e1, e2, beq_succ]; rfl
      subst hmc
      obtain ⟨s', hs', ok⟩ := hR.obj i _ ho
      rw [hs] at hs'; cases hs'
      obtain ⟨cs, elem, fr, p1, p2, p3, p4, p5, p6⟩ := ok
      refine ValOk.sameV hR hP _ (run_sliceV ht hz g1) ?_
      have hln' : l * z ≤ n * z := Nat.mul_le_mul_right z hln
      have hroom : ∀ q, (q = o ∧ mc = l ∨ q = o + l * z) → (k - l = mc - l ∨ q + (mc - l) * s.esz ≤ s.room) := by
        intro q hq
        right
        rcases hez with e1 | e1
        · rw [p5, e1]
          have hmul : l * z + (mc - l) * z = mc * z := by rw [← Nat.add_mul]; congr 1; omega
          have hmcap : mc * z ≤ cap * z := Nat.mul_le_mul_right z g6
          rcases hr with e2 | e2
          · subst e2; rcases hq with ⟨rfl, e3⟩ | rfl
            · have : mc - l = 0 := by omega
              simp [this]; omega
            · omega
          · rw [p5, e1] at e2
            rcases hq with ⟨rfl, e3⟩ | rfl
            · have : mc - l = 0 := by omega
              simp [this]; omega
            · omega
        · rw [p5, e1]; rcases hq with ⟨rfl, _⟩ | rfl <;> omega
      by_cases e1 : mc = l
      · have hb : Nat.beq mc l = true := by rw [e1]; exact Nat.beq_refl _
        rw [if_pos e1]; simp only [hb, cond_true]
        exact .slice i o (k - l) (mc - l + 1) (mc - l) s hs (by omega) (.inr rfl) (hroom o (.inl ⟨rfl, e1⟩))
      · have hb : Nat.beq mc l = false := by
          cases hq : Nat.beq mc l
          · rfl
          · exact absurd (Nat.eq_of_beq_eq_true hq) e1
        rw [if_neg e1, addr_add, Nat.add_assoc]; simp only [hb, cond_false]
        exact .slice i (o + l * z) (k - l) (mc - l + 1) (mc - l) s hs (by omega) (.inr rfl) (hroom _ (.inr rfl))

/-- the capacity is not known, and something may be left -/
theorem v_slV_mid (hR : R ρ h w) (hP : RP ρ π h pb w) {i o : Nat} {cx : Value} {n : Nat} (hx : FV ρ π pb (.slice (some ⟨i, o, none⟩) n 0) cx) {t e : TypeId} (ht : P.underlying t = some (.slice e)) {z : Nat} (hz : szOf P e = some z)
    {lo hi clo chi : Option Value} (h1 : OO ρ π pb lo clo) (h2 : OO ρ π pb hi chi)
    {l k m ez : Nat} {ro : Bool} {vs : List Value} (hc : cuts n n lo hi none = some (l, k, m))
    (ho : h.m.get i = some (.cells ro ez vs)) (hez : ez = z ∨ ez = 0) (hfit : o + n * z ≤ vs.length) (hln : l < n) :
    ValOk ρ π pb h w ((Instr.sliceAt t cx clo chi none).run P w) (some (.slice (some ⟨i, o + l * z, none⟩) (k - l) 0)) pb h := by
  cases hx with
  | v _ _ hx =>
    cases hx with
    | slice _ _ _ _ cap s hs hle hcc hr =>
      obtain ⟨mc, g1, g2, g3, g4, g5, g6, g7, g8⟩ := run_sliceBounds (P := P) (w := w) h1 h2 .none (by simp) hc hle (Nat.le_refl _) true
      obtain ⟨rfl, _⟩ := g8 rfl
      obtain ⟨s', hs', ok⟩ := hR.obj i _ ho
      rw [hs] at hs'; cases hs'
      obtain ⟨cs, elem, fr, p1, p2, p3, p4, p5, p6⟩ := ok
      refine ValOk.sameV hR hP _ (run_sliceV ht hz g1) ?_
      rw [if_neg (by omega), addr_add, Nat.add_assoc]
      refine .slice i (o + l * z) (k - l) 0 (mc - l) s hs (by omega) (.inl rfl) (.inr ?_)
      have hln' : l * z ≤ n * z := Nat.mul_le_mul_right z (by omega)
      rcases hez with e1 | e1
      · rw [p5, e1]
        have hmul : l * z + (mc - l) * z = mc * z := by rw [← Nat.add_mul]; congr 1; omega
        rcases hr with e2 | e2
        · subst e2; omega
        · rw [p5, e1] at e2; omega
      · rw [p5, e1]; omega
/-- the capacity is not known, and nothing is left -/
theorem v_slV_tail (hR : R ρ h w) (hP : RP ρ π h pb w) {i o : Nat} {cx : Value} {n : Nat} (hx : FV ρ π pb (.slice (some ⟨i, o, none⟩) n 0) cx) {t e : TypeId} (ht : P.underlying t = some (.slice e)) {z : Nat} (hz : szOf P e = some z)
    {lo hi clo chi : Option Value} (h1 : OO ρ π pb lo clo) (h2 : OO ρ π pb hi chi)
    {k m : Nat} {ro : Bool} {vs : List Value} (hc : cuts n n lo hi none = some (n, k, m)) (ho : h.m.get i = some (.cells ro z vs)) :
    ValOk ρ π pb h w ((Instr.sliceAt t cx clo chi none).run P w) (some (.slice (some ⟨i, o + n * z, some 1⟩) 0 0)) pb h := by
  cases hx with
  | v _ _ hx =>
    cases hx with
    | slice _ _ _ _ cap s hs hle hcc hr =>
      obtain ⟨mc, g1, g2, g3, g4, g5, g6, g7, g8⟩ := run_sliceBounds (P := P) (w := w) h1 h2 .none (by simp) hc hle (Nat.le_refl _) true
      obtain ⟨rfl, e2⟩ := g8 rfl
      obtain rfl : k = n := by omega
      obtain ⟨s', hs', ok⟩ := hR.obj i _ ho
      rw [hs] at hs'; cases hs'
      obtain ⟨cs, elem, fr, p1, p2, p3, p4, p5, p6⟩ := ok
      refine ValOk.sameV hR hP _ (run_sliceV ht hz g1) ?_
      rw [Nat.sub_self]
      by_cases e1 : mc = k
      · subst e1; rw [if_pos rfl, Nat.sub_self]
        exact .tail i _ 0 _ rfl (.inl rfl)
      · rw [if_neg e1, addr_add]
        refine .tail i _ _ _ rfl (.inr ⟨s, hs, by rw [Nat.add_assoc], ?_⟩)
        rcases hr with e3 | e3
        · exact absurd e3.symm e1
        · rw [p5] at e3 ⊢
          have hmul : k * z + (mc - k) * z = mc * z := by rw [← Nat.add_mul]; congr 1; omega
          omega
theorem v_slV_tt (hR : R ρ h w) (hP : RP ρ π h pb w) {i o q : Nat} {cx : Value} {n c : Nat} (hx : FV ρ π pb (.slice (some ⟨i, o, some (q + 1)⟩) n c) cx) {t e : TypeId} (ht : P.underlying t = some (.slice e)) {z : Nat} (hz : szOf P e = some z)
    {lo hi clo chi : Option Value} (h1 : OO ρ π pb lo clo) (h2 : OO ρ π pb hi chi) {r : Nat × Nat × Nat} (hc : cuts n (bif Nat.beq c 0 then n else c - 1) lo hi none = some r) :
    ValOk ρ π pb h w ((Instr.sliceAt t cx clo chi none).run P w) (some (.slice (some ⟨i, o, some (q + 1)⟩) 0 0)) pb h := by
  cases hx with
  | v _ _ hx =>
    cases hx with
    | tail _ _ cap a ha hh =>
      obtain ⟨l, k, m⟩ := r
      obtain ⟨mc, g1, g2, g3, g4, g5, g6, g7, g8⟩ := run_sliceBounds (P := P) (w := w) h1 h2 .none (by simp) hc (Nat.zero_le cap) (Nat.le_refl _) true
      obtain ⟨rfl, e2⟩ := g8 rfl
      simp at g4
      obtain rfl : l = 0 := by omega
      obtain rfl : k = 0 := by omega
      refine ValOk.sameV hR hP _ (run_sliceV ht hz g1) ?_
      have : (if mc = 0 then a else a.add (0 * z)) = a := by
        rw [Nat.zero_mul]; split <;> simp [Addr.add]
      rw [this]; exact .tail i o mc a ha hh
theorem v_slV_priv (hR : R ρ h w) (hP : RP ρ π h pb w) {i o : Nat} {cx : Value} {n c : Nat} (hx : FV ρ π pb (.slice (some ⟨i, o, some 0⟩) n c) cx) (hc0 : c ≠ 0) {t e : TypeId} (ht : P.underlying t = some (.slice e)) {z : Nat} (hz : szOf P e = some z)
    {lo hi mx clo chi cmx : Option Value} (h1 : OO ρ π pb lo clo) (h2 : OO ρ π pb hi chi) (h3 : OO ρ π pb mx cmx) (hm : mx.isSome = true → hi.isSome = true)
    {l k m : Nat} (hc : cuts n (bif Nat.beq c 0 then n else c - 1) lo hi mx = some (l, k, m)) :
    ValOk ρ π pb h w ((Instr.sliceAt t cx clo chi cmx).run P w) (some (.slice (some ⟨i, bif Nat.beq m l then o else o + l * z, some 0⟩) (k - l) (m - l + 1))) pb h := by
  cases hx with
  | v _ _ hx => cases hx
  | slice _ _ _ cap b hb hp hle =>
    rw [beq_succ] at hc
    simp only [cond_false, Nat.add_sub_cancel] at hc
    obtain ⟨mc, g1, g2, g3, g4, g5, g6, g7, g8⟩ := run_sliceBounds (P := P) (w := w) h1 h2 h3 hm hc (Nat.le_refl _) hle true
    have hmc : mc = m := by
      cases mx with
      | some _ => exact g7 rfl
      | none => obtain ⟨e1, e2⟩ := g8 rfl; rw [e1, e2]
    subst hmc
    refine ValOk.same hR hP _ (run_sliceV ht hz g1) (fun u hu => ?_)
    cases hu
    by_cases e1 : mc = l
    · have hb' : Nat.beq mc l = true := by rw [e1]; exact Nat.beq_refl _
      rw [if_pos e1]; simp only [hb', cond_true]
      exact .slice i o (k - l) (mc - l) b hb hp (by omega)
    · have hb' : Nat.beq mc l = false := by
        cases hq : Nat.beq mc l
        · rfl
        · exact absurd (Nat.eq_of_beq_eq_true hq) e1
      rw [if_neg e1, addr_add]; simp only [hb', cond_false]
      exact .slice i (o + l * z) (k - l) (mc - l) b hb hp (by omega)

theorem v_slA (hR : R ρ h w) (hP : RP ρ π h pb w) {a : Addr} {cx : Value} (hx : FV ρ π pb (.pointer (some a)) cx) {t e : TypeId} {n : Nat} (ht : P.underlying t = some (.array n e)) {z : Nat} (hz : szOf P e = some z)
    {lo hi mx clo chi cmx : Option Value} (h1 : OO ρ π pb lo clo) (h2 : OO ρ π pb hi chi) (h3 : OO ρ π pb mx cmx) (hm : mx.isSome = true → hi.isSome = true)
    {l k m : Nat} (hc : cuts n n lo hi mx = some (l, k, m)) {vs : List Value} (hcell : cellsAt pb h a = some vs) (hfit : a.off + n * z ≤ vs.length)
    (hes : (match a.spot, h.m.get a.block with
          | none, some (.cells _ e _) => Nat.beq e 0
          | some 0, _ => true
          | _, _ => false) = true) :
    ValOk ρ π pb h w ((Instr.sliceAt t cx clo chi cmx).run P w) (some (.slice (some { a with off := bif Nat.beq m l then a.off else a.off + l * z }) (k - l) (m - l + 1))) pb h := by
  obtain ⟨mc, g1, g2, g3, g4, g5, g6, g7, g8⟩ := run_sliceBounds (P := P) (w := w) h1 h2 h3 hm hc (Nat.le_refl _) (Nat.le_refl _) false
  have hmc : mc = m := by
    cases mx with
    | some _ => exact g7 rfl
    | none => obtain ⟨e1, e2⟩ := g8 rfl; rw [e1, e2]
  subst hmc
  obtain ⟨ca, rfl, hsp⟩ := hx.ptrInv
  have hrun : (Instr.sliceAt t (.pointer (some ca)) clo chi cmx).run P w = .ok (.slice (some (if mc = l then ca else ca.add (l * z))) (k - l) (mc - l)) w := by
    simp [Instr.sliceAt, run_underlying ht, Instr.sureAddr, g1, run_sizeOf hz]
  refine ValOk.same hR hP _ hrun (fun u hu => ?_)
  cases hu
  have hln : l * z ≤ n * z := Nat.mul_le_mul_right z (by omega)
  cases hx with
  | v _ _ hx =>
    cases hx with
    | ptr i o s hs =>
      simp only [cellsAt] at hcell hes
      cases hm' : h.m.get i with
      | none => simp [hm'] at hcell
      | some ob =>
        cases ob with
        | map kvs => simp [hm'] at hcell
        | raw b cs t fr => simp [hm'] at hcell
        | cells ro ez us =>
          simp only [hm', Option.some.injEq] at hcell hes; subst hcell
          obtain ⟨s', hs', ok⟩ := hR.obj i _ hm'
          rw [hs] at hs'; cases hs'
          obtain ⟨cs, elem, fr, p1, p2, p3, p4, p5, p6⟩ := ok
          have hz0 : s.esz = 0 := by rw [p5]; exact Nat.eq_of_beq_eq_true hes
          refine .v _ _ ?_
          simp only at hfit
          by_cases e1 : mc = l
          · have hb : Nat.beq mc l = true := by rw [e1]; exact Nat.beq_refl _
            rw [if_pos e1]; simp only [hb, cond_true]
            exact .slice i o (k - l) (mc - l + 1) (mc - l) s hs (by omega) (.inr rfl) (.inr (by rw [hz0]; omega))
          · have hb : Nat.beq mc l = false := by
              cases hq : Nat.beq mc l
              · rfl
              · exact absurd (Nat.eq_of_beq_eq_true hq) e1
            rw [if_neg e1, addr_add, Nat.add_assoc]; simp only [hb, cond_false]
            exact .slice i (o + l * z) (k - l) (mc - l + 1) (mc - l) s hs (by omega) (.inr rfl) (.inr (by rw [hz0]; omega))
  | ptr i o b hb hp =>
    by_cases e1 : mc = l
    · have hb' : Nat.beq mc l = true := by rw [e1]; exact Nat.beq_refl _
      rw [if_pos e1]; simp only [hb', cond_true]
      exact .slice i o (k - l) (mc - l) b hb hp (by omega)
    · have hb' : Nat.beq mc l = false := by
        cases hq : Nat.beq mc l
        · rfl
        · exact absurd (Nat.eq_of_beq_eq_true hq) e1
      rw [if_neg e1, addr_add]; simp only [hb', cond_false]
      exact .slice i (o + l * z) (k - l) (mc - l) b hb hp (by omega)
end
end Cw
