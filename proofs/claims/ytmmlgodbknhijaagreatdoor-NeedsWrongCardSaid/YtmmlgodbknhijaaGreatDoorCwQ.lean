/-
  Binary operations and comparisons.
-/
import Derived.Test.YtmmlgodbknhijaaGreatDoorCwP
import Derived.Laws.StructEq
import Derived.Laws.Strings
namespace Cw
open Go

theorem bytesEq_spec : ∀ (a b : List UInt8), bytesEq a b = (a == b)
  | [], [] => rfl
  | [], _ :: _ => rfl
  | _ :: _, [] => rfl
  | a :: x, b :: y => by
    have h1 : Nat.beq a.toNat b.toNat = (a == b) := by
      rw [Bool.eq_iff_iff]
      constructor
      · intro h; have := Nat.eq_of_beq_eq_true h; simp [UInt8.toNat_inj.1 this]
      · intro h; simp at h; subst h; exact Nat.beq_refl _
    simp only [bytesEq, bytesEq_spec x y, List.cons_beq_cons, h1]
theorem bytesLt_spec : ∀ (a b : List UInt8), bytesLt a b = Op.bytesLess a b
  | [], [] => rfl
  | _ :: _, [] => rfl
  | [], _ :: _ => rfl
  | a :: x, b :: y => by
    have h1 : Nat.beq a.toNat b.toNat = (a == b) := by
      rw [Bool.eq_iff_iff]
      constructor
      · intro h; have := Nat.eq_of_beq_eq_true h; simp [UInt8.toNat_inj.1 this]
      · intro h; simp at h; subst h; exact Nat.beq_refl _
    have h2 : Nat.blt a.toNat b.toNat = decide (a < b) := by
      rw [Bool.eq_iff_iff]
      simp only [decide_eq_true_eq, UInt8.lt_iff_toNat_lt]
      constructor
      · intro h; exact Nat.le_of_ble_eq_true h
      · intro h; exact Nat.ble_eq_true_of_le h
    simp only [bytesLt, Op.bytesLess, bytesLt_spec x y, h1, h2]
    cases decide (a < b) <;> rfl

section
variable {P : Program} {ρ : Rho} {π : Pi} {pb : PB} {h : AH} {w : World}
theorem toList_mk' (l : List UInt8) : (ByteArray.mk ⟨l⟩).toList = l := ByteArray.toList_mk l

theorem eqGuard_str (op : BinOp) (t : TypeId) (x y : Operand) (s : ByteArray) (v : Value) : eqGuard op t x y (.string s) v = pure () := by cases op <;> rfl

theorem v_str (hR : R ρ h w) (hP : RP ρ π h pb w) {op : BinOp} {t : TypeId} {xo yo : Operand} {a b : List UInt8} {cx cy v : Value} (hx : FV ρ π pb (mkStr a) cx) (hy : FV ρ π pb (mkStr b) cy)
    (hv : evStr op a b = some v) : ValOk ρ π pb h w ((do eqGuard op t xo yo cx cy; binOp op t cx cy : Sem Value).run P w) (some v) pb h := by
  cases hx.str; cases hy.str
  have key : (Op.stringOp op ⟨⟨a⟩⟩ ⟨⟨b⟩⟩).run P w = .ok v w ∧ scal v = true := by
    cases op <;> simp only [evStr] at hv <;> try (simp at hv; done)
    case add =>
      cases hb : Nat.ble (a.length + b.length) 4611686018427387904
      · simp [hb] at hv
      · simp only [hb, cond_true, Option.some.injEq] at hv
        subst hv
        have := Nat.le_of_ble_eq_true hb
        refine ⟨?_, rfl⟩
        have hs1 : (ByteArray.mk ⟨a⟩).size = a.length := rfl
        have hs2 : (ByteArray.mk ⟨b⟩).size = b.length := rfl
        simp only [Op.stringOp, hs1, hs2]
        rw [if_neg (by rw [IntKind.max_i64]; omega)]
        simp only [Sem.run_pure, mkStr]
        congr 2
    all_goals
      simp only [Option.some.injEq] at hv
      subst hv
      refine ⟨?_, rfl⟩
      simp [Op.stringOp, bytesEq_spec, bytesLt_spec]
  refine ValOk.sameV hR hP v ?_ (V.of_scal ρ v key.2)
  have : binOp op t (.string ⟨⟨a⟩⟩) (.string ⟨⟨b⟩⟩) = Op.stringOp op ⟨⟨a⟩⟩ ⟨⟨b⟩⟩ := by
    cases op <;> first | rfl | (simp [evStr] at hv)
  simp [eqGuard_str, this, key.1]

theorem scv_spec {o : Option Value} {v : Value} (hs : scv o = some v) : o = some v ∧ scal v = true := by
  cases o with
  | none => simp [scv] at hs
  | some u =>
    cases hu : scal u
    · simp [scv, hu] at hs
    · simp only [scv, hu, cond_true, Option.some.injEq] at hs; subst hs; exact ⟨rfl, hu⟩

theorem isEq_spec {op : BinOp} {e : Bool} (h : isEq op = some e) : (op = .eql ∧ e = true) ∨ (op = .neq ∧ e = false) := by
  cases op <;> simp [isEq] at h <;> simp [h]

/-- a comparison that comes to 'equal' -/
theorem run_eqCmp {op : BinOp} {e r : Bool} (he : isEq op = some e) {t : TypeId} {xo yo : Operand} {cx cy : Value} (hg : (eqGuard op t xo yo cx cy).run P w = .ok () w)
    (hb1 : binOp .eql t cx cy = (do pure (.bool (← Op.equal t cx cy)))) (hb2 : binOp .neq t cx cy = (do pure (.bool (!(← Op.equal t cx cy)))))
    (hq : (Op.equal t cx cy).run P w = .ok r w) :
    (do eqGuard op t xo yo cx cy; binOp op t cx cy : Sem Value).run P w = .ok (.bool (e == r)) w := by
  rcases isEq_spec he with ⟨rfl, rfl⟩ | ⟨rfl, rfl⟩
  · simp [hg, hb1, hq]
  · simp [hg, hb2, hq]

theorem frozen_all {b o : Nat} {cs : List Value} {elem : TypeId} {fr : Nat × Nat} (h : w.heap[b]? = some (.cells ⟨cs⟩ elem fr)) (hf : unfrozenAll fr) :
    w.frozen? ⟨b, o, none⟩ = false := by
  obtain ⟨lo, hi⟩ := fr
  simp only [World.frozen?, h]
  have := hf o
  by_cases h1 : lo ≤ o
  · have h2 : ¬ o < hi := fun h2 => this ⟨h1, h2⟩
    simp [h2]
  · simp [h1]
theorem shape_at {b : Nat} {cs : List Value} {elem : TypeId} {fr : Nat × Nat} (hb : w.heap[b]? = some (.cells ⟨cs⟩ elem fr)) : w.shape? b = some (elem, cs.length) := by
  simp [World.shape?, hb]

theorem run_sameAddr {b₁ o₁ b₂ o₂ : Nat} {cs₁ cs₂ : List Value} {e₁ e₂ : TypeId} {f₁ f₂ : Nat × Nat} (h1 : w.heap[b₁]? = some (.cells ⟨cs₁⟩ e₁ f₁)) (h2 : w.heap[b₂]? = some (.cells ⟨cs₂⟩ e₂ f₂))
    (u1 : unfrozenAll f₁) (u2 : unfrozenAll f₂) : (sameAddr ⟨b₁, o₁, none⟩ ⟨b₂, o₂, none⟩).run P w = .ok (decide (b₁ = b₂ ∧ o₁ = o₂)) w := by
  by_cases e : b₁ = b₂
  · subst e
    have : ((⟨b₁, o₁, none⟩ : Addr) == ⟨b₁, o₂, none⟩) = decide (o₁ = o₂) := by
      rw [Bool.eq_iff_iff]; simp
    simp [sameAddr, this]
  · simp [sameAddr, e, frozen_all h1 u1, frozen_all h2 u2, noView, viewAt, shape_at h1, shape_at h2, mayBeOne, stringish]

theorem ck1 {t : TypeId} (h : Nat.beq (cmpKind P t) 1 = true) : ∃ e z, P.underlying t = some (.pointer e) ∧ szOf P e = some z ∧ z ≠ 0 := by
  unfold cmpKind at h
  split at h
  · rename_i e h1
    split at h
    · rename_i z h2
      cases hz : Nat.blt 0 z
      · simp [hz] at h
      · exact ⟨e, z, h1, h2, fun e0 => by subst e0; simp [Nat.blt] at hz⟩
    · simp at h
  all_goals simp at h
theorem ck2 {t : TypeId} (h : Nat.beq (cmpKind P t) 2 = true) : ∃ e, P.underlying t = some (.slice e) := by
  unfold cmpKind at h
  split at h
  · split at h
    · rename_i z _; cases hz : Nat.blt 0 z <;> simp [hz] at h
    · simp at h
  · exact ⟨_, by assumption⟩
  all_goals simp at h
theorem ck3 {t : TypeId} (h : Nat.beq (cmpKind P t) 3 = true) : ∃ k e, P.underlying t = some (.map k e) := by
  unfold cmpKind at h
  split at h
  · split at h
    · rename_i z _; cases hz : Nat.blt 0 z <;> simp [hz] at h
    · simp at h
  · simp at h
  · exact ⟨_, _, by assumption⟩
  all_goals simp at h
theorem ck4 {t : TypeId} (h : Nat.beq (cmpKind P t) 4 = true) : ∃ ms, P.underlying t = some (.interface ms) := by
  unfold cmpKind at h
  split at h
  · split at h
    · rename_i z _; cases hz : Nat.blt 0 z <;> simp [hz] at h
    · simp at h
  · simp at h
  · simp at h
  · exact ⟨_, by assumption⟩
  all_goals simp at h

theorem v_cmp (hR : R ρ h w) (hP : RP ρ π h pb w) {op : BinOp} {e r : Bool} (he : isEq op = some e) {t : TypeId} {xo yo : Operand} {cx cy v : Value}
    (hg : (eqGuard op t xo yo cx cy).run P w = .ok () w)
    (hb1 : binOp .eql t cx cy = (do pure (.bool (← Op.equal t cx cy)))) (hb2 : binOp .neq t cx cy = (do pure (.bool (!(← Op.equal t cx cy)))))
    (hq : (Op.equal t cx cy).run P w = .ok r w) (hv : v = .bool (e == r)) :
    ValOk ρ π pb h w ((do eqGuard op t xo yo cx cy; binOp op t cx cy : Sem Value).run P w) (some v) pb h :=
  ValOk.sameV hR hP (.bool (e == r)) (run_eqCmp he hg hb1 hb2 hq) (by rw [hv]; exact .bool _)

theorem isC_spec {xo yo : Operand} (h : (isC xo || isC yo) = true) (op : BinOp) (t : TypeId) : eqGuard op t xo yo .nilIface .nilIface = pure () := by
  cases xo <;> cases yo <;> simp [isC] at h <;> cases op <;> rfl

theorem equal_unfold (t : TypeId) (x y : Value) : Op.equal t x y = Op.equalIn (9999 + 1) t x y := rfl

theorem intLt_eq (a b : Int) : intLt a b = decide (a < b) := by
  cases a <;> cases b <;> simp only [intLt, Nat.blt]
  · rename_i m n
    rw [Bool.eq_iff_iff, decide_eq_true_iff, Nat.ble_eq]; show _ ↔ (m : Int) < (n : Int); omega
  · rename_i m n
    symm; rw [decide_eq_false_iff_not]; show ¬ ((m : Int) < Int.negSucc n); omega
  · rename_i m n
    symm; rw [decide_eq_true_iff]; show (Int.negSucc m < (n : Int)); omega
  · rename_i m n
    rw [Bool.eq_iff_iff, decide_eq_true_iff, Nat.ble_eq]; omega
theorem intEq_eq (a b : Int) : intEq a b = decide (a = b) := by
  cases a <;> cases b <;> simp only [intEq]
  · rename_i m n
    rw [Bool.eq_iff_iff, decide_eq_true_iff, Nat.beq_eq]; exact ⟨fun h => by rw [h], fun h => by injection h⟩
  · simp
  · simp
  · rename_i m n
    rw [Bool.eq_iff_iff, decide_eq_true_iff, Nat.beq_eq]; exact ⟨fun h => by rw [h], fun h => by injection h with h; exact h.symm⟩
theorem forceN_eq {α : Type} (n : Nat) (k : Nat → α) : forceN n k = k n := by cases n <;> rfl
theorem wrapF_eq (k : IntKind) (n : Int) : wrapF k n = k.wrap n := by
  unfold wrapF
  split
  · rename_i m
    rw [forceN_eq]
    cases hb : Nat.blt m 9223372036854775808
    · rfl
    · have hb : m < 9223372036854775808 := Nat.le_of_ble_eq_true hb
      simp only [cond_true, IntKind.wrap]
      have e1 : ((Int.ofNat m) % (2 ^ IntKind.i64.bits : Int)) = Int.ofNat m := by
        show ((m : Int) % (2 ^ 64 : Int)) = (m : Int); omega
      rw [e1, if_neg]
      show ¬ ((true && decide ((m : Int) ≥ (2 ^ 63 : Int))) = true)
      simp; omega
  · rename_i m
    rw [forceN_eq]
    cases hb : Nat.blt m 256
    · rfl
    · have hb : m < 256 := Nat.le_of_ble_eq_true hb
      simp only [cond_true, IntKind.wrap]
      have e1 : ((Int.ofNat m) % (2 ^ IntKind.u8.bits : Int)) = Int.ofNat m := by
        show ((m : Int) % (2 ^ 8 : Int)) = (m : Int); omega
      rw [e1, if_neg]
      show ¬ ((false && _) = true)
      simp
  · rfl
theorem addF_eq (a b : Int) : addF a b = a + b := by
  unfold addF; split
  · rfl
  · rfl
theorem subF_eq (a b : Int) : subF a b = a - b := by
  unfold subF; split
  · rename_i m n
    cases hb : Nat.ble n m
    · rfl
    · have := Nat.le_of_ble_eq_true hb
      show Int.ofNat (m - n) = (m : Int) - (n : Int); show ((m - n : Nat) : Int) = _; omega
  · rfl
theorem mulF_eq (a b : Int) : mulF a b = a * b := by
  unfold mulF; split
  · rfl
  · rfl
theorem kindEq_eq {a b : IntKind} (h : kindEq a b = true) : a = b := by
  cases a <;> cases b <;> first | rfl | (simp [kindEq, kidx] at h)
theorem evInt_eq {op : BinOp} {k j : IntKind} {a b : Int} {v : Value} (P : Program) (t : TypeId) (h : evInt op k a j b = some v) :
    scv (pureRun P (binOp op t (.int k a) (.int j b))) = some v := by
  unfold evInt at h
  cases hk : kindEq k j
  · simp [hk] at h
  · obtain rfl := kindEq_eq hk
    simp only [hk, cond_true] at h
    cases op <;> simp only [] at h <;> (try (simp at h; done))
    case add => cases h; simp [binOp, Op.intArith, pureRun, scv, scal, wrapF_eq, addF_eq, pure]
    case sub => cases h; simp [binOp, Op.intArith, pureRun, scv, scal, wrapF_eq, subF_eq, pure]
    case mul => cases h; simp [binOp, Op.intArith, pureRun, scv, scal, wrapF_eq, mulF_eq, pure]
    case eql =>
      cases h; simp only [binOp, Op.intCmp, pureRun, scv, scal, intEq_eq, pure, ne_eq, not_true_eq_false, if_false, cond_true]
      by_cases e : a = b <;> simp [e]
    case neq =>
      cases h; simp only [binOp, Op.intCmp, pureRun, scv, scal, intEq_eq, pure, ne_eq, not_true_eq_false, if_false, cond_true]
      by_cases e : a = b <;> simp [e]
    case lss => cases h; simp [binOp, Op.intCmp, pureRun, scv, scal, intLt_eq, pure]
    case leq => cases h; simp [binOp, Op.intCmp, pureRun, scv, scal, intLt_eq, pure]; rw [Bool.eq_iff_iff]; simp
    case gtr => cases h; simp [binOp, Op.intCmp, pureRun, scv, scal, intLt_eq, pure]
    case geq => cases h; simp [binOp, Op.intCmp, pureRun, scv, scal, intLt_eq, pure]; rw [Bool.eq_iff_iff]; simp
    case quo =>
      split at h
      · rename_i m n
        cases h
        have hn : ¬ (Int.ofNat (n + 1) = 0) := by intro e; cases e
        simp only [binOp, Op.intDiv, ne_eq, not_true_eq_false, if_false, hn, pureRun, scv, scal, wrapF_eq, pure, cond_true]
        rfl
      · simp at h
    case rem =>
      split at h
      · rename_i m n
        rw [forceN_eq] at h
        cases h
        have hn : ¬ (Int.ofNat (n + 1) = 0) := by intro e; cases e
        simp only [binOp, Op.intDiv, ne_eq, not_true_eq_false, if_false, hn, pureRun, scv, scal, pure, cond_true]
        rfl
      · simp at h
theorem v_bin0 (hR : R ρ h w) (hP : RP ρ π h pb w) {op : BinOp} {t : TypeId} {xo yo : Operand} {x y cx cy v : Value} (hx : FV ρ π pb x cx) (hy : FV ρ π pb y cy)
    (hv : evBin0 P h op t (isC xo || isC yo) (!(P.eqGuardType P.depth t)) (cmpKind P t) x y = some v) :
    ValOk ρ π pb h w ((do eqGuard op t xo yo cx cy; binOp op t cx cy : Sem Value).run P w) (some v) pb h := by
  unfold evBin0 at hv
  split at hv
  · exact v_str hR hP hx hy hv
  · -- a pointer against nil
    split at hv
    · rename_i h1 h2
      obtain ⟨e, z, hu, _, _⟩ := ck1 h1
      obtain ⟨ca, rfl, _⟩ := hx.ptrInv
      cases hy.scal rfl
      simp only [Option.map_eq_some_iff] at hv
      obtain ⟨b, he, rfl⟩ := hv
      refine v_cmp hR hP he (r := false) (by simp [eqGuard_at_pointer]) rfl rfl ?_ (by cases b <;> rfl)
      rw [equal_unfold]; unfold Op.equalIn; simp [run_underlying hu]
    · simp at hv
  · split at hv
    · rename_i h1 h2
      obtain ⟨e, z, hu, _, _⟩ := ck1 h1
      obtain ⟨ca, rfl, _⟩ := hy.ptrInv
      cases hx.scal rfl
      simp only [Option.map_eq_some_iff] at hv
      obtain ⟨b, he, rfl⟩ := hv
      refine v_cmp hR hP he (r := false) (by simp [eqGuard_at_pointer]) rfl rfl ?_ (by cases b <;> rfl)
      rw [equal_unfold]; unfold Op.equalIn; simp [run_underlying hu]
    · simp at hv
  · -- two pointers
    rename_i a b
    split at hv
    · rename_i e' r' h1 he hs
      obtain ⟨e, z, hu, hz, h0⟩ := ck1 h1
      simp only [Option.some.injEq] at hv; subst hv
      unfold samePtr at hs
      split at hs
      · rename_i us1 us2 s1 s2 g1 g2
        simp only [Option.some.injEq] at hs
        obtain ⟨ab, ao, asp⟩ := a; obtain ⟨bb, bo, bsp⟩ := b
        simp only at s1 s2 g1 g2 hs
        subst s1; subst s2
        cases hx with
        | v _ _ hx =>
          cases hy with
          | v _ _ hy =>
            cases hx with
            | ptr _ _ sa hsa =>
              cases hy with
              | ptr _ _ sb hsb =>
                obtain ⟨ta, hta, oka⟩ := hR.obj _ _ g1
                rw [hsa] at hta; cases hta
                obtain ⟨tb, htb, okb⟩ := hR.obj _ _ g2
                rw [hsb] at htb; cases htb
                obtain ⟨cs1, el1, fr1, p1, p2, _⟩ := oka
                obtain ⟨cs2, el2, fr2, q1, q2, _⟩ := okb
                refine v_cmp hR hP he (r := r') (by simp [eqGuard_at_pointer]) rfl rfl ?_ rfl
                rw [equal_unfold]; unfold Op.equalIn
                simp only [Sem.run_bind, run_underlying hu, Result.andThen_ok, run_sizeOf hz, h0, ne_eq, not_false_eq_true, if_true]
                rw [run_sameAddr p1 q1 ((p2 rfl).2 rfl) ((q2 rfl).2 rfl), ← hs]
                congr 1
                rw [Bool.eq_iff_iff]
                simp only [decide_eq_true_eq, Bool.and_eq_true]
                by_cases e0 : ab = bb
                · subst e0
                  rw [hsa] at hsb; cases hsb
                  constructor
                  · rintro ⟨_, k⟩; exact ⟨Nat.beq_refl _, by rw [show ao = bo by omega]; exact Nat.beq_refl _⟩
                  · rintro ⟨_, k⟩; exact ⟨rfl, by rw [Nat.eq_of_beq_eq_true k]⟩
                · constructor
                  · rintro ⟨k, _⟩; exact absurd k (hR.inj _ _ _ _ _ _ e0 g1 g2 hsa hsb rfl)
                  · rintro ⟨k, _⟩; exact absurd (Nat.eq_of_beq_eq_true k) e0
      · simp at hs
    · simp at hv
  · -- nil interface, and one that is not
    cases hk : Nat.beq (cmpKind P t) 4
    · simp [hk] at hv
    · obtain ⟨ms, hu⟩ := ck4 hk
      simp only [hk, cond_true, Option.map_eq_some_iff] at hv
      obtain ⟨b, he, rfl⟩ := hv
      cases hx.scal rfl
      cases hy with
      | v _ _ hy =>
        cases hy with
        | iface u y y' hy =>
          refine v_cmp hR hP he (r := false) (by simp [eqGuard_nil_iface]) rfl rfl ?_ (by cases b <;> rfl)
          rw [equal_unfold]; unfold Op.equalIn; simp [run_underlying hu]
  · cases hk : Nat.beq (cmpKind P t) 4
    · simp [hk] at hv
    · obtain ⟨ms, hu⟩ := ck4 hk
      simp only [hk, cond_true, Option.map_eq_some_iff] at hv
      obtain ⟨b, he, rfl⟩ := hv
      cases hy.scal rfl
      cases hx with
      | v _ _ hx =>
        cases hx with
        | iface u y y' hy =>
          refine v_cmp hR hP he (r := false) (by simp [eqGuard_at_iface]) rfl rfl ?_ (by cases b <;> rfl)
          rw [equal_unfold]; unfold Op.equalIn; simp [run_underlying hu]
  · -- slices against nil
    rename_i a _ _ _ _
    cases hk : Nat.beq (cmpKind P t) 2 && !(isLoc (.slice (some a) 0 0))
    · simp [hk] at hv
    · simp only [hk, cond_true, Option.map_eq_some_iff] at hv
      simp only [Bool.and_eq_true] at hk
      obtain ⟨e, hu⟩ := ck2 hk.1
      obtain ⟨b, he, rfl⟩ := hv
      obtain ⟨ca, cap, rfl, _⟩ := hx.sliceInv
      obtain ⟨rfl, _, _⟩ := hy.sliceNil
      refine v_cmp hR hP he (r := false) (by simp [eqGuard_at_slice]) rfl rfl ?_ (by cases b <;> rfl)
      rw [equal_unfold]; unfold Op.equalIn; simp [run_underlying hu]
  · rename_i _ _ a _ _
    cases hk : Nat.beq (cmpKind P t) 2 && !(isLoc (.slice (some a) 0 0))
    · simp [hk] at hv
    · simp only [hk, cond_true, Option.map_eq_some_iff] at hv
      simp only [Bool.and_eq_true] at hk
      obtain ⟨e, hu⟩ := ck2 hk.1
      obtain ⟨b, he, rfl⟩ := hv
      obtain ⟨ca, cap, rfl, _⟩ := hy.sliceInv
      obtain ⟨rfl, _, _⟩ := hx.sliceNil
      refine v_cmp hR hP he (r := false) (by simp [eqGuard_at_slice]) rfl rfl ?_ (by cases b <;> rfl)
      rw [equal_unfold]; unfold Op.equalIn; simp [run_underlying hu]
  · -- maps against nil
    cases hk : Nat.beq (cmpKind P t) 3
    · simp [hk] at hv
    · obtain ⟨kt, et, hu⟩ := ck3 hk
      simp only [hk, cond_true, Option.map_eq_some_iff] at hv
      obtain ⟨b, he, rfl⟩ := hv
      cases hy.scal rfl
      cases hx with
      | v _ _ hx =>
        cases hx
        refine v_cmp hR hP he (r := false) (by simp [eqGuard_at_map]) rfl rfl ?_ (by cases b <;> rfl)
        rw [equal_unfold]; unfold Op.equalIn; simp [run_underlying hu]
  · cases hk : Nat.beq (cmpKind P t) 3
    · simp [hk] at hv
    · obtain ⟨kt, et, hu⟩ := ck3 hk
      simp only [hk, cond_true, Option.map_eq_some_iff] at hv
      obtain ⟨b, he, rfl⟩ := hv
      cases hx.scal rfl
      cases hy with
      | v _ _ hy =>
        cases hy
        refine v_cmp hR hP he (r := false) (by simp [eqGuard_at_map]) rfl rfl ?_ (by cases b <;> rfl)
        rw [equal_unfold]; unfold Op.equalIn; simp [run_underlying hu]
  · -- two nil interfaces
    cases hc : (isC xo || isC yo)
    · simp [hc] at hv
    cases hk : Nat.beq (cmpKind P t) 4
    · simp [hk] at hv
    · obtain ⟨ms, hu⟩ := ck4 hk
      simp only [hc, hk, Bool.and_self, cond_true, Option.map_eq_some_iff] at hv
      obtain ⟨b, he, rfl⟩ := hv
      cases hx.scal rfl; cases hy.scal rfl
      refine v_cmp hR hP he (r := true) (by simp [isC_spec hc]) rfl rfl ?_ (by cases b <;> rfl)
      rw [equal_unfold]; unfold Op.equalIn; simp [run_underlying hu]
  · -- structs, arrays
    rename_i xs ys
    cases hg : P.eqGuardType P.depth t
    · cases h1 : scal (.agg xs)
      · simp [hg, h1] at hv
      cases h2 : scal (.agg ys)
      · simp [hg, h1, h2] at hv
      simp only [hg, h1, h2, Bool.not_false, Bool.and_self, cond_true] at hv
      obtain ⟨g1, g2⟩ := scv_spec hv
      cases hx.scal h1; cases hy.scal h2
      refine ValOk.sameV hR hP v ?_ (V.of_scal ρ v g2)
      have : (eqGuard op t xo yo (.agg xs) (.agg ys)).run P w = .ok () w := by
        cases op <;> first | rfl | simp [eqGuard, hg]
      simp [this, pureRun_run g1 w]
    · simp [hg] at hv
  · rename_i n1 n2 n3 n4 n5 n6 n7 n8 n9 n10 n11 n12
    cases h1 : scal x
    · simp [h1] at hv
    cases h2 : scal y
    · simp [h1, h2] at hv
    simp only [h1, h2, Bool.and_self, cond_true] at hv
    obtain ⟨g1, g2⟩ := scv_spec hv
    cases hx.scal h1; cases hy.scal h2
    refine ValOk.sameV hR hP v ?_ (V.of_scal ρ v g2)
    have : eqGuard op t xo yo x y = pure () := by
      clear hv g1 g2 hx hy h1 h2 n1 n2 n3 n4 n5 n6 n7 n8 n9 n10
      cases x with
      | nilIface => cases y <;> first | exact (n11 rfl rfl).elim | (cases op <;> rfl)
      | agg xs => cases y <;> first | exact (n12 _ _ rfl rfl).elim | (cases op <;> rfl)
      | _ => cases op <;> rfl
    simp [this, pureRun_run g1 w]
theorem eqFlat_run {d : Nat} {xs ys cx cy : List Value} (hx : VL ρ xs cx) (hy : VL ρ ys cy) : ∀ (fs : List Field) (b : Bool), eqFlat P xs ys fs = some b → ∀ w, (Op.eqFields (d + 1) ⟨cx⟩ ⟨cy⟩ fs).run P w = .ok b w
  | [], b, h, w => by
    simp only [eqFlat, Option.some.injEq] at h; subst h
    simp [Op.eqFields]
  | f :: fs, b, h, w => by
    simp only [eqFlat] at h
    cases hn : (f.name != "_" && (P.info? f.type).isSome)
    · simp [hn] at h
    simp only [hn, cond_true] at h
    simp only [Bool.and_eq_true] at hn
    have hname : f.name ≠ "_" := by simpa using hn.1
    have hinfo : ∃ i, P.info? f.type = some i := by
      cases hi : P.info? f.type with
      | none => rw [hi] at hn; simp at hn
      | some i => exact ⟨i, rfl⟩
    obtain ⟨i, hi⟩ := hinfo
    have step : ∀ (u : TypeDesc) (a c : Value) (r e : Bool), P.underlying f.type = some u → (∀ z, u ≠ .struct z) → (∀ m z, u ≠ .array m z) → xs[f.offset]? = some a → ys[f.offset]? = some c → eqFlat P xs ys fs = some r →
        (∀ (ca cc : Value), V ρ a ca → V ρ c cc → (Op.equalIn (d + 1) f.type ca cc).run P w = .ok e w) → (Op.eqFields (d + 1) ⟨cx⟩ ⟨cy⟩ (f :: fs)).run P w = .ok (e && r) w := by
      intro u a c r e hu hs ha hxa hyc hr he
      have hz : aggSz P f.type = some none := by
        simp only [aggSz, hi, hu]
      obtain ⟨ca, h1, h2⟩ := hx.get _ _ hxa
      obtain ⟨cc, h3, h4⟩ := hy.get _ _ hyc
      have p1 := run_part (P := P) (cs := cx) (o := f.offset) (v := ca) hz (by simpa [readCells] using h1) w
      have p2 := run_part (P := P) (cs := cy) (o := f.offset) (v := cc) hz (by simpa [readCells] using h3) w
      simp only [Op.eqFields, hname, ne_eq, not_false_eq_true, if_true, Sem.run_bind, p1, p2, Result.andThen_ok, he ca cc h2 h4]
      cases e
      · try simp
      · try simp only [Bool.not_true, Bool.false_eq_true, if_false, Bool.true_and]
        exact eqFlat_run hx hy fs r hr w
    split at h
    · rename_i r k0 k a j b' hr hu hxa hyb
      cases hk : kindEq k j
      · simp [hk] at h
      · simp only [hk, cond_true, Option.some.injEq] at h; subst h
        have := kindEq_eq hk; subst this
        refine step _ _ _ r _ hu (by intros; simp) (by intros; simp) hxa hyb hr ?_
        intro ca cc hca hcc
        cases hca; cases hcc
        rw [run_equalIn_int w d _ _ _ _ _ hu, intEq_eq]
        rfl
    · rename_i r a b' hr hu hxa hyb
      simp only [Option.some.injEq] at h; subst h
      refine step _ _ _ r _ hu (by intros; simp) (by intros; simp) hxa hyb hr ?_
      intro ca cc hca hcc
      cases hca; cases hcc
      rw [run_equalIn_string w d _ _ _ hu, bytesEq_spec]
      simp [ByteArray.toList_mk]
    · rename_i r a b' hr hu hxa hyb
      simp only [Option.some.injEq] at h; subst h
      refine step _ _ _ r _ hu (by intros; simp) (by intros; simp) hxa hyb hr ?_
      intro ca cc hca hcc
      cases hca; cases hcc
      rw [run_equalIn_bool' w d _ _ _ hu]
      cases a <;> cases b' <;> rfl
    · cases h

theorem v_bin (hR : R ρ h w) (hP : RP ρ π h pb w) {op : BinOp} {t : TypeId} {xo yo : Operand} {x y cx cy v : Value} (hx : FV ρ π pb x cx) (hy : FV ρ π pb y cy)
    (hv : evBin P h op t (isC xo || isC yo) (!(P.eqGuardType P.depth t)) (cmpKind P t) x y = some v) :
    ValOk ρ π pb h w ((do eqGuard op t xo yo cx cy; binOp op t cx cy : Sem Value).run P w) (some v) pb h := by
  unfold evBin at hv
  split at hv
  · split at hv
    · rename_i hi
      cases hv
      refine v_bin0 hR hP hx hy ?_
      simp only [evBin0, scal, Bool.and_self, cond_true]
      exact evInt_eq P t hi
    · exact v_bin0 hR hP hx hy hv
  · rename_i a b
    split at hv
    · rename_i e r he hr
      simp only [Option.some.injEq] at hv; subst hv
      cases hg : (!(P.eqGuardType P.depth t))
      · simp [hg] at hr
      simp only [hg, cond_true, evFlat] at hr
      have hg' : P.eqGuardType P.depth t = false := by simpa using hg
      split at hr
      case h_2 => cases hr
      rename_i fs hu
      cases hp : P.stoodInHeld t
      · simp only [hp, cond_false] at hr
        obtain ⟨ca, rfl, hca⟩ := hx.aggInv
        obtain ⟨cb, rfl, hcb⟩ := hy.aggInv
        have hf : P.fieldsOf t = fs := by simp [Program.fieldsOf, hu]
        have hq := run_equalIn_struct (P := P) w 9999 t ⟨ca⟩ ⟨cb⟩ (by rw [hf]; exact hu) hp
        rw [hf] at hq
        have hrun := eqFlat_run (d := 9998) hca hcb fs.toList r hr w
        have hq2 : (Op.equalIn 10000 t (.agg ⟨ca⟩) (.agg ⟨cb⟩)).run P w = .ok r w := hq.trans hrun
        refine ValOk.sameV hR hP _ ?_ (.bool _)
        rw [Sem.run_bind, run_eqGuard_agg w op t xo yo ⟨ca⟩ ⟨cb⟩ hg', Result.andThen_ok]
        rcases isEq_spec he with ⟨rfl, rfl⟩ | ⟨rfl, rfl⟩
        · rw [run_eql_struct, hq2]; rfl
        · rw [run_neq_struct, hq2]; rfl
      · simp [hp] at hr
    · exact v_bin0 hR hP hx hy hv
  · exact v_bin0 hR hP hx hy hv
end
end Cw
