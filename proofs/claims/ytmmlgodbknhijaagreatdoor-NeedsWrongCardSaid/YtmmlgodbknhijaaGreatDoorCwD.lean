/-
  All operations but calls: the evaluator's step is the model's.
-/
import Derived.Test.YtmmlgodbknhijaaGreatDoorCwC
namespace Cw
open Go

section
variable {P : Program} {ρ : Rho} {π : Pi} {pb : PB} {h : AH} {w : World}

theorem v_clear (hR : R ρ h w) (hP : RP ρ π h pb w) {t e ty : TypeId} {z : Value} (ht : P.underlying t = some (.slice e)) (hz : zeroOf P e = some z) {d : Option Addr} {n c : Nat} {cd : Value}
    (hd : FV ρ π pb (.slice d n c) cd) {h' : AH}
    (hev : (match (generalizing := false) d with
      | none => some h
      | some d => match d.spot, h.m.get d.block with
        | none, some (.cells false e vs) => bif Nat.ble (d.off + n * (cellsL z).length) vs.length && (cellsL z).all oneCell then
            some ⟨h.m.set d.block (some (.cells false e (setRange vs d.off ((List.replicate n (cellsL z)).flatten)))), h.nx⟩ else none
        | _, _ => none : Option AH) = some h') :
    ValOk ρ π pb h w ((Builtin.clear_ #[t] ty #[cd]).run P w) none pb h' := by
  obtain ⟨z1, z2⟩ := run_zeroValue hz w
  cases d with
  | none =>
    obtain ⟨rfl, rfl, rfl⟩ := hd.sliceNil
    simp only [Option.some.injEq] at hev; subst hev
    refine ValOk.same hR hP (.tuple #[]) ?_ (fun u hu => by simp at hu)
    simp [Builtin.clear_, run_underlying ht]
  | some d =>
    simp only at hev
    split at hev
    · rename_i ez us hsp hob
      cases hb : (Nat.ble (d.off + n * (cellsL z).length) us.length && (cellsL z).all oneCell)
      · simp [hb] at hev
      · simp only [hb, cond_true, Option.some.injEq] at hev; subst hev
        simp only [Bool.and_eq_true] at hb
        obtain ⟨s, cap, hs, rfl⟩ := heap_slice hd hsp
        have hv : ∀ n, VL ρ ((List.replicate n (cellsL z)).flatten) ((List.replicate n (cellsL z)).flatten) ∧ ((List.replicate n (cellsL z)).flatten).all oneCell = true := by
          intro n
          induction n with
          | zero => exact ⟨.nil, rfl⟩
          | succ n ih => 
            simp only [List.replicate_succ, List.flatten_cons]
            exact ⟨(V.of_scal ρ z z2).cells.append ih.1, by rw [List.all_append, hb.2, ih.2]; rfl⟩
        have hfit : d.off + ((List.replicate n (cellsL z)).flatten).length ≤ us.length := by have := Nat.le_of_ble_eq_true hb.1; simpa using this
        obtain ⟨w', r1, r2, r3, r4⟩ := v_storeRow (P := P) (π := π) (pb := pb) hR hP (o := d.off) hob hs (hv n).1 (hv n).2 hfit
        refine ⟨.tuple #[], w', ρ, π, ?_, r2, r3, r4, PiOk.refl _ _, fun u hu => by simp at hu⟩
        cases n with
        | zero =>
          have hw : w' = w := by simp [storeCells] at r1; exact r1.symm
          subst hw
          simp [Builtin.clear_, run_underlying ht]
        | succ n =>
          have hzc : (Builtin.zeroCells z.cells (n + 1)).toList = (List.replicate (n + 1) (cellsL z)).flatten := by
            by_cases hne : cellsL z = []
            · have : z.cells = #[] := by rw [Value.cells_eq, hne]
              simp [Builtin.zeroCells, this, hne]
            · have := range_cells (cellsL z) (n + 1) hne
              rw [← this]; simp only [Builtin.zeroCells, Value.cells_eq]; rfl
          simp [Builtin.clear_, run_underlying ht, z1, hzc, r1]
    · simp at hev

/-- what an operation that is no call comes to -/
def PlOk (ρ : Rho) (π : Pi) (pb : PB) (h : AH) (w : World) (x : Result Next) (v : Option Value) (pb' : PB) (h' : AH) : Prop :=
  ∃ nx cv w' ρ' π', x = .ok nx w' ∧ (nx = .value cv ∨ (nx = .skip ∧ cv = undef)) ∧ R ρ' h' w' ∧ RP ρ' π' h' pb' w' ∧ Stp ρ π h w ρ' π' h' w' ∧ PiOk pb π pb' π' ∧ ∀ u, v = some u → FV ρ' π' pb' u cv
theorem PlOk.ofVal {e : Sem Value} {v : Option Value} {pb' : PB} {h' : AH} (hv : ValOk ρ π pb h w (e.run P w) v pb' h') : PlOk ρ π pb h w ((do pure (Next.value (← e)) : Sem Next).run P w) v pb' h' := by
  obtain ⟨cv, w', ρ', π', h1, h2, h3, h4, h5, h6⟩ := hv
  exact ⟨.value cv, cv, w', ρ', π', by simp [h1], .inl rfl, h2, h3, h4, h5, h6⟩
theorem PlOk.ofUnit {e : Sem Unit} {pb' : PB} {h' : AH} (hv : UnitOk ρ π pb h w (e.run P w) pb' h') : PlOk ρ π pb h w ((do e; pure Next.skip : Sem Next).run P w) none pb' h' := by
  obtain ⟨w', ρ', π', h1, h2, h3, h4, h5⟩ := hv
  exact ⟨.skip, undef, w', ρ', π', by simp [h1], .inr ⟨rfl, rfl⟩, h2, h3, h4, h5, fun u hu => by simp at hu⟩

theorem OL.one {x : Option Value} {xs : List (Option Value)} {c : Value} (hl : OL ρ π pb (x :: xs) (c :: [])) : xs = [] ∧ ∀ v, x = some v → FV ρ π pb v c := by
  cases hl with | cons _ _ _ _ h hs => cases hs; exact ⟨rfl, h⟩
theorem OL.two {x y : Option Value} {c d : Value} (hl : OL ρ π pb [x, y] [c, d]) : (∀ v, x = some v → FV ρ π pb v c) ∧ (∀ v, y = some v → FV ρ π pb v d) := by
  cases hl with | cons _ _ _ _ h hs => cases hs with | cons _ _ _ _ g gs => exact ⟨h, g⟩
theorem OL.three {x y z : Option Value} {c d e : Value} (hl : OL ρ π pb [x, y, z] [c, d, e]) : (∀ v, x = some v → FV ρ π pb v c) ∧ (∀ v, y = some v → FV ρ π pb v d) ∧ (∀ v, z = some v → FV ρ π pb v e) := by
  cases hl with | cons _ _ _ _ h hs => cases hs with | cons _ _ _ _ g gs => cases gs with | cons _ _ _ _ k ks => exact ⟨h, g, k⟩

/-- the evaluator reads an operand as the model does -/
def Env (ρ : Rho) (π : Pi) (pb : PB) (ae : Opd → Option Value) (ρe : Operand → Value) : Prop :=
  ∀ x y, elabOpd x = some y → ∀ v, ae y = some v → FV ρ π pb v (ρe x)
theorem Env.list {ae : Opd → Option Value} {ρe : Operand → Value} (hE : Env ρ π pb ae ρe) : ∀ {xs : List Operand} {ys : List Opd}, elabOpds xs = some ys → OL ρ π pb (ys.map ae) (xs.map ρe)
  | [], ys, h => by simp [elabOpds] at h; subst h; exact .nil
  | x :: xs, ys, h => by
    simp only [elabOpds] at h
    cases h1 : elabOpd x with
    | none => simp [h1] at h
    | some y =>
      cases h2 : elabOpds xs with
      | none => simp [h1, h2] at h
      | some zs =>
        simp only [h1, h2, Option.some.injEq] at h; subst h
        exact .cons _ _ _ _ (hE x y h1) (Env.list hE h2)
end
end Cw
