/-
  Case by case: an operation of the model, elaborated, run.
-/
import Derived.Test.YtmmlgodbknhijaaGreatDoorCwD
namespace Cw
open Go

/-- the answer of an operation that is no call -/
def Pl (ρ : Rho) (π : Pi) (pb : PB) (h : AH) (w : World) (r : OR) (x : Result Next) : Prop :=
  (∃ v pb' h', r = .ok v pb' h' ∧ PlOk ρ π pb h w x v pb' h') ∨ (∃ v cv, r = .pan v h ∧ x = .halt (.panic cv) w ∧ V ρ v cv)

section
variable {P : Program} {ρ : Rho} {π : Pi} {pb : PB} {h : AH} {w : World} {H : Hints} {dst : Option Tmp} {ty : TypeId} {pos : String} {after : Array Edge} {guard : Option (Nat × Bool)}
  {op : AOp} {xs : List Operand} {as : List (Option Value)} {ρe : Operand → Value} {r : OR}

theorem Pl.val {e : Sem Value} {v : Option Value} {pb' : PB} {h' : AH} (hv : ValOk ρ π pb h w (e.run P w) v pb' h') (hr : r = .ok v pb' h') : Pl ρ π pb h w r ((do pure (Next.value (← e)) : Sem Next).run P w) :=
  .inl ⟨v, pb', h', hr, PlOk.ofVal hv⟩
theorem Pl.unit {e : Sem Unit} {pb' : PB} {h' : AH} (hv : UnitOk ρ π pb h w (e.run P w) pb' h') (hr : r = .ok none pb' h') : Pl ρ π pb h w r ((do e; pure Next.skip : Sem Next).run P w) :=
  .inl ⟨none, pb', h', hr, PlOk.ofUnit hv⟩
theorem Pl.pure (hR : R ρ h w) (hP : RP ρ π h pb w) {v : Option Value} {c : Value} (hv : ∀ u, v = some u → FV ρ π pb u c) (hr : r = .ok v pb h) {x : Result Next} (hx : x = .ok (.value c) w) : Pl ρ π pb h w r x :=
  .inl ⟨v, pb, h, hr, .value c, c, w, ρ, π, hx, .inl rfl, hR, hP, Stp.refl _ _ _ _, PiOk.refl _ _, hv⟩

theorem p_move (hR : R ρ h w) (hP : RP ρ π h pb w) {x : Operand} (he : elabOp P H ⟨dst, .move x, ty, pos, after, guard⟩ = some (op, xs)) (hl : OL ρ π pb as (xs.map ρe)) (hev : evM P op as pb h = some r) :
    Pl ρ π pb h w r ((execOp ρe ⟨dst, .move x, ty, pos, after, guard⟩).run P w) := by
  simp only [elabOp, Option.some.injEq, Prod.mk.injEq] at he
  obtain ⟨rfl, rfl⟩ := he
  cases hl with
  | cons a c as cs ha hs =>
    cases hs
    simp only [evM, valO, k_mov, Option.some.injEq] at hev
    exact Pl.pure hR hP ha hev.symm rfl
theorem p_assign (hR : R ρ h w) (hP : RP ρ π h pb w) {x : Operand} (he : elabOp P H ⟨dst, .assign x, ty, pos, after, guard⟩ = some (op, xs)) (hl : OL ρ π pb as (xs.map ρe)) (hev : evM P op as pb h = some r) :
    Pl ρ π pb h w r ((execOp ρe ⟨dst, .assign x, ty, pos, after, guard⟩).run P w) := by
  simp only [elabOp, Option.some.injEq, Prod.mk.injEq] at he
  obtain ⟨rfl, rfl⟩ := he
  cases hl with
  | cons a c as cs ha hs =>
    cases hs
    simp only [evM, valO, k_mov, Option.some.injEq] at hev
    exact Pl.pure hR hP ha hev.symm rfl
theorem p_pick (hR : R ρ h w) (hP : RP ρ π h pb w) {x y z : Operand} (he : elabOp P H ⟨dst, .pick x y z, ty, pos, after, guard⟩ = some (op, xs)) (hl : OL ρ π pb as (xs.map ρe)) (hev : evM P op as pb h = some r) :
    Pl ρ π pb h w r ((execOp ρe ⟨dst, .pick x y z, ty, pos, after, guard⟩).run P w) := by
  simp only [elabOp, Option.some.injEq, Prod.mk.injEq] at he
  obtain ⟨rfl, rfl⟩ := he
  cases hl with
  | cons a c as cs ha hs =>
    cases hs with
    | cons b d as cs hb hs =>
      cases hs with
      | cons e f as cs hc hs =>
        cases hs
        cases a with
        | none => simp [evM, valO, k_pick] at hev
        | some a =>
          cases a with
          | bool t =>
            simp only [evM, valO, k_pick, Option.some.injEq] at hev
            have := (ha _ rfl).bool
            cases t
            · exact Pl.pure hR hP (c := ρe z) (fun u hu => hc u hu) hev.symm (by simp [execOp, asBool, this])
            · exact Pl.pure hR hP (c := ρe y) (fun u hu => hb u hu) hev.symm (by simp [execOp, asBool, this])
          | _ => simp [evM, valO, k_pick] at hev

theorem optPriv_cases (H : Hints) (d : Option Nat) : optPriv H d = none ∨ ∃ k, optPriv H d = some k := by
  cases optPriv H d <;> simp

theorem p_alloc (hR : R ρ h w) (hP : RP ρ π h pb w) {e : TypeId} (he : elabOp P H ⟨dst, .alloc e, ty, pos, after, guard⟩ = some (op, xs)) (hl : OL ρ π pb as (xs.map ρe)) (hev : evM P op as pb h = some r) :
    Pl ρ π pb h w r ((execOp ρe ⟨dst, .alloc e, ty, pos, after, guard⟩).run P w) := by
  simp only [elabOp, Option.map_eq_some_iff, Prod.mk.injEq] at he
  obtain ⟨z, hz, rfl, rfl⟩ := he
  cases hl
  obtain ⟨z1, z2⟩ := run_zeroValue hz w
  have hx : (Instr.alloc e true (.tuple #[])).run P w = (do pure (Value.pointer (some (← newVar e z))) : Sem Value).run P w := by
    simp [Instr.alloc, z1]
  rcases optPriv_cases H dst with ho | ⟨k, ho⟩
  · rw [ho] at hev
    simp only [evM, valO, k_alloc, Option.some.injEq] at hev
    exact Pl.val (v_newVar_heap hR hP (V.of_scal ρ z z2) e hx) hev.symm
  · rw [ho] at hev
    simp only [evM, valO, k_alloc] at hev
    cases hk : pb.get k with
    | none =>
      simp only [hk, Option.some.injEq] at hev
      exact Pl.val (v_newVar_priv hR hP (V.of_scal ρ z z2) e k hk hx) hev.symm
    | some us => simp [hk] at hev
theorem p_box (hR : R ρ h w) (hP : RP ρ π h pb w) {e : TypeId} {x : Operand} (he : elabOp P H ⟨dst, .box e x, ty, pos, after, guard⟩ = some (op, xs)) (hl : OL ρ π pb as (xs.map ρe)) (hev : evM P op as pb h = some r) :
    Pl ρ π pb h w r ((execOp ρe ⟨dst, .box e x, ty, pos, after, guard⟩).run P w) := by
  simp only [elabOp, Option.some.injEq, Prod.mk.injEq] at he
  obtain ⟨rfl, rfl⟩ := he
  cases hl with
  | cons a c as cs ha hs =>
    cases hs
    cases a with
    | none => rcases optPriv_cases H dst with ho | ⟨k, ho⟩ <;> rw [ho] at hev <;> simp [evM, valO, k_box] at hev
    | some v =>
      rcases optPriv_cases H dst with ho | ⟨k, ho⟩
      · rw [ho] at hev
        simp only [evM, valO, k_box] at hev
        cases hi : isLoc v
        · simp only [hi, cond_false, Option.some.injEq] at hev
          exact Pl.val (v_newVar_heap hR hP ((ha v rfl).of_noLoc hi) e rfl) hev.symm
        · simp [hi] at hev
      · rw [ho] at hev
        simp only [evM, valO, k_box] at hev
        cases hi : isLoc v
        · simp only [hi, cond_false] at hev
          cases hk : pb.get k with
          | none =>
            simp only [hk, Option.some.injEq] at hev
            exact Pl.val (v_newVar_priv hR hP ((ha v rfl).of_noLoc hi) e k hk rfl) hev.symm
          | some us => simp [hk] at hev
        · simp [hi] at hev

theorem ptr_of {x : Option Value} {r' : OR} {f : Addr → Option OR} (hev : (match x with | some (.pointer (some a)) => f a | _ => none) = some r') : ∃ a, x = some (.pointer (some a)) ∧ f a = some r' := by
  cases x with
  | none => simp at hev
  | some v =>
    cases v with
    | pointer a =>
      cases a with
      | none => simp at hev
      | some a => exact ⟨a, rfl, hev⟩
    | _ => simp at hev

theorem p_load (hR : R ρ h w) (hP : RP ρ π h pb w) {t : TypeId} {x : Operand} (he : elabOp P H ⟨dst, .load t x, ty, pos, after, guard⟩ = some (op, xs)) (hl : OL ρ π pb as (xs.map ρe)) (hev : evM P op as pb h = some r) :
    Pl ρ π pb h w r ((execOp ρe ⟨dst, .load t x, ty, pos, after, guard⟩).run P w) := by
  simp only [elabOp, Option.map_eq_some_iff, Prod.mk.injEq] at he
  obtain ⟨sz, hz, rfl, rfl⟩ := he
  cases hl with
  | cons a c as cs ha hs =>
    cases hs
    cases a with
    | none => simp [evM, valO, k_load] at hev
    | some v =>
      cases v with
      | pointer q =>
        cases q with
        | none => simp [evM, valO, k_load] at hev
        | some a =>
          simp only [evM, valO, k_load] at hev
          cases hc : cellsAt pb h a with
          | none => simp [hc] at hev
          | some vs =>
            simp only [hc] at hev
            cases hr : readCells vs a.off sz with
            | none => simp [hr] at hev
            | some v =>
              simp only [hr, Option.some.injEq] at hev
              exact Pl.val (v_load hR hP (ha _ rfl) hc hz hr) hev.symm
      | _ => simp [evM, valO, k_load] at hev

theorem p_store (hR : R ρ h w) (hP : RP ρ π h pb w) {t : TypeId} {x y : Operand} (he : elabOp P H ⟨dst, .store t x y, ty, pos, after, guard⟩ = some (op, xs)) (hl : OL ρ π pb as (xs.map ρe)) (hev : evM P op as pb h = some r) :
    Pl ρ π pb h w r ((execOp ρe ⟨dst, .store t x y, ty, pos, after, guard⟩).run P w) := by
  simp only [elabOp, Option.map_eq_some_iff, Prod.mk.injEq] at he
  obtain ⟨sz, hz, rfl, rfl⟩ := he
  cases hl with
  | cons a c as cs ha hs =>
    cases hs with
    | cons b d as cs hb hs =>
      cases hs
      cases a with
      | none => cases b <;> simp [evM, valO, k_store] at hev
      | some v =>
        cases v with
        | pointer q =>
          cases q with
          | none => cases b <;> simp [evM, valO, k_store] at hev
          | some a =>
            cases b with
            | none => simp [evM, valO, k_store] at hev
            | some u =>
              simp only [evM, valO, k_store] at hev
              cases hq : (Nat.beq (cellsL u).length sz && !isLoc u && (cellsL u).all oneCell)
              · simp [hq] at hev
              · simp only [hq, cond_true] at hev
                simp only [Bool.and_eq_true, Bool.not_eq_true'] at hq
                obtain ⟨⟨q1, q2⟩, q3⟩ := hq
                have q1 := Nat.eq_of_beq_eq_true q1
                have hu := (hb u rfl).of_noLoc q2
                obtain ⟨ab, ao, asp⟩ := a
                cases asp with
                | some s =>
                  cases s with
                  | succ s => simp at hev
                  | zero =>
                    simp only at hev
                    cases hg : pb.get ab with
                    | none => simp [hg] at hev
                    | some us =>
                      simp only [hg] at hev
                      cases hle : Nat.ble (ao + sz) us.length
                      · simp [hle] at hev
                      · simp only [hle, cond_true, Option.some.injEq] at hev
                        exact Pl.unit (u_store_priv hR hP (ha _ rfl) hg hz hu q1 q3 (Nat.le_of_ble_eq_true hle)) hev.symm
                | none =>
                  simp only at hev
                  split at hev
                  · rename_i esz us hg
                    cases hle : Nat.ble (ao + sz) us.length
                    · simp [hle] at hev
                    · simp only [hle, cond_true, Option.some.injEq] at hev
                      exact Pl.unit (u_store_heap hR hP (ha _ rfl) hg hz hu q1 q3 (Nat.le_of_ble_eq_true hle)) hev.symm
                  · simp at hev
        | _ => cases b <;> simp [evM, valO, k_store] at hev
end
end Cw
