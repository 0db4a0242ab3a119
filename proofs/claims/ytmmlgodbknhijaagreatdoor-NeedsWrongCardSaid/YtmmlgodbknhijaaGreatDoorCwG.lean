/-
  Case by case, second part.
-/
import Derived.Test.YtmmlgodbknhijaaGreatDoorCwF
namespace Cw
open Go

section
variable {P : Program} {ρ : Rho} {π : Pi} {pb : PB} {h : AH} {w : World} {H : Hints} {dst : Option Tmp} {ty : TypeId} {pos : String} {after : Array Edge} {guard : Option (Nat × Bool)}
  {op : AOp} {xs : List Operand} {as : List (Option Value)} {ρe : Operand → Value} {r : OR}

theorem zip_parts (ps : Array (Nat × Operand)) (ρe : Operand → Value) : (ps.map fun (p : Nat × Operand) => (p.1, ρe p.2)).toList = (ps.toList.map (·.1)).zip ((ps.toList.map (·.2)).map ρe) := by
  obtain ⟨l⟩ := ps
  simp only [List.map_toArray, List.map_map]
  induction l with
  | nil => rfl
  | cons x l ih => simp [ih]

theorem p_build (hR : R ρ h w) (hP : RP ρ π h pb w) {t : TypeId} {ps : Array (Nat × Operand)} (he : elabOp P H ⟨dst, .build t ps, ty, pos, after, guard⟩ = some (op, xs)) (hl : OL ρ π pb as (xs.map ρe)) (hev : evM P op as pb h = some r) :
    Pl ρ π pb h w r ((execOp ρe ⟨dst, .build t ps, ty, pos, after, guard⟩).run P w) := by
  simp only [elabOp] at he
  split at he
  · rename_i z fs hz ht
    cases hall : fs.toList.all (fun f => (szOf P f.type).isSome)
    · simp only [hall, cond_false] at he; simp at he
    · simp only [hall, cond_true, Option.map_eq_some_iff, Prod.mk.injEq] at he
      obtain ⟨pl, hpl, rfl, rfl⟩ := he
      simp only [evM, valO, k_build] at hev
      cases hs : allSome as with
      | none => simp [hs] at hev
      | some vs =>
        simp only [hs] at hev
        cases hp : putParts (cellsL z) pl vs with
        | none => simp [hp] at hev
        | some cs =>
          simp only [hp, Option.map_some, Option.some.injEq] at hev
          exact Pl.val (v_buildStruct hR hP hz ht hall hpl (hl.all hs) hp _ (zip_parts ps ρe)) hev.symm
  · rename_i z n e hz ht
    simp only [Option.map_eq_some_iff, Prod.mk.injEq] at he
    obtain ⟨sz, hsz, rfl, rfl⟩ := he
    simp only [evM, valO, k_build] at hev
    cases hs : allSome as with
    | none => simp [hs] at hev
    | some vs =>
      simp only [hs] at hev
      cases hp : putParts (cellsL z) (ps.toList.map fun p => (p.1 * sz, sz)) vs with
      | none => simp [hp] at hev
      | some cs =>
        simp only [hp, Option.map_some, Option.some.injEq] at hev
        have hp' : putParts (cellsL z) ((ps.toList.map (·.1)).map fun i => (i * sz, sz)) vs = some cs := by rw [List.map_map]; exact hp
        exact Pl.val (v_buildArr hR hP hz ht hsz (hl.all hs) hp' _ (zip_parts ps ρe)) hev.symm
  · simp at he

theorem p_buildSlice (hR : R ρ h w) (hP : RP ρ π h pb w) {t : TypeId} {n : Nat} {ps : Array (Nat × Operand)} (he : elabOp P H ⟨dst, .buildSlice t n ps, ty, pos, after, guard⟩ = some (op, xs)) (hl : OL ρ π pb as (xs.map ρe)) (hev : evM P op as pb h = some r) :
    Pl ρ π pb h w r ((execOp ρe ⟨dst, .buildSlice t n ps, ty, pos, after, guard⟩).run P w) := by
  simp only [elabOp] at he
  split at he
  · rename_i e ht
    split at he
    · rename_i sz z hsz hz
      cases hc : (Nat.ble (n * sz) 1048576 && Nat.blt 0 (n * sz) && Nat.beq (cellsL z).length sz)
      · simp only [hc, cond_false] at he
        cases h0 : (Nat.beq n 0 && ps.toList.isEmpty)
        · rw [h0] at he; simp at he
        · rw [h0] at he
          simp only [cond_true, Option.some.injEq, Prod.mk.injEq] at he
          simp only [Bool.and_eq_true, List.isEmpty_iff] at h0
          obtain ⟨rfl, rfl⟩ := he
          have hn := Nat.eq_of_beq_eq_true h0.1
          subst hn
          have hps : (ps.map fun (p : Nat × Operand) => (p.1, ρe p.2)) = #[] := by
            obtain ⟨l⟩ := ps; simp at h0; simp [h0]
          cases hl
          simp only [evM, valO, k_bslice, allSome, putParts] at hev
          have hx : (execOp ρe ⟨dst, .buildSlice t 0 ps, ty, pos, after, guard⟩) = (do pure (Next.value (← Instr.buildSlice t 0 (ps.map fun (p : Nat × Operand) => (p.1, ρe p.2))))) := rfl
          rw [hx, hps]
          rcases optPriv_cases H dst with ho | ⟨k, ho⟩
          · rw [ho] at hev
            simp only [Option.some.injEq] at hev
            exact Pl.val (v_bslice0_heap hR hP ht hsz) hev.symm
          · rw [ho] at hev
            simp only at hev
            cases hk : pb.get k with
            | none =>
              simp only [hk, Option.some.injEq] at hev
              exact Pl.val (v_bslice0_priv hR hP k hk ht hsz) hev.symm
            | some us => simp [hk] at hev
      · simp only [hc, cond_true, Option.some.injEq, Prod.mk.injEq] at he
        simp only [Bool.and_eq_true] at hc
        obtain ⟨⟨c1, c2⟩, c3⟩ := hc
        have c1 := Nat.le_of_ble_eq_true c1
        have c2 : 0 < n * sz := Nat.le_of_ble_eq_true c2
        have c3 := Nat.eq_of_beq_eq_true c3
        obtain ⟨rfl, rfl⟩ := he
        simp only [evM, valO, k_bslice] at hev
        cases hs : allSome as with
        | none => simp [hs] at hev
        | some vs =>
          simp only [hs] at hev
          cases hp : putParts ((List.replicate n (cellsL z)).flatten) (ps.toList.map fun p => (p.1 * sz, sz)) vs with
          | none => simp [hp] at hev
          | some cs =>
            simp only [hp] at hev
            have hp' : putParts ((List.replicate n (cellsL z)).flatten) ((ps.toList.map (·.1)).map fun i => (i * sz, sz)) vs = some cs := by rw [List.map_map]; exact hp
            rcases optPriv_cases H dst with ho | ⟨k, ho⟩
            · rw [ho] at hev
              simp only [Option.some.injEq] at hev
              exact Pl.val (v_bslice_heap hR hP ht hsz hz c3 c2 c1 (hl.all hs) hp' _ (zip_parts ps ρe)) hev.symm
            · rw [ho] at hev
              simp only at hev
              cases hk : pb.get k with
              | none =>
                simp only [hk, Option.some.injEq] at hev
                exact Pl.val (v_bslice_priv hR hP k hk ht hsz hz c3 c2 c1 (hl.all hs) hp' _ (zip_parts ps ρe)) hev.symm
              | some us => simp [hk] at hev
    · simp at he
  · simp at he

theorem FV.funcInv {f : Fn} {a b : Array Value} {c : Value} (hv : FV ρ π pb (.func f a b) c) : ∃ a' b', c = .func f a' b' := by
  cases hv with
  | v _ _ hv => cases hv; exact ⟨_, _, rfl⟩
theorem p_nilCheck (hR : R ρ h w) (hP : RP ρ π h pb w) {x : Operand} (he : elabOp P H ⟨dst, .nilCheck x, ty, pos, after, guard⟩ = some (op, xs)) (hl : OL ρ π pb as (xs.map ρe)) (hev : evM P op as pb h = some r) :
    Pl ρ π pb h w r ((execOp ρe ⟨dst, .nilCheck x, ty, pos, after, guard⟩).run P w) := by
  simp only [elabOp, Option.some.injEq, Prod.mk.injEq] at he
  obtain ⟨rfl, rfl⟩ := he
  cases hl with
  | cons a c as cs ha hs =>
    cases hs
    cases a with
    | none => simp [evM, valO, k_nilc] at hev
    | some v =>
      have hv := ha v rfl
      simp only [evM, valO, k_nilc] at hev
      split at hev
      · simp only [Option.some.injEq] at hev
        obtain ⟨ca, hce, _⟩ := hv.ptrInv
        exact Pl.pure hR hP ha hev.symm (by simp [execOp, hce])
      · simp only [Option.some.injEq] at hev
        obtain ⟨x1, x2, hce⟩ := hv.funcInv
        exact Pl.pure hR hP ha hev.symm (by simp [execOp, hce])
      · simp at hev

theorem p_binOp (hR : R ρ h w) (hP : RP ρ π h pb w) {b : BinOp} {t yt : TypeId} {x y : Operand} (he : elabOp P H ⟨dst, .binOp b t x y yt, ty, pos, after, guard⟩ = some (op, xs)) (hl : OL ρ π pb as (xs.map ρe)) (hev : evM P op as pb h = some r) :
    Pl ρ π pb h w r ((execOp ρe ⟨dst, .binOp b t x y yt, ty, pos, after, guard⟩).run P w) := by
  simp only [elabOp, Option.some.injEq, Prod.mk.injEq] at he
  obtain ⟨rfl, rfl⟩ := he
  cases hl with
  | cons a c as cs ha hs =>
    cases hs with
    | cons a' c' as cs hb hs =>
      cases hs
      cases a with
      | none => simp [evM, valO, k_bin] at hev
      | some u =>
        cases a' with
        | none => simp [evM, valO, k_bin] at hev
        | some v =>
          simp only [evM, valO, k_bin] at hev
          cases hq : evBin P h b t (isC x || isC y) (!(P.eqGuardType P.depth t)) (cmpKind P t) u v with
          | none => simp [hq] at hev
          | some z =>
            simp only [hq, Option.some.injEq] at hev
            exact Pl.val (v_bin hR hP (xo := x) (yo := y) (ha u rfl) (hb v rfl) hq) hev.symm

theorem p_unOp (hR : R ρ h w) (hP : RP ρ π h pb w) {b : UnOp} {t : TypeId} {x : Operand} (he : elabOp P H ⟨dst, .unOp b t x, ty, pos, after, guard⟩ = some (op, xs)) (hl : OL ρ π pb as (xs.map ρe)) (hev : evM P op as pb h = some r) :
    Pl ρ π pb h w r ((execOp ρe ⟨dst, .unOp b t x, ty, pos, after, guard⟩).run P w) := by
  simp only [elabOp, Option.some.injEq, Prod.mk.injEq] at he
  obtain ⟨rfl, rfl⟩ := he
  cases hl with
  | cons a c as cs ha hs =>
    cases hs
    cases a with
    | none => simp [evM, valO, k_un] at hev
    | some v =>
      simp only [evM, valO, k_un] at hev
      split at hev <;> first
        | (simp at hev; done)
        | (cases hq : scv (pureRun P (Op.unary b _)) with
           | none => rw [hq] at hev; simp at hev
           | some z => 
             rw [hq] at hev
             simp only [Option.some.injEq] at hev
             exact Pl.val (v_un hR hP (ha _ rfl) rfl hq) hev.symm)

theorem p_convert (hR : R ρ h w) (hP : RP ρ π h pb w) {s d : TypeId} {x : Operand} (he : elabOp P H ⟨dst, .convert s d x, ty, pos, after, guard⟩ = some (op, xs)) (hl : OL ρ π pb as (xs.map ρe)) (hev : evM P op as pb h = some r) :
    Pl ρ π pb h w r ((execOp ρe ⟨dst, .convert s d x, ty, pos, after, guard⟩).run P w) := by
  simp only [elabOp, Option.map_eq_some_iff, Prod.mk.injEq] at he
  obtain ⟨cv, hc, rfl, rfl⟩ := he
  cases hl with
  | cons a c as cs ha hs =>
    cases hs
    unfold elabConv at hc
    split at hc
    · rename_i k' k h1 h2
      simp only [Option.some.injEq] at hc; subst hc
      cases a with
      | none => simp [evM, valO, k_convI, k_convSame, k_convSB, k_convBS] at hev
      | some v =>
        cases v with
        | int j n =>
          simp only [evM, valO, k_convI, k_convSame, k_convSB, k_convBS, Option.some.injEq] at hev
          exact Pl.val (v_convI hR hP (ha _ rfl) h1 h2) hev.symm
        | _ => simp [evM, valO, k_convI, k_convSame, k_convSB, k_convBS] at hev
    · rename_i h1 h2
      simp only [Option.some.injEq] at hc; subst hc
      cases a with
      | none => simp [evM, valO, k_convI, k_convSame, k_convSB, k_convBS] at hev
      | some v =>
        cases v with
        | string b =>
          simp only [evM, valO, k_convI, k_convSame, k_convSB, k_convBS, Option.some.injEq] at hev
          exact Pl.val (v_convSame hR hP (ha _ rfl) h1 h2) hev.symm
        | _ => simp [evM, valO, k_convI, k_convSame, k_convSB, k_convBS] at hev
    · rename_i e h1 h2
      split at hc
      · rename_i h3
        simp only [Option.some.injEq] at hc; subst hc
        cases a with
        | none => simp [evM, valO, k_convI, k_convSame, k_convSB, k_convBS] at hev
        | some v =>
          cases v with
          | string b =>
            obtain ⟨⟨l⟩⟩ := b
            simp only [evM, valO, k_convI, k_convSame, k_convSB, k_convBS] at hev
            cases hb : Nat.ble l.length sizeMax
            · simp [hb] at hev
            · simp only [hb, cond_true, Option.some.injEq] at hev
              exact Pl.val (v_convSB hR hP (ha _ rfl) h1 h2 h3) hev.symm
          | _ => simp [evM, valO, k_convI, k_convSame, k_convSB, k_convBS] at hev
      · simp at hc
    · rename_i e h1 h2
      split at hc
      · rename_i h3
        simp only [Option.some.injEq] at hc; subst hc
        cases a with
        | none => simp [evM, valO, k_convI, k_convSame, k_convSB, k_convBS] at hev
        | some v =>
          simp only [evM, valO, k_convI, k_convSame, k_convSB, k_convBS] at hev
          cases hq : sliceCells pb h 1 v with
          | none => simp [hq] at hev
          | some cs =>
            simp only [hq] at hev
            cases hb : bytesOf cs with
            | none => simp [hb] at hev
            | some bs =>
              simp only [hb, Option.map_some, Option.some.injEq] at hev
              exact Pl.val (v_convBS hR hP h1 h3 h2 (ha _ rfl) hq hb) hev.symm
      · simp at hc
    · simp at hc
end
end Cw
