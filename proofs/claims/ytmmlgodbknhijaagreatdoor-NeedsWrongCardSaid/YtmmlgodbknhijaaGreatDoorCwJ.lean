/-
  Case by case, third part.
-/
import Derived.Test.YtmmlgodbknhijaaGreatDoorCwG
namespace Cw
open Go

section
variable {P : Program} {ρ : Rho} {π : Pi} {pb : PB} {h : AH} {w : World} {H : Hints} {dst : Option Tmp} {ty : TypeId} {pos : String} {after : Array Edge} {guard : Option (Nat × Bool)}
  {op : AOp} {xs : List Operand} {as : List (Option Value)} {ρe : Operand → Value} {r : OR}

theorem p_makeInterface (hR : R ρ h w) (hP : RP ρ π h pb w) {t : TypeId} {x : Operand} (he : elabOp P H ⟨dst, .makeInterface t x, ty, pos, after, guard⟩ = some (op, xs)) (hl : OL ρ π pb as (xs.map ρe)) (hev : evM P op as pb h = some r) :
    Pl ρ π pb h w r ((execOp ρe ⟨dst, .makeInterface t x, ty, pos, after, guard⟩).run P w) := by
  simp only [elabOp] at he
  split at he
  · simp at he
  · simp at he
  · rename_i hn hm
    simp only [Option.some.injEq, Prod.mk.injEq] at he
    obtain ⟨rfl, rfl⟩ := he
    cases hl with
    | cons a c as cs ha hs =>
      cases hs
      cases a with
      | none => simp [evM, valO, k_mkif] at hev
      | some v =>
        simp only [evM, valO, k_mkif] at hev
        cases hi : isLoc v
        · simp only [hi, cond_false, Option.some.injEq] at hev
          cases hu : P.underlying t with
          | none => exact absurd hu hm
          | some d => exact Pl.val (v_mkif hR hP (ha v rfl) hi hu (fun ms e => hn ms (by rw [hu, e]))) hev.symm
        · simp [hi] at hev

theorem p_makeFunc (hR : R ρ h w) (hP : RP ρ π h pb w) {f : Fn} {first cap : Array Operand} (he : elabOp P H ⟨dst, .makeFunc f first cap, ty, pos, after, guard⟩ = some (op, xs)) (hl : OL ρ π pb as (xs.map ρe)) (hev : evM P op as pb h = some r) :
    Pl ρ π pb h w r ((execOp ρe ⟨dst, .makeFunc f first cap, ty, pos, after, guard⟩).run P w) := by
  cases f <;> simp only [elabOp] at he <;> try (simp at he; done)
  rename_i f
  simp only [Option.some.injEq, Prod.mk.injEq] at he
  obtain ⟨rfl, rfl⟩ := he
  simp only [evM, valO, k_mkfn] at hev
  cases hs : allSome as with
  | none => simp [hs] at hev
  | some vs =>
    simp only [hs] at hev
    cases hn : noLocs vs
    · simp [hn] at hev
    · simp only [hn, cond_true, Option.some.injEq] at hev
      have hv := (hl.all hs).noLocs hn
      rw [List.map_append] at hv
      have hlen : (first.toList.map ρe).length = first.size := by simp
      have h1 := hv.take first.size
      have h2 := hv.drop first.size
      rw [List.take_left' hlen] at h1
      rw [List.drop_left' hlen] at h2
      refine Pl.pure hR hP (c := .func (.func f) ⟨first.toList.map ρe⟩ ⟨cap.toList.map ρe⟩) (fun u hu => ?_) hev.symm ?_
      · cases hu; exact .v _ _ (.func _ _ _ _ _ h1 h2)
      · have e1 : first.map ρe = ⟨first.toList.map ρe⟩ := by apply Array.ext'; simp
        have e2 : cap.map ρe = ⟨cap.toList.map ρe⟩ := by apply Array.ext'; simp
        simp [execOp, Instr.makeFunc, e1, e2]
theorem p_makeMap (hR : R ρ h w) (hP : RP ρ π h pb w) {t : TypeId} {x : Option Operand} (he : elabOp P H ⟨dst, .makeMap t x, ty, pos, after, guard⟩ = some (op, xs)) (hl : OL ρ π pb as (xs.map ρe)) (hev : evM P op as pb h = some r) :
    Pl ρ π pb h w r ((execOp ρe ⟨dst, .makeMap t x, ty, pos, after, guard⟩).run P w) := by
  cases x with
  | some x => simp [elabOp] at he
  | none =>
    simp only [elabOp, Option.some.injEq, Prod.mk.injEq] at he
    obtain ⟨rfl, rfl⟩ := he
    cases hl
    simp only [evM, valO, k_mkmap, Option.some.injEq] at hev
    exact Pl.val (v_mkmap hR hP) hev.symm
theorem p_makeSlice (hR : R ρ h w) (hP : RP ρ π h pb w) {t : TypeId} {x y : Operand} (he : elabOp P H ⟨dst, .makeSlice t x y, ty, pos, after, guard⟩ = some (op, xs)) (hl : OL ρ π pb as (xs.map ρe)) (hev : evM P op as pb h = some r) :
    Pl ρ π pb h w r ((execOp ρe ⟨dst, .makeSlice t x y, ty, pos, after, guard⟩).run P w) := by
  simp only [elabOp] at he
  split at he
  · rename_i e ht
    split at he
    · rename_i i hi
      split at he
      · rename_i z hz
        cases hc : (Nat.beq (cellsL z).length i.size && Nat.blt 0 i.size)
        · simp [hc] at he
        · simp only [hc, cond_true, Option.some.injEq, Prod.mk.injEq] at he
          simp only [Bool.and_eq_true] at hc
          obtain ⟨rfl, rfl⟩ := he
          cases hl with
          | cons a c as cs ha hs =>
            cases hs with
            | cons a' c' as cs hb hs =>
              cases hs
              cases a with
              | none => cases a' <;> simp [evM, valO, k_mkslice] at hev
              | some u =>
                cases u with
                | int kl l =>
                  cases a' with
                  | none => simp [evM, valO, k_mkslice] at hev
                  | some v =>
                    cases v with
                    | int kc cc =>
                      simp only [evM, valO, k_mkslice] at hev
                      cases hq : (decide (0 ≤ l) && decide (l ≤ cc) && decide (cc * i.bytes ≤ 2147483648) && decide (cc ≤ 2147483648))
                      · simp [hq] at hev
                      · simp only [hq, cond_true, Option.some.injEq] at hev
                        simp only [Bool.and_eq_true, decide_eq_true_eq] at hq
                        exact Pl.val (v_mkslice hR hP ht hi hz (Nat.eq_of_beq_eq_true hc.1) (Nat.le_of_ble_eq_true hc.2) (ha _ rfl) (hb _ rfl) hq.1.1.1 hq.1.1.2 hq.1.2 hq.2) hev.symm
                    | _ => simp [evM, valO, k_mkslice] at hev
                | _ => cases a' <;> simp [evM, valO, k_mkslice] at hev
      · simp at he
    · simp at he
  · simp at he

theorem p_fieldAddr (hR : R ρ h w) (hP : RP ρ π h pb w) {s : TypeId} {x : Operand} {f : Nat} (he : elabOp P H ⟨dst, .fieldAddr s x f, ty, pos, after, guard⟩ = some (op, xs)) (hl : OL ρ π pb as (xs.map ρe)) (hev : evM P op as pb h = some r) :
    Pl ρ π pb h w r ((execOp ρe ⟨dst, .fieldAddr s x f, ty, pos, after, guard⟩).run P w) := by
  simp only [elabOp] at he
  split at he
  · rename_i fs hs
    split at he
    · rename_i fd hf
      split at he
      · rename_i z hz
        cases hb : Nat.blt 0 z
        · simp [hb] at he
        · simp only [hb, cond_true, Option.some.injEq, Prod.mk.injEq] at he
          obtain ⟨rfl, rfl⟩ := he
          cases hl with
          | cons a c as cs ha hs' =>
            cases hs'
            cases a with
            | none => simp [evM, valO, k_faddr] at hev
            | some v =>
              cases v with
              | pointer q =>
                cases q with
                | none => simp [evM, valO, k_faddr] at hev
                | some a =>
                  simp only [evM, valO, k_faddr, Option.some.injEq] at hev
                  have : 0 < z := Nat.le_of_ble_eq_true hb
                  exact Pl.val (v_faddr hR hP (ha _ rfl) hs hf hz (by omega)) hev.symm
              | _ => simp [evM, valO, k_faddr] at hev
      · simp at he
    · simp at he
  · simp at he
theorem p_field (hR : R ρ h w) (hP : RP ρ π h pb w) {t : TypeId} {x : Operand} {f : Nat} (he : elabOp P H ⟨dst, .field t x f, ty, pos, after, guard⟩ = some (op, xs)) (hl : OL ρ π pb as (xs.map ρe)) (hev : evM P op as pb h = some r) :
    Pl ρ π pb h w r ((execOp ρe ⟨dst, .field t x f, ty, pos, after, guard⟩).run P w) := by
  simp only [elabOp] at he
  split at he
  · rename_i fs hs
    split at he
    · rename_i fd hf
      simp only [Option.map_eq_some_iff, Prod.mk.injEq] at he
      obtain ⟨sz, hz, rfl, rfl⟩ := he
      cases hl with
      | cons a c as cs ha hs' =>
        cases hs'
        cases a with
        | none => simp [evM, valO, k_fld] at hev
        | some v =>
          cases v with
          | agg q =>
            obtain ⟨q⟩ := q
            simp only [evM, valO, k_fld] at hev
            cases hr : readCells q fd.offset sz with
            | none => simp [hr] at hev
            | some u =>
              simp only [hr, Option.some.injEq] at hev
              exact Pl.val (v_fld hR hP (ha _ rfl) hs hf hz hr) hev.symm
          | _ => simp [evM, valO, k_fld] at hev
    · simp at he
  · simp at he
theorem p_indexAddr (hR : R ρ h w) (hP : RP ρ π h pb w) {t : TypeId} {x y : Operand} (he : elabOp P H ⟨dst, .indexAddr t x y, ty, pos, after, guard⟩ = some (op, xs)) (hl : OL ρ π pb as (xs.map ρe)) (hev : evM P op as pb h = some r) :
    Pl ρ π pb h w r ((execOp ρe ⟨dst, .indexAddr t x y, ty, pos, after, guard⟩).run P w) := by
  simp only [elabOp] at he
  split at he
  · rename_i n e ht
    simp only [Option.map_eq_some_iff, Prod.mk.injEq] at he
    obtain ⟨sz, hz, rfl, rfl⟩ := he
    cases hl with
    | cons a c as cs ha hs =>
      cases hs with
      | cons a' c' as cs hb hs =>
        cases hs
        cases a with
        | none => cases a' <;> simp [evM, valO, k_iaddrA, k_iaddrS] at hev
        | some v =>
          cases v with
          | pointer q =>
            cases q with
            | none => cases a' <;> simp [evM, valO, k_iaddrA, k_iaddrS] at hev
            | some a =>
              cases a' with
              | none => simp [evM, valO, k_iaddrA, k_iaddrS] at hev
              | some u =>
                simp only [evM, valO, k_iaddrA, k_iaddrS] at hev
                cases hi : intOf u with
                | none => simp [hi] at hev
                | some i =>
                  simp only [hi] at hev
                  obtain ⟨k, rfl⟩ := intOf_spec hi
                  cases hj : natLt i n with
                  | none => simp [hj] at hev
                  | some j =>
                    simp only [hj, Option.bind_some, Option.some.injEq] at hev
                    exact Pl.val (v_iaddrA hR hP (ha _ rfl) (hb _ rfl) ht hz hj) hev.symm
          | _ => cases a' <;> simp [evM, valO, k_iaddrA, k_iaddrS] at hev
  · rename_i e ht
    simp only [Option.map_eq_some_iff, Prod.mk.injEq] at he
    obtain ⟨sz, hz, rfl, rfl⟩ := he
    cases hl with
    | cons a c as cs ha hs =>
      cases hs with
      | cons a' c' as cs hb hs =>
        cases hs
        cases a with
        | none => cases a' <;> simp [evM, valO, k_iaddrA, k_iaddrS] at hev
        | some v =>
          cases v with
          | slice q n cc =>
            cases q with
            | none => cases a' <;> simp [evM, valO, k_iaddrA, k_iaddrS] at hev
            | some a =>
              cases a' with
              | none => simp [evM, valO, k_iaddrA, k_iaddrS] at hev
              | some u =>
                simp only [evM, valO, k_iaddrA, k_iaddrS] at hev
                cases hi : intOf u with
                | none => simp [hi] at hev
                | some i =>
                  simp only [hi] at hev
                  obtain ⟨k, rfl⟩ := intOf_spec hi
                  cases hj : natLt i n with
                  | none => simp [hj] at hev
                  | some j =>
                    simp only [hj, Option.bind_some, Option.some.injEq] at hev
                    exact Pl.val (v_iaddrS hR hP (ha _ rfl) (hb _ rfl) ht hz hj) hev.symm
          | _ => cases a' <;> simp [evM, valO, k_iaddrA, k_iaddrS] at hev
  · simp at he
theorem p_index (hR : R ρ h w) (hP : RP ρ π h pb w) {t : TypeId} {x y : Operand} (he : elabOp P H ⟨dst, .index t x y, ty, pos, after, guard⟩ = some (op, xs)) (hl : OL ρ π pb as (xs.map ρe)) (hev : evM P op as pb h = some r) :
    Pl ρ π pb h w r ((execOp ρe ⟨dst, .index t x y, ty, pos, after, guard⟩).run P w) := by
  simp only [elabOp] at he
  split at he
  · rename_i n e ht
    split at he
    · rename_i z sz hz hsz
      simp only [Option.some.injEq, Prod.mk.injEq] at he
      obtain ⟨rfl, rfl⟩ := he
      cases hl with
      | cons a c as cs ha hs =>
        cases hs with
        | cons a' c' as cs hb hs =>
          cases hs
          cases a with
          | none => cases a' <;> simp [evM, valO, k_idxA, k_idxS] at hev
          | some v =>
            cases v with
            | agg q =>
              obtain ⟨q⟩ := q
              cases a' with
              | none => simp [evM, valO, k_idxA, k_idxS] at hev
              | some u =>
                simp only [evM, valO, k_idxA, k_idxS] at hev
                cases hi : intOf u with
                | none => simp [hi] at hev
                | some i =>
                  simp only [hi] at hev
                  obtain ⟨k, rfl⟩ := intOf_spec hi
                  cases hj : natLt i n with
                  | none => simp [hj] at hev
                  | some j =>
                    simp only [hj, Option.bind_some] at hev
                    cases hr : readCells q (j * z) sz with
                    | none => simp [hr] at hev
                    | some y =>
                      simp only [hr, Option.some.injEq] at hev
                      exact Pl.val (v_idxA hR hP (ha _ rfl) (hb _ rfl) ht hz hsz hj hr) hev.symm
            | _ => cases a' <;> simp [evM, valO, k_idxA, k_idxS] at hev
    · simp at he
  · rename_i ht
    simp only [Option.some.injEq, Prod.mk.injEq] at he
    obtain ⟨rfl, rfl⟩ := he
    cases hl with
    | cons a c as cs ha hs =>
      cases hs with
      | cons a' c' as cs hb hs =>
        cases hs
        cases a with
        | none => cases a' <;> simp [evM, valO, k_idxA, k_idxS] at hev
        | some v =>
          cases v with
          | string q =>
            obtain ⟨⟨l⟩⟩ := q
            cases a' with
            | none => simp [evM, valO, k_idxA, k_idxS] at hev
            | some u =>
              simp only [evM, valO, k_idxA, k_idxS] at hev
              cases hi : intOf u with
              | none => simp [hi] at hev
              | some i =>
                simp only [hi] at hev
                obtain ⟨k, rfl⟩ := intOf_spec hi
                cases hj : natLt i l.length with
                | none => simp [hj] at hev
                | some j =>
                  simp only [hj, Option.bind_some] at hev
                  cases hr : l[j]? with
                  | none => simp [hr] at hev
                  | some y =>
                    simp only [hr, Option.some.injEq] at hev
                    exact Pl.val (v_idxS hR hP (ha _ rfl) (hb _ rfl) ht hj hr) hev.symm
          | _ => cases a' <;> simp [evM, valO, k_idxA, k_idxS] at hev
  · simp at he
theorem p_lookup (hR : R ρ h w) (hP : RP ρ π h pb w) {t : TypeId} {x y : Operand} {ok : Bool} (he : elabOp P H ⟨dst, .lookup t x y ok, ty, pos, after, guard⟩ = some (op, xs)) (hl : OL ρ π pb as (xs.map ρe)) (hev : evM P op as pb h = some r) :
    Pl ρ π pb h w r ((execOp ρe ⟨dst, .lookup t x y ok, ty, pos, after, guard⟩).run P w) := by
  simp only [elabOp] at he
  split at he
  · rename_i kt e ht
    split at he
    · rename_i ks z hks hz
      simp only [Option.some.injEq, Prod.mk.injEq] at he
      obtain ⟨rfl, rfl⟩ := he
      cases hl with
      | cons a c as cs ha hs =>
        cases hs with
        | cons a' c' as cs hb hs =>
          cases hs
          cases a with
          | none => simp [evM, valO, k_lookup] at hev
          | some m =>
            cases a' with
            | none => simp [evM, valO, k_lookup] at hev
            | some k =>
              simp only [evM, valO, k_lookup] at hev
              cases hko : keyOk ks k
              · simp [hko] at hev
              · simp only [hko, cond_true] at hev
                split at hev
                · simp at hev
                · rename_i v hq
                  simp only [Option.some.injEq] at hev
                  exact Pl.val (v_lookup (r := some v) hR hP ht hks hz (ha _ rfl) (hb _ rfl) hko hq) hev.symm
                · rename_i hq
                  simp only [Option.some.injEq] at hev
                  exact Pl.val (v_lookup (r := none) hR hP ht hks hz (ha _ rfl) (hb _ rfl) hko hq) hev.symm
    · simp at he
  · simp at he
theorem p_mapUpdate (hR : R ρ h w) (hP : RP ρ π h pb w) {t : TypeId} {x y z : Operand} (he : elabOp P H ⟨dst, .mapUpdate t x y z, ty, pos, after, guard⟩ = some (op, xs)) (hl : OL ρ π pb as (xs.map ρe)) (hev : evM P op as pb h = some r) :
    Pl ρ π pb h w r ((execOp ρe ⟨dst, .mapUpdate t x y z, ty, pos, after, guard⟩).run P w) := by
  simp only [elabOp] at he
  split at he
  · rename_i kt e ht
    simp only [Option.map_eq_some_iff, Prod.mk.injEq] at he
    obtain ⟨ks, hks, rfl, rfl⟩ := he
    cases hl with
    | cons a c as cs ha hs =>
      cases hs with
      | cons a' c' as cs hb hs =>
        cases hs with
        | cons a'' c'' as cs hc hs =>
          cases hs
          cases a with
          | none => simp [evM, valO, k_mapupd] at hev
          | some m =>
            cases m with
            | map q =>
              cases q with
              | none => simp [evM, valO, k_mapupd] at hev
              | some i =>
                cases a' with
                | none => simp [evM, valO, k_mapupd] at hev
                | some k =>
                  cases a'' with
                  | none => simp [evM, valO, k_mapupd] at hev
                  | some v =>
                    simp only [evM, valO, k_mapupd] at hev
                    cases hko : (keyOk ks k && !isLoc v)
                    · simp [hko] at hev
                    · simp only [hko, cond_true] at hev
                      simp only [Bool.and_eq_true, Bool.not_eq_true'] at hko
                      split at hev
                      · rename_i kvs hob
                        split at hev
                        · simp at hev
                        · rename_i q hq
                          simp only [Option.some.injEq] at hev
                          exact Pl.unit (u_mapupd hR hP ht hks (ha _ rfl) (hb _ rfl) hko.1 ((hc _ rfl).of_noLoc hko.2) hob hq) hev.symm
                      · simp at hev
            | _ => simp [evM, valO, k_mapupd] at hev
  · simp at he
theorem p_typeAssert (hR : R ρ h w) (hP : RP ρ π h pb w) {x : Operand} {xt t : TypeId} {ok : Bool} (he : elabOp P H ⟨dst, .typeAssert x xt t ok, ty, pos, after, guard⟩ = some (op, xs)) (hl : OL ρ π pb as (xs.map ρe)) (hev : evM P op as pb h = some r) :
    Pl ρ π pb h w r ((execOp ρe ⟨dst, .typeAssert x xt t ok, ty, pos, after, guard⟩).run P w) := by
  simp only [elabOp] at he
  split at he
  · simp at he
  · rename_i d z hn hd hz
    simp only [Option.some.injEq, Prod.mk.injEq] at he
    obtain ⟨rfl, rfl⟩ := he
    cases hl with
    | cons a c as cs ha hs =>
      cases hs
      cases a with
      | none => simp [evM, valO, k_tass] at hev
      | some v =>
        simp only [evM, valO, k_tass] at hev
        cases hq : tassV t ok z v with
        | none => simp [hq] at hev
        | some u =>
          simp only [hq, Option.some.injEq] at hev
          exact Pl.val (v_tass hR hP (ha _ rfl) hd (fun ms e => hn ms e) hz hq) hev.symm
  · simp at he
theorem p_extract (hR : R ρ h w) (hP : RP ρ π h pb w) {x : Operand} {i : Nat} (he : elabOp P H ⟨dst, .extract x i, ty, pos, after, guard⟩ = some (op, xs)) (hl : OL ρ π pb as (xs.map ρe)) (hev : evM P op as pb h = some r) :
    Pl ρ π pb h w r ((execOp ρe ⟨dst, .extract x i, ty, pos, after, guard⟩).run P w) := by
  simp only [elabOp, Option.some.injEq, Prod.mk.injEq] at he
  obtain ⟨rfl, rfl⟩ := he
  cases hl with
  | cons a c as cs ha hs =>
    cases hs
    cases a with
    | none => simp [evM, valO, k_ext] at hev
    | some v =>
      cases v with
      | tuple q =>
        obtain ⟨q⟩ := q
        simp only [evM, valO, k_ext] at hev
        cases hq : q[i]? with
        | none => simp [hq] at hev
        | some u =>
          simp only [hq, Option.some.injEq] at hev
          exact Pl.val (v_ext hR hP (ha _ rfl) hq) hev.symm
      | _ => simp [evM, valO, k_ext] at hev
theorem p_panic (hR : R ρ h w) (hP : RP ρ π h pb w) {x : Operand} (he : elabOp P H ⟨dst, .panic x, ty, pos, after, guard⟩ = some (op, xs)) (hl : OL ρ π pb as (xs.map ρe)) (hev : evM P op as pb h = some r) :
    Pl ρ π pb h w r ((execOp ρe ⟨dst, .panic x, ty, pos, after, guard⟩).run P w) := by
  simp only [elabOp, Option.some.injEq, Prod.mk.injEq] at he
  obtain ⟨rfl, rfl⟩ := he
  cases hl with
  | cons a c as cs ha hs =>
    cases hs
    cases a with
    | none => simp [evM, valO, k_panic] at hev
    | some v =>
      have hv := ha v rfl
      cases v with
      | iface t u =>
        simp only [evM, valO, k_panic, Option.some.injEq] at hev
        have hv' := hv.of_noLoc rfl
        have : ∃ u', ρe x = .iface t u' := by
          generalize ρe x = c at hv'
          cases hv'; exact ⟨_, rfl⟩
        obtain ⟨u', hu⟩ := this
        exact .inr ⟨_, .iface t u', hev.symm, by simp [execOp, Instr.panic, hu], by rw [← hu]; exact hv'⟩
      | _ => simp [evM, valO, k_panic] at hev
end
end Cw
