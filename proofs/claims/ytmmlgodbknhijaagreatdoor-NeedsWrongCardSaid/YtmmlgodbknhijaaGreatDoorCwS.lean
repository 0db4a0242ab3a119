/-
  How an operation's answer hangs on the boxes and on the heap.
-/
import Derived.Test.YtmmlgodbknhijaaGreatDoorCwN
namespace Cw
open Go

def repb (pb : PB) : OR → OR
  | .ok v _ h => .ok v pb h
  | .pan v h => .pan v h
  | .dfr d => .dfr d
def reph (pb : PB) (h : AH) : OR → OR
  | .ok v _ _ => .ok v pb h
  | .pan v _ => .pan v h
  | .dfr d => .dfr d
theorem ofRes_repb (pb pb2 : PB) (x : Option (Res × AH)) : ofRes pb2 x = (ofRes pb x).map (repb pb2) := by
  cases x with
  | none => rfl
  | some r => obtain ⟨r, h⟩ := r; cases r <;> rfl
theorem valO_repb (pb pb2 : PB) (h : AH) (x : Option Value) : valO pb2 h x = (valO pb h x).map (repb pb2) := by cases x <;> rfl
theorem valO_reph (pb pb2 : PB) (h h2 : AH) (x : Option Value) : valO pb2 h2 x = (valO pb h x).map (reph pb2 h2) := by cases x <;> rfl
theorem map_bif {α β : Type} (f : α → β) (c : Bool) (x y : Option α) : (bif c then x else y).map f = bif c then x.map f else y.map f := by cases c <;> rfl
theorem map_bind {α β γ : Type} (f : β → γ) (x : Option α) (g : α → Option β) : (x.bind g).map f = x.bind fun a => (g a).map f := by cases x <;> rfl

set_option maxHeartbeats 1000000
theorem evM_pb {P : Program} {op : AOp} (hu : usesPb op = false) (xs : List (Option Value)) (pb pb2 : PB) (h : AH) : evM P op xs pb2 h = (evM P op xs pb h).map (repb pb2) := by
  cases op
  case box p => cases p <;> simp [usesPb] at hu; simp only [evM, k_box]; repeat' split; all_goals first | rfl | (simp only [map_bif]; rfl) | simp_all [repb]
  case alloc p z => cases p <;> simp [usesPb] at hu; simp only [evM, k_alloc]; repeat' split; all_goals first | rfl | (simp only [map_bif]; rfl) | simp_all [repb]
  case bslice p a b c d => cases p <;> simp [usesPb] at hu; simp only [evM, k_bslice]; repeat' split; all_goals first | rfl | (simp only [map_bif]; rfl) | simp_all [repb]
  all_goals first
    | (simp [usesPb] at hu; done)
    | (simp only [evM, k_mov, k_pick, k_build, k_nilc, k_bin, k_un, k_convI, k_convSame, k_convSB, k_faddr, k_iaddrA, k_iaddrS, k_fld, k_idxA, k_idxS, k_slS, k_slV, k_mkif, k_mkfn, k_mkmap, k_mkslice,
        k_lookup, k_mapupd, k_tass, k_ext, k_call, k_pcall, k_callv, k_lenS, k_lenV, k_lenA, k_lenM, k_appendS, k_copyS, k_delete, k_clearV, k_minI, k_maxI, k_panic, k_defer, k_deferv, evAppend]
       repeat' split
       all_goals (first | rfl | exact valO_repb _ _ _ _ | exact ofRes_repb _ _ _ | (simp only [map_bif, map_bind]; done) | (simp only [map_bif, map_bind]; first | rfl | (congr 1; done) | (simp only [← valO_repb, ← ofRes_repb]; done)) | (rw [ofRes_repb pb pb2]; simp only [map_bif]; rfl) | (simp only [map_bind]; congr 1; funext i; split <;> rfl)))
theorem evM_look {P : Program} {op : AOp} (hu : looks op = false) (xs : List (Option Value)) (pb pb2 : PB) (h h2 : AH) : evM P op xs pb2 h2 = (evM P op xs pb h).map (reph pb2 h2) := by
  cases op
  all_goals first
    | (simp [looks] at hu; done)
    | (simp only [evM, k_mov, k_pick, k_build, k_nilc, k_un, k_convI, k_convSame, k_faddr, k_iaddrA, k_iaddrS, k_fld, k_idxA, k_idxS, k_slS, k_mkif, k_mkfn,
        k_tass, k_ext, k_pcall, k_lenS, k_lenV, k_lenA, k_minI, k_maxI]
       repeat' split
       all_goals (first | rfl | exact valO_reph _ _ _ _ _ | (simp only [map_bif, map_bind]; done) | (simp only [map_bif, map_bind]; first | rfl | (congr 1; done)) | (simp only [map_bind]; congr 1; funext i; exact valO_reph _ _ _ _ _) | (simp only [map_bind]; congr 1; funext i; split <;> rfl) | (rename_i r _; cases r <;> simp only [ofRes, map_bif] <;> rfl)))
/-- an operation that does not move the heap on leaves it -/
theorem evM_chain {P : Program} {op : AOp} (hc : chains op = false) {xs : List (Option Value)} {pb pb' : PB} {h h' : AH} {v : Option Value} (hev : evM P op xs pb h = some (.ok v pb' h')) : h' = h := by
  cases op
  case store => simp [chains] at hc
  all_goals first
    | (simp [chains] at hc; done)
    | (simp only [evM, k_mov, k_pick, k_box, k_alloc, k_bslice, k_build, k_load, k_nilc, k_bin, k_un, k_convI, k_convSame, k_convBS, k_faddr, k_iaddrA, k_iaddrS, k_fld, k_idxA, k_idxS, k_slS, k_slV, k_slA, k_mkif, k_mkfn,
        k_lookup, k_tass, k_ext, k_pcall, k_lenS, k_lenV, k_lenA, k_lenM, k_minI, k_maxI, valO, Option.bind] at hev
       try simp only [cond_eq_ite] at hev
       repeat' split at hev
       all_goals (first | (simp at hev; done) | (simp only [Option.some.injEq, OR.ok.injEq] at hev; exact hev.2.2.symm) | (dsimp only at hev; split at hev <;> simp only [Option.some.injEq, OR.ok.injEq, reduceCtorEq] at hev; exact hev.2.2.symm) | (rename_i r _; cases r <;> simp only [ofRes, Option.some.injEq, OR.ok.injEq, reduceCtorEq] at hev; exact hev.2.2.symm) | (simp [chains] at hc; done) | skip))
theorem opKey_none {op : AOp} (hu : usesPb op = false) (xs : List (Option Value)) : opKey op xs = none := by
  cases op with
  | box p => cases p <;> simp [usesPb] at hu; simp [opKey]
  | alloc p z => cases p <;> simp [usesPb] at hu; simp [opKey]
  | bslice p a b c d => cases p <;> simp [usesPb] at hu; simp [opKey]
  | store => simp [usesPb] at hu
  | _ => simp [opKey]

section
variable {P : Program} {pb1 pb2 : PB} {h : AH}
theorem cellsAt_mono (hle : ∀ k, pb1.get k = none ∨ pb2.get k = pb1.get k) {a : Addr} {vs : List Value} (hc : cellsAt pb1 h a = some vs) : cellsAt pb2 h a = some vs := by
  simp only [cellsAt] at hc ⊢
  split
  · rename_i hs
    simp only [hs] at hc
    rcases hle a.block with e | e
    · rw [e] at hc; cases hc
    · rw [e]; exact hc
  · rename_i hs; simp [hs] at hc
  · rename_i hs; simp only [hs] at hc; exact hc
theorem sliceCells_mono (hle : ∀ k, pb1.get k = none ∨ pb2.get k = pb1.get k) {e : Nat} {s : Value} {vs : List Value} (hc : sliceCells pb1 h e s = some vs) : sliceCells pb2 h e s = some vs := by
  simp only [sliceCells] at hc ⊢
  split
  · exact hc
  · rename_i a n c
    simp only at hc
    cases hb : Nat.beq n 0
    · simp only [hb, cond_false] at hc ⊢
      cases h1 : cellsAt pb1 h a with
      | none => simp [h1] at hc
      | some us => rw [cellsAt_mono hle h1]; simpa only [h1] using hc
    · simp only [hb, cond_true] at hc ⊢; exact hc
  · simp_all
theorem evAppend_repb (pb pb2 : PB) (h : AH) (esz bytes : Nat) (s : Value) (new : List Value) (k : Nat) : evAppend pb2 h esz bytes s new k = (evAppend pb h esz bytes s new k).map (repb pb2) := by
  simp only [evAppend]
  repeat' split
  all_goals (first | rfl | (simp only [map_bif]; done) | (simp only [map_bif]; rfl))
theorem repb_ok {x : Option OR} {v : Option Value} {pb' : PB} {h' : AH} (hx : x = some (.ok v pb' h')) (pb2 : PB) : x.map (repb pb2) = some (.ok v pb2 h') := by rw [hx]; rfl

/-- more boxes do no harm -/
theorem evM_mono {op : AOp} {xs : List (Option Value)} (hle : ∀ k, pb1.get k = none ∨ pb2.get k = pb1.get k) (hk : ∀ k, opKey op xs = some k → pb2.get k = pb1.get k) {v : Option Value} {pb1' : PB} {h' : AH}
    (hev : evM P op xs pb1 h = some (.ok v pb1' h')) : ∃ pb2', evM P op xs pb2 h = some (.ok v pb2' h') ∧ (∀ k, opKey op xs = some k → pb2'.get k = pb1'.get k) ∧ (∀ k, opKey op xs ≠ some k → pb2'.get k = pb2.get k) := by
  cases hu : usesPb op
  · have hkn := opKey_none hu xs
    refine ⟨pb2, ?_, fun k e => (by rw [hkn] at e; cases e), fun _ _ => rfl⟩
    rw [evM_pb hu xs pb1 pb2 h]; exact repb_ok hev _
  · cases op with
    | box p =>
      cases p with
      | none => simp [usesPb] at hu
      | some k =>
        have hk1 := hk k rfl
        clear hk
        simp only [evM, k_box] at hev ⊢
        split at hev
        · cases ‹some k = none›
        · rename_i k' v' heq
          cases heq
          simp only [hk1]
          cases hl : isLoc v'
          · simp only [hl, cond_false] at hev ⊢
            split at hev
            · rename_i hn
              simp only [Option.some.injEq, OR.ok.injEq] at hev
              obtain ⟨rfl, rfl, rfl⟩ := hev
              refine ⟨pb2.set k (some (cellsL v')), by simp [hn], fun j hj => ?_, fun j hj => ?_⟩
              · simp only [opKey, Option.some.injEq] at hj; subst hj; simp [T.get_set]
              · simp only [opKey, ne_eq, Option.some.injEq] at hj
                rw [T.get_set, if_neg fun e : j = k => hj e.symm]
            · cases hev
          · simp [hl] at hev
        · cases hev
    | alloc p z =>
      cases p with
      | none => simp [usesPb] at hu
      | some k =>
        have hk1 := hk k rfl
        clear hk
        simp only [evM, k_alloc] at hev ⊢
        split at hev
        · cases ‹some k = none›
        · rename_i k' heq
          cases heq
          simp only [hk1]
          split at hev
          · rename_i hn
            simp only [Option.some.injEq, OR.ok.injEq] at hev
            obtain ⟨rfl, rfl, rfl⟩ := hev
            refine ⟨pb2.set k (some (cellsL z)), by simp [hn], fun j hj => ?_, fun j hj => ?_⟩
            · simp only [opKey, Option.some.injEq] at hj; subst hj; simp [T.get_set]
            · simp only [opKey, ne_eq, Option.some.injEq] at hj
              rw [T.get_set, if_neg fun e : j = k => hj e.symm]
          · cases hev
        · cases hev
    | bslice p esz n z ps =>
      cases p with
      | none => simp [usesPb] at hu
      | some k =>
        have hk1 := hk k rfl
        clear hk
        simp only [evM, k_bslice] at hev ⊢
        cases hs : allSome xs with
        | none => simp [hs] at hev
        | some vs =>
          simp only [hs] at hev ⊢
          cases hp : putParts z ps vs with
          | none => simp [hp] at hev
          | some cs =>
            simp only [hp, hk1] at hev ⊢
            split at hev
            · rename_i hn
              simp only [Option.some.injEq, OR.ok.injEq] at hev
              obtain ⟨rfl, rfl, rfl⟩ := hev
              refine ⟨pb2.set k (some cs), by simp [hn], fun j hj => ?_, fun j hj => ?_⟩
              · simp only [opKey, Option.some.injEq] at hj; subst hj; simp [T.get_set]
              · simp only [opKey, ne_eq, Option.some.injEq] at hj
                rw [T.get_set, if_neg fun e : j = k => hj e.symm]
            · cases hev
    | load sz =>
      refine ⟨pb2, ?_, fun k e => by simp [opKey] at e, fun _ _ => rfl⟩
      simp only [evM, k_load] at hev ⊢
      split at hev
      · rename_i a
        split at hev
        · rename_i vs hc
          simp only [cellsAt_mono hle hc]
          rw [valO_repb pb1 pb2]; exact repb_ok hev _
        · cases hev
      · cases hev
    | store sz =>
      simp only [evM, k_store] at hev ⊢
      split at hev
      · rename_i a v'
        cases hb : (Nat.beq (cellsL v').length sz && !isLoc v' && (cellsL v').all oneCell)
        · simp [hb] at hev
        · simp only [hb, cond_true] at hev ⊢
          obtain ⟨b, o, spot⟩ := a
          split at hev
          · cases hev
          · rename_i hs
            simp only at hs; subst hs
            have hk1 := hk b rfl
            clear hk
            simp only [hk1] at hev ⊢
            split at hev
            · rename_i us hus
              try simp only [hus]
              cases hl : Nat.ble (o + sz) us.length
              · simp [hl] at hev
              · simp only [hl, cond_true, Option.some.injEq, OR.ok.injEq] at hev ⊢
                obtain ⟨rfl, rfl, rfl⟩ := hev
                refine ⟨_, ⟨rfl, rfl, rfl⟩, fun j hj => ?_, fun j hj => ?_⟩
                · simp only [opKey, Option.some.injEq] at hj; subst hj; simp [T.get_set]
                · simp only [opKey, ne_eq, Option.some.injEq] at hj
                  rw [T.get_set, if_neg fun e : j = b => hj e.symm]
            · cases hev
          · rename_i hs
            simp only at hs; subst hs
            refine ⟨pb2, ?_, fun k e => by simp [opKey] at e, fun _ _ => rfl⟩
            split at hev
            · rename_i esz us hm
              simp only [hm]
              cases hl : Nat.ble (o + sz) us.length
              · simp [hl] at hev
              · simp only [hl, cond_true, Option.some.injEq, OR.ok.injEq] at hev ⊢
                obtain ⟨rfl, rfl, rfl⟩ := hev
                trivial
            · cases hev
      · cases hev
    | convBS =>
      refine ⟨pb2, ?_, fun k e => by simp [opKey] at e, fun _ _ => rfl⟩
      simp only [evM, k_convBS] at hev ⊢
      split at hev
      · split at hev
        · rename_i hc
          simp only [sliceCells_mono hle hc]
          rw [valO_repb pb1 pb2]; exact repb_ok hev _
        · cases hev
      · cases hev
    | slA n esz lo hi mx =>
      refine ⟨pb2, ?_, fun k e => by simp [opKey] at e, fun _ _ => rfl⟩
      simp only [evM, k_slA] at hev ⊢
      split at hev
      · split at hev
        · rename_i ho hc
          simp only [ho, cellsAt_mono hle hc]
          split at hev
          · rename_i hcu
            try simp only [hcu]
            rw [valO_repb pb1 pb2]
            have := repb_ok hev pb2
            rw [map_bif] at this
            exact this
          · cases hev
        · cases hev
      · cases hev
    | append esz bytes =>
      refine ⟨pb2, ?_, fun k e => by simp [opKey] at e, fun _ _ => rfl⟩
      simp only [evM, k_append] at hev ⊢
      split at hev
      · split at hev
        · rename_i hc
          simp only [sliceCells_mono hle hc]
          rw [evAppend_repb pb1 pb2]; exact repb_ok hev _
        · cases hev
      · cases hev
    | copy esz =>
      refine ⟨pb2, ?_, fun k e => by simp [opKey] at e, fun _ _ => rfl⟩
      simp only [evM, k_copy] at hev ⊢
      split at hev
      · split at hev
        · cases hev
        · rename_i hc
          simp only [sliceCells_mono hle hc]
          split at hev
          · rw [valO_repb pb1 pb2]; exact repb_ok hev _
          · split at hev
            · rename_i h1 h2
              try simp only [h1, h2]
              have := repb_ok hev pb2
              rw [map_bif] at this
              exact this
            · cases hev
      · cases hev
    | _ => simp [usesPb] at hu

/-- an operation touches no box but its own -/
theorem evM_frame {op : AOp} {xs : List (Option Value)} {pb pb' : PB} {v : Option Value} {h' : AH} (hev : evM P op xs pb h = some (.ok v pb' h')) (k : Nat) (hk : opKey op xs ≠ some k) : pb'.get k = pb.get k := by
  obtain ⟨pb2', h1, _, h3⟩ := evM_mono (pb2 := pb) (fun _ => .inr rfl) (fun _ _ => rfl) hev
  rw [hev] at h1
  cases h1
  exact h3 k hk

/-- a box is made without a look at the heap -/
theorem evM_keyed {op : AOp} (hc : chains op = false) {xs : List (Option Value)} {k : Nat} (hk : opKey op xs = some k) {pb pb' : PB} {v : Option Value} {h' : AH} (hev : evM P op xs pb h = some (.ok v pb' h')) (h2 : AH) :
    evM P op xs pb h2 = some (.ok v pb' h2) := by
  cases op with
  | box p =>
    cases p with
    | none => simp [opKey] at hk
    | some j =>
      simp only [evM, k_box, cond_eq_ite] at hev ⊢
      repeat' split at hev
      all_goals simp_all
  | alloc p z =>
    cases p with
    | none => simp [opKey] at hk
    | some j =>
      simp only [evM, k_alloc] at hev ⊢
      repeat' split at hev
      all_goals simp_all
  | bslice p esz n z ps =>
    cases p with
    | none => simp [opKey] at hk
    | some j =>
      simp only [evM, k_bslice] at hev ⊢
      repeat' split at hev
      all_goals simp_all
  | store => simp [chains] at hc
  | _ => simp [opKey] at hk
end
end Cw
