/-
  The law of the program's function 4, at every input: it answers true, and below the heap's old size nothing turns.
-/
import Derived.Test.YtmmlgodbknhijaaGreatDoorCwRun
import Derived.Below
namespace CwT
open Go Cw
set_option maxRecDepth 100000

theorem sameO_true (k o l : Int) (p q d : List UInt8) : sameO k o l p q d = true := by
  have hi : ∀ a : Int, intEq a a = true := fun a => by rw [intEq_eq]; simp
  have hb : ∀ a : List UInt8, bytesEq a a = true := fun a => by rw [bytesEq_spec]; simp
  simp [sameO, hi, hb]
theorem boolOf_some {x : Option (Res × AH)} {b : Bool} (h : boolOf x = some b) : ∃ h', x = some (.ret (.bool b), h') := by
  unfold boolOf at h
  split at h
  · simp only [Option.some.injEq] at h; subst h; exact ⟨_, rfl⟩
  · cases h

theorem law4_of {W : World} {t : TypeId} {fr : Nat × Nat} (hW : W.heap[0]? = some (.cells ⟨[errT]⟩ t fr)) {args : List Value} {cargs : Array Value} {s1 : Option Seg}
    (hrun : boolOf (s4 args (h0 t fr)) = some true) (hargs : VL (fun i => if i = 0 then some ⟨0, 0, 1, 0⟩ else if i = 1 then s1 else none) args cargs.toList) :
    Calls prog 4 cargs W fun e W' => e = .returned (.bool true) ∧ RowKit.Below W.heap.size W W' := by
  obtain ⟨h', hs⟩ := boolOf_some hrun
  have hm : ∀ i, (h0 t fr).m.get i = if i = 0 then some (.raw 0 [errT] t fr) else none := fun i => by
    show (T.set (.nil : T AObj) 0 (some (AObj.raw 0 [errT] t fr))).get i = _
    rw [T.get_set]
    by_cases hi : i = 0
    · subst hi; rfl
    · simp only [if_neg hi]; exact T.get_nil i
  refine (g4 args _ _ _ hs _ W cargs ⟨?_, ?_, ?_⟩ hargs).mono ?_
  · intro i s h
    show i < 2
    by_cases h1 : i = 0
    · omega
    · by_cases h2 : i = 1
      · omega
      · simp [h1, h2] at h
  · intro i o h
    rw [hm] at h
    by_cases hi : i = 0
    · subst hi
      simp only [if_true, Option.some.injEq] at h
      subst h
      exact ⟨_, rfl, rfl, hW⟩
    · simp [hi] at h
  · intro i j oi oj si sj hij hi hj
    rw [hm] at hi hj
    by_cases h1 : i = 0
    · by_cases h2 : j = 0
      · omega
      · simp [h2] at hj
    · simp [h1] at hi
  · rintro e w' ⟨ρ', hR, hS, he⟩
    constructor
    · cases e with
      | returned c =>
        have hc : V ρ' (.bool true) c := he
        cases hc
        rfl
      | _ => exact he.elim
    · refine ⟨hS.os, hS.tape, hS.output, hS.size, fun b hb => hS.keep b hb ?_ (fun k => by simp [π0])⟩
      rintro ⟨i, o, s, h1, h2, _⟩
      rw [hm] at h1
      by_cases hi : i = 0
      · subst hi
        simp only [if_true, Option.some.injEq] at h1
        subst h1
        simp [AObj.rw] at h2
      · simp [hi] at h1
end CwT
