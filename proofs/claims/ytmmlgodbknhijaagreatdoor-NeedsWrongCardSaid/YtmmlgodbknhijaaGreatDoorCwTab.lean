/-
  Tables of closed calls; hints that are given as lists.
-/
import Derived.Test.YtmmlgodbknhijaaGreatDoorCwFn
namespace Cw
open Go

def tab : List (List Value × Res) → PSpec
  | [], _ => none
  | (a, r) :: l, args => bif veqL args a then some r else tab l args
def resEq : Res → Res → Bool
  | .ret v, .ret u => veq v u && scal u
  | .pan v, .pan u => veq v u && scal u
  | _, _ => false
def tabOk (S : Spec) : List (List Value × Res) → Bool
  | [] => true
  | (a, r) :: l => scalL a && (match S a ⟨.nil, 0⟩ with
    | some (q, _) => resEq q r
    | none => false) && tabOk S l
theorem tab_spec {S : Spec} : ∀ {l : List (List Value × Res)}, tabOk S l = true → ∀ args r, tab l args = some r →
    ∃ h', scalL args = true ∧ S args ⟨.nil, 0⟩ = some (r, h') ∧ (match r with | .ret v | .pan v => scal v = true)
  | [], _, args, r, h => by simp [tab] at h
  | (a, r') :: l, hok, args, r, h => by
    simp only [tabOk, Bool.and_eq_true] at hok
    obtain ⟨⟨h1, h2⟩, h3⟩ := hok
    simp only [tab] at h
    cases hv : veqL args a
    · simp only [hv, cond_false] at h
      exact tab_spec h3 args r h
    · simp only [hv, cond_true, Option.some.injEq] at h; subst h
      have := veqL_spec args a hv; subst this
      cases hs : S args ⟨.nil, 0⟩ with
      | none => simp [hs] at h2
      | some q =>
        obtain ⟨q, h'⟩ := q
        simp only [hs] at h2
        refine ⟨h', h1, ?_, ?_⟩
        · cases q <;> cases r' <;> simp only [resEq, Bool.and_eq_true, Bool.false_eq_true] at h2 <;> rw [veq_spec _ _ h2.1]
        · cases q <;> cases r' <;> simp only [resEq, Bool.and_eq_true, Bool.false_eq_true] at h2 <;> exact h2.2
theorem goodP_tab {P : Program} {f : FuncId} {S : Spec} (hG : Good P f S) {l : List (List Value × Res)} (h : tabOk S l = true) : GoodP P f (tab l) :=
  goodP_of hG (fun args r hs => tab_spec h args r hs)

def sNone : Spec := fun _ _ => none
theorem good_none (P : Program) (f : FuncId) : Good P f sNone := fun _ _ _ _ h => by simp [sNone] at h

def callsOf (l : List (FuncId × CH)) (f : FuncId) : CH := match l with
  | [] => .bad
  | (g, c) :: r => bif Nat.beq f g then c else callsOf r f
def chOk (P : Program) (f : FuncId) : CH → Prop
  | .spec S => Good P f S
  | .pure S => GoodP P f S
  | .dspec D => GoodD P f D
  | .bad => True
def AllCh (P : Program) : List (FuncId × CH) → Prop
  | [] => True
  | (f, c) :: l => chOk P f c ∧ AllCh P l
def AllS (P : Program) : List (FuncId × Spec) → Prop
  | [] => True
  | (f, S) :: l => Good P f S ∧ AllS P l
def AllI (P : Program) : List (FuncId × Spec) → Prop
  | [] => True
  | (f, S) :: l => GoodI P f S ∧ AllI P l
def AllD (P : Program) : List (FuncId × DSpec) → Prop
  | [] => True
  | (f, S) :: l => GoodD P f S ∧ AllD P l
theorem callsOf_ok {P : Program} : ∀ {l : List (FuncId × CH)}, AllCh P l → ∀ f, chOk P f (callsOf l f)
  | [], _, f => trivial
  | (g, c) :: l, h, f => by
    simp only [callsOf]
    cases hb : Nat.beq f g
    · exact callsOf_ok h.2 f
    · rw [Nat.eq_of_beq_eq_true hb]; exact h.1
theorem hok_of {P : Program} {priv : List Nat} {l : List (FuncId × CH)} {clos : List (FuncId × Spec)} {dclos : List (FuncId × DSpec)} {iters : List (FuncId × Spec)}
    (h1 : AllCh P l) (h2 : AllS P clos) (h3 : AllD P dclos) (h4 : AllI P iters) : HOk P ⟨priv, callsOf l, clos, dclos, iters⟩ where
  calls := fun f => by
    have := callsOf_ok h1 f
    simp only
    cases hc : callsOf l f <;> simp only [hc, chOk] at this ⊢ <;> exact this
  clos := by
    induction clos with
    | nil => intro x hx; simp at hx
    | cons y l ih => intro x hx; rcases List.mem_cons.1 hx with rfl | hx; exact h2.1; exact ih h2.2 x hx
  dclos := by
    induction dclos with
    | nil => intro x hx; simp at hx
    | cons y l ih => intro x hx; rcases List.mem_cons.1 hx with rfl | hx; exact h3.1; exact ih h3.2 x hx
  iters := by
    induction iters with
    | nil => intro x hx; simp at hx
    | cons y l ih => intro x hx; rcases List.mem_cons.1 hx with rfl | hx; exact h4.1; exact ih h4.2 x hx
end Cw
