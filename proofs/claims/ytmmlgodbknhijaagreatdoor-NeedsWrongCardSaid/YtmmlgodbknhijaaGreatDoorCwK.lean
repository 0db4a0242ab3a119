/-
  Case by case, fourth part: cuts and the builtins.
-/
import Derived.Test.YtmmlgodbknhijaaGreatDoorCwJ
namespace Cw
open Go

section
variable {P : Program} {ρ : Rho} {π : Pi} {pb : PB} {h : AH} {w : World} {H : Hints} {dst : Option Tmp} {ty : TypeId} {pos : String} {after : Array Edge} {guard : Option (Nat × Bool)}
  {op : AOp} {xs : List Operand} {as : List (Option Value)} {ρe : Operand → Value} {r : OR}

theorem bif_some {α : Type} {b : Bool} {x : Option α} {y : α} (h : (bif b then x else none) = some y) : b = true ∧ x = some y := by
  cases b
  · simp at h
  · exact ⟨rfl, h⟩

theorem opts_oo {lo hi mx : Option Operand} {bs : List (Option Value)} (hl : OL ρ π pb bs ((optOp lo ++ optOp hi ++ optOp mx).map ρe)) {x y z : Option Value} (ho : optsOf lo.isSome hi.isSome mx.isSome bs = some (x, y, z)) :
    OO ρ π pb x (lo.map ρe) ∧ OO ρ π pb y (hi.map ρe) ∧ OO ρ π pb z (mx.map ρe) ∧ (z.isSome = true → y.isSome = true) ∧ z.isSome = mx.isSome := by
  cases lo <;> cases hi <;> cases mx <;> simp only [optOp, List.append_nil, List.nil_append, List.cons_append, List.map_cons, List.map_nil] at hl
  · cases hl; simp [optsOf] at ho; obtain ⟨rfl, rfl, rfl⟩ := ho; exact ⟨.none, .none, .none, by simp, rfl⟩
  · cases hl with | cons a c as cs ha hs => cases hs; cases a <;> simp [optsOf] at ho
  · cases hl with
    | cons a c as cs ha hs =>
      cases hs; cases a with
      | none => simp [optsOf] at ho
      | some a => simp [optsOf] at ho; obtain ⟨rfl, rfl, rfl⟩ := ho; exact ⟨.none, .some _ _ (ha _ rfl), .none, by simp, rfl⟩
  · cases hl with
    | cons a c as cs ha hs =>
      cases hs with
      | cons b d bs ds hb hs =>
        cases hs; cases a <;> cases b <;> simp [optsOf] at ho
        obtain ⟨rfl, rfl, rfl⟩ := ho; exact ⟨.none, .some _ _ (ha _ rfl), .some _ _ (hb _ rfl), by simp, rfl⟩
  · cases hl with
    | cons a c as cs ha hs =>
      cases hs; cases a with
      | none => simp [optsOf] at ho
      | some a => simp [optsOf] at ho; obtain ⟨rfl, rfl, rfl⟩ := ho; exact ⟨.some _ _ (ha _ rfl), .none, .none, by simp, rfl⟩
  · cases hl with
    | cons a c as cs ha hs =>
      cases hs with
      | cons b d bs ds hb hs => cases hs; cases a <;> cases b <;> simp [optsOf] at ho
  · cases hl with
    | cons a c as cs ha hs =>
      cases hs with
      | cons b d bs ds hb hs =>
        cases hs; cases a <;> cases b <;> simp [optsOf] at ho
        obtain ⟨rfl, rfl, rfl⟩ := ho; exact ⟨.some _ _ (ha _ rfl), .some _ _ (hb _ rfl), .none, by simp, rfl⟩
  · cases hl with
    | cons a c as cs ha hs =>
      cases hs with
      | cons b d bs ds hb hs =>
        cases hs with
        | cons b' d' bs ds hb' hs =>
          cases hs; cases a <;> cases b <;> cases b' <;> simp [optsOf] at ho
          obtain ⟨rfl, rfl, rfl⟩ := ho; exact ⟨.some _ _ (ha _ rfl), .some _ _ (hb _ rfl), .some _ _ (hb' _ rfl), by simp, rfl⟩

theorem p_slice (hR : R ρ h w) (hP : RP ρ π h pb w) {t : TypeId} {x : Operand} {lo hi mx : Option Operand} (he : elabOp P H ⟨dst, .slice t x lo hi mx, ty, pos, after, guard⟩ = some (op, xs)) (hl : OL ρ π pb as (xs.map ρe)) (hev : evM P op as pb h = some r) :
    Pl ρ π pb h w r ((execOp ρe ⟨dst, .slice t x lo hi mx, ty, pos, after, guard⟩).run P w) := by
  simp only [elabOp] at he
  split at he
  · rename_i ht
    cases mx with
    | some m => simp at he
    | none =>
      simp only [Option.some.injEq, Prod.mk.injEq] at he
      obtain ⟨rfl, rfl⟩ := he
      cases hl with
      | cons a c as cs ha hs =>
        have hs' : OL ρ π pb as ((optOp lo ++ optOp hi ++ optOp (none : Option Operand)).map ρe) := by simpa [optOp] using hs
        cases a with
        | none => simp [evM, k_slS] at hev
        | some v =>
          cases v with
          | string q =>
            obtain ⟨⟨l⟩⟩ := q
            simp only [evM, valO, k_slS] at hev
            split at hev
            · rename_i a b z ho
              obtain ⟨o1, o2, _, _, _⟩ := opts_oo hs' (mx := none) ho
              split at hev
              · rename_i lk hk m hc
                simp only [Option.some.injEq] at hev
                exact Pl.val (v_slS hR hP (ha _ rfl) ht o1 o2 hc) hev.symm
              · simp at hev
            · simp at hev
          | _ => simp [evM, k_slS] at hev
  · rename_i e ht
    simp only [Option.map_eq_some_iff, Prod.mk.injEq] at he
    obtain ⟨z, hz, rfl, rfl⟩ := he
    cases hl with
    | cons a c as cs ha hs =>
      cases a with
      | none => simp [evM, k_slV] at hev
      | some v =>
        cases v with
        | slice q n cc =>
          simp only [evM, valO, k_slV] at hev
          split at hev
          · simp at hev
          · rename_i x' y' z' ho
            obtain ⟨o1, o2, o3, o4, o5⟩ := opts_oo hs ho
            cases q with
            | none =>
              simp only at hev
              split at hev
              · rename_i r' hc
                simp only [Option.some.injEq] at hev
                exact Pl.val (v_slV_nil hR hP (ha _ rfl) ht hz o1 o2 o3 o4 hc) hev.symm
              · simp at hev
            | some a =>
              simp only at hev
              split at hev
              · simp at hev
              · rename_i l k m hc
                obtain ⟨ab, ao, asp⟩ := a
                cases asp with
                | some s =>
                  cases s with
                  | zero =>
                    simp only at hev
                    cases hcc : Nat.beq cc 0
                    · simp only [hcc, cond_false, Option.some.injEq] at hev
                      have hc0 : cc ≠ 0 := by rintro rfl; simp at hcc
                      exact Pl.val (v_slV_priv hR hP (ha _ rfl) hc0 ht hz o1 o2 o3 o4 hc) hev.symm
                    · simp [hcc] at hev
                  | succ s =>
                    simp only at hev
                    cases mx with
                    | some m => simp at hev
                    | none =>
                      simp only [Option.isSome_none, cond_false, Option.some.injEq] at hev
                      have hz' : z' = none := by simpa using o5
                      subst hz'
                      exact Pl.val (v_slV_tt hR hP (ha _ rfl) ht hz o1 o2 hc) hev.symm
                | none =>
                  simp only at hev
                  split at hev
                  · rename_i ro ez vs hob
                    cases hb : ((Nat.beq ez z || Nat.beq ez 0) && Nat.ble (ao + n * z) vs.length && Nat.ble l n)
                    · simp [hb] at hev
                    · simp only [hb, cond_true] at hev
                      simp only [Bool.and_eq_true, Bool.or_eq_true] at hb
                      obtain ⟨⟨b1, b2⟩, b3⟩ := hb
                      have b1' : ez = z ∨ ez = 0 := b1.imp Nat.eq_of_beq_eq_true Nat.eq_of_beq_eq_true
                      have b2 := Nat.le_of_ble_eq_true b2
                      have b3 := Nat.le_of_ble_eq_true b3
                      cases hex : (mx.isSome || Nat.blt 0 cc)
                      · simp only [hex, cond_false] at hev
                        simp only [Bool.or_eq_false_iff] at hex
                        have hz' : z' = none := by rw [hex.1] at o5; simpa using o5
                        subst hz'
                        have hmx : mx = none := by simpa using hex.1
                        subst hmx
                        have hcc : cc = 0 := by
                          cases cc with
                          | zero => rfl
                          | succ cc => exact absurd hex.2 (by simp [Nat.blt, Nat.ble])
                        subst hcc
                        simp only [Nat.beq_refl, cond_true] at hc
                        cases hln : Nat.beq l n
                        · simp only [hln, cond_false, Option.some.injEq] at hev
                          have : l < n := by
                            rcases Nat.lt_or_ge l n with h | h
                            · exact h
                            · have : l = n := by omega
                              subst this; simp at hln
                          exact Pl.val (v_slV_mid hR hP (ha _ rfl) ht hz o1 o2 hc hob b1' b2 this) hev.symm
                        · simp only [hln, cond_true] at hev
                          have hln := Nat.eq_of_beq_eq_true hln
                          subst hln
                          cases he : Nat.beq ez z
                          · simp [he] at hev
                          · simp only [he, cond_true, Option.some.injEq] at hev
                            have he := Nat.eq_of_beq_eq_true he
                            subst he
                            exact Pl.val (v_slV_tail hR hP (ha _ rfl) ht hz o1 o2 hc hob) hev.symm
                      · simp only [hex, cond_true, Option.some.injEq] at hev
                        exact Pl.val (v_slV_exact hR hP (ha _ rfl) ht hz o1 o2 o3 o4 hc (by rw [o5]; exact hex) hob b1' b2 b3) hev.symm
                  · simp at hev
        | _ => simp [evM, k_slV] at hev
  · rename_i n e ht
    simp only [Option.map_eq_some_iff, Prod.mk.injEq] at he
    obtain ⟨z, hz, rfl, rfl⟩ := he
    cases hl with
    | cons a c as cs ha hs =>
      cases a with
      | none => simp [evM, k_slA] at hev
      | some v =>
        cases v with
        | pointer q =>
          cases q with
          | none => simp [evM, k_slA] at hev
          | some a =>
            simp only [evM, valO, k_slA] at hev
            split at hev
            · rename_i x' y' z' vs ho hcell
              obtain ⟨o1, o2, o3, o4, o5⟩ := opts_oo hs ho
              split at hev
              · rename_i l k m hc
                obtain ⟨hb, hev⟩ := bif_some hev
                simp only [Bool.and_eq_true] at hb
                have hev := Option.some.inj hev
                exact Pl.val (v_slA hR hP (ha _ rfl) ht hz o1 o2 o3 o4 hc hcell (Nat.le_of_ble_eq_true hb.1) hb.2) hev.symm
              · simp at hev
            · simp at hev
        | _ => simp [evM, k_slA] at hev
  · simp at he

theorem take_all {l : List Value} {f : Value → Bool} (h : l.all f = true) (n : Nat) : (l.take n).all f = true := by
  rw [List.all_eq_true] at h ⊢
  exact fun x hx => h x (List.mem_of_mem_take hx)

theorem p_builtin (hR : R ρ h w) (hP : RP ρ π h pb w) {c : Call} {b : Builtin} {a : AOp} (hb : c.callee = .builtin b) (he : elabBuiltin P b c.argTypes.toList = some a) (hl : OL ρ π pb as (c.args.toList.map ρe)) (hev : evM P a as pb h = some r) :
    Pl ρ π pb h w r ((execOp ρe ⟨dst, .call c, ty, pos, after, guard⟩).run P w) := by
  have hx : ∃ consts, (execOp ρe ⟨dst, .call c, ty, pos, after, guard⟩).run P w = (builtin b c.argTypes ty consts (c.args.map ρe)).run P w := by
    simp only [execOp, resolve, hb, invoke, Sem.run_bind, Sem.run_pure, Result.andThen_ok]
    exact ⟨_, rfl⟩
  obtain ⟨consts, hx⟩ := hx
  rw [hx]
  have hca : c.args.map ρe = ⟨c.args.toList.map ρe⟩ := by apply Array.ext'; simp
  rw [hca]
  have hct : c.argTypes = ⟨c.argTypes.toList⟩ := by apply Array.ext'; simp
  generalize hts : c.argTypes.toList = ts at he hct
  rw [hct]
  generalize c.args.toList.map ρe = cs at hl
  simp only [elabBuiltin] at he
  split at he
  · -- len
    rename_i t
    split at he
    · rename_i ht
      simp only [Option.some.injEq] at he; subst he
      cases hl with
      | nil => simp [evM, k_lenS] at hev
      | cons x c xs cs hx hs =>
        cases hs with
        | cons => cases x <;> simp [evM, k_lenS] at hev
        | nil =>
          cases x with
          | none => simp [evM, k_lenS] at hev
          | some v =>
            cases v with
            | string q =>
              obtain ⟨⟨l⟩⟩ := q
              simp only [evM, valO, k_lenS, Option.some.injEq] at hev
              exact Pl.val (v_lenS hR hP ht (hx _ rfl)) hev.symm
            | _ => simp [evM, k_lenS] at hev
    · rename_i e ht
      simp only [Option.some.injEq] at he; subst he
      cases hl with
      | nil => simp [evM, k_lenV] at hev
      | cons x c xs cs hx hs =>
        cases hs with
        | cons => cases x <;> simp [evM, k_lenV] at hev
        | nil =>
          cases x with
          | none => simp [evM, k_lenV] at hev
          | some v =>
            cases v with
            | slice q n cc =>
              simp only [evM, valO, k_lenV, Option.some.injEq] at hev
              exact Pl.val (v_lenV hR hP ht (hx _ rfl)) hev.symm
            | _ => simp [evM, k_lenV] at hev
    · rename_i n e ht
      simp only [Option.some.injEq] at he; subst he
      cases hl with
      | nil => simp [evM, k_lenA] at hev
      | cons x c xs cs hx hs =>
        cases hs with
        | cons => cases x <;> simp [evM, k_lenA] at hev
        | nil =>
          simp only [evM, valO, k_lenA, Option.some.injEq] at hev
          exact Pl.val (v_lenA hR hP ht) hev.symm
    · rename_i kt e ht
      simp only [Option.some.injEq] at he; subst he
      cases hl with
      | nil => simp [evM, k_lenM] at hev
      | cons x c xs cs hx hs =>
        cases hs with
        | cons => cases x <;> simp [evM, k_lenM] at hev
        | nil =>
          cases x with
          | none => simp [evM, k_lenM] at hev
          | some v =>
            simp only [evM, valO, k_lenM] at hev
            cases v with
            | map q =>
              cases q with
              | none =>
                simp only [Option.some.injEq] at hev
                exact Pl.val (v_lenM (n := 0) hR hP ht (hx _ rfl) rfl) hev.symm
              | some q =>
                simp only at hev
                split at hev
                · rename_i kvs hob
                  simp only [Option.some.injEq] at hev
                  exact Pl.val (v_lenM hR hP ht (hx _ rfl) (by simp only [hob])) hev.symm
                · simp at hev
            | _ => simp at hev
    · simp at he
  · -- append
    rename_i t u
    split at he
    · rename_i e e' ht hu
      split at he
      · rename_i i hi
        obtain ⟨hb, he⟩ := bif_some he
        simp only [Option.some.injEq] at he; subst he
        simp only [Bool.and_eq_true] at hb
        obtain ⟨⟨b1, b2⟩, b3⟩ := hb
        split at b3
        · rename_i z hz
          cases hl with
          | nil => simp [evM, k_append] at hev
          | cons x c xs cs hx hs =>
            cases hs with
            | nil => cases x <;> simp [evM, k_append] at hev
            | cons y d ys ds hy hs =>
              cases hs with
              | cons => cases x <;> cases y <;> simp [evM, k_append] at hev
              | nil =>
                cases x with
                | none => cases y <;> simp [evM, k_append] at hev
                | some s =>
                  cases y with
                  | none => simp [evM, k_append] at hev
                  | some y =>
                    simp only [evM, k_append] at hev
                    split at hev
                    · rename_i new a k cc hnew
                      obtain ⟨a', k', cc', hxe, src⟩ := src_slice (P := P) hR hP (hy _ rfl) hnew
                      cases hxe
                      obtain ⟨v, pb', h', hr, hv⟩ := v_append (ty := ty) hR hP ht hu (d := .slice e') rfl hi hz (Nat.eq_of_beq_eq_true b3) (Nat.le_of_ble_eq_true b1) (Nat.le_of_ble_eq_true b2) (hx _ rfl) src hev
                      exact Pl.val hv hr
                    · simp at hev
        · simp at b3
      · simp at he
    · rename_i e ht hu
      split at he
      · rename_i i hu8 hi
        obtain ⟨hb, he⟩ := bif_some he
        simp only [Option.some.injEq] at he; subst he
        simp only [Bool.and_eq_true] at hb
        obtain ⟨⟨b1, b2⟩, b3⟩ := hb
        have b1 := Nat.eq_of_beq_eq_true b1
        have b2 := Nat.eq_of_beq_eq_true b2
        split at b3
        · rename_i z hz
          have b3 := Nat.eq_of_beq_eq_true b3
          cases hl with
          | nil => simp [evM, k_appendS] at hev
          | cons x c xs cs hx hs =>
            cases hs with
            | nil => cases x <;> simp [evM, k_appendS] at hev
            | cons y d ys ds hy hs =>
              cases hs with
              | cons => cases x <;> cases y <;> simp [evM, k_appendS] at hev
              | nil =>
                cases x with
                | none => cases y <;> simp [evM, k_appendS] at hev
                | some s =>
                  cases y with
                  | none => simp [evM, k_appendS] at hev
                  | some y =>
                    cases y with
                    | string q =>
                      obtain ⟨⟨l⟩⟩ := q
                      simp only [evM, k_appendS] at hev
                      cases (hy _ rfl).str
                      obtain ⟨v, pb', h', hr, hv⟩ := v_append (ty := ty) hR hP ht hu (d := .string) rfl hi hz (by rw [b3, b2]) (by rw [b1]; decide) (by rw [b2]; decide) (hx _ rfl) (by rw [b2]; exact src_str (l := l)) (by rw [b1, b2]; exact hev)
                      exact Pl.val hv hr
                    | _ => simp [evM, k_appendS] at hev
        · simp at b3
      · simp at he
    · simp at he
  · -- copy
    rename_i t u
    split at he
    · rename_i e e' ht hu
      simp only [Option.map_eq_some_iff] at he
      obtain ⟨z, hz, rfl⟩ := he
      cases hl with
      | nil => simp [evM, k_copy] at hev
      | cons x c xs cs hx hs =>
        cases hs with
        | nil => cases x <;> simp [evM, k_copy] at hev
        | cons y d ys ds hy hs =>
          cases hs with
          | cons => cases x <;> cases y <;> simp [evM, k_copy] at hev
          | nil =>
            cases x with
            | none => cases y <;> simp [evM, k_copy] at hev
            | some s =>
              cases s with
              | slice da n dc =>
                cases y with
                | none => simp [evM, k_copy] at hev
                | some y =>
                  cases y with
                  | slice a k kc =>
                    simp only [evM, valO, k_copy] at hev
                    split at hev
                    · simp at hev
                    · rename_i src hsrc
                      obtain ⟨ca, n', cc, g1, g2, ⟨ax, cc2, g3⟩, g4⟩ := slice_cells (P := P) hR hP (hy _ rfl) hsrc
                      cases g3
                      have hmin : Nat.min k n ≤ k := Nat.min_le_left k n
                      obtain ⟨cs, q1, q2⟩ := g4 (Nat.min k n) hmin
                      have hlen : (src.take (Nat.min k n * z)).length = Nat.min k n * z := by
                        rw [List.length_take, g2]; exact Nat.min_eq_left (Nat.mul_le_mul_right z hmin)
                      have key : ∃ v h', r = .ok v pb h' ∧ (match (generalizing := false) da with
                        | none => some (some (.int .i64 0), h)
                        | some d => match d.spot, h.m.get d.block with
                          | none, some (.cells false e vs) => bif Nat.ble (d.off + (src.take (Nat.min k n * z)).length) vs.length && (src.take (Nat.min k n * z)).all oneCell then
                              some (some (.int .i64 (Nat.min k n)), ⟨h.m.set d.block (some (.cells false e (setRange vs d.off (src.take (Nat.min k n * z))))), h.nx⟩) else none
                          | _, _ => none : Option (Option Value × AH)) = some (v, h') := by
                        cases da with
                        | none =>
                          simp only [Option.some.injEq] at hev
                          exact ⟨_, _, hev.symm, rfl⟩
                        | some da =>
                          simp only at hev ⊢
                          split at hev
                          · rename_i e vs hsp hob
                            obtain ⟨hb, hev⟩ := bif_some hev
                            simp only [Option.some.injEq] at hev
                            simp only [Bool.and_eq_true] at hb
                            refine ⟨_, _, hev.symm, ?_⟩
                            rw [hsp, hob]
                            simp only [hlen, hb.1, take_all hb.2, Bool.and_self, cond_true]
                          · simp at hev
                      obtain ⟨v, h', hr, hq⟩ := key
                      exact Pl.val (v_copy hR hP ht hz (hx _ rfl) (by rw [g1]; simp [Builtin.lenOf]) ⟨cs, q1 w.drawn, q2⟩ hq) hr
                  | _ => simp [evM, k_copy] at hev
              | _ => cases y <;> simp [evM, k_copy] at hev
    · rename_i e ht hu
      split at he
      · rename_i hz
        simp only [Option.some.injEq] at he; subst he
        cases hl with
        | nil => simp [evM, k_copyS] at hev
        | cons x c xs cs hx hs =>
          cases hs with
          | nil => cases x <;> simp [evM, k_copyS] at hev
          | cons y d ys ds hy hs =>
            cases hs with
            | cons => cases x <;> cases y <;> simp [evM, k_copyS] at hev
            | nil =>
              cases x with
              | none => cases y <;> simp [evM, k_copyS] at hev
              | some s =>
                cases s with
                | slice da n dc =>
                  cases y with
                  | none => simp [evM, k_copyS] at hev
                  | some y =>
                    cases y with
                    | string q =>
                      obtain ⟨⟨l⟩⟩ := q
                      simp only [evM, valO, k_copyS] at hev
                      cases (hy _ rfl).str
                      have hmin : Nat.min l.length n ≤ l.length := Nat.min_le_left _ n
                      have hlen : ((l.take (Nat.min l.length n)).map fun b => Value.int .u8 b.toNat).length = Nat.min l.length n := by
                        rw [List.length_map, List.length_take]; exact Nat.min_eq_left hmin
                      have hone : ((l.take (Nat.min l.length n)).map fun b => Value.int .u8 b.toNat).all oneCell = true := by
                        rw [List.all_map, List.all_eq_true]; intro x _; rfl
                      have key : ∃ v h', r = .ok v pb h' ∧ (match (generalizing := false) da with
                        | none => some (some (.int .i64 0), h)
                        | some d => match d.spot, h.m.get d.block with
                          | none, some (.cells false e vs) => bif Nat.ble (d.off + ((l.take (Nat.min l.length n)).map fun b => Value.int .u8 b.toNat).length) vs.length && ((l.take (Nat.min l.length n)).map fun b => Value.int .u8 b.toNat).all oneCell then
                              some (some (.int .i64 (Nat.min l.length n)), ⟨h.m.set d.block (some (.cells false e (setRange vs d.off ((l.take (Nat.min l.length n)).map fun b => Value.int .u8 b.toNat)))), h.nx⟩) else none
                          | _, _ => none : Option (Option Value × AH)) = some (v, h') := by
                        cases da with
                        | none =>
                          simp only [Option.some.injEq] at hev
                          exact ⟨_, _, hev.symm, rfl⟩
                        | some da =>
                          simp only at hev ⊢
                          split at hev
                          · rename_i e vs hsp hob
                            obtain ⟨hb, hev⟩ := bif_some hev
                            simp only [Option.some.injEq] at hev
                            refine ⟨_, _, hev.symm, ?_⟩
                            rw [hsp, hob]
                            simp only [hlen, hb, hone, Bool.and_self, cond_true]
                          · simp at hev
                      obtain ⟨v, h', hr, hq⟩ := key
                      exact Pl.val (v_copy hR hP ht hz (hx _ rfl) rfl ⟨_, str_cells _ hmin, bytesV ρ _⟩ hq) hr
                    | _ => simp [evM, k_copyS] at hev
                | _ => cases y <;> simp [evM, k_copyS] at hev
      · simp at he
    · simp at he
  · -- min
    rename_i t ts'
    split at he
    · simp only [Option.some.injEq] at he; subst he
      cases hl with
      | nil => simp [evM, k_minI] at hev
      | cons x c xs cs hx hs =>
        cases x with
        | none => simp [evM, k_minI] at hev
        | some v =>
          cases v with
          | int k n =>
            simp only [evM, valO, k_minI] at hev
            cases hn : intsOf xs with
            | none => simp [hn] at hev
            | some ns =>
              simp only [hn, Option.map_some, Option.some.injEq] at hev
              exact Pl.val (v_min hR hP (hx _ rfl) hs hn) hev.symm
          | _ => simp [evM, k_minI] at hev
    · simp at he
  · -- max
    rename_i t ts'
    split at he
    · simp only [Option.some.injEq] at he; subst he
      cases hl with
      | nil => simp [evM, k_maxI] at hev
      | cons x c xs cs hx hs =>
        cases x with
        | none => simp [evM, k_maxI] at hev
        | some v =>
          cases v with
          | int k n =>
            simp only [evM, valO, k_maxI] at hev
            cases hn : intsOf xs with
            | none => simp [hn] at hev
            | some ns =>
              simp only [hn, Option.map_some, Option.some.injEq] at hev
              exact Pl.val (v_max hR hP (hx _ rfl) hs hn) hev.symm
          | _ => simp [evM, k_maxI] at hev
    · simp at he
  · -- delete
    rename_i t kT
    split at he
    · rename_i kt e ht
      simp only [Option.map_eq_some_iff] at he
      obtain ⟨ks, hks, rfl⟩ := he
      cases hl with
      | nil => simp [evM, k_delete] at hev
      | cons x c xs cs hx hs =>
        cases hs with
        | nil => cases x <;> simp [evM, k_delete] at hev
        | cons y d ys ds hy hs =>
          cases hs with
          | cons => cases x <;> cases y <;> simp [evM, k_delete] at hev
          | nil =>
            cases x with
            | none => cases y <;> simp [evM, k_delete] at hev
            | some m =>
              cases m with
              | map q =>
                cases q with
                | none => cases y <;> simp [evM, k_delete] at hev
                | some i =>
                  cases y with
                  | none => simp [evM, k_delete] at hev
                  | some k =>
                    simp only [evM, k_delete] at hev
                    obtain ⟨hko, hev⟩ := bif_some hev
                    split at hev
                    · rename_i kvs hob
                      split at hev
                      · simp at hev
                      · rename_i q hq
                        simp only [Option.some.injEq] at hev
                        exact Pl.val (v_delete hR hP ht hks (hx _ rfl) (hy _ rfl) hko hob hq) hev.symm
                    · simp at hev
              | _ => cases y <;> simp [evM, k_delete] at hev
    · simp at he
  · -- clear
    rename_i t
    split at he
    · rename_i e ht
      simp only [Option.map_eq_some_iff] at he
      obtain ⟨z, hz, rfl⟩ := he
      cases hl with
      | nil => simp [evM, k_clearV] at hev
      | cons x c xs cs hx hs =>
        cases hs with
        | cons => cases x <;> simp [evM, k_clearV] at hev
        | nil =>
          cases x with
          | none => simp [evM, k_clearV] at hev
          | some v =>
            cases v with
            | slice da n cc =>
              simp only [evM, k_clearV] at hev
              have key : ∃ h', r = .ok none pb h' ∧ (match (generalizing := false) da with
                | none => some h
                | some d => match d.spot, h.m.get d.block with
                  | none, some (.cells false e vs) => bif Nat.ble (d.off + n * (cellsL z).length) vs.length && (cellsL z).all oneCell then
                      some ⟨h.m.set d.block (some (.cells false e (setRange vs d.off ((List.replicate n (cellsL z)).flatten)))), h.nx⟩ else none
                  | _, _ => none : Option AH) = some h' := by
                cases da with
                | none =>
                  simp only [Option.some.injEq] at hev
                  exact ⟨_, hev.symm, rfl⟩
                | some da =>
                  simp only at hev ⊢
                  split at hev
                  · rename_i e vs hsp hob
                    obtain ⟨hb, hev⟩ := bif_some hev
                    simp only [Option.some.injEq] at hev
                    refine ⟨_, hev.symm, ?_⟩
                    rw [hsp, hob]
                    simp only [hb, cond_true]
                  · simp at hev
              obtain ⟨h', hr, hq⟩ := key
              exact Pl.val (v_clear hR hP ht hz (hx _ rfl) hq) hr
            | _ => simp [evM, k_clearV] at hev
    · simp at he
  · simp at he
end
end Cw
