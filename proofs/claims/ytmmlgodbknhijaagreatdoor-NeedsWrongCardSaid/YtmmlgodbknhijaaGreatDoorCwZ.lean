/-
  append, copy, clear; bytes to a string.
-/
import Derived.Test.YtmmlgodbknhijaaGreatDoorCwY
namespace Cw
open Go

section
variable {P : Program} {ρ : Rho} {π : Pi} {pb : PB} {h : AH} {w : World}

theorem setRange_app : ∀ (ns xs : List Value) (m : Nat), m + ns.length ≤ xs.length → (setRange xs m ns).take (m + ns.length) = xs.take m ++ ns
  | [], xs, m, _ => by simp [setRange]
  | v :: vs, xs, m, hl => by
    simp only [setRange, List.length_cons] at hl ⊢
    have ih := setRange_app vs (xs.set m v) (m + 1) (by simp; omega)
    rw [show m + (vs.length + 1) = m + 1 + vs.length from by omega, ih]
    have hm : m < xs.length := by omega
    rw [List.take_succ_eq_append_getElem (by simpa using hm), List.take_set_of_le (Nat.le_refl m)]
    simp

/-- what is appended: its cells, whatever it is -/
structure Src (P : Program) (ρ : Rho) (w : World) (sz : Nat) (cx : Value) (k : Nat) (new : List Value) where
  len : (Builtin.lenOf cx).run P w = .ok k w
  cells : ∃ cs, (∀ d, (Builtin.firstCells sz k cx).run P { w with drawn := d } = .ok ⟨cs⟩ { w with drawn := d }) ∧ VL ρ new cs
  size : new.length = k * sz

def notInt : TypeDesc → Bool | .int _ => false | _ => true

theorem run_append_fit {t u ty e : TypeId} {d : TypeDesc} {sz n k cap : Nat} {base : Option Addr} {cx : Value} {cs : List Value} (ht : P.underlying t = some (.slice e)) (hu : P.underlying u = some d) (hd : notInt d = true)
    (hz : szOf P e = some sz) (hl : (Builtin.lenOf cx).run P w = .ok k w) (hc : (Builtin.firstCells sz k cx).run P w = .ok ⟨cs⟩ w) (hle : n + k ≤ cap) :
    (Builtin.append_ #[t, u] ty #[.slice base n cap, cx]).run P w =
      ((match base with | some a => storeCells (a.add (n * sz)) cs | none => pure () : Sem Unit).run P w).andThen fun _ w' => .ok (.slice base (n + k) cap) w' := by
  have hm : ∀ d : TypeDesc, notInt d = true → (match d with | .int _ => true | _ => false) = false := by intro d h; cases d <;> simp [notInt] at h ⊢
  simp only [Builtin.append_, List.getElem?_toArray, List.getElem?_cons_zero, List.getElem?_cons_succ, Sem.run_bind, run_underlying ht, Result.andThen_ok, run_sizeOf hz, run_underlying hu, Sem.run_pure]
  cases d <;> simp [notInt] at hd <;>
    (simp only [Bool.false_eq_true, if_false, hl, Result.andThen_ok, hle, if_true, Bool.not_false, Sem.run_bind, hc]
     cases base <;> simp)

theorem run_append_grow' {t u ty e : TypeId} {d : TypeDesc} {i : TypeInfo} {z : Value} {n k cap : Nat} {base : Option Addr} {cx : Value} {os cs : List Value} (ht : P.underlying t = some (.slice e)) (hu : P.underlying u = some d) (hd : notInt d = true)
    (hi : P.info? e = some i) (hz : i.zero = some z) (hsz : (cellsL z).length = i.size) (hby : 0 < i.bytes) (hl : (Builtin.lenOf cx).run P w = .ok k w)
    (ho : ∀ d, (Builtin.firstCells i.size n (.slice base n cap)).run P { w with drawn := d } = .ok ⟨os⟩ { w with drawn := d })
    (hc : ∀ d, (Builtin.firstCells i.size k cx).run P { w with drawn := d } = .ok ⟨cs⟩ { w with drawn := d }) (hgt : cap < n + k) (hlim : (n + k) * i.bytes ≤ 140737488355328) :
    ∃ (nc : Nat) (rest : List Value), n + k ≤ nc ∧ rest.length = (nc - (n + k)) * i.size ∧
      (Builtin.append_ #[t, u] ty #[.slice base n cap, cx]).run P w = .ok (.slice (some ⟨w.heap.size, 0, none⟩) (n + k) nc) (({ w with drawn := w.drawn + 1 } : World).alloc (.cells ⟨os ++ cs ++ rest⟩ e)) := by
  have hz' : szOf P e = some i.size := by simp [szOf, hi]
  refine ⟨(Question.appendCap (n + k) cap e).cut (w.tape w.drawn (.appendCap (n + k) cap e)), (Builtin.zeroCells z.cells ((Question.appendCap (n + k) cap e).cut (w.tape w.drawn (.appendCap (n + k) cap e)) - (n + k))).toList, by simp [Question.cut], ?_, ?_⟩
  · rw [Array.length_toList, size_zeroCells, Value.cells_eq]; simp [hsz]
  · have hfit := growslice_fits hgt hlim
    have hzv : ∀ w, (zeroValue e).run P w = .ok z w := fun w => by simp [zeroValue, typeInfo, hi, hz]
    simp only [Builtin.append_, List.getElem?_toArray, List.getElem?_cons_zero, List.getElem?_cons_succ, Sem.run_bind, run_underlying ht, Result.andThen_ok, run_sizeOf hz', run_underlying hu, Sem.run_pure]
    cases d <;> simp [notInt] at hd <;>
      (simp only [Bool.false_eq_true, if_false, hl, Result.andThen_ok, show ¬ n + k ≤ cap by omega, Sem.run_bind, run_typeInfo hi, false_or, show ¬ i.bytes = 0 by omega, and_false,
        show ¬ Builtin.nextslicecap (n + k) cap * i.bytes > 2 ^ 48 by omega, run_choose, Question.forced, run_askRoom, Bool.not_false, if_true]
       rw [ho]
       simp only [Result.andThen_ok, hc, hzv, Sem.run_pure, newRow, Sem.run_bind, run_newObj, World.alloc_eq]
       congr 2
       simp)

theorem block_elem (hR : R ρ h w) {i : Nat} {o : AObj} {s : Seg} (ho : h.m.get i = some o) (hs : ρ i = some s) : objOk ρ w s o := by
  obtain ⟨t, ht, ok⟩ := hR.obj i o ho
  rw [hs] at ht; cases ht; exact ok

/-- the cells of the slice that is appended to -/
theorem dest_cells (hR : R ρ h w) {i o n : Nat} {s : Seg} (hs : ρ i = some s) {ro : Bool} {ez sz cap : Nat} {vs old : List Value} (ho : h.m.get i = some (.cells ro ez vs))
    (hg : getRange vs o (n * sz) = some old) : ∃ os, VL ρ old os ∧ ∀ d, (Builtin.firstCells sz n (.slice (some ⟨s.b, s.base + o, none⟩) n cap)).run P { w with drawn := d } = .ok ⟨os⟩ { w with drawn := d } := by
  obtain ⟨cs, elem, fr, h1, _, _, _, _, h6⟩ := block_elem hR ho hs
  obtain ⟨c', q1, q2⟩ := h6.read (o := o) (sz := some (n * sz)) (v := .agg ⟨old⟩) (by simp [readCells, hg])
  have q3 := read_sub q1
  simp only [readCells, Option.map_eq_some_iff] at q3
  obtain ⟨r, q4, rfl⟩ := q3
  cases q2 with
  | agg _ _ q2 =>
    refine ⟨r, q2, fun d => ?_⟩
    simp only [Builtin.firstCells]
    exact run_loadCells_at (w := { w with drawn := d }) h1 q4

theorem mono_drawn (hR : R ρ h w) (hP : RP ρ π h pb w) (d : Nat) : R ρ h { w with drawn := d } ∧ RP ρ π h pb { w with drawn := d } :=
  ⟨hR.drawn d, ⟨hP.box, hP.inj, hP.apart⟩⟩

/-- a new row holds what there was and what came -/
theorem v_append_new (hR : R ρ h w) (hP : RP ρ π h pb w) (h₁ : AH) (hR1 : R ρ h₁ w) (hP1 : RP ρ π h₁ pb w) (st1 : Stp ρ π h w ρ π h₁ w) {x : Result Value} {e : TypeId} {sz m nc : Nat} {old new os cs rest : List Value} (hpos : 0 < sz)
    (hx : x = .ok (.slice (some ⟨w.heap.size, 0, none⟩) m nc) (({ w with drawn := w.drawn + 1 } : World).alloc (.cells ⟨os ++ cs ++ rest⟩ e)))
    (ho : VL ρ old os) (hn : VL ρ new cs) (hm : (old ++ new).length = m * sz) (hnc : m ≤ nc) (hr : rest.length = (nc - m) * sz) :
    ValOk ρ π pb h w x (some (.slice (some ⟨h₁.nx, 0, none⟩) m 0)) pb (Cw.alloc h₁ (.cells false sz (old ++ new))) := by
  have hon := ho.append hn
  have hlen := hon.length
  have hlen2 : (os ++ cs ++ rest).length = nc * sz := by
    rw [List.length_append, ← hlen, hm, hr, ← Nat.add_mul]; congr 1; omega
  have h2 : ValOk ρ π pb h₁ w x (some (.slice (some ⟨h₁.nx, 0, none⟩) m 0)) pb (Cw.alloc h₁ (.cells false sz (old ++ new))) := by
    refine ValOk.allocW hR1 hP1 _ (.cells false sz (old ++ new)) _ ⟨w.heap.size, 0, nc * sz, sz⟩ rfl rfl hx ?_ (by simp [World.alloc]) rfl rfl rfl ?_ ?_
    · intro k hk; exact heap_push_lt ({ w with drawn := w.drawn + 1 } : World) _ k hk
    · refine mkCells_ok (cs := os ++ cs ++ rest) (elem := e) (n := (old ++ new).length) (heap_push_new ({ w with drawn := w.drawn + 1 } : World) _) rfl (by rw [hlen2]) rfl rfl ?_ ?_
      · rw [hlen2, hm]; exact Nat.mul_le_mul_right _ hnc
      · rw [hlen, List.take_append_of_le_length (Nat.le_refl _), List.take_length]; exact hon.mono (ext_alloc hR1 _)
    · exact V.newSlice ρ h₁.nx ⟨w.heap.size, 0, nc * sz, sz⟩ m 0 nc rfl hnc (.inl rfl) (Nat.le_refl _)
  obtain ⟨cv, w', ρ', π', g1, g2, g3, g4, g5, g6⟩ := h2
  exact ⟨cv, w', ρ', π', g1, g2, g3, st1.trans g4, g5, g6⟩

theorem v_append (hR : R ρ h w) (hP : RP ρ π h pb w) {t u ty e : TypeId} {d : TypeDesc} {i : TypeInfo} {z : Value} (ht : P.underlying t = some (.slice e)) (hu : P.underlying u = some d) (hd : notInt d = true)
    (hi : P.info? e = some i) (hz : i.zero = some z) (hsz : (cellsL z).length = i.size) (hby : 0 < i.bytes) (hpos : 0 < i.size) {s cs cx : Value} (hs : FV ρ π pb s cs) {k : Nat} {new : List Value}
    (src : Src P ρ w i.size cx k new) {r : OR} (hev : evAppend pb h i.size i.bytes s new k = some r) :
    ∃ v pb' h', r = .ok v pb' h' ∧ ValOk ρ π pb h w ((Builtin.append_ #[t, u] ty #[cs, cx]).run P w) v pb' h' := by
  obtain ⟨scs, sc1, sc2⟩ := src.cells
  have hz' : szOf P e = some i.size := by simp [szOf, hi]
  have scs0 : k = 0 → scs = [] := by
    intro e0; subst e0
    have := sc2.length; rw [src.size, Nat.zero_mul] at this
    exact List.length_eq_zero_iff.1 this.symm
  cases s with
  | slice a n c =>
    cases a with
    | none =>
      obtain ⟨rfl, rfl, rfl⟩ := hs.sliceNil
      simp only [evAppend] at hev
      cases hk : Nat.beq k 0
      · simp only [hk, cond_false] at hev
        cases hb : Nat.ble (k * i.bytes) 140737488355328
        · simp [hb] at hev
        · simp only [hb, cond_true, Option.some.injEq] at hev; subst hev
          have hk0 : k ≠ 0 := fun e0 => by rw [e0] at hk; cases hk
          have hb := Nat.le_of_ble_eq_true hb
          obtain ⟨nc, rest, q1, q2, q3⟩ := run_append_grow' (ty := ty) (base := none) (n := 0) (cap := 0) (os := []) (w := w) ht hu hd hi hz hsz hby src.len
            (fun d => by simp [Builtin.firstCells]) sc1 (by omega) (by rw [Nat.zero_add]; exact hb)
          rw [Nat.zero_add] at q1 q2 q3
          exact ⟨_, _, _, rfl, by
            have := v_append_new (old := []) hR hP h hR hP (Stp.refl _ _ _ _) hpos q3 .nil sc2 (by simpa using src.size) q1 q2
            simpa using this⟩
      · simp only [hk, cond_true, Option.some.injEq] at hev; subst hev
        have hk0 := Nat.eq_of_beq_eq_true hk
        subst hk0
        refine ⟨_, _, _, rfl, ValOk.sameV hR hP (.slice none 0 0) ?_ .sliceN⟩
        rw [run_append_fit (base := none) (n := 0) (cap := 0) ht hu hd hz' src.len (by simpa using sc1 w.drawn) (Nat.le_refl _)]
        simp
    | some a =>
      simp only [evAppend] at hev
      split at hev
      · simp at hev
      rename_i hspot
      obtain ⟨ca, cap, rfl, hsp, hle, hcc, hptr⟩ := hs.sliceInv
      cases hk : Nat.beq k 0
      case true =>
        simp only [hk, cond_true, Option.some.injEq] at hev; subst hev
        have hk0 := Nat.eq_of_beq_eq_true hk
        subst hk0
        refine ⟨_, _, _, rfl, ValOk.same hR hP (.slice (some ca) n cap) ?_ (fun u hu => by cases hu; exact hs)⟩
        rw [run_append_fit (base := some ca) ht hu hd hz' src.len (by simpa using sc1 w.drawn) (by omega), scs0 rfl]
        simp [storeCells]
      case false =>
        have hk0 : k ≠ 0 := fun e0 => by rw [e0] at hk; cases hk
        simp only [hk, cond_false] at hev
        split at hev
        · rename_i ro esz' vs hob
          cases hg : getRange vs a.off (n * i.size) with
          | none => simp [hg] at hev
          | some old =>
            simp only [hg] at hev
            obtain ⟨_, hol⟩ := getRange_spec hg
            cases hb : Nat.ble ((n + k) * i.bytes) 140737488355328
            · simp [hb] at hev
            simp only [hb, cond_true] at hev
            have hb := Nat.le_of_ble_eq_true hb
            -- the concrete slice: at its place in a block, or (empty) without room
            have shape : (∃ sg, ρ a.block = some sg ∧ ca = ⟨sg.b, sg.base + a.off, none⟩ ∧ (n = cap ∨ a.off + cap * sg.esz ≤ sg.room)) ∨ (n = 0 ∧ cap = 0 ∧ c = 0) := by
              obtain ⟨ab, ao, asp⟩ := a
              cases hs with
              | v _ _ hs =>
                cases hs with
                | slice _ _ _ _ _ sg hsg _ _ hr => exact .inl ⟨sg, hsg, rfl, hr⟩
                | tail _ _ _ _ ha hh =>
                  rcases hh with h0 | ⟨sg, h1, h2, h3⟩
                  · exact .inr ⟨rfl, h0, rfl⟩
                  · exact .inl ⟨sg, h1, h2, .inr h3⟩
              | slice => exact absurd rfl hspot
            have olds : ∃ os, VL ρ old os ∧ ∀ d, (Builtin.firstCells i.size n (.slice (some ca) n cap)).run P { w with drawn := d } = .ok ⟨os⟩ { w with drawn := d } := by
              rcases shape with ⟨sg, q1, q2, _⟩ | ⟨q1, q2, _⟩
              · rw [q2]; exact dest_cells hR q1 hob hg
              · subst q1
                have : old = [] := List.length_eq_zero_iff.1 (by rw [hol, Nat.zero_mul])
                subst this
                exact ⟨[], .nil, fun d => by simp [Builtin.firstCells, loadCells, loadCellsFrom]⟩
            obtain ⟨os, os1, os2⟩ := olds
            have hlen : (old ++ new).length = (n + k) * i.size := by rw [List.length_append, hol, src.size, Nat.add_mul]
            cases hx : (Nat.blt 0 c && Nat.blt (c - 1) (n + k))
            · simp only [hx, cond_false] at hev
              cases hq : (!ro && Nat.beq i.size esz' && Nat.beq (a.off + n * i.size) vs.length && new.all oneCell)
              · simp [hq] at hev
              simp only [hq, cond_true, Option.some.injEq] at hev; subst hev
              simp only [Bool.and_eq_true, Bool.not_eq_true'] at hq
              obtain ⟨⟨⟨hro, he⟩, hend⟩, hone⟩ := hq
              have he := Nat.eq_of_beq_eq_true he
              have hend := Nat.eq_of_beq_eq_true hend
              subst hro; subst he
              refine ⟨_, _, _, rfl, ?_⟩
              by_cases hfit : n + k ≤ cap
              · -- it stays where it is
                rcases shape with ⟨sg, q1, q2, q3⟩ | ⟨q1, q2, _⟩
                · obtain ⟨bs, elem, fr, p1, p2, p3, p4, p5, p6⟩ := block_elem hR hob q1
                  have q4 : a.off + cap * i.size ≤ sg.room := by
                    rcases q3 with q3 | q3
                    · omega
                    · rw [p5] at q3; exact q3
                  have hcapm : (n + k) * i.size ≤ cap * i.size := Nat.mul_le_mul_right _ hfit
                  have hnk : (n + k) * i.size = n * i.size + k * i.size := Nat.add_mul _ _ _
                  have hsl := sc2.length
                  obtain ⟨w', r1, r2, r3⟩ := run_storeCells (P := P) scs w bs (sg.base + a.off + n * i.size) 0 (p2 rfl).1 p1 (allOne sc2 hone) (by rw [← hsl, src.size]; omega)
                  have hrun : (Builtin.append_ #[t, u] ty #[.slice (some ca) n cap, cx]).run P w = .ok (.slice (some ca) (n + k) cap) w' := by
                    rw [run_append_fit (base := some ca) ht hu hd hz' src.len (by simpa using sc1 w.drawn) hfit, q2]
                    simp only [addr_add, r1, Result.andThen_ok]
                  let sg' : Seg := ⟨sg.b, sg.base + a.off, sg.room - a.off, i.size⟩
                  have hok : objOk (fun j => if j = h.nx then some sg' else ρ j) w' sg' (.cells false i.size (old ++ new)) := by
                    refine ⟨_, elem, fr, r3, fun _ => by rw [length_setRange]; exact p2 rfl |>.imp id (fun q e0 => q e0), by rw [length_setRange]; show sg.base + a.off + (sg.room - a.off) ≤ _; omega, ?_, rfl, ?_⟩
                    · rw [hlen]; show _ ≤ sg.room - a.off; omega
                    · show VL _ (old ++ new) (((setRange bs (sg.base + a.off + n * i.size + 0) scs).drop (sg.base + a.off)).take (old ++ new).length)
                      rw [Nat.add_zero, setRange_drop, hlen, hnk, ← src.size, hsl, setRange_app _ _ _ (by rw [List.length_drop, ← hsl, src.size]; omega)]
                      refine VL.append (VL.mono (ext_alloc hR sg') ?_) (sc2.mono (ext_alloc hR sg'))
                      obtain ⟨g1, g2⟩ := getRange_spec hg
                      have hsub := (p6.drop a.off).take (n * i.size)
                      rw [← g1] at hsub
                      have : ((((bs.drop sg.base).take vs.length).drop a.off).take (n * i.size)) = (bs.drop (sg.base + a.off)).take (n * i.size) := by
                        apply List.ext_getElem?
                        intro j
                        simp only [List.getElem?_take, List.getElem?_drop]
                        by_cases hj : j < n * i.size
                        · simp only [hj, if_true]
                          rw [if_pos (by omega), Nat.add_assoc]
                        · simp [hj]
                      rw [this] at hsub; exact hsub
                  have hR' := hR.move (w' := w') (s' := sg') hob q1 rfl rfl r2.heap hok
                  have st := stp_move (w' := w') (s' := sg') (o' := .cells false i.size (old ++ new)) hR hob q1 rfl rfl rfl r2 (fun _ => none)
                  refine ⟨_, w', _, π, hrun, hR', hP.step hR hR' st (fun _ => rfl), st.lift (fun _ => rfl) π, PiOk.refl _ _, fun v hv => ?_⟩
                  cases hv
                  refine .v _ _ ?_
                  have := V.slice (ρ := fun j => if j = h.nx then some sg' else ρ j) h.nx 0 (n + k) 0 cap sg' (by simp) hfit (.inl rfl) (.inr (by show 0 + cap * i.size ≤ sg.room - a.off; omega))
                  rw [q2]; exact this
                · omega
              · -- it moves
                obtain ⟨nc, rest, q1, q2, q3⟩ := run_append_grow' (ty := ty) (base := some ca) (w := w) ht hu hd hi hz hsz hby src.len os2 sc1 (by omega) hb
                have hR1 := hR.erase a.block
                have st1 := stp_erase ρ (fun _ => none) h w a.block
                exact v_append_new hR hP _ hR1 (hP.step hR hR1 st1 (fun _ => rfl)) (st1.lift (fun _ => rfl) π) hpos q3 os1 sc2 hlen q1 q2
            · -- the capacity is known, and too small
              simp only [hx, cond_true, Option.some.injEq] at hev; subst hev
              simp only [Bool.and_eq_true] at hx
              have hx1 : 0 < c := Nat.le_of_ble_eq_true hx.1
              have hx2 : c - 1 < n + k := Nat.le_of_ble_eq_true hx.2
              obtain ⟨nc, rest, q1, q2, q3⟩ := run_append_grow' (ty := ty) (base := some ca) (w := w) ht hu hd hi hz hsz hby src.len os2 sc1 (by omega) hb
              exact ⟨_, _, _, rfl, v_append_new hR hP h hR hP (Stp.refl _ _ _ _) hpos q3 os1 sc2 hlen q1 q2⟩
        · simp at hev
  | _ => simp [evAppend] at hev
end
end Cw
