/-
  Structs and slices built, make, append, copy, clear; bytes to a string.
-/
import Derived.Test.YtmmlgodbknhijaaGreatDoorCwW
namespace Cw
open Go

section
variable {P : Program} {ρ : Rho} {π : Pi} {pb : PB} {h : AH} {w : World}

inductive FL (ρ : Rho) (π : Pi) (pb : PB) : List Value → List Value → Prop where
  | nil : FL ρ π pb [] []
  | cons (x c : Value) (xs cs : List Value) (h : FV ρ π pb x c) (hs : FL ρ π pb xs cs) : FL ρ π pb (x :: xs) (c :: cs)
theorem OL.all {xs : List (Option Value)} {cs vs : List Value} (h : OL ρ π pb xs cs) (hv : allSome xs = some vs) : FL ρ π pb vs cs := by
  induction h generalizing vs with
  | nil => simp [allSome] at hv; subst hv; exact .nil
  | cons x c xs cs h hs ih =>
    cases x with
    | none => simp [allSome] at hv
    | some x =>
      simp only [allSome] at hv
      cases hq : allSome xs with
      | none => simp [hq] at hv
      | some us =>
        simp only [hq, Option.some.injEq] at hv; subst hv
        exact .cons x c us cs (h x rfl) (ih hq)
theorem FL.noLocs {vs cs : List Value} (h : FL ρ π pb vs cs) (hn : Cw.noLocs vs = true) : VL ρ vs cs := by
  induction h with
  | nil => exact .nil
  | cons x c xs cs h hs ih =>
    simp only [Cw.noLocs, Bool.and_eq_true, Bool.not_eq_true'] at hn
    exact .cons _ _ _ _ (h.of_noLoc hn.1) (ih hn.2)
theorem FL.length {vs cs : List Value} (h : FL ρ π pb vs cs) : vs.length = cs.length := by
  induction h with
  | nil => rfl
  | cons _ _ _ _ _ _ ih => simp [ih]

/-- the model's 'fill' is the evaluator's 'putParts' -/
theorem foldl_setRange (off : Nat) : ∀ (vs : List Value) (k : Nat) (cs : List Value),
    (vs.zipIdx k).foldl (fun (a : Array Value) (p : Value × Nat) => a.setIfInBounds (off + p.2) p.1) ⟨cs⟩ = ⟨setRange cs (off + k) vs⟩
  | [], _, _ => rfl
  | v :: vs, k, cs => by
    simp only [List.zipIdx_cons, List.foldl_cons, setRange]
    have : (Array.setIfInBounds ⟨cs⟩ (off + k) v) = (⟨cs.set (off + k) v⟩ : Array Value) := by simp [List.setIfInBounds_toArray]
    rw [this, foldl_setRange off vs (k + 1)]; rfl
theorem fill_put (place : Nat → Option (Nat × Nat)) : ∀ (ids : List Nat) (pl : List (Nat × Nat)) (vs cvs : List Value) (cs ds cs' : List Value), FL ρ π pb vs cvs → VL ρ cs ds →
    ids.length = pl.length → (∀ (k : Nat) (i : Nat) (p : Nat × Nat), ids[k]? = some i → pl[k]? = some p → place i = some p) → putParts cs pl vs = some cs' →
    ∃ ds', Instr.fill place ⟨ds⟩ (ids.zip cvs) = some ⟨ds'⟩ ∧ VL ρ cs' ds'
  | [], [], vs, cvs, cs, ds, cs', hf, hv, _, _, hp => by
    cases hf with
    | nil => simp [putParts] at hp; subst hp; exact ⟨ds, rfl, hv⟩
    | cons => simp [putParts] at hp
  | [], _ :: _, _, _, _, _, _, _, _, hl, _, _ => by simp at hl
  | _ :: _, [], _, _, _, _, _, _, _, hl, _, _ => by simp at hl
  | i :: ids, (off, sz) :: pl, vs, cvs, cs, ds, cs', hf, hv, hl, hpl, hp => by
    cases hf with
    | nil => simp [putParts] at hp
    | cons v c us ds' hvc hs =>
      simp only [putParts] at hp
      cases hb : (Nat.beq (cellsL v).length sz && Nat.ble (off + sz) cs.length && !isLoc v)
      · simp only [hb, cond_false] at hp; simp at hp
      · simp only [hb, cond_true] at hp
        simp only [Bool.and_eq_true, Bool.not_eq_true'] at hb
        obtain ⟨⟨h1, h2⟩, h3⟩ := hb
        have h1 := Nat.eq_of_beq_eq_true h1
        have h2 := Nat.le_of_ble_eq_true h2
        have hvv := (hvc.of_noLoc h3)
        have hcl := hvv.cells
        have hlen := hcl.length
        have hlen2 := hv.length
        obtain ⟨r, g1, g2⟩ := fill_put place ids pl us ds' (setRange cs off (cellsL v)) (setRange ds off (cellsL c)) cs' hs (hv.setRange' hcl off) (by simpa using hl)
          (fun k i p a b => hpl (k + 1) i p (by simpa using a) (by simpa using b)) hp
        refine ⟨r, ?_, g2⟩
        have hpi : place i = some (off, sz) := hpl 0 i (off, sz) rfl rfl
        have hsz : c.cells.size = sz := by rw [Value.cells_eq]; simp; omega
        simp only [List.zip_cons_cons, Instr.fill, hpi, hsz]
        rw [if_neg (by simp; omega)]
        have : (c.cells.zipIdx.foldl (fun cs (x : Value × Nat) => cs.setIfInBounds (off + x.2) x.1) (⟨ds⟩ : Array Value)) = ⟨setRange ds off (cellsL c)⟩ := by
          rw [Value.cells_eq, ← Array.foldl_toList]
          have := foldl_setRange off (cellsL c) 0 ds
          simpa using this
        rw [show (fun (x : Array Value) (x_1 : Value × Nat) => match x_1 with | (c, j) => x.setIfInBounds (off + j) c) = fun (x : Array Value) (x_1 : Value × Nat) => x.setIfInBounds (off + x_1.2) x_1.1 from rfl, this]
        exact g1

theorem run_mapM_list {α β : Type} (f : α → Sem β) (g : α → β) : ∀ (l : List α), (∀ x ∈ l, ∀ w, (f x).run P w = .ok (g x) w) → ∀ w, (l.mapM f).run P w = .ok (l.map g) w
  | [], _, w => by simp
  | x :: l, hx, w => by
    simp only [List.mapM_cons, Sem.run_bind, hx x (by simp) w, Result.andThen_ok, run_mapM_list f g l (fun y hy => hx y (by simp [hy])) w, Sem.run_pure, List.map_cons]
theorem run_mapM_arr {α β : Type} (f : α → Sem β) (g : α → β) (a : Array α) (hx : ∀ x ∈ a.toList, ∀ w, (f x).run P w = .ok (g x) w) (w : World) :
    (a.mapM f).run P w = .ok ⟨a.toList.map g⟩ w := by
  obtain ⟨l⟩ := a
  have : (Array.mapM f (⟨l⟩ : Array α)) = List.toArray <$> l.mapM f := List.mapM_toArray
  rw [this, Sem.run_map, run_mapM_list f g l hx w]; rfl

theorem structPlaces_spec {fs : Array Field} : ∀ {ids : List Nat} {pl : List (Nat × Nat)}, structPlaces P fs ids = some pl → ids.length = pl.length ∧
    ∀ (k : Nat) (i : Nat) (p : Nat × Nat), ids[k]? = some i → pl[k]? = some p → ∃ f, fs[i]? = some f ∧ szOf P f.type = some p.2 ∧ p.1 = f.offset
  | [], pl, h => by simp [structPlaces] at h; subst h; exact ⟨rfl, fun k i p hi => by simp at hi⟩
  | i :: is, pl, h => by
    simp only [structPlaces] at h
    cases hf : fs[i]? with
    | none => simp [hf] at h
    | some f =>
      cases hz : szOf P f.type with
      | none => simp [hf, hz] at h
      | some z =>
        cases hr : structPlaces P fs is with
        | none => simp [hf, hz, hr] at h
        | some r =>
          simp only [hf, hz, hr, Option.some.injEq] at h; subst h
          obtain ⟨g1, g2⟩ := structPlaces_spec hr
          refine ⟨by simp [g1], fun k j p hj hp => ?_⟩
          cases k with
          | zero => simp at hj hp; subst hj; subst hp; exact ⟨f, hf, hz, rfl⟩
          | succ k => exact g2 k j p (by simpa using hj) (by simpa using hp)

theorem v_buildStruct (hR : R ρ h w) (hP : RP ρ π h pb w) {t : TypeId} {z : Value} {fs : Array Field} {ids : List Nat} {pl : List (Nat × Nat)} {vs cvs cs : List Value}
    (hz : zeroOf P t = some z) (ht : P.underlying t = some (.struct fs)) (hall : fs.toList.all (fun f => (szOf P f.type).isSome) = true) (hpl : structPlaces P fs ids = some pl)
    (hf : FL ρ π pb vs cvs) (hp : putParts (cellsL z) pl vs = some cs) (parts : Array (Nat × Value)) (hparts : parts.toList = ids.zip cvs) :
    ValOk ρ π pb h w ((Instr.build t parts).run P w) (some (.agg ⟨cs⟩)) pb h := by
  obtain ⟨z1, z2⟩ := run_zeroValue hz w
  obtain ⟨p1, p2⟩ := structPlaces_spec hpl
  let g : Field → Nat × Nat := fun f => (f.offset, (szOf P f.type).getD 0)
  have hmap : (fs.mapM (fun f => do pure (f.offset, ← Go.sizeOf f.type) : Field → Sem (Nat × Nat))).run P w = .ok ⟨fs.toList.map g⟩ w := by
    refine run_mapM_arr _ g fs (fun f hf w => ?_) w
    have := List.all_eq_true.1 hall f hf
    cases hq : szOf P f.type with
    | none => simp [hq] at this
    | some k => simp [run_sizeOf hq, g, hq]
  obtain ⟨ds, g1, g2⟩ := fill_put (fun i => (⟨fs.toList.map g⟩ : Array (Nat × Nat))[i]?) ids pl vs cvs (cellsL z) (cellsL z) cs hf (V.of_scal ρ z z2).cells p1 (fun k i p hi hpk => by
    obtain ⟨f, q1, q2, q3⟩ := p2 k i p hi hpk
    have : fs.toList[i]? = some f := by simpa using q1
    simp only [List.getElem?_toArray, List.getElem?_map, this, Option.map_some, g, q2, Option.getD_some, Option.some.injEq]
    exact Prod.ext q3.symm rfl) hp
  refine ValOk.sameV hR hP (.agg ⟨ds⟩) ?_ (.agg _ _ g2)
  have hzc : z.cells = ⟨cellsL z⟩ := Value.cells_eq z
  simp only [Instr.build, Sem.run_bind, z1, Result.andThen_ok, run_underlying ht, hmap, hparts, hzc, g1, Sem.run_pure]

theorem v_buildArr (hR : R ρ h w) (hP : RP ρ π h pb w) {t e : TypeId} {n sz : Nat} {z : Value} {ids : List Nat} {vs cvs cs : List Value}
    (hz : zeroOf P t = some z) (ht : P.underlying t = some (.array n e)) (hs : szOf P e = some sz)
    (hf : FL ρ π pb vs cvs) (hp : putParts (cellsL z) (ids.map fun i => (i * sz, sz)) vs = some cs) (parts : Array (Nat × Value)) (hparts : parts.toList = ids.zip cvs) :
    ValOk ρ π pb h w ((Instr.build t parts).run P w) (some (.agg ⟨cs⟩)) pb h := by
  obtain ⟨z1, z2⟩ := run_zeroValue hz w
  obtain ⟨ds, g1, g2⟩ := fill_put (fun i => some (i * sz, sz)) ids (ids.map fun i => (i * sz, sz)) vs cvs (cellsL z) (cellsL z) cs hf (V.of_scal ρ z z2).cells (by simp) (fun k i p hi hpk => by
    simp only [List.getElem?_map, hi, Option.map_some, Option.some.injEq] at hpk
    rw [hpk]) hp
  refine ValOk.sameV hR hP (.agg ⟨ds⟩) ?_ (.agg _ _ g2)
  have hzc : z.cells = ⟨cellsL z⟩ := Value.cells_eq z
  simp only [Instr.build, Sem.run_bind, z1, Result.andThen_ok, run_underlying ht, run_sizeOf hs, hparts, hzc, g1, Sem.run_pure]

/-- so many times the zero's cells, as the model lays them -/
theorem range_cells (zs : List Value) : ∀ (n : Nat), zs ≠ [] → ((Array.range (n * zs.length)).map (fun i => (⟨zs⟩ : Array Value)[i % (⟨zs⟩ : Array Value).size]!)).toList = (List.replicate n zs).flatten := by
  intro n hne
  have hpos : 0 < zs.length := List.length_pos_iff.2 hne
  apply List.ext_getElem?
  intro i
  have hfl : ((List.replicate n zs).flatten).length = n * zs.length := by simp
  have key : ∀ n i, i < n * zs.length → ((List.replicate n zs).flatten)[i]? = zs[i % zs.length]? := by
    intro n
    induction n with
    | zero => intro i hi; simp at hi
    | succ n ih =>
      intro i hi
      simp only [List.replicate_succ, List.flatten_cons]
      by_cases h1 : i < zs.length
      · rw [List.getElem?_append_left h1, Nat.mod_eq_of_lt h1]
      · rw [List.getElem?_append_right (by omega), ih (i - zs.length) (by rw [Nat.succ_mul] at hi; omega)]
        congr 1
        rw [Nat.mod_eq_sub_mod (a := i) (by omega)]
  by_cases hi : i < n * zs.length
  · rw [key n i hi]
    have hm : i % zs.length < zs.length := Nat.mod_lt _ hpos
    simp only [Array.toList_map, Array.toList_range, List.getElem?_map, List.getElem?_range hi, Option.map_some, List.size_toArray]
    rw [List.getElem?_eq_getElem hm]
    congr 1
    exact getElem!_pos (⟨zs⟩ : Array Value) (i % zs.length) hm
  · rw [List.getElem?_eq_none (by simpa using hi), List.getElem?_eq_none (by rw [hfl]; omega)]

theorem run_buildSlice {t e : TypeId} {n sz : Nat} {z : Value} {ids : List Nat} {vs cvs cs : List Value}
    (ht : P.underlying t = some (.slice e)) (hs : szOf P e = some sz) (hz : zeroOf P e = some z) (hsz : (cellsL z).length = sz) (hpos : 0 < n * sz) (hlim : n * sz ≤ 1048576)
    (hf : FL ρ π pb vs cvs) (hp : putParts ((List.replicate n (cellsL z)).flatten) (ids.map fun i => (i * sz, sz)) vs = some cs) (parts : Array (Nat × Value)) (hparts : parts.toList = ids.zip cvs) (w : World) :
    ∃ ds, VL ρ cs ds ∧ (Instr.buildSlice t n parts).run P w = .ok (.slice (some ⟨w.heap.size, 0, none⟩) n n) (w.alloc (.cells ⟨ds⟩ e)) := by
  obtain ⟨z1, z2⟩ := run_zeroValue hz w
  have hne : cellsL z ≠ [] := fun e0 => by rw [e0] at hsz; simp at hsz; subst hsz; simp at hpos
  have hzs : ∀ n, VL ρ ((List.replicate n (cellsL z)).flatten) ((List.replicate n (cellsL z)).flatten) := by
    intro n
    induction n with
    | zero => exact .nil
    | succ n ih => simp only [List.replicate_succ, List.flatten_cons]; exact (V.of_scal ρ z z2).cells.append ih
  obtain ⟨ds, g1, g2⟩ := fill_put (fun i => some (i * sz, sz)) ids (ids.map fun i => (i * sz, sz)) vs cvs _ _ cs hf (hzs n) (by simp) (fun k i p hi hpk => by
    simp only [List.getElem?_map, hi, Option.map_some, Option.some.injEq] at hpk
    rw [hpk]) hp
  refine ⟨ds, g2, ?_⟩
  have hr := range_cells (cellsL z) n hne
  rw [hsz] at hr
  have hr' : (Array.range (n * sz)).map (fun i => (z.cells)[i % z.cells.size]!) = ⟨(List.replicate n (cellsL z)).flatten⟩ := by
    rw [← hr, Value.cells_eq]
  have h24 : ¬ n * sz > 2 ^ 24 := by omega
  have h0 : ¬ n * sz = 0 := by omega
  simp only [Instr.buildSlice, Sem.run_bind, run_underlying ht, Result.andThen_ok, run_sizeOf hs, h24, if_false, h0, z1, Sem.run_pure]
  rw [hr', hparts, g1]
  simp [newRow]
end
end Cw
