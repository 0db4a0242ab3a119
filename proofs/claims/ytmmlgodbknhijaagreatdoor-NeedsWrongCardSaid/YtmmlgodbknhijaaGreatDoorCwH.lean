/-
  What the model's own words do on memory that is related to the abstract heap: blocks made, cells read and written.
-/
import Derived.Test.YtmmlgodbknhijaaGreatDoorCwR
namespace Cw
open Go

structure SameBut (w w' : World) (b : Nat) : Prop where
  size : w'.heap.size = w.heap.size
  os : w'.os = w.os
  tape : w'.tape = w.tape
  output : w'.output = w.output
  heap : ∀ k, k ≠ b → w'.heap[k]? = w.heap[k]?
theorem SameBut.refl (w : World) (b : Nat) : SameBut w w b := ⟨rfl, rfl, rfl, rfl, fun _ _ => rfl⟩
theorem SameBut.trans {a b c : World} {k : Nat} (h : SameBut a b k) (g : SameBut b c k) : SameBut a c k :=
  ⟨g.size.trans h.size, g.os.trans h.os, g.tape.trans h.tape, g.output.trans h.output, fun i hi => (g.heap i hi).trans (h.heap i hi)⟩

theorem lt_of_heap {w : World} {b : Nat} {o : Obj} (h : w.heap[b]? = some o) : b < w.heap.size := by
  rcases Nat.lt_or_ge b w.heap.size with k | k
  · exact k
  · rw [Array.getElem?_eq_none k] at h; simp at h
theorem heap_push_lt (w : World) (o : Obj) (k : Nat) (h : k < w.heap.size) : (w.alloc o).heap[k]? = w.heap[k]? := by
  show (w.heap.push o)[k]? = _
  rw [Array.getElem?_push, if_neg (by omega)]
theorem heap_push_new (w : World) (o : Obj) : (w.alloc o).heap[w.heap.size]? = some o := by
  show (w.heap.push o)[w.heap.size]? = _
  simp
theorem cell_at {w : World} {b o : Nat} {cs : List Value} {elem : TypeId} {fr : Nat × Nat} (h : w.heap[b]? = some (.cells ⟨cs⟩ elem fr)) :
    w.cell? ⟨b, o, none⟩ = cs[o]? := by
  simp [World.cell?, h]
theorem frozen_at {w : World} {b o : Nat} {cs : List Value} {elem : TypeId} {fr : Nat × Nat} (h : w.heap[b]? = some (.cells ⟨cs⟩ elem fr)) (hf : unfrozen cs.length fr) (ho : o < cs.length) :
    w.frozen? ⟨b, o, none⟩ = false := by
  obtain ⟨lo, hi⟩ := fr
  simp only [World.frozen?, h]
  have := hf o ho
  by_cases h1 : lo ≤ o
  · have h2 : ¬ o < hi := fun h2 => this ⟨h1, h2⟩
    simp [h2]
  · simp [h1]
theorem setCell_at {w : World} {b o : Nat} {cs : List Value} {elem : TypeId} {fr : Nat × Nat} (h : w.heap[b]? = some (.cells ⟨cs⟩ elem fr)) (v : Value) :
    SameBut w (w.setCell ⟨b, o, none⟩ v) b ∧ (w.setCell ⟨b, o, none⟩ v).heap[b]? = some (.cells ⟨cs.set o v⟩ elem fr) := by
  refine ⟨⟨by simp [World.setCell], rfl, rfl, rfl, fun k hk => ?_⟩, ?_⟩
  · simp only [World.setCell, Array.getElem?_modify]
    rw [if_neg (by omega)]
  · simp only [World.setCell, Array.getElem?_modify, if_true]
    rw [h]
    simp [List.setIfInBounds_toArray]

theorem Value.cells_cellsL (v : Value) : v.cells.toList = cellsL v := by cases v <;> rfl
theorem Value.cells_eq (v : Value) : v.cells = ⟨cellsL v⟩ := by cases v <;> rfl

section
variable {P : Program}
theorem run_isAgg {t : TypeId} {sz : Option Nat} (h : aggSz P t = some sz) (w : World) : (isAgg t).run P w = .ok sz.isSome w := by
  unfold aggSz at h
  split at h <;> first
    | (simp at h; done)
    | (rename_i h1 h2; simp at h; subst h; simp [isAgg, run_underlying h2])
    | skip
end

section
variable {P : Program}
theorem aggSz_info {t : TypeId} {n : Nat} (h : aggSz P t = some (some n)) : ∃ i, P.info? t = some i ∧ i.size = n := by
  unfold aggSz at h
  split at h
  all_goals first
    | (simp at h; done)
    | (rename_i i _ h1 _; simp at h; exact ⟨_, h1, h⟩)
    | (rename_i h1 _; simp at h; exact ⟨_, h1, h⟩)
theorem run_sizeOf {t : TypeId} {n : Nat} (h : szOf P t = some n) (w : World) : (Go.sizeOf t).run P w = .ok n w := by
  unfold szOf at h
  cases hi : P.info? t with
  | none => simp [hi] at h
  | some i => simp [hi] at h; subst h; simp [Go.sizeOf, typeInfo, hi]
theorem run_typeInfo {t : TypeId} {i : TypeInfo} (h : P.info? t = some i) (w : World) : (typeInfo t).run P w = .ok i w := by
  simp [typeInfo, h]
theorem run_zeroValue {t : TypeId} {z : Value} (h : zeroOf P t = some z) (w : World) : (zeroValue t).run P w = .ok z w ∧ scal z = true := by
  unfold zeroOf at h
  cases hi : P.info? t with
  | none => simp [hi] at h
  | some i =>
    cases hz : i.zero with
    | none => simp [hi, hz] at h
    | some y =>
      cases hs : scal y with
      | false => simp [hi, hz, hs] at h
      | true => simp [hi, hz, hs] at h; subst h; exact ⟨by simp [zeroValue, typeInfo, hi, hz], hs⟩

theorem getRange_spec {cs : List Value} {off n : Nat} {r : List Value} (h : getRange cs off n = some r) : r = (cs.drop off).take n ∧ r.length = n := by
  unfold getRange at h
  cases hb : Nat.beq ((cs.drop off).take n).length n
  · simp only [hb, cond_false] at h; simp at h
  · simp only [hb, cond_true, Option.some.injEq] at h
    subst h; exact ⟨rfl, Nat.eq_of_beq_eq_true hb⟩
theorem addr_add (b o i : Nat) : Addr.add ⟨b, o, none⟩ i = ⟨b, o + i, none⟩ := by
  unfold Addr.add; split
  · simp [*]
  · rfl
theorem run_loadCells_at {w : World} {b o n : Nat} {cs r : List Value} {elem : TypeId} {fr : Nat × Nat} (h : w.heap[b]? = some (.cells ⟨cs⟩ elem fr))
    (hr : getRange cs o n = some r) : (loadCells ⟨b, o, none⟩ n).run P w = .ok ⟨r⟩ w := by
  obtain ⟨h1, h2⟩ := getRange_spec hr
  have := run_loadCells_list (P := P) w ⟨b, o, none⟩ r (fun j v hj => by
    rw [addr_add, cell_at h]
    rw [h1, List.getElem?_take] at hj
    split at hj
    · rw [List.getElem?_drop] at hj; exact hj
    · simp at hj)
  rw [h2] at this
  simpa using this
theorem run_loadVar {w : World} {t : TypeId} {sz : Option Nat} {b o : Nat} {cs : List Value} {elem : TypeId} {fr : Nat × Nat} {v : Value}
    (hs : aggSz P t = some sz) (h : w.heap[b]? = some (.cells ⟨cs⟩ elem fr)) (hr : readCells cs o sz = some v) : (loadVar t ⟨b, o, none⟩).run P w = .ok v w := by
  cases sz with
  | none =>
    simp only [readCells] at hr
    simp [loadVar, run_isAgg hs, cell_at h, hr]
  | some n =>
    simp only [readCells, Option.map_eq_some_iff] at hr
    obtain ⟨r, hr, rfl⟩ := hr
    obtain ⟨i, hi, hn⟩ := aggSz_info hs
    have hz : szOf P t = some n := by simp [szOf, hi, hn]
    simp [loadVar, run_isAgg hs, run_sizeOf hz, run_loadCells_at h hr]

theorem length_setRange : ∀ (ns cs : List Value) (o : Nat), (setRange cs o ns).length = cs.length
  | [], _, _ => rfl
  | v :: vs, cs, o => by simp [setRange, length_setRange vs]
theorem setRange_drop : ∀ (ns cs : List Value) (b o : Nat), (setRange cs (b + o) ns).drop b = setRange (cs.drop b) o ns
  | [], _, _, _ => rfl
  | v :: vs, cs, b, o => by
    simp only [setRange]
    rw [show b + o + 1 = b + (o + 1) from by omega, setRange_drop vs]
    congr 1
    apply List.ext_getElem?
    intro i
    simp only [List.getElem?_drop, List.getElem?_set, List.length_drop]
    by_cases hc : o = i
    · subst hc; simp
      by_cases h2 : b + o < cs.length
      · simp [h2, show o < cs.length - b by omega]
      · simp [h2, show ¬ o < cs.length - b by omega]
    · simp [hc]
theorem setRange_take : ∀ (ns cs : List Value) (o n : Nat), (setRange cs o ns).take n = setRange (cs.take n) o ns
  | [], _, _, _ => rfl
  | v :: vs, cs, o, n => by
    simp only [setRange]
    rw [setRange_take vs, List.take_set]
theorem VL.setRange {ρ : Rho} {ns ns' : List Value} (hn : VL ρ ns ns') : ∀ {a b : List Value} (o : Nat), VL ρ a b → VL ρ (Cw.setRange a o ns) (Cw.setRange b o ns') :=
  match hn with
  | .nil => fun _ h => h
  | .cons _ _ _ _ h hs => fun o k => VL.setRange hs (o + 1) (k.set o h)

theorem oneCell_eq (v : Value) : oneCell v = v.oneCell' := by cases v <;> rfl
theorem run_storeCells {elem : TypeId} {fr : Nat × Nat} {b : Nat} : ∀ (ns : List Value) (w : World) (cs : List Value) (o i : Nat), unfrozen cs.length fr →
    w.heap[b]? = some (.cells ⟨cs⟩ elem fr) → ns.all oneCell = true → o + i + ns.length ≤ cs.length →
    ∃ w', (storeCells ⟨b, o, none⟩ ns i).run P w = .ok () w' ∧ SameBut w w' b ∧ w'.heap[b]? = some (.cells ⟨setRange cs (o + i) ns⟩ elem fr)
  | [], w, cs, o, i, _, h, _, _ => ⟨w, by simp [storeCells], SameBut.refl _ _, h⟩
  | v :: vs, w, cs, o, i, hf, h, ha, hl => by
    simp only [List.all_cons, Bool.and_eq_true] at ha
    simp only [List.length_cons] at hl
    have hc : w.cell? ⟨b, o + i, none⟩ = cs[o + i]? := cell_at h
    have hg : cs[o + i]? = some cs[o + i] := List.getElem?_eq_getElem (by omega)
    obtain ⟨s1, s2⟩ := setCell_at h (o := o + i) v
    obtain ⟨w', r1, r2, r3⟩ := run_storeCells vs (w.setCell ⟨b, o + i, none⟩ v) (cs.set (o + i) v) o (i + 1) (by simpa using hf) s2 ha.2 (by simp; omega)
    refine ⟨w', ?_, s1.trans r2, ?_⟩
    · have hv : v.oneCell' = true := by rw [← oneCell_eq]; exact ha.1
      simp only [storeCells, Sem.run_bind, addr_add]
      rw [run_store P w _ v _ hv, hc, hg]
      simp only [frozen_at h hf (show o + i < cs.length by omega), Bool.false_eq_true, if_false, Result.andThen_ok]
      exact r1
    · rw [r3]; rfl
theorem run_storeVar {w : World} {t : TypeId} {n : Nat} {b o : Nat} {cs : List Value} {elem : TypeId} {fr : Nat × Nat} {v : Value}
    (hs : szOf P t = some n) (h : w.heap[b]? = some (.cells ⟨cs⟩ elem fr)) (hf : unfrozen cs.length fr) (hn : (cellsL v).length = n) (ha : (cellsL v).all oneCell = true)
    (hl : o + n ≤ cs.length) :
    ∃ w', (storeVar t ⟨b, o, none⟩ v).run P w = .ok () w' ∧ SameBut w w' b ∧ w'.heap[b]? = some (.cells ⟨setRange cs o (cellsL v)⟩ elem fr) := by
  obtain ⟨w', r1, r2, r3⟩ := run_storeCells (P := P) (cellsL v) w cs o 0 hf h ha (by omega)
  refine ⟨w', ?_, r2, by simpa using r3⟩
  have : v.cells.size = n := by rw [← hn, ← Value.cells_cellsL]; simp
  simp [storeVar, run_sizeOf hs, this, Value.cells_cellsL, r1]
end
end Cw
