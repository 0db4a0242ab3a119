/-
  The row of the program's function 4.
-/
import Derived.Test.YtmmlgodbknhijaaGreatDoorCwLaw
import Derived.Test.YtmmlgodbknhijaaGreatDoorRows
import Derived.ChangeSame
import Derived.ChangeVars
import Derived.JoinedOf
import Derived.RowKit
import Derived.RowKitTokens
import Derived.LaidLaws
import Derived.LaidHandle
import Derived.Stop.Joined
import Derived.Lay
import Derived.Carry
namespace CwT
open Go Cw Go.Proofs
set_option maxRecDepth 100000

theorem cell_int {W : World} {b : Nat} {v : Value} (h : Cell.okWide prog W .any b 3 v) : ∃ n, v = .int .i64 n := by
  simp only [Cell.okWide, Tryz.underlying3] at h
  cases v <;> simp_all [Cell.ok, Tryz.underlying3]
theorem cell_string {W : World} {b : Nat} {v : Value} (h : Cell.okWide prog W .any b 9 v) : ∃ l : List UInt8, v = .string ⟨⟨l⟩⟩ := by
  have : ∃ s, v = .string s := by
    simp only [Cell.okWide, Tryz.underlying9] at h
    cases v <;> simp_all [Cell.ok, Tryz.underlying9]
  obtain ⟨⟨⟨l⟩⟩, rfl⟩ := this
  exact ⟨l, rfl⟩
theorem list6 {α : Type} {l : List α} (h : l.length = 6) : ∃ a b c d e f, l = [a, b, c, d, e, f] := by
  match l, h with
  | [a, b, c, d, e, f], _ => exact ⟨a, b, c, d, e, f, rfl⟩
theorem list3 {α : Type} {l : List α} (h : l.length = 3) : ∃ a b c, l = [a, b, c] := by
  match l, h with
  | [a, b, c], _ => exact ⟨a, b, c, rfl⟩
theorem types58 : prog.cellTypes prog.depth 58 = some [3, 9, 9, 3, 3, 9] := by kernel_rfl
theorem types24 : prog.cellTypes prog.depth 24 = some [3, 3, 3] := by kernel_rfl
theorem cells58 : prog.cellsOf 58 = 6 := by kernel_rfl
theorem cells24 : prog.cellsOf 24 = 3 := by kernel_rfl
theorem shape58 {W : World} {b : Nat} {v : Value} (h : Value.okWide prog W .any b 58 v) : ∃ k o l p q d, v = opV k o l p q d := by
  simp only [Value.okWide, Tryz.underlying58] at h
  obtain ⟨⟨cs⟩, rfl, hsz, ts, hts, _, hel⟩ := h
  obtain rfl := Option.some.inj (types58.symm.trans hts)
  rw [cells58] at hsz
  obtain ⟨a0, a1, a2, a3, a4, a5, rfl⟩ := list6 (show cs.length = 6 from hsz)
  obtain ⟨_, e0, c0⟩ := hel 0 a0 rfl
  obtain ⟨_, e1, c1⟩ := hel 1 a1 rfl
  obtain ⟨_, e2, c2⟩ := hel 2 a2 rfl
  obtain ⟨_, e3, c3⟩ := hel 3 a3 rfl
  obtain ⟨_, e4, c4⟩ := hel 4 a4 rfl
  obtain ⟨_, e5, c5⟩ := hel 5 a5 rfl
  obtain rfl := Option.some.inj e0
  obtain rfl := Option.some.inj e1
  obtain rfl := Option.some.inj e2
  obtain rfl := Option.some.inj e3
  obtain rfl := Option.some.inj e4
  obtain rfl := Option.some.inj e5
  obtain ⟨k, rfl⟩ := cell_int c0
  obtain ⟨p, rfl⟩ := cell_string c1
  obtain ⟨q, rfl⟩ := cell_string c2
  obtain ⟨o, rfl⟩ := cell_int c3
  obtain ⟨l, rfl⟩ := cell_int c4
  obtain ⟨d, rfl⟩ := cell_string c5
  exact ⟨k, o, l, p, q, d, rfl⟩
theorem shape24 {W : World} {b : Nat} {v : Value} (h : Value.okWide prog W .any b 24 v) : ∃ x y z, v = gV x y z := by
  simp only [Value.okWide, Tryz.underlying24] at h
  obtain ⟨⟨cs⟩, rfl, hsz, ts, hts, _, hel⟩ := h
  obtain rfl := Option.some.inj (types24.symm.trans hts)
  rw [cells24] at hsz
  obtain ⟨a0, a1, a2, rfl⟩ := list3 (show cs.length = 3 from hsz)
  obtain ⟨_, e0, c0⟩ := hel 0 a0 rfl
  obtain ⟨_, e1, c1⟩ := hel 1 a1 rfl
  obtain ⟨_, e2, c2⟩ := hel 2 a2 rfl
  obtain rfl := Option.some.inj e0
  obtain rfl := Option.some.inj e1
  obtain rfl := Option.some.inj e2
  obtain ⟨x, rfl⟩ := cell_int c0
  obtain ⟨y, rfl⟩ := cell_int c1
  obtain ⟨z, rfl⟩ := cell_int c2
  exact ⟨x, y, z, rfl⟩
theorem shape32 {W : World} {b : Nat} {v : Value} (h : Value.okWide prog W .any b 32 v) : v = .slice none 0 0 ∨ ∃ a o n cap, v = .slice (some ⟨a, o, none⟩) n cap ∧ n ≤ cap := by
  obtain ⟨a, n, cap, rfl⟩ := WideShapes.okWide_slice Tryz.underlying32 h
  simp only [Value.okWide, Tryz.underlying32, Cell.okWide] at h
  cases a with
  | none =>
    unfold Cell.ok at h
    rw [Tryz.underlying32] at h
    match n, cap, h with
    | 0, 0, _ => exact .inl rfl
  | some a =>
    simp only [Cell.ok, Tryz.underlying32] at h
    obtain ⟨h1, _, h2⟩ := h
    have := h2.2.1
    obtain ⟨bl, off, spot⟩ := a
    simp only at this; subst this
    exact .inr ⟨bl, off, n, cap, rfl, h1⟩

theorem law4 {W : World} {t : TypeId} {fr : Nat × Nat} (hW : W.heap[0]? = some (.cells ⟨[errT]⟩ t fr)) (k o l x y z : Int) (p q d : List UInt8) {held : Value}
    (hh : held = .slice none 0 0 ∨ ∃ a o n cap, held = .slice (some ⟨a, o, none⟩) n cap ∧ n ≤ cap) :
    Calls prog 4 #[opV k o l p q d, gV x y z, held] W fun e W' => e = .returned (.bool true) ∧ RowKit.Below W.heap.size W W' := by
  rcases hh with rfl | ⟨a, off, n, cap, rfl, hle⟩
  · refine law4_of (s1 := none) hW ((run4N t fr k o l x y z p q d).trans (by rw [sameO_true])) ?_
    exact .cons _ _ _ _ (V.of_scal _ _ rfl) (.cons _ _ _ _ (V.of_scal _ _ rfl) (.cons _ _ _ _ .sliceN .nil))
  · refine law4_of (s1 := some ⟨a, off, 0, 0⟩) hW ((run4S t fr k o l x y z p q d n).trans (by rw [sameO_true])) ?_
    exact .cons _ _ _ _ (V.of_scal _ _ rfl) (.cons _ _ _ _ (V.of_scal _ _ rfl) (.cons _ _ _ _ (.slice 1 0 n 0 cap ⟨a, off, 0, 0⟩ rfl hle (.inl rfl) (.inr (by simp))) .nil))

/-! ### The listed variable -/
abbrev laid : List (String × DataW Unit) := Go.Proofs.YtmmlgodbknhijaaGreatDoor.Rows.needsWrongRow.laid
theorem own : ownKnob prog.godebug = none := by kernel_rfl
theorem etype : prog.globalNamed "errors.errorType" = some 0 := by kernel_rfl
theorem rtype : (prog.cutTypes.find? (·.1 == "internal/reflectlite.rtype")).map (·.2) = some 266 := by kernel_rfl
theorem laidOut : laidOutB prog = true := by kernel_rfl
theorem psize : Nat.ble prog.types.size 2000 = true := by kernel_rfl
theorem oneRow : ((List.range 2000).filter fun t => prog.rowNamed t [101, 114, 114, 111, 114]) = [62] := by kernel_rfl
theorem handles : (laid.filter fun x => x.2.handleName?.isSome) = [("errors.errorType", Go.Proofs.YtmmlgodbknhijaaGreatDoor.Rows.laid_errors_errorType)] := by kernel_rfl
/-- what the condition gives: the variable's one cell -/
theorem handle_of_laid {W : World} (h : laidMetH prog laid W) : ∃ t fr, W.heap[0]? = some (.cells ⟨[errT]⟩ t fr) := by
  unfold laidMetH at h
  rw [handles] at h
  have h' := h.2 _ (List.mem_singleton.2 rfl)
  obtain ⟨name, u, ty, e1, e2, e3, e4, e5⟩ := h'
  have en : name = [101, 114, 114, 111, 114] := (Option.some.inj e1).symm
  subst en
  obtain rfl := Option.some.inj (rtype.symm.trans e2)
  have hm : ty ∈ (List.range 2000).filter fun t => prog.rowNamed t [101, 114, 114, 111, 114] := List.mem_filter.2 ⟨List.mem_range.2 (Nat.lt_of_lt_of_le e3 (Nat.le_of_ble_eq_true psize)), e4⟩
  rw [oneRow] at hm
  obtain rfl := List.mem_singleton.1 hm
  have hh : typeHandle prog 62 = .pointer (some ⟨4, 62, none⟩) := by kernel_rfl
  rw [hh] at e5
  simp only [World.var?, etype, Option.bind_some] at e5
  cases hw : W.heap[0]? with
  | none => rw [hw] at e5; cases e5
  | some x =>
    rw [hw] at e5
    cases x with
    | cells cs t fr =>
      simp only [Option.some.injEq] at e5
      exact ⟨t, fr, by rw [e5]; rfl⟩
    | _ => cases e5

/-! ### A world that meets the condition -/
noncomputable def baseWorld (os : Os) : World :=
  let w0 := World.holding prog os ⟨#[], #[], []⟩
  { w0 with heap := w0.heap.modify 0 fun
      | .cells _ t frozen => .cells #[errT] t frozen
      | o => o }
noncomputable abbrev dataList : List (String × DataW Unit) := laid.filter fun x => x.2.handleName?.isNone
noncomputable def laidWorld (os : Os) : World := (baseWorld os).layVars prog dataList
theorem laidWorld_os (os : Os) : (laidWorld os).os = os := World.layVars_os _ _ _
theorem fitsData (os : Os) : (baseWorld os).layFits prog dataList [] = true := by kernel_rfl
theorem ifacesData (os : Os) : (baseWorld os).layIfaces prog dataList (laidWorld os) = true := by kernel_rfl
theorem laidWorld_data (os : Os) : laidMet prog dataList (laidWorld os) := by
  have e1 : (dataList.filter fun x => (dataList.map (·.1)).contains x.1) = dataList := List.filter_eq_self.2 fun x hx => List.contains_iff_mem.2 (List.mem_map.2 ⟨x, hx, rfl⟩)
  have e2 : (dataList.filter fun x => !(dataList.map (·.1)).contains x.1) = [] := List.filter_eq_nil_iff.2 fun x hx => by rw [List.contains_iff_mem.2 (List.mem_map.2 ⟨x, hx, rfl⟩)]; simp
  exact laidMet_layVars (w0 := baseWorld os) (dataList.map (·.1)) [] (by rw [e1]; rfl) (by rw [e1]; exact fitsData os) (by rw [e1]; exact ifacesData os) (by rw [e2]; exact LaidIn.none)
theorem laidWorld_met (os : Os) (args : Array Value) : laidMetH prog laid ((laidWorld os).forCall (fun _ _ => 0) ⟨#[], args, []⟩).memory := by
  refine laidMetH_of_parts ((laidWorld_data os).of_heap (by simp [World.memory, World.forCall, Input.heap])) ?_
  rw [handles]
  kernel_rfl
end CwT
