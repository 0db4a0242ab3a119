/-
  strings.Repeat and maps.Clone, by the library's contracts.
-/
import Derived.Test.YtmmlgodbknhijaaGreatDoorCwLib
import Derived.Test.YtmmlgodbknhijaaGreatDoorCwShelf
import Derived.Laws.Externs
import Derived.WalkKit
namespace CwT
open Go Cw Go.Proofs Go.RowKit
theorem below_ok {ρ : Rho} {h : AH} {w w' : World} (hR : R ρ h w) (hB : Below w.heap.size w w') : R ρ h w' ∧ Stp ρ π0 h w ρ π0 h w' :=
  ⟨hR.same fun i o s hi hs => by
    obtain ⟨t, ht, hok⟩ := hR.obj i o hi
    rw [hs] at ht; cases ht
    exact hB.block _ hok.lt,
   ⟨Ext.refl ρ, Nat.le_refl _, fun b hb _ _ => hB.block b hb, fun _ h => .inl h, fun _ _ h => .inl h, fun _ _ h _ => h, hB.size, hB.os, hB.tape, hB.output⟩⟩
theorem repL_eq (l : List UInt8) : ∀ n, repL l n = Lib.repeatL l n
  | 0 => rfl
  | n + 1 => by simp only [repL, Lib.repeatL, repL_eq l n]
theorem gp106 : GoodP prog 106 p106 := by
  intro args r hs ρ h w cargs hR hv
  simp only [p106] at hs
  split at hs
  · rename_i c n
    cases hn : Nat.ble n 4096
    · simp [hn] at hs
    · simp only [hn, cond_true, Option.some.injEq] at hs; subst hs
      have hn' := Nat.le_of_ble_eq_true hn
      have : cargs = #[.string ⟨⟨[c]⟩⟩, .int .i64 (n : Int)] := by
        apply Array.ext'
        exact VL.eq_scal hv rfl
      subst this
      refine (Tryz.strings_Repeat ⟨⟨[c]⟩⟩ n w (by omega) (by simp [ByteArray.size]; omega)).mono ?_
      rintro e w' ⟨rfl, hB⟩
      obtain ⟨h1, h2⟩ := below_ok hR hB
      refine ⟨h1, h2, ?_⟩
      simp only [EndOk, mkStr, repL_eq, Lib.mk_data, toList_mk']
      exact .str _
  · cases hs

section
variable {P : Program} (w : World)
theorem run_getObj_map {r : Nat} {es : Array MapEntry} {clock : Nat} (h : w.heap[r]? = some (.map es clock)) : (getObj r).run P w = .ok (.map es clock) w := by simp [getObj, Sem.run, h]
theorem run_eq_map_nil (d : Nat) (t k e : TypeId) (p : Option Nat) (h : P.underlying t = some (.map k e)) :
    (Op.equalIn (d + 1) t (.map p) (.map none)).run P w = .ok p.isNone w := by
  cases p <;> simp [Op.equalIn, run_underlying h]
theorem run_eql_map_nil (t k e : TypeId) (p : Option Nat) (h : P.underlying t = some (.map k e)) :
    (binOp .eql t (.map p) (.map none)).run P w = .ok (.bool p.isNone) w := by
  simp only [binOp]
  simp [show Op.equal t (.map p) (.map none) = Op.equalIn (9999 + 1) t (.map p) (.map none) from rfl, run_eq_map_nil w 9999 t k e p h]
theorem run_tass_map (t xT k e : TypeId) (v : Value) (h : P.underlying t = some (.map k e)) : (Instr.typeAssert (.iface t v) xT t false).run P w = .ok v w := by
  simp [Instr.typeAssert, run_underlying h]
theorem run_clone {r : Nat} {es : Array MapEntry} {clock : Nat} (t : TypeId) (hb : w.heap[r]? = some (.map es clock)) :
    (Extern.MapsClone.clone #[.iface t (.map (some r))]).run P w = .ok (.iface t (.map (some w.heap.size))) (w.alloc (.map es clock)) := by
  have e : Extern.MapsClone.clone #[.iface t (.map (some r))] = (getObj r >>= fun o => match o with
      | .map entries clock => (newObj (.map entries clock) >>= fun n => pure (.iface t (.map (some n))))
      | _ => stuck "maps.clone: a map expected") := rfl
  rw [e]
  simp [run_getObj_map w hb, go_sem]
end
theorem u53 : prog.underlying 53 = some (.map 3 3) := by kernel_rfl
set_option maxRecDepth 100000
set_option maxHeartbeats 2000000 in
theorem c161 (b : Nat) (es : Array MapEntry) (clock : Nat) (w : World) (hb : w.heap[b]? = some (.map es clock)) :
    Calls prog 161 #[.map (some b)] w fun e w' => e = .returned (.map (some w.heap.size)) ∧ w' = w.alloc (.map es clock) := by
  have hq := fun w => run_eql_map_nil (P := prog) w 53 _ _ (some b) u53
  go_enter Tryz.func161, Tryz.ntmps161
  go_wp2
  rw [run_callFunc_extern Tryz.func227 (by kernel_rfl) (by kernel_rfl) (by kernel_rfl) (e := Extern.MapsClone.clone) (by kernel_rfl), run_clone w 53 hb]
  simp only [Result.andThen]
  rw [Oper.upon_value]
  go_wp2
  rw [run_tass_map _ 53 20 _ _ _ u53]
  simp only [Result.andThen]
  rw [Oper.upon_value]
  go_wp2
  go_ret
  exact ⟨rfl, rfl⟩
theorem c161n (w : World) : Calls prog 161 #[.map none] w fun e w' => e = .returned (.map none) ∧ w' = w := by
  have hq := fun w => run_eql_map_nil (P := prog) w 53 _ _ none u53
  go_enter Tryz.func161, Tryz.ntmps161
  go_wp2
  go_ret
  exact ⟨rfl, rfl⟩

theorem vl1 {ρ : Rho} {v : Value} {cargs : Array Value} (h : VL ρ [v] cargs.toList) : ∃ c, cargs = #[c] ∧ V ρ v c := by
  obtain ⟨l⟩ := cargs
  cases h with
  | cons _ c _ cs hc hs =>
    cases hs
    exact ⟨c, rfl, hc⟩
theorem vl2 {ρ : Rho} {v u : Value} {cargs : Array Value} (h : VL ρ [v, u] cargs.toList) : ∃ c d, cargs = #[c, d] ∧ V ρ v c ∧ V ρ u d := by
  obtain ⟨l⟩ := cargs
  cases h with
  | cons _ c _ cs hc hs =>
    cases hs with
    | cons _ d _ ds hd hs =>
      cases hs
      exact ⟨c, d, rfl, hc, hd⟩
theorem g161 : Good prog 161 s161 := by
  intro args h r h' hs ρ w cargs hR hv
  simp only [s161] at hs
  split at hs
  · obtain ⟨c, rfl, hc⟩ := vl1 hv
    cases hc
    simp only [Option.some.injEq, Prod.mk.injEq] at hs
    obtain ⟨rfl, rfl⟩ := hs
    refine (c161n w).mono ?_
    rintro e w' ⟨rfl, rfl⟩
    exact ⟨ρ, hR, Stp.refl _ _ _ _, .mapN⟩
  · rename_i i
    obtain ⟨c, rfl, hc⟩ := vl1 hv
    split at hs
    · rename_i kvs hm
      simp only [Option.some.injEq, Prod.mk.injEq] at hs
      obtain ⟨rfl, rfl⟩ := hs
      cases hc with
      | map _ s hsg =>
        obtain ⟨t, ht, es, clock, hb, hk⟩ := hR.obj i _ hm
        rw [hsg] at ht; cases ht
        refine (c161 s.b ⟨es⟩ clock w hb).mono ?_
        rintro e w' ⟨rfl, rfl⟩
        let sg : Seg := ⟨w.heap.size, 0, 0, 0⟩
        have hx : Ext ρ (fun i => if i = h.nx then some sg else ρ i) := ext_alloc hR sg
        have hR' := hR.alloc (w' := w.alloc (.map ⟨es⟩ clock)) (.map kvs) sg (fun k hk => heap_push_lt w _ k hk) (Nat.le_refl _) ⟨es, clock, heap_push_new w _, hk.mono hx⟩
        have st := stp_alloc (w' := w.alloc (.map ⟨es⟩ clock)) hR (.map kvs) sg (Nat.le_refl _) rfl (fun k hk => heap_push_lt w _ k hk) (by simp) rfl rfl rfl π0
        exact ⟨_, hR', st, .map h.nx sg (by simp)⟩
    · cases hs
  · cases hs
end CwT
