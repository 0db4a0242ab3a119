/-
  errors.As: the loop of the library's own text.
-/
import Derived.Test.YtmmlgodbknhijaaGreatDoorCwErr
namespace CwT
open Go Cw Go.Proofs Go.RowKit Go.Extern.Stop Go.Stop Go.Extern
set_option maxRecDepth 100000

theorem ta282_257 (v : Value) (w : World) : (Instr.typeAssert (.iface 257 v) 62 282 true).run prog w = .ok (.tuple #[.nilIface, .bool false]) w := run_typeAssert_lacksB Tryz.underlying282 (by kernel_rfl) (by kernel_rfl) v 62 w
theorem ta282_38 (v : Value) (w : World) : (Instr.typeAssert (.iface 38 v) 62 282 true).run prog w = .ok (.tuple #[.nilIface, .bool false]) w := run_typeAssert_lacksB Tryz.underlying282 (by kernel_rfl) (by kernel_rfl) v 62 w
theorem ta271_257 (v : Value) (w : World) : (Instr.typeAssert (.iface 257 v) 62 271 true).run prog w = .ok (.tuple #[.iface 257 v, .bool true]) w := by kernel_rfl
theorem ta271_38 (v : Value) (w : World) : (Instr.typeAssert (.iface 38 v) 62 271 true).run prog w = .ok (.tuple #[.nilIface, .bool false]) w := run_typeAssert_lacksB Tryz.underlying271 (by kernel_rfl) (by kernel_rfl) v 62 w
theorem ta273_38 (v : Value) (w : World) : (Instr.typeAssert (.iface 38 v) 62 273 true).run prog w = .ok (.tuple #[.nilIface, .bool false]) w := run_typeAssert_lacksB Tryz.underlying273 (by kernel_rfl) (by kernel_rfl) v 62 w
theorem assign257_38 (w : World) : (ReflectliteType.relation "AssignableTo" ReflectliteType.assignableTo #[.agg #[.pointer (some ⟨4, 257, none⟩)], .iface 266 (.agg #[.pointer (some ⟨4, 38, none⟩)])]).run prog w = .ok (.bool false) w := by kernel_rfl
theorem assign38_257 (w : World) : (ReflectliteType.relation "AssignableTo" ReflectliteType.assignableTo #[.agg #[.pointer (some ⟨4, 38, none⟩)], .iface 266 (.agg #[.pointer (some ⟨4, 257, none⟩)])]).run prog w = .ok (.bool false) w := by kernel_rfl
noncomputable def lb105 : Code := match Tryz.f105.body with
  | some (.seq _ (.block _ (.loop c))) => c
  | _ => .skip
/-- a Code is asked for, in a chain of Fails -/
inductive AsC (w : World) : Nat → Value → Option Int → Prop where
  | hit (n : Nat) (m : Int) : AsC w (n + 1) (.iface 38 (.int .i64 m)) (some m)
  | unwrap (n b o : Nat) (t : TypeId) (x : Value) (r : Option Int) (h : w.cell? ⟨b, o + 2, none⟩ = some (.iface t x)) (hs : AsC w n (.iface t x) r) : AsC w (n + 1) (.iface 257 (.pointer (some ⟨b, o, none⟩))) r
  | last (n b o : Nat) (h : w.cell? ⟨b, o + 2, none⟩ = some .nilIface) : AsC w (n + 1) (.iface 257 (.pointer (some ⟨b, o, none⟩))) none
set_option maxHeartbeats 8000000 in
theorem as38 (w0 : World) (tg x4 x5 x7 : Value) (a t : Addr) (old : Value) (R : Ending → World → Prop) (W : World)
    (hW : W = w0.alloc (.cells #[.pointer (some ⟨4, 127, none⟩), .pointer (some a), .int .u64 150] 199)) (ha : W.cell? a = some (.pointer (some t))) (ht : W.cell? t = some old) (hf : W.frozen? t = false) (htl : t.block < W.heap.size) (hal : a.block < W.heap.size) :
    ∀ (n : Nat) (c : Value) (r : Option Int), AsC W n c r → (match r with
      | some m => R (.returned (.bool true)) ((W.alloc (.cells #[.int .i64 m] 38)).setCell t (.int .i64 m))
      | none => R (.returned (.bool false)) W) → ∀ (u9 u10 u11 u12 u13 u14 u15 u16 u17 u18 u19 u20 u21 u22 u23 u24 u25 u26 u27 u28 u29 u30 u31 u32 u33 u34 u35 u36 u37 u38 u39 u40 u41 u42 u43 u44 u45 u46 u47 u48 u49 u50 u51 u52 u53 u54 u55 u56 u57 u58 u59 u60 u61 : Value),
      Code.rounds prog lb105 (Exit.inBlock 0 (bodyPost prog Tryz.f105 R)) n { tmps := #[c, tg, .agg #[.pointer (some ⟨4, 127, none⟩), .pointer (some a), .int .u64 150], .iface 266 (.agg #[.pointer (some ⟨4, 38, none⟩)]), x4, x5, .pointer (some ⟨w0.heap.size, 0, none⟩), x7, .bool false, u9, u10, u11, u12, u13, u14, u15, u16, u17, u18, u19, u20, u21, u22, u23, u24, u25, u26, u27, u28, u29, u30, u31, u32, u33, u34, u35, u36, u37, u38, u39, u40, u41, u42, u43, u44, u45, u46, u47, u48, u49, u50, u51, u52, u53, u54, u55, u56, u57, u58, u59, u60, u61], defers := [] } W := by
  have h96 := @run_callFunc_extern prog 96 _ ReflectliteType.typeOf Tryz.func96 (by kernel_rfl) (by kernel_rfl) (by kernel_rfl) (by kernel_rfl)
  have h102 := @run_callFunc_extern prog 102 _ (fun args => ReflectliteValue.unpack (args.getD 0 (.tuple #[]))) Tryz.func102 (by kernel_rfl) (by kernel_rfl) (by kernel_rfl) (by kernel_rfl)
  have h354 := @run_callFunc_extern prog 354 _ (ReflectliteType.relation "AssignableTo" ReflectliteType.assignableTo) Tryz.func354 (by kernel_rfl) (by kernel_rfl) (by kernel_rfl) (by kernel_rfl)
  have h170 := @run_callFunc_extern prog 170 _ (ReflectliteValue.method (ReflectliteValue.valueError "reflectlite.Value.Elem" 0) ReflectliteValue.elem) Tryz.func170 (by kernel_rfl) (by kernel_rfl) (by kernel_rfl) (by kernel_rfl)
  have h171 := @run_callFunc_extern prog 171 _ ReflectliteValue.set Tryz.func171 (by kernel_rfl) (by kernel_rfl) (by kernel_rfl) (by kernel_rfl)
  have mA := methodAssignableTo
  have mU := methodUnwrap
  have tO := typeOf38
  have tP := typeOf257
  have a1 := assignable38
  have a2 := assign257_38
  have t1 := ta282_257
  have t2 := ta271_257
  intro n c r hc
  induction hc with
  | hit n m =>
    intro hR u9 u10 u11 u12 u13 u14 u15 u16 u17 u18 u19 u20 u21 u22 u23 u24 u25 u26 u27 u28 u29 u30 u31 u32 u33 u34 u35 u36 u37 u38 u39 u40 u41 u42 u43 u44 u45 u46 u47 u48 u49 u50 u51 u52 u53 u54 u55 u56 u57 u58 u59 u60 u61
    subst hW
    have el := elemV127 a t _ ha
    have vo := valueOf38 m (w0.alloc (.cells #[.pointer (some ⟨4, 127, none⟩), .pointer (some a), .int .u64 150] 199))
    have st := set38 t ⟨w0.heap.size + 1, 0, none⟩ m old ((w0.alloc (.cells #[.pointer (some ⟨4, 127, none⟩), .pointer (some a), .int .u64 150] 199)).alloc (.cells #[.int .i64 m] 38)) (by rw [World.cell?_alloc_at _ _ _ _ (by simp)]; rfl) (by rw [World.cell?_alloc_lt _ _ t htl]; exact ht) (by rw [World.frozen?_alloc_old _ _ t (Nat.ne_of_lt htl)]; exact hf)
    rw [rounds_succ]
    dsimp only [lb105, Tryz.f105]
    go_wp2
    exact hR
  | unwrap n b o t' x r h hs ih =>
    intro hR u9 u10 u11 u12 u13 u14 u15 u16 u17 u18 u19 u20 u21 u22 u23 u24 u25 u26 u27 u28 u29 u30 u31 u32 u33 u34 u35 u36 u37 u38 u39 u40 u41 u42 u43 u44 u45 u46 u47 u48 u49 u50 u51 u52 u53 u54 u55 u56 u57 u58 u59 u60 u61
    have c3 := c352 b o (.iface t' x) W h
    rw [rounds_succ]
    dsimp only [lb105, Tryz.f105]
    subst hW
    go_wp2_with (go_at_call 352; refine c3.mono ?_; rintro e w' ⟨rfl, rfl⟩)
    exact ih hR _ _ _ _ _ _ _ _ _ _ _ _ _ _ _ _ _ _ _ _ _ _ _ _ _ _ _ _ _ _ _ _ _ _ _ _ _ _ _ _ _ _ _ _ _ _ _ _ _ _ _ _ _
  | last n b o h =>
    intro hR u9 u10 u11 u12 u13 u14 u15 u16 u17 u18 u19 u20 u21 u22 u23 u24 u25 u26 u27 u28 u29 u30 u31 u32 u33 u34 u35 u36 u37 u38 u39 u40 u41 u42 u43 u44 u45 u46 u47 u48 u49 u50 u51 u52 u53 u54 u55 u56 u57 u58 u59 u60 u61
    have c3 := c352 b o .nilIface W h
    rw [rounds_succ]
    dsimp only [lb105, Tryz.f105]
    subst hW
    go_wp2_with (go_at_call 352; refine c3.mono ?_; rintro e w' ⟨rfl, rfl⟩)
    exact hR

set_option maxHeartbeats 8000000 in
theorem as257_hit (w0 : World) (tg x4 x5 x7 : Value) (a t : Addr) (old : Value) (R : Ending → World → Prop) (W : World)
    (hW : W = w0.alloc (.cells #[.pointer (some ⟨4, 332, none⟩), .pointer (some a), .int .u64 150] 199)) (ha : W.cell? a = some (.pointer (some t))) (ht : W.cell? t = some old) (hf : W.frozen? t = false) (htl : t.block < W.heap.size) (hal : a.block < W.heap.size) :
    ∀ (p : Addr), R (.returned (.bool true)) ((W.alloc (.cells #[.pointer (some p)] 257)).setCell t (.pointer (some p))) → ∀ (u9 u10 u11 u12 u13 u14 u15 u16 u17 u18 u19 u20 u21 u22 u23 u24 u25 u26 u27 u28 u29 u30 u31 u32 u33 u34 u35 u36 u37 u38 u39 u40 u41 u42 u43 u44 u45 u46 u47 u48 u49 u50 u51 u52 u53 u54 u55 u56 u57 u58 u59 u60 u61 : Value),
      Code.rounds prog lb105 (Exit.inBlock 0 (bodyPost prog Tryz.f105 R)) 1 { tmps := #[.iface 257 (.pointer (some p)), tg, .agg #[.pointer (some ⟨4, 332, none⟩), .pointer (some a), .int .u64 150], .iface 266 (.agg #[.pointer (some ⟨4, 257, none⟩)]), x4, x5, .pointer (some ⟨w0.heap.size, 0, none⟩), x7, .bool false, u9, u10, u11, u12, u13, u14, u15, u16, u17, u18, u19, u20, u21, u22, u23, u24, u25, u26, u27, u28, u29, u30, u31, u32, u33, u34, u35, u36, u37, u38, u39, u40, u41, u42, u43, u44, u45, u46, u47, u48, u49, u50, u51, u52, u53, u54, u55, u56, u57, u58, u59, u60, u61], defers := [] } W := by
  have h96 := @run_callFunc_extern prog 96 _ ReflectliteType.typeOf Tryz.func96 (by kernel_rfl) (by kernel_rfl) (by kernel_rfl) (by kernel_rfl)
  have h102 := @run_callFunc_extern prog 102 _ (fun args => ReflectliteValue.unpack (args.getD 0 (.tuple #[]))) Tryz.func102 (by kernel_rfl) (by kernel_rfl) (by kernel_rfl) (by kernel_rfl)
  have h354 := @run_callFunc_extern prog 354 _ (ReflectliteType.relation "AssignableTo" ReflectliteType.assignableTo) Tryz.func354 (by kernel_rfl) (by kernel_rfl) (by kernel_rfl) (by kernel_rfl)
  have h170 := @run_callFunc_extern prog 170 _ (ReflectliteValue.method (ReflectliteValue.valueError "reflectlite.Value.Elem" 0) ReflectliteValue.elem) Tryz.func170 (by kernel_rfl) (by kernel_rfl) (by kernel_rfl) (by kernel_rfl)
  have h171 := @run_callFunc_extern prog 171 _ ReflectliteValue.set Tryz.func171 (by kernel_rfl) (by kernel_rfl) (by kernel_rfl) (by kernel_rfl)
  have mA := methodAssignableTo
  have mU := methodUnwrap
  have tO := typeOf38
  have tP := typeOf257
  have a1 := assignable257
  have a2 := assign38_257
  have t1 := ta282_38
  have t2 := ta271_38
  have t3 := ta273_38
  intro p hR u9 u10 u11 u12 u13 u14 u15 u16 u17 u18 u19 u20 u21 u22 u23 u24 u25 u26 u27 u28 u29 u30 u31 u32 u33 u34 u35 u36 u37 u38 u39 u40 u41 u42 u43 u44 u45 u46 u47 u48 u49 u50 u51 u52 u53 u54 u55 u56 u57 u58 u59 u60 u61
  subst hW
  have el := elemV332 a t _ ha
  have vo := valueOf257 p (w0.alloc (.cells #[.pointer (some ⟨4, 332, none⟩), .pointer (some a), .int .u64 150] 199))
  have st := set257 t ⟨w0.heap.size + 1, 0, none⟩ p old ((w0.alloc (.cells #[.pointer (some ⟨4, 332, none⟩), .pointer (some a), .int .u64 150] 199)).alloc (.cells #[.pointer (some p)] 257)) (by rw [World.cell?_alloc_at _ _ _ _ (by simp)]; rfl) (by rw [World.cell?_alloc_lt _ _ t htl]; exact ht) (by rw [World.frozen?_alloc_old _ _ t (Nat.ne_of_lt htl)]; exact hf)
  rw [rounds_succ]
  dsimp only [lb105, Tryz.f105]
  go_wp2
  exact hR
set_option maxHeartbeats 8000000 in
theorem as257_miss (w0 : World) (tg tv x4 x5 x6 x7 : Value) (R : Ending → World → Prop) (W : World) :
    ∀ (m : Int), R (.returned (.bool false)) W → ∀ (u9 u10 u11 u12 u13 u14 u15 u16 u17 u18 u19 u20 u21 u22 u23 u24 u25 u26 u27 u28 u29 u30 u31 u32 u33 u34 u35 u36 u37 u38 u39 u40 u41 u42 u43 u44 u45 u46 u47 u48 u49 u50 u51 u52 u53 u54 u55 u56 u57 u58 u59 u60 u61 : Value),
      Code.rounds prog lb105 (Exit.inBlock 0 (bodyPost prog Tryz.f105 R)) 1 { tmps := #[.iface 38 (.int .i64 m), tg, tv, .iface 266 (.agg #[.pointer (some ⟨4, 257, none⟩)]), x4, x5, x6, x7, .bool false, u9, u10, u11, u12, u13, u14, u15, u16, u17, u18, u19, u20, u21, u22, u23, u24, u25, u26, u27, u28, u29, u30, u31, u32, u33, u34, u35, u36, u37, u38, u39, u40, u41, u42, u43, u44, u45, u46, u47, u48, u49, u50, u51, u52, u53, u54, u55, u56, u57, u58, u59, u60, u61], defers := [] } W := by
  have h96 := @run_callFunc_extern prog 96 _ ReflectliteType.typeOf Tryz.func96 (by kernel_rfl) (by kernel_rfl) (by kernel_rfl) (by kernel_rfl)
  have h102 := @run_callFunc_extern prog 102 _ (fun args => ReflectliteValue.unpack (args.getD 0 (.tuple #[]))) Tryz.func102 (by kernel_rfl) (by kernel_rfl) (by kernel_rfl) (by kernel_rfl)
  have h354 := @run_callFunc_extern prog 354 _ (ReflectliteType.relation "AssignableTo" ReflectliteType.assignableTo) Tryz.func354 (by kernel_rfl) (by kernel_rfl) (by kernel_rfl) (by kernel_rfl)
  have h170 := @run_callFunc_extern prog 170 _ (ReflectliteValue.method (ReflectliteValue.valueError "reflectlite.Value.Elem" 0) ReflectliteValue.elem) Tryz.func170 (by kernel_rfl) (by kernel_rfl) (by kernel_rfl) (by kernel_rfl)
  have h171 := @run_callFunc_extern prog 171 _ ReflectliteValue.set Tryz.func171 (by kernel_rfl) (by kernel_rfl) (by kernel_rfl) (by kernel_rfl)
  have mA := methodAssignableTo
  have mU := methodUnwrap
  have tO := typeOf38
  have tP := typeOf257
  have a1 := assignable257
  have a2 := assign38_257
  have t1 := ta282_38
  have t2 := ta271_38
  have t3 := ta273_38
  intro m hR u9 u10 u11 u12 u13 u14 u15 u16 u17 u18 u19 u20 u21 u22 u23 u24 u25 u26 u27 u28 u29 u30 u31 u32 u33 u34 u35 u36 u37 u38 u39 u40 u41 u42 u43 u44 u45 u46 u47 u48 u49 u50 u51 u52 u53 u54 u55 u56 u57 u58 u59 u60 u61
  rw [rounds_succ]
  dsimp only [lb105, Tryz.f105]
  go_wp2
  exact hR
theorem as105_38 (n : Nat) (c tg : Value) (r : Option Int) (a t : Addr) (old : Value) (R : Ending → World → Prop) (w0 W : World)
    (hW : W = w0.alloc (.cells #[.pointer (some ⟨4, 127, none⟩), .pointer (some a), .int .u64 150] 199)) (ha : W.cell? a = some (.pointer (some t))) (ht : W.cell? t = some old) (hf : W.frozen? t = false) (htl : t.block < W.heap.size) (hal : a.block < W.heap.size)
    (hR : match r with
      | some m => R (.returned (.bool true)) ((W.alloc (.cells #[.int .i64 m] 38)).setCell t (.int .i64 m))
      | none => R (.returned (.bool false)) W) (hc : AsC W n c r) :
    Calls prog 105 #[c, tg, .agg #[.pointer (some ⟨4, 127, none⟩), .pointer (some a), .int .u64 150], .iface 266 (.agg #[.pointer (some ⟨4, 38, none⟩)])] w0 R := by
  go_enter Tryz.func105, Tryz.ntmps105
  go_wp2
  refine wp_loop_rounds n ?_
  rw [← hW]
  exact as38 w0 tg undef undef undef a t old R W hW ha ht hf htl hal n c r hc hR undef undef undef undef undef undef undef undef undef undef undef undef undef undef undef undef undef undef undef undef undef undef undef undef undef undef undef undef undef undef undef undef undef undef undef undef undef undef undef undef undef undef undef undef undef undef undef undef undef undef undef undef undef
theorem as105_257 (p : Addr) (tg : Value) (a t : Addr) (old : Value) (R : Ending → World → Prop) (w0 W : World)
    (hW : W = w0.alloc (.cells #[.pointer (some ⟨4, 332, none⟩), .pointer (some a), .int .u64 150] 199)) (ha : W.cell? a = some (.pointer (some t))) (ht : W.cell? t = some old) (hf : W.frozen? t = false) (htl : t.block < W.heap.size) (hal : a.block < W.heap.size)
    (hR : R (.returned (.bool true)) ((W.alloc (.cells #[.pointer (some p)] 257)).setCell t (.pointer (some p)))) :
    Calls prog 105 #[.iface 257 (.pointer (some p)), tg, .agg #[.pointer (some ⟨4, 332, none⟩), .pointer (some a), .int .u64 150], .iface 266 (.agg #[.pointer (some ⟨4, 257, none⟩)])] w0 R := by
  go_enter Tryz.func105, Tryz.ntmps105
  go_wp2
  refine wp_loop_rounds 1 ?_
  rw [← hW]
  exact as257_hit w0 tg undef undef undef a t old R W hW ha ht hf htl hal p hR undef undef undef undef undef undef undef undef undef undef undef undef undef undef undef undef undef undef undef undef undef undef undef undef undef undef undef undef undef undef undef undef undef undef undef undef undef undef undef undef undef undef undef undef undef undef undef undef undef undef undef undef undef
theorem as105_257n (m : Int) (tg : Value) (a : Addr) (R : Ending → World → Prop) (w0 W : World)
    (hW : W = w0.alloc (.cells #[.pointer (some ⟨4, 332, none⟩), .pointer (some a), .int .u64 150] 199)) (hR : R (.returned (.bool false)) W) :
    Calls prog 105 #[.iface 38 (.int .i64 m), tg, .agg #[.pointer (some ⟨4, 332, none⟩), .pointer (some a), .int .u64 150], .iface 266 (.agg #[.pointer (some ⟨4, 257, none⟩)])] w0 R := by
  go_enter Tryz.func105, Tryz.ntmps105
  go_wp2
  refine wp_loop_rounds 1 ?_
  rw [← hW]
  exact as257_miss w0 tg _ undef undef _ undef R W m hR undef undef undef undef undef undef undef undef undef undef undef undef undef undef undef undef undef undef undef undef undef undef undef undef undef undef undef undef undef undef undef undef undef undef undef undef undef undef undef undef undef undef undef undef undef undef undef undef undef undef undef undef undef

end CwT
