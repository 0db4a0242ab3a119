/-
  errors.As and errors.Is at this program's errors.
-/
import Derived.Test.YtmmlgodbknhijaaGreatDoorCwRep
import Derived.LaidEql
import Derived.Stop.Asserts
import Derived.RowKitTokens
namespace CwT
open Go Cw Go.Proofs Go.RowKit Go.Extern.Stop Go.Stop Go.Extern
set_option maxRecDepth 100000
theorem rlm (z : Sem Value) (f : TypeId → Addr → Nat → Nat → Sem Value) (v : Value) :
    ReflectliteValue.method z f #[v] = (do match ← ReflectliteValue.parts v with | none => z | some (t, a, fl) => f t a fl (fl % 32)) := rfl
theorem rls (v x : Value) : ReflectliteValue.set #[v, x] = (do
    let (some (dst, a, fl), some (src, b, _)) := (← ReflectliteValue.parts v, ← ReflectliteValue.parts x)
      | unsupported (.noEntry "extern/(internal/reflectlite.Value).Set.zeroValue")
    if fl / ReflectliteValue.flagAddr % 2 == 0 then unsupported (.noEntry "extern/(internal/reflectlite.Value).Set.unaddressable")
    let val ← loadVar src b
    if ← Rtype.directlyAssignable dst src then storeVar dst a val
    else if ← Rtype.implements dst src then
      if (← Rtype.kind src) == 20 then
        match val with
        | .nilIface => unsupported (.noEntry "extern/reflectlite: a nil value of one interface type handed on as a value of another")
        | _ => storeVar dst a val
      else storeVar dst a (.iface src val)
    else panicString ("reflectlite.Set: value of type " ++ (← Rtype.spelt src) ++ " is not assignable to type " ++ (← Rtype.spelt dst))
    pure (.tuple #[])) := rfl
theorem methodKind (h : Value) (w : World) : (Go.method 548 266 (.agg #[h]) "Kind").run prog w = .ok (343, h) w := by kernel_rfl
theorem methodElem (h : Value) (w : World) : (Go.method 548 266 (.agg #[h]) "Elem").run prog w = .ok (356, .agg #[h]) w := by kernel_rfl
theorem methodImplements (h : Value) (w : World) : (Go.method 548 266 (.agg #[h]) "Implements").run prog w = .ok (357, .agg #[h]) w := by kernel_rfl
theorem methodAssignableTo (h : Value) (w : World) : (Go.method 548 266 (.agg #[h]) "AssignableTo").run prog w = .ok (354, .agg #[h]) w := by kernel_rfl
theorem methodComparable (h : Value) (w : World) : (Go.method 548 266 (.agg #[h]) "Comparable").run prog w = .ok (355, .agg #[h]) w := by kernel_rfl
theorem methodUnwrap (v : Value) (w : World) : (Go.method 548 257 v "Unwrap").run prog w = .ok (352, v) w := by kernel_rfl

theorem valueOf127 (t : Addr) (w : World) : (ReflectliteValue.unpack (.iface 127 (.pointer (some t)))).run prog w
    = .ok (.agg #[.pointer (some ⟨4, 127, none⟩), .pointer (some ⟨w.heap.size, 0, none⟩), .int .u64 150]) (w.alloc (.cells #[.pointer (some t)] 127)) := by kernel_rfl
theorem type127 (a : Addr) (w : World) : (ReflectliteValue.methodAny (ReflectliteValue.valueError "reflectlite.Value.Type" 0) (fun t _ _ _ => ReflectliteType.toType t) #[.agg #[.pointer (some ⟨4, 127, none⟩), .pointer (some a), .int .u64 150]]).run prog w
    = .ok (.iface 266 (.agg #[.pointer (some ⟨4, 127, none⟩)])) w := by kernel_rfl
theorem kind127 (w : World) : ((ReflectliteType.abiMethod fun t => (fun a : Nat => Value.int IntKind.u8 (a : Int)) <$> Rtype.kind t) #[.pointer (some ⟨4, 127, none⟩)]).run prog w = .ok (.int .u8 22) w := by kernel_rfl
theorem kind38 (w : World) : ((ReflectliteType.abiMethod fun t => (fun a : Nat => Value.int IntKind.u8 (a : Int)) <$> Rtype.kind t) #[.pointer (some ⟨4, 38, none⟩)]).run prog w = .ok (.int .u8 2) w := by kernel_rfl
theorem parts127 (a : Addr) (w : World) : (ReflectliteValue.parts (.agg #[.pointer (some ⟨4, 127, none⟩), .pointer (some a), .int .u64 150])).run prog w = .ok (some (127, a, 150)) w := by kernel_rfl
theorem isNil127 (a p : Addr) (W : World) (ha : W.cell? a = some (.pointer (some p))) :
    (ReflectliteValue.method (ReflectliteValue.valueError "reflectlite.Value.IsNil" 0) ReflectliteValue.isNil #[.agg #[.pointer (some ⟨4, 127, none⟩), .pointer (some a), .int .u64 150]]).run prog W = .ok (.bool false) W := by
  rw [rlm]
  simp only [Sem.run_bind, parts127, Result.andThen]
  simp [ReflectliteValue.isNil, loadVar, isAgg, underlying, Tryz.underlying127, ha, Result.andThen]
theorem elem127 (w : World) : (ReflectliteType.method ReflectliteType.elem #[.agg #[.pointer (some ⟨4, 127, none⟩)]]).run prog w = .ok (.iface 266 (.agg #[.pointer (some ⟨4, 38, none⟩)])) w := by kernel_rfl
theorem implements38 (w : World) : (ReflectliteType.relation "Implements" ReflectliteType.implements_ #[.agg #[.pointer (some ⟨4, 38, none⟩)], .iface 266 (.agg #[.pointer (some ⟨4, 62, none⟩)])]).run prog w = .ok (.bool true) w := by kernel_rfl
theorem typeOf38 (v : Value) (w : World) : (ReflectliteType.typeOf #[.iface 38 v]).run prog w = .ok (.iface 266 (.agg #[.pointer (some ⟨4, 38, none⟩)])) w := by kernel_rfl
theorem assignable38 (w : World) : (ReflectliteType.relation "AssignableTo" ReflectliteType.assignableTo #[.agg #[.pointer (some ⟨4, 38, none⟩)], .iface 266 (.agg #[.pointer (some ⟨4, 38, none⟩)])]).run prog w = .ok (.bool true) w := by kernel_rfl
theorem valueOf38 (e : Int) (w : World) : (ReflectliteValue.unpack (.iface 38 (.int .i64 e))).run prog w
    = .ok (.agg #[.pointer (some ⟨4, 38, none⟩), .pointer (some ⟨w.heap.size, 0, none⟩), .int .u64 130]) (w.alloc (.cells #[.int .i64 e] 38)) := by kernel_rfl
theorem elemOf127 (w : World) : (Rtype.elem? 127).run prog w = .ok (some 38) w := by kernel_rfl
theorem mk38 (p : Addr) (w : World) : (ReflectliteValue.mk 38 p ReflectliteValue.flagAddr).run prog w = .ok (.agg #[.pointer (some ⟨4, 38, none⟩), .pointer (some p), .int .u64 386]) w := by kernel_rfl
theorem elemV127 (a p : Addr) (W : World) (ha : W.cell? a = some (.pointer (some p))) :
    (ReflectliteValue.method (ReflectliteValue.valueError "reflectlite.Value.Elem" 0) ReflectliteValue.elem #[.agg #[.pointer (some ⟨4, 127, none⟩), .pointer (some a), .int .u64 150]]).run prog W
      = .ok (.agg #[.pointer (some ⟨4, 38, none⟩), .pointer (some p), .int .u64 386]) W := by
  rw [rlm]
  simp only [Sem.run_bind, parts127, Result.andThen]
  simp [ReflectliteValue.elem, loadVar, isAgg, underlying, Tryz.underlying127, ha, Result.andThen, elemOf127, mk38]
theorem parts38a (a : Addr) (w : World) : (ReflectliteValue.parts (.agg #[.pointer (some ⟨4, 38, none⟩), .pointer (some a), .int .u64 386])).run prog w = .ok (some (38, a, 386)) w := by kernel_rfl
theorem parts38 (a : Addr) (w : World) : (ReflectliteValue.parts (.agg #[.pointer (some ⟨4, 38, none⟩), .pointer (some a), .int .u64 130])).run prog w = .ok (some (38, a, 130)) w := by kernel_rfl
theorem direct38 (w : World) : (Rtype.directlyAssignable 38 38).run prog w = .ok true w := by kernel_rfl
theorem set38 (ta b : Addr) (e : Int) (old : Value) (W : World) (hb : W.cell? b = some (.int .i64 e)) (ht : W.cell? ta = some old) (hf : W.frozen? ta = false) :
    (ReflectliteValue.set #[.agg #[.pointer (some ⟨4, 38, none⟩), .pointer (some ta), .int .u64 386], .agg #[.pointer (some ⟨4, 38, none⟩), .pointer (some b), .int .u64 130]]).run prog W
      = .ok (.tuple #[]) (W.setCell ta (.int .i64 e)) := by
  rw [rls]
  simp only [Sem.run_bind, parts38a, parts38, Result.andThen]
  simp [ReflectliteValue.flagAddr, loadVar, isAgg, underlying, Tryz.underlying38, hb, Result.andThen, direct38, storeVar, Value.cells, storeCells, Addr.add]
  rw [run_store prog W ta _ _ (by rfl)]
  simp [ht, hf]

theorem valueOf332 (t : Addr) (w : World) : (ReflectliteValue.unpack (.iface 332 (.pointer (some t)))).run prog w
    = .ok (.agg #[.pointer (some ⟨4, 332, none⟩), .pointer (some ⟨w.heap.size, 0, none⟩), .int .u64 150]) (w.alloc (.cells #[.pointer (some t)] 332)) := by kernel_rfl
theorem type332 (a : Addr) (w : World) : (ReflectliteValue.methodAny (ReflectliteValue.valueError "reflectlite.Value.Type" 0) (fun t _ _ _ => ReflectliteType.toType t) #[.agg #[.pointer (some ⟨4, 332, none⟩), .pointer (some a), .int .u64 150]]).run prog w
    = .ok (.iface 266 (.agg #[.pointer (some ⟨4, 332, none⟩)])) w := by kernel_rfl
theorem kind332 (w : World) : ((ReflectliteType.abiMethod fun t => (fun a : Nat => Value.int IntKind.u8 (a : Int)) <$> Rtype.kind t) #[.pointer (some ⟨4, 332, none⟩)]).run prog w = .ok (.int .u8 22) w := by kernel_rfl
theorem kind257 (w : World) : ((ReflectliteType.abiMethod fun t => (fun a : Nat => Value.int IntKind.u8 (a : Int)) <$> Rtype.kind t) #[.pointer (some ⟨4, 257, none⟩)]).run prog w = .ok (.int .u8 22) w := by kernel_rfl
theorem parts332 (a : Addr) (w : World) : (ReflectliteValue.parts (.agg #[.pointer (some ⟨4, 332, none⟩), .pointer (some a), .int .u64 150])).run prog w = .ok (some (332, a, 150)) w := by kernel_rfl
theorem isNil332 (a p : Addr) (W : World) (ha : W.cell? a = some (.pointer (some p))) :
    (ReflectliteValue.method (ReflectliteValue.valueError "reflectlite.Value.IsNil" 0) ReflectliteValue.isNil #[.agg #[.pointer (some ⟨4, 332, none⟩), .pointer (some a), .int .u64 150]]).run prog W = .ok (.bool false) W := by
  rw [rlm]
  simp only [Sem.run_bind, parts332, Result.andThen]
  simp [ReflectliteValue.isNil, loadVar, isAgg, underlying, Tryz.underlying332, ha, Result.andThen]
theorem elem332 (w : World) : (ReflectliteType.method ReflectliteType.elem #[.agg #[.pointer (some ⟨4, 332, none⟩)]]).run prog w = .ok (.iface 266 (.agg #[.pointer (some ⟨4, 257, none⟩)])) w := by kernel_rfl
theorem implements257 (w : World) : (ReflectliteType.relation "Implements" ReflectliteType.implements_ #[.agg #[.pointer (some ⟨4, 257, none⟩)], .iface 266 (.agg #[.pointer (some ⟨4, 62, none⟩)])]).run prog w = .ok (.bool true) w := by kernel_rfl
theorem typeOf257 (v : Value) (w : World) : (ReflectliteType.typeOf #[.iface 257 v]).run prog w = .ok (.iface 266 (.agg #[.pointer (some ⟨4, 257, none⟩)])) w := by kernel_rfl
theorem assignable257 (w : World) : (ReflectliteType.relation "AssignableTo" ReflectliteType.assignableTo #[.agg #[.pointer (some ⟨4, 257, none⟩)], .iface 266 (.agg #[.pointer (some ⟨4, 257, none⟩)])]).run prog w = .ok (.bool true) w := by kernel_rfl
theorem valueOf257 (e : Addr) (w : World) : (ReflectliteValue.unpack (.iface 257 (.pointer (some e)))).run prog w
    = .ok (.agg #[.pointer (some ⟨4, 257, none⟩), .pointer (some ⟨w.heap.size, 0, none⟩), .int .u64 150]) (w.alloc (.cells #[.pointer (some e)] 257)) := by kernel_rfl
theorem elemOf332 (w : World) : (Rtype.elem? 332).run prog w = .ok (some 257) w := by kernel_rfl
theorem mk257 (p : Addr) (w : World) : (ReflectliteValue.mk 257 p ReflectliteValue.flagAddr).run prog w = .ok (.agg #[.pointer (some ⟨4, 257, none⟩), .pointer (some p), .int .u64 406]) w := by kernel_rfl
theorem elemV332 (a p : Addr) (W : World) (ha : W.cell? a = some (.pointer (some p))) :
    (ReflectliteValue.method (ReflectliteValue.valueError "reflectlite.Value.Elem" 0) ReflectliteValue.elem #[.agg #[.pointer (some ⟨4, 332, none⟩), .pointer (some a), .int .u64 150]]).run prog W
      = .ok (.agg #[.pointer (some ⟨4, 257, none⟩), .pointer (some p), .int .u64 406]) W := by
  rw [rlm]
  simp only [Sem.run_bind, parts332, Result.andThen]
  simp [ReflectliteValue.elem, loadVar, isAgg, underlying, Tryz.underlying332, ha, Result.andThen, elemOf332, mk257]
theorem parts257a (a : Addr) (w : World) : (ReflectliteValue.parts (.agg #[.pointer (some ⟨4, 257, none⟩), .pointer (some a), .int .u64 406])).run prog w = .ok (some (257, a, 406)) w := by kernel_rfl
theorem parts257 (a : Addr) (w : World) : (ReflectliteValue.parts (.agg #[.pointer (some ⟨4, 257, none⟩), .pointer (some a), .int .u64 150])).run prog w = .ok (some (257, a, 150)) w := by kernel_rfl
theorem direct257 (w : World) : (Rtype.directlyAssignable 257 257).run prog w = .ok true w := by kernel_rfl
theorem set257 (ta b : Addr) (e : Addr) (old : Value) (W : World) (hb : W.cell? b = some (.pointer (some e))) (ht : W.cell? ta = some old) (hf : W.frozen? ta = false) :
    (ReflectliteValue.set #[.agg #[.pointer (some ⟨4, 257, none⟩), .pointer (some ta), .int .u64 406], .agg #[.pointer (some ⟨4, 257, none⟩), .pointer (some b), .int .u64 150]]).run prog W
      = .ok (.tuple #[]) (W.setCell ta (.pointer (some e))) := by
  rw [rls]
  simp only [Sem.run_bind, parts257a, parts257, Result.andThen]
  simp [ReflectliteValue.flagAddr, loadVar, isAgg, underlying, Tryz.underlying257, hb, Result.andThen, direct257, storeVar, Value.cells, storeCells, Addr.add]
  rw [run_store prog W ta _ _ (by rfl)]
  simp [ht, hf]

theorem c352 (b o : Nat) (v : Value) (w : World) (h : w.cell? ⟨b, o + 2, none⟩ = some v) :
    Calls prog 352 #[.pointer (some ⟨b, o, none⟩)] w fun e w' => e = .returned v ∧ w' = w := by
  go_enter Tryz.func352, Tryz.ntmps352
  go_wp2
  go_ret
  exact ⟨rfl, rfl⟩
theorem as_nil (t : Value) (w : World) : Calls prog 55 #[.nilIface, t] w fun e w' => e = .returned (.bool false) ∧ w' = w := by
  go_enter Tryz.func55, Tryz.ntmps55
  go_wp2
  go_ret
  exact ⟨rfl, rfl⟩
def asW127 (t : Addr) (w : World) : World := (w.alloc (.cells #[.pointer (some t)] 127)).alloc (.cells #[.pointer (some ⟨4, 127, none⟩), .pointer (some ⟨w.heap.size, 0, none⟩), .int .u64 150] 199)
set_option maxHeartbeats 4000000 in
theorem as55_127 (et : TypeId) (v : Value) (t : Addr) (w : World) (R : Ending → World → Prop) (hg : w.cell? ⟨0, 0, none⟩ = some (.iface 266 (.agg #[.pointer (some ⟨4, 62, none⟩)])))
    (h : Calls prog 105 #[.iface et v, .iface 127 (.pointer (some t)), .agg #[.pointer (some ⟨4, 127, none⟩), .pointer (some ⟨w.heap.size, 0, none⟩), .int .u64 150], .iface 266 (.agg #[.pointer (some ⟨4, 38, none⟩)])] (asW127 t w) R) (hret : ∀ e w', R e w' → ∃ u, e = .returned u) :
    Calls prog 55 #[.iface et v, .iface 127 (.pointer (some t))] w R := by
  have h102 := @run_callFunc_extern prog 102 _ (fun args => ReflectliteValue.unpack (args.getD 0 (.tuple #[]))) Tryz.func102 (by kernel_rfl) (by kernel_rfl) (by kernel_rfl) (by kernel_rfl)
  have h103 := @run_callFunc_extern prog 103 _ (ReflectliteValue.methodAny (ReflectliteValue.valueError "reflectlite.Value.Type" 0) (fun t _ _ _ => ReflectliteType.toType t)) Tryz.func103 (by kernel_rfl) (by kernel_rfl) (by kernel_rfl) (by kernel_rfl)
  have h104 := @run_callFunc_extern prog 104 _ (ReflectliteValue.method (ReflectliteValue.valueError "reflectlite.Value.IsNil" 0) ReflectliteValue.isNil) Tryz.func104 (by kernel_rfl) (by kernel_rfl) (by kernel_rfl) (by kernel_rfl)
  have h343 := @run_callFunc_extern prog 343 _ (ReflectliteType.abiMethod fun t => do pure (.int .u8 (← Rtype.kind t))) Tryz.func343 (by kernel_rfl) (by kernel_rfl) (by kernel_rfl) (by kernel_rfl)
  have h356 := @run_callFunc_extern prog 356 _ (ReflectliteType.method ReflectliteType.elem) Tryz.func356 (by kernel_rfl) (by kernel_rfl) (by kernel_rfl) (by kernel_rfl)
  have h357 := @run_callFunc_extern prog 357 _ (ReflectliteType.relation "Implements" ReflectliteType.implements_) Tryz.func357 (by kernel_rfl) (by kernel_rfl) (by kernel_rfl) (by kernel_rfl)
  have f6 := valueOf127
  have f7 := type127
  have mK := methodKind
  have mE := methodElem
  have mI := methodImplements
  have k1 := kind127
  have k2 := kind38
  have e27 := elem127
  have i25 := implements38
  have n8 := isNil127 ⟨w.heap.size, 0, none⟩ t (asW127 t w) (by simp [asW127])
  have hlt : 0 < w.heap.size := by
    rcases Nat.eq_zero_or_pos w.heap.size with h0 | h
    · simp [World.cell?, h0] at hg
    · exact h
  have hg2 : (asW127 t w).cell? ⟨0, 0, none⟩ = some (.iface 266 (.agg #[.pointer (some ⟨4, 62, none⟩)])) := by
    rw [asW127, World.cell?_alloc_lt _ _ ⟨0, 0, none⟩ (by simp), World.cell?_alloc_lt _ _ ⟨0, 0, none⟩ hlt]; exact hg
  simp only [asW127] at n8 hg2 h
  go_enter Tryz.func55, Tryz.ntmps55
  go_wp2_with (go_at_call 105; refine h.mono ?_; rintro e w' hR; obtain ⟨u, rfl⟩ := hret e w' hR)
  exact hR

def asW332 (t : Addr) (w : World) : World := (w.alloc (.cells #[.pointer (some t)] 332)).alloc (.cells #[.pointer (some ⟨4, 332, none⟩), .pointer (some ⟨w.heap.size, 0, none⟩), .int .u64 150] 199)
set_option maxHeartbeats 4000000 in
theorem as55_332 (et : TypeId) (v : Value) (t : Addr) (w : World) (R : Ending → World → Prop) (hg : w.cell? ⟨0, 0, none⟩ = some (.iface 266 (.agg #[.pointer (some ⟨4, 62, none⟩)])))
    (h : Calls prog 105 #[.iface et v, .iface 332 (.pointer (some t)), .agg #[.pointer (some ⟨4, 332, none⟩), .pointer (some ⟨w.heap.size, 0, none⟩), .int .u64 150], .iface 266 (.agg #[.pointer (some ⟨4, 257, none⟩)])] (asW332 t w) R) (hret : ∀ e w', R e w' → ∃ u, e = .returned u) :
    Calls prog 55 #[.iface et v, .iface 332 (.pointer (some t))] w R := by
  have h102 := @run_callFunc_extern prog 102 _ (fun args => ReflectliteValue.unpack (args.getD 0 (.tuple #[]))) Tryz.func102 (by kernel_rfl) (by kernel_rfl) (by kernel_rfl) (by kernel_rfl)
  have h103 := @run_callFunc_extern prog 103 _ (ReflectliteValue.methodAny (ReflectliteValue.valueError "reflectlite.Value.Type" 0) (fun t _ _ _ => ReflectliteType.toType t)) Tryz.func103 (by kernel_rfl) (by kernel_rfl) (by kernel_rfl) (by kernel_rfl)
  have h104 := @run_callFunc_extern prog 104 _ (ReflectliteValue.method (ReflectliteValue.valueError "reflectlite.Value.IsNil" 0) ReflectliteValue.isNil) Tryz.func104 (by kernel_rfl) (by kernel_rfl) (by kernel_rfl) (by kernel_rfl)
  have h343 := @run_callFunc_extern prog 343 _ (ReflectliteType.abiMethod fun t => do pure (.int .u8 (← Rtype.kind t))) Tryz.func343 (by kernel_rfl) (by kernel_rfl) (by kernel_rfl) (by kernel_rfl)
  have h356 := @run_callFunc_extern prog 356 _ (ReflectliteType.method ReflectliteType.elem) Tryz.func356 (by kernel_rfl) (by kernel_rfl) (by kernel_rfl) (by kernel_rfl)
  have h357 := @run_callFunc_extern prog 357 _ (ReflectliteType.relation "Implements" ReflectliteType.implements_) Tryz.func357 (by kernel_rfl) (by kernel_rfl) (by kernel_rfl) (by kernel_rfl)
  have f6 := valueOf332
  have f7 := type332
  have mK := methodKind
  have mE := methodElem
  have mI := methodImplements
  have k1 := kind332
  have k2 := kind257
  have e27 := elem332
  have i25 := implements257
  have n8 := isNil332 ⟨w.heap.size, 0, none⟩ t (asW332 t w) (by simp [asW332])
  have hlt : 0 < w.heap.size := by
    rcases Nat.eq_zero_or_pos w.heap.size with h0 | h
    · simp [World.cell?, h0] at hg
    · exact h
  have hg2 : (asW332 t w).cell? ⟨0, 0, none⟩ = some (.iface 266 (.agg #[.pointer (some ⟨4, 62, none⟩)])) := by
    rw [asW332, World.cell?_alloc_lt _ _ ⟨0, 0, none⟩ (by simp), World.cell?_alloc_lt _ _ ⟨0, 0, none⟩ hlt]; exact hg
  simp only [asW332] at n8 hg2 h
  go_enter Tryz.func55, Tryz.ntmps55
  go_wp2_with (go_at_call 105; refine h.mono ?_; rintro e w' hR; obtain ⟨u, rfl⟩ := hret e w' hR)
  exact hR

end CwT

