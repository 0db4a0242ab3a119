/-
  errors.Is: the loop of the library's own text.
-/
import Derived.Test.YtmmlgodbknhijaaGreatDoorCwErr
namespace CwT
open Go Cw Go.Proofs Go.RowKit Go.Extern.Stop Go.Stop Go.Extern
set_option maxRecDepth 100000
theorem ta268_257 (v : Value) (w : World) : (Instr.typeAssert (.iface 257 v) 62 268 true).run prog w = .ok (.tuple #[.nilIface, .bool false]) w := run_typeAssert_lacksB Tryz.underlying268 (by kernel_rfl) (by kernel_rfl) v 62 w
theorem ta268_38 (v : Value) (w : World) : (Instr.typeAssert (.iface 38 v) 62 268 true).run prog w = .ok (.tuple #[.nilIface, .bool false]) w := run_typeAssert_lacksB Tryz.underlying268 (by kernel_rfl) (by kernel_rfl) v 62 w
theorem tb271_257 (v : Value) (w : World) : (Instr.typeAssert (.iface 257 v) 62 271 true).run prog w = .ok (.tuple #[.iface 257 v, .bool true]) w := by kernel_rfl
theorem tb271_38 (v : Value) (w : World) : (Instr.typeAssert (.iface 38 v) 62 271 true).run prog w = .ok (.tuple #[.nilIface, .bool false]) w := run_typeAssert_lacksB Tryz.underlying271 (by kernel_rfl) (by kernel_rfl) v 62 w
theorem tb273_38 (v : Value) (w : World) : (Instr.typeAssert (.iface 38 v) 62 273 true).run prog w = .ok (.tuple #[.nilIface, .bool false]) w := run_typeAssert_lacksB Tryz.underlying273 (by kernel_rfl) (by kernel_rfl) v 62 w
theorem eql38 (m k : Int) (w : World) : (binOp .eql 62 (.iface 38 (.int .i64 m)) (.iface 38 (.int .i64 k))).run prog w = .ok (.bool (m == k)) w := by
  have h : ∀ d : Nat, (Op.equalIn (d + 1 + 1) 62 (.iface 38 (.int .i64 m)) (.iface 38 (.int .i64 k))).run prog w = .ok (m == k) w := fun d => by
    have hcomp : Tryz.t38.comparable = true := by kernel_rfl
    simp [Op.equalIn, run_underlying Tryz.underlying62, run_underlying Tryz.underlying38, hcomp]
  simp only [binOp]
  simp [Op.equal, Op.maxDepth, h 9998]
noncomputable def lb97 : Code := match Tryz.f97.body with
  | some (.seq _ (.block _ (.loop c))) => c
  | _ => .skip
/-- is a Code in a chain of Fails? -/
inductive IsC (w : World) (k : Int) : Nat → Value → Bool → Prop where
  | code (n : Nat) (m : Int) : IsC w k (n + 1) (.iface 38 (.int .i64 m)) (m == k)
  | unwrap (n b o : Nat) (t : TypeId) (x : Value) (r : Bool) (h : w.cell? ⟨b, o + 2, none⟩ = some (.iface t x)) (hs : IsC w k n (.iface t x) r) : IsC w k (n + 1) (.iface 257 (.pointer (some ⟨b, o, none⟩))) r
  | last (n b o : Nat) (h : w.cell? ⟨b, o + 2, none⟩ = some .nilIface) : IsC w k (n + 1) (.iface 257 (.pointer (some ⟨b, o, none⟩))) false
set_option maxHeartbeats 8000000 in
theorem is97 (k : Int) (x3 x4 x5 : Value) (R : Ending → World → Prop) (W : World) :
    ∀ (n : Nat) (c : Value) (r : Bool), IsC W k n c r → R (.returned (.bool r)) W → ∀ (u7 u8 u9 u10 u11 u12 u13 u14 u15 u16 u17 u18 u19 u20 u21 u22 u23 u24 u25 u26 u27 u28 u29 u30 u31 u32 u33 u34 u35 u36 u37 u38 u39 u40 u41 u42 u43 u44 u45 u46 u47 u48 u49 u50 u51 u52 u53 : Value),
      Code.rounds prog lb97 (Exit.inBlock 0 (bodyPost prog Tryz.f97 R)) n { tmps := #[c, .iface 38 (.int .i64 k), .bool true, x3, x4, x5, .bool false, u7, u8, u9, u10, u11, u12, u13, u14, u15, u16, u17, u18, u19, u20, u21, u22, u23, u24, u25, u26, u27, u28, u29, u30, u31, u32, u33, u34, u35, u36, u37, u38, u39, u40, u41, u42, u43, u44, u45, u46, u47, u48, u49, u50, u51, u52, u53], defers := [] } W := by
  have mU := methodUnwrap
  have t1 := ta268_257
  have t2 := ta268_38
  have t3 := tb271_257
  have t4 := tb271_38
  have t5 := tb273_38
  have q1 := eql38
  have q2 := fun v u w => run_eql_iface_types (P := prog) (ti := 62) 257 38 v u Tryz.underlying62 (by decide) w
  intro n c r hc
  induction hc with
  | code n m =>
    intro hR u7 u8 u9 u10 u11 u12 u13 u14 u15 u16 u17 u18 u19 u20 u21 u22 u23 u24 u25 u26 u27 u28 u29 u30 u31 u32 u33 u34 u35 u36 u37 u38 u39 u40 u41 u42 u43 u44 u45 u46 u47 u48 u49 u50 u51 u52 u53
    rw [rounds_succ]
    dsimp only [lb97, Tryz.f97]
    by_cases e : m = k
    · subst e
      simp only [beq_self_eq_true] at hR
      go_wp2
      exact hR
    · have e' : (m == k) = false := by simp [e]
      rw [e'] at hR
      go_wp2
      exact hR
  | unwrap n b o t' x r h hs ih =>
    intro hR u7 u8 u9 u10 u11 u12 u13 u14 u15 u16 u17 u18 u19 u20 u21 u22 u23 u24 u25 u26 u27 u28 u29 u30 u31 u32 u33 u34 u35 u36 u37 u38 u39 u40 u41 u42 u43 u44 u45 u46 u47 u48 u49 u50 u51 u52 u53
    have c3 := c352 b o (.iface t' x) W h
    rw [rounds_succ]
    dsimp only [lb97, Tryz.f97]
    go_wp2_with (go_at_call 352; refine c3.mono ?_; rintro e w' ⟨rfl, rfl⟩)
    exact ih hR _ _ _ _ _ _ _ _ _ _ _ _ _ _ _ _ _ _ _ _ _ _ _ _ _ _ _ _ _ _ _ _ _ _ _ _ _ _ _ _ _ _ _ _ _ _ _
  | last n b o h =>
    intro hR u7 u8 u9 u10 u11 u12 u13 u14 u15 u16 u17 u18 u19 u20 u21 u22 u23 u24 u25 u26 u27 u28 u29 u30 u31 u32 u33 u34 u35 u36 u37 u38 u39 u40 u41 u42 u43 u44 u45 u46 u47 u48 u49 u50 u51 u52 u53
    have c3 := c352 b o .nilIface W h
    rw [rounds_succ]
    dsimp only [lb97, Tryz.f97]
    go_wp2_with (go_at_call 352; refine c3.mono ?_; rintro e w' ⟨rfl, rfl⟩)
    exact hR

theorem is97c (k : Int) (n : Nat) (c : Value) (r : Bool) (R : Ending → World → Prop) (w : World) (hc : IsC w k n c r) (hR : R (.returned (.bool r)) w) :
    Calls prog 97 #[c, .iface 38 (.int .i64 k), .bool true] w R := by
  go_enter Tryz.func97, Tryz.ntmps97
  go_wp2
  refine wp_loop_rounds n ?_
  exact is97 k undef undef undef R w n c r hc hR undef undef undef undef undef undef undef undef undef undef undef undef undef undef undef undef undef undef undef undef undef undef undef undef undef undef undef undef undef undef undef undef undef undef undef undef undef undef undef undef undef undef undef undef undef undef undef
theorem methodComparable' (w : World) : (ReflectliteType.method (fun t => do Rtype.noPackHeld "Comparable" t; (fun a => Value.bool a.comparable) <$> typeInfo t) #[.agg #[.pointer (some ⟨4, 38, none⟩)]]).run prog w = .ok (.bool true) w := by kernel_rfl
theorem IsC.iface {w : World} {k : Int} {n : Nat} {c : Value} {r : Bool} (h : IsC w k n c r) : ∃ t v, c = .iface t v := by
  cases h <;> exact ⟨_, _, rfl⟩
set_option maxHeartbeats 4000000 in
theorem c48 (k : Int) (n : Nat) (c : Value) (r : Bool) (w : World) (hc : IsC w k n c r) :
    Calls prog 48 #[c, .iface 38 (.int .i64 k)] w fun e w' => e = .returned (.bool r) ∧ w' = w := by
  have h96 := @run_callFunc_extern prog 96 _ ReflectliteType.typeOf Tryz.func96 (by kernel_rfl) (by kernel_rfl) (by kernel_rfl) (by kernel_rfl)
  have h355 := @run_callFunc_extern prog 355 _ (ReflectliteType.method fun t => do Rtype.noPackHeld "Comparable" t; pure (.bool (← typeInfo t).comparable)) Tryz.func355 (by kernel_rfl) (by kernel_rfl) (by kernel_rfl) (by kernel_rfl)
  have tO := typeOf38
  have mC := methodComparable
  have cC := methodComparable'
  have cD : ∀ w, (typeInfo 38).run prog w = .ok Tryz.t38 w := fun w => by kernel_rfl
  have h97 := is97c k n c r (fun e w' => e = .returned (.bool r) ∧ w' = w) w hc ⟨rfl, rfl⟩
  obtain ⟨t, v, rfl⟩ := hc.iface
  clear hc
  go_enter Tryz.func48, Tryz.ntmps48
  go_wp2_with (go_at_call 97; refine h97.mono ?_; rintro e w' ⟨rfl, rfl⟩)
  go_ret
  exact ⟨rfl, rfl⟩
theorem eqlN (v : Value) (t : TypeId) (w : World) : (binOp .eql 62 .nilIface (.iface t v)).run prog w = .ok (.bool false) w := by
  have h : ∀ d : Nat, (Op.equalIn (d + 1) 62 .nilIface (.iface t v)).run prog w = .ok false w := fun d => by
    simp [Op.equalIn, run_underlying Tryz.underlying62]
  simp only [binOp]
  simp [Op.equal, Op.maxDepth, h 9999]
theorem c48n (k : Int) (w : World) : Calls prog 48 #[.nilIface, .iface 38 (.int .i64 k)] w fun e w' => e = .returned (.bool false) ∧ w' = w := by
  have q := eqlN
  go_enter Tryz.func48, Tryz.ntmps48
  go_wp2
  go_ret
  exact ⟨rfl, rfl⟩

end CwT
