/-
  Conversions, cuts, interfaces, functions, maps, lengths.
-/
import Derived.Test.YtmmlgodbknhijaaGreatDoorCwQ
namespace Cw
open Go

section
variable {P : Program} {ρ : Rho} {π : Pi} {pb : PB} {h : AH} {w : World}

theorem v_un (hR : R ρ h w) (hP : RP ρ π h pb w) {op : UnOp} {x cx v : Value} (hx : FV ρ π pb x cx) (hs : scal x = true) (hv : scv (pureRun P (Op.unary op x)) = some v) :
    ValOk ρ π pb h w ((Op.unary op cx).run P w) (some v) pb h := by
  obtain ⟨g1, g2⟩ := scv_spec hv
  cases hx.scal hs
  exact ValOk.sameV hR hP v (pureRun_run g1 w) (V.of_scal ρ v g2)
theorem v_convI (hR : R ρ h w) (hP : RP ρ π h pb w) {s d : TypeId} {k j : IntKind} {n : Int} {k' : IntKind} {cx : Value} (hx : FV ρ π pb (.int j n) cx) (h1 : P.underlying s = some (.int k')) (h2 : P.underlying d = some (.int k)) :
    ValOk ρ π pb h w ((convert s d cx).run P w) (some (.int k (k.wrap n))) pb h := by
  cases hx.int
  refine ValOk.sameV hR hP (.int k (k.wrap n)) ?_ (.int _ _)
  simp [convert, run_underlying h1, run_underlying h2, Conv.intToInt]
theorem v_convSame (hR : R ρ h w) (hP : RP ρ π h pb w) {s d : TypeId} {b : ByteArray} {cx : Value} (hx : FV ρ π pb (.string b) cx) (h1 : P.underlying s = some .string) (h2 : P.underlying d = some .string) :
    ValOk ρ π pb h w ((convert s d cx).run P w) (some (.string b)) pb h := by
  cases hx.str
  refine ValOk.sameV hR hP (.string b) ?_ (.str _)
  simp [convert, run_underlying h1, run_underlying h2]

theorem bytesV (ρ : Rho) : ∀ (l : List UInt8), VL ρ (l.map fun b => Value.int .u8 b.toNat) (l.map fun b => Value.int .u8 b.toNat)
  | [] => .nil
  | _ :: l => .cons _ _ _ _ (.int _ _) (bytesV ρ l)

theorem heap_freeze_ne (w : World) (a : Addr) (n k : Nat) (h : k ≠ a.block) : (w.freeze a n).heap[k]? = w.heap[k]? := by
  unfold World.freeze
  split
  · rfl
  · simp only [Array.getElem?_modify]; rw [if_neg (by omega)]
theorem heap_freeze_at {w : World} {b : Nat} {cs : List Value} {e : TypeId} (hb : w.heap[b]? = some (.cells ⟨cs⟩ e (0, 0))) (o : Nat) :
    (w.freeze ⟨b, o, none⟩ 1).heap[b]? = some (.cells ⟨cs⟩ e (o, o + 1)) := by
  unfold World.freeze
  simp only [Nat.one_ne_zero, if_false, Array.getElem?_modify, if_true, hb]
  simp
theorem size_freeze (w : World) (a : Addr) (n : Nat) : (w.freeze a n).heap.size = w.heap.size := by
  unfold World.freeze; split <;> simp

theorem v_convSB (hR : R ρ h w) (hP : RP ρ π h pb w) {s d e : TypeId} {l : List UInt8} {cx : Value} (hx : FV ρ π pb (.string ⟨⟨l⟩⟩) cx) (h1 : P.underlying s = some .string) (h2 : P.underlying d = some (.slice e))
    (h3 : P.underlying e = some (.int .u8)) :
    ValOk ρ π pb h w ((convert s d cx).run P w) (some (.slice (some ⟨h.nx, 0, none⟩) l.length 0)) pb (Cw.alloc h (.cells false 1 (l.map fun b => Value.int .u8 b.toNat))) := by
  cases hx.str
  have hsz : (ByteArray.mk ⟨l⟩).size = l.length := rfl
  generalize hcap : (Question.appendCap l.length 0 e).cut (w.tape w.drawn (Question.appendCap l.length 0 e)) = cap
  have hle : l.length ≤ cap := by rw [← hcap]; simp [Question.cut]
  generalize hcs : (l.map fun b => Value.int .u8 b.toNat) ++ List.replicate (cap - l.length) (Value.int .u8 0) = cs
  have hlen : cs.length = cap := by rw [← hcs]; simp; omega
  have hh := heap_push_new ({ w with drawn := w.drawn + 1 } : World) (.cells ⟨cs⟩ e)
  have hw : (convert s d (.string ⟨⟨l⟩⟩)).run P w = .ok (.slice (some ⟨w.heap.size, 0, none⟩) l.length cap)
      ((({ w with drawn := w.drawn + 1 } : World).alloc (.cells ⟨cs⟩ e)).freeze ⟨w.heap.size, cs.length, none⟩ 1) := by
    have hcs' : (Array.map (fun b : UInt8 => Value.int IntKind.u8 b.toNat) ⟨l⟩ ++ Array.replicate (cap - l.length) (Value.int IntKind.u8 0)) = ⟨cs⟩ := by
      rw [← hcs]; simp
    simp only [convert, Sem.run_bind, run_underlying h1, run_underlying h2, run_underlying h3, Result.andThen_ok, Conv.stringToBytes, hsz, run_choose, Question.forced, Bool.false_eq_true, if_false, hcap]
    rw [hcs']
    have hsz1 : ({ w with drawn := w.drawn + 1 } : World).heap.size = w.heap.size := rfl
    generalize ({ w with drawn := w.drawn + 1 } : World) = w1 at hh hsz1 ⊢
    have hsh := shape_at hh
    simp only [newRow, Sem.run_bind, run_newObj, Result.andThen_ok, Sem.run_pure, markStringish, run_shape, World.alloc_eq, hsh]
    simp [hsz1]
  refine ValOk.allocW hR hP _ (.cells false 1 (l.map fun b => Value.int .u8 b.toNat)) _ ⟨w.heap.size, 0, cs.length, 1⟩ rfl rfl hw ?_ ?_ rfl rfl rfl ?_ ?_
  · intro k hk
    rw [heap_freeze_ne _ _ _ _ (by simp; omega)]
    exact heap_push_lt ({ w with drawn := w.drawn + 1 } : World) _ k hk
  · rw [size_freeze]; simp [World.size_alloc]
  · refine ⟨cs, e, (cs.length, cs.length + 1), heap_freeze_at hh _, fun _ => ⟨fun o ho => by simp; omega, fun h0 => by simp at h0⟩, by simp, by simp; omega, rfl, ?_⟩
    rw [List.drop_zero, ← hcs, List.take_append_of_le_length (by simp), List.take_of_length_le (by simp)]
    exact bytesV _ l
  · have := V.slice (ρ := fun i => if i = h.nx then some (⟨w.heap.size, 0, cs.length, 1⟩ : Seg) else ρ i) h.nx 0 l.length 0 cap ⟨w.heap.size, 0, cs.length, 1⟩ (by simp) hle (.inl rfl) (.inr (by simp; omega))
    simpa using this

theorem v_mkif (hR : R ρ h w) (hP : RP ρ π h pb w) {t : TypeId} {x cx : Value} (hx : FV ρ π pb x cx) (hl : isLoc x = false) {d : TypeDesc} (h1 : P.underlying t = some d) (h2 : ∀ ms, d ≠ .interface ms) :
    ValOk ρ π pb h w ((Instr.makeInterface t cx).run P w) (some (.iface t x)) pb h := by
  refine ValOk.sameV hR hP (.iface t cx) ?_ (.iface _ _ _ (hx.of_noLoc hl))
  simp only [Instr.makeInterface, Sem.run_bind, run_underlying h1, Result.andThen_ok]
  cases d <;> first | exact absurd rfl (h2 _) | rfl
theorem v_mkmap (hR : R ρ h w) (hP : RP ρ π h pb w) {t : TypeId} :
    ValOk ρ π pb h w ((Instr.makeMap t none).run P w) (some (.map (some h.nx))) pb (Cw.alloc h (.map [])) := by
  refine ValOk.alloc hR hP (.map (some w.heap.size)) (.map []) (.map #[] 0) ⟨w.heap.size, 0, 0, 0⟩ rfl rfl ?_ ?_ ?_
  · simp [Instr.makeMap]
  · exact ⟨[], 0, heap_push_new w _, trivial⟩
  · exact V.map (ρ := fun i => if i = h.nx then some (⟨w.heap.size, 0, 0, 0⟩ : Seg) else ρ i) h.nx ⟨w.heap.size, 0, 0, 0⟩ (by simp)

theorem v_tass (hR : R ρ h w) (hP : RP ρ π h pb w) {x cx : Value} {xt t : TypeId} {ok : Bool} {z v : Value} {d : TypeDesc} (hx : FV ρ π pb x cx) (h1 : P.underlying t = some d) (h2 : ∀ ms, d ≠ .interface ms)
    (hz : zeroOf P t = some z) (hv : tassV t ok z x = some v) : ValOk ρ π pb h w ((Instr.typeAssert cx xt t ok).run P w) (some v) pb h := by
  obtain ⟨z1, z2⟩ := run_zeroValue hz w
  have zt : V ρ (.tuple ⟨[z, .bool false]⟩) (.tuple ⟨[z, .bool false]⟩) := .tup _ _ (.cons _ _ _ _ (V.of_scal ρ z z2) (.cons _ _ _ _ (.bool _) .nil))
  cases x with
  | nilIface =>
    cases hx.scal rfl
    cases ok
    · simp [tassV] at hv
    · simp only [tassV, cond_true, Option.some.injEq] at hv; subst hv
      refine ValOk.sameV hR hP _ ?_ zt
      simp only [Instr.typeAssert, Sem.run_bind, run_underlying h1, Result.andThen_ok]
      cases d <;> first | exact absurd rfl (h2 _) | simp [z1]
  | iface u y =>
    cases hx with
    | v _ _ hx =>
      cases hx with
      | iface _ _ y' hy =>
        simp only [tassV] at hv
        cases hu : Nat.beq u t
        · have hne : u ≠ t := fun e => by subst e; rw [Nat.beq_refl] at hu; cases hu
          simp only [hu, cond_false] at hv
          cases ok
          · simp at hv
          · simp only [cond_true, Option.some.injEq] at hv; subst hv
            refine ValOk.sameV hR hP _ ?_ zt
            simp only [Instr.typeAssert, Sem.run_bind, run_underlying h1, Result.andThen_ok]
            cases d <;> first | exact absurd rfl (h2 _) | simp [z1, hne]
        · have he := Nat.eq_of_beq_eq_true hu
          subst he
          simp only [hu, cond_true, Option.some.injEq] at hv; subst hv
          have hv' : V ρ (bif ok then Value.tuple ⟨[y, .bool true]⟩ else y) (if ok then Value.tuple #[y', .bool true] else y') := by
            cases ok
            · exact hy
            · exact .tup _ _ (.cons _ _ _ _ hy (.cons _ _ _ _ (.bool _) .nil))
          refine ValOk.sameV hR hP _ ?_ hv'
          simp only [Instr.typeAssert, Sem.run_bind, run_underlying h1, Result.andThen_ok]
          cases d <;> first | exact absurd rfl (h2 _) | (cases ok <;> simp)
  | _ => simp [tassV] at hv
theorem v_ext (hR : R ρ h w) (hP : RP ρ π h pb w) {xs : List Value} {cx : Value} {i : Nat} {v : Value} (hx : FV ρ π pb (.tuple ⟨xs⟩) cx) (hv : xs[i]? = some v) :
    ValOk ρ π pb h w ((Instr.extract cx i).run P w) (some v) pb h := by
  obtain ⟨ys, rfl, hvl⟩ := hx.tupInv
  obtain ⟨c, h1, h2⟩ := hvl.get i v hv
  refine ValOk.sameV hR hP c ?_ h2
  simp [Instr.extract, h1]
end
end Cw
