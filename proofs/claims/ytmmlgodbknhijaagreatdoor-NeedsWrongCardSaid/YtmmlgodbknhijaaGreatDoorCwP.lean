/-
  Operations that only reckon: addresses, parts, cuts, conversions, comparisons.
-/
import Derived.Test.YtmmlgodbknhijaaGreatDoorCwO
namespace Cw
open Go

theorem pureRun_run {α : Type} {P : Program} : ∀ {e : Sem α} {v : α}, pureRun P e = some v → ∀ w, e.run P w = .ok v w := by
  intro e
  induction e with
  | pure a => intro v h w; simp [pureRun] at h; simp [Sem.run, h]
  | program k ih => intro v h w; exact ih P (by simpa [pureRun] using h) w
  | _ => intro v h; simp [pureRun] at h
theorem natLt_spec {i : Int} {n k : Nat} (h : natLt i n = some k) : 0 ≤ i ∧ i < (n : Int) ∧ k = i.toNat := by
  unfold natLt at h
  cases h1 : decide (0 ≤ i) <;> cases h2 : decide (i < (n : Int)) <;> simp [h1, h2] at h
  simp at h1 h2
  exact ⟨h1, h2, h.symm⟩
theorem natLe_spec {i : Int} {n k : Nat} (h : natLe i n = some k) : 0 ≤ i ∧ i ≤ (n : Int) ∧ k = i.toNat := by
  unfold natLe at h
  cases h1 : decide (0 ≤ i) <;> cases h2 : decide (i ≤ (n : Int)) <;> simp [h1, h2] at h
  simp at h1 h2
  exact ⟨h1, h2, h.symm⟩
theorem intOf_spec {v : Value} {i : Int} (h : intOf v = some i) : ∃ k, v = .int k i := by
  cases v <;> simp [intOf] at h
  exact ⟨_, by rw [h]⟩

section
variable {ρ : Rho} {π : Pi} {pb : PB} {h : AH} {w : World}
theorem FV.int {k : IntKind} {n : Int} {c : Value} (hv : FV ρ π pb (.int k n) c) : c = .int k n := by
  cases hv with | v _ _ hv => cases hv; rfl
theorem FV.bool {b : Bool} {c : Value} (hv : FV ρ π pb (.bool b) c) : c = .bool b := by
  cases hv with | v _ _ hv => cases hv; rfl
theorem FV.str {s : ByteArray} {c : Value} (hv : FV ρ π pb (.string s) c) : c = .string s := by
  cases hv with | v _ _ hv => cases hv; rfl
theorem FV.scal {v c : Value} (hv : FV ρ π pb v c) (hs : Cw.scal v = true) : c = v := by
  cases hv with
  | v _ _ hv => exact hv.eq_scal hs
  | ptr => simp [Cw.scal] at hs
  | slice => simp [Cw.scal] at hs
theorem FV.ptrInv {a : Addr} {c : Value} (hv : FV ρ π pb (.pointer (some a)) c) : ∃ ca : Addr, c = .pointer (some ca) ∧ ca.spot = none := by
  cases hv with
  | v _ _ hv => cases hv; exact ⟨_, rfl, rfl⟩
  | ptr => exact ⟨_, rfl, rfl⟩
theorem addr_add' {ca : Addr} (hs : ca.spot = none) (n : Nat) : ca.add n = ⟨ca.block, ca.off + n, none⟩ := by
  obtain ⟨b, o, s⟩ := ca; simp at hs; subst hs; exact addr_add b o n
theorem FV.ptrAdd {a ca : Addr} (hv : FV ρ π pb (.pointer (some a)) (.pointer (some ca))) (n : Nat) : FV ρ π pb (.pointer (some { a with off := a.off + n })) (.pointer (some (ca.add n))) := by
  cases hv with
  | v _ _ hv =>
    cases hv with
    | ptr i o s hs => rw [addr_add, Nat.add_assoc]; exact .v _ _ (.ptr i (o + n) s hs)
  | ptr k o b hb hp => rw [addr_add]; exact .ptr k (o + n) b hb hp
theorem FV.sliceInv {a : Addr} {n c : Nat} {cv : Value} (hv : FV ρ π pb (.slice (some a) n c) cv) :
    ∃ (ca : Addr) (cap : Nat), cv = .slice (some ca) n cap ∧ ca.spot = none ∧ n ≤ cap ∧ (c = 0 ∨ c = cap + 1) ∧ (n ≠ 0 ∨ c ≠ 0 → FV ρ π pb (.pointer (some a)) (.pointer (some ca))) := by
  cases hv with
  | v _ _ hv =>
    cases hv with
    | slice i o n c cap s hs hle hc hr => exact ⟨_, cap, rfl, rfl, hle, hc, fun _ => .v _ _ (.ptr i o s hs)⟩
    | tail i o cap a ha h => exact ⟨a, cap, rfl, ha, Nat.zero_le _, .inl rfl, fun h => by simp at h⟩
  | slice k o n c b hb hp hle => exact ⟨_, c, rfl, rfl, hle, .inr rfl, fun _ => .ptr k o b hb hp⟩
theorem FV.sliceNil {n c : Nat} {cv : Value} (hv : FV ρ π pb (.slice none n c) cv) : cv = .slice none 0 0 ∧ n = 0 ∧ c = 0 := by
  cases hv with
  | v _ _ hv => cases hv; exact ⟨rfl, rfl, rfl⟩
theorem FV.aggInv {xs : List Value} {cv : Value} (hv : FV ρ π pb (.agg ⟨xs⟩) cv) : ∃ ys, cv = .agg ⟨ys⟩ ∧ VL ρ xs ys := by
  cases hv with
  | v _ _ hv => cases hv with | agg _ ys hh => exact ⟨ys, rfl, hh⟩
theorem FV.tupInv {xs : List Value} {cv : Value} (hv : FV ρ π pb (.tuple ⟨xs⟩) cv) : ∃ ys, cv = .tuple ⟨ys⟩ ∧ VL ρ xs ys := by
  cases hv with
  | v _ _ hv => cases hv with | tup _ ys hh => exact ⟨ys, rfl, hh⟩

variable {P : Program}
theorem v_faddr (hR : R ρ h w) (hP : RP ρ π h pb w) {a : Addr} {c : Value} (hv : FV ρ π pb (.pointer (some a)) c) {s : TypeId} {i : Nat} {fs : Array Field} {f : Field} {z : Nat}
    (hs : P.underlying s = some (.struct fs)) (hf : fs[i]? = some f) (hz : szOf P f.type = some z) (h0 : z ≠ 0) :
    ValOk ρ π pb h w ((Instr.fieldAt s c i).run P w) (some (.pointer (some { a with off := a.off + f.offset }))) pb h := by
  obtain ⟨ca, rfl, hsp⟩ := hv.ptrInv
  refine ValOk.same hR hP (.pointer (some (ca.add f.offset))) ?_ (fun u hu => by cases hu; exact hv.ptrAdd _)
  simp [Instr.fieldAt, run_underlying hs, hf, Instr.sureAddr, fieldPlace, run_sizeOf hz, h0]
theorem v_iaddrA (hR : R ρ h w) (hP : RP ρ π h pb w) {a : Addr} {c ci : Value} (hv : FV ρ π pb (.pointer (some a)) c) {t e : TypeId} {n z : Nat} {k : IntKind} {i : Int} {j : Nat}
    (hi : FV ρ π pb (.int k i) ci) (ht : P.underlying t = some (.array n e)) (hz : szOf P e = some z) (hj : natLt i n = some j) :
    ValOk ρ π pb h w ((Instr.indexAt t c ci).run P w) (some (.pointer (some { a with off := a.off + j * z }))) pb h := by
  obtain ⟨ca, rfl, hsp⟩ := hv.ptrInv
  obtain ⟨h1, h2, rfl⟩ := natLt_spec hj
  cases hi.int
  refine ValOk.same hR hP (.pointer (some (ca.add (i.toNat * z)))) ?_ (fun u hu => by cases hu; exact hv.ptrAdd _)
  simp [Instr.indexAt, asIntOf, run_underlying ht, Instr.sureAddr, h1, h2, run_sizeOf hz]
theorem v_iaddrS (hR : R ρ h w) (hP : RP ρ π h pb w) {a : Addr} {n cc : Nat} {c ci : Value} (hv : FV ρ π pb (.slice (some a) n cc) c) {t e : TypeId} {z : Nat} {k : IntKind} {i : Int} {j : Nat}
    (hi : FV ρ π pb (.int k i) ci) (ht : P.underlying t = some (.slice e)) (hz : szOf P e = some z) (hj : natLt i n = some j) :
    ValOk ρ π pb h w ((Instr.indexAt t c ci).run P w) (some (.pointer (some { a with off := a.off + j * z }))) pb h := by
  obtain ⟨ca, cap, rfl, hsp, _, _, hp⟩ := hv.sliceInv
  obtain ⟨h1, h2, rfl⟩ := natLt_spec hj
  have hp := hp (.inl (by omega))
  cases hi.int
  refine ValOk.same hR hP (.pointer (some (ca.add (i.toNat * z)))) ?_ (fun u hu => by cases hu; exact hp.ptrAdd _)
  simp [Instr.indexAt, asIntOf, run_underlying ht, h1, h2, run_sizeOf hz]

theorem run_part {t : TypeId} {sz : Option Nat} {cs : List Value} {o : Nat} {v : Value} (hs : aggSz P t = some sz) (hr : readCells cs o sz = some v) (w : World) :
    (part t ⟨cs⟩ o).run P w = .ok v w := by
  cases sz with
  | none =>
    simp only [readCells] at hr
    simp [part, run_isAgg hs, hr]
  | some n =>
    simp only [readCells, Option.map_eq_some_iff] at hr
    obtain ⟨r, hr, rfl⟩ := hr
    obtain ⟨h1, h2⟩ := getRange_spec hr
    obtain ⟨i, hi, hn⟩ := aggSz_info hs
    have hz : szOf P t = some n := by simp [szOf, hi, hn]
    simp [part, run_isAgg hs, run_sizeOf hz, h1]
theorem v_fld (hR : R ρ h w) (hP : RP ρ π h pb w) {cs : List Value} {c : Value} (hv : FV ρ π pb (.agg ⟨cs⟩) c) {t : TypeId} {i : Nat} {fs : Array Field} {f : Field} {sz : Option Nat} {v : Value}
    (hs : P.underlying t = some (.struct fs)) (hf : fs[i]? = some f) (hz : aggSz P f.type = some sz) (hr : readCells cs f.offset sz = some v) :
    ValOk ρ π pb h w ((Instr.field t c i).run P w) (some v) pb h := by
  obtain ⟨ys, rfl, hvl⟩ := hv.aggInv
  obtain ⟨cv, h1, h2⟩ := hvl.read hr
  refine ValOk.sameV hR hP cv ?_ h2
  simp [Instr.field, run_underlying hs, hf, asAgg, run_part hz h1]
theorem v_idxA (hR : R ρ h w) (hP : RP ρ π h pb w) {cs : List Value} {c ci : Value} (hv : FV ρ π pb (.agg ⟨cs⟩) c) {t e : TypeId} {n z : Nat} {sz : Option Nat} {k : IntKind} {i : Int} {j : Nat} {v : Value}
    (hi : FV ρ π pb (.int k i) ci) (ht : P.underlying t = some (.array n e)) (hz : szOf P e = some z) (hs : aggSz P e = some sz) (hj : natLt i n = some j) (hr : readCells cs (j * z) sz = some v) :
    ValOk ρ π pb h w ((Instr.index t c ci).run P w) (some v) pb h := by
  obtain ⟨ys, rfl, hvl⟩ := hv.aggInv
  obtain ⟨h1, h2, rfl⟩ := natLt_spec hj
  cases hi.int
  obtain ⟨cv, g1, g2⟩ := hvl.read hr
  refine ValOk.sameV hR hP cv ?_ g2
  simp [Instr.index, asIntOf, run_underlying ht, h1, h2, run_sizeOf hz, run_part hs g1]
theorem v_idxS (hR : R ρ h w) (hP : RP ρ π h pb w) {l : List UInt8} {c ci : Value} (hv : FV ρ π pb (.string ⟨⟨l⟩⟩) c) {t : TypeId} {k : IntKind} {i : Int} {j : Nat} {b : UInt8}
    (hi : FV ρ π pb (.int k i) ci) (ht : P.underlying t = some .string) (hj : natLt i l.length = some j) (hb : l[j]? = some b) :
    ValOk ρ π pb h w ((Instr.index t c ci).run P w) (some (.int .u8 b.toNat)) pb h := by
  cases hv.str
  obtain ⟨h1, h2, rfl⟩ := natLt_spec hj
  cases hi.int
  refine ValOk.sameV hR hP (.int .u8 b.toNat) ?_ (.int _ _)
  have hg : (ByteArray.mk ⟨l⟩)[i.toNat]? = some b := by
    have hlt : i.toNat < l.length := by omega
    have hs : i.toNat < (ByteArray.mk ⟨l⟩).size := hlt
    rw [getElem?_pos (ByteArray.mk ⟨l⟩) i.toNat hs]
    rw [List.getElem?_eq_getElem hlt] at hb
    simp only [Option.some.injEq] at hb ⊢
    exact hb
  simp [Instr.index, asIntOf, run_underlying ht, h1, hg]
end
end Cw
