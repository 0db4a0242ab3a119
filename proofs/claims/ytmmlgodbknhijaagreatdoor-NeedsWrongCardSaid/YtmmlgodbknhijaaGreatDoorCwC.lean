/-
  delete; copy and clear; lengths; min and max; bytes to a string; what is appended.
-/
import Derived.Test.YtmmlgodbknhijaaGreatDoorCwB
namespace Cw
open Go

section
variable {P : Program} {ρ : Rho} {π : Pi} {pb : PB} {h : AH} {w : World}

theorem v_delete (hR : R ρ h w) (hP : RP ρ π h pb w) {t kt e kT : TypeId} {ks : Bool} {i : Nat} {k ck cm : Value} {ty : TypeId} (ht : P.underlying t = some (.map kt e)) (hks : keyKind P kt = some ks)
    (hm : FV ρ π pb (.map (some i)) cm) (hk : FV ρ π pb k ck) (hko : keyOk ks k = true) {kvs : List (Value × Value)} (hob : h.m.get i = some (.map kvs)) {r : Option Value} (hf : findKV k kvs = some r) :
    ValOk ρ π pb h w ((Builtin.delete_ #[t, kT] ty #[cm, ck]).run P w) none pb ⟨h.m.set i (some (.map (delKV k kvs))), h.nx⟩ := by
  obtain ⟨d, hd1, hd2⟩ := keyKind_spec hks
  have e0 : k = ck := (hk.key hko).symm
  subst e0
  cases hm with
  | v _ _ hm =>
    cases hm with
    | map _ s hs =>
      obtain ⟨es, clock, p1, p2⟩ := block_elem hR hob hs
      obtain ⟨f1, f2⟩ := find_spec hko hd2 0 p2
      have hget : (getObj s.b).run P w = .ok (.map ⟨es⟩ clock) w := by simp [getObj, Sem.run, p1]
      have fin : ∀ es', VK ρ (delKV k kvs) es' → (setObj s.b (.map ⟨es'⟩ clock)).run P w = .ok () { w with heap := w.heap.setIfInBounds s.b (.map ⟨es'⟩ clock) } →
          (Builtin.delete_ #[t, kT] ty #[.map (some s.b), k]).run P w = ((setObj s.b (.map ⟨es'⟩ clock)).run P w).andThen (fun _ w' => .ok (.tuple #[]) w') →
          ValOk ρ π pb h w ((Builtin.delete_ #[t, kT] ty #[.map (some s.b), k]).run P w) none pb ⟨h.m.set i (some (.map (delKV k kvs))), h.nx⟩ := by
        intro es' hvk hset hrun
        obtain ⟨g1, g2, g3⟩ := run_setObj (P := P) (o' := .map ⟨es'⟩ clock) p1 (by simp)
        have hok : objOk ρ { w with heap := w.heap.setIfInBounds s.b (.map ⟨es'⟩ clock) } s (.map (delKV k kvs)) := ⟨_, _, g3, hvk⟩
        have hR' := hR.upd (o' := .map (delKV k kvs)) hob hs rfl g2.heap hok
        have st := stp_upd (o' := .map (delKV k kvs)) hob hs rfl rfl g2 (fun _ => none)
        exact ⟨.tuple #[], _, ρ, π, by rw [hrun, hset]; rfl, hR', hP.step hR hR' st (fun _ => rfl), st.lift (fun _ => rfl) π, PiOk.refl _ _, fun u hu => by simp at hu⟩
      cases r with
      | none =>
        obtain ⟨q, _⟩ := f1 hf
        refine fin es (by rw [(findNone_set hf k).2]; exact p2) (run_setObj p1 (by simp)).1 ?_
        simp only [Builtin.delete_, List.getElem?_toArray, List.getElem?_cons_zero, List.getElem?_cons_succ, Sem.run_bind, run_underlying ht, Result.andThen_ok, hget, run_checkKey hd1 hd2 hko]
        rw [run_findKey hd1 (r := none) q]
        simp
      | some v0 =>
        obtain ⟨j, e', q1, q2, q3, q4, q5, q6⟩ := f2 v0 hf
        have hlt : j < es.length := by
          rcases Nat.lt_or_ge j es.length with h | h
          · exact h
          · rw [List.getElem?_eq_none h] at q1; simp at q1
        refine fin (es.eraseIdx j) q6 (run_setObj p1 (by simp)).1 ?_
        have hera : (Array.eraseIdxIfInBounds ⟨es⟩ j) = (⟨es.eraseIdx j⟩ : Array MapEntry) := by
          apply Array.ext'; simp [Array.eraseIdxIfInBounds, hlt]
        simp only [Builtin.delete_, List.getElem?_toArray, List.getElem?_cons_zero, List.getElem?_cons_succ, Sem.run_bind, run_underlying ht, Result.andThen_ok, hget, run_checkKey hd1 hd2 hko]
        rw [run_findKey hd1 (r := some (0 + j, e'.val)) q2]
        simp [hera]

theorem v_lenM (hR : R ρ h w) (hP : RP ρ π h pb w) {t kt e ty : TypeId} {m cm : Value} {n : Nat} (ht : P.underlying t = some (.map kt e)) (hm : FV ρ π pb m cm)
    (hn : (match (generalizing := false) m with
    | .map none => some 0
    | .map (some r) => match h.m.get r with
      | some (.map kvs) => some kvs.length
      | _ => none
    | _ => none : Option Nat) = some n) :
    ValOk ρ π pb h w ((Builtin.len_ #[t] ty #[cm]).run P w) (some (.int .i64 n)) pb h := by
  cases m with
  | map r =>
    cases r with
    | none =>
      simp only [Option.some.injEq] at hn; subst hn
      cases hm.scal rfl
      refine ValOk.sameV hR hP (.int .i64 0) ?_ (.int _ _)
      simp [Builtin.len_, run_underlying ht, goInt]
    | some i =>
      cases hob : h.m.get i with
      | none => simp [hob] at hn
      | some ob =>
        cases ob with
        | cells => simp [hob] at hn
        | raw => simp [hob] at hn
        | map kvs =>
          simp only [hob, Option.some.injEq] at hn; subst hn
          cases hm with
          | v _ _ hm =>
            cases hm with
            | map _ s hs =>
              obtain ⟨es, clock, p1, p2⟩ := block_elem hR hob hs
              have hget : (getObj s.b).run P w = .ok (.map ⟨es⟩ clock) w := by simp [getObj, Sem.run, p1]
              refine ValOk.sameV hR hP (.int .i64 kvs.length) ?_ (.int _ _)
              simp [Builtin.len_, run_underlying ht, goInt, hget, p2.length]
  | _ => simp at hn
theorem v_lenS (hR : R ρ h w) (hP : RP ρ π h pb w) {t ty : TypeId} {l : List UInt8} {c : Value} (ht : P.underlying t = some .string) (hx : FV ρ π pb (.string ⟨⟨l⟩⟩) c) :
    ValOk ρ π pb h w ((Builtin.len_ #[t] ty #[c]).run P w) (some (.int .i64 l.length)) pb h := by
  cases hx.str
  refine ValOk.sameV hR hP (.int .i64 l.length) ?_ (.int _ _)
  have hs : (ByteArray.mk ⟨l⟩).size = l.length := rfl
  simp [Builtin.len_, run_underlying ht, goInt, hs]
theorem v_lenV (hR : R ρ h w) (hP : RP ρ π h pb w) {t e ty : TypeId} {a : Option Addr} {n cc : Nat} {c : Value} (ht : P.underlying t = some (.slice e)) (hx : FV ρ π pb (.slice a n cc) c) :
    ValOk ρ π pb h w ((Builtin.len_ #[t] ty #[c]).run P w) (some (.int .i64 n)) pb h := by
  have : ∃ ca cap, c = .slice ca n cap := by
    cases a with
    | none => obtain ⟨rfl, rfl, _⟩ := hx.sliceNil; exact ⟨_, _, rfl⟩
    | some a => obtain ⟨ca, cap, rfl, _⟩ := hx.sliceInv; exact ⟨_, _, rfl⟩
  obtain ⟨ca, cap, rfl⟩ := this
  refine ValOk.sameV hR hP (.int .i64 n) ?_ (.int _ _)
  simp [Builtin.len_, run_underlying ht, goInt]
theorem v_lenA (hR : R ρ h w) (hP : RP ρ π h pb w) {t e ty : TypeId} {n : Nat} {c : Value} (ht : P.underlying t = some (.array n e)) :
    ValOk ρ π pb h w ((Builtin.len_ #[t] ty #[c]).run P w) (some (.int .i64 n)) pb h := by
  refine ValOk.sameV hR hP (.int .i64 n) ?_ (.int _ _)
  simp [Builtin.len_, run_underlying ht, goInt]

theorem ints_of {xs : List (Option Value)} {cs : List Value} (hl : OL ρ π pb xs cs) : ∀ {ns : List Int}, intsOf xs = some ns → ∃ ks : List IntKind, cs = (ks.zip ns).map (fun p => Value.int p.1 p.2) ∧ ks.length = ns.length := by
  induction hl with
  | nil => intro ns h; simp [intsOf] at h; subst h; exact ⟨[], rfl, rfl⟩
  | cons x c xs cs h hs ih =>
    intro ns hn
    cases x with
    | none => simp [intsOf] at hn
    | some x =>
      cases x with
      | int k n =>
        simp only [intsOf] at hn
        cases hq : intsOf xs with
        | none => simp [hq] at hn
        | some ms =>
          simp only [hq, Option.some.injEq] at hn; subst hn
          obtain ⟨ks, h1, h2⟩ := ih hq
          cases (h _ rfl).int
          exact ⟨k :: ks, by simp [h1], by simp [h2]⟩
      | _ => simp [intsOf] at hn
theorem run_min (k : IntKind) : ∀ (ks : List IntKind) (ns : List Int) (x : Int), ks.length = ns.length →
    (((ks.zip ns).map (fun p => Value.int p.1 p.2)).foldlM Builtin.min2 (.int k x)).run P w = .ok (.int k (minL x ns)) w
  | [], [], x, _ => by simp [minL]
  | _ :: _, [], _, h => by simp at h
  | [], _ :: _, _, h => by simp at h
  | j :: ks, y :: ns, x, h => by
    have e : (if y < x then y else x) = (bif decide (y < x) then y else x) := by cases hd : decide (y < x) <;> simp at hd <;> simp [hd]; omega
    simp only [List.zip_cons_cons, List.map_cons, List.foldlM_cons, Sem.run_bind, Builtin.min2, Sem.run_pure, Result.andThen_ok, minL]
    rw [e]; exact run_min k ks ns _ (by simpa using h)
theorem run_max (k : IntKind) : ∀ (ks : List IntKind) (ns : List Int) (x : Int), ks.length = ns.length →
    (((ks.zip ns).map (fun p => Value.int p.1 p.2)).foldlM Builtin.max2 (.int k x)).run P w = .ok (.int k (maxL x ns)) w
  | [], [], x, _ => by simp [maxL]
  | _ :: _, [], _, h => by simp at h
  | [], _ :: _, _, h => by simp at h
  | j :: ks, y :: ns, x, h => by
    have e : (if x < y then y else x) = (bif decide (x < y) then y else x) := by cases hd : decide (x < y) <;> simp at hd <;> simp [hd]; omega
    simp only [List.zip_cons_cons, List.map_cons, List.foldlM_cons, Sem.run_bind, Builtin.max2, Sem.run_pure, Result.andThen_ok, maxL]
    first
      | (rw [e]; exact run_max k ks ns _ (by simpa using h))
      | skip
theorem v_min (hR : R ρ h w) (hP : RP ρ π h pb w) {ts : Array TypeId} {ty : TypeId} {k : IntKind} {x : Int} {xs : List (Option Value)} {c : Value} {cs : List Value} {ns : List Int}
    (hx : FV ρ π pb (.int k x) c) (hl : OL ρ π pb xs cs) (hn : intsOf xs = some ns) : ValOk ρ π pb h w ((Builtin.min_ ts ty ⟨c :: cs⟩).run P w) (some (.int k (minL x ns))) pb h := by
  obtain ⟨ks, rfl, h2⟩ := ints_of hl hn
  cases hx.int
  exact ValOk.sameV hR hP _ (by simp only [Builtin.min_]; exact run_min k ks ns x h2) (.int _ _)
theorem v_max (hR : R ρ h w) (hP : RP ρ π h pb w) {ts : Array TypeId} {ty : TypeId} {k : IntKind} {x : Int} {xs : List (Option Value)} {c : Value} {cs : List Value} {ns : List Int}
    (hx : FV ρ π pb (.int k x) c) (hl : OL ρ π pb xs cs) (hn : intsOf xs = some ns) : ValOk ρ π pb h w ((Builtin.max_ ts ty ⟨c :: cs⟩).run P w) (some (.int k (maxL x ns))) pb h := by
  obtain ⟨ks, rfl, h2⟩ := ints_of hl hn
  cases hx.int
  exact ValOk.sameV hR hP _ (by simp only [Builtin.max_]; exact run_max k ks ns x h2) (.int _ _)

/-! ### sources -/
theorem src_slice (hR : R ρ h w) (hP : RP ρ π h pb w) {x cx : Value} (hx : FV ρ π pb x cx) {sz : Nat} {vs : List Value} (hs : sliceCells pb h sz x = some vs) :
    ∃ a k c, x = .slice a k c ∧ Src P ρ w sz cx k vs := by
  obtain ⟨ca, n, cc, h1, h2, ⟨ax, ac, h3⟩, h4⟩ := slice_cells (P := P) hR hP hx hs
  refine ⟨ax, n, ac, h3, ⟨by rw [h1]; simp [Builtin.lenOf], ?_, h2⟩⟩
  obtain ⟨cs, q1, q2⟩ := h4 n (Nat.le_refl _)
  rw [List.take_of_length_le (by rw [h2]; exact Nat.le_refl _)] at q2
  exact ⟨cs, q1, q2⟩
theorem src_str {l : List UInt8} : Src P ρ w 1 (.string ⟨⟨l⟩⟩) l.length (l.map fun b => Value.int .u8 b.toNat) :=
  ⟨rfl, ⟨l.map fun b => Value.int .u8 b.toNat, fun d => by have := str_cells (P := P) (w := { w with drawn := d }) (l := l) l.length (Nat.le_refl _); rwa [List.take_length] at this, bytesV ρ l⟩, by simp⟩

theorem v_convBS (hR : R ρ h w) (hP : RP ρ π h pb w) {s d e : TypeId} {x cx : Value} {cs : List Value} {bs : List UInt8} (h1 : P.underlying s = some (.slice e)) (h2 : P.underlying e = some (.int .u8)) (h3 : P.underlying d = some .string)
    (hx : FV ρ π pb x cx) (hs : sliceCells pb h 1 x = some cs) (hb : bytesOf cs = some bs) : ValOk ρ π pb h w ((convert s d cx).run P w) (some (mkStr bs)) pb h := by
  obtain ⟨ca, n, cc, g1, g2, _, g4⟩ := slice_cells (P := P) hR hP hx hs
  obtain ⟨ds, q1, q2⟩ := g4 n (Nat.le_refl _)
  rw [List.take_of_length_le (by rw [g2]; exact Nat.le_refl _)] at q2
  have q1 := q1 w.drawn
  rw [g1] at q1 ⊢
  -- the bytes, one by one
  have key : ∀ (cs ds : List Value) (bs : List UInt8), VL ρ cs ds → bytesOf cs = some bs → ∃ ns : List Int, ds = ns.map (Value.int .u8) ∧ ns.map (fun n => UInt8.ofNat n.toNat) = bs := by
    intro cs
    induction cs with
    | nil => intro ds bs hv hb; cases hv; simp [bytesOf] at hb; subst hb; exact ⟨[], rfl, rfl⟩
    | cons c cs ih =>
      intro ds bs hv hb
      cases hv with
      | cons _ c' _ ds' h1 h2 =>
        unfold bytesOf at hb
        split at hb
        · rename_i heq; cases heq
        · rename_i n r heq
          cases heq
          cases hq : bytesOf cs with
          | none => simp [hq] at hb
          | some bs' =>
            simp only [hq, Option.some.injEq] at hb; subst hb
            obtain ⟨ns, e1, e2⟩ := ih ds' bs' h2 hq
            cases h1
            exact ⟨n :: ns, by simp [e1], by simp [e2]⟩
        · simp at hb
  obtain ⟨ns, e1, e2⟩ := key cs ds bs q2 hb
  have fold : ∀ (ns : List Int) (acc : List UInt8), ns.foldl (fun (r : ByteArray) n => r.push (UInt8.ofNat n.toNat)) ⟨⟨acc⟩⟩ = ⟨⟨acc ++ ns.map fun n => UInt8.ofNat n.toNat⟩⟩ := by
    intro ns
    induction ns with
    | nil => intro acc; simp
    | cons n ns ih => 
      intro acc
      simp only [List.foldl_cons, List.map_cons]
      have : (ByteArray.mk ⟨acc⟩).push (UInt8.ofNat n.toNat) = ⟨⟨acc ++ [UInt8.ofNat n.toNat]⟩⟩ := by
        apply ByteArray.ext; simp [ByteArray.push]
      rw [this, ih]; simp
  refine ValOk.sameV hR hP (mkStr bs) ?_ (.str _)
  rw [run_convert_bytes_string w s d e ca n cc h1 h2 h3]
  cases ca with
  | none =>
    have hd : ds = [] := by
      simp only [Builtin.firstCells, Sem.run_pure, Result.ok.injEq, and_true] at q1
      have := congrArg Array.toList q1; simpa using this.symm
    rw [hd] at e1
    have : ns = [] := by cases ns with | nil => rfl | cons => simp at e1
    subst this
    simp at e2; subst e2
    rfl
  | some a =>
    have hl : (loadCells a n).run P w = .ok (ns.map (Value.int .u8)).toArray w := by
      simp only [Builtin.firstCells, Nat.mul_one] at q1
      rw [← e1]; exact q1
    rw [run_bytesToString w a n cc ns hl]
    have := fold ns []
    simp only [List.nil_append, e2] at this
    show Result.ok (Value.string (List.foldl _ ByteArray.empty ns)) w = _
    rw [show ByteArray.empty = ⟨⟨[]⟩⟩ from rfl, this]; rfl

/-! ### copy and clear -/
theorem v_storeRow (hR : R ρ h w) (hP : RP ρ π h pb w) {i o ez : Nat} {s : Seg} {us ns cns : List Value} (hob : h.m.get i = some (.cells false ez us)) (hs : ρ i = some s) (hv : VL ρ ns cns) (hone : ns.all oneCell = true)
    (hfit : o + ns.length ≤ us.length) :
    ∃ w', (storeCells ⟨s.b, s.base + o, none⟩ cns).run P w = .ok () w' ∧ R ρ ⟨h.m.set i (some (.cells false ez (setRange us o ns))), h.nx⟩ w' ∧
      RP ρ π ⟨h.m.set i (some (.cells false ez (setRange us o ns))), h.nx⟩ pb w' ∧ Stp ρ π h w ρ π ⟨h.m.set i (some (.cells false ez (setRange us o ns))), h.nx⟩ w' := by
  obtain ⟨cs, elem, fr, h1, h2, h3, h4, h5, h6⟩ := block_elem hR hob hs
  have hlen := hv.length
  obtain ⟨w', r1, r2, r3⟩ := run_storeCells (P := P) cns w cs (s.base + o) 0 (h2 rfl).1 h1 (allOne hv hone) (by omega)
  have hR' := hR.upd (w' := w') (o' := .cells false ez (setRange us o ns)) hob hs rfl r2.heap
    ⟨_, elem, fr, r3, fun _ => by rw [length_setRange]; exact h2 rfl, by rw [length_setRange]; exact h3, by rw [length_setRange]; exact h4, h5, by
      rw [length_setRange, Nat.add_zero, setRange_drop, setRange_take]; exact h6.setRange' hv o⟩
  have st := stp_upd (w' := w') (o' := .cells false ez (setRange us o ns)) hob hs rfl rfl r2 (fun _ => none)
  exact ⟨w', r1, hR', hP.step hR hR' st (fun _ => rfl), st.lift (fun _ => rfl) π⟩

theorem heap_slice {d : Addr} {n c : Nat} {cv : Value} (hx : FV ρ π pb (.slice (some d) n c) cv) (hsp : d.spot = none) : ∃ s cap, ρ d.block = some s ∧ cv = .slice (some ⟨s.b, s.base + d.off, none⟩) n cap := by
  obtain ⟨b, o, sp⟩ := d
  simp only at hsp; subst hsp
  cases hx with
  | v _ _ hx => cases hx with | slice _ _ _ _ cap s hs _ _ _ => exact ⟨s, cap, hs, rfl⟩

theorem v_copy (hR : R ρ h w) (hP : RP ρ π h pb w) {t u e ty : TypeId} {sz : Nat} (ht : P.underlying t = some (.slice e)) (hz : szOf P e = some sz) {d : Option Addr} {n c k : Nat} {cd cx : Value} {src : List Value}
    (hd : FV ρ π pb (.slice d n c) cd) (hl : (Builtin.lenOf cx).run P w = .ok k w)
    (hsrc : ∃ cs, (Builtin.firstCells sz (Nat.min k n) cx).run P w = .ok ⟨cs⟩ w ∧ VL ρ src cs) {v : Option Value} {h' : AH}
    (hev : (match (generalizing := false) d with
      | none => some (some (.int .i64 0), h)
      | some d => match d.spot, h.m.get d.block with
        | none, some (.cells false e vs) => bif Nat.ble (d.off + src.length) vs.length && src.all oneCell then
            some (some (.int .i64 (Nat.min k n)), ⟨h.m.set d.block (some (.cells false e (setRange vs d.off src))), h.nx⟩) else none
        | _, _ => none : Option (Option Value × AH)) = some (v, h')) :
    ValOk ρ π pb h w ((Builtin.copy_ #[t, u] ty #[cd, cx]).run P w) v pb h' := by
  obtain ⟨cs, q1, q2⟩ := hsrc
  cases d with
  | none =>
    obtain ⟨rfl, rfl, rfl⟩ := hd.sliceNil
    simp only [Option.some.injEq, Prod.mk.injEq] at hev
    obtain ⟨rfl, rfl⟩ := hev
    refine ValOk.sameV hR hP (.int .i64 0) ?_ (.int _ _)
    have hmin : Nat.min k 0 = 0 := Nat.min_zero k
    rw [hmin] at q1
    simp [Builtin.copy_, run_underlying ht, hl, run_sizeOf hz, hmin, q1, goInt]
  | some d =>
    simp only at hev
    split at hev
    · rename_i ez us hsp hob
      cases hb : (Nat.ble (d.off + src.length) us.length && src.all oneCell)
      · simp [hb] at hev
      · simp only [hb, cond_true, Option.some.injEq, Prod.mk.injEq] at hev
        obtain ⟨rfl, rfl⟩ := hev
        simp only [Bool.and_eq_true] at hb
        obtain ⟨s, cap, hs, rfl⟩ := heap_slice hd hsp
        obtain ⟨w', r1, r2, r3, r4⟩ := v_storeRow (P := P) (π := π) (pb := pb) hR hP (o := d.off) hob hs q2 hb.2 (Nat.le_of_ble_eq_true hb.1)
        refine ⟨.int .i64 (Nat.min k n), w', ρ, π, ?_, r2, r3, r4, PiOk.refl _ _, fun u hu => by cases hu; exact .v _ _ (.int _ _)⟩
        simp [Builtin.copy_, run_underlying ht, hl, run_sizeOf hz, q1, r1, goInt]
    · simp at hev
end
end Cw
