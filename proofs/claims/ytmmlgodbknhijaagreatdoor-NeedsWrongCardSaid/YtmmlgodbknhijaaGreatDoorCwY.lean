/-
  The slice literal, make, append, copy, clear; bytes to a string.
-/
import Derived.Test.YtmmlgodbknhijaaGreatDoorCwX
import Derived.Laws.Append
import Derived.Laws.AppendOwn
import Derived.Laws.BytesString
import Derived.IntWalk
namespace Cw
open Go

section
variable {P : Program} {ρ : Rho} {π : Pi} {pb : PB} {h : AH} {w : World}

theorem V.newSlice (ρ : Rho) (hnx : Nat) (s : Seg) (n c cap : Nat) (hb : s.base = 0) (hle : n ≤ cap) (hc : c = 0 ∨ c = cap + 1) (hr : cap * s.esz ≤ s.room) :
    V (fun i => if i = hnx then some s else ρ i) (.slice (some ⟨hnx, 0, none⟩) n c) (.slice (some ⟨s.b, 0, none⟩) n cap) := by
  have := V.slice (ρ := fun i => if i = hnx then some s else ρ i) hnx 0 n c cap s (by simp) hle hc (.inr (by omega))
  rw [hb] at this; exact this

theorem v_bslice_heap (hR : R ρ h w) (hP : RP ρ π h pb w) {t e : TypeId} {n sz : Nat} {z : Value} {ids : List Nat} {vs cvs cs : List Value}
    (ht : P.underlying t = some (.slice e)) (hs : szOf P e = some sz) (hz : zeroOf P e = some z) (hsz : (cellsL z).length = sz) (hpos : 0 < n * sz) (hlim : n * sz ≤ 1048576)
    (hf : FL ρ π pb vs cvs) (hp : putParts ((List.replicate n (cellsL z)).flatten) (ids.map fun i => (i * sz, sz)) vs = some cs) (parts : Array (Nat × Value)) (hparts : parts.toList = ids.zip cvs) :
    ValOk ρ π pb h w ((Instr.buildSlice t n parts).run P w) (some (.slice (some ⟨h.nx, 0, none⟩) n (n + 1))) pb (Cw.alloc h (.cells false sz cs)) := by
  obtain ⟨ds, g1, g2⟩ := run_buildSlice ht hs hz hsz hpos hlim hf hp parts hparts w
  have hlen := g1.length
  have hcl : cs.length = n * sz := by
    have : ∀ (pl : List (Nat × Nat)) (vs cs cs' : List Value), putParts cs pl vs = some cs' → cs'.length = cs.length := by
      intro pl
      induction pl with
      | nil => intro vs cs cs' h; cases vs <;> simp [putParts] at h; rw [h]
      | cons p pl ih =>
        intro vs cs cs' h
        obtain ⟨off, sz⟩ := p
        cases vs with
        | nil => simp [putParts] at h
        | cons v vs =>
          simp only [putParts] at h
          cases hb : (Nat.beq (cellsL v).length sz && Nat.ble (off + sz) cs.length && !isLoc v)
          · simp only [hb, cond_false] at h; simp at h
          · simp only [hb, cond_true] at h; rw [ih _ _ _ h, length_setRange]
    rw [this _ _ _ _ hp]; simp [hsz]
  refine ValOk.alloc hR hP _ (.cells false sz cs) _ ⟨w.heap.size, 0, n * sz, sz⟩ rfl rfl g2 ?_ ?_
  · refine mkCells_ok (cs := ds) (elem := e) (n := cs.length) (heap_push_new w _) rfl (by simp; omega) rfl rfl (by omega) ?_
    rw [hlen, List.take_length]; exact g1.mono (ext_alloc hR _)
  · exact V.newSlice ρ h.nx ⟨w.heap.size, 0, n * sz, sz⟩ n (n + 1) n rfl (Nat.le_refl _) (.inr rfl) (Nat.le_refl _)
theorem v_bslice_priv (hR : R ρ h w) (hP : RP ρ π h pb w) {t e : TypeId} {n sz : Nat} {z : Value} {ids : List Nat} {vs cvs cs : List Value} (k : Nat) (hk : pb.get k = none)
    (ht : P.underlying t = some (.slice e)) (hs : szOf P e = some sz) (hz : zeroOf P e = some z) (hsz : (cellsL z).length = sz) (hpos : 0 < n * sz) (hlim : n * sz ≤ 1048576)
    (hf : FL ρ π pb vs cvs) (hp : putParts ((List.replicate n (cellsL z)).flatten) (ids.map fun i => (i * sz, sz)) vs = some cs) (parts : Array (Nat × Value)) (hparts : parts.toList = ids.zip cvs) :
    ValOk ρ π pb h w ((Instr.buildSlice t n parts).run P w) (some (.slice (some ⟨k, 0, some 0⟩) n (n + 1))) (pb.set k (some cs)) h := by
  obtain ⟨ds, g1, g2⟩ := run_buildSlice ht hs hz hsz hpos hlim hf hp parts hparts w
  exact ValOk.priv hR hP k hk cs ds e g1 _ g2 (.slice k 0 n n _ (by simp) (by simp [T.get_set]) (Nat.le_refl _))
theorem run_buildSlice0 {t e : TypeId} {sz : Nat} (ht : P.underlying t = some (.slice e)) (hs : szOf P e = some sz) (w : World) :
    (Instr.buildSlice t 0 #[]).run P w = .ok (.slice (some ⟨w.heap.size, 0, none⟩) 0 0) (w.alloc (.cells ⟨[]⟩ e)) := by
  simp only [Instr.buildSlice, Sem.run_bind, run_underlying ht, Result.andThen_ok, run_sizeOf hs, Nat.zero_mul]
  simp [Instr.fill, newRow, Array.range_zero']
theorem v_bslice0_heap (hR : R ρ h w) (hP : RP ρ π h pb w) {t e : TypeId} {sz : Nat} (ht : P.underlying t = some (.slice e)) (hs : szOf P e = some sz) :
    ValOk ρ π pb h w ((Instr.buildSlice t 0 #[]).run P w) (some (.slice (some ⟨h.nx, 0, none⟩) 0 1)) pb (Cw.alloc h (.cells false sz [])) := by
  refine ValOk.alloc hR hP _ (.cells false sz []) _ ⟨w.heap.size, 0, 0, sz⟩ rfl rfl (run_buildSlice0 ht hs w) ?_ ?_
  · exact mkCells_ok (cs := []) (elem := e) (n := 0) (heap_push_new w _) rfl rfl rfl rfl (Nat.le_refl _) .nil
  · exact V.newSlice ρ h.nx ⟨w.heap.size, 0, 0, sz⟩ 0 1 0 rfl (Nat.le_refl _) (.inr rfl) (by simp)
theorem v_bslice0_priv (hR : R ρ h w) (hP : RP ρ π h pb w) {t e : TypeId} {sz : Nat} (k : Nat) (hk : pb.get k = none) (ht : P.underlying t = some (.slice e)) (hs : szOf P e = some sz) :
    ValOk ρ π pb h w ((Instr.buildSlice t 0 #[]).run P w) (some (.slice (some ⟨k, 0, some 0⟩) 0 1)) (pb.set k (some [])) h :=
  ValOk.priv hR hP k hk [] [] e .nil _ (run_buildSlice0 ht hs w) (.slice k 0 0 0 _ (by simp) (by simp [T.get_set]) (Nat.le_refl _))

theorem flatten_take (zs : List Value) : ∀ (l c : Nat), l ≤ c → ((List.replicate c zs).flatten).take (l * zs.length) = (List.replicate l zs).flatten := by
  intro l c hlc
  obtain ⟨d, rfl⟩ : ∃ d, c = l + d := ⟨c - l, by omega⟩
  rw [← List.replicate_append_replicate, List.flatten_append, List.take_append_of_le_length (by simp), List.take_of_length_le (by simp)]

theorem v_mkslice (hR : R ρ h w) (hP : RP ρ π h pb w) {t e : TypeId} {i : TypeInfo} {z : Value} {l c : Int} {kl kc : IntKind} {cl cc : Value}
    (ht : P.underlying t = some (.slice e)) (hi : P.info? e = some i) (hz : zeroOf P e = some z) (hsz : (cellsL z).length = i.size) (hpos : 0 < i.size)
    (hl : FV ρ π pb (.int kl l) cl) (hc : FV ρ π pb (.int kc c) cc) (h0 : 0 ≤ l) (h1 : l ≤ c) (h2 : c * i.bytes ≤ 2147483648) (h3 : c ≤ 2147483648) :
    ValOk ρ π pb h w ((Instr.makeSlice t cl cc).run P w) (some (.slice (some ⟨h.nx, 0, none⟩) l.toNat (c.toNat + 1))) pb (Cw.alloc h (.cells false i.size ((List.replicate l.toNat (cellsL z)).flatten))) := by
  cases hl.int; cases hc.int
  obtain ⟨z1, z2⟩ := run_zeroValue hz w
  have hne : cellsL z ≠ [] := fun e0 => by rw [e0] at hsz; simp at hsz; omega
  have hr := range_cells (cellsL z) c.toNat hne
  rw [hsz] at hr
  have hr' : (Array.range (c.toNat * i.size)).map (fun j => (z.cells)[j % z.cells.size]!) = ⟨(List.replicate c.toNat (cellsL z)).flatten⟩ := by
    rw [← hr, Value.cells_eq]
  have hsi : szOf P e = some i.size := by simp [szOf, hi]
  have hwl : IntKind.i64.wrap l = l := IntWalk.i64_in l (by omega)
  have hwc : IntKind.i64.wrap c = c := IntWalk.i64_in c (by omega)
  have hbc : (i.bytes : Int) * c = c * i.bytes := Int.mul_comm _ _
  have hrun : (Instr.makeSlice t (.int kl l) (.int kc c)).run P w = .ok (.slice (some ⟨w.heap.size, 0, none⟩) l.toNat c.toNat) (w.alloc (.cells ⟨(List.replicate c.toNat (cellsL z)).flatten⟩ e)) := by
    simp only [Instr.makeSlice, Sem.run_bind, run_underlying ht, Result.andThen_ok, asInt, asIntOf, Sem.run_pure, run_typeInfo hi, hwl, hwc, hbc]
    have hcond : ((decide (c < 0) || decide (c * ↑i.bytes > 2 ^ 48)) || decide (l < 0) || decide (l > c)) = false := by
      simp; omega
    simp only [hcond, Bool.false_eq_true, if_false, Sem.run_bind, run_askRoom, Result.andThen_ok, run_sizeOf hsi]
    by_cases hc0 : c.toNat * i.size = 0
    · have hc1 : c.toNat = 0 := by
        rcases Nat.mul_eq_zero.1 hc0 with h | h
        · exact h
        · omega
      simp [hc0, hc1, newRow, Array.range_zero']
    · simp only [hc0, if_false, Sem.run_bind, z1, Result.andThen_ok, Sem.run_pure, newRow, run_newObj, hr']
      rfl
  refine ValOk.alloc hR hP _ (.cells false i.size ((List.replicate l.toNat (cellsL z)).flatten)) _ ⟨w.heap.size, 0, c.toNat * i.size, i.size⟩ rfl rfl hrun ?_ ?_
  · refine mkCells_ok (cs := (List.replicate c.toNat (cellsL z)).flatten) (elem := e) (n := l.toNat * i.size) (heap_push_new w _) rfl (by simp [hsz]) rfl (by simp [hsz]) ?_ ?_
    · simp [hsz]; exact Nat.mul_le_mul_right _ (by omega)
    · rw [← hsz, flatten_take _ _ _ (by omega)]
      have : ∀ n, VL (fun i_1 => if i_1 = h.nx then some (⟨w.heap.size, 0, c.toNat * (cellsL z).length, (cellsL z).length⟩ : Seg) else ρ i_1) ((List.replicate n (cellsL z)).flatten) ((List.replicate n (cellsL z)).flatten) := by
        intro n
        induction n with
        | zero => exact .nil
        | succ n ih => simp only [List.replicate_succ, List.flatten_cons]; exact (V.of_scal _ z z2).cells.append ih
      exact this _
  · exact V.newSlice ρ h.nx ⟨w.heap.size, 0, c.toNat * i.size, i.size⟩ l.toNat (c.toNat + 1) c.toNat rfl (by omega) (.inr rfl) (Nat.le_refl _)

theorem slice_cells (hR : R ρ h w) (hP : RP ρ π h pb w) {x cx : Value} (hx : FV ρ π pb x cx) {sz : Nat} {vs : List Value} (hs : sliceCells pb h sz x = some vs) :
    ∃ a n c, cx = .slice a n c ∧ vs.length = n * sz ∧ (∃ ax cc, x = .slice ax n cc) ∧
      ∀ k, k ≤ n → ∃ cs, (∀ d, (Builtin.firstCells sz k cx).run P { w with drawn := d } = .ok ⟨cs⟩ { w with drawn := d }) ∧ VL ρ (vs.take (k * sz)) cs := by
  cases x with
  | slice a n c =>
    cases a with
    | none =>
      obtain ⟨rfl, rfl, rfl⟩ := hx.sliceNil
      simp [sliceCells] at hs; subst hs
      refine ⟨none, 0, 0, rfl, by simp, ⟨_, _, rfl⟩, fun k hk => ⟨[], fun d => by simp [Builtin.firstCells], by simpa using VL.nil⟩⟩
    | some a =>
      obtain ⟨ca, cap, rfl, hsp, hle, hcc, hptr⟩ := hx.sliceInv
      simp only [sliceCells] at hs
      cases hn : Nat.beq n 0
      · simp only [hn, cond_false] at hs
        have hn0 : n ≠ 0 := fun e => by rw [e] at hn; cases hn
        cases hc : cellsAt pb h a with
        | none => simp [hc] at hs
        | some us =>
          simp only [hc] at hs
          obtain ⟨h1, h2⟩ := getRange_spec hs
          have hp := hptr (.inl hn0)
          obtain ⟨b, o, cs, elem, fr, m, hce, hb, hvl⟩ := block_at hR hP hp hc
          cases hce
          refine ⟨_, n, cap, rfl, h2, ⟨_, _, rfl⟩, fun k hk => ?_⟩
          have hkn : k * sz ≤ n * sz := Nat.mul_le_mul_right sz hk
          have hvd := (hvl.drop a.off).take (k * sz)
          have e1 : vs.take (k * sz) = (us.drop a.off).take (k * sz) := by
            rw [h1, List.take_take, Nat.min_eq_left hkn]
          have hlen : ((us.drop a.off).take (k * sz)).length = k * sz := by
            rw [← e1, List.length_take, h2]; omega
          have hr0 : getRange us a.off (k * sz) = some ((us.drop a.off).take (k * sz)) := getRange_of hlen
          obtain ⟨c', q1, q2⟩ := hvl.read (o := a.off) (sz := some (k * sz)) (v := .agg ⟨(us.drop a.off).take (k * sz)⟩) (by simp [readCells, hr0])
          have q3 := read_sub q1
          simp only [readCells, Option.map_eq_some_iff] at q3
          obtain ⟨r, q4, rfl⟩ := q3
          cases q2 with
          | agg _ _ q2 =>
            refine ⟨r, fun d => ?_, by rw [e1]; exact q2⟩
            simp only [Builtin.firstCells]
            exact run_loadCells_at (w := { w with drawn := d }) hb q4
      · have hn0 := Nat.eq_of_beq_eq_true hn
        subst hn0
        simp only [Nat.beq_refl, cond_true, Option.some.injEq] at hs; subst hs
        refine ⟨_, 0, cap, rfl, by simp, ⟨_, _, rfl⟩, fun k hk => ⟨[], fun d => ?_, by simpa using VL.nil⟩⟩
        obtain rfl : k = 0 := by omega
        simp [Builtin.firstCells, loadCells, loadCellsFrom]
  | _ => simp [sliceCells] at hs

theorem str_cells {l : List UInt8} (k : Nat) (hk : k ≤ l.length) : (Builtin.firstCells 1 k (.string ⟨⟨l⟩⟩)).run P w = .ok ⟨(l.take k).map fun b => Value.int .u8 b.toNat⟩ w := by
  simp only [Builtin.firstCells, Sem.run_pure, extract_mk, List.drop_zero, Nat.sub_zero]
  simp

/-- what moves to another place in its block: the old object goes, the new one stands where it stood -/
theorem R.move (hR : R ρ h w) {w' : World} {i : Nat} {o o' : AObj} {s s' : Seg} (ho : h.m.get i = some o) (hs : ρ i = some s) (hrw : o.rw = true) (hb : s'.b = s.b)
    (hsame : ∀ k, k ≠ s.b → w'.heap[k]? = w.heap[k]?) (hok : objOk (fun j => if j = h.nx then some s' else ρ j) w' s' o') :
    R (fun j => if j = h.nx then some s' else ρ j) (Cw.alloc ⟨h.m.set i none, h.nx⟩ o') w' where
  dom := fun j t ht => by
    by_cases e : j = h.nx
    · subst e; exact Nat.lt_succ_self _
    · simp only [e, if_false] at ht; exact Nat.lt_succ_of_lt (hR.dom j t ht)
  obj := fun j q hj => by
    simp only [Cw.alloc, T.get_set] at hj
    by_cases e : j = h.nx
    · simp only [e, if_true, Option.some.injEq] at hj; subst hj
      exact ⟨s', by simp [e], hok⟩
    · simp only [e, if_false] at hj
      by_cases e2 : j = i
      · simp [e2] at hj
      · simp only [e2, if_false] at hj
        obtain ⟨t, ht, hk⟩ := hR.obj j q hj
        exact ⟨t, by simp [e, ht], hk.mono (ext_alloc hR s') (hsame _ (fun e3 => hR.inj i j o q s t (fun e4 => e2 e4.symm) ho hj hs ht (by simp [hrw]) e3.symm))⟩
  inj := fun a b oa ob sa sb hab ha hb' hsa hsb hrw' => by
    simp only [Cw.alloc, T.get_set] at ha hb'
    by_cases e1 : a = h.nx
    · have e2 : b ≠ h.nx := fun e => hab (e1.trans e.symm)
      simp only [e1, if_true, Option.some.injEq] at hsa; subst hsa
      simp only [e2, if_false] at hb' hsb
      by_cases e3 : b = i
      · simp [e3] at hb'
      · simp only [e3, if_false] at hb'
        rw [hb]; exact hR.inj i b o ob s sb (fun e => e3 e.symm) ho hb' hs hsb (by simp [hrw])
    · simp only [e1, if_false] at ha hsa
      by_cases e4 : a = i
      · simp [e4] at ha
      · simp only [e4, if_false] at ha
        by_cases e2 : b = h.nx
        · simp only [e2, if_true, Option.some.injEq] at hsb; subst hsb
          rw [hb]; exact fun e => hR.inj i a o oa s sa (fun e => e4 e.symm) ho ha hs hsa (by simp [hrw]) e.symm
        · simp only [e2, if_false] at hb' hsb
          by_cases e3 : b = i
          · simp [e3] at hb'
          · simp only [e3, if_false] at hb'
            exact hR.inj a b oa ob sa sb hab ha hb' hsa hsb hrw'
theorem stp_move (hR : R ρ h w) {w' : World} {i : Nat} {o o' : AObj} {s s' : Seg} (ho : h.m.get i = some o) (hs : ρ i = some s) (hrw : o.rw = true) (hrw' : o'.rw = true) (hb : s'.b = s.b)
    (hsb : SameBut w w' s.b) (π : Pi) : Stp ρ π h w (fun j => if j = h.nx then some s' else ρ j) π (Cw.alloc ⟨h.m.set i none, h.nx⟩ o') w' where
  ext := ext_alloc hR s'
  nx := Nat.le_succ _
  keep := fun b _ hw _ => hsb.heap b (fun e => hw ⟨i, o, s, ho, hrw, hs, e.symm⟩)
  grow := fun b hw => by
    obtain ⟨j, q, t, g1, g2, g3, g4⟩ := hw
    simp only [Cw.alloc, T.get_set] at g1
    by_cases e : j = h.nx
    · simp only [e, if_true, Option.some.injEq] at g3; subst g3
      exact .inl ⟨i, o, s, ho, hrw, hs, by rw [← g4, hb]⟩
    · simp only [e, if_false] at g1 g3
      by_cases e2 : j = i
      · simp [e2] at g1
      · simp only [e2, if_false] at g1
        exact .inl ⟨j, q, t, g1, g2, g3, g4⟩
  growp := fun _ _ hk => .inl hk
  ro := fun j q hj hr => by
    simp only [Cw.alloc, T.get_set] at hj
    by_cases e : j = h.nx
    · simp only [e, if_true, Option.some.injEq] at hj; subst hj; rw [hrw'] at hr; cases hr
    · simp only [e, if_false] at hj
      by_cases e2 : j = i
      · simp [e2] at hj
      · simpa only [e2, if_false] using hj
  size := Nat.le_of_eq hsb.size.symm
  os := hsb.os
  tape := hsb.tape
  output := hsb.output
end
end Cw
