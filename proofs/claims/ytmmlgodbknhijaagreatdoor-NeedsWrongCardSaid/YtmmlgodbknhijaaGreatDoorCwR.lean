/-
  The relation between the abstract heap and a world; what a step may do to it.
-/
import Derived.Test.YtmmlgodbknhijaaGreatDoorCwE
import Derived.Laws.Sem
import Derived.Laws.Cells
import Derived.Laws.World
import Derived.Laws.Entries
namespace Cw
open Go

/-! ## The finite map -/
namespace T
variable {α : Type}
theorem get_nil (n : Nat) : (T.nil : T α).get n = none := by cases n <;> rfl
theorem get_lft (t : T α) (m : Nat) (h : Nat.beq (m % 2) 0 = true) : t.lft.get (m / 2) = t.get (m + 1) := by
  cases t <;> simp [lft, get, h, get_nil]
theorem get_rgt (t : T α) (m : Nat) (h : Nat.beq (m % 2) 0 = false) : t.rgt.get (m / 2) = t.get (m + 1) := by
  cases t <;> simp [rgt, get, h, get_nil]
theorem get_top (t : T α) : t.top = t.get 0 := by cases t <;> rfl
theorem get_setF (v : Option α) : ∀ (f : Nat) (t : T α) (n m : Nat), n < f → (setF f t n v).get m = if m = n then v else t.get m
  | 0, _, _, _, h => absurd h (Nat.not_lt_zero _)
  | f + 1, t, 0, m, _ => by
    cases m with
    | zero => simp [setF, get]
    | succ m =>
      simp only [setF, get]
      cases hb : Nat.beq (m % 2) 0
      · simp [get_rgt t m hb]
      · simp [get_lft t m hb]
  | f + 1, t, n + 1, m, h => by
    have hn : n / 2 < f := by omega
    cases hb : Nat.beq (n % 2) 0
    · cases m with
      | zero => simp [setF, hb, get, get_top]
      | succ m =>
        simp only [setF, hb, cond_false, get]
        cases hc : Nat.beq (m % 2) 0
        · rw [cond_false, get_setF v f _ _ _ hn, get_rgt t m hc]
          have h1 : n % 2 ≠ 0 := by intro e; rw [e] at hb; simp at hb
          have h2 : m % 2 ≠ 0 := by intro e; rw [e] at hc; simp at hc
          by_cases e : m = n
          · simp [e]
          · rw [if_neg (by omega), if_neg (by omega)]
        · rw [cond_true, get_lft t m hc]
          have h1 : n % 2 ≠ 0 := by intro e; rw [e] at hb; simp at hb
          have h2 : m % 2 = 0 := Nat.eq_of_beq_eq_true hc
          rw [if_neg (by omega)]
    · cases m with
      | zero => simp [setF, hb, get, get_top]
      | succ m =>
        have h1 : n % 2 = 0 := Nat.eq_of_beq_eq_true hb
        simp only [setF, hb, cond_true, get]
        cases hc : Nat.beq (m % 2) 0
        · rw [cond_false, get_rgt t m hc]
          have h2 : m % 2 ≠ 0 := by intro e; rw [e] at hc; simp at hc
          rw [if_neg (by omega)]
        · rw [cond_true, get_setF v f _ _ _ hn, get_lft t m hc]
          have h2 : m % 2 = 0 := Nat.eq_of_beq_eq_true hc
          by_cases e : m = n
          · simp [e]
          · rw [if_neg (by omega), if_neg (by omega)]
theorem get_set (t : T α) (n m : Nat) (v : Option α) : (t.set n v).get m = if m = n then v else t.get m := get_setF v _ _ _ _ (Nat.lt_succ_self n)
theorem get_set_same (t : T α) (n : Nat) (v : Option α) : (t.set n v).get n = v := by simp [get_set]
theorem get_set_ne (t : T α) {n m : Nat} (v : Option α) (h : m ≠ n) : (t.set n v).get m = t.get m := by simp [get_set, h]
theorem get_ofList : ∀ (xs : List α) (k : Nat) (t : T α) (n : Nat),
    (ofList xs k t).get n = if k ≤ n ∧ n < k + xs.length then xs[n - k]? else t.get n
  | [], k, t, n => by simp [ofList]; intro h1 h2; omega
  | x :: xs, k, t, n => by
    simp only [ofList, get_ofList xs (k + 1), get_set, List.length_cons]
    by_cases h : n = k
    · subst h; simp
      intro h1; omega
    · by_cases h2 : k + 1 ≤ n ∧ n < k + 1 + xs.length
      · rw [if_pos h2, if_pos (by omega)]
        have : n - k = (n - (k + 1)) + 1 := by omega
        rw [this, List.getElem?_cons_succ]
      · rw [if_neg h2, if_neg h, if_neg (by omega)]
end T

/-! ## Values -/
structure Seg where
  b : Nat
  base : Nat
  room : Nat
  esz : Nat
abbrev Rho := Nat → Option Seg
abbrev Pi := Nat → Option Nat

mutual
inductive V (ρ : Rho) : Value → Value → Prop where
  | bool (b : Bool) : V ρ (.bool b) (.bool b)
  | int (k : IntKind) (n : Int) : V ρ (.int k n) (.int k n)
  | str (s : ByteArray) : V ρ (.string s) (.string s)
  | ptrN : V ρ (.pointer none) (.pointer none)
  | ptr (i o : Nat) (s : Seg) (h : ρ i = some s) : V ρ (.pointer (some ⟨i, o, none⟩)) (.pointer (some ⟨s.b, s.base + o, none⟩))
  | sliceN : V ρ (.slice none 0 0) (.slice none 0 0)
  | slice (i o n c cap : Nat) (s : Seg) (h : ρ i = some s) (hle : n ≤ cap) (hc : c = 0 ∨ c = cap + 1) (hr : n = cap ∨ o + cap * s.esz ≤ s.room) :
      V ρ (.slice (some ⟨i, o, none⟩) n c) (.slice (some ⟨s.b, s.base + o, none⟩) n cap)
  | tail (i o cap : Nat) (a : Addr) (ha : a.spot = none) (h : cap = 0 ∨ ∃ s, ρ i = some s ∧ a = ⟨s.b, s.base + o, none⟩ ∧ o + cap * s.esz ≤ s.room) :
      V ρ (.slice (some ⟨i, o, some 1⟩) 0 0) (.slice (some a) 0 cap)
  | mapN : V ρ (.map none) (.map none)
  | map (i : Nat) (s : Seg) (h : ρ i = some s) : V ρ (.map (some i)) (.map (some s.b))
  | nilFunc : V ρ .nilFunc .nilFunc
  | nilIface : V ρ .nilIface .nilIface
  | func (f : Fn) (xs ys xs' ys' : List Value) (h1 : VL ρ xs xs') (h2 : VL ρ ys ys') : V ρ (.func f ⟨xs⟩ ⟨ys⟩) (.func f ⟨xs'⟩ ⟨ys'⟩)
  | iface (t : TypeId) (v v' : Value) (h : V ρ v v') : V ρ (.iface t v) (.iface t v')
  | agg (xs xs' : List Value) (h : VL ρ xs xs') : V ρ (.agg ⟨xs⟩) (.agg ⟨xs'⟩)
  | tup (xs xs' : List Value) (h : VL ρ xs xs') : V ρ (.tuple ⟨xs⟩) (.tuple ⟨xs'⟩)
inductive VL (ρ : Rho) : List Value → List Value → Prop where
  | nil : VL ρ [] []
  | cons (v v' : Value) (vs vs' : List Value) (h : V ρ v v') (hs : VL ρ vs vs') : VL ρ (v :: vs) (v' :: vs')
end

def Ext (ρ ρ' : Rho) : Prop := ∀ i s, ρ i = some s → ρ' i = some s
theorem Ext.refl (ρ : Rho) : Ext ρ ρ := fun _ _ h => h
theorem Ext.trans {a b c : Rho} (h : Ext a b) (k : Ext b c) : Ext a c := fun i s e => k i s (h i s e)

mutual
theorem V.mono {ρ ρ' : Rho} (hx : Ext ρ ρ') {v c : Value} (h : V ρ v c) : V ρ' v c :=
  match h with
  | .bool b => .bool b
  | .int k n => .int k n
  | .str s => .str s
  | .ptrN => .ptrN
  | .ptr i o s h => .ptr i o s (hx i s h)
  | .sliceN => .sliceN
  | .slice i o n c cap s h hle hc hr => .slice i o n c cap s (hx i s h) hle hc hr
  | .tail i o cap a ha h => .tail i o cap a ha (h.imp id fun ⟨s, h1, h2, h3⟩ => ⟨s, hx i s h1, h2, h3⟩)
  | .mapN => .mapN
  | .map i s h => .map i s (hx i s h)
  | .nilFunc => .nilFunc
  | .nilIface => .nilIface
  | .func f xs ys xs' ys' h1 h2 => .func f xs ys xs' ys' (VL.mono hx h1) (VL.mono hx h2)
  | .iface t v v' h => .iface t v v' (V.mono hx h)
  | .agg xs xs' h => .agg xs xs' (VL.mono hx h)
  | .tup xs xs' h => .tup xs xs' (VL.mono hx h)
theorem VL.mono {ρ ρ' : Rho} (hx : Ext ρ ρ') {vs cs : List Value} (h : VL ρ vs cs) : VL ρ' vs cs :=
  match h with
  | .nil => .nil
  | .cons v v' vs vs' h hs => .cons v v' vs vs' (V.mono hx h) (VL.mono hx hs)
end

theorem VL.length {ρ : Rho} {vs cs : List Value} (h : VL ρ vs cs) : vs.length = cs.length :=
  match h with
  | .nil => rfl
  | .cons _ _ _ _ _ hs => by simp [VL.length hs]
theorem VL.get {ρ : Rho} {vs cs : List Value} (h : VL ρ vs cs) (k : Nat) (v : Value) (hv : vs[k]? = some v) : ∃ c, cs[k]? = some c ∧ V ρ v c :=
  match h, k with
  | .nil, _ => by simp at hv
  | .cons _ v' _ _ h _, 0 => ⟨v', rfl, by simp at hv; subst hv; exact h⟩
  | .cons _ _ _ _ _ hs, k + 1 => by simpa using VL.get hs k v (by simpa using hv)
theorem VL.of_get {ρ : Rho} : ∀ {vs cs : List Value}, vs.length = cs.length → (∀ (k : Nat) v c, vs[k]? = some v → cs[k]? = some c → V ρ v c) → VL ρ vs cs
  | [], [], _, _ => .nil
  | [], _ :: _, h, _ => by simp at h
  | _ :: _, [], h, _ => by simp at h
  | v :: vs, c :: cs, h, hk => .cons v c vs cs (hk 0 v c rfl rfl) (VL.of_get (by simpa using h) (fun k a b ha hb => hk (k + 1) a b (by simpa using ha) (by simpa using hb)))
theorem VL.append {ρ : Rho} {a b : List Value} (h : VL ρ a b) {c d : List Value} (k : VL ρ c d) : VL ρ (a ++ c) (b ++ d) :=
  match h with
  | .nil => k
  | .cons _ _ _ _ h hs => .cons _ _ _ _ h (VL.append hs k)
theorem VL.take {ρ : Rho} {a b : List Value} (h : VL ρ a b) (n : Nat) : VL ρ (a.take n) (b.take n) :=
  match h, n with
  | .nil, _ => by simpa using VL.nil
  | .cons _ _ _ _ _ _, 0 => .nil
  | .cons _ _ _ _ h hs, n + 1 => .cons _ _ _ _ h (VL.take hs n)
theorem VL.drop {ρ : Rho} {a b : List Value} (h : VL ρ a b) (n : Nat) : VL ρ (a.drop n) (b.drop n) :=
  match h, n with
  | .nil, _ => by simpa using VL.nil
  | .cons _ _ _ _ h hs, 0 => .cons _ _ _ _ h hs
  | .cons _ _ _ _ _ hs, n + 1 => VL.drop hs n
theorem VL.set {ρ : Rho} {a b : List Value} (h : VL ρ a b) (n : Nat) {v c : Value} (hv : V ρ v c) : VL ρ (a.set n v) (b.set n c) :=
  match h, n with
  | .nil, _ => .nil
  | .cons _ _ _ _ _ hs, 0 => .cons _ _ _ _ hv hs
  | .cons _ _ _ _ h hs, n + 1 => .cons _ _ _ _ h (VL.set hs n hv)

mutual
theorem V.of_scal (ρ : Rho) (v : Value) (h : scal v = true) : V ρ v v :=
  match v with
  | .bool b => .bool b
  | .int k n => .int k n
  | .string s => .str s
  | .nilFunc => .nilFunc
  | .nilIface => .nilIface
  | .pointer none => .ptrN
  | .pointer (some _) => by simp [scal] at h
  | .slice a n c => by
    simp only [scal, Bool.and_eq_true, Option.isNone_iff_eq_none] at h
    obtain ⟨⟨rfl, h1⟩, h2⟩ := h
    rw [Nat.eq_of_beq_eq_true h1, Nat.eq_of_beq_eq_true h2]; exact .sliceN
  | .map none => .mapN
  | .map (some _) => by simp [scal] at h
  | .iface t v => .iface t v v (V.of_scal ρ v (by simpa [scal] using h))
  | .agg ⟨vs⟩ => .agg vs vs (VL.of_scal ρ vs (by simpa [scal] using h))
  | .tuple ⟨vs⟩ => .tup vs vs (VL.of_scal ρ vs (by simpa [scal] using h))
  | .float .. | .complex .. | .chan .. | .func .. => by simp [scal] at h
theorem VL.of_scal (ρ : Rho) (vs : List Value) (h : scalL vs = true) : VL ρ vs vs :=
  match vs with
  | [] => .nil
  | v :: vs => by
    simp only [scalL, Bool.and_eq_true] at h
    exact .cons v v vs vs (V.of_scal ρ v h.1) (VL.of_scal ρ vs h.2)
end
mutual
theorem V.eq_scal {ρ : Rho} {v c : Value} (hv : V ρ v c) (h : scal v = true) : c = v :=
  match hv with
  | .bool _ | .int _ _ | .str _ | .ptrN | .sliceN | .mapN | .nilFunc | .nilIface => rfl
  | .ptr .. | .slice .. | .tail .. | .map .. | .func .. => by simp [scal] at h
  | .iface t v v' h' => by rw [V.eq_scal h' (by simpa [scal] using h)]
  | .agg xs xs' h' => by rw [VL.eq_scal h' (by simpa [scal] using h)]
  | .tup xs xs' h' => by rw [VL.eq_scal h' (by simpa [scal] using h)]
theorem VL.eq_scal {ρ : Rho} {vs cs : List Value} (hv : VL ρ vs cs) (h : scalL vs = true) : cs = vs :=
  match hv with
  | .nil => rfl
  | .cons v v' vs vs' h1 h2 => by
    simp only [scalL, Bool.and_eq_true] at h
    rw [V.eq_scal h1 h.1, VL.eq_scal h2 h.2]
end

/-! ## The heap -/
def unfrozen (n : Nat) (fr : Nat × Nat) : Prop := ∀ o, o < n → ¬ (fr.1 ≤ o ∧ o < fr.2)
def unfrozenAll (fr : Nat × Nat) : Prop := ∀ o, ¬ (fr.1 ≤ o ∧ o < fr.2)
theorem unfrozenAll.at {fr : Nat × Nat} (h : unfrozenAll fr) (n : Nat) : unfrozen n fr := fun o _ => h o
def AObj.rw : AObj → Bool
  | .cells ro _ _ => !ro
  | .map _ => true
  | .raw _ _ _ _ => false
/-- keys and values, entry by entry -/
def VK (ρ : Rho) : List (Value × Value) → List MapEntry → Prop
  | [], [] => True
  | (k, v) :: r, e :: es => V ρ k e.key ∧ V ρ v e.val ∧ VK ρ r es
  | _, _ => False
def objOk (ρ : Rho) (w : World) (s : Seg) : AObj → Prop
  | .cells ro esz vs => ∃ (cs : List Value) (elem : TypeId) (fr : Nat × Nat), w.heap[s.b]? = some (.cells ⟨cs⟩ elem fr) ∧ (ro = false → unfrozen cs.length fr ∧ (esz = 0 → unfrozenAll fr)) ∧
      s.base + s.room ≤ cs.length ∧ vs.length ≤ s.room ∧ s.esz = esz ∧ VL ρ vs ((cs.drop s.base).take vs.length)
  | .map kvs => ∃ (es : List MapEntry) (clock : Nat), w.heap[s.b]? = some (.map ⟨es⟩ clock) ∧ VK ρ kvs es
  | .raw b cs t fr => s.b = b ∧ w.heap[b]? = some (.cells ⟨cs⟩ t fr)

structure R (ρ : Rho) (h : AH) (w : World) : Prop where
  dom : ∀ i s, ρ i = some s → i < h.nx
  obj : ∀ i o, h.m.get i = some o → ∃ s, ρ i = some s ∧ objOk ρ w s o
  inj : ∀ i j oi oj si sj, i ≠ j → h.m.get i = some oi → h.m.get j = some oj → ρ i = some si → ρ j = some sj → (oi.rw || oj.rw) = true → si.b ≠ sj.b

theorem VK.mono {ρ ρ' : Rho} (hx : Ext ρ ρ') : ∀ {a : List (Value × Value)} {b : List MapEntry}, VK ρ a b → VK ρ' a b
  | [], [], _ => trivial
  | [], _ :: _, h => h.elim
  | (_, _) :: _, [], h => by simp [VK] at h
  | (_, _) :: _, _ :: _, h => ⟨h.1.mono hx, h.2.1.mono hx, VK.mono hx h.2.2⟩
theorem objOk.mono {ρ ρ' : Rho} (hx : Ext ρ ρ') {w w' : World} {s : Seg} {o : AObj} (hb : w'.heap[s.b]? = w.heap[s.b]?) (h : objOk ρ w s o) : objOk ρ' w' s o := by
  cases o with
  | cells ro esz vs =>
    obtain ⟨cs, elem, fr, h1, h2, h3, h4, h5, h6⟩ := h
    exact ⟨cs, elem, fr, hb.trans h1, h2, h3, h4, h5, h6.mono hx⟩
  | map kvs =>
    obtain ⟨es, clock, h1, h2⟩ := h
    exact ⟨es, clock, hb.trans h1, h2.mono hx⟩
  | raw b cs t fr =>
    obtain ⟨rfl, h⟩ := h
    exact ⟨rfl, hb.trans h⟩
theorem objOk.lt {ρ : Rho} {w : World} {s : Seg} {o : AObj} (h : objOk ρ w s o) : s.b < w.heap.size := by
  have : ∃ x, w.heap[s.b]? = some x := by
    cases o with
    | cells ro esz vs => obtain ⟨cs, elem, fr, h1, _⟩ := h; exact ⟨_, h1⟩
    | map kvs => obtain ⟨es, clock, h1, _⟩ := h; exact ⟨_, h1⟩
    | raw b cs t fr => obtain ⟨rfl, h⟩ := h; exact ⟨_, h⟩
  obtain ⟨x, hx⟩ := this
  rcases Nat.lt_or_ge s.b w.heap.size with h | h
  · exact h
  · rw [Array.getElem?_eq_none h] at hx; simp at hx

/-- the blocks that the program may write -/
def wrB (h : AH) (ρ : Rho) (b : Nat) : Prop := ∃ i o s, h.m.get i = some o ∧ o.rw = true ∧ ρ i = some s ∧ s.b = b

structure Stp (ρ : Rho) (π : Pi) (h : AH) (w : World) (ρ' : Rho) (π' : Pi) (h' : AH) (w' : World) : Prop where
  ext : Ext ρ ρ'
  nx : h.nx ≤ h'.nx
  keep : ∀ b, b < w.heap.size → ¬ wrB h ρ b → (∀ k, π k ≠ some b) → w'.heap[b]? = w.heap[b]?
  grow : ∀ b, wrB h' ρ' b → wrB h ρ b ∨ w.heap.size ≤ b
  growp : ∀ k b, π' k = some b → π k = some b ∨ (∃ k', π k' = some b) ∨ (w.heap.size ≤ b ∧ b < w'.heap.size)
  ro : ∀ i o, h'.m.get i = some o → o.rw = false → h.m.get i = some o
  size : w.heap.size ≤ w'.heap.size
  os : w'.os = w.os
  tape : w'.tape = w.tape
  output : w'.output = w.output

theorem Stp.refl (ρ : Rho) (π : Pi) (h : AH) (w : World) : Stp ρ π h w ρ π h w :=
  ⟨Ext.refl ρ, Nat.le_refl _, fun _ _ _ _ => rfl, fun _ h => .inl h, fun _ _ h => .inl h, fun _ _ h _ => h, Nat.le_refl _, rfl, rfl, rfl⟩
theorem Stp.trans {ρ : Rho} {π : Pi} {h : AH} {w : World} {ρ₁ : Rho} {π₁ : Pi} {h₁ : AH} {w₁ : World} {ρ₂ : Rho} {π₂ : Pi} {h₂ : AH} {w₂ : World}
    (a : Stp ρ π h w ρ₁ π₁ h₁ w₁) (b : Stp ρ₁ π₁ h₁ w₁ ρ₂ π₂ h₂ w₂) : Stp ρ π h w ρ₂ π₂ h₂ w₂ where
  ext := a.ext.trans b.ext
  nx := Nat.le_trans a.nx b.nx
  keep := fun x hx hw hp => by
    rw [b.keep x (Nat.lt_of_lt_of_le hx a.size) ?_ ?_, a.keep x hx hw hp]
    · intro h1; rcases a.grow x h1 with h2 | h2
      · exact hw h2
      · omega
    · intro k hk; rcases a.growp k x hk with h2 | ⟨k', h2⟩ | h2
      · exact hp k h2
      · exact hp k' h2
      · omega
  grow := fun x hx => by
    rcases b.grow x hx with h1 | h1
    · exact a.grow x h1
    · exact .inr (Nat.le_trans a.size h1)
  growp := fun k x hk => by
    rcases b.growp k x hk with h1 | ⟨k', h1⟩ | h1
    · rcases a.growp k x h1 with h2 | h2 | h2
      · exact .inl h2
      · exact .inr (.inl h2)
      · exact .inr (.inr ⟨h2.1, Nat.lt_of_lt_of_le h2.2 b.size⟩)
    · rcases a.growp k' x h1 with h2 | h2 | h2
      · exact .inr (.inl ⟨k', h2⟩)
      · exact .inr (.inl h2)
      · exact .inr (.inr ⟨h2.1, Nat.lt_of_lt_of_le h2.2 b.size⟩)
    · exact .inr (.inr ⟨Nat.le_trans a.size h1.1, h1.2⟩)
  ro := fun i o ho hr => a.ro i o (b.ro i o ho hr) hr
  size := Nat.le_trans a.size b.size
  os := b.os.trans a.os
  tape := b.tape.trans a.tape
  output := b.output.trans a.output

/-! ## The frame -/
structure RP (ρ : Rho) (π : Pi) (h : AH) (pb : PB) (w : World) : Prop where
  box : ∀ k vs, pb.get k = some vs → ∃ (b : Nat) (cs : List Value) (elem : TypeId) (fr : Nat × Nat), π k = some b ∧ w.heap[b]? = some (.cells ⟨cs⟩ elem fr) ∧ unfrozen cs.length fr ∧ VL ρ vs cs
  inj : ∀ k k' vs vs', k ≠ k' → pb.get k = some vs → pb.get k' = some vs' → π k ≠ π k'
  apart : ∀ k vs b i o s, pb.get k = some vs → π k = some b → h.m.get i = some o → ρ i = some s → s.b ≠ b

inductive FV (ρ : Rho) (π : Pi) (pb : PB) : Value → Value → Prop where
  | v (v c : Value) (h : V ρ v c) : FV ρ π pb v c
  | ptr (k o b : Nat) (h : π k = some b) (hp : (pb.get k).isSome = true) : FV ρ π pb (.pointer (some ⟨k, o, some 0⟩)) (.pointer (some ⟨b, o, none⟩))
  | slice (k o n c b : Nat) (h : π k = some b) (hp : (pb.get k).isSome = true) (hle : n ≤ c) : FV ρ π pb (.slice (some ⟨k, o, some 0⟩) n (c + 1)) (.slice (some ⟨b, o, none⟩) n c)

def FT (ρ : Rho) (π : Pi) (pb : PB) (t : T Value) (tmps : Array Value) : Prop :=
  ∀ n v, t.get n = some v → ∃ c, tmps[n]? = some c ∧ FV ρ π pb v c

theorem FV.of_noLoc {ρ : Rho} {π : Pi} {pb : PB} {v c : Value} (h : FV ρ π pb v c) (hl : isLoc v = false) : V ρ v c := by
  cases h with
  | v _ _ h => exact h
  | ptr => simp [isLoc] at hl
  | slice => simp [isLoc] at hl
theorem V.noLoc {ρ : Rho} {v c : Value} (h : V ρ v c) : isLoc v = false := by cases h <;> rfl
end Cw
