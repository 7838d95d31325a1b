/- The small machine against the model: values, operands. (Part of the proof of a statement about the given program; no condition.) -/
import Derived.Test.YtmldcbpkphigeaaGreatDoorA0
import Derived.Wp
import Derived.Laws.Strings2
set_option linter.unusedVariables false
set_option linter.unusedSimpArgs false
noncomputable section
/- The small machine and the model: how values, blocks and heaps are alike; how the two go on together. -/
namespace Go.Am

/-- Where a block is, and how many cells it has there. -/
abbrev Rho := Nat → Option (Nat × Nat)

mutual
inductive VR (ρ : Rho) : AVal → Value → Prop where
  | bool (b : Bool) : VR ρ (.bool b) (.bool b)
  | int (k : IntKind) (n : Int) : VR ρ (.int k n) (.int k n)
  | str (s : List Nat) (b : ByteArray) (h : b.data.toList.map UInt8.toNat = s) : VR ρ (.str s) (.string b)
  | ptr0 : VR ρ .ptr0 (.pointer none)
  | ptr (b o c n : Nat) (h : ρ b = some (c, n)) : VR ρ (.ptr b o) (.pointer (some ⟨c, o, none⟩))
  | opq (a : Addr) : VR ρ .opq (.pointer (some a))
  | slice0 : VR ρ .slice0 (.slice none 0 0)
  | slice (b o l k c n : Nat) (h : ρ b = some (c, n)) : VR ρ (.slice b o l (.exact k)) (.slice (some ⟨c, o, none⟩) l k)
  | sliceG (b o l g k c n : Nat) (h : ρ b = some (c, n)) (hl : l ≤ k) (hn : o + k * g = n) : VR ρ (.slice b o l (.grown g)) (.slice (some ⟨c, o, none⟩) l k)
  | map0 : VR ρ .map0 (.map none)
  | map (b c n : Nat) (h : ρ b = some (c, n)) : VR ρ (.map b) (.map (some c))
  | fn (f : Fn) (xs ys : List AVal) (us vs : List Value) (hx : VRs ρ xs us) (hy : VRs ρ ys vs) : VR ρ (.fn f xs ys) (.func f ⟨us⟩ ⟨vs⟩)
  | fn0 : VR ρ .fn0 .nilFunc
  | iface (t : TypeId) (x : AVal) (v : Value) (h : VR ρ x v) : VR ρ (.iface t x) (.iface t v)
  | iface0 : VR ρ .iface0 .nilIface
  | agg (xs : List AVal) (vs : List Value) (h : VRs ρ xs vs) (ho : ∀ x ∈ xs, x.oneCell = true) : VR ρ (.agg xs) (.agg ⟨vs⟩)
  | tup (xs : List AVal) (vs : List Value) (h : VRs ρ xs vs) : VR ρ (.tup xs) (.tuple ⟨vs⟩)
inductive VRs (ρ : Rho) : List AVal → List Value → Prop where
  | nil : VRs ρ [] []
  | cons (x : AVal) (v : Value) (xs : List AVal) (vs : List Value) (h : VR ρ x v) (hs : VRs ρ xs vs) : VRs ρ (x :: xs) (v :: vs)
end

def Ext' (ρ ρ' : Rho) : Prop := ∀ b p, ρ b = some p → ρ' b = some p

mutual
theorem VR.ext {ρ ρ' : Rho} (e : Ext' ρ ρ') : ∀ {x : AVal} {v : Value}, VR ρ x v → VR ρ' x v
  | _, _, .bool b => .bool b
  | _, _, .int k n => .int k n
  | _, _, .str s b h => .str s b h
  | _, _, .ptr0 => .ptr0
  | _, _, .ptr b o c n h => .ptr b o c n (e _ _ h)
  | _, _, .opq a => .opq a
  | _, _, .slice0 => .slice0
  | _, _, .slice b o l k c n h => .slice b o l k c n (e _ _ h)
  | _, _, .sliceG b o l g k c n h hl hn => .sliceG b o l g k c n (e _ _ h) hl hn
  | _, _, .map0 => .map0
  | _, _, .map b c n h => .map b c n (e _ _ h)
  | _, _, .fn f xs ys us vs hx hy => .fn f xs ys us vs (VRs.ext e hx) (VRs.ext e hy)
  | _, _, .fn0 => .fn0
  | _, _, .iface t x v h => .iface t x v (VR.ext e h)
  | _, _, .iface0 => .iface0
  | _, _, .agg xs vs h ho => .agg xs vs (VRs.ext e h) ho
  | _, _, .tup xs vs h => .tup xs vs (VRs.ext e h)
theorem VRs.ext {ρ ρ' : Rho} (e : Ext' ρ ρ') : ∀ {xs : List AVal} {vs : List Value}, VRs ρ xs vs → VRs ρ' xs vs
  | _, _, .nil => .nil
  | _, _, .cons x v xs vs h hs => .cons x v xs vs (VR.ext e h) (VRs.ext e hs)
end

theorem VRs.length {ρ : Rho} : ∀ {xs : List AVal} {vs : List Value}, VRs ρ xs vs → xs.length = vs.length
  | _, _, .nil => rfl
  | _, _, .cons _ _ _ _ _ hs => by simp [VRs.length hs]

theorem VRs.get {ρ : Rho} : ∀ {xs : List AVal} {vs : List Value}, VRs ρ xs vs → ∀ (i : Nat) (x : AVal), xs[i]? = some x → ∃ v, vs[i]? = some v ∧ VR ρ x v
  | _, _, .nil, i, x, h => by simp at h
  | _, _, .cons y v xs vs h hs, i, x, e => by
    cases i with
    | zero => simp at e; subst e; exact ⟨v, by simp, h⟩
    | succ i => simp at e; obtain ⟨u, hu, hr⟩ := VRs.get hs i x e; exact ⟨u, by simpa using hu, hr⟩

theorem VRs.of_get {ρ : Rho} : ∀ {xs : List AVal} {vs : List Value}, xs.length = vs.length → (∀ (i : Nat) (x : AVal), xs[i]? = some x → ∃ v, vs[i]? = some v ∧ VR ρ x v) → VRs ρ xs vs := by
  intro xs
  induction xs with
  | nil => intro vs h _; cases vs with
    | nil => exact .nil
    | cons => simp at h
  | cons x xs ih => intro vs h g; cases vs with
    | nil => simp at h
    | cons v vs =>
      obtain ⟨u, hu, hr⟩ := g 0 x (by simp)
      simp at hu; subst hu
      exact .cons _ _ _ _ hr (ih (by simpa using h) fun i y hy => by
        obtain ⟨u, hu, hr⟩ := g (i + 1) y (by simpa using hy)
        exact ⟨u, by simpa using hu, hr⟩)

theorem VRs.append {ρ : Rho} : ∀ {xs ys : List AVal} {us vs : List Value}, VRs ρ xs us → VRs ρ ys vs → VRs ρ (xs ++ ys) (us ++ vs)
  | _, _, _, _, .nil, h => h
  | _, _, _, _, .cons x v xs vs h hs, g => .cons _ _ _ _ h (VRs.append hs g)

theorem VRs.drop {ρ : Rho} : ∀ {xs : List AVal} {us : List Value} (n : Nat), VRs ρ xs us → VRs ρ (xs.drop n) (us.drop n)
  | _, _, 0, h => by simpa using h
  | _, _, n + 1, .nil => by simp; exact .nil
  | _, _, n + 1, .cons x v xs vs h hs => by simpa using VRs.drop n hs

theorem VRs.take {ρ : Rho} : ∀ {xs : List AVal} {us : List Value} (n : Nat), VRs ρ xs us → VRs ρ (xs.take n) (us.take n)
  | _, _, 0, _ => by simp; exact .nil
  | _, _, n + 1, .nil => by simp; exact .nil
  | _, _, n + 1, .cons x v xs vs h hs => by simpa using VRs.cons _ _ _ _ h (VRs.take n hs)

theorem VR.oneCell {ρ : Rho} {x : AVal} {v : Value} (h : VR ρ x v) : v.oneCell = x.oneCell := by cases h <;> rfl

/-- A value's cells are alike. -/
theorem VR.cells {ρ : Rho} {x : AVal} {v : Value} (h : VR ρ x v) : VRs ρ x.cells v.cells.toList := by
  cases h <;> first
    | (simp only [AVal.cells, Value.cells]; assumption)
    | exact .cons _ _ _ _ (by constructor <;> assumption) .nil

theorem VR.cells_one {ρ : Rho} {x : AVal} {v : Value} (h : VR ρ x v) (hx : notTup x = true) : ∀ y ∈ x.cells, y.oneCell = true := by
  cases h <;> first
    | (simp only [AVal.cells]; assumption)
    | (intro y hy; simp only [AVal.cells, List.mem_cons, List.not_mem_nil, or_false] at hy; subst hy; rfl)
    | (simp [notTup] at hx)

def AObj.wr : AObj → Bool
  | .cells _ _ rw => rw
  | _ => true

inductive EntR (ρ : Rho) : AEnt → MapEntry → Prop where
  | mk (k v : AVal) (n : Nat) (u x : Value) (hk : VR ρ k u) (hv : VR ρ v x) : EntR ρ ⟨k, v, n⟩ ⟨u, x, n⟩

inductive EntsR (ρ : Rho) : List AEnt → List MapEntry → Prop where
  | nil : EntsR ρ [] []
  | cons (e : AEnt) (m : MapEntry) (es : List AEnt) (ms : List MapEntry) (h : EntR ρ e m) (hs : EntsR ρ es ms) : EntsR ρ (e :: es) (m :: ms)

theorem EntR.ext {ρ ρ' : Rho} (g : Ext' ρ ρ') {e : AEnt} {m : MapEntry} (h : EntR ρ e m) : EntR ρ' e m := by
  cases h with | mk k v n u x hk hv => exact .mk k v n u x (hk.ext g) (hv.ext g)
theorem EntsR.ext {ρ ρ' : Rho} (g : Ext' ρ ρ') : ∀ {es : List AEnt} {ms : List MapEntry}, EntsR ρ es ms → EntsR ρ' es ms
  | _, _, .nil => .nil
  | _, _, .cons e m es ms h hs => .cons e m es ms (h.ext g) (EntsR.ext g hs)

/-- The cells of a block of ours stand at the head of one of the model's. -/
def CellsR (ρ : Rho) (cs : List AVal) (arr : Array Value) : Prop :=
  cs.length ≤ arr.size ∧ ∀ (i : Nat) (x : AVal), cs[i]? = some x → x.oneCell = true ∧ ∃ v, arr[i]? = some v ∧ VR ρ x v

def Free (fz : Nat × Nat) (n : Nat) : Prop := ∀ i, i < n → ¬ (fz.1 ≤ i ∧ i < fz.2)

def ORel (ρ : Rho) (o : AObj) (p : Nat × Nat) (H : Array Obj) : Prop :=
  match o with
  | .cells cs e rw => ∃ arr fz, H[p.1]? = some (.cells arr e fz) ∧ arr.size = p.2 ∧ CellsR ρ cs arr ∧ (rw = true → Free fz arr.size)
  | .map es clock => ∃ ents, H[p.1]? = some (.map ents clock) ∧ EntsR ρ es ents.toList
  | .sIter s pos => ∃ b : ByteArray, H[p.1]? = some (.stringIter b pos) ∧ b.data.toList.map UInt8.toNat = s
  | .mIter m since seen last => ∃ m', H[p.1]? = some (.mapIter m' since ⟨seen⟩ last) ∧ ((m = none ∧ m' = none) ∨ ∃ b c n, m = some b ∧ m' = some c ∧ ρ b = some (c, n))

theorem CellsR.ext {ρ ρ' : Rho} (g : Ext' ρ ρ') {cs : List AVal} {arr : Array Value} (h : CellsR ρ cs arr) : CellsR ρ' cs arr :=
  ⟨h.1, fun i x hx => by obtain ⟨ho, v, hv, hr⟩ := h.2 i x hx; exact ⟨ho, v, hv, hr.ext g⟩⟩

theorem ORel.ext {ρ ρ' : Rho} (g : Ext' ρ ρ') {o : AObj} {p : Nat × Nat} {H : Array Obj} (h : ORel ρ o p H) : ORel ρ' o p H := by
  cases o with
  | cells cs e rw => obtain ⟨arr, fz, h1, h2, h3, h4⟩ := h; exact ⟨arr, fz, h1, h2, h3.ext g, h4⟩
  | map es clock => obtain ⟨ents, h1, h2⟩ := h; exact ⟨ents, h1, h2.ext g⟩
  | sIter s pos => exact h
  | mIter m since seen last =>
    obtain ⟨m', h1, h2⟩ := h
    refine ⟨m', h1, ?_⟩
    rcases h2 with h2 | ⟨b, c, n, h2, h3, h4⟩
    · exact .inl h2
    · exact .inr ⟨b, c, n, h2, h3, g _ _ h4⟩

theorem ORel.at {ρ : Rho} {o : AObj} {p : Nat × Nat} {H H' : Array Obj} (h : ORel ρ o p H) (e : H'[p.1]? = H[p.1]?) : ORel ρ o p H' := by
  cases o <;> simp only [ORel, e] at * <;> exact h

/-- The world as it was: how large its heap was, what stood in it. -/
structure Base where
  size : Nat
  mem : Nat → Option Obj
instance : Coe Base Nat := ⟨Base.size⟩

/-- A heap of ours and the model's. Blocks of ours that may be written are the model's from B on. -/
structure Rel (B : Base) (ρ : Rho) (h : Hp) (H : Array Obj) : Prop where
  obj : ∀ b o p, h.get b = some o → ρ b = some p → ORel ρ o p H
  base : ∀ b o p, h.get b = some o → ρ b = some p → o.wr = true → B ≤ p.1
  inj : ∀ b b' o o' p p', h.get b = some o → h.get b' = some o' → ρ b = some p → ρ b' = some p' → p.1 = p'.1 → b = b'
  fresh : ∀ b, h.next ≤ b → ρ b = none ∧ h.get b = none
  dom : ∀ b p, ρ b = some p → p.1 < H.size
  low : B ≤ H.size
  roLe : h.ro ≤ h.next
  kept : ∀ k, k < B.size → H[k]? = B.mem k
  nw : ∀ b o p, h.get b = some o → ρ b = some p → o.wr = false → p.1 < B

/-- How a heap of ours and a world go on. -/
structure Goes (ρ : Rho) (h : Hp) (w : World) (ρ' : Rho) (h' : Hp) (w' : World) : Prop where
  ext : Ext' ρ ρ'
  old : ∀ b, b < h.next → ρ b = none → ρ' b = none ∧ h'.get b = h.get b
  next : h.next ≤ h'.next
  ro : h'.ro = h.ro
  roKept : ∀ b, b < h.ro → h'.get b = h.get b
  img : ∀ b o p, h'.get b = some o → o.wr = true → ρ' b = some p → p.1 < w.heap.size → ∃ b0 o0 p0, h.get b0 = some o0 ∧ o0.wr = true ∧ ρ b0 = some p0 ∧ p0.1 = p.1
  size : w.heap.size ≤ w'.heap.size
  frame : ∀ k, k < w.heap.size → (∀ b o p, h.get b = some o → o.wr = true → ρ b = some p → p.1 ≠ k) → w'.heap[k]? = w.heap[k]?
  os : w'.os = w.os
  tape : w'.tape = w.tape
  output : w'.output = w.output
  dead : ∀ b, b < h.next → h.get b = none → h'.get b = none

theorem Goes.refl (ρ : Rho) (h : Hp) (w : World) : Goes ρ h w ρ h w :=
  ⟨fun _ _ e => e, fun _ _ e => ⟨e, rfl⟩, Nat.le_refl _, rfl, fun _ _ => rfl, fun b o p h1 h2 h3 _ => ⟨b, o, p, h1, h2, h3, rfl⟩, Nat.le_refl _, fun _ _ _ => rfl, rfl, rfl, rfl, fun _ _ e => e⟩

theorem Goes.trans {ρ ρ1 ρ2 : Rho} {h h1 h2 : Hp} {w w1 w2 : World} (a : Goes ρ h w ρ1 h1 w1) (b : Goes ρ1 h1 w1 ρ2 h2 w2) : Goes ρ h w ρ2 h2 w2 where
  ext := fun x p e => b.ext x p (a.ext x p e)
  old := fun x hx e => by
    obtain ⟨e1, e2⟩ := a.old x hx e
    obtain ⟨e3, e4⟩ := b.old x (Nat.lt_of_lt_of_le hx a.next) e1
    exact ⟨e3, e4.trans e2⟩
  next := Nat.le_trans a.next b.next
  ro := b.ro.trans a.ro
  roKept := fun x hx => (b.roKept x (by rw [a.ro]; exact hx)).trans (a.roKept x hx)
  img := fun x o p h1 h2 h3 h4 => by
    obtain ⟨b1, o1, p1, g1, g2, g3, g4⟩ := b.img x o p h1 h2 h3 (Nat.lt_of_lt_of_le h4 a.size)
    obtain ⟨b0, o0, p0, f1, f2, f3, f4⟩ := a.img b1 o1 p1 g1 g2 g3 (by omega)
    exact ⟨b0, o0, p0, f1, f2, f3, f4.trans g4⟩
  size := Nat.le_trans a.size b.size
  frame := fun k hk hn => by
    rw [b.frame k (Nat.lt_of_lt_of_le hk a.size) fun x o p h1 h2 h3 h4 => ?_, a.frame k hk hn]
    obtain ⟨b0, o0, p0, f1, f2, f3, f4⟩ := a.img x o p h1 h2 h3 (by omega)
    exact hn b0 o0 p0 f1 f2 f3 (f4.trans h4)
  os := b.os.trans a.os
  tape := b.tape.trans a.tape
  output := b.output.trans a.output
  dead := fun x hx e => b.dead x (Nat.lt_of_lt_of_le hx a.next) (a.dead x hx e)

/-- A draw changes nothing. -/
theorem Goes.drew {ρ ρ1 : Rho} {h h1 : Hp} {w w1 : World} (a : Goes ρ h w ρ1 h1 w1) (n : Nat) : Goes ρ h w ρ1 h1 { w1 with drawn := n } :=
  ⟨a.ext, a.old, a.next, a.ro, a.roKept, a.img, a.size, a.frame, a.os, a.tape, a.output, a.dead⟩

theorem Goes.drew0 {ρ ρ1 : Rho} {h h1 : Hp} {w w1 : World} {n : Nat} (a : Goes ρ h { w with drawn := n } ρ1 h1 w1) : Goes ρ h w ρ1 h1 w1 :=
  ⟨a.ext, a.old, a.next, a.ro, a.roKept, a.img, a.size, a.frame, a.os, a.tape, a.output, a.dead⟩

theorem Hp.get_upd {h h' : Hp} {b : Nat} {o : AObj} (e : h.upd b o = some h') : h.ro ≤ b ∧ h'.next = h.next ∧ h'.ro = h.ro ∧ ∀ c, h'.get c = if c = b then some o else h.get c := by
  obtain ⟨t, n, r⟩ := h
  simp only [Hp.upd, onHp, Tr.setK_eq] at e
  cases g : Nat.ble r b with
  | false => rw [g] at e; simp at e
  | true =>
    rw [g] at e
    simp only [bc_true, Option.some.injEq] at e
    subst e
    exact ⟨Nat.le_of_ble_eq_true g, rfl, rfl, fun c => Tr.get_set t b c (some o)⟩

theorem Hp.get_del {h h' : Hp} {b : Nat} (e : h.del b = some h') : h.ro ≤ b ∧ h'.next = h.next ∧ h'.ro = h.ro ∧ ∀ c, h'.get c = if c = b then none else h.get c := by
  obtain ⟨t, n, r⟩ := h
  simp only [Hp.del, onHp, Tr.setK_eq] at e
  cases g : Nat.ble r b with
  | false => rw [g] at e; simp at e
  | true =>
    rw [g] at e
    simp only [bc_true, Option.some.injEq] at e
    subst e
    exact ⟨Nat.le_of_ble_eq_true g, rfl, rfl, fun c => Tr.get_set t b c none⟩

/-- The heap with one block more. -/
def Hp.plus (h : Hp) (o : AObj) : Hp := ⟨h.heap.set h.next (some o), h.next + 1, h.ro⟩
theorem Hp.newK_eq {β : Type} (h : Hp) (o : AObj) (k : Nat → Hp → β) : h.newK o k = k h.next (h.plus o) := by
  obtain ⟨t, n, r⟩ := h
  simp only [Hp.newK, onHp, forceN_eq, Tr.setK_eq, Nat.succ_eq_add_one]
  rfl
theorem Hp.get_plus (h : Hp) (o : AObj) (c : Nat) : (h.plus o).get c = if c = h.next then some o else h.get c := Tr.get_set h.heap h.next c (some o)

def Rho.set (ρ : Rho) (b : Nat) (p : Nat × Nat) : Rho := fun c => if c = b then some p else ρ c
theorem Rho.set_ext {ρ : Rho} {b : Nat} {p : Nat × Nat} (h : ρ b = none) : Ext' ρ (ρ.set b p) := fun c q e => by
  unfold Rho.set
  by_cases g : c = b
  · subst g; rw [h] at e; cases e
  · rw [if_neg g]; exact e
theorem Rho.set_same (ρ : Rho) (b : Nat) (p : Nat × Nat) : ρ.set b p b = some p := by simp [Rho.set]
theorem Rho.set_ne {ρ : Rho} {b c : Nat} {p : Nat × Nat} (h : c ≠ b) : ρ.set b p c = ρ c := by simp [Rho.set, h]

/-- A block is written anew. -/
theorem Rel.update {B : Base} {ρ : Rho} {h h' : Hp} {w w' : World} {b : Nat} {o o' : AObj} {p : Nat × Nat} (r : Rel B ρ h w.heap)
    (hb : h.get b = some o) (hw : o.wr = true) (hp : ρ b = some p) (hu : h.upd b o' = some h') 
    (hs : w'.heap.size = w.heap.size) (hk : ∀ k, k ≠ p.1 → w'.heap[k]? = w.heap[k]?) (ho : ORel ρ o' p w'.heap)
    (os : w'.os = w.os) (tape : w'.tape = w.tape) (output : w'.output = w.output) (hw' : o'.wr = true := by rfl) :
    Rel B ρ h' w'.heap ∧ Goes ρ h w ρ h' w' := by
  obtain ⟨hro, hn, hr, hg⟩ := Hp.get_upd hu
  refine ⟨⟨?_, ?_, ?_, ?_, ?_, ?_, by rw [hr, hn]; exact r.roLe, fun k hk' => by rw [hk k (fun e => by have := r.base b o p hb hp hw; omega)]; exact r.kept k hk', ?_⟩, ⟨fun _ _ e => e, ?_, by omega, hr, ?_, ?_, by omega, ?_, os, tape, output, fun c _ he => by rw [hg, if_neg (fun e => by subst e; rw [hb] at he; cases he)]; exact he⟩⟩
  · intro c q pc h1 h2
    rw [hg] at h1
    by_cases e : c = b
    · subst e
      rw [if_pos rfl] at h1
      cases h1
      rw [hp] at h2; cases h2
      exact ho
    · rw [if_neg e] at h1
      exact (r.obj c q pc h1 h2).at (hk _ fun g => e (r.inj c b q o pc p h1 hb h2 hp g))
  · intro c q pc h1 h2 h3
    rw [hg] at h1
    by_cases e : c = b
    · subst e; rw [hp] at h2; cases h2; exact r.base _ o p hb hp hw
    · rw [if_neg e] at h1; exact r.base c q pc h1 h2 h3
  · intro c c' q q' pc pc' h1 h2 h3 h4 h5
    rw [hg] at h1 h2
    have key : ∀ x y, (if x = b then some o' else h.get x) = some y → ∃ z, h.get x = some z := by
      intro x y hx
      by_cases e : x = b
      · subst e; exact ⟨o, hb⟩
      · rw [if_neg e] at hx; exact ⟨y, hx⟩
    obtain ⟨z, hz⟩ := key c q h1
    obtain ⟨z', hz'⟩ := key c' q' h2
    exact r.inj c c' z z' pc pc' hz hz' h3 h4 h5
  · intro c hc
    rw [hn] at hc
    obtain ⟨f1, f2⟩ := r.fresh c hc
    refine ⟨f1, ?_⟩
    rw [hg]
    by_cases e : c = b
    · subst e; rw [hp] at f1; cases f1
    · rw [if_neg e]; exact f2
  · intro c q h1; rw [hs]; exact r.dom c q h1
  · rw [hs]; exact r.low
  · intro c q pc h1 h2 h3
    rw [hg] at h1
    by_cases e : c = b
    · rw [if_pos e] at h1; cases h1; rw [hw'] at h3; cases h3
    · rw [if_neg e] at h1; exact r.nw c q pc h1 h2 h3
  · intro c hc he
    refine ⟨he, ?_⟩
    rw [hg, if_neg (fun e => by subst e; rw [hp] at he; cases he)]
  · intro c hc; rw [hg, if_neg (by omega)]
  · intro c q pc h1 h2 h3 h4
    rw [hg] at h1
    by_cases e : c = b
    · subst e; rw [hp] at h3; cases h3; exact ⟨_, o, p, hb, hw, hp, rfl⟩
    · rw [if_neg e] at h1; exact ⟨c, q, pc, h1, h2, h3, rfl⟩
  · intro k hk' hn'
    exact hk k (fun e => hn' b o p hb hw hp e.symm)

/-- A block is given up. -/
theorem Rel.delete {B : Base} {ρ : Rho} {h h' : Hp} {w : World} {b : Nat} {o : AObj} {p : Nat × Nat} (r : Rel B ρ h w.heap) (hd : h.del b = some h') (hb : h.get b = some o) (hp : ρ b = some p) :
    Rel B ρ h' w.heap ∧ Goes ρ h w ρ h' w := by
  obtain ⟨hro, hn, hr, hg⟩ := Hp.get_del hd
  have key : ∀ {c q}, h'.get c = some q → c ≠ b ∧ h.get c = some q := by
    intro c q hc
    rw [hg] at hc
    by_cases e : c = b
    · rw [if_pos e] at hc; cases hc
    · rw [if_neg e] at hc; exact ⟨e, hc⟩
  refine ⟨⟨fun c q pc h1 h2 => r.obj c q pc (key h1).2 h2, fun c q pc h1 h2 h3 => r.base c q pc (key h1).2 h2 h3,
    fun c c' q q' pc pc' h1 h2 h3 h4 h5 => r.inj c c' q q' pc pc' (key h1).2 (key h2).2 h3 h4 h5, ?_, r.dom, r.low, by rw [hr, hn]; exact r.roLe, r.kept, fun c q pc h1 h2 h3 => r.nw c q pc (key h1).2 h2 h3⟩,
    ⟨fun _ _ e => e, ?_, by omega, hr, ?_, fun c q pc h1 h2 h3 _ => ⟨c, q, pc, (key h1).2, h2, h3, rfl⟩, Nat.le_refl _, fun _ _ _ => rfl, rfl, rfl, rfl, fun c _ he => by rw [hg]; split <;> first | rfl | exact he⟩⟩
  · intro c hc
    rw [hn] at hc
    refine ⟨(r.fresh c hc).1, ?_⟩
    rw [hg]
    by_cases e : c = b
    · rw [if_pos e]
    · rw [if_neg e]; exact (r.fresh c hc).2
  · intro c hc he
    refine ⟨he, ?_⟩
    rw [hg, if_neg (fun e => by subst e; rw [hp] at he; cases he)]
  · intro c hc; rw [hg, if_neg (by omega)]

end Go.Am

/- The small machine against the model: what the model's steps come to; operands; the operations that look at no memory. -/
namespace Go.Am

/-! ### What the model's steps come to -/

theorem run_bind {α β : Type} (P : Program) (s : Sem α) (f : α → Sem β) : ∀ w, (s >>= f).run P w = (match s.run P w with | .ok a w' => (f a).run P w' | .halt h w' => .halt h w') := by
  show ∀ w, (Sem.bind s f).run P w = _
  induction s with
  | pure a => intro w; rfl
  | load m a k ih =>
    intro w
    simp only [Sem.bind, Sem.run]
    cases w.cell? a with
    | some v => exact ih v w
    | none =>
      simp only []
      cases w.farLoad P a (m == .atomic) with
      | ok p => exact ih p.1 w
      | error h => rfl
  | store m a v k ih =>
    intro w
    cases v <;> simp only [Sem.bind, Sem.run] <;> first
      | done
      | (cases w.cell? a with
        | some v =>
          simp only []
          split
          · rfl
          · exact ih _
        | none =>
          simp only []
          split
          · exact ih _
          · rfl)
  | new o k ih => intro w; simp only [Sem.bind, Sem.run]; exact ih _ _
  | shape r k ih => intro w; simp only [Sem.bind, Sem.run]; exact ih _ _
  | freeze a n k ih => intro w; simp only [Sem.bind, Sem.run]; exact ih _
  | frozen a k ih => intro w; simp only [Sem.bind, Sem.run]; exact ih _ _
  | getObj r k ih =>
    intro w
    simp only [Sem.bind, Sem.run]
    cases w.heap[r]? with
    | none => rfl
    | some o => cases o <;> simp only [] <;> first | done | exact ih _ _
  | setObj r o k ih =>
    intro w
    simp only [Sem.bind, Sem.run]
    cases w.heap[r]? with
    | none => rfl
    | some o => cases o <;> simp only [] <;> first | done | exact ih _
  | choose q k ih =>
    intro w
    simp only [Sem.bind, Sem.run]
    split
    · exact ih _ _
    · exact ih _ _
  | sys call k ih => intro w; simp only [Sem.bind, Sem.run]; exact ih _ _
  | program k ih => intro w; simp only [Sem.bind, Sem.run]; exact ih _ _
  | mark m k ih => intro w; simp only [Sem.bind, Sem.run]; exact ih _
  | halt h => intro w; rfl

theorem run_ok {α β : Type} {P : Program} {s : Sem α} {f : α → Sem β} {w w' : World} {a : α} (h : s.run P w = .ok a w') : (s >>= f).run P w = (f a).run P w' := by rw [run_bind, h]
theorem run_pure {α : Type} (P : Program) (a : α) (w : World) : (pure a : Sem α).run P w = .ok a w := rfl
theorem run_program (P : Program) (w : World) : (program).run P w = .ok P w := rfl
theorem run_info {P : Program} {t : TypeId} {i : TypeInfo} (h : P.info? t = some i) (w : World) : (typeInfo t).run P w = .ok i w := by
  unfold typeInfo
  rw [run_ok (run_program P w), h]; rfl
theorem run_underlying {P : Program} {t : TypeId} {d : TypeDesc} (h : P.underlying t = some d) (w : World) : (underlying t).run P w = .ok d w := by
  unfold underlying
  rw [run_ok (run_program P w), h]; rfl
theorem run_size {P : Program} {t : TypeId} {i : TypeInfo} (h : P.info? t = some i) (w : World) : (sizeOf t).run P w = .ok i.size w := by
  unfold Go.sizeOf
  rw [run_ok (run_info h w)]; rfl
theorem run_zero {P : Program} {t : TypeId} {i : TypeInfo} {z : Value} (h : P.info? t = some i) (hz : i.zero = some z) (w : World) : (zeroValue t).run P w = .ok z w := by
  unfold zeroValue
  rw [run_ok (run_info h w), hz]; rfl

/-! ### What ties the machine's program to the model's -/

/-- Cells alike: numbers, texts and bools are the same or are not. -/
def EqCells (P : Program) (t : TypeId) (l : List Sc) : Prop :=
  ∀ (ρ : Rho) (xs ys : List AVal) (us vs : List Value) (b : Bool), VRs ρ xs us → VRs ρ ys vs → cellsEq l xs ys = some b →
    ∀ w, (Op.equal t (.agg ⟨us⟩) (.agg ⟨vs⟩)).run P w = .ok b w ∧ (∀ z, (Instr.checkKey z 10000 t (.agg ⟨us⟩)).run P w = .ok () w) ∧ P.eqGuardType P.depth t = false

structure Ties (P : Program) (c : Cx) : Prop where
  ty : ∀ t i, c.ty.get t = some i → P.info? t = some i
  fns : ∀ f fn, c.fns.get f = some fn → P.funcs[f]? = some fn
  fields : ∀ t fs, c.und t = some (.struct fs) → ∀ f ∈ fs.toList, ∃ i, c.ty.get f.type = some i
  plain : ∀ t l, c.plain.get t = some l → EqCells P t l
  scal : ∀ t k, c.scal t = some k → ∃ i d, P.info? t = some i ∧ i.comparable = true ∧ P.underlying t = some d ∧ tdScalar d = some k

theorem tdNamed_none {d : TypeDesc} (h : tdNamed d = none) : ∀ s u, d ≠ .named s u := by intro s u e; subst e; simp [tdNamed] at h
theorem tdNamed_some {d : TypeDesc} {u : TypeId} (h : tdNamed d = some u) : ∃ s, d = .named s u := by cases d <;> simp [tdNamed] at h; subst h; exact ⟨_, rfl⟩
theorem tdInt_some {d : TypeDesc} {k : IntKind} (h : tdInt d = some k) : d = .int k := by cases d <;> simp [tdInt] at h; subst h; rfl
theorem tdPtr_some {d : TypeDesc} {e : TypeId} (h : tdPtr d = some e) : d = .pointer e := by cases d <;> simp [tdPtr] at h; subst h; rfl
theorem tdSlice_some {d : TypeDesc} {e : TypeId} (h : tdSlice d = some e) : d = .slice e := by cases d <;> simp [tdSlice] at h; subst h; rfl
theorem tdArray_some {d : TypeDesc} {n : Nat} {e : TypeId} (h : tdArray d = some (n, e)) : d = .array n e := by cases d <;> simp [tdArray] at h; obtain ⟨rfl, rfl⟩ := h; rfl
theorem tdStruct_some {d : TypeDesc} {fs : Array Field} (h : tdStruct d = some fs) : d = .struct fs := by cases d <;> simp [tdStruct] at h; subst h; rfl
theorem tdMap_some {d : TypeDesc} {k e : TypeId} (h : tdMap d = some (k, e)) : d = .map k e := by cases d <;> simp [tdMap] at h; obtain ⟨rfl, rfl⟩ := h; rfl
theorem tdString_true {d : TypeDesc} (h : tdString d = true) : d = .string := by cases d <;> simp [tdString] at h; rfl
theorem tdUnsafe_true {d : TypeDesc} (h : tdUnsafe d = true) : d = .unsafePointer := by cases d <;> simp [tdUnsafe] at h; rfl

section
variable {P : Program} {c : Cx} (T : Ties P c)
include T

theorem Ties.und {t : TypeId} {d : TypeDesc} (h : c.und t = some d) : P.underlying t = some d := by
  obtain ⟨i, hi, h⟩ := ob_some h
  have g := T.ty _ _ hi
  cases e : tdNamed i.desc with
  | none =>
    rw [e] at h
    simp only [Option.some.injEq] at h
    obtain ⟨desc, r⟩ := i
    subst h
    unfold Program.underlying
    rw [g]
    cases desc <;> first | rfl | simp [tdNamed] at e
  | some u =>
    rw [e] at h
    obtain ⟨j, hj, h'⟩ := ob_some h
    simp only [Option.some.injEq] at h'
    obtain ⟨s, hs⟩ := tdNamed_some e
    obtain ⟨desc, r⟩ := i
    simp only at hs
    subst hs
    unfold Program.underlying
    rw [g]
    simp only
    rw [T.ty _ _ hj, ← h']; rfl

theorem Ties.size {t : TypeId} {n : Nat} (h : c.size t = some n) (w : World) : (Go.sizeOf t).run P w = .ok n w := by
  obtain ⟨i, hi, h⟩ := ob_some h
  simp only [Option.some.injEq] at h
  subst h
  exact run_size (T.ty _ _ hi) w

omit T in
theorem Ties.size1 {t : TypeId} {n : Nat} (h : c.size1 t = some n) : 1 ≤ n ∧ c.size t = some n := by
  obtain ⟨i, hi, h⟩ := ob_some h
  obtain ⟨h1, h2⟩ := ok?_some h
  cases h2
  exact ⟨Nat.le_of_ble_eq_true h1, hi⟩

theorem Ties.isAgg {t : TypeId} {g : Bool} (h : c.agg t = some g) (w : World) : (Go.isAgg t).run P w = .ok g w := by
  obtain ⟨d, hd, h⟩ := ob_some h
  simp only [Option.some.injEq] at h
  subst h
  unfold Go.isAgg
  rw [run_ok (run_underlying (T.und hd) w)]
  cases d <;> rfl

end

/-! ### Constants, operands -/

theorem fnConst_some {f : Fn} {a b : Array Value} {x : AVal} (h : fnConst f a.toList b.toList = some x) : a = ⟨[]⟩ ∧ b = ⟨[]⟩ ∧ x = .fn f [] [] := by
  obtain ⟨a⟩ := a
  obtain ⟨b⟩ := b
  cases a with
  | nil => cases b with
    | nil => simp only [fnConst, Option.some.injEq] at h; exact ⟨rfl, rfl, h.symm⟩
    | cons => simp [fnConst] at h
  | cons => simp [fnConst] at h

theorem ofConst_both {ρ : Rho} {v : Value} {x : AVal} (h : ofConst v = some x) : VR ρ x v ∧ x.oneCell = true := by
  unfold ofConst at h
  split at h
  · cases h; exact ⟨.bool _, rfl⟩
  · cases h; exact ⟨.int _ _, rfl⟩
  · cases h; exact ⟨.str _ _ rfl, rfl⟩
  · cases h; exact ⟨.ptr0, rfl⟩
  · obtain ⟨h1, h⟩ := ok?_some h
    cases h
    simp only [andb_eq, Bool.and_eq_true] at h1
    rw [Nat.eq_of_beq_eq_true h1.1, Nat.eq_of_beq_eq_true h1.2]
    exact ⟨.slice0, rfl⟩
  · cases h; exact ⟨.map0, rfl⟩
  · cases h; exact ⟨.fn0, rfl⟩
  · cases h; exact ⟨.iface0, rfl⟩
  · obtain ⟨rfl, rfl, rfl⟩ := fnConst_some h
    exact ⟨.fn _ [] [] [] [] .nil .nil, rfl⟩
  · cases h

theorem ofConst_ok {ρ : Rho} {v : Value} {x : AVal} (h : ofConst v = some x) : VR ρ x v := (ofConst_both h).1

theorem ofConsts_ok {ρ : Rho} : ∀ {vs : List Value} {xs : List AVal}, ofConsts vs = some xs → VRs ρ xs vs := by
  intro vs
  induction vs with
  | nil => intro xs h; simp only [ofConsts, Option.some.injEq] at h; subst h; exact .nil
  | cons v vs ih =>
    intro xs h
    obtain ⟨x, hx, h⟩ := ob_some h
    obtain ⟨ys, hy, h⟩ := ob_some h
    cases h
    exact .cons _ _ _ _ (ofConst_ok hx) (ih hy)

theorem ofConst_one {v : Value} {x : AVal} (h : ofConst v = some x) : x.oneCell = true := (ofConst_both (ρ := fun _ => none) h).2

theorem ofConsts_one : ∀ {vs : List Value} {xs : List AVal}, ofConsts vs = some xs → ∀ x ∈ xs, x.oneCell = true := by
  intro vs
  induction vs with
  | nil => intro xs h; simp only [ofConsts, Option.some.injEq] at h; subst h; intro x hx; simp at hx
  | cons v vs ih =>
    intro xs h
    obtain ⟨x, hx, h⟩ := ob_some h
    obtain ⟨ys, hy, h⟩ := ob_some h
    cases h
    intro y hy'
    rcases List.mem_cons.1 hy' with rfl | hy'
    · exact ofConst_one hx
    · exact ih hy y hy'

theorem zeroOf_ok {ρ : Rho} {v : Value} {x : AVal} (h : zeroOf v = some x) : VR ρ x v := by
  unfold zeroOf at h
  split at h
  · obtain ⟨l, hl, h⟩ := ob_some h
    cases h
    exact .agg _ _ (ofConsts_ok hl) (ofConsts_one hl)
  · exact ofConst_ok h

/-- The operands of an operation are alike. -/
def EvR (ρ : Rho) (ws : Ws) (e : Env) (E : Operand → Value) (l : List Operand) : Prop := ∀ x ∈ l, ∀ y, ofOpd ws x = some y → ∀ v, y.ev e = some v → VR ρ v (E x)

/-- How an operation of ours is like the model's. -/
def PuOk (P : Program) (ρ : Rho) (e : Env) (s : Sem Next) (p : Pu) : Prop := ∀ v, p.ev e = some v → ∀ w, ∃ u, s.run P w = .ok (.value u) w ∧ VR ρ v u
def AlOk (P : Program) (ρ : Rho) (e : Env) (s : Sem Next) (a : Al) : Prop := ∀ nm o, a.ev e = some (nm, o) → ∀ w, ∃ u obj n d, s.run P w = .ok (.value u) { w with heap := w.heap.push obj, drawn := d } ∧
  ∀ b, ρ b = none → VR (ρ.set b (w.heap.size, n)) (nm.at b) u ∧ ∀ H : Array Obj, H[w.heap.size]? = some obj → ORel (ρ.set b (w.heap.size, n)) o (w.heap.size, n) H
def RdOk (P : Program) (ρ : Rho) (e : Env) (s : Sem Next) (r : Rd) : Prop := ∀ B h w, Rel B ρ h w.heap → ∀ v, r.ev e h = some v → ∃ u, s.run P w = .ok (.value u) w ∧ VR ρ v u

end Go.Am

/- The small machine against the model: arithmetic, comparisons. -/
namespace Go.Am

theorem forceN_some {β : Type} {n : Nat} {f : Nat → Option β} {b : β} (h : forceN n f = some b) : f n = some b := by rwa [forceN_eq] at h
theorem forceI_some {β : Type} {n : Int} {f : Int → Option β} {b : β} (h : forceI n f = some b) : f n = some b := by rwa [forceI_eq] at h

theorem intK_some {k : IntKind} {n : Int} {v : AVal} (h : intK k n = some v) : v = .int k (k.wrap n) := by
  have := forceI_some h
  rw [wrapA_eq] at this
  cases this; rfl
theorem boolV_some {b : Bool} {v : AVal} (h : boolV b = some v) : v = .bool b := by
  unfold boolV at h; rw [forceB_eq] at h; cases h; rfl

theorem blt_lt {a b : Nat} (h : a.blt b = true) : a < b := by
  rw [Nat.blt] at h; exact Nat.le_of_ble_eq_true h

theorem wrap_lim {k : IntKind} {m : Nat} (h : m < lim k) : k.wrap (.ofNat m) = .ofNat m := by
  have := wrapA_eq k (.ofNat m)
  simp only [wrapA] at this
  rw [show m.blt (lim k) = true from by rw [Nat.blt]; exact Nat.ble_eq_true_of_le h] at this
  exact this.symm

theorem lim_pow (k : IntKind) : ∃ n, lim k = 2 ^ n ∧ n ≤ k.bits := by
  cases k <;> first
    | exact ⟨7, rfl, by decide⟩ | exact ⟨8, rfl, by decide⟩ | exact ⟨15, rfl, by decide⟩ | exact ⟨16, rfl, by decide⟩
    | exact ⟨31, rfl, by decide⟩ | exact ⟨32, rfl, by decide⟩ | exact ⟨63, rfl, by decide⟩ | exact ⟨64, rfl, by decide⟩

theorem ofInt_toNat {n a : Nat} (h : a < 2 ^ n) : (BitVec.ofInt n (Int.ofNat a)).toNat = a := by
  rw [BitVec.toNat_ofInt]
  simp only [Int.ofNat_eq_natCast]
  have : ((a : Int) % ((2 ^ n : Nat) : Int)) = ((a % 2 ^ n : Nat) : Int) := by norm_cast
  rw [this, Int.toNat_natCast, Nat.mod_eq_of_lt h]

theorem bitsA_eq (op : BinOp) (k : IntKind) (x y : Int) : bitsA op k x y = aBits op k x y := by
  unfold bitsA
  obtain ⟨n, hn, hb⟩ := lim_pow k
  split
  all_goals first | rfl | skip
  all_goals
    rename_i a b
    cases g : (a.blt (lim k) && b.blt (lim k)) with
    | false => simp only [cond_false]
    | true =>
      simp only [Bool.and_eq_true] at g
      have ha := blt_lt g.1
      have hb' := blt_lt g.2
      simp only [cond_true, natBits, aBits]
      have pa : a < 2 ^ k.bits := Nat.lt_of_lt_of_le (hn ▸ ha) (Nat.pow_le_pow_right (by decide) hb)
      have pb : b < 2 ^ k.bits := Nat.lt_of_lt_of_le (hn ▸ hb') (Nat.pow_le_pow_right (by decide) hb)
      first | rw [BitVec.toNat_and] | rw [BitVec.toNat_or] | rw [BitVec.toNat_xor]
      rw [ofInt_toNat pa, ofInt_toNat pb]
      refine (wrap_lim ?_).symm
      rw [hn] at *
      first | exact Nat.and_lt_two_pow _ hb' | exact Nat.or_lt_two_pow ha hb' | exact Nat.xor_lt_two_pow ha hb'

theorem iBits_some {op : BinOp} {k : IntKind} {x y : Int} {v : AVal} (h : iBits op k x y = some v) : v = .int k (aBits op k x y) := by
  have := forceI_some h
  rw [bitsA_eq] at this
  cases this; rfl

theorem shlA_some {k : IntKind} {x y : Int} {v : AVal} (h : shlA k x y = some v) : ¬ y < 0 ∧ v = .int k (k.wrap (x * 2 ^ (min y.toNat k.bits))) := by
  cases y with
  | negSucc n => cases h
  | ofNat n => exact ⟨by simp, intK_some h⟩

theorem shrA_some {k : IntKind} {x y : Int} {v : AVal} (h : shrA k x y = some v) : ¬ y < 0 ∧ v = .int k (x.fdiv (2 ^ (min y.toNat k.bits))) := by
  cases y with
  | negSucc n => cases h
  | ofNat n =>
    refine ⟨by simp, ?_⟩
    cases x with
    | ofNat m =>
      have := forceN_some (show forceN (m / 2 ^ (min n k.bits)) (fun r => some (AVal.int k (.ofNat r))) = some v from h)
      cases this
      congr 1
      show ((m / 2 ^ (min n k.bits) : Nat) : Int) = Int.fdiv (m : Int) (2 ^ min n k.bits)
      rw [Int.fdiv_eq_ediv_of_nonneg _ (by exact_mod_cast Nat.zero_le _)]
      norm_cast
    | negSucc m =>
      have := forceI_some (show forceI ((Int.negSucc m).fdiv (2 ^ (min n k.bits))) (fun r => some (AVal.int k r)) = some v from h)
      cases this; rfl

theorem quoA_some {k : IntKind} {x y : Int} {v : AVal} (h : quoA k x y = some v) : ¬ y = 0 ∧ v = .int k (k.wrap (x.tdiv y)) := by
  obtain ⟨h1, h2⟩ := ok?_some h
  rw [eqI_eq] at h1
  exact ⟨by simpa using h1, intK_some h2⟩
theorem remA_some {k : IntKind} {x y : Int} {v : AVal} (h : remA k x y = some v) : ¬ y = 0 ∧ v = .int k (x.tmod y) := by
  obtain ⟨h1, h2⟩ := ok?_some h
  rw [eqI_eq] at h1
  have := forceI_some h2
  cases this
  exact ⟨by simpa using h1, rfl⟩

theorem intBin_ok {P : Program} {op : BinOp} {t : TypeId} {k k' : IntKind} {a b : Int} {v : AVal} (hk : (isShift op || decide (k = k')) = true) (h : intBin op k a b = some v) (w : World) :
    ∃ u, (binOp op t (.int k a) (.int k' b)).run P w = .ok u w ∧ ∀ ρ, VR ρ v u := by
  cases op <;> simp only [isShift, Bool.false_or, Bool.true_or, decide_eq_true_eq] at hk <;> simp only [intBin] at h
  case add => have := intK_some h; subst this; subst hk; exact ⟨_, by simp [binOp, Op.intArith] <;> rfl, fun _ => .int _ _⟩
  case sub => have := intK_some h; subst this; subst hk; exact ⟨_, by simp [binOp, Op.intArith] <;> rfl, fun _ => .int _ _⟩
  case mul => have := intK_some h; subst this; subst hk; exact ⟨_, by simp [binOp, Op.intArith] <;> rfl, fun _ => .int _ _⟩
  case quo => obtain ⟨h1, h2⟩ := quoA_some h; subst h2; subst hk; exact ⟨_, by simp [binOp, Op.intDiv, h1] <;> rfl, fun _ => .int _ _⟩
  case rem => obtain ⟨h1, h2⟩ := remA_some h; subst h2; subst hk; exact ⟨_, by simp [binOp, Op.intDiv, h1] <;> rfl, fun _ => .int _ _⟩
  case and => have := iBits_some h; subst this; subst hk; exact ⟨_, by simp [binOp, Op.intBits] <;> rfl, fun _ => .int _ _⟩
  case or => have := iBits_some h; subst this; subst hk; exact ⟨_, by simp [binOp, Op.intBits] <;> rfl, fun _ => .int _ _⟩
  case xor => have := iBits_some h; subst this; subst hk; exact ⟨_, by simp [binOp, Op.intBits] <;> rfl, fun _ => .int _ _⟩
  case andNot => have := iBits_some h; subst this; subst hk; exact ⟨_, by simp only [binOp]; rw [if_neg (by simp)] <;> rfl, fun _ => .int _ _⟩
  case shl => obtain ⟨h1, h2⟩ := shlA_some h; subst h2; exact ⟨_, by simp only [binOp, Op.shift, if_neg h1] <;> rfl, fun _ => .int _ _⟩
  case shr => obtain ⟨h1, h2⟩ := shrA_some h; subst h2; exact ⟨_, by simp only [binOp, Op.shift, if_neg h1] <;> rfl, fun _ => .int _ _⟩
  all_goals
    have := boolV_some h
    subst this; subst hk
    refine ⟨_, by simp [binOp, Op.intCmp]; rfl, fun ρ => ?_⟩
    simp only [eqI_eq, ltI_eq, notb_eq]
  case eql => exact .bool _
  case neq => rw [show (a != b) = !decide (a = b) from by simp [bne]; rfl]; exact .bool _
  case lss => exact .bool _
  case leq => rw [show decide (a ≤ b) = !decide (b < a) from by by_cases g : a ≤ b <;> simp [g] <;> omega]; exact .bool _
  case gtr => exact .bool _
  case geq => rw [show decide (a ≥ b) = !decide (a < b) from by by_cases g : a < b <;> simp [g] <;> omega]; exact .bool _

end Go.Am

/- The small machine against the model: texts, equality. -/
namespace Go.Am

/-! ### Texts -/

/-- A text's bytes as numbers. -/
def nums (b : ByteArray) : List Nat := b.data.toList.map UInt8.toNat

theorem map_inj : ∀ {a b : List UInt8}, a.map UInt8.toNat = b.map UInt8.toNat → a = b := by
  intro a
  induction a with
  | nil => intro b h; cases b with
    | nil => rfl
    | cons => simp at h
  | cons x a ih => intro b h; cases b with
    | nil => simp at h
    | cons y b =>
      simp only [List.map_cons, List.cons.injEq] at h
      rw [UInt8.toNat_inj.1 h.1, ih h.2]

theorem nums_inj {a b : ByteArray} (h : nums a = nums b) : a = b := by
  have := map_inj h
  obtain ⟨⟨a⟩⟩ := a
  obtain ⟨⟨b⟩⟩ := b
  simp only at this
  rw [this]

theorem nums_append (a b : ByteArray) : nums (a ++ b) = nums a ++ nums b := by simp [nums]
theorem nums_length (a : ByteArray) : (nums a).length = a.size := by simp [nums]
theorem nums_extract (a : ByteArray) (l h : Nat) : nums (a.extract l h) = ((nums a).drop l).take (h - l) := by
  simp [nums, List.map_take, List.map_drop]

theorem toList_eq_nums (a b : ByteArray) : (a.toList == b.toList) = strEq (nums a) (nums b) := by
  rw [strEq_eq, ByteArray.toList_eq, ByteArray.toList_eq]
  by_cases h : a.data.toList = b.data.toList
  · rw [show nums a = nums b from by unfold nums; rw [h], h]; simp
  · rw [show (a.data.toList == b.data.toList) = false from by simpa using h]
    exact (decide_eq_false fun e => h (map_inj e)).symm

theorem strLt_eq : ∀ (a b : List UInt8), Op.bytesLess a b = strLt (a.map UInt8.toNat) (b.map UInt8.toNat) := by
  intro a
  induction a with
  | nil => intro b; cases b <;> rfl
  | cons x a ih => intro b; cases b with
    | nil => rfl
    | cons y b =>
      simp only [Op.bytesLess, List.map_cons, strLt, ih]
      rw [show (x < y : Bool) = x.toNat.blt y.toNat from by
        rw [Nat.blt, ble_eq]; simp only [UInt8.lt_iff_toNat_lt]; congr 1]
      rw [show (x == y) = x.toNat.beq y.toNat from by
        rw [beq_eq]
        by_cases g : x = y
        · subst g; simp
        · rw [show (x == y) = false from by simpa using g]; exact (decide_eq_false fun e => g (UInt8.toNat_inj.1 e)).symm]
      cases x.toNat.blt y.toNat <;> cases x.toNat.beq y.toNat <;> simp

theorem bytesLess_nums (a b : ByteArray) : Op.bytesLess a.toList b.toList = strLt (nums a) (nums b) := by
  rw [ByteArray.toList_eq, ByteArray.toList_eq]; exact strLt_eq _ _

theorem strBin_ok {P : Program} {op : BinOp} {a b : ByteArray} {v : AVal} (h : strBin op (nums a) (nums b) = some v) (w : World) :
    ∃ u, (Op.stringOp op a b).run P w = .ok u w ∧ ∀ ρ, VR ρ v u := by
  cases op <;> simp only [strBin] at h
  case add =>
    obtain ⟨h1, h2⟩ := ok?_some h
    cases h2
    have h1 := Nat.le_of_ble_eq_true h1
    rw [nums_length, nums_length] at h1
    refine ⟨.string (a ++ b), ?_, fun ρ => .str _ _ (nums_append a b)⟩
    simp only [Op.stringOp]
    rw [if_neg (by simp only [IntKind.max, IntKind.signed, IntKind.bits]; omega)]
    rfl
  case eql => have := boolV_some h; subst this; exact ⟨_, rfl, fun ρ => by rw [toList_eq_nums]; exact .bool _⟩
  case neq => have := boolV_some h; subst this; exact ⟨_, rfl, fun ρ => by rw [toList_eq_nums, notb_eq]; exact .bool _⟩
  case lss => have := boolV_some h; subst this; exact ⟨_, rfl, fun ρ => by rw [bytesLess_nums]; exact .bool _⟩
  case leq => have := boolV_some h; subst this; exact ⟨_, rfl, fun ρ => by rw [bytesLess_nums, toList_eq_nums]; exact .bool _⟩
  case gtr => have := boolV_some h; subst this; exact ⟨_, rfl, fun ρ => by rw [bytesLess_nums, toList_eq_nums, notb_eq]; exact .bool _⟩
  case geq => have := boolV_some h; subst this; exact ⟨_, rfl, fun ρ => by rw [bytesLess_nums, notb_eq]; exact .bool _⟩
  all_goals cases h

end Go.Am

/- The small machine against the model: equality on a type. -/
namespace Go.Am

theorem tdScalar_b {d : TypeDesc} (h : tdScalar d = some .b) : d = .bool := by cases d <;> simp [tdScalar] at h; rfl
theorem tdScalar_i {d : TypeDesc} (h : tdScalar d = some .i) : ∃ k, d = .int k := by cases d <;> simp [tdScalar] at h; exact ⟨_, rfl⟩
theorem tdScalar_s {d : TypeDesc} (h : tdScalar d = some .s) : d = .string := by cases d <;> simp [tdScalar] at h; rfl
theorem tdIface_true {d : TypeDesc} (h : tdIface d = true) : ∃ ms, d = .interface ms := by cases d <;> simp [tdIface] at h; exact ⟨_, rfl⟩

theorem eqB_some {x y : AVal} {r : Bool} (h : eqB x y = some r) : ∃ a b, x = .bool a ∧ y = .bool b ∧ r = (a == b) := by
  cases x <;> cases y <;> simp only [eqB, Option.some.injEq, reduceCtorEq] at h
  exact ⟨_, _, rfl, rfl, h.symm⟩
theorem eqN_some {x y : AVal} {r : Bool} (h : eqN x y = some r) : ∃ k a b, x = .int k a ∧ y = .int k b ∧ r = (a == b) := by
  cases x <;> cases y <;> simp only [eqN, reduceCtorEq] at h
  obtain ⟨h1, h2⟩ := ok?_some h
  simp only [decide_eq_true_eq] at h1
  subst h1
  cases h2
  exact ⟨_, _, _, rfl, rfl, by rw [eqI_eq]; rfl⟩
theorem eqS_some {x y : AVal} {r : Bool} (h : eqS x y = some r) : ∃ a b, x = .str a ∧ y = .str b ∧ r = strEq a b := by
  cases x <;> cases y <;> simp only [eqS, Option.some.injEq, reduceCtorEq] at h
  exact ⟨_, _, rfl, rfl, h.symm⟩

theorem vr_str {ρ : Rho} {s : List Nat} {v : Value} (h : VR ρ (.str s) v) : ∃ b, v = .string b ∧ s = nums b := by
  cases h with | str _ b h => exact ⟨b, rfl, h.symm⟩
theorem vr_int {ρ : Rho} {k : IntKind} {n : Int} {v : Value} (h : VR ρ (.int k n) v) : v = .int k n := by cases h; rfl
theorem vr_bool {ρ : Rho} {b : Bool} {v : Value} (h : VR ρ (.bool b) v) : v = .bool b := by cases h; rfl
theorem vr_ptr {ρ : Rho} {b o : Nat} {v : Value} (h : VR ρ (.ptr b o) v) : ∃ c n, v = .pointer (some ⟨c, o, none⟩) ∧ ρ b = some (c, n) := by cases h with | ptr _ _ c n h => exact ⟨c, n, rfl, h⟩
theorem vr_agg {ρ : Rho} {cs : List AVal} {v : Value} (h : VR ρ (.agg cs) v) : ∃ vs, v = .agg ⟨vs⟩ ∧ VRs ρ cs vs ∧ ∀ x ∈ cs, x.oneCell = true := by cases h with | agg _ vs h ho => exact ⟨vs, rfl, h, ho⟩
theorem vr_tup {ρ : Rho} {cs : List AVal} {v : Value} (h : VR ρ (.tup cs) v) : ∃ vs, v = .tuple ⟨vs⟩ ∧ VRs ρ cs vs := by cases h with | tup _ vs h => exact ⟨vs, rfl, h⟩
theorem vr_iface {ρ : Rho} {t : TypeId} {x : AVal} {v : Value} (h : VR ρ (.iface t x) v) : ∃ u, v = .iface t u ∧ VR ρ x u := by cases h with | iface _ _ u h => exact ⟨u, rfl, h⟩

theorem str_beq (a b : ByteArray) : (a == b) = strEq (nums a) (nums b) := by
  rw [strEq_eq, show (a == b) = (a.data == b.data) from rfl]
  by_cases h : a = b
  · subst h; simp
  · rw [show (a.data == b.data) = false from by simpa using fun e => h (by obtain ⟨a⟩ := a; obtain ⟨b⟩ := b; simp only at e; rw [e])]
    exact (decide_eq_false fun e => h (nums_inj e)).symm

section
variable {P : Program} {ρ : Rho} {w : World}

theorem equalIn_sc {n : Nat} {t : TypeId} {d : TypeDesc} {k : Sc} {x y : AVal} {u v : Value} {r : Bool} (hd : P.underlying t = some d) (hk : tdScalar d = some k)
    (hx : VR ρ x u) (hy : VR ρ y v) (h : k.eq x y = some r) : (Op.equalIn (n + 1) t u v).run P w = .ok r w := by
  cases k with
  | b =>
    obtain ⟨a, b, rfl, rfl, rfl⟩ := eqB_some h
    rw [vr_bool hx, vr_bool hy]
    have := tdScalar_b hk; subst this
    simp only [Op.equalIn]
    rw [run_ok (run_underlying hd w)]; rfl
  | i =>
    obtain ⟨k, a, b, rfl, rfl, rfl⟩ := eqN_some h
    rw [vr_int hx, vr_int hy]
    obtain ⟨k', hk'⟩ := tdScalar_i hk; subst hk'
    simp only [Op.equalIn]
    rw [run_ok (run_underlying hd w)]
    simp only [if_true]; rfl
  | s =>
    obtain ⟨a, b, rfl, rfl, rfl⟩ := eqS_some h
    obtain ⟨s, rfl, rfl⟩ := vr_str hx
    obtain ⟨s', rfl, rfl⟩ := vr_str hy
    have := tdScalar_s hk; subst this
    simp only [Op.equalIn]
    rw [run_ok (run_underlying hd w), ← str_beq]; rfl

/-- What equality asks fits the type. -/
def EqFit (P : Program) (t : TypeId) : EqD → Prop
  | .sc k => ∃ d, P.underlying t = some d ∧ tdScalar d = some k
  | .ptr => ∃ e i, P.underlying t = some (.pointer e) ∧ P.info? e = some i ∧ 1 ≤ i.size
  | .nil .sl => ∃ e, P.underlying t = some (.slice e)
  | .nil .mp => ∃ k e, P.underlying t = some (.map k e)
  | .nil .fn => ∃ a b c, P.underlying t = some (.func a b c)
  | .nil .ifc => ∃ ms, P.underlying t = some (.interface ms)
  | .cells l => EqCells P t l
  | .ifc good => (∃ ms, P.underlying t = some (.interface ms)) ∧ ∀ t k, good t = some k → ∃ i d, P.info? t = some i ∧ i.comparable = true ∧ P.underlying t = some d ∧ tdScalar d = some k

theorem equal_in (t : TypeId) (x y : Value) : ∃ n, Op.equal t x y = Op.equalIn (n + 2) t x y := ⟨9998, rfl⟩

theorem nilSl_some {x : AVal} {r : Bool} {u : Value} (h : nilSl x = some r) (hx : VR ρ x u) : (∃ b l k, u = .slice b l k ∧ r = b.isNone) := by
  cases hx <;> simp only [nilSl, Option.some.injEq, reduceCtorEq] at h <;> subst h <;> exact ⟨_, _, _, rfl, rfl⟩
theorem nilMp_some {x : AVal} {r : Bool} {u : Value} (h : nilMp x = some r) (hx : VR ρ x u) : (∃ b, u = .map b ∧ r = b.isNone) := by
  cases hx <;> simp only [nilMp, Option.some.injEq, reduceCtorEq] at h <;> subst h <;> exact ⟨_, rfl, rfl⟩
theorem nilFn_some {x : AVal} {r : Bool} {u : Value} (h : nilFn x = some r) (hx : VR ρ x u) : (u = .nilFunc ∧ r = true) ∨ ∃ f a b, u = .func f a b ∧ r = false := by
  cases hx <;> simp only [nilFn, Option.some.injEq, reduceCtorEq] at h <;> subst h
  · exact .inr ⟨_, _, _, rfl, rfl⟩
  · exact .inl ⟨rfl, rfl⟩
theorem nilIf_some {x : AVal} {r : Bool} {u : Value} (h : nilIf x = some r) (hx : VR ρ x u) : (u = .nilIface ∧ x = .iface0 ∧ r = true) ∨ ∃ t v, u = .iface t v ∧ r = false := by
  cases hx <;> simp only [nilIf, Option.some.injEq, reduceCtorEq] at h <;> subst h
  · exact .inr ⟨_, _, rfl, rfl⟩
  · exact .inl ⟨rfl, rfl, rfl⟩

theorem ptrEq_some {x y : AVal} {r : Bool} (h : ptrEq x y = some r) : (x = .ptr0 ∧ y = .ptr0 ∧ r = true) ∨ (∃ b o, x = .ptr0 ∧ y = .ptr b o ∧ r = false) ∨ (∃ b o, x = .ptr b o ∧ y = .ptr0 ∧ r = false) ∨ ∃ b o p, x = .ptr b o ∧ y = .ptr b p ∧ r = o.beq p := by
  cases x <;> cases y <;> simp only [ptrEq, Option.some.injEq, reduceCtorEq] at h
  · subst h; exact .inl ⟨rfl, rfl, rfl⟩
  · subst h; exact .inr (.inl ⟨_, _, rfl, rfl, rfl⟩)
  · subst h; exact .inr (.inr (.inl ⟨_, _, rfl, rfl, rfl⟩))
  · obtain ⟨h1, h2⟩ := ok?_some h
    cases h2
    have := Nat.eq_of_beq_eq_true h1
    subst this
    exact .inr (.inr (.inr ⟨_, _, _, rfl, rfl, rfl⟩))

theorem asIface_none {x : AVal} (h : asIface x = none) : ∀ t v, x ≠ .iface t v := by intro t v e; subst e; simp [asIface] at h

theorem equal_ok {t : TypeId} {d : EqD} {x y : AVal} {u v : Value} {r : Bool} (hf : EqFit P t d) (hx : VR ρ x u) (hy : VR ρ y v) (h : aEq d x y = some r) :
    (Op.equal t u v).run P w = .ok r w := by
  obtain ⟨n, hn⟩ := equal_in t u v
  cases d with
  | sc k => obtain ⟨d, hd, hk⟩ := hf; rw [hn]; exact equalIn_sc hd hk hx hy h
  | ptr =>
    obtain ⟨e, i, hd, hi, hs⟩ := hf
    rw [hn]
    simp only [Op.equalIn]
    rw [run_ok (run_underlying hd w)]
    rcases ptrEq_some h with ⟨rfl, rfl, rfl⟩ | ⟨b, o, rfl, rfl, rfl⟩ | ⟨b, o, rfl, rfl, rfl⟩ | ⟨b, o, p, rfl, rfl, rfl⟩
    · cases hx; cases hy; rfl
    · cases hx; obtain ⟨c, n, rfl, hc⟩ := vr_ptr hy; rfl
    · cases hy; obtain ⟨c, n, rfl, hc⟩ := vr_ptr hx; rfl
    · obtain ⟨c, n, rfl, hc⟩ := vr_ptr hx
      obtain ⟨c', n', rfl, hc'⟩ := vr_ptr hy
      rw [hc] at hc'; cases hc'
      simp only
      rw [run_ok (run_size hi w), if_pos (by omega)]
      simp only [sameAddr, beq_self_eq_true, if_true]
      rw [beq_eq]
      by_cases g : o = p
      · subst g; simp only [beq_self_eq_true, decide_true]; rfl
      · rw [show ((⟨c, o, none⟩ : Addr) == ⟨c, p, none⟩) = false from by simp [BEq.beq, g], decide_eq_false g]; rfl
  | nil k =>
    obtain ⟨p, hp, h⟩ := ob_some h
    obtain ⟨q, hq, h⟩ := ob_some h
    obtain ⟨h1, h2⟩ := ok?_some h
    cases h2
    cases k with
    | sl =>
      obtain ⟨e, hd⟩ := hf
      obtain ⟨b, l, k, rfl, rfl⟩ := nilSl_some hp hx
      obtain ⟨b', l', k', rfl, rfl⟩ := nilSl_some hq hy
      rw [hn]
      simp only [Op.equalIn]
      rw [run_ok (run_underlying hd w)]
      cases b <;> cases b' <;> first | rfl | simp at h1
    | mp =>
      obtain ⟨k, e, hd⟩ := hf
      obtain ⟨b, rfl, rfl⟩ := nilMp_some hp hx
      obtain ⟨b', rfl, rfl⟩ := nilMp_some hq hy
      rw [hn]
      simp only [Op.equalIn]
      rw [run_ok (run_underlying hd w)]
      cases b <;> cases b' <;> first | rfl | simp at h1
    | fn =>
      obtain ⟨a, b, c, hd⟩ := hf
      rw [hn]
      simp only [Op.equalIn]
      rw [run_ok (run_underlying hd w)]
      rcases nilFn_some hp hx with ⟨rfl, rfl⟩ | ⟨f, a, b, rfl, rfl⟩ <;> rcases nilFn_some hq hy with ⟨rfl, rfl⟩ | ⟨f', a', b', rfl, rfl⟩ <;> first | rfl | simp at h1
    | ifc =>
      obtain ⟨ms, hd⟩ := hf
      rw [hn]
      simp only [Op.equalIn]
      rw [run_ok (run_underlying hd w)]
      rcases nilIf_some hp hx with ⟨rfl, hx0, rfl⟩ | ⟨f, a, rfl, rfl⟩ <;> rcases nilIf_some hq hy with ⟨rfl, hy0, rfl⟩ | ⟨f', a', rfl, rfl⟩ <;> first | rfl | simp at h1
  | cells l =>
    obtain ⟨xs, h1, h⟩ := ob_some h
    obtain ⟨ys, h2, h⟩ := ob_some h
    have e1 := asAgg_some h1; subst e1
    have e2 := asAgg_some h2; subst e2
    obtain ⟨us, rfl, hu, _⟩ := vr_agg hx
    obtain ⟨vs, rfl, hv, _⟩ := vr_agg hy
    exact (hf ρ xs ys us vs r hu hv h w).1
  | ifc good =>
    obtain ⟨⟨ms, hd⟩, hg⟩ := hf
    simp only [aEq, ifcEq] at h
    rw [hn]
    rw [Op.equalIn]
    rw [run_ok (run_underlying hd w)]
    cases e1 : asIface x with
    | none =>
      rw [e1] at h
      obtain ⟨p, h2, h⟩ := ob_some h
      obtain ⟨q, h3, h⟩ := ob_some h
      cases h
      have e2 := asIface_some h2; subst e2
      obtain ⟨u', rfl, _⟩ := vr_iface hy
      rcases nilIf_some h3 hx with ⟨rfl, hx0, rfl⟩ | ⟨f, a, rfl, rfl⟩
      · rfl
      · cases hx; exact absurd rfl (asIface_none e1 _ _)
    | some p =>
      obtain ⟨tx, vx⟩ := p
      rw [e1] at h
      have e3 := asIface_some e1; subst e3
      obtain ⟨u', rfl, hu⟩ := vr_iface hx
      cases e2 : asIface y with
      | none =>
        rw [e2] at h
        obtain ⟨q, h3, h⟩ := ob_some (show ob (nilIf y) (fun _ => some false) = some r from h)
        cases h
        rcases nilIf_some h3 hy with ⟨rfl, hy0, rfl⟩ | ⟨f, a, rfl, rfl⟩
        · rfl
        · cases hy; exact absurd rfl (asIface_none e2 _ _)
      | some q =>
        obtain ⟨ty, vy⟩ := q
        rw [e2] at h
        have e3 := asIface_some e2; subst e3
        obtain ⟨v', rfl, hv⟩ := vr_iface hy
        have h5 : (bif Nat.beq tx ty then ob (good tx) fun k => k.eq vx vy else some false) = some r := h
        simp only
        cases g : Nat.beq tx ty with
        | false =>
          rw [g] at h5
          cases h5
          rw [if_pos (fun e => by subst e; rw [Nat.beq_refl] at g; cases g)]
          rfl
        | true =>
          rw [g] at h5
          obtain ⟨k, hk, h6⟩ := ob_some h5
          have e4 := Nat.eq_of_beq_eq_true g; subst e4
          obtain ⟨i, d, hi, hc, hu', hs⟩ := hg _ _ hk
          rw [if_neg (by simp), run_ok (run_info hi w), hc]
          simp only [Bool.not_true, Bool.false_eq_true, if_false]
          exact equalIn_sc (n := n) hu' hs hu hv h6

end

end Go.Am

/- The small machine against the model: operations that look at no memory. -/
namespace Go.Am

/-- A value's operation. -/
def vOf (s : Sem Value) : Sem Next := do pure (.value (← s))
theorem vOf_run {P : Program} {s : Sem Value} {w w' : World} {u : Value} (h : s.run P w = .ok u w') : (vOf s).run P w = .ok (.value u) w' := by
  unfold vOf; rw [run_ok h]; rfl

section
variable {P : Program} {c : Cx} {ρ : Rho} {ws : Ws} {e : Env} {E : Operand → Value} {l : List Operand}

theorem EvR.at (hE : EvR ρ ws e E l) {x : Operand} (hm : x ∈ l) {y : AOpd} (hy : ofOpd ws x = some y) {v : AVal} (hv : y.ev e = some v) : VR ρ v (E x) := hE x hm y hy v hv

theorem EvR.list (hE : EvR ρ ws e E l) : ∀ {xs : List Operand} {ys : List AOpd} {vs : List AVal}, (∀ x ∈ xs, x ∈ l) → opds ws xs = some ys → evs ys e = some vs → VRs ρ vs (xs.map E) := by
  intro xs
  induction xs with
  | nil => intro ys vs _ h hv; cases h; cases hv; exact .nil
  | cons x xs ih =>
    intro ys vs hm h hv
    obtain ⟨y, hy, h⟩ := ob_some h
    obtain ⟨ys', hys, h⟩ := ob_some h
    cases h
    obtain ⟨v, hv1, hv⟩ := ob_some (show ob (y.ev e) (fun v => ob (evs ys' e) fun vs => some (v :: vs)) = some vs from hv)
    obtain ⟨vs', hv2, hv⟩ := ob_some hv
    cases hv
    exact .cons _ _ _ _ (hE.at (hm x (by simp)) hy hv1) (ih (fun z hz => hm z (by simp [hz])) hys hv2)

/-- Options alike. -/
def OptR (ρ : Rho) : Option AVal → Option Value → Prop
  | none, none => True
  | some x, some v => VR ρ x v
  | _, _ => False

theorem EvR.opt (hE : EvR ρ ws e E l) {x : Option Operand} {y : Option AOpd} {v : Option AVal} (hm : ∀ z, x = some z → z ∈ l) (h : optOpd ws x = some y) (hv : evOpt y e = some v) : OptR ρ v (x.map E) := by
  cases x with
  | none => cases h; cases hv; trivial
  | some x =>
    obtain ⟨y', hy, h⟩ := ob_some h
    cases h
    obtain ⟨v', hv1, hv⟩ := ob_some hv
    cases hv
    exact hE.at (hm x rfl) hy hv1

/-- How an operation of ours, but for an effect, is like the model's. -/
def AopOk (P : Program) (ρ : Rho) (e : Env) (s : Sem Next) : AOp → Prop
  | .mv x => ∃ u, (∀ w, s.run P w = .ok (.value u) w) ∧ ∀ v, x.ev e = some v → VR ρ v u
  | .pu p => PuOk P ρ e s p
  | .al a => AlOk P ρ e s a
  | .rd r => RdOk P ρ e s r
  | .ef _ | .no _ => True

theorem cpMove_ok {x : Operand} {a : AOp} (hE : EvR ρ ws e E [x]) (h : cpMove x c ws = some a) : AopOk P ρ e (pure (.value (E x))) a := by
  obtain ⟨y, hy, h⟩ := ob_some h
  cases h
  exact ⟨_, fun w => rfl, fun v hv => hE.at (by simp) hy hv⟩

theorem cpPick_ok {x y z : Operand} {a : AOp} (hE : EvR ρ ws e E [x, y, z]) (h : cpPick x y z c ws = some a) : AopOk P ρ e (do pure (.value (if ← Go.asBool (E x) then E y else E z))) a := by
  obtain ⟨x', hx, h⟩ := ob_some h
  obtain ⟨y', hy, h⟩ := ob_some h
  obtain ⟨z', hz, h⟩ := ob_some h
  cases h
  intro v hv w
  obtain ⟨b, hb, hv⟩ := ob_some (show puPick x' y' z' e = some v from hv)
  obtain ⟨t, ht, hv⟩ := ob_some hv
  have := asBool_some ht
  subst this
  rw [vr_bool (hE.at (by simp) hx hb)]
  refine ⟨if t then E y else E z, rfl, ?_⟩
  cases t with
  | false => exact hE.at (by simp) hz hv
  | true => exact hE.at (by simp) hy hv

theorem aBin_ok {op : BinOp} {t : TypeId} {x y v : AVal} {u u' : Value} (hx : VR ρ x u) (hy : VR ρ y u') (h : aBin op x y = some v) (w : World) :
    ∃ r, (binOp op t u u').run P w = .ok r w ∧ VR ρ v r := by
  unfold aBin at h
  cases e1 : asInt x with
  | none =>
    rw [e1] at h
    obtain ⟨s, hs, h⟩ := ob_some h
    obtain ⟨s', hs', h⟩ := ob_some h
    have := asStr_some hs; subst this
    have := asStr_some hs'; subst this
    obtain ⟨b, rfl, rfl⟩ := vr_str hx
    obtain ⟨b', rfl, rfl⟩ := vr_str hy
    obtain ⟨r, hr, hv⟩ := strBin_ok (P := P) h w
    refine ⟨r, ?_, hv ρ⟩
    rw [← hr]
    cases op <;> rfl
  | some p =>
    obtain ⟨k, n⟩ := p
    rw [e1] at h
    have := asInt_some e1; subst this
    obtain ⟨k', m, h1, h'⟩ := ob2_some (show ob2 (asInt y) (fun k' y => ok? (isShift op || decide (k = k')) (intBin op k n y)) = some v from h)
    obtain ⟨h2, h3⟩ := ok?_some h'
    have := asInt_some h1; subst this
    rw [vr_int hx, vr_int hy]
    obtain ⟨r, hr, hv⟩ := intBin_ok (P := P) (t := t) h2 h3 w
    exact ⟨r, hr, hv ρ⟩

variable (T : Ties P c)

/-- What equality asks fits the type. -/
theorem eqd_fit {t : TypeId} {x y : AOpd} {d : EqD} (T : Ties P c) (h : c.eqd t x y = some d) : EqFit P t d := by
  obtain ⟨td, hd, h⟩ := ob_some h
  have hu := T.und hd
  cases e1 : tdScalar td with
  | some k => rw [e1] at h; cases h; exact ⟨td, hu, e1⟩
  | none =>
    rw [e1] at h
    have h : (bif tdAgg td then (ob (c.plain.get t) fun n => some (.cells n)) else
        Option.casesOn (motive := fun _ => Option EqD) (tdPtr td)
          (bif tdIface td then (bif x.isConst || y.isConst then some (.nil .ifc) else some (.ifc c.scal)) else ob (tdNilable td) fun k => some (.nil k))
          (fun e => ob (c.size1 e) fun _ => some .ptr)) = some d := h
    cases e2 : tdAgg td with
    | true => rw [e2] at h; obtain ⟨l, hl, h⟩ := ob_some h; cases h; exact T.plain _ _ hl
    | false =>
      rw [e2] at h
      cases e3 : tdPtr td with
      | some el =>
        rw [e3] at h
        obtain ⟨n, hn, h⟩ := ob_some (show ob (c.size1 el) (fun _ => some EqD.ptr) = some d from h)
        cases h
        have := tdPtr_some e3; subst this
        obtain ⟨h1, h2⟩ := Ties.size1 hn
        obtain ⟨i, hi, h3⟩ := ob_some h2
        cases h3
        exact ⟨el, i, hu, T.ty _ _ hi, h1⟩
      | none =>
        rw [e3] at h
        have h : (bif tdIface td then (bif x.isConst || y.isConst then some (.nil .ifc) else some (.ifc c.scal)) else ob (tdNilable td) fun k => some (.nil k)) = some d := h
        cases e4 : tdIface td with
        | true =>
          rw [e4] at h
          obtain ⟨ms, rfl⟩ := tdIface_true e4
          cases e5 : (x.isConst || y.isConst) with
          | true => rw [e5] at h; cases h; exact ⟨ms, hu⟩
          | false => rw [e5] at h; cases h; exact ⟨⟨ms, hu⟩, T.scal⟩
        | false =>
          rw [e4] at h
          obtain ⟨k, hk, h⟩ := ob_some (show ob (tdNilable td) (fun k => some (EqD.nil k)) = some d from h)
          cases h
          cases td <;> simp only [tdNilable, Option.some.injEq, reduceCtorEq] at hk <;> subst hk
          · exact ⟨_, hu⟩
          · exact ⟨_, _, hu⟩
          · exact ⟨_, _, _, hu⟩

theorem keyd_fit {t : TypeId} {d : EqD} (T : Ties P c) (h : c.keyd t = some d) : EqFit P t d ∧ ((∃ k, d = .sc k) ∨ ∃ l, d = .cells l) := by
  obtain ⟨td, hd, h⟩ := ob_some h
  have hu := T.und hd
  cases e1 : tdScalar td with
  | some k => rw [e1] at h; cases h; exact ⟨⟨td, hu, e1⟩, .inl ⟨_, rfl⟩⟩
  | none =>
    rw [e1] at h
    obtain ⟨_, h⟩ := ok?_some (show ok? (tdAgg td) (ob (c.plain.get t) fun n => some (EqD.cells n)) = some d from h)
    obtain ⟨l, hl, h⟩ := ob_some h
    cases h
    exact ⟨T.plain _ _ hl, .inr ⟨_, rfl⟩⟩

end

end Go.Am

end
