/- The small machine against the model: operations (1). (Part of the proof of a statement about the given program; no condition.) -/
import Derived.Test.YtmldcbpkphigeaaGreatDoorA1
import Derived.Laws.Tables
import Derived.Laws.MakeOwn
import Derived.Laws.IdiomStrings
set_option linter.unusedVariables false
set_option linter.unusedSimpArgs false
noncomputable section
/- The small machine against the model: comparisons, conversions, slices, parts. -/
namespace Go.Am

def eqHead : Value → Bool
  | .int _ _ | .float _ _ | .complex _ _ _ | .string _ => false
  | _ => true

theorem binOp_eql {t : TypeId} {u v : Value} (h : eqHead u = true) : binOp .eql t u v = (do pure (.bool (← Op.equal t u v))) := by
  cases u <;> first | rfl | simp [eqHead] at h
theorem binOp_neq {t : TypeId} {u v : Value} (h : eqHead u = true) : binOp .neq t u v = (do pure (.bool (!(← Op.equal t u v)))) := by
  cases u <;> first | rfl | simp [eqHead] at h

/-- Is it literally nil, as an interface value? -/
def nilIfc : Value → Bool
  | .nilIface => true
  | _ => false
def isAggV : Value → Bool
  | .agg _ => true
  | _ => false

section
variable {P : Program} {c : Cx} {ρ : Rho} {ws : Ws} {e : Env} {E : Operand → Value} {l : List Operand}

theorem aEq_heads {d : EqD} {t : TypeId} {x y : AVal} {u v : Value} {r : Bool} (hf : EqFit P t d) (hx : VR ρ x u) (hy : VR ρ y v) (h : aEq d x y = some r) :
    ((∃ k a b, u = .int k a ∧ v = .int k b ∧ r = (a == b)) ∨ (∃ a b, u = .string a ∧ v = .string b ∧ r = strEq (nums a) (nums b)) ∨ eqHead u = true) ∧
    (nilIfc u = true → nilIfc v = true → d = .nil .ifc ∧ x = .iface0 ∧ y = .iface0) ∧ (isAggV u = true → P.eqGuardType P.depth t = false) := by
  cases d with
  | sc k =>
    cases k with
    | b => obtain ⟨a, b, rfl, rfl, rfl⟩ := eqB_some h; rw [vr_bool hx]; exact ⟨.inr (.inr rfl), fun h => (by cases h), fun h => (by cases h)⟩
    | i => obtain ⟨k, a, b, rfl, rfl, rfl⟩ := eqN_some h; rw [vr_int hx, vr_int hy]; exact ⟨.inl ⟨_, _, _, rfl, rfl, rfl⟩, fun h => (by cases h), fun h => (by cases h)⟩
    | s =>
      obtain ⟨a, b, rfl, rfl, rfl⟩ := eqS_some h
      obtain ⟨s, rfl, rfl⟩ := vr_str hx
      obtain ⟨s', rfl, rfl⟩ := vr_str hy
      exact ⟨.inr (.inl ⟨_, _, rfl, rfl, rfl⟩), fun h => (by cases h), fun h => (by cases h)⟩
  | ptr =>
    rcases ptrEq_some h with ⟨rfl, rfl, rfl⟩ | ⟨b, o, rfl, rfl, rfl⟩ | ⟨b, o, rfl, rfl, rfl⟩ | ⟨b, o, p, rfl, rfl, rfl⟩
    · cases hx; exact ⟨.inr (.inr rfl), fun h => (by cases h), fun h => (by cases h)⟩
    · cases hx; exact ⟨.inr (.inr rfl), fun h => (by cases h), fun h => (by cases h)⟩
    · cases hx; exact ⟨.inr (.inr rfl), fun h => (by cases h), fun h => (by cases h)⟩
    · cases hx; exact ⟨.inr (.inr rfl), fun h => (by cases h), fun h => (by cases h)⟩
  | nil k =>
    obtain ⟨p, hp, h⟩ := ob_some h
    obtain ⟨q, hq, h⟩ := ob_some h
    cases k with
    | sl => obtain ⟨b, l, k, rfl, rfl⟩ := nilSl_some hp hx; exact ⟨.inr (.inr rfl), fun h => (by cases h), fun h => (by cases h)⟩
    | mp => obtain ⟨b, rfl, rfl⟩ := nilMp_some hp hx; exact ⟨.inr (.inr rfl), fun h => (by cases h), fun h => (by cases h)⟩
    | fn => rcases nilFn_some hp hx with ⟨rfl, rfl⟩ | ⟨f, a, b, rfl, rfl⟩ <;> exact ⟨.inr (.inr rfl), fun h => (by cases h), fun h => (by cases h)⟩
    | ifc =>
      rcases nilIf_some hp hx with ⟨rfl, hx0, rfl⟩ | ⟨f, a, rfl, rfl⟩
      · refine ⟨.inr (.inr rfl), fun _ h2 => ?_, fun h => (by cases h)⟩
        rcases nilIf_some hq hy with ⟨rfl, hy0, rfl⟩ | ⟨f', a', rfl, rfl⟩
        · exact ⟨rfl, hx0, hy0⟩
        · cases h2
      · exact ⟨.inr (.inr rfl), fun h => (by cases h), fun h => (by cases h)⟩
  | cells l =>
    obtain ⟨xs, h1, h⟩ := ob_some h
    obtain ⟨ys, h2, h⟩ := ob_some h
    have e1 := asAgg_some h1; subst e1
    have e2 := asAgg_some h2; subst e2
    obtain ⟨us, rfl, hu, _⟩ := vr_agg hx
    obtain ⟨vs, rfl, hv, _⟩ := vr_agg hy
    exact ⟨.inr (.inr rfl), fun h => (by cases h), fun _ => (hf ρ xs ys us vs r hu hv h default).2.2⟩
  | ifc good =>
    cases e1 : asIface x with
    | none =>
      simp only [aEq, ifcEq, e1] at h
      obtain ⟨p, h2, h⟩ := ob_some h
      obtain ⟨q, h3, h⟩ := ob_some h
      have e2 := asIface_some h2; subst e2
      obtain ⟨v', rfl, _⟩ := vr_iface hy
      rcases nilIf_some h3 hx with ⟨rfl, hx0, rfl⟩ | ⟨f, a, rfl, rfl⟩
      · exact ⟨.inr (.inr rfl), fun _ h => (by cases h), fun h => (by cases h)⟩
      · exact ⟨.inr (.inr rfl), fun _ h => (by cases h), fun h => (by cases h)⟩
    | some p =>
      obtain ⟨tx, vx⟩ := p
      have e2 := asIface_some e1; subst e2
      obtain ⟨u', rfl, _⟩ := vr_iface hx
      exact ⟨.inr (.inr rfl), fun h => (by cases h), fun h => (by cases h)⟩

theorem ofOpd_const {x : Operand} {v : AVal} (h : ofOpd ws x = some (.const v)) (hv : v = .iface0) : ∃ u, x = .const u := by
  subst hv
  cases x with
  | tmp t =>
    simp only [ofOpd, Option.some.injEq] at h
    cases e : lastIn t ws 0 <;> rw [e] at h <;> cases h
  | const u => exact ⟨u, rfl⟩
  | global g => cases h
  | func f => cases h

theorem eqGuard_ok {op : BinOp} {t : TypeId} {x y : Operand} {u v : Value} {w : World} (h1 : nilIfc u = true → nilIfc v = true → (∃ a, x = .const a) ∨ ∃ a, y = .const a) (h2 : isAggV u = true → P.eqGuardType P.depth t = false) :
    (eqGuard op t x y u v).run P w = .ok () w := by
  unfold eqGuard
  cases op <;> first
    | rfl
    | (cases u <;> cases v <;> first
        | rfl
        | (rcases h1 rfl rfl with ⟨a, rfl⟩ | ⟨a, rfl⟩
           · rfl
           · cases x <;> rfl)
        | (show ((do if !(← program).eqGuardType (← program).depth t then return
                     if ← Op.eqGuardIn Op.maxDepth t _ _ then unsupported _) : Sem Unit).run P w = _
           rw [run_ok (run_program P w), run_ok (run_program P w), h2 rfl]; rfl))

theorem cpBinOp_ok (T : Ties P c) {op : BinOp} {t ty : TypeId} {x y : Operand} {a : AOp} (hE : EvR ρ ws e E [x, y]) (h : cpBinOp op t x y ty c ws = some a) :
    AopOk P ρ e (vOf (do eqGuard op t x y (E x) (E y); binOp op t (E x) (E y))) a := by
  obtain ⟨x', hx, h⟩ := ob_some h
  obtain ⟨y', hy, h⟩ := ob_some h
  cases e0 : isEql op with
  | false =>
    rw [e0] at h
    cases h
    intro v hv w
    obtain ⟨xv, hxv, hv⟩ := ob_some (show puBin op x' y' e = some v from hv)
    obtain ⟨yv, hyv, hv⟩ := ob_some hv
    obtain ⟨r, hr, hR⟩ := aBin_ok (P := P) (t := t) (hE.at (by simp) hx hxv) (hE.at (by simp) hy hyv) hv w
    refine ⟨r, vOf_run ?_, hR⟩
    rw [run_ok (show (eqGuard op t x y (E x) (E y)).run P w = .ok () w from by cases op <;> first | rfl | simp [isEql] at e0)]
    exact hr
  | true =>
    rw [e0] at h
    obtain ⟨d, hd, h⟩ := ob_some (show ob (c.eqd t x' y') (fun d => some (AOp.pu (.eq (isNeq op) d x' y'))) = some a from h)
    cases h
    intro v hv w
    obtain ⟨xv, hxv, hv⟩ := ob_some (show puEq (isNeq op) d x' y' e = some v from hv)
    obtain ⟨yv, hyv, hv⟩ := ob_some hv
    obtain ⟨r, hr, hv⟩ := ob_some hv
    have := boolV_some hv
    have hf := eqd_fit T hd
    have hX := hE.at (by simp) hx hxv
    have hY := hE.at (by simp) hy hyv
    obtain ⟨g1, g2, g3⟩ := aEq_heads hf hX hY hr
    have hq := equal_ok (w := w) hf hX hY hr
    have hg : (eqGuard op t x y (E x) (E y)).run P w = .ok () w := by
      refine eqGuard_ok (fun h1 h2 => ?_) g3
      obtain ⟨rfl, rfl, rfl⟩ := g2 h1 h2
      obtain ⟨td, htd, hd⟩ := ob_some hd
      cases e1 : tdScalar td with
      | some k => rw [e1] at hd; cases hd
      | none =>
        rw [e1] at hd
        have hd : (bif tdAgg td then (ob (c.plain.get t) fun n => some (.cells n)) else
            Option.casesOn (motive := fun _ => Option EqD) (tdPtr td)
              (bif tdIface td then (bif x'.isConst || y'.isConst then some (.nil .ifc) else some (.ifc c.scal)) else ob (tdNilable td) fun k => some (.nil k))
              (fun e => ob (c.size1 e) fun _ => some .ptr)) = some (EqD.nil .ifc) := hd
        cases e2 : tdAgg td with
        | true => rw [e2] at hd; obtain ⟨l, hl, hd⟩ := ob_some hd; cases hd
        | false =>
          rw [e2] at hd
          cases e3 : tdPtr td with
          | some el => rw [e3] at hd; obtain ⟨n, hn, hd⟩ := ob_some (show ob (c.size1 el) (fun _ => some EqD.ptr) = _ from hd); cases hd
          | none =>
            rw [e3] at hd
            have hd : (bif tdIface td then (bif x'.isConst || y'.isConst then some (.nil .ifc) else some (.ifc c.scal)) else ob (tdNilable td) fun k => some (.nil k)) = some (EqD.nil .ifc) := hd
            cases e4 : tdIface td with
            | false =>
              rw [e4] at hd
              obtain ⟨k, hk, hd⟩ := ob_some (show ob (tdNilable td) (fun k => some (EqD.nil k)) = _ from hd)
              cases hd
              cases td <;> simp only [tdNilable, reduceCtorEq, Option.some.injEq] at hk
            | true =>
              rw [e4] at hd
              cases e5 : (x'.isConst || y'.isConst) with
              | false => rw [e5] at hd; cases hd
              | true =>
                simp only [Bool.or_eq_true] at e5
                rcases e5 with e5 | e5
                · cases x' <;> simp only [AOpd.isConst, Bool.false_eq_true] at e5
                  exact .inl (ofOpd_const hx (by cases hxv; rfl))
                · cases y' <;> simp only [AOpd.isConst, Bool.false_eq_true] at e5
                  exact .inr (ofOpd_const hy (by cases hyv; rfl))
    subst this
    have key : (binOp op t (E x) (E y)).run P w = .ok (.bool (bc (isNeq op) (notb r) r)) w := by
      rcases g1 with ⟨k, n, m, h1, h2, rfl⟩ | ⟨s, s', h1, h2, rfl⟩ | g1
      · rw [h1, h2]
        cases op <;> simp only [isEql, Bool.false_eq_true] at e0
        · simp [binOp, Op.intCmp, isNeq]; try rfl
        · simp [binOp, Op.intCmp, isNeq]; try rfl
      · rw [h1, h2]
        cases op <;> simp only [isEql, Bool.false_eq_true] at e0
        · show Result.ok (Value.bool (s.toList == s'.toList)) w = _
          rw [toList_eq_nums]; rfl
        · show Result.ok (Value.bool (!(s.toList == s'.toList))) w = _
          rw [toList_eq_nums]; simp [isNeq]
      · cases op <;> simp only [isEql, Bool.false_eq_true] at e0
        · rw [binOp_eql g1, run_ok hq]; rfl
        · rw [binOp_neq g1, run_ok hq]; simp only [isNeq, bc_true, notb_eq]; rfl
    exact ⟨_, vOf_run (by rw [run_ok hg]; exact key), .bool _⟩

end

end Go.Am

/- The small machine against the model: slices, parts of aggregates, lengths, assertions. -/
namespace Go.Am

section
variable {P : Program} {c : Cx} {ρ : Rho} {ws : Ws} {e : Env} {E : Operand → Value} {l : List Operand}

/-! ### Bounds -/

theorem nat_of (i : Nat) : 0 ≤ (i : Int) := Int.natCast_nonneg i

theorem bound_ok {y i : Nat} {x : AVal} {u : Value} {code : BoundsCode} (h : aBound y x = some i) (hx : VR ρ x u) (w : World) : (Instr.sliceBound u y code).run P w = .ok i w ∧ i ≤ y := by
  obtain ⟨j, hj, h⟩ := ob_some h
  obtain ⟨h1, h⟩ := ok?_some h
  cases h
  obtain ⟨k, rfl⟩ := asNat_some hj
  have hle := Nat.le_of_ble_eq_true h1
  rw [vr_int hx]
  refine ⟨?_, hle⟩
  unfold Instr.sliceBound
  rw [run_ok (show (asIntOf (.int k (i : Int))).run P w = .ok (k, (i : Int)) w from rfl)]
  simp only
  rw [if_pos ⟨nat_of i, by omega⟩]; rfl

theorem bounds_ok {isSlice : Bool} {len cap a b : Nat} {lo hi : Option AVal} {lo' hi' : Option Value} (hl : OptR ρ lo lo') (hh : OptR ρ hi hi') (h : aBounds len cap lo hi = some (a, b)) (w : World) :
    (Instr.sliceBounds isSlice len cap lo' hi' none).run P w = .ok (a, b, cap) w ∧ a ≤ b ∧ (b ≤ cap ∨ b = len) := by
  obtain ⟨b', hb, h⟩ := ob_some h
  obtain ⟨a', ha, h⟩ := ob_some h
  cases h
  cases hi with
  | none => cases hi' with
    | some => exact hh.elim
    | none =>
      cases hb
      cases lo with
      | none => cases lo' with
        | some => exact hl.elim
        | none => cases ha; exact ⟨rfl, Nat.zero_le _, .inr rfl⟩
      | some x => cases lo' with
        | none => exact hl.elim
        | some v =>
          obtain ⟨h1, h2⟩ := bound_ok (P := P) (code := .sliceB) ha hl w
          refine ⟨?_, h2, .inr rfl⟩
          show (Instr.sliceBound v len .sliceB >>= fun l => pure (l, len, cap)).run P w = _
          rw [run_ok h1]; rfl
  | some y => cases hi' with
    | none => exact hh.elim
    | some u =>
      obtain ⟨h3, h4⟩ := bound_ok (P := P) (code := if isSlice then .sliceAcap else .sliceAlen) hb hh w
      cases lo with
      | none => cases lo' with
        | some => exact hl.elim
        | none =>
          cases ha
          refine ⟨?_, Nat.zero_le _, .inl h4⟩
          show (Instr.sliceBound u cap (if isSlice then .sliceAcap else .sliceAlen) >>= fun h => pure (0, h, cap)).run P w = _
          rw [run_ok h3]; rfl
      | some x => cases lo' with
        | none => exact hl.elim
        | some v =>
          obtain ⟨h1, h2⟩ := bound_ok (P := P) (code := .sliceB) ha hl w
          refine ⟨?_, h2, .inl h4⟩
          show (Instr.sliceBound u cap (if isSlice then .sliceAcap else .sliceAlen) >>= fun h => Instr.sliceBound v h .sliceB >>= fun l => pure (l, h, cap)).run P w = _
          rw [run_ok h3, run_ok h1]; rfl

theorem bounds3_ok {isSlice : Bool} {len cap m a b : Nat} {lo : Option AVal} {x y : AVal} {lo' : Option Value} {u v : Value} (hl : OptR ρ lo lo') (hx : VR ρ x u) (hy : VR ρ y v)
    (hm : aBound cap y = some m) (hb : aBound m x = some b) (ha : Option.casesOn (motive := fun _ => Option Nat) lo (some 0) (aBound b) = some a) (w : World) :
    (Instr.sliceBounds isSlice len cap lo' (some u) (some v)).run P w = .ok (a, b, m) w ∧ a ≤ b ∧ b ≤ m ∧ m ≤ cap := by
  obtain ⟨h1, h2⟩ := bound_ok (P := P) (code := if isSlice then .slice3Acap else .slice3Alen) hm hy w
  obtain ⟨h3, h4⟩ := bound_ok (P := P) (code := .slice3B) hb hx w
  cases lo with
  | none => cases lo' with
    | some => exact hl.elim
    | none =>
      cases ha
      refine ⟨?_, Nat.zero_le _, h4, h2⟩
      show (Instr.sliceBound v cap (if isSlice then .slice3Acap else .slice3Alen) >>= fun m => Instr.sliceBound u m .slice3B >>= fun h => pure (0, h, m)).run P w = _
      rw [run_ok h1, run_ok h3]; rfl
  | some x => cases lo' with
    | none => exact hl.elim
    | some z =>
      obtain ⟨h5, h6⟩ := bound_ok (P := P) (code := .slice3C) ha hl w
      refine ⟨?_, h6, h4, h2⟩
      show (Instr.sliceBound v cap (if isSlice then .slice3Acap else .slice3Alen) >>= fun m => Instr.sliceBound u m .slice3B >>= fun h => Instr.sliceBound z h .slice3C >>= fun l => pure (l, h, m)).run P w = _
      rw [run_ok h1, run_ok h3, run_ok h5]; rfl

theorem addr_add (c o n : Nat) : (⟨c, o, none⟩ : Addr).add n = ⟨c, o + n, none⟩ := by
  unfold Addr.add
  by_cases h : n = 0
  · subst h; rfl
  · rw [if_neg h]

theorem addr_if (c o n m l : Nat) : (if m = l then (⟨c, o, none⟩ : Addr) else (⟨c, o, none⟩ : Addr).add n) = ⟨c, bc (Nat.beq m l) o (o + n), none⟩ := by
  by_cases h : m = l
  · rw [if_pos h, beqY h]; rfl
  · rw [if_neg h, beqN h, addr_add]; rfl

theorem vr_slice0 {v : Value} (h : VR ρ .slice0 v) : v = .slice none 0 0 := by cases h; rfl
theorem vr_slice {b o n : Nat} {k : ACap} {v : Value} (h : VR ρ (.slice b o n k) v) : ∃ cb size kk, v = .slice (some ⟨cb, o, none⟩) n kk ∧ ρ b = some (cb, size) ∧ (∀ z, k = .exact z → kk = z) ∧ (∀ g, k = .grown g → n ≤ kk ∧ o + kk * g = size) := by
  cases h with
  | slice _ _ _ k c n h => exact ⟨_, _, _, rfl, h, fun z e => by cases e; rfl, fun g e => by cases e⟩
  | sliceG _ _ _ g k c n h hl hn => exact ⟨_, _, _, rfl, h, fun z e => by (cases e), fun g' e => by cases e; exact ⟨hl, hn⟩⟩

theorem mkSl_some {b off len : Nat} {k : ACap} {v : AVal} (h : mkSl b off len k = some v) : v = .slice b off len k := by
  unfold mkSl at h
  rw [forceN_eq, forceN_eq] at h
  cases h; rfl
theorem mkPtr_some {b off : Nat} {v : AVal} (h : mkPtr b off = some v) : v = .ptr b off := by
  unfold mkPtr at h
  rw [forceN_eq] at h
  cases h; rfl

theorem onSl_eq {β : Type} (s : Sl) (f : Nat → Nat → Nat → ACap → β) : onSl s f = f s.b s.off s.len s.cap := rfl

theorem aSlice3_ok {size b off m cb n : Nat} {lo hi : Option AVal} {v : AVal} (h : aSlice3 size b off m lo hi = some v) (hb : ρ b = some (cb, n)) :
    ∃ x i j, hi = some x ∧ aBound m x = some j ∧ Option.casesOn (motive := fun _ => Option Nat) lo (some 0) (aBound j) = some i ∧
      VR ρ v (.slice (some (if m = i then (⟨cb, off, none⟩ : Addr) else (⟨cb, off, none⟩ : Addr).add (i * size))) (j - i) (m - i)) := by
  obtain ⟨x, hx, h⟩ := ob_some h
  obtain ⟨j, hj, h⟩ := ob_some h
  obtain ⟨i, hi, h⟩ := ob_some h
  rw [forceN_eq] at h
  have := mkSl_some h
  subst this
  refine ⟨x, i, j, hx, hj, hi, ?_⟩
  rw [addr_if]
  exact .slice _ _ _ _ _ _ hb

theorem slice_run {t el : TypeId} {i : TypeInfo} {base : Option Addr} {n k a b m : Nat} {lo hi max : Option Value} {w : World} (ht : P.underlying t = some (.slice el)) (hi' : P.info? el = some i)
    (h : (Instr.sliceBounds true n k lo hi max).run P w = .ok (a, b, m) w) : (Instr.slice t (.slice base n k) lo hi max).run P w = .ok (.slice (if m = a then base else base.map (·.add (a * i.size))) (b - a) (m - a)) w := by
  unfold Instr.slice
  rw [run_ok (run_underlying ht w)]
  show (Instr.sliceBounds true n k lo hi max >>= fun p => Go.sizeOf el >>= fun size => pure (Value.slice (if p.2.2 = p.1 then base else base.map (·.add (p.1 * size))) (p.2.1 - p.1) (p.2.2 - p.1))).run P w = _
  rw [run_ok h]
  rw [run_ok (run_size hi' w)]; rfl

/-- Slicing a slice. -/
theorem slice_ok {size : Nat} {s : Option Sl} {x : AVal} {u : Value} {lo hi max : Option AVal} {lo' hi' max' : Option Value} {v : AVal} {t el : TypeId} {i : TypeInfo} (hx : VR ρ x u) (hs : asSlice x = some s)
    (hl : OptR ρ lo lo') (hh : OptR ρ hi hi') (hm : OptR ρ max max') (h : aSliceSl size s lo hi max = some v) (ht : P.underlying t = some (.slice el)) (hie : P.info? el = some i) (hz : i.size = size) (w : World) :
    ∃ r, (Instr.slice t u lo' hi' max').run P w = .ok r w ∧ VR ρ v r := by
  subst hz
  cases s with
  | none =>
    have := asSlice_nil hs; subst this
    rw [vr_slice0 hx]
    cases max with
    | none => cases max' with
      | some => exact hm.elim
      | none =>
        obtain ⟨p, hp, h⟩ := ob_some (show ob (aBounds 0 0 lo hi) (fun _ => some AVal.slice0) = some v from h)
        cases h
        obtain ⟨a, b⟩ := p
        obtain ⟨h1, h2, h3⟩ := bounds_ok (P := P) (isSlice := true) hl hh hp w
        have hb : b = 0 := by omega
        have ha : a = 0 := by omega
        subst hb; subst ha
        exact ⟨_, slice_run ht hie h1, .slice0⟩
    | some y => cases max' with
      | none => exact hm.elim
      | some z =>
        obtain ⟨m, hm', h⟩ := ob_some (show ob (aBound 0 y) (fun _ => ob hi fun hv => ob (aBound 0 hv) fun _ => ob (aBounds 0 0 lo none) fun _ => some AVal.slice0) = some v from h)
        obtain ⟨hv, hhv, q1⟩ := ob_some h
        obtain ⟨b, hb, q2⟩ := ob_some q1
        obtain ⟨p, hp, q3⟩ := ob_some q2
        cases q3
        subst hhv
        cases hi' with
        | none => exact hh.elim
        | some hv' =>
          have e1 := (bound_ok (P := P) (code := .index) hm' hm w).2
          have e2 := (bound_ok (P := P) (code := .index) hb hh w).2
          have e1 : m = 0 := by omega
          have e2 : b = 0 := by omega
          subst e1; subst e2
          obtain ⟨b', hb', hp⟩ := ob_some hp
          cases hb'
          obtain ⟨a, ha, hp⟩ := ob_some hp
          cases hp
          obtain ⟨h1, h2, h3, h4⟩ := bounds3_ok (P := P) (isSlice := true) (len := 0) hl hh hm hm' hb ha w
          have e3 : a = 0 := by omega
          subst e3
          exact ⟨_, slice_run ht hie h1, .slice0⟩
  | some s =>
    obtain ⟨b0, off, n, k⟩ := s
    have := asSlice_some hs; subst this
    obtain ⟨cb, sz, kk, rfl, hb, hke, hkg⟩ := vr_slice hx
    cases k with
    | exact k =>
      have := hke k rfl; subst this
      cases max with
      | none => cases max' with
        | some => exact hm.elim
        | none =>
          obtain ⟨a, b, hp, h⟩ := ob2_some (show ob2 (aBounds n kk lo hi) (fun l h => forceN (Nat.sub kk l) fun r => mkSl b0 (bc (Nat.beq kk l) off (Nat.add off (Nat.mul l i.size))) (Nat.sub h l) (.exact r)) = some v from h)
          rw [forceN_eq] at h
          have := mkSl_some h; subst this
          obtain ⟨h1, h2, h3⟩ := bounds_ok (P := P) (isSlice := true) hl hh hp w
          refine ⟨_, slice_run ht hie h1, ?_⟩
          rw [show (if kk = a then (some ⟨cb, off, none⟩ : Option Addr) else (some ⟨cb, off, none⟩ : Option Addr).map (·.add (a * i.size))) = some (if kk = a then (⟨cb, off, none⟩ : Addr) else (⟨cb, off, none⟩ : Addr).add (a * i.size)) from by split <;> rfl, addr_if]
          exact .slice _ _ _ _ _ _ hb
      | some y => cases max' with
        | none => exact hm.elim
        | some z =>
          obtain ⟨m, hm', h⟩ := ob_some (show ob (aBound kk y) (fun m => aSlice3 i.size b0 off m lo hi) = some v from h)
          obtain ⟨x, a, b, rfl, hj, ha, hR⟩ := aSlice3_ok h hb
          cases hi' with
          | none => exact hh.elim
          | some x' =>
            obtain ⟨h1, h2, h3, h4⟩ := bounds3_ok (P := P) (isSlice := true) (len := n) hl hh hm hm' hj ha w
            refine ⟨_, slice_run ht hie h1, ?_⟩
            rw [show (if m = a then (some ⟨cb, off, none⟩ : Option Addr) else (some ⟨cb, off, none⟩ : Option Addr).map (·.add (a * i.size))) = some (if m = a then (⟨cb, off, none⟩ : Addr) else (⟨cb, off, none⟩ : Addr).add (a * i.size)) from by split <;> rfl]
            exact hR
    | grown g =>
      obtain ⟨hle, hsz⟩ := hkg g rfl
      have hle : n ≤ kk := hle
      cases max with
      | none => cases max' with
        | some => exact hm.elim
        | none =>
          obtain ⟨a, b, hp, h⟩ := ob2_some (show ob2 (aBounds n n lo hi) (fun l h => ok? (Nat.beq g i.size && (Nat.blt l h || Nat.beq l 0)) (mkSl b0 (Nat.add off (Nat.mul l i.size)) (Nat.sub h l) (.grown g))) = some v from h)
          obtain ⟨h5, h⟩ := ok?_some h
          have := mkSl_some h; subst this
          simp only [Bool.and_eq_true, Bool.or_eq_true] at h5
          have hg := Nat.eq_of_beq_eq_true h5.1
          subst hg
          -- the model's bounds are wider
          have hp' : aBounds n kk lo hi = some (a, b) := by
            obtain ⟨b', hb', hp⟩ := ob_some hp
            obtain ⟨a', ha', hp⟩ := ob_some hp
            cases hp
            have : Option.casesOn (motive := fun _ => Option Nat) hi (some n) (aBound kk) = some b := by
              cases hi with
              | none => exact hb'
              | some y =>
                obtain ⟨j, hj, hb'⟩ := ob_some (show aBound n y = some b from hb')
                obtain ⟨h6, h7⟩ := ok?_some hb'
                cases h7
                show ob (asNat y) (fun i => ok? (i.ble kk) (some i)) = some b
                rw [hj]
                show ok? (Nat.ble b kk) (some b) = some b
                rw [Nat.ble_eq_true_of_le (Nat.le_trans (Nat.le_of_ble_eq_true h6) hle)]; rfl
            show ob (Option.casesOn (motive := fun _ => Option Nat) hi (some n) (aBound kk)) _ = _
            rw [this]
            show ob (Option.casesOn (motive := fun _ => Option Nat) lo (some 0) (aBound b)) (fun l => some (l, b)) = _
            rw [ha']; rfl
          obtain ⟨h1, h2, h3⟩ := bounds_ok (P := P) (isSlice := true) hl hh hp' w
          have hbn : b ≤ n := (bounds_ok (P := P) (isSlice := true) hl hh hp w).2.2.elim id (fun e => by omega)
          refine ⟨_, slice_run ht hie h1, ?_⟩
          have e : (if kk = a then (some ⟨cb, off, none⟩ : Option Addr) else (some ⟨cb, off, none⟩ : Option Addr).map (·.add (a * i.size))) = some ⟨cb, off + a * i.size, none⟩ := by
            rcases h5.2 with h6 | h6
            · have := blt_lt h6
              rw [if_neg (by omega)]
              simp only [Option.map_some, addr_add]
            · have := Nat.eq_of_beq_eq_true h6
              subst this
              split
              · simp
              · simp only [Option.map_some, addr_add]
          rw [e]
          refine .sliceG _ _ _ _ _ _ _ hb (by show b - a ≤ kk - a; omega) ?_
          show off + a * i.size + (kk - a) * i.size = sz
          rw [← hsz, Nat.add_assoc, ← Nat.add_mul, show a + (kk - a) = kk from by omega]
      | some y => cases max' with
        | none => exact hm.elim
        | some z =>
          obtain ⟨m, hm', h⟩ := ob_some (show ob (aBound n y) (fun m => aSlice3 i.size b0 off m lo hi) = some v from h)
          obtain ⟨x, a, b, rfl, hj, ha, hR⟩ := aSlice3_ok h hb
          have hm2 : aBound kk y = some m := by
            obtain ⟨j, hj', hm'⟩ := ob_some hm'
            obtain ⟨h6, h7⟩ := ok?_some hm'
            cases h7
            show ob (asNat y) (fun i => ok? (i.ble kk) (some i)) = some m
            rw [hj']
            show ok? (Nat.ble m kk) (some m) = some m
            rw [Nat.ble_eq_true_of_le (Nat.le_trans (Nat.le_of_ble_eq_true h6) hle)]; rfl
          cases hi' with
          | none => exact hh.elim
          | some x' =>
            obtain ⟨h1, h2, h3, h4⟩ := bounds3_ok (P := P) (isSlice := true) (len := n) hl hh hm hm2 hj ha w
            refine ⟨_, slice_run ht hie h1, ?_⟩
            rw [show (if m = a then (some ⟨cb, off, none⟩ : Option Addr) else (some ⟨cb, off, none⟩ : Option Addr).map (·.add (a * i.size))) = some (if m = a then (⟨cb, off, none⟩ : Addr) else (⟨cb, off, none⟩ : Addr).add (a * i.size)) from by split <;> rfl]
            exact hR

end
end Go.Am

/- The small machine against the model: the rest of the operations that look at no memory. -/
namespace Go.Am

section
variable {P : Program} {c : Cx} {ρ : Rho} {ws : Ws} {e : Env} {E : Operand → Value} {l : List Operand}

theorem cpUnOp_ok {op : UnOp} {t : TypeId} {x : Operand} {a : AOp} (hE : EvR ρ ws e E [x]) (h : cpUnOp op t x c ws = some a) : AopOk P ρ e (vOf (Op.unary op (E x))) a := by
  obtain ⟨x', hx, h⟩ := ob_some h
  cases h
  intro v hv w
  obtain ⟨xv, hxv, hv⟩ := ob_some (show puUn op x' e = some v from hv)
  have hX := hE.at (by simp) hx hxv
  cases op with
  | neg =>
    obtain ⟨k, n, h1, h2⟩ := ob2_some (show ob2 (asInt xv) (fun k n => intK k (0 - n)) = some v from hv)
    have := asInt_some h1; subst this
    have := intK_some h2; subst this
    rw [vr_int hX]
    exact ⟨_, vOf_run rfl, .int _ _⟩
  | xor =>
    obtain ⟨k, n, h1, h2⟩ := ob2_some (show ob2 (asInt xv) (fun k n => forceI (aBits .xor k (if k.signed then -1 else k.max) n) fun r => some (AVal.int k r)) = some v from hv)
    have := asInt_some h1; subst this
    have := forceI_some h2
    cases this
    rw [vr_int hX]
    exact ⟨_, vOf_run rfl, .int _ _⟩
  | not =>
    obtain ⟨b, h1, h2⟩ := ob_some (show ob (asBool xv) (fun b => boolV (notb b)) = some v from hv)
    have := asBool_some h1; subst this
    have := boolV_some h2; subst this
    rw [vr_bool hX, notb_eq]
    exact ⟨_, vOf_run rfl, .bool _⟩
  | plus => cases hv

theorem cpIface_ok (T : Ties P c) {t : TypeId} {x : Operand} {a : AOp} (hE : EvR ρ ws e E [x]) (h : cpIface t x c ws = some a) : AopOk P ρ e (vOf (Instr.makeInterface t (E x))) a := by
  obtain ⟨d, hd, h⟩ := ob_some h
  obtain ⟨h1, h⟩ := ok?_some h
  obtain ⟨x', hx, h⟩ := ob_some h
  cases h
  intro v hv w
  obtain ⟨xv, hxv, hv⟩ := ob_some (show puIface t x' e = some v from hv)
  cases hv
  refine ⟨.iface t (E x), vOf_run ?_, .iface _ _ _ (hE.at (by simp) hx hxv)⟩
  unfold Instr.makeInterface
  rw [run_ok (run_underlying (T.und hd) w)]
  cases d <;> first | rfl | simp [tdIface] at h1

theorem cpFunc_ok {f : Fn} {xs ys : Array Operand} {a : AOp} (hE : EvR ρ ws e E l) (hm : ∀ x ∈ xs.toList ++ ys.toList, x ∈ l) (h : cpFunc f xs ys c ws = some a) :
    AopOk P ρ e (vOf (Instr.makeFunc f (xs.map E) (ys.map E))) a := by
  obtain ⟨p, hp, h⟩ := ob_some h
  obtain ⟨q, hq, h⟩ := ob_some h
  cases h
  intro v hv w
  obtain ⟨pv, hpv, hv⟩ := ob_some (show puMkfn f p q e = some v from hv)
  obtain ⟨qv, hqv, hv⟩ := ob_some hv
  cases hv
  refine ⟨_, vOf_run rfl, ?_⟩
  have h1 := hE.list (fun x hx => hm x (by simp [hx])) hp hpv
  have h2 := hE.list (fun x hx => hm x (by simp [hx])) hq hqv
  rw [show xs.map E = ⟨xs.toList.map E⟩ from by cases xs; simp, show ys.map E = ⟨ys.toList.map E⟩ from by cases ys; simp]
  exact .fn _ _ _ _ _ h1 h2

theorem cpArr_ok (T : Ties P c) {t : TypeId} {x : Operand} {a : AOp} (hE : EvR ρ ws e E [x]) (h : cpArr t x c ws = some a) : AopOk P ρ e (vOf (Instr.arrayAt t (E x))) a := by
  obtain ⟨d, hd, h⟩ := ob_some h
  obtain ⟨p, hp, h⟩ := ob_some h
  obtain ⟨x', hx, h⟩ := ob_some h
  cases h
  obtain ⟨n, el⟩ := p
  have := tdArray_some hp; subst this
  intro v hv w
  obtain ⟨xv, hxv, hv⟩ := ob_some (show puArrOf n x' e = some v from hv)
  obtain ⟨s, hs, hv⟩ := ob_some hv
  obtain ⟨s, hs', hv⟩ := ob_some hv
  subst hs'
  obtain ⟨b0, off, m, k⟩ := s
  have := asSlice_some hs; subst this
  obtain ⟨h1, h2⟩ := ok?_some (show ok? (n.ble m) (some (AVal.ptr b0 off)) = some v from hv)
  cases h2
  obtain ⟨cb, sz, kk, hX, hb, _⟩ := vr_slice (hE.at (by simp) hx hxv)
  rw [hX]
  refine ⟨_, vOf_run ?_, .ptr _ _ _ _ hb⟩
  unfold Instr.arrayAt
  rw [run_ok (run_underlying (T.und hd) w)]
  simp only
  have := Nat.le_of_ble_eq_true h1
  rw [if_neg (by show ¬ (m < n); omega)]; rfl

theorem cpSlice_ok (T : Ties P c) {t : TypeId} {x : Operand} {lo hi max : Option Operand} {a : AOp} (hE : EvR ρ ws e E l) (hx : x ∈ l) (hlo : ∀ z, lo = some z → z ∈ l) (hhi : ∀ z, hi = some z → z ∈ l) (hmx : ∀ z, max = some z → z ∈ l)
    (h : cpSlice t x lo hi max c ws = some a) : AopOk P ρ e (vOf (Instr.sliceAt t (E x) (lo.map E) (hi.map E) (max.map E))) a := by
  obtain ⟨d, hd, h⟩ := ob_some h
  obtain ⟨x', hx', h⟩ := ob_some h
  obtain ⟨lo', hlo', h⟩ := ob_some h
  obtain ⟨hi', hhi', h⟩ := ob_some h
  obtain ⟨mx', hmx', h⟩ := ob_some h
  have hu := T.und hd
  cases e1 : tdString d with
  | true =>
    rw [e1] at h
    obtain ⟨h1, h⟩ := ok?_some (show ok? mx'.isNone (some (AOp.pu (.sliceStr x' lo' hi'))) = some a from h)
    cases h
    have := tdString_true e1; subst this
    have : max = none := by
      cases max with
      | none => rfl
      | some m => obtain ⟨m', _, hm⟩ := ob_some hmx'; cases hm; cases h1
    subst this
    intro v hv w
    obtain ⟨xv, hxv, hv⟩ := ob_some (show puSliceStr x' lo' hi' e = some v from hv)
    obtain ⟨s, hs, hv⟩ := ob_some hv
    obtain ⟨lov, hlov, hv⟩ := ob_some hv
    obtain ⟨hiv, hhiv, hv⟩ := ob_some hv
    obtain ⟨p, q, hpq, hv⟩ := ob2_some hv
    obtain ⟨r, hr, hv⟩ := ob_some hv
    cases hv
    have := asStr_some hs; subst this
    obtain ⟨b, hX, rfl⟩ := vr_str (hE.at hx hx' hxv)
    rw [nums_length] at hpq
    obtain ⟨h2, h3, h4⟩ := bounds_ok (P := P) (isSlice := false) (hE.opt hlo hlo' hlov) (hE.opt hhi hhi' hhiv) hpq w
    rw [pieceN_eq, dropN_eq] at hr
    cases hr
    refine ⟨.string (b.extract p q), vOf_run ?_, .str _ _ ?_⟩
    · rw [hX]
      unfold Instr.sliceAt
      rw [run_ok (run_underlying hu w)]
      show (Instr.slice t (.string b) (lo.map E) (hi.map E) none).run P w = _
      unfold Instr.slice
      rw [run_ok (run_underlying hu w)]
      show (Instr.sliceBounds false b.size b.size (lo.map E) (hi.map E) none >>= fun r => pure (Value.string (b.extract r.1 r.2.1))).run P w = _
      rw [run_ok h2]; rfl
    · exact nums_extract b p q
  | false =>
    rw [e1] at h
    have h : Option.casesOn (motive := fun _ => Option AOp) (tdSlice d)
      (ok? mx'.isNone (Option.casesOn (motive := fun _ => Option AOp) (tdArray d)
        (ob (tdPtr d) fun a => ob (c.und a) fun d => ob (tdArray d) fun a => ob (c.size a.2) fun s => some (.pu (.sliceArr a.1 s x' lo' hi')))
        (fun a => ob (c.size a.2) fun s => some (.pu (.sliceArr a.1 s x' lo' hi')))))
      (fun e => ob (c.size e) fun s => some (.pu (.sliceSl s x' lo' hi' mx'))) = some a := h
    cases e2 : tdSlice d with
    | some el =>
      rw [e2] at h
      obtain ⟨s, hs, h⟩ := ob_some (show ob (c.size el) (fun s => some (AOp.pu (.sliceSl s x' lo' hi' mx'))) = some a from h)
      cases h
      have := tdSlice_some e2; subst this
      intro v hv w
      obtain ⟨xv, hxv, hv⟩ := ob_some (show puSliceSl s x' lo' hi' mx' e = some v from hv)
      obtain ⟨sl, hsl, hv⟩ := ob_some hv
      obtain ⟨lov, hlov, hv⟩ := ob_some hv
      obtain ⟨hiv, hhiv, hv⟩ := ob_some hv
      obtain ⟨mxv, hmxv, hv⟩ := ob_some hv
      obtain ⟨i, hi0, hs⟩ := ob_some hs
      cases hs
      obtain ⟨r, hr, hR⟩ := slice_ok (P := P) (hE.at hx hx' hxv) hsl (hE.opt hlo hlo' hlov) (hE.opt hhi hhi' hhiv) (hE.opt hmx hmx' hmxv) hv hu (T.ty _ _ hi0) rfl w
      refine ⟨r, vOf_run ?_, hR⟩
      unfold Instr.sliceAt
      rw [run_ok (run_underlying hu w)]
      exact hr
    | none =>
      rw [e2] at h
      obtain ⟨h1, hq⟩ := ok?_some h
      have : max = none := by
        cases max with
        | none => rfl
        | some m => obtain ⟨m', _, hm⟩ := ob_some hmx'; cases hm; cases h1
      subst this
      -- what both ways come to
      have key : ∀ (n s : Nat) (el : TypeId), c.size el = some s → (∀ (y : Value) (cb o : Nat) (w : World), y = .pointer (some ⟨cb, o, none⟩) → ∀ p q m, (Instr.sliceBounds false n n (lo.map E) (hi.map E) none).run P w = .ok (p, q, m) w → (Instr.sliceAt t y (lo.map E) (hi.map E) none).run P w = .ok (.slice (some (if m = p then ⟨cb, o, none⟩ else (⟨cb, o, none⟩ : Addr).add (p * s))) (q - p) (m - p)) w) →
          PuOk P ρ e (vOf (Instr.sliceAt t (E x) (lo.map E) (hi.map E) none)) (.sliceArr n s x' lo' hi') := by
        intro n s el hs hrun v hv w
        obtain ⟨xv, hxv, hv⟩ := ob_some (show puSliceArr n s x' lo' hi' e = some v from hv)
        obtain ⟨b, o, hp, hv⟩ := ob2_some hv
        obtain ⟨lov, hlov, hv⟩ := ob_some hv
        obtain ⟨hiv, hhiv, hv⟩ := ob_some hv
        obtain ⟨p, q, hpq, hv⟩ := ob2_some hv
        rw [forceN_eq] at hv
        have := mkSl_some hv; subst this
        have := asPtr_some hp; subst this
        obtain ⟨cb, sz, hX, hb⟩ := vr_ptr (hE.at hx hx' hxv)
        obtain ⟨h2, h3, h4⟩ := bounds_ok (P := P) (isSlice := false) (hE.opt hlo hlo' hlov) (hE.opt hhi hhi' hhiv) hpq w
        refine ⟨_, vOf_run (hrun _ _ _ w hX _ _ _ h2), ?_⟩
        rw [addr_if]
        exact .slice _ _ _ _ _ _ hb
      cases e3 : tdArray d with
      | some p =>
        rw [e3] at hq
        obtain ⟨n, el⟩ := p
        obtain ⟨s, hs, hr⟩ := ob_some (show ob (c.size el) (fun s => some (AOp.pu (.sliceArr n s x' lo' hi'))) = some a from hq)
        cases hr
        have := tdArray_some e3; subst this
        refine key n s el hs fun y cb o w hy p q m hb => ?_
        subst hy
        unfold Instr.sliceAt
        rw [run_ok (run_underlying hu w)]
        show (Instr.sliceBounds false n n (lo.map E) (hi.map E) none >>= fun r => Go.sizeOf el >>= fun size => pure (Value.slice (some (if r.2.2 = r.1 then ⟨cb, o, none⟩ else (⟨cb, o, none⟩ : Addr).add (r.1 * size))) (r.2.1 - r.1) (r.2.2 - r.1))).run P w = _
        rw [run_ok hb, run_ok (T.size hs w)]; rfl
      | none =>
        rw [e3] at hq
        obtain ⟨arr, harr, h⟩ := ob_some (show ob (tdPtr d) (fun a => ob (c.und a) fun d => ob (tdArray d) fun a => ob (c.size a.2) fun s => some (AOp.pu (.sliceArr a.1 s x' lo' hi'))) = some a from hq)
        obtain ⟨d2, hd2, h3⟩ := ob_some h
        obtain ⟨p, hp, h4⟩ := ob_some h3
        obtain ⟨n, el⟩ := p
        obtain ⟨s, hs, h5⟩ := ob_some h4
        cases h5
        have := tdPtr_some harr; subst this
        have := tdArray_some hp; subst this
        refine key n s el hs fun y cb o w hy p q m hb => ?_
        subst hy
        unfold Instr.sliceAt
        rw [run_ok (run_underlying hu w)]
        show (Instr.slice t (.pointer (some ⟨cb, o, none⟩)) (lo.map E) (hi.map E) none).run P w = _
        unfold Instr.slice
        rw [run_ok (run_underlying hu w)]
        show (Go.underlying arr >>= fun d => match d with | .array n elem => (Instr.sliceBounds false n n (lo.map E) (hi.map E) none >>= fun r => Go.sizeOf elem >>= fun size => pure (Value.slice (some (if r.2.2 = r.1 then ⟨cb, o, none⟩ else (⟨cb, o, none⟩ : Addr).add (r.1 * size))) (r.2.1 - r.1) (r.2.2 - r.1))) | _ => stuck "Slice: array type expected").run P w = _
        rw [run_ok (run_underlying (T.und hd2) w)]
        show (Instr.sliceBounds false n n (lo.map E) (hi.map E) none >>= fun r => Go.sizeOf el >>= fun size => pure (Value.slice (some (if r.2.2 = r.1 then ⟨cb, o, none⟩ else (⟨cb, o, none⟩ : Addr).add (r.1 * size))) (r.2.1 - r.1) (r.2.2 - r.1))).run P w = _
        rw [run_ok hb, run_ok (T.size hs w)]; rfl

end
end Go.Am

/- The small machine against the model: parts, indices, lengths, assertions. -/
namespace Go.Am

section
variable {P : Program} {c : Cx} {ρ : Rho} {ws : Ws} {e : Env} {E : Operand → Value} {l : List Operand}

theorem cpFieldAddr_ok (T : Ties P c) {t : TypeId} {x : Operand} {f : Nat} {a : AOp} (hE : EvR ρ ws e E [x]) (h : cpFieldAddr t x f c ws = some a) : AopOk P ρ e (vOf (Instr.fieldAt t (E x) f)) a := by
  obtain ⟨d, hd, h1⟩ := ob_some h
  obtain ⟨fs, hfs, h2⟩ := ob_some h1
  obtain ⟨x', hx, h3⟩ := ob_some h2
  obtain ⟨fd, hfd, h4⟩ := ob_some h3
  obtain ⟨n, hn, h5⟩ := ob_some h4
  cases h5
  have := tdStruct_some hfs; subst this
  intro v hv w
  obtain ⟨xv, hxv, hv1⟩ := ob_some (show puFieldAddr fd.offset x' e = some v from hv)
  obtain ⟨b, o, hp, hv2⟩ := ob2_some hv1
  have := asPtr_some hp; subst this
  have := mkPtr_some hv2; subst this
  obtain ⟨cb, sz, hX, hb⟩ := vr_ptr (hE.at (by simp) hx hxv)
  obtain ⟨g1, g2⟩ := Ties.size1 hn
  refine ⟨.pointer (some ⟨cb, o + fd.offset, none⟩), vOf_run ?_, .ptr _ _ _ _ hb⟩
  rw [hX]
  unfold Instr.fieldAt
  rw [run_ok (run_underlying (T.und hd) w)]
  simp only [hfd]
  show (fieldPlace ⟨cb, o, none⟩ fd >>= fun p => pure (Value.pointer (some p))).run P w = _
  unfold fieldPlace
  rw [run_bind, run_ok (T.size g2 w), if_neg (by omega), addr_add]; rfl

theorem part_ok (T : Ties P c) {t : TypeId} {off s : Nat} {g : Bool} {cs : List AVal} {us : List Value} {v : AVal} (hg : c.agg t = some g) (hs : c.size t = some s) (hc : VRs ρ cs us) (ho : ∀ x ∈ cs, x.oneCell = true)
    (h : Part.take ⟨off, s, g⟩ cs = some v) (w : World) : ∃ r, (part t ⟨us⟩ off).run P w = .ok r w ∧ VR ρ v r := by
  cases g with
  | true =>
    obtain ⟨r, hr, h1⟩ := ob_some (show ob (piece off s cs) (fun r => some (AVal.agg r)) = some v from h)
    cases h1
    obtain ⟨h2, h3, h4⟩ := piece_some hr
    refine ⟨.agg ⟨(us.drop off).take s⟩, ?_, ?_⟩
    · unfold part
      rw [run_ok (T.isAgg hg w)]
      simp only [if_true]
      rw [run_ok (T.size hs w)]
      simp [pure]
    · rw [h3]
      exact .agg _ _ (hc.drop off |>.take s) (fun x hx => ho x (List.mem_of_mem_drop (List.mem_of_mem_take hx)))
  | false =>
    have h : nth off cs = some v := h
    rw [nth_eq] at h
    obtain ⟨u, hu, hR⟩ := hc.get off v h
    refine ⟨u, ?_, hR⟩
    unfold part
    rw [run_ok (T.isAgg hg w)]
    simp [hu, pure]

theorem cpField_ok (T : Ties P c) {t : TypeId} {x : Operand} {f : Nat} {a : AOp} (hE : EvR ρ ws e E [x]) (h : cpField t x f c ws = some a) : AopOk P ρ e (vOf (Instr.field t (E x) f)) a := by
  obtain ⟨d, hd, h1⟩ := ob_some h
  obtain ⟨fs, hfs, h2⟩ := ob_some h1
  obtain ⟨x', hx, h3⟩ := ob_some h2
  obtain ⟨fd, hfd, h4⟩ := ob_some h3
  obtain ⟨n, hn, h5⟩ := ob_some h4
  obtain ⟨g, hg, h6⟩ := ob_some h5
  cases h6
  have := tdStruct_some hfs; subst this
  intro v hv w
  obtain ⟨xv, hxv, hv1⟩ := ob_some (show puField ⟨fd.offset, n, g⟩ x' e = some v from hv)
  obtain ⟨cs, hcs, hv2⟩ := ob_some hv1
  have := asAgg_some hcs; subst this
  obtain ⟨us, hX, hu, ho⟩ := vr_agg (hE.at (by simp) hx hxv)
  obtain ⟨r, hr, hR⟩ := part_ok T hg hn hu ho hv2 w
  refine ⟨r, vOf_run ?_, hR⟩
  rw [hX]
  unfold Instr.field
  rw [run_ok (run_underlying (T.und hd) w)]
  simp only [hfd]
  exact hr

theorem index_some {n i : Nat} {x : AVal} (h : aIndex n x = some i) : ∃ k, x = .int k i ∧ i < n := by
  obtain ⟨j, hj, h1⟩ := ob_some h
  obtain ⟨h2, h3⟩ := ok?_some h1
  cases h3
  obtain ⟨k, rfl⟩ := asNat_some hj
  exact ⟨k, rfl, blt_lt h2⟩

theorem cpIndexAddr_ok (T : Ties P c) {t : TypeId} {x i : Operand} {a : AOp} (hE : EvR ρ ws e E [x, i]) (h : cpIndexAddr t x i c ws = some a) : AopOk P ρ e (vOf (Instr.indexAt t (E x) (E i))) a := by
  obtain ⟨d, hd, h1⟩ := ob_some h
  obtain ⟨x', hx, h2⟩ := ob_some h1
  obtain ⟨i', hi, h3⟩ := ob_some h2
  have hu := T.und hd
  cases e1 : tdArray d with
  | some p =>
    rw [e1] at h3
    obtain ⟨n, el⟩ := p
    obtain ⟨s, hs, h4⟩ := ob_some (show ob (c.size el) (fun s => some (AOp.pu (.idxArr n s x' i'))) = some a from h3)
    cases h4
    have := tdArray_some e1; subst this
    intro v hv w
    obtain ⟨xv, hxv, hv1⟩ := ob_some (show puIdxArr n s x' i' e = some v from hv)
    obtain ⟨b, o, hp, hv2⟩ := ob2_some hv1
    obtain ⟨iv, hiv, hv3⟩ := ob_some hv2
    obtain ⟨j, hj, hv4⟩ := ob_some hv3
    have := mkPtr_some hv4; subst this
    have := asPtr_some hp; subst this
    obtain ⟨k, rfl, hlt⟩ := index_some hj
    obtain ⟨cb, sz, hX, hb⟩ := vr_ptr (hE.at (by simp) hx hxv)
    have hI := vr_int (hE.at (by simp) hi hiv)
    refine ⟨.pointer (some ⟨cb, o + j * s, none⟩), vOf_run ?_, .ptr _ _ _ _ hb⟩
    rw [hX, hI]
    unfold Instr.indexAt
    rw [run_ok (show (asIntOf (.int k (j : Int))).run P w = .ok (k, (j : Int)) w from rfl)]
    simp only
    rw [run_ok (run_underlying hu w)]
    simp only
    refine (run_ok (show (Instr.sureAddr (.pointer (some ⟨cb, o, none⟩))).run P w = .ok ⟨cb, o, none⟩ w from rfl)).trans ?_
    refine (run_ok (run_pure P ((some ⟨cb, o, none⟩, n, el) : Option Addr × Nat × TypeId) w)).trans ?_
    simp only
    refine (run_ok (run_underlying hu w)).trans ?_
    simp only
    rw [if_pos ⟨nat_of j, by omega⟩]
    refine (run_ok (T.size hs w)).trans ?_
    rw [addr_add]; rfl
  | none =>
    rw [e1] at h3
    obtain ⟨el, hel, h4⟩ := ob_some (show ob (tdSlice d) (fun e => ob (c.size e) fun s => some (AOp.pu (.idxSl s x' i'))) = some a from h3)
    obtain ⟨s, hs, h5⟩ := ob_some h4
    cases h5
    have := tdSlice_some hel; subst this
    intro v hv w
    obtain ⟨xv, hxv, hv1⟩ := ob_some (show puIdxSl s x' i' e = some v from hv)
    obtain ⟨sl, hsl, hv2⟩ := ob_some hv1
    obtain ⟨sl', hsl', hv3⟩ := ob_some hv2
    subst hsl'
    obtain ⟨b0, off, n, k⟩ := sl'
    obtain ⟨iv, hiv, hv4⟩ := ob_some (show ob (i'.ev e) (fun i => ob (aIndex n i) fun j => mkPtr b0 (Nat.add off (Nat.mul j s))) = some v from hv3)
    obtain ⟨j, hj, hv5⟩ := ob_some hv4
    have := mkPtr_some hv5; subst this
    have := asSlice_some hsl; subst this
    obtain ⟨k', rfl, hlt⟩ := index_some hj
    obtain ⟨cb, sz, kk, hX, hb, _⟩ := vr_slice (hE.at (by simp) hx hxv)
    have hI := vr_int (hE.at (by simp) hi hiv)
    refine ⟨.pointer (some ⟨cb, off + j * s, none⟩), vOf_run ?_, .ptr _ _ _ _ hb⟩
    rw [hX, hI]
    unfold Instr.indexAt
    rw [run_ok (show (asIntOf (.int k' (j : Int))).run P w = .ok (k', (j : Int)) w from rfl)]
    simp only
    rw [run_ok (run_underlying hu w)]
    simp only
    refine (run_ok (show ((pure (some (⟨cb, off, none⟩ : Addr), n, el)) : Sem (Option Addr × Nat × TypeId)).run P w = .ok (some ⟨cb, off, none⟩, n, el) w from rfl)).trans ?_
    simp only
    refine (run_ok (run_underlying hu w)).trans ?_
    simp only
    rw [if_pos ⟨nat_of j, by omega⟩]
    refine (run_ok (T.size hs w)).trans ?_
    rw [addr_add]; rfl

theorem bytes_get {b : ByteArray} {j n : Nat} (h : nthN j (nums b) = some n) : ∃ x : UInt8, b[j]? = some x ∧ x.toNat = n := by
  rw [nthN_eq] at h
  unfold nums at h
  rw [List.getElem?_map] at h
  cases e : b.data.toList[j]? with
  | none => rw [e] at h; cases h
  | some x =>
    rw [e] at h
    simp only [Option.map_some, Option.some.injEq] at h
    have hlt : j < b.size := by
      have := (List.getElem?_eq_some_iff.1 e).1
      simpa using this
    refine ⟨x, ?_, h⟩
    rw [ByteArray.getElem?_lt' b j hlt]
    have := (List.getElem?_eq_some_iff.1 e).2
    simp at this
    exact congrArg some this

theorem cpIndex_ok (T : Ties P c) {t : TypeId} {x i : Operand} {a : AOp} (hE : EvR ρ ws e E [x, i]) (h : cpIndex t x i c ws = some a) : AopOk P ρ e (vOf (Instr.index t (E x) (E i))) a := by
  obtain ⟨d, hd, h1⟩ := ob_some h
  obtain ⟨x', hx, h2⟩ := ob_some h1
  obtain ⟨i', hi, h3⟩ := ob_some h2
  have hu := T.und hd
  cases e1 : tdString d with
  | true =>
    rw [e1] at h3
    cases h3
    have := tdString_true e1; subst this
    intro v hv w
    obtain ⟨xv, hxv, hv1⟩ := ob_some (show puIdxStr x' i' e = some v from hv)
    obtain ⟨s, hs, hv2⟩ := ob_some hv1
    obtain ⟨iv, hiv, hv3⟩ := ob_some hv2
    obtain ⟨j, hj, hv4⟩ := ob_some hv3
    obtain ⟨n, hn, hv5⟩ := ob_some hv4
    cases hv5
    have := asStr_some hs; subst this
    obtain ⟨b, hX, rfl⟩ := vr_str (hE.at (by simp) hx hxv)
    obtain ⟨k, rfl⟩ := asNat_some hj
    have hI := vr_int (hE.at (by simp) hi hiv)
    obtain ⟨y, hy, rfl⟩ := bytes_get hn
    refine ⟨.int .u8 y.toNat, vOf_run ?_, .int _ _⟩
    rw [hX, hI]
    unfold Instr.index
    rw [run_ok (show (asIntOf (.int k (j : Int))).run P w = .ok (k, (j : Int)) w from rfl)]
    simp only
    rw [run_ok (run_underlying hu w)]
    simp only
    rw [if_pos (nat_of j), Int.toNat_natCast, hy]; rfl
  | false =>
    rw [e1] at h3
    obtain ⟨p, hp, h4⟩ := ob_some (show ob (tdArray d) (fun a => ob (c.size a.2) fun s => ob (c.agg a.2) fun g => some (AOp.pu (.idxAgg a.1 s g x' i'))) = some a from h3)
    obtain ⟨n, el⟩ := p
    obtain ⟨s, hs, h5⟩ := ob_some h4
    obtain ⟨g, hg, h6⟩ := ob_some h5
    cases h6
    have := tdArray_some hp; subst this
    intro v hv w
    obtain ⟨xv, hxv, hv1⟩ := ob_some (show puIdxAgg n s g x' i' e = some v from hv)
    obtain ⟨cs, hcs, hv2⟩ := ob_some hv1
    obtain ⟨iv, hiv, hv3⟩ := ob_some hv2
    obtain ⟨j, hj, hv4⟩ := ob_some hv3
    have := asAgg_some hcs; subst this
    obtain ⟨k, rfl, hlt⟩ := index_some hj
    obtain ⟨us, hX, hus, ho⟩ := vr_agg (hE.at (by simp) hx hxv)
    have hI := vr_int (hE.at (by simp) hi hiv)
    obtain ⟨r, hr, hR⟩ := part_ok T hg hs hus ho hv4 w
    refine ⟨r, vOf_run ?_, hR⟩
    rw [hX, hI]
    unfold Instr.index
    rw [run_ok (show (asIntOf (.int k (j : Int))).run P w = .ok (k, (j : Int)) w from rfl)]
    simp only
    rw [run_ok (run_underlying hu w)]
    simp only
    rw [if_pos ⟨nat_of j, by omega⟩]
    refine (run_ok (T.size hs w)).trans ?_
    exact hr

theorem cpExtract_ok {x : Operand} {i : Nat} {a : AOp} (hE : EvR ρ ws e E [x]) (h : cpExtract x i c ws = some a) : AopOk P ρ e (vOf (Instr.extract (E x) i)) a := by
  obtain ⟨x', hx, h1⟩ := ob_some h
  cases h1
  intro v hv w
  obtain ⟨xv, hxv, hv1⟩ := ob_some (show puExtract x' i e = some v from hv)
  obtain ⟨cs, hcs, hv2⟩ := ob_some hv1
  have := asTup_some hcs; subst this
  obtain ⟨us, hX, hus⟩ := vr_tup (hE.at (by simp) hx hxv)
  rw [nth_eq] at hv2
  obtain ⟨u, hu, hR⟩ := hus.get i v hv2
  refine ⟨u, vOf_run ?_, hR⟩
  rw [hX]
  simp [Instr.extract, hu, pure]

theorem zero_run (T : Ties P c) {t : TypeId} {z : AVal} (h : c.zero t = some z) : ∃ u, VR ρ z u ∧ ∀ w, (zeroValue t).run P w = .ok u w := by
  obtain ⟨i, hi, h1⟩ := ob_some h
  obtain ⟨u, hu, h2⟩ := ob_some h1
  exact ⟨u, zeroOf_ok h2, fun w => run_zero (T.ty _ _ hi) hu w⟩

theorem cpAssert_ok (T : Ties P c) {x : Operand} {xt t : TypeId} {okk : Bool} {a : AOp} (hE : EvR ρ ws e E [x]) (h : cpAssert x xt t okk c ws = some a) : AopOk P ρ e (vOf (Instr.typeAssert (E x) xt t okk)) a := by
  obtain ⟨d, hd, h1⟩ := ob_some h
  obtain ⟨h2, h3⟩ := ok?_some h1
  obtain ⟨x', hx, h4⟩ := ob_some h3
  obtain ⟨z, hz, h5⟩ := ob_some h4
  cases h5
  have hu := T.und hd
  obtain ⟨zu, hzR, hzrun⟩ := zero_run (ρ := ρ) T hz
  intro v hv w
  obtain ⟨xv, hxv, hv1⟩ := ob_some (show puAssert t okk z x' e = some v from hv)
  have hX := hE.at (by simp) hx hxv
  have hni : ∀ ms, d ≠ .interface ms := by intro ms e; subst e; simp [tdIface] at h2
  cases xv <;> simp only [assertIf, reduceCtorEq] at hv1
  case iface u y =>
    obtain ⟨yu, hXe, hy⟩ := vr_iface hX
    rw [hXe]
    cases g : Nat.beq u t with
    | true =>
      rw [g] at hv1
      have := Nat.eq_of_beq_eq_true g; subst this
      cases okk with
      | true =>
        cases hv1
        refine ⟨.tuple ⟨[yu, .bool true]⟩, vOf_run ?_, .tup _ _ (.cons _ _ _ _ hy (.cons _ _ _ _ (.bool _) .nil))⟩
        unfold Instr.typeAssert
        rw [run_ok (run_underlying hu w)]
        cases d <;> first
          | exact absurd rfl (hni _)
          | (simp only [if_true]; rfl)
      | false =>
        cases hv1
        refine ⟨yu, vOf_run ?_, hy⟩
        unfold Instr.typeAssert
        rw [run_ok (run_underlying hu w)]
        cases d <;> first
          | exact absurd rfl (hni _)
          | (simp only [if_true]; rfl)
    | false =>
      rw [g] at hv1
      obtain ⟨h6, h7⟩ := ok?_some (show ok? okk (some (AVal.tup [z, .bool false])) = some v from hv1)
      cases h7
      subst h6
      have hne : u ≠ t := fun e => by subst e; rw [Nat.beq_refl] at g; cases g
      refine ⟨.tuple ⟨[zu, .bool false]⟩, vOf_run ?_, .tup _ _ (.cons _ _ _ _ hzR (.cons _ _ _ _ (.bool _) .nil))⟩
      unfold Instr.typeAssert
      rw [run_ok (run_underlying hu w)]
      cases d <;> first
        | exact absurd rfl (hni _)
        | (simp only [if_neg hne, if_true]; rw [run_ok (hzrun w)]; rfl)
  case iface0 =>
    rw [show E x = .nilIface from by generalize E x = y at hX; cases hX; rfl]
    obtain ⟨h6, h7⟩ := ok?_some hv1
    cases h7
    subst h6
    refine ⟨.tuple ⟨[zu, .bool false]⟩, vOf_run ?_, .tup _ _ (.cons _ _ _ _ hzR (.cons _ _ _ _ (.bool _) .nil))⟩
    unfold Instr.typeAssert
    rw [run_ok (run_underlying hu w)]
    cases d <;> first
      | exact absurd rfl (hni _)
      | (simp only [if_true]; rw [run_ok (hzrun w)]; rfl)

end
end Go.Am

/- The small machine against the model: literals. -/
namespace Go.Am

section
variable {P : Program} {c : Cx} {ρ : Rho} {ws : Ws} {e : Env} {E : Operand → Value} {l : List Operand}

theorem cpNilCheck_ok {x : Operand} {o : Oper} {a : AOp} (ho : o.op = .nilCheck x) (hE : EvR ρ ws e E [x]) (h : cpNilCheck x c ws = some a) : AopOk P ρ e (execOp E o) a := by
  obtain ⟨x', hx, h1⟩ := ob_some h
  cases h1
  intro v hv w
  obtain ⟨xv, hxv, hv1⟩ := ob_some (show puNilCheck x' e = some v from hv)
  have hX := hE.at (by simp) hx hxv
  unfold execOp
  rw [ho]
  simp only
  generalize E x = y at hX
  cases hX <;> simp only [nilOk, reduceCtorEq] at hv1
  case ptr b o' cb n hb => cases hv1; exact ⟨_, rfl, .ptr _ _ _ _ hb⟩
  case iface t x' u hu => cases hv1; exact ⟨_, rfl, .iface _ _ _ hu⟩
  case fn f xs ys us vs hx hy =>
    cases f <;> simp only [reduceCtorEq] at hv1
    cases hv1
    exact ⟨_, rfl, .fn _ _ _ _ _ hx hy⟩

/-! ### Cells set -/

theorem foldl_set (off : Nat) : ∀ (vs : List Value) (k : Nat) (cs : Array Value), ((vs.zipIdx k).foldl (fun cs p => cs.setIfInBounds (off + p.2) p.1) cs).size = cs.size ∧
    ∀ i, ((vs.zipIdx k).foldl (fun cs p => cs.setIfInBounds (off + p.2) p.1) cs)[i]? = if off + k ≤ i ∧ i < off + k + vs.length ∧ i < cs.size then vs[i - (off + k)]? else cs[i]? := by
  intro vs
  induction vs with
  | nil => intro k cs; exact ⟨rfl, fun i => by rw [if_neg (by simp; omega)]; rfl⟩
  | cons v vs ih =>
    intro k cs
    simp only [List.zipIdx_cons, List.foldl_cons]
    obtain ⟨h1, h2⟩ := ih (k + 1) (cs.setIfInBounds (off + k) v)
    refine ⟨by rw [h1]; simp, fun i => ?_⟩
    rw [h2]
    simp only [Array.size_setIfInBounds, List.length_cons]
    by_cases e : i = off + k
    · subst e
      rw [if_neg (by omega)]
      by_cases g : off + k < cs.size
      · rw [if_pos ⟨by omega, by omega, g⟩]
        simp [Array.getElem?_setIfInBounds, g]
      · rw [if_neg (by omega)]
        simp [Array.getElem?_setIfInBounds, g]
    · by_cases g : off + (k + 1) ≤ i ∧ i < off + (k + 1) + vs.length ∧ i < cs.size
      · rw [if_pos g, if_pos (by omega)]
        rw [show i - (off + k) = (i - (off + (k + 1))) + 1 from by omega]
        simp
      · rw [if_neg g, if_neg (by omega)]
        simp [Array.getElem?_setIfInBounds, Ne.symm e]

theorem fold_arr (off : Nat) (v cells : Array Value) : (v.zipIdx.foldl (fun cs (p : Value × Nat) => match p with | (c, j) => cs.setIfInBounds (off + j) c) cells) = (v.toList.zipIdx 0).foldl (fun cs p => cs.setIfInBounds (off + p.2) p.1) cells := by
  rw [← Array.foldl_toList, Array.toList_zipIdx]

/-- Cells over cells. -/
theorem splice_ok {off : Nat} {xs cs r : List AVal} {us vs : List Value} (h : splice off xs cs = some r) (hx : VRs ρ xs us) (hc : VRs ρ cs vs) :
    off + us.length ≤ vs.length ∧ ∃ rs : List Value, (us.zipIdx 0).foldl (fun cs p => cs.setIfInBounds (off + p.2) p.1) (⟨vs⟩ : Array Value) = ⟨rs⟩ ∧ VRs ρ r rs ∧ r = cs.take off ++ xs ++ cs.drop (off + xs.length) := by
  rw [splice_eq] at h
  by_cases g : off + xs.length ≤ cs.length
  · rw [if_pos g] at h
    simp only [Option.some.injEq] at h
    obtain ⟨h1, h2⟩ := foldl_set off us 0 (⟨vs⟩ : Array Value)
    have l1 := hx.length
    have l2 := hc.length
    refine ⟨by omega, _, rfl, ?_, h.symm⟩
    refine VRs.of_get ?_ fun i x hi => ?_
    · rw [← h]
      simp only [List.size_toArray] at h1
      simp only [List.length_append, List.length_take, List.length_drop, Array.length_toList, h1]
      omega
    · have h2 := h2 i
      simp only [Nat.add_zero, List.size_toArray, List.getElem?_toArray] at h2
      rw [Array.getElem?_toList, h2]
      rw [← h] at hi
      by_cases a : i < off
      · rw [if_neg (by omega)]
        rw [List.append_assoc, List.getElem?_append_left (by simp; omega), List.getElem?_take_of_lt a] at hi
        exact hc.get i x hi
      · by_cases b : i < off + us.length
        · rw [if_pos (by omega)]
          rw [List.append_assoc, List.getElem?_append_right (by simp; omega), List.getElem?_append_left (by simp; omega)] at hi
          rw [show i - (cs.take off).length = i - off from by simp; omega] at hi
          exact hx.get _ x hi
        · rw [if_neg (by omega)]
          rw [List.getElem?_append_right (by simp; omega), List.getElem?_drop] at hi
          rw [show off + xs.length + (i - (cs.take off ++ xs).length) = i from by simp; omega] at hi
          exact hc.get i x hi
  · rw [if_neg g] at h; cases h

/-- A literal's parts, ours and the model's. -/
inductive PartsR (ρ : Rho) (place : Nat → Option (Nat × Nat)) : List (Nat × Nat × AVal) → List (Nat × Value) → Prop where
  | nil : PartsR ρ place [] []
  | cons (i off size : Nat) (v : AVal) (u : Value) (ps : List (Nat × Nat × AVal)) (qs : List (Nat × Value)) (hp : place i = some (off, size)) (hv : VR ρ v u) (hs : PartsR ρ place ps qs) :
      PartsR ρ place ((off, size, v) :: ps) ((i, u) :: qs)

theorem fills_ok {place : Nat → Option (Nat × Nat)} : ∀ {ps : List (Nat × Nat × AVal)} {qs : List (Nat × Value)} {cs r : List AVal} {vs : List Value}, PartsR ρ place ps qs → fills cs ps = some r → VRs ρ cs vs → (∀ x ∈ cs, x.oneCell = true) →
    ∃ rs, Instr.fill place ⟨vs⟩ qs = some ⟨rs⟩ ∧ VRs ρ r rs ∧ ∀ x ∈ r, x.oneCell = true
  | _, _, cs, r, vs, .nil, h, hc, ho => by
    simp only [fills, Option.some.injEq] at h
    subst h
    exact ⟨vs, rfl, hc, ho⟩
  | _, _, cs, r, vs, .cons i off size v u ps qs hp hv hs, h, hc, ho => by
    obtain ⟨h1, h2⟩ := ok?_some (show ok? (andb (notTup v) (lenIs size v.cells)) (ob (splice off v.cells cs) fun r => fills r ps) = some r from h)
    obtain ⟨cs', h3, h4⟩ := ob_some h2
    simp only [andb_eq, Bool.and_eq_true] at h1
    have hl := h1.2
    rw [lenIs_eq] at hl
    simp only [decide_eq_true_eq] at hl
    have hvc := hv.cells
    have hl2 := hvc.length
    obtain ⟨g1, rs, g2, g3, g4⟩ := splice_ok h3 hvc hc
    have ho' : ∀ x ∈ cs', x.oneCell = true := by
      intro x hx
      rw [g4] at hx
      simp only [List.mem_append] at hx
      rcases hx with (hx | hx) | hx
      · exact ho x (List.mem_of_mem_take hx)
      · exact hv.cells_one h1.1 x hx
      · exact ho x (List.mem_of_mem_drop hx)
    obtain ⟨rs', q1, q2, q3⟩ := fills_ok hs h4 g3 ho'
    refine ⟨rs', ?_, q2, q3⟩
    unfold Instr.fill
    simp only [hp]
    rw [if_neg ?_]
    · rw [fold_arr, g2]; exact q1
    · have e1 : u.cells.size = size := by rw [← hl, hl2, Array.length_toList]
      simp only [e1, List.size_toArray, Bool.or_eq_true, decide_eq_true_eq, ne_eq, not_true_eq_false, decide_false, false_or]
      rw [Array.length_toList, e1] at g1
      simp only [Bool.false_eq_true, false_or]
      omega

end
end Go.Am

/- The small machine against the model: literals, new blocks. -/
namespace Go.Am

section
variable {P : Program} {c : Cx} {ρ : Rho} {ws : Ws} {e : Env} {E : Operand → Value} {l : List Operand}

theorem fieldParts_ok {fs : Array Field} {place : Nat → Option (Nat × Nat)} (hE : EvR ρ ws e E l) (hpl : ∀ (i : Nat) (f : Field) (s : Nat), fs[i]? = some f → c.size f.type = some s → place i = some (f.offset, s)) :
    ∀ {xs : List (Nat × Operand)} {ps : List (Nat × Nat × AOpd)} {pv : List (Nat × Nat × AVal)}, (∀ p ∈ xs, p.2 ∈ l) → fieldParts c ws fs xs = some ps → evParts ps e = some pv → PartsR ρ place pv (xs.map fun p => (p.1, E p.2)) := by
  intro xs
  induction xs with
  | nil => intro ps pv _ h hv; cases h; cases hv; exact .nil
  | cons p xs ih =>
    intro ps pv hm h hv
    obtain ⟨f, hf, h1⟩ := ob_some h
    obtain ⟨a, ha, h2⟩ := ob_some h1
    obtain ⟨as, has, h3⟩ := ob_some h2
    obtain ⟨s, hs, h4⟩ := ob_some h3
    cases h4
    obtain ⟨v, hv1, hv2⟩ := ob_some (show ob (a.ev e) (fun v => ob (evParts as e) fun vs => some ((f.offset, s, v) :: vs)) = some pv from hv)
    obtain ⟨vs, hvs, hv3⟩ := ob_some hv2
    cases hv3
    exact .cons _ _ _ _ _ _ _ (hpl _ _ _ hf hs) (hE.at (hm p (by simp)) ha hv1) (ih (fun q hq => hm q (by simp [hq])) has hvs)

theorem elemParts_ok {size : Nat} (hE : EvR ρ ws e E l) :
    ∀ {xs : List (Nat × Operand)} {ps : List (Nat × Nat × AOpd)} {pv : List (Nat × Nat × AVal)}, (∀ p ∈ xs, p.2 ∈ l) → elemParts ws size xs = some ps → evParts ps e = some pv → PartsR ρ (fun i => some (i * size, size)) pv (xs.map fun p => (p.1, E p.2)) := by
  intro xs
  induction xs with
  | nil => intro ps pv _ h hv; cases h; cases hv; exact .nil
  | cons p xs ih =>
    intro ps pv hm h hv
    obtain ⟨a, ha, h2⟩ := ob_some h
    obtain ⟨as, has, h3⟩ := ob_some h2
    cases h3
    obtain ⟨v, hv1, hv2⟩ := ob_some (show ob (a.ev e) (fun v => ob (evParts as e) fun vs => some ((p.1 * size, size, v) :: vs)) = some pv from hv)
    obtain ⟨vs, hvs, hv3⟩ := ob_some hv2
    cases hv3
    exact .cons _ _ _ _ _ _ _ rfl (hE.at (hm p (by simp)) ha hv1) (ih (fun q hq => hm q (by simp [hq])) has hvs)

theorem zeroOf_one {v : Value} {x : AVal} (h : zeroOf v = some x) : notTup x = true ∧ ∀ y ∈ x.cells, y.oneCell = true := by
  unfold zeroOf at h
  split at h
  · obtain ⟨l, hl, h1⟩ := ob_some h
    cases h1
    exact ⟨rfl, ofConsts_one hl⟩
  · have := ofConst_one h
    cases x <;> first
      | (simp [AVal.oneCell] at this; done)
      | (refine ⟨rfl, ?_⟩; intro y hy; simp only [AVal.cells, List.mem_cons, List.not_mem_nil, or_false] at hy; subst hy; rfl)

theorem zero_both (T : Ties P c) {t : TypeId} {z : AVal} (h : c.zero t = some z) : ∃ i u, P.info? t = some i ∧ i.zero = some u ∧ VRs ρ z.cells u.cells.toList ∧ ∀ y ∈ z.cells, y.oneCell = true := by
  obtain ⟨i, hi, h1⟩ := ob_some h
  obtain ⟨u, hu, h2⟩ := ob_some h1
  exact ⟨i, u, T.ty _ _ hi, hu, (zeroOf_ok h2).cells, (zeroOf_one h2).2⟩

theorem places_ok (fs : List Field) (h : ∀ f ∈ fs, ∃ i, P.info? f.type = some i) : ∃ ps, fs.mapM (fun f => (P.info? f.type).map fun i => (f.offset, i.size)) = some ps ∧ ∀ (k : Nat) (f : Field) (i : TypeInfo), fs[k]? = some f → P.info? f.type = some i → ps[k]? = some (f.offset, i.size) := by
  induction fs with
  | nil => exact ⟨[], rfl, fun k f i hk => by simp at hk⟩
  | cons f fs ih =>
    obtain ⟨i, hi⟩ := h f (by simp)
    obtain ⟨ps, h1, h2⟩ := ih fun g hg => h g (by simp [hg])
    refine ⟨(f.offset, i.size) :: ps, by simp [List.mapM_cons, hi, h1], fun k g j hk hj => ?_⟩
    cases k with
    | zero => simp at hk; subst hk; rw [hi] at hj; cases hj; rfl
    | succ k => simp at hk; simpa using h2 k g j hk hj

theorem cpBuild_ok (T : Ties P c) {t : TypeId} {parts : Array (Nat × Operand)} {a : AOp} (hE : EvR ρ ws e E l) (hm : ∀ p ∈ parts.toList, p.2 ∈ l) (h : cpBuild t parts c ws = some a) :
    AopOk P ρ e (vOf (Instr.build t (parts.map fun p => (p.1, E p.2)))) a := by
  obtain ⟨z, hz, h1⟩ := ob_some h
  obtain ⟨d, hd, h2⟩ := ob_some h1
  have hu := T.und hd
  obtain ⟨i, u, hi, hiz, hzc, hzo⟩ := zero_both (ρ := ρ) T hz
  have harr : (⟨u.cells.toList⟩ : Array Value) = u.cells := rfl
  have hpl : (parts.map fun p => (p.1, E p.2)).toList = parts.toList.map fun p => (p.1, E p.2) := by simp
  cases e1 : tdStruct d with
  | none =>
    rw [e1] at h2
    obtain ⟨p, hp, h3⟩ := ob_some (show ob (tdArray d) (fun a => ob (c.size a.2) fun s => ob (elemParts ws s parts.toList) fun ps => some (AOp.pu (.build z.cells ps))) = some a from h2)
    obtain ⟨n, el⟩ := p
    obtain ⟨s, hs, h4⟩ := ob_some h3
    obtain ⟨ps, hps, h5⟩ := ob_some h4
    cases h5
    have := tdArray_some hp; subst this
    intro v hv w
    obtain ⟨pv, hpv, hv1⟩ := ob_some (show puBuild z.cells ps e = some v from hv)
    obtain ⟨cs, hcs, hv2⟩ := ob_some hv1
    cases hv2
    obtain ⟨rs, g1, g2, g3⟩ := fills_ok (elemParts_ok hE hm hps hpv) hcs hzc hzo
    obtain ⟨j, hj, h6⟩ := ob_some hs
    cases h6
    refine ⟨.agg ⟨rs⟩, vOf_run (run_build w t _ ⟨rs⟩ ?_), .agg _ _ g2 g3⟩
    unfold Program.built
    simp only [hi, hu, hiz, T.ty _ _ hj]
    rw [hpl]; exact g1
  | some fs =>
    rw [e1] at h2
    obtain ⟨ps, hps, h5⟩ := ob_some (show ob (fieldParts c ws fs parts.toList) (fun ps => some (AOp.pu (.build z.cells ps))) = some a from h2)
    cases h5
    have := tdStruct_some e1; subst this
    intro v hv w
    obtain ⟨pv, hpv, hv1⟩ := ob_some (show puBuild z.cells ps e = some v from hv)
    obtain ⟨cs, hcs, hv2⟩ := ob_some hv1
    cases hv2
    obtain ⟨places, q1, q2⟩ := places_ok (P := P) fs.toList fun f hf => by obtain ⟨j, hj⟩ := T.fields t fs hd f hf; exact ⟨j, T.ty _ _ hj⟩
    obtain ⟨rs, g1, g2, g3⟩ := fills_ok (fieldParts_ok (place := (places.toArray[·]?)) hE (fun k f s hk hs => by
      obtain ⟨j, hj, h6⟩ := ob_some hs
      cases h6
      simpa using q2 k f j (by simpa using hk) (T.ty _ _ hj)) hm hps hpv) hcs hzc hzo
    refine ⟨.agg ⟨rs⟩, vOf_run (run_build w t _ ⟨rs⟩ ?_), .agg _ _ g2 g3⟩
    unfold Program.built
    simp only [hi, hu, hiz, q1]
    rw [hpl]; exact g1

/-! ### New blocks -/

theorem cells_of {cs : List AVal} {us : List Value} (h : VRs ρ cs us) (ho : ∀ x ∈ cs, x.oneCell = true) {vs : List Value} : CellsR ρ cs ⟨us ++ vs⟩ := by
  refine ⟨by simp [h.length], fun i x hx => ⟨ho x (List.mem_of_getElem? hx), ?_⟩⟩
  obtain ⟨u, hu, hR⟩ := h.get i x hx
  refine ⟨u, ?_, hR⟩
  have : i < us.length := (List.getElem?_eq_some_iff.1 hu).1
  simp [List.getElem?_append_left this, hu]

theorem orel_cells {b m : Nat} {cs : List AVal} {us vs : List Value} {el : TypeId} {H : Array Obj} {fz : Nat × Nat} (hb : ρ b = none) (h : VRs ρ cs us) (ho : ∀ x ∈ cs, x.oneCell = true) (hf : Free fz (us.length + vs.length)) (hH : H[m]? = some (.cells ⟨us ++ vs⟩ el fz)) :
    ORel (ρ.set b (m, us.length + vs.length)) (.cells cs el true) (m, us.length + vs.length) H :=
  ⟨⟨us ++ vs⟩, fz, hH, by simp, (cells_of h ho).ext (Rho.set_ext hb), fun _ => by simpa using hf⟩

theorem free0 (n : Nat) : Free (0, 0) n := fun i _ h => by simp at h

theorem al_cells {s : Sem Next} {cs : List AVal} {us : List Value} {el : TypeId} {u : Value} {nm : Nm} {w : World} (hr : s.run P w = .ok (.value u) { w with heap := w.heap.push (.cells ⟨us⟩ el) }) (h : VRs ρ cs us) (ho : ∀ x ∈ cs, x.oneCell = true)
    (hu : ∀ b, ρ b = none → VR (ρ.set b (w.heap.size, us.length)) (nm.at b) u) :
    ∃ u obj n d, s.run P w = .ok (.value u) { w with heap := w.heap.push obj, drawn := d } ∧ ∀ b, ρ b = none → VR (ρ.set b (w.heap.size, n)) (nm.at b) u ∧ ∀ H : Array Obj, H[w.heap.size]? = some obj → ORel (ρ.set b (w.heap.size, n)) (.cells cs el true) (w.heap.size, n) H :=
  ⟨u, .cells ⟨us⟩ el, us.length, w.drawn, hr, fun b hb => ⟨hu b hb, fun H hH => by have := orel_cells (vs := []) hb h ho (free0 _) (by simpa using hH); simpa using this⟩⟩

theorem cpAlloc_ok (T : Ties P c) {t : TypeId} {a : AOp} (h : cpAlloc t c ws = some a) : AopOk P ρ e (vOf (Instr.alloc t true (.tuple #[]))) a := by
  obtain ⟨z, hz, h1⟩ := ob_some h
  cases h1
  obtain ⟨i, u, hi, hiz, hzc, hzo⟩ := zero_both (ρ := ρ) T hz
  intro nm o hv w
  cases (show some (Nm.ptr, AObj.cells z.cells t true) = some (nm, o) from hv)
  refine al_cells (us := u.cells.toList) (u := .pointer (some ⟨w.heap.size, 0, none⟩)) (vOf_run ?_) hzc hzo fun b hb => .ptr _ _ _ _ (Rho.set_same _ _ _)
  unfold Instr.alloc
  rw [run_ok (run_zero hi hiz w)]; rfl

theorem oneCell_all {l : List AVal} (h : l.all AVal.oneCell = true) : ∀ x ∈ l, x.oneCell = true := by simpa using h

theorem cpBox_ok {t : TypeId} {x : Operand} {a : AOp} (hE : EvR ρ ws e E [x]) (h : cpBox t x c ws = some a) : AopOk P ρ e (vOf (Instr.box t (E x))) a := by
  obtain ⟨x', hx, h1⟩ := ob_some h
  cases h1
  intro nm o hv w
  obtain ⟨xv, hxv, hv1⟩ := ob_some (show alBox t x' e = some (nm, o) from hv)
  obtain ⟨h2, h3⟩ := ok?_some hv1
  cases h3
  have hX := (hE.at (by simp) hx hxv).cells
  exact al_cells (us := (E x).cells.toList) (u := .pointer (some ⟨w.heap.size, 0, none⟩)) rfl hX (oneCell_all h2) fun b hb => .ptr _ _ _ _ (Rho.set_same _ _ _)

theorem rep_get {zu : List Value} (n : Nat) (h : 1 ≤ zu.length) : ((Array.range (n * zu.length)).map ((⟨zu⟩ : Array Value)[· % (⟨zu⟩ : Array Value).size]!)).toList.length = n * zu.length ∧
    ∀ i, i < n * zu.length → ((Array.range (n * zu.length)).map ((⟨zu⟩ : Array Value)[· % (⟨zu⟩ : Array Value).size]!)).toList[i]? = zu[i % zu.length]? := by
  refine ⟨by simp, fun i hi => ?_⟩
  have hm : i % zu.length < zu.length := Nat.mod_lt _ h
  simp [hi, hm]

theorem repOf_length (z : List AVal) : ∀ n, (repOf z n).length = n * z.length := by
  intro n
  induction n with
  | zero => simp [repOf]
  | succ n ih => simp only [repOf, List.length_append, ih]; rw [Nat.succ_mul]; omega
theorem repOf_get (z : List AVal) (h : 1 ≤ z.length) : ∀ n i, i < n * z.length → (repOf z n)[i]? = z[i % z.length]? := by
  intro n
  induction n with
  | zero => intro i hi; simp at hi
  | succ n ih =>
    intro i hi
    simp only [repOf]
    by_cases g : i < z.length
    · rw [List.getElem?_append_left g, Nat.mod_eq_of_lt g]
    · rw [List.getElem?_append_right (by omega), ih (i - z.length) (by rw [Nat.succ_mul] at hi; omega)]
      rw [show i % z.length = (i - z.length) % z.length from Nat.mod_eq_sub_mod (by omega)]

theorem rep_ok {z : List AVal} {zu : List Value} (n : Nat) (hz : VRs ρ z zu) (h : 1 ≤ z.length) : VRs ρ (repOf z n) ((Array.range (n * zu.length)).map ((⟨zu⟩ : Array Value)[· % (⟨zu⟩ : Array Value).size]!)).toList := by
  have hl := hz.length
  obtain ⟨h1, h2⟩ := rep_get n (zu := zu) (by omega)
  refine VRs.of_get (by rw [repOf_length, h1, hl]) fun i x hx => ?_
  have hi : i < n * z.length := by rw [← repOf_length z n]; exact (List.getElem?_eq_some_iff.1 hx).1
  rw [repOf_get z h n i hi] at hx
  rw [h2 i (by rw [← hl]; exact hi), ← hl]
  exact hz.get _ x hx

theorem rep_one {z : List AVal} (ho : ∀ x ∈ z, x.oneCell = true) : ∀ n, ∀ x ∈ repOf z n, x.oneCell = true := by
  intro n
  induction n with
  | zero => intro x hx; simp [repOf] at hx
  | succ n ih => intro x hx; simp only [repOf, List.mem_append] at hx; exact hx.elim (ho x) (ih x)

end
end Go.Am

/- The small machine against the model: new slices and maps; conversions. -/
namespace Go.Am

section
variable {P : Program} {c : Cx} {ρ : Rho} {ws : Ws} {e : Env} {E : Operand → Value} {l : List Operand}

theorem arr_eta (a : Array Value) : (⟨a.toList⟩ : Array Value) = a := rfl

theorem cpBuildSlice_ok (T : Ties P c) {t : TypeId} {len : Nat} {parts : Array (Nat × Operand)} {a : AOp} (hE : EvR ρ ws e E l) (hm : ∀ p ∈ parts.toList, p.2 ∈ l) (h : cpBuildSlice t len parts c ws = some a) :
    AopOk P ρ e (vOf (Instr.buildSlice t len (parts.map fun p => (p.1, E p.2)))) a := by
  obtain ⟨d, hd, h1⟩ := ob_some h
  obtain ⟨el, hel, h2⟩ := ob_some h1
  obtain ⟨s, hs, h3⟩ := ob_some h2
  obtain ⟨z, hz, h4⟩ := ob_some h3
  obtain ⟨ps, hps, h5⟩ := ob_some h4
  obtain ⟨h6, h7⟩ := ok?_some h5
  cases h7
  have := tdSlice_some hel; subst this
  have hu := T.und hd
  obtain ⟨g1, g2⟩ := Ties.size1 hs
  obtain ⟨i, u, hi, hiz, hzc, hzo⟩ := zero_both (ρ := ρ) T hz
  simp only [Bool.and_eq_true] at h6
  have hle := Nat.le_of_ble_eq_true h6.1
  have hzl := Nat.eq_of_beq_eq_true h6.2
  have hsz : i.size = s := by
    obtain ⟨j, hj, h8⟩ := ob_some g2
    cases h8
    have := T.ty _ _ hj
    rw [hi] at this; cases this; rfl
  intro nm o hv w
  obtain ⟨pv, hpv, hv1⟩ := ob_some (show alBuild len el (repOf z.cells len) ps e = some (nm, o) from hv)
  obtain ⟨cs, hcs, hv2⟩ := ob_some hv1
  cases hv2
  have hul : u.cells.toList.length = s := by rw [← hzc.length, hzl]
  have hrep := rep_ok (ρ := ρ) len hzc (by omega)
  obtain ⟨rs, q1, q2, q3⟩ := fills_ok (elemParts_ok hE hm hps hpv) hcs hrep (rep_one hzo len)
  refine al_cells (us := rs) (u := .slice (some ⟨w.heap.size, 0, none⟩) len len) (vOf_run ?_) q2 q3 fun b hb => .slice _ _ _ _ _ _ (Rho.set_same _ _ _)
  unfold Instr.buildSlice
  rw [run_ok (run_underlying hu w)]
  simp only
  rw [run_ok (T.size g2 w), if_neg (by omega)]
  rw [arr_eta, hul] at q1
  have hpl : (parts.map fun p => (p.1, E p.2)).toList = parts.toList.map fun p => (p.1, E p.2) := by simp
  by_cases h0 : len * s = 0
  · simp only [if_pos h0]
    rw [h0] at q1
    simp only [h0, hpl]
    rw [run_ok (run_pure P (#[] : Array Value) w)]
    rw [show ((Array.range 0).map ((#[] : Array Value)[· % (#[] : Array Value).size]!)) = ((Array.range 0).map (u.cells[· % u.cells.size]!)) from by simp, q1]
    rfl
  · simp only [if_neg h0, hpl]
    refine (run_ok (run_zero hi hiz w)).trans ?_
    refine (run_ok (run_pure P u.cells w)).trans ?_
    rw [q1]
    rfl

theorem ev_const (v : AVal) (e : Env) : (AOpd.const v).ev e = some v := by cases e; rfl

theorem cpMakeMap_ok (T : Ties P c) {t : TypeId} {r : Option Operand} {a : AOp} (hE : EvR ρ ws e E l) (hm : ∀ z, r = some z → z ∈ l) (h : cpMakeMap t r c ws = some a) : AopOk P ρ e (vOf (Instr.makeMap t (r.map E))) a := by
  have key : a = .al .makeMap ∧ ∀ w, (Instr.makeMap t (r.map E)).run P w = .ok (.map (some w.heap.size)) { w with heap := w.heap.push (.map #[] 0) } := by
    cases r with
    | none => cases h; exact ⟨rfl, fun w => rfl⟩
    | some r =>
      obtain ⟨h1, h2⟩ := ok?_some (show ok? (isIntConst r) (ob (c.und t) fun d => ob (tdMap d) fun _ => some (AOp.al .makeMap)) = some a from h)
      obtain ⟨d, hd, h3⟩ := ob_some h2
      obtain ⟨p, hp, h4⟩ := ob_some h3
      cases h4
      obtain ⟨k, el⟩ := p
      have := tdMap_some hp; subst this
      refine ⟨rfl, fun w => ?_⟩
      unfold isIntConst at h1
      split at h1
      · rename_i kk n
        have hv := vr_int (hE.at (hm _ rfl) (show ofOpd ws (.const (.int kk n)) = some (.const (.int kk n)) from rfl) (ev_const _ e))
        show (Instr.makeMap t (some (E (.const (.int kk n))))).run P w = _
        rw [hv]
        unfold Instr.makeMap
        simp only
        rw [run_ok (run_underlying (T.und hd) w)]
        rfl
      · cases h1
  obtain ⟨rfl, hrun⟩ := key
  intro nm o hv w
  cases (show some (Nm.map, AObj.map [] 0) = some (nm, o) from hv)
  exact ⟨.map (some w.heap.size), .map #[] 0, 0, w.drawn, vOf_run (hrun w), fun b hb => ⟨.map _ _ _ (Rho.set_same _ _ _), fun H hH => ⟨#[], hH, .nil⟩⟩⟩

theorem mul_small {a m : Nat} (h1 : a ≤ 4096) (h2 : m ≤ 1048576) : (a : Int) * (m : Int) ≤ 281474976710656 := by
  have h : a * m ≤ 4294967296 := Nat.le_trans (Nat.mul_le_mul h1 h2) (by decide)
  have h3 : ((a * m : Nat) : Int) ≤ 4294967296 := by omega
  rw [Int.natCast_mul] at h3
  omega

theorem cpMakeSlice_ok (T : Ties P c) {t : TypeId} {x y : Operand} {a : AOp} (hE : EvR ρ ws e E [x, y]) (h : cpMakeSlice t x y c ws = some a) : AopOk P ρ e (vOf (Instr.makeSlice t (E x) (E y))) a := by
  obtain ⟨d, hd, h1⟩ := ob_some h
  obtain ⟨el, hel, h2⟩ := ob_some h1
  obtain ⟨x', hx, h3⟩ := ob_some h2
  obtain ⟨y', hy, h4⟩ := ob_some h3
  obtain ⟨s, hs, h5⟩ := ob_some h4
  obtain ⟨bs, hbs, h6⟩ := ob_some h5
  obtain ⟨z, hz, h7⟩ := ob_some h6
  obtain ⟨h8, h9⟩ := ok?_some h7
  cases h9
  have := tdSlice_some hel; subst this
  have hu := T.und hd
  obtain ⟨g1, g2⟩ := Ties.size1 hs
  obtain ⟨i, u, hi, hiz, hzc, hzo⟩ := zero_both (ρ := ρ) T hz
  have hzl := Nat.eq_of_beq_eq_true h8
  have hsz : i.size = s := by
    obtain ⟨j, hj, h8⟩ := ob_some g2
    cases h8
    have := T.ty _ _ hj
    rw [hi] at this; cases this; rfl
  have hbz : i.bytes = bs := by
    obtain ⟨j, hj, h8⟩ := ob_some hbs
    cases h8
    have := T.ty _ _ hj
    rw [hi] at this; cases this; rfl
  intro nm o hv w
  obtain ⟨xv, hxv, hv1⟩ := ob_some (show alMakeSlice el s bs z.cells x' y' e = some (nm, o) from hv)
  obtain ⟨n, hn, hv2⟩ := ob_some hv1
  obtain ⟨yv, hyv, hv3⟩ := ob_some hv2
  obtain ⟨m, hm, hv4⟩ := ob_some hv3
  obtain ⟨hc, hv5⟩ := ok?_some hv4
  rw [forceN_eq, forceN_eq] at hv5
  cases hv5
  obtain ⟨k, rfl⟩ := asNat_some hn
  obtain ⟨k', rfl⟩ := asNat_some hm
  have hX := vr_int (hE.at (by simp) hx hxv)
  have hY := vr_int (hE.at (by simp) hy hyv)
  simp only [Bool.and_eq_true] at hc
  have c1 := Nat.le_of_ble_eq_true hc.1
  have c2 := Nat.le_of_ble_eq_true hc.2.1
  have c3 := Nat.le_of_ble_eq_true hc.2.2
  have hul : u.cells.toList.length = s := by rw [← hzc.length, hzl]
  have hrun := run_make (P := P) w t el i u hu hi hiz k k' n m (nat_of n) (by omega) (mul_small (by omega) c2) (by omega)
  simp only [Int.toNat_natCast] at hrun
  have hrep := rep_ok (ρ := ρ) m hzc (by omega)
  rw [arr_eta, hul, ← hsz] at hrep
  refine al_cells (us := (madeCells u.cells (m * i.size)).toList) (u := .slice (some ⟨w.heap.size, 0, none⟩) n m) (vOf_run ?_) hrep (rep_one hzo m) fun b hb => .slice _ _ _ _ _ _ (Rho.set_same _ _ _)
  rw [hX, hY]
  exact hrun

theorem cpRange_al {t : TypeId} {x : Operand} {r : Al} (T : Ties P c) (hE : EvR ρ ws e E [x]) (h : cpRange t x c ws = some (.al r)) : AlOk P ρ e (vOf (Instr.range t (E x))) r := by
  obtain ⟨d, hd, h1⟩ := ob_some h
  obtain ⟨x', hx, h2⟩ := ob_some h1
  cases e1 : tdString d with
  | false =>
    rw [e1] at h2
    obtain ⟨p, hp, h3⟩ := ob_some (show ob (tdMap d) (fun _ => some (AOp.ef (.rangeMap x'))) = _ from h2)
    cases h3
  | true =>
    rw [e1] at h2
    cases h2
    have := tdString_true e1; subst this
    intro nm o hv w
    obtain ⟨xv, hxv, hv1⟩ := ob_some (show alRangeStr x' e = some (nm, o) from hv)
    obtain ⟨s, hs, hv2⟩ := ob_some hv1
    cases hv2
    have := asStr_some hs; subst this
    obtain ⟨b, hX, rfl⟩ := vr_str (hE.at (by simp) hx hxv)
    refine ⟨.pointer (some ⟨w.heap.size, 0, none⟩), .stringIter b 0, 0, w.drawn, vOf_run ?_, fun k hk => ⟨.ptr _ _ _ _ (Rho.set_same _ _ _), fun H hH => ⟨b, hH, rfl⟩⟩⟩
    rw [hX]
    unfold Instr.range
    rw [run_ok (run_underlying (T.und hd) w)]
    rfl

theorem byte_of {P : Program} (T : Ties P c) {el : TypeId} (h : isByte c el = true) : P.underlying el = some (.int .u8) := by
  unfold isByte at h
  cases e1 : ob (c.und el) tdInt with
  | none => rw [e1] at h; cases h
  | some k =>
    rw [e1] at h
    simp only [decide_eq_true_eq] at h
    subst h
    obtain ⟨d, hd, h2⟩ := ob_some e1
    have := tdInt_some h2; subst this
    exact T.und hd

theorem byteCells_ok (b : ByteArray) : VRs ρ (byteCells (nums b)) (b.data.map fun x => Value.int .u8 x.toNat).toList := by
  unfold byteCells nums
  rw [Array.toList_map, List.map_map]
  induction b.data.toList with
  | nil => exact .nil
  | cons x l ih => exact .cons _ _ _ _ (.int _ _) ih

theorem byteCells_one (s : List Nat) : ∀ x ∈ byteCells s, x.oneCell = true := by
  intro x hx
  unfold byteCells at hx
  obtain ⟨n, _, rfl⟩ := List.mem_map.1 hx
  rfl

/-- Conversions, but for those that read. -/
theorem cpConvert_ok (T : Ties P c) {s d : TypeId} {x : Operand} {a : AOp} (hE : EvR ρ ws e E [x]) (h : cpConvert s d x c ws = some a) (hr : ∀ r, a ≠ .rd r) : AopOk P ρ e (vOf (convert s d (E x))) a := by
  obtain ⟨x', hx, h1⟩ := ob_some h
  obtain ⟨ds, hds, h2⟩ := ob_some h1
  obtain ⟨dd, hdd, h3⟩ := ob_some h2
  have us := T.und hds
  have ud := T.und hdd
  cases e1 : tdInt dd with
  | some k =>
    rw [e1] at h3
    obtain ⟨k', hk', h4⟩ := ob_some (show ob (tdInt ds) (fun _ => some (AOp.pu (.conv k x'))) = some a from h3)
    cases h4
    have := tdInt_some e1; subst this
    intro v hv w
    obtain ⟨xv, hxv, hv1⟩ := ob_some (show puConv k x' e = some v from hv)
    obtain ⟨kk, n, hn, hv2⟩ := ob2_some hv1
    have := asInt_some hn; subst this
    have := intK_some hv2; subst this
    rw [vr_int (hE.at (by simp) hx hxv)]
    refine ⟨.int k (k.wrap n), vOf_run ?_, .int _ _⟩
    unfold convert
    rw [run_ok (run_underlying us w), run_ok (run_underlying ud w)]
    cases ds <;> rfl
  | none =>
    rw [e1] at h3
    have h3 : (bif tdString ds then (bif tdString dd then some (.pu (.same x')) else ob (tdSlice dd) fun e => ob (c.size e) fun n => ok? (isByte c e && n.beq 1) (some (.al (.strBytes e x'))))
       else bif tdString dd then (ob (tdSlice ds) fun e => ok? (isByte c e) (some (.rd (.text x'))))
       else bif tdUnsafe dd then (ob (tdPtr ds) fun e => ob (c.size1 e) fun n => some (.rd (.toPtr none (Nat.pred n) x')))
       else bif tdUnsafe ds then (ob (tdPtr dd) fun e => ob (c.size1 e) fun n => some (.rd (.toPtr (some e) (Nat.pred n) x')))
       else none) = some a := h3
    cases e2 : tdString ds with
    | true =>
      rw [e2] at h3
      have := tdString_true e2; subst this
      cases e3 : tdString dd with
      | true =>
        rw [e3] at h3
        cases h3
        have := tdString_true e3; subst this
        intro v hv w
        obtain ⟨xv, hxv, hv1⟩ := ob_some (show puSame x' e = some v from hv)
        obtain ⟨st, hst, hv2⟩ := ob_some hv1
        cases hv2
        have := asStr_some hst; subst this
        have hX := hE.at (by simp) hx hxv
        obtain ⟨b, hb, hs⟩ := vr_str hX
        refine ⟨E x, vOf_run ?_, hX⟩
        rw [hb]
        unfold convert
        rw [run_ok (run_underlying us w), run_ok (run_underlying ud w)]
        rfl
      | false =>
        rw [e3] at h3
        obtain ⟨el, hel, h4⟩ := ob_some (show ob (tdSlice dd) (fun e => ob (c.size e) fun n => ok? (isByte c e && n.beq 1) (some (AOp.al (.strBytes e x')))) = some a from h3)
        obtain ⟨n, hn, h5⟩ := ob_some h4
        obtain ⟨h6, h7⟩ := ok?_some h5
        cases h7
        simp only [Bool.and_eq_true] at h6
        have hb8 := byte_of T h6.1
        have := tdSlice_some hel; subst this
        intro nm o hv w
        obtain ⟨xv, hxv, hv1⟩ := ob_some (show alBytes el x' e = some (nm, o) from hv)
        obtain ⟨st, hst, hv2⟩ := ob_some hv1
        obtain ⟨h8, hv3⟩ := ok?_some hv2
        cases hv3
        have := asStr_some hst; subst this
        obtain ⟨b, hX, rfl⟩ := vr_str (hE.at (by simp) hx hxv)
        have hle := Nat.le_of_ble_eq_true h8
        rw [nums_length] at hle
        have hrun := run_bytes_of_string (P := P) w s d el b us ud hb8
        rw [← hX] at hrun
        have hcap : b.size ≤ grownCap w b.size 0 el := grownCap_ge w b.size 0 el
        have hsz : (bytesRow b (grownCap w b.size 0 el)).size = grownCap w b.size 0 el := by
          simp only [bytesRow, Array.size_append, Array.size_map, Array.size_replicate]
          have : b.data.size = b.size := rfl
          omega
        refine ⟨_, _, (bytesRow b (grownCap w b.size 0 el)).size, w.drawn + 1, vOf_run hrun, fun k hk => ⟨?_, fun H hH => ?_⟩⟩
        · rw [nums_length]
          exact .sliceG _ _ _ _ _ _ _ (Rho.set_same _ _ _) hcap (by rw [hsz]; omega)
        · refine ⟨_, _, hH, rfl, ?_, fun _ i hi hc => by omega⟩
          have := cells_of (ρ := ρ) (byteCells_ok b) (byteCells_one _) (vs := (Array.replicate (grownCap w b.size 0 el - b.size) (Value.int .u8 0)).toList)
          have e9 : (⟨(b.data.map fun x => Value.int .u8 x.toNat).toList ++ (Array.replicate (grownCap w b.size 0 el - b.size) (Value.int .u8 0)).toList⟩ : Array Value) = bytesRow b (grownCap w b.size 0 el) := by
            unfold bytesRow
            apply Array.ext'
            simp
          rw [e9] at this
          exact this.ext (Rho.set_ext hk)
    | false =>
      rw [e2] at h3
      cases e3 : tdString dd with
      | true =>
        rw [e3] at h3
        obtain ⟨el, hel, h4⟩ := ob_some (show ob (tdSlice ds) (fun e => ok? (isByte c e) (some (AOp.rd (.text x')))) = some a from h3)
        obtain ⟨_, h5⟩ := ok?_some h4
        cases h5; exact absurd rfl (hr _)
      | false =>
        rw [e3] at h3
        cases e4 : tdUnsafe dd with
        | true =>
          rw [e4] at h3
          obtain ⟨el, hel, h4⟩ := ob_some (show ob (tdPtr ds) (fun e => ob (c.size1 e) fun n => some (AOp.rd (.toPtr none (Nat.pred n) x'))) = some a from h3)
          obtain ⟨_, _, h5⟩ := ob_some h4
          cases h5; exact absurd rfl (hr _)
        | false =>
          rw [e4] at h3
          cases e5 : tdUnsafe ds with
          | true =>
            rw [e5] at h3
            obtain ⟨el, hel, h4⟩ := ob_some (show ob (tdPtr dd) (fun e => ob (c.size1 e) fun n => some (AOp.rd (.toPtr (some e) (Nat.pred n) x'))) = some a from h3)
            obtain ⟨_, _, h5⟩ := ob_some h4
            cases h5; exact absurd rfl (hr _)
          | false => rw [e5] at h3; cases h3

end
end Go.Am

end
