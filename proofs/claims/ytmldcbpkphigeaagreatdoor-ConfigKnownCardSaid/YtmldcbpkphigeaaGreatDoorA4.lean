/- The small machine against the model: append and its kin. (Part of the proof of a statement about the given program; no condition.) -/
import Derived.Test.YtmldcbpkphigeaaGreatDoorA3
set_option linter.unusedVariables false
set_option linter.unusedSimpArgs false
noncomputable section
/- The small machine against the model: ranging over a text; copy, clear. -/
namespace Go.Am

section
variable {P : Program} {c : Cx} {ρ : Rho} {ws : Ws} {e : Env} {E : Operand → Value} {l : List Operand}

theorem get_nums (b : ByteArray) (i : Nat) : (b.get! i).toNat = ((nums b)[i]?).getD 0 := by
  unfold nums
  rw [List.getElem?_map]
  show (b.data[i]!).toNat = _
  rw [Array.getElem!_eq_getD, Array.getD_eq_getD_getElem?, Array.getElem?_toList]
  cases b.data[i]? <;> rfl

theorem nat_beq (a b : Nat) : (a == b) = a.beq b := by rw [beq_eq]; rfl

theorem decode_eq (b : ByteArray) (pos : Nat) : Utf8.decode b pos = decHead ((nums b).drop pos) := by
  have hat : ∀ k, (b.get! (pos + k)).toNat = (nthN k ((nums b).drop pos)).getD 0 := by
    intro k; rw [get_nums, nthN_eq, List.getElem?_drop]
  have hcont : ∀ k, decide (pos + k < b.size) = (nthN k ((nums b).drop pos)).isSome := by
    intro k
    rw [nthN_eq, List.getElem?_drop]
    by_cases h : pos + k < b.size
    · rw [decide_eq_true h]; simp [nums_length, h]
    · rw [decide_eq_false h]; simp [nums_length]; omega
  unfold Utf8.decode decHead
  simp only [hat, hcont, Bool.cond_eq_ite, nat_beq, Nat.blt, ble_eq, Bool.and_eq_true, decide_eq_true_eq, Utf8.valid, Utf8.runeError, Bool.or_eq_true, ge_iff_le, Nat.succ_le_iff, and_assoc]
  generalize ((nthN 0 ((nums b).drop pos)).getD 0) = b0
  generalize ((nthN 1 ((nums b).drop pos)).getD 0) = b1
  generalize ((nthN 2 ((nums b).drop pos)).getD 0) = b2
  generalize ((nthN 3 ((nums b).drop pos)).getD 0) = b3
  have hval : ∀ X : Nat, (0 ≤ (X : Int) ∧ (X : Int) < 55296 ∨ 57344 ≤ (X : Int) ∧ (X : Int) ≤ 1114111) = (X < 55296 ∨ 57343 < X ∧ X ≤ 1114111) := fun X => propext ⟨fun h => by omega, fun h => by omega⟩
  simp only [hval]

theorem nextStr_ok {x : Operand} {x' : AOpd} {ty : TypeId} (hE : EvR ρ ws e E [x]) (hx : ofOpd ws x = some x') : EfOk P ρ e (vOf (Instr.next (E x) true ty)) (fun e h => rE "next" (efNextStr x' e h)) := by
  refine efOk_one fun B hp w R v h' hv => ?_
  obtain ⟨xv, hxv, hv1⟩ := ob_some hv
  obtain ⟨b, o, hpt, hv2⟩ := ob2_some hv1
  obtain ⟨h0, hv3⟩ := ok?_some hv2
  have h0 := Nat.eq_of_beq_eq_true h0
  subst h0
  obtain ⟨s, pos, hit, hv4⟩ := ob2_some hv3
  have := asPtr_some hpt; subst this
  obtain ⟨cb, sz, hX, hb⟩ := vr_ptr (hE.at (by simp) hx hxv)
  have hg := iterStr_some hit
  obtain ⟨bs, g1, g2⟩ := R.obj b _ _ hg hb
  have g2 : nums bs = s := g2
  subst g2
  rw [dropN_eq] at hv4
  have hrun : ∀ (t : Sem Value), t = ((if pos < bs.size then do
        setObj cb (.stringIter bs (pos + (Utf8.decode bs pos).2))
        pure (.tuple #[.bool true, goInt pos, .int .i32 (Utf8.decode bs pos).1])
      else pure (.tuple #[.bool false])) : Sem Value) → (Instr.next (E x) true ty).run P w = t.run P w := by
    intro t ht
    subst ht
    rw [hX]
    unfold Instr.next
    exact (run_ok (run_getObj g1 (by intro a t f h; cases h))).trans rfl
  cases hl : (nums bs).drop pos with
  | nil =>
    rw [hl] at hv4
    cases (show some ((some (AVal.tup [.bool false]) : Option AVal), hp) = some (v, h') from hv4)
    have hle : ¬ pos < bs.size := by
      have := congrArg List.length hl
      simp only [List.length_drop, List.length_nil, nums_length] at this
      omega
    refine ⟨ρ, .value (.tuple ⟨[.bool false]⟩), w, vOf_run ?_, .tup _ _ (.cons _ _ _ _ (.bool _) .nil), R, Goes.refl _ _ _⟩
    rw [hrun _ rfl, if_neg hle]; rfl
  | cons ch l =>
    rw [hl] at hv4
    have hlt : pos < bs.size := by
      have := congrArg List.length hl
      simp only [List.length_drop, List.length_cons, nums_length] at this
      omega
    have hv5 : forceN (decHead (ch :: l)).1 (fun r => forceN (pos + (decHead (ch :: l)).2) fun p => ob (hp.upd b (.sIter (nums bs) p)) fun h' => some (some (AVal.tup [.bool true, .int .i64 (.ofNat pos), .int .i32 (.ofNat r)]), h')) = some (v, h') := hv4
    rw [forceN_eq, forceN_eq] at hv5
    obtain ⟨h'', hup, hv6⟩ := ob_some hv5
    cases hv6
    rw [← hl, ← decode_eq] at hup ⊢
    obtain ⟨w', a1, a2, a3⟩ := setIter_ok (P := P) (w := w) (o' := .sIter (nums bs) (pos + (Utf8.decode bs pos).2)) (obj' := .stringIter bs (pos + (Utf8.decode bs pos).2)) R hg rfl rfl hb g1 (by intro a t f h; cases h) hup (fun H hH => ⟨bs, hH, rfl⟩)
    refine ⟨ρ, .value (.tuple ⟨[.bool true, goInt pos, .int .i32 (Utf8.decode bs pos).1]⟩), w', vOf_run ?_, .tup _ _ (.cons _ _ _ _ (.bool _) (.cons _ _ _ _ (.int _ _) (.cons _ _ _ _ (.int _ _) .nil))), a2, a3⟩
    rw [hrun _ rfl, if_pos hlt]
    exact (run_ok a1).trans rfl

end
end Go.Am

/- The small machine against the model: copy, clear. -/
namespace Go.Am

section
variable {P : Program} {c : Cx} {ρ : Rho} {ws : Ws} {e : Env} {E : Operand → Value} {l : List Operand}

theorem lenOfA_ok {x : AVal} {u : Value} {n : Nat} (h : lenOfA x = some n) (hx : VR ρ x u) (w : World) : (Builtin.lenOf u).run P w = .ok n w := by
  unfold lenOfA at h
  cases e1 : asStr x with
  | some s =>
    rw [e1] at h; cases h
    have := asStr_some e1; subst this
    obtain ⟨b, rfl, rfl⟩ := vr_str hx
    rw [nums_length]; rfl
  | none =>
    rw [e1] at h
    obtain ⟨s, hs, h1⟩ := ob_some (show ob (asSlice x) (fun s => some (slLen s)) = some n from h)
    cases h1
    obtain ⟨b, m, k, rfl, rfl⟩ := vr_slice_any hs hx
    rfl

theorem takeA_eq : ∀ (n : Nat) (l : List Nat), takeA n l = byteCells (l.take n) := by
  intro n
  induction n with
  | zero => intro l; simp [takeA, byteCells]
  | succ n ih => intro l; cases l with
    | nil => rfl
    | cons x l => show _ :: takeA n l = _; rw [ih]; rfl

theorem cellsOf_ok {B : Base} {size n : Nat} {h : Hp} {w : World} {x : AVal} {u : Value} {xs : List AVal} (R : Rel B ρ h w.heap) (hc : cellsOf h size n x = some xs) (hx : VR ρ x u) :
    ∃ us : List Value, (∀ w' : World, w'.heap = w.heap → (Builtin.firstCells size n u).run P w' = .ok ⟨us⟩ w') ∧ VRs ρ xs us ∧ (∀ y ∈ xs, y.oneCell = true) ∧ (n = 0 → xs = []) := by
  unfold cellsOf at hc
  cases e1 : asStr x with
  | some s =>
    rw [e1] at hc; cases hc
    have := asStr_some e1; subst this
    obtain ⟨b, rfl, rfl⟩ := vr_str hx
    rw [takeA_eq]
    have hn : (nums b).take n = nums (b.extract 0 n) := by rw [nums_extract]; simp
    rw [hn]
    exact ⟨_, fun _ _ => rfl, byteCells_ok _, byteCells_one _, fun h0 => by subst h0; rw [← hn]; simp [byteCells]⟩
  | none =>
    rw [e1] at hc
    obtain ⟨s, hs, h1⟩ := ob_some (show ob (asSlice x) (fun s => Option.casesOn (motive := fun _ => Option (List AVal)) s (ok? (n.beq 0) (some [])) (fun s => onSl s fun b off _ _ => ob2 (rowAt h b) fun cs _ => piece off (Nat.mul n size) cs)) = some xs from hc)
    cases s with
    | none =>
      obtain ⟨h2, h3⟩ := ok?_some h1
      cases h3
      have := asSlice_nil hs; subst this
      rw [vr_slice0 hx]
      exact ⟨[], fun _ _ => rfl, .nil, fun y hy => by simp at hy, fun _ => rfl⟩
    | some s =>
      obtain ⟨b, off, m, k⟩ := s
      have := asSlice_some hs; subst this
      obtain ⟨cs, p, hrow, h2⟩ := ob2_some (show ob2 (rowAt h b) (fun cs _ => piece off (Nat.mul n size) cs) = some xs from h1)
      obtain ⟨cb, sz, kk, rfl, hb, _⟩ := vr_slice hx
      obtain ⟨us, g1, g2, g3, g4⟩ := piece_load (P := P) R (rowAt_some hrow) hb h2
      refine ⟨us, g2, g3, g4, fun h0 => ?_⟩
      subst h0
      have := g3.length
      rw [g1] at this
      exact List.length_eq_zero_iff.1 (by rw [this]; simp)

theorem minN_eq (a b : Nat) : minN a b = Nat.min a b := by
  unfold minN
  rw [ble_eq]
  by_cases h : a ≤ b
  · rw [decide_eq_true h]; exact (Nat.min_eq_left h).symm
  · rw [decide_eq_false h]; exact (Nat.min_eq_right (Nat.le_of_lt (Nat.lt_of_not_le h))).symm

theorem bCopy_ok (T : Ties P c) {ts : Array TypeId} {ty : TypeId} {ys : List AOpd} {args : List Value} {a : AOp} (hA : ArgsR ρ e ys args) (h : bCopy ts ys c = some a) :
    ∃ s d x, a = .ef (.copy s d x) ∧ EfOk P ρ e (vOf (Builtin.copy_ ts ty ⟨args⟩)) (fun e h => rE "copy" (efCopy s d x e h)) := by
  obtain ⟨p, hp, h1⟩ := ob_some h
  obtain ⟨t, ht, h2⟩ := ob_some h1
  obtain ⟨d, hd, h3⟩ := ob_some h2
  obtain ⟨el, hel, h4⟩ := ob_some h3
  obtain ⟨s, hs, h5⟩ := ob_some h4
  cases h5
  have := tdSlice_some hel; subst this
  have := two2_some hp; subst this
  obtain ⟨u, u', rfl, hU⟩ := hA.two
  have hu := T.und hd
  obtain ⟨g1, g2⟩ := Ties.size1 hs
  refine ⟨s, p.1, p.2, rfl, efOk_one fun B hp w R v h' hv => ?_⟩
  obtain ⟨dv, hdv, hv1⟩ := ob_some hv
  obtain ⟨ds, hds, hv2⟩ := ob_some hv1
  obtain ⟨sv, hsv, hv3⟩ := ob_some hv2
  obtain ⟨m, hm, hv4⟩ := ob_some hv3
  rw [forceN_eq] at hv4
  obtain ⟨xs, hxs, hv5⟩ := ob_some hv4
  obtain ⟨hD, hS⟩ := hU _ _ hdv hsv
  obtain ⟨us, q1, q2, q3, q4⟩ := cellsOf_ok (P := P) R hxs hS
  rw [minN_eq] at *
  -- what copy comes to
  have hrun : ∀ (base : Option Addr) (k : Nat) (w' : World), u = .slice base (slLen ds) k → ((match base with | some a => storeCells a us | none => pure ()) : Sem Unit).run P w = .ok () w' →
      (vOf (Builtin.copy_ ts ty ⟨[u, u']⟩)).run P w = .ok (.value (goInt (Nat.min m (slLen ds)))) w' := by
    intro base k w' hbase hw'
    subst hbase
    refine vOf_run ?_
    unfold Builtin.copy_
    simp only [ht, show (⟨[Value.slice base (slLen ds) k, u']⟩ : Array Value)[0]? = some (.slice base (slLen ds) k) from rfl, show (⟨[Value.slice base (slLen ds) k, u']⟩ : Array Value)[1]? = some u' from rfl]
    rw [run_ok (run_underlying hu w)]
    refine (run_ok (lenOfA_ok hm hS w)).trans ?_
    refine (run_ok (T.size g2 w)).trans ?_
    refine (run_ok (q1 w rfl)).trans ?_
    cases base with
    | none => cases hw'; rfl
    | some a => exact (run_ok hw').trans rfl
  cases hz : Nat.beq (Nat.min m (slLen ds)) 0 with
  | true =>
    have hz' := Nat.eq_of_beq_eq_true hz
    have hv6 : (bif Nat.beq (Nat.min m (slLen ds)) 0 then some ((some (AVal.int .i64 (.ofNat 0)) : Option AVal), hp) else ob ds fun sl => onSl sl fun b off _ _ => ob (storeAt hp b off xs) fun h' => some (some (.int .i64 (.ofNat (Nat.min m (slLen ds)))), h')) = some (v, h') := hv5
    rw [hz] at hv6
    cases hv6
    have hxs0 := q4 hz'
    subst hxs0
    cases q2
    obtain ⟨base, n, k, hb, hn⟩ := vr_slice_any hds hD
    subst hn
    refine ⟨ρ, .value (goInt (Nat.min m (slLen ds))), w, hrun base k w hb (by cases base <;> rfl), ?_, R, Goes.refl _ _ _⟩
    rw [hz']; exact .int _ _
  | false =>
    have hv6 : (bif Nat.beq (Nat.min m (slLen ds)) 0 then some ((some (AVal.int .i64 (.ofNat 0)) : Option AVal), hp) else ob ds fun sl => onSl sl fun b off _ _ => ob (storeAt hp b off xs) fun h' => some (some (.int .i64 (.ofNat (Nat.min m (slLen ds)))), h')) = some (v, h') := hv5
    rw [hz] at hv6
    obtain ⟨sl, hsl, hv7⟩ := ob_some (show ob ds (fun sl => onSl sl fun b off _ _ => ob (storeAt hp b off xs) fun h' => some (some (AVal.int .i64 (.ofNat (Nat.min m (slLen ds)))), h')) = some (v, h') from hv6)
    subst hsl
    obtain ⟨b, off, n, k⟩ := sl
    obtain ⟨h'', hst, hv8⟩ := ob_some (show ob (storeAt hp b off xs) (fun h' => some (some (AVal.int .i64 (.ofNat (Nat.min m (slLen (some ⟨b, off, n, k⟩))))), h')) = some (v, h') from hv7)
    cases hv8
    have := asSlice_some hds; subst this
    obtain ⟨cb, sz, kk, hX, hb, _⟩ := vr_slice hD
    obtain ⟨w', a1, a2, a3, a4⟩ := storeAt_ok (P := P) hst R hb q2 q3
    exact ⟨ρ, .value (goInt (Nat.min m n)), w', hrun (some ⟨cb, off, none⟩) kk w' hX a1, .int _ _, a2, a3⟩

end
end Go.Am

/- The small machine against the model: append. -/
namespace Go.Am
section
variable {P : Program} {c : Cx} {ρ : Rho} {ws : Ws} {e : Env} {E : Operand → Value} {l : List Operand}

def isIntD : TypeDesc → Bool
  | .int _ => true
  | _ => false

/-- append where there is room. -/
theorem run_app_room {ts : Array TypeId} {t ty u el : TypeId} {d : TypeDesc} {i : TypeInfo} {base : Option Addr} {sLen sCap n : Nat} {x : Value} {news : List Value} {w w' : World}
    (h0 : ts[0]? = some t) (h1 : ts[1]? = some u) (ht : P.underlying t = some (.slice el)) (hu : P.underlying u = some d) (hd : isIntD d = false) (hi : P.info? el = some i)
    (hn : (Builtin.lenOf x).run P w = .ok n w) (hx : (Builtin.firstCells i.size n x).run P w = .ok ⟨news⟩ w) (hroom : sLen + n ≤ sCap)
    (hst : ((match base with | some a => storeCells (a.add (sLen * i.size)) news | none => pure ()) : Sem Unit).run P w = .ok () w') :
    (Builtin.append_ ts ty ⟨[.slice base sLen sCap, x]⟩).run P w = .ok (.slice base (sLen + n) sCap) w' := by
  unfold Builtin.append_
  simp only [h0, h1, show (⟨[Value.slice base sLen sCap, x]⟩ : Array Value)[0]? = some (.slice base sLen sCap) from rfl, show (⟨[Value.slice base sLen sCap, x]⟩ : Array Value)[1]? = some x from rfl]
  rw [run_ok (run_underlying ht w)]
  simp only
  rw [run_ok (run_size hi w)]
  rw [run_ok (run_underlying hu w)]
  have fin : ∀ b : Bool, b = false → ∀ k : Bool → Sem Value, (k false).run P w = .ok (.slice base (sLen + n) sCap) w' → ((pure b : Sem Bool) >>= k).run P w = .ok (.slice base (sLen + n) sCap) w' := by
    intro b hb k hk; subst hb; exact hk
  refine fin _ (by cases d <;> first | rfl | (simp [isIntD] at hd; done)) _ ?_
  simp only [Bool.false_eq_true, if_false]
  rw [run_ok hn]
  simp only [if_pos hroom]
  simp only [Bool.not_false, if_true]
  rw [run_ok hx]
  cases base with
  | none => cases hst; rfl
  | some a => exact (run_ok hst).trans rfl

/-- append where there is none. -/
theorem run_app_grow {ts : Array TypeId} {t ty u el : TypeId} {d : TypeDesc} {i : TypeInfo} {z : Value} {base : Option Addr} {sLen sCap n : Nat} {x : Value} {olds news : List Value} {w : World}
    (h0 : ts[0]? = some t) (h1 : ts[1]? = some u) (ht : P.underlying t = some (.slice el)) (hu : P.underlying u = some d) (hd : isIntD d = false) (hi : P.info? el = some i) (hz : i.zero = some z)
    (hn : (Builtin.lenOf x).run P w = .ok n w) (hx : (Builtin.firstCells i.size n x).run P w.drew = .ok ⟨news⟩ w.drew) (ho : (Builtin.firstCells i.size sLen (.slice base sLen sCap)).run P w.drew = .ok ⟨olds⟩ w.drew) (hroom : ¬ sLen + n ≤ sCap)
    (hneed : sLen + n ≤ 1048576) (hfit : ¬ Builtin.nextslicecap (sLen + n) sCap * i.bytes > 2 ^ 48) :
    (Builtin.append_ ts ty ⟨[.slice base sLen sCap, x]⟩).run P w = .ok (.slice (some ⟨w.heap.size, 0, none⟩) (sLen + n) (grownCap w (sLen + n) sCap el))
      (w.drew.alloc (.cells ((⟨olds⟩ : Array Value) ++ ⟨news⟩ ++ Builtin.zeroCells z.cells (grownCap w (sLen + n) sCap el - (sLen + n))) el)) := by
  unfold Builtin.append_
  simp only [h0, h1, show (⟨[Value.slice base sLen sCap, x]⟩ : Array Value)[0]? = some (.slice base sLen sCap) from rfl, show (⟨[Value.slice base sLen sCap, x]⟩ : Array Value)[1]? = some x from rfl]
  rw [run_ok (run_underlying ht w)]
  simp only
  rw [run_ok (run_size hi w)]
  rw [run_ok (run_underlying hu w)]
  have fin : ∀ b : Bool, b = false → ∀ (k : Bool → Sem Value) (r : Result Value), (k false).run P w = r → ((pure b : Sem Bool) >>= k).run P w = r := by
    intro b hb k r hk; subst hb; exact hk
  refine fin _ (by cases d <;> first | rfl | (simp [isIntD] at hd; done)) _ _ ?_
  simp only [Bool.false_eq_true, if_false]
  rw [run_ok hn]
  simp only [if_neg hroom]
  simp only [Bool.not_false, if_true]
  rw [run_ok (run_info hi w)]
  rw [if_neg (fun h => absurd h.1 (by simp only [IntKind.max, IntKind.signed, IntKind.bits]; omega))]
  rw [run_ok (run_info hi w)]
  rw [if_neg hfit]
  rw [run_ok (show (choose (.appendCap (sLen + n) sCap el)).run P w = .ok (grownCap w (sLen + n) sCap el) w.drew from rfl)]
  rw [run_ok (run_info hi w.drew)]
  have hroomask : ∀ k, (askRoom k).run P w.drew = .ok () w.drew := by intro k; unfold askRoom; split <;> rfl
  rw [run_ok (hroomask _), run_ok ho, run_ok hx, run_ok (run_zero hi hz w.drew)]
  rfl

theorem growBy_le (m : Nat) : ∀ (k x : Nat), Builtin.growBy m k x ≤ 2 ^ k * (x + 768) := by
  intro k
  induction k with
  | zero => intro x; simp only [Builtin.growBy]; omega
  | succ k ih =>
    intro x
    simp only [Builtin.growBy]
    split
    · rw [Nat.pow_succ]
      have : 1 ≤ 2 ^ k := Nat.one_le_two_pow
      calc x ≤ 1 * (x + 768) := by omega
        _ ≤ (2 ^ k * 2) * (x + 768) := Nat.mul_le_mul_right _ (by omega)
    · refine Nat.le_trans (ih _) ?_
      rw [Nat.pow_succ, Nat.mul_assoc]
      exact Nat.mul_le_mul_left _ (by omega)

theorem cap_small {a b : Nat} (h1 : a ≤ 33554432) (hb : b ≤ 4096) : ¬ a * b > 2 ^ 48 := by
  have h2 := Nat.mul_le_mul h1 hb
  omega

theorem grow_small {a : Nat} (h : a ≤ 1048576) : 2 ^ 4 * (a + 768) ≤ 33554432 := by omega

theorem nextslicecap_small {need old bytes : Nat} (h : ¬ need ≤ old) (hn : need ≤ 1048576) (hb : bytes ≤ 4096) : ¬ Builtin.nextslicecap need old * bytes > 2 ^ 48 := by
  have h1 : Builtin.nextslicecap need old ≤ 33554432 := by
    unfold Builtin.nextslicecap
    split
    · omega
    · split
      · omega
      · exact Nat.le_trans (growBy_le need 4 old) (grow_small (by omega))
  exact cap_small h1 hb

/-- A block is given up and taken on by a new number. -/
theorem Rel.adopt {B : Base} {b cb n : Nat} {h h1 : Hp} {w w' : World} {o o' : AObj} (R : Rel B ρ h w.heap) (hg : h.get b = some o) (hwr : o.wr = true) (hb : ρ b = some (cb, n)) (hd : h.del b = some h1)
    (hs : w'.heap.size = w.heap.size) (hk : ∀ k, k ≠ cb → w'.heap[k]? = w.heap[k]?) (ho : ORel (ρ.set h1.next (cb, n)) o' (cb, n) w'.heap)
    (os : w'.os = w.os) (tape : w'.tape = w.tape) (output : w'.output = w.output) (hwo : o'.wr = true := by rfl) :
    Rel B (ρ.set h1.next (cb, n)) (h1.plus o') w'.heap ∧ Goes ρ h w (ρ.set h1.next (cb, n)) (h1.plus o') w' := by
  obtain ⟨R1, G1⟩ := R.delete (w := w) hd hg hb
  obtain ⟨hro, hn, hr, hget⟩ := Hp.get_del hd
  obtain ⟨f1, f2⟩ := R1.fresh h1.next (Nat.le_refl _)
  have hext : Ext' ρ (ρ.set h1.next (cb, n)) := Rho.set_ext f1
  have hnot : ∀ c q p, h1.get c = some q → ρ c = some p → p.1 ≠ cb := by
    intro c q p h2 h3 h4
    rw [hget] at h2
    by_cases e : c = b
    · rw [if_pos e] at h2; cases h2
    · rw [if_neg e] at h2
      exact e (R.inj c b q o p (cb, n) h2 hg h3 hb h4)
  have hcase : ∀ c q p, (h1.plus o').get c = some q → (ρ.set h1.next (cb, n)) c = some p → (c = h1.next ∧ q = o' ∧ p = (cb, n)) ∨ (c ≠ h1.next ∧ h1.get c = some q ∧ ρ c = some p) := by
    intro c q p h2 h3
    rw [Hp.get_plus] at h2
    by_cases e : c = h1.next
    · subst e
      rw [if_pos rfl] at h2; cases h2
      rw [Rho.set_same] at h3; cases h3
      exact .inl ⟨rfl, rfl, rfl⟩
    · rw [if_neg e] at h2
      rw [Rho.set_ne e] at h3
      exact .inr ⟨e, h2, h3⟩
  have hroLe := R1.roLe
  refine ⟨⟨?_, ?_, ?_, ?_, ?_, ?_, by show h1.ro ≤ h1.next + 1; omega, fun k hk' => by rw [hk k (fun e => by have := R.base b o _ hg hb hwr; simp only at this; omega)]; exact R.kept k hk', ?_⟩, ⟨hext, ?_, ?_, hr, ?_, ?_, ?_, ?_, os, tape, output, fun c hc he => by rw [Hp.get_plus, if_neg (by omega)]; exact G1.dead c hc he⟩⟩
  · intro c q p h2 h3
    rcases hcase c q p h2 h3 with ⟨rfl, rfl, rfl⟩ | ⟨e, g1, g2⟩
    · exact ho
    · exact ((R1.obj c q p g1 g2).ext hext).at (hk _ (hnot c q p g1 g2))
  · intro c q p h2 h3 h4
    rcases hcase c q p h2 h3 with ⟨rfl, rfl, rfl⟩ | ⟨e, g1, g2⟩
    · exact R.base b o (cb, n) hg hb hwr
    · exact R1.base c q p g1 g2 h4
  · intro c c' q q' p p' h2 h3 h4 h5 h6
    rcases hcase c q p h2 h4 with ⟨rfl, rfl, rfl⟩ | ⟨e, g1, g2⟩ <;> rcases hcase c' q' p' h3 h5 with ⟨rfl, rfl, rfl⟩ | ⟨e', g1', g2'⟩
    · rfl
    · exact absurd h6.symm (hnot c' q' p' g1' g2')
    · exact absurd h6 (hnot c q p g1 g2)
    · exact R1.inj c c' q q' p p' g1 g1' g2 g2' h6
  · intro c hc
    have hc : h1.next + 1 ≤ c := hc
    obtain ⟨a1, a2⟩ := R1.fresh c (by omega)
    exact ⟨by rw [Rho.set_ne (by omega)]; exact a1, by rw [Hp.get_plus, if_neg (by omega)]; exact a2⟩
  · intro c p h2
    rw [hs]
    by_cases e : c = h1.next
    · subst e; rw [Rho.set_same] at h2; cases h2; exact R.dom b _ hb
    · rw [Rho.set_ne e] at h2; exact R.dom c p h2
  · rw [hs]; exact R.low
  · intro c q p h2 h3 h4
    rcases hcase c q p h2 h3 with ⟨rfl, rfl, rfl⟩ | ⟨e, g1, g2⟩
    · rw [hwo] at h4; cases h4
    · exact R1.nw c q p g1 g2 h4
  · intro c hc he
    have hc' : c < h1.next := by rw [hn]; exact hc
    refine ⟨by rw [Rho.set_ne (by omega)]; exact he, ?_⟩
    rw [Hp.get_plus, if_neg (by omega)]
    exact (G1.old c hc he).2
  · show h.next ≤ h1.next + 1; omega
  · intro c hc
    have := R.roLe
    rw [Hp.get_plus, if_neg (by omega)]
    exact G1.roKept c hc
  · intro c q p h2 h3 h4 h5
    rcases hcase c q p h2 h4 with ⟨rfl, rfl, rfl⟩ | ⟨e, g1, g2⟩
    · exact ⟨b, o, (cb, n), hg, hwr, hb, rfl⟩
    · exact G1.img c q p g1 h3 g2 h5
  · rw [hs]; exact Nat.le_refl _
  · intro k hkk hno
    exact hk k (fun e => hno b o (cb, n) hg hwr hb e.symm)

end
end Go.Am

/- The small machine against the model: append. -/
namespace Go.Am

section
variable {P : Program} {c : Cx} {ρ : Rho} {ws : Ws} {e : Env} {E : Operand → Value} {l : List Operand}

theorem okSize_some {n b : Nat} (h : okSize n b = true) : n ≤ 1048576 ∧ b ≤ 4096 := by
  simp only [okSize, andb_eq, Bool.and_eq_true] at h
  exact ⟨Nat.le_of_ble_eq_true h.1, Nat.le_of_ble_eq_true h.2⟩

/-- A new array for what is appended to. -/
theorem grow_new {B : Base} {size need cap : Nat} {h : Hp} {w w0 : World} {old xs : List AVal} {olds news : List Value} {el : TypeId} {zs : Array Value} (R : Rel B ρ h w.heap) (h1 : VRs ρ old olds) (h2 : VRs ρ xs news) (o1 : ∀ x ∈ old, x.oneCell = true) (o2 : ∀ x ∈ xs, x.oneCell = true)
    (hl : old.length + xs.length = need * size) (hz : zs.size = size) (hc : need ≤ cap) (hw : w0.heap = w.heap) (os : w0.os = w.os) (tape : w0.tape = w.tape) (output : w0.output = w.output) :
    ∃ ρ' w', w' = w0.alloc (.cells ((⟨olds⟩ : Array Value) ++ ⟨news⟩ ++ Builtin.zeroCells zs (cap - need)) el) ∧ VR ρ' (.slice h.next 0 need (.grown size)) (.slice (some ⟨w.heap.size, 0, none⟩) need cap) ∧
      Rel B ρ' (h.plus (.cells (old ++ xs) el true)) w'.heap ∧ Goes ρ h w ρ' (h.plus (.cells (old ++ xs) el true)) w' := by
  obtain ⟨f1, _⟩ := R.fresh h.next (Nat.le_refl _)
  have e1 : ((⟨olds⟩ : Array Value) ++ ⟨news⟩ ++ Builtin.zeroCells zs (cap - need)) = ⟨(olds ++ news) ++ (Builtin.zeroCells zs (cap - need)).toList⟩ := by
    apply Array.ext'; simp
  have hsz : (olds ++ news).length + (Builtin.zeroCells zs (cap - need)).toList.length = cap * size := by
    rw [List.length_append, ← h1.length, ← h2.length, hl, Array.length_toList, size_zeroCells, hz, ← Nat.add_mul]
    congr 1; omega
  have hor : ∀ H : Array Obj, H[w.heap.size]? = some (.cells ⟨(olds ++ news) ++ (Builtin.zeroCells zs (cap - need)).toList⟩ el) → ORel (ρ.set h.next (w.heap.size, cap * size)) (.cells (old ++ xs) el true) (w.heap.size, cap * size) H := by
    intro H hH
    have := orel_cells (ρ := ρ) (b := h.next) (m := w.heap.size) f1 (h1.append h2) (by intro x hx; rcases List.mem_append.1 hx with hx | hx; exact o1 x hx; exact o2 x hx) (free0 _) hH
    rw [hsz] at this
    exact this
  obtain ⟨a1, a2⟩ := Rel.alloc (w' := w0.alloc (.cells ⟨(olds ++ news) ++ (Builtin.zeroCells zs (cap - need)).toList⟩ el)) (n := cap * size) (o := .cells (old ++ xs) el true) R (by show w0.heap.push _ = _; rw [hw])
    (hor _ (by show (w0.heap.push _)[w.heap.size]? = _; rw [hw]; simp)) os tape output
  exact ⟨_, _, by rw [e1], .sliceG _ _ _ _ _ _ _ (Rho.set_same _ _ _) hc (by omega), a1, a2⟩

theorem lt_not_beq {n : Nat} (h : ¬ Nat.beq n 0 = true) : ¬ 0 + n ≤ 0 := by
  intro e
  have : n = 0 := by omega
  subst this
  exact h rfl

/-- New cells behind the first ones of a block. -/
theorem behind_ok {cs old xs : List AVal} {news : List Value} {arr : Array Value} {k : Nat} (hc : CellsR ρ cs arr) (hp : piece 0 k cs = some old) (hx : VRs ρ xs news) (ho : ∀ x ∈ xs, x.oneCell = true) (hfit : k + news.length ≤ arr.size) :
    CellsR ρ (old ++ xs) ((news.zipIdx 0).foldl (fun cs p => cs.setIfInBounds (k + p.2) p.1) arr) ∧ ((news.zipIdx 0).foldl (fun cs p => cs.setIfInBounds (k + p.2) p.1) arr).size = arr.size := by
  obtain ⟨_, g2, g3⟩ := piece_some hp
  simp only [List.drop_zero] at g2 g3
  obtain ⟨h1, h2⟩ := foldl_set k news 0 arr
  have hl := hx.length
  have hol : old.length = k := by rw [g2]; simp; omega
  refine ⟨⟨by rw [h1]; simp [hol]; omega, fun i x hi => ?_⟩, h1⟩
  have h2 := h2 i
  simp only [Nat.add_zero] at h2
  rw [h2]
  by_cases a : i < k
  · rw [if_neg (by omega)]
    rw [List.getElem?_append_left (by omega), g2, List.getElem?_take_of_lt a] at hi
    exact hc.2 i x hi
  · have hlt : i < k + news.length := by
      have := (List.getElem?_eq_some_iff.1 hi).1
      simp [hol] at this; omega
    rw [if_pos (by omega)]
    rw [List.getElem?_append_right (by omega), hol] at hi
    exact ⟨ho x (List.mem_of_getElem? hi), hx.get _ x hi⟩

/-- append: what it does to the two heaps. -/
theorem app_ok {B : Base} {size bytes n : Nat} {hp h' : Hp} {w : World} {s : Option Sl} {sv v : AVal} {su : Value} {xs : List AVal} {news : List Value} {el : TypeId} {zs : Array Value} {run : Result Value}
    (R : Rel B ρ hp w.heap) (hs : asSlice sv = some s) (hS : VR ρ sv su) (hx : VRs ρ xs news) (ho : ∀ x ∈ xs, x.oneCell = true) (hl : xs.length = n * size) (hz : zs.size = size) (hsize : 1 ≤ size)
    (hroom : ∀ base sLen sCap w', su = .slice base sLen sCap → sLen + n ≤ sCap → ((match base with | some a => storeCells (a.add (sLen * size)) news | none => pure ()) : Sem Unit).run P w = .ok () w' → run = .ok (.slice base (sLen + n) sCap) w')
    (hgrow : ∀ base sLen sCap olds, su = .slice base sLen sCap → ¬ sLen + n ≤ sCap → okSize (sLen + n) bytes = true → (Builtin.firstCells size sLen su).run P w.drew = .ok ⟨olds⟩ w.drew →
      run = .ok (.slice (some ⟨w.heap.size, 0, none⟩) (sLen + n) (grownCap w (sLen + n) sCap el)) (w.drew.alloc (.cells ((⟨olds⟩ : Array Value) ++ ⟨news⟩ ++ Builtin.zeroCells zs (grownCap w (sLen + n) sCap el - (sLen + n))) el)))
    (h : appTo hp el size bytes n s xs = some (v, h')) : ∃ ρ' u' w', run = .ok u' w' ∧ VR ρ' v u' ∧ Rel B ρ' h' w'.heap ∧ Goes ρ hp w ρ' h' w' := by
  cases s with
  | none =>
    have := asSlice_nil hs; subst this
    have hsu := vr_slice0 hS
    have h : (bif Nat.beq n 0 then some (AVal.slice0, hp) else ok? (okSize n bytes) (hp.newK (.cells xs el true) fun b h => some (.slice b 0 n (.grown size), h))) = some (v, h') := h
    cases g : Nat.beq n 0 with
    | true =>
      rw [g] at h; cases h
      have g0 := Nat.eq_of_beq_eq_true g
      subst g0
      exact ⟨ρ, _, w, hroom none 0 0 w hsu (by omega) rfl, .slice0, R, Goes.refl _ _ _⟩
    | false =>
      rw [g] at h
      obtain ⟨h1, h2⟩ := ok?_some (show ok? (okSize n bytes) (hp.newK (.cells xs el true) fun b h => some (AVal.slice b 0 n (.grown size), h)) = some (v, h') from h)
      rw [Hp.newK_eq] at h2
      cases h2
      have hr := hgrow none 0 0 [] hsu (lt_not_beq (by rw [g]; simp)) (by rw [Nat.zero_add]; exact h1) (by rw [hsu]; rfl)
      obtain ⟨ρ', w', q1, q2, q3, q4⟩ := grow_new (size := size) (need := 0 + n) (cap := grownCap w (0 + n) 0 el) (w0 := w.drew) (el := el) (zs := zs) R (.nil) hx (by intro x hx; simp at hx) ho (by simp; exact hl) hz (grownCap_ge _ _ _ _) rfl rfl rfl rfl
      subst q1
      rw [Nat.zero_add] at q2
      exact ⟨ρ', _, _, hr, by simpa using q2, q3, q4⟩
  | some s =>
    obtain ⟨b, off, len, k⟩ := s
    have := asSlice_some hs; subst this
    obtain ⟨cb, sz, kk, hsu, hb, hke, hkg⟩ := vr_slice hS
    obtain ⟨cs, p, hrow, h1⟩ := ob2_some (show ob2 (rowAt hp b) (fun cs er => on2 er fun e' rw => forceN (Nat.add len n) fun need =>
      ACap.casesOn (motive := fun _ => Option (AVal × Hp)) k
        (fun c => bc (Nat.ble need c) (bc (Nat.beq n 0) (some (.slice b off need (.exact c), hp)) (ob (storeAt hp b (Nat.add off (Nat.mul len size)) xs) fun h' => some (.slice b off need (.exact c), h')))
          (ok? (okSize need bytes) (ob (piece off (Nat.mul len size) cs) fun old => ob (appendL old xs) fun cs => hp.newK (.cells cs el true) fun b h => some (.slice b 0 need (.grown size), h))))
        (fun g => ok? (Nat.beq g size) (bc (Nat.ble (Nat.add off (Nat.mul need size)) (lenA cs)) (bc (Nat.beq n 0) (some (.slice b off need (.grown g), hp)) (ob (storeAt hp b (Nat.add off (Nat.mul len size)) xs) fun h' => some (.slice b off need (.grown g), h')))
          (ok? (andb (okSize need bytes) (andb (Nat.beq off 0) (andb (Nat.beq e' el) rw))) (ob (piece 0 (Nat.mul len size) cs) fun old => ob (appendL old xs) fun cs => ob (hp.del b) fun h' => h'.newK (.cells cs el true) fun b h => some (.slice b 0 need (.grown size), h)))))) = some (v, h') from h)
    obtain ⟨e', rw'⟩ := p
    have hg := rowAt_some hrow
    have hadd : (⟨cb, off, none⟩ : Addr).add (len * size) = ⟨cb, off + len * size, none⟩ := addr_add _ _ _
    -- where there is room
    have room : ∀ (k' : ACap) (q : Option (AVal × Hp)), q = bc (Nat.beq n 0) (some (.slice b off (len + n) k', hp)) (ob (storeAt hp b (Nat.add off (Nat.mul len size)) xs) fun h' => some (.slice b off (len + n) k', h')) → q = some (v, h') → len + n ≤ kk →
        VR ρ (.slice b off (len + n) k') (.slice (some ⟨cb, off, none⟩) (len + n) kk) → ∃ ρ' u' w', run = .ok u' w' ∧ VR ρ' v u' ∧ Rel B ρ' h' w'.heap ∧ Goes ρ hp w ρ' h' w' := by
      intro k' q hq hq' hle hV
      subst hq
      cases g : Nat.beq n 0 with
      | true =>
        rw [g] at hq'; cases hq'
        have g0 := Nat.eq_of_beq_eq_true g
        subst g0
        have : xs = [] := List.length_eq_zero_iff.1 (by rw [hl]; simp)
        subst this
        cases hx
        exact ⟨ρ, _, w, hroom _ _ _ w hsu hle rfl, hV, R, Goes.refl _ _ _⟩
      | false =>
        rw [g] at hq'
        obtain ⟨h'', hst, h3⟩ := ob_some (show ob (storeAt hp b (Nat.add off (Nat.mul len size)) xs) (fun h' => some (AVal.slice b off (len + n) k', h')) = some (v, h') from hq')
        cases h3
        obtain ⟨w', a1, a2, a3, a4⟩ := storeAt_ok (P := P) hst R hb hx ho
        exact ⟨ρ, _, w', hroom _ _ _ w' hsu hle (by show (storeCells ((⟨cb, off, none⟩ : Addr).add (len * size)) news).run P w = _; rw [hadd]; exact a1), hV, a2, a3⟩
    -- a new array
    have fresh : ∀ (old : List AVal) (h0 : Hp), piece off (len * size) cs = some old → okSize (len + n) bytes = true → ¬ len + n ≤ kk → (h0 = hp ∨ hp.del b = some h0) → v = .slice h0.next 0 (len + n) (.grown size) → h' = h0.plus (.cells (old ++ xs) el true) →
        ∃ ρ' u' w', run = .ok u' w' ∧ VR ρ' v u' ∧ Rel B ρ' h' w'.heap ∧ Goes ρ hp w ρ' h' w' := by
      intro old h0 hpc hok hnl hh hv hh'
      obtain ⟨us, g1, g2, g3, g4⟩ := piece_load (P := P) R hg hb hpc
      have hr := hgrow _ _ _ us hsu hnl hok (by rw [hsu]; exact g2 w.drew rfl)
      have hR0 : Rel B ρ h0 w.heap ∧ Goes ρ hp w ρ h0 w := by
        rcases hh with rfl | hd
        · exact ⟨R, Goes.refl _ _ _⟩
        · exact R.delete (w := w) hd hg hb
      obtain ⟨ρ', w', q1, q2, q3, q4⟩ := grow_new (size := size) (need := len + n) (cap := grownCap w (len + n) kk el) (w0 := w.drew) (el := el) (zs := zs) hR0.1 g3 hx g4 ho (by rw [g3.length, g1, hl, ← Nat.add_mul]) hz (grownCap_ge _ _ _ _) rfl rfl rfl rfl
      subst q1; subst hv; subst hh'
      exact ⟨ρ', _, _, hr, q2, q3, hR0.2.trans q4⟩
    obtain ⟨arr, fz, r1, r2, r3, r4⟩ := R.obj b _ _ hg hb
    cases k with
    | exact c0 =>
      have := hke c0 rfl; subst this
      have h2 : bc (Nat.ble (len + n) kk) (bc (Nat.beq n 0) (some (.slice b off (len + n) (.exact kk), hp)) (ob (storeAt hp b (Nat.add off (Nat.mul len size)) xs) fun h' => some (.slice b off (len + n) (.exact kk), h')))
          (ok? (okSize (len + n) bytes) (ob (piece off (Nat.mul len size) cs) fun old => ob (appendL old xs) fun cs => hp.newK (.cells cs el true) fun b h => some (.slice b 0 (len + n) (.grown size), h))) = some (v, h') := by
        have := forceN_some (show forceN (Nat.add len n) (fun need => bc (Nat.ble need kk) (bc (Nat.beq n 0) (some (.slice b off need (.exact kk), hp)) (ob (storeAt hp b (Nat.add off (Nat.mul len size)) xs) fun h' => some (.slice b off need (.exact kk), h')))
          (ok? (okSize need bytes) (ob (piece off (Nat.mul len size) cs) fun old => ob (appendL old xs) fun cs => hp.newK (.cells cs el true) fun b h => some (.slice b 0 need (.grown size), h)))) = some (v, h') from h1)
        exact this
      cases g : Nat.ble (len + n) kk with
      | true =>
        rw [g] at h2
        exact room (.exact kk) _ rfl h2 (Nat.le_of_ble_eq_true g) (.slice _ _ _ _ _ _ hb)
      | false =>
        rw [g] at h2
        obtain ⟨q1, q2⟩ := ok?_some h2
        obtain ⟨old, q3, q4⟩ := ob_some q2
        rw [appendL_eq] at q4
        have q5 : hp.newK (.cells (old ++ xs) el true) (fun b h => some (AVal.slice b 0 (len + n) (.grown size), h)) = some (v, h') := q4
        rw [Hp.newK_eq] at q5
        cases q5
        exact fresh old hp q3 q1 (fun e => by rw [Nat.ble_eq_true_of_le e] at g; cases g) (.inl rfl) rfl rfl
    | grown g0 =>
      obtain ⟨hle, hsz⟩ := hkg g0 rfl
      have hle : len ≤ kk := hle
      have hsz : off + kk * g0 = sz := hsz
      have h2 := forceN_some (show forceN (Nat.add len n) (fun need => ok? (Nat.beq g0 size) (bc (Nat.ble (Nat.add off (Nat.mul need size)) (lenA cs)) (bc (Nat.beq n 0) (some (.slice b off need (.grown g0), hp)) (ob (storeAt hp b (Nat.add off (Nat.mul len size)) xs) fun h' => some (.slice b off need (.grown g0), h')))
          (ok? (andb (okSize need bytes) (andb (Nat.beq off 0) (andb (Nat.beq e' el) rw'))) (ob (piece 0 (Nat.mul len size) cs) fun old => ob (appendL old xs) fun cs => ob (hp.del b) fun h' => h'.newK (.cells cs el true) fun b h => some (.slice b 0 need (.grown size), h))))) = some (v, h') from h1)
      obtain ⟨h3, h4⟩ := ok?_some h2
      have h3 := Nat.eq_of_beq_eq_true h3
      subst h3
      have h4 : bc (Nat.ble (off + (len + n) * g0) (lenA cs)) (bc (Nat.beq n 0) (some (.slice b off (len + n) (.grown g0), hp)) (ob (storeAt hp b (Nat.add off (Nat.mul len g0)) xs) fun h' => some (.slice b off (len + n) (.grown g0), h')))
          (ok? (andb (okSize (len + n) bytes) (andb (Nat.beq off 0) (andb (Nat.beq e' el) rw'))) (ob (piece 0 (Nat.mul len g0) cs) fun old => ob (appendL old xs) fun cs => ob (hp.del b) fun h' => h'.newK (.cells cs el true) fun b h => some (.slice b 0 (len + n) (.grown g0), h))) = some (v, h') := h4
      cases g : Nat.ble (off + (len + n) * g0) (lenA cs) with
      | true =>
        rw [g] at h4
        have := Nat.le_of_ble_eq_true g
        rw [lenA_eq] at this
        have hfit : (len + n) * g0 ≤ kk * g0 := by have := r3.1; simp only at r2; omega
        have hnk : len + n ≤ kk := Nat.le_of_mul_le_mul_right hfit hsize
        exact room (.grown g0) _ rfl h4 hnk (.sliceG _ _ _ _ _ _ _ hb hnk hsz)
      | false =>
        rw [g] at h4
        obtain ⟨q1, q2⟩ := ok?_some h4
        simp only [andb_eq, Bool.and_eq_true] at q1
        obtain ⟨q1a, q1b, q1c, q1d⟩ := q1
        have q1b := Nat.eq_of_beq_eq_true q1b
        have q1c := Nat.eq_of_beq_eq_true q1c
        subst q1b; subst q1c; subst q1d
        obtain ⟨old, q3, q4⟩ := ob_some q2
        rw [appendL_eq] at q4
        obtain ⟨h0, q5, q6⟩ := ob_some (show ob (hp.del b) (fun h' => h'.newK (.cells (old ++ xs) e' true) fun b h => some (AVal.slice b 0 (len + n) (.grown g0), h)) = some (v, h') from q4)
        rw [Hp.newK_eq] at q6
        cases q6
        by_cases hnk : len + n ≤ kk
        · have hfr := r4 rfl
          have hfit : len * g0 + news.length ≤ arr.size := by
            have : (len + n) * g0 ≤ kk * g0 := Nat.mul_le_mul_right _ hnk
            rw [Nat.add_mul] at this
            have e0 := hx.length
            simp only at r2
            omega
          obtain ⟨w', a1, a2, a3, a4, a5, a6, a7, a8⟩ := run_storeCells (P := P) (o := len * g0) news 0 w arr r1 (by omega) hfr (one_of hx ho)
          obtain ⟨b1, b2⟩ := behind_ok r3 (show piece 0 (len * g0) cs = some old from q3) hx ho hfit
          have hdn := (Hp.get_del q5).2.1
          obtain ⟨f1, _⟩ := R.fresh h0.next (by rw [hdn]; exact Nat.le_refl _)
          obtain ⟨c1, c2⟩ := Rel.adopt (w' := w') (o' := .cells (old ++ xs) e' true) R hg rfl hb q5 a2 a3 ⟨_, fz, a4, by rw [b2]; exact r2, b1.ext (Rho.set_ext f1), fun _ => by rw [b2]; exact hfr⟩ a5 a6 a7
          refine ⟨_, _, w', hroom _ _ _ w' hsu hnk (by show (storeCells ((⟨cb, 0, none⟩ : Addr).add (len * g0)) news).run P w = _; rw [addr_add, Nat.zero_add]; exact a1), ?_, c1, c2⟩
          exact .sliceG _ _ _ _ _ _ _ (Rho.set_same _ _ _) hnk hsz
        · exact fresh old h0 q3 q1a hnk (.inr q5) rfl rfl

end
end Go.Am

/- The small machine against the model: the built-in append. -/
namespace Go.Am

section
variable {P : Program} {c : Cx} {ρ : Rho} {ws : Ws} {e : Env} {E : Operand → Value} {l : List Operand}

theorem bAppend_ok (T : Ties P c) {ts : Array TypeId} {ty : TypeId} {ys : List AOpd} {args : List Value} {el : TypeId} {s b : Nat} {p q : AOpd} (hA : ArgsR ρ e ys args) (h : bAppend ts ys c = some (.ef (.append el s b p q))) :
    EfOk P ρ e (vOf (Builtin.append_ ts ty ⟨args⟩)) (fun e h => rE "append" (efAppend el s b p q e h)) := by
  obtain ⟨pq, hp, h1⟩ := ob_some h
  obtain ⟨t, ht, h2⟩ := ob_some h1
  obtain ⟨u, hu0, h3⟩ := ob_some h2
  obtain ⟨d, hd, h4⟩ := ob_some h3
  obtain ⟨el', hel, h5⟩ := ob_some h4
  obtain ⟨s', hs, h6⟩ := ob_some h5
  obtain ⟨b', hb, h7⟩ := ob_some h6
  obtain ⟨ud, hud, h8⟩ := ob_some h7
  obtain ⟨z, hz, h9⟩ := ob_some h8
  obtain ⟨hzl, h10⟩ := ok?_some h9
  have hzl := Nat.eq_of_beq_eq_true hzl
  cases e1 : tdInt ud with
  | some k => rw [e1] at h10; cases h10
  | none =>
    rw [e1] at h10
    have h11 : some (AOp.ef (.append el' s' b' pq.1 pq.2)) = some (.ef (.append el s b p q)) := h10
    cases h11
    have := tdSlice_some hel; subst this
    have := two2_some hp; subst this
    obtain ⟨su, xu, rfl, hU⟩ := hA.two
    have hut := T.und hd
    have huu := T.und hud
    have hint : isIntD ud = false := by cases ud <;> first | rfl | (simp [tdInt] at e1; done)
    obtain ⟨g1, g2⟩ := Ties.size1 hs
    obtain ⟨i, zu, hi, hiz, hzc, hzo⟩ := zero_both (ρ := ρ) T hz
    have hsz : i.size = s := by
      obtain ⟨j, hj, h8⟩ := ob_some g2
      cases h8
      have := T.ty _ _ hj
      rw [hi] at this; cases this; rfl
    have hbz : i.bytes = b := by
      obtain ⟨j, hj, h8⟩ := ob_some hb
      cases h8
      have := T.ty _ _ hj
      rw [hi] at this; cases this; rfl
    have hul : zu.cells.size = s := by rw [← Array.length_toList, ← hzc.length, hzl]
    refine efOk_one fun B hp w R v h' hv => ?_
    obtain ⟨sv, hsv, hv1⟩ := ob_some hv
    obtain ⟨sl, hsl, hv2⟩ := ob_some hv1
    obtain ⟨xv, hxv, hv3⟩ := ob_some hv2
    obtain ⟨n, hn, hv4⟩ := ob_some hv3
    obtain ⟨xs, hxs, hv5⟩ := ob_some hv4
    obtain ⟨hxl, hv6⟩ := ok?_some hv5
    obtain ⟨vv, hh, hv7, hv8⟩ := ob2_some hv6
    cases hv8
    rw [lenIs_eq] at hxl
    simp only [decide_eq_true_eq] at hxl
    obtain ⟨hS, hX⟩ := hU _ _ hsv hxv
    obtain ⟨news, n1, n2, n3, _⟩ := cellsOf_ok (P := P) R hxs hX
    obtain ⟨ρ', u', w', a1, a2, a3, a4⟩ := app_ok (P := P) (run := (Builtin.append_ ts ty ⟨[su, xu]⟩).run P w) (zs := zu.cells) R hsl hS n2 n3 hxl hul g1
      (fun base sLen sCap w' hsu hroom hst => by
        subst hsu
        refine run_app_room ht hu0 hut huu hint hi (lenOfA_ok hn hX w) (by rw [hsz]; exact n1 w rfl) hroom (by rw [hsz]; exact hst))
      (fun base sLen sCap olds hsu hroom hok ho => by
        obtain ⟨o1, o2⟩ := okSize_some hok
        have := run_app_grow (P := P) (ty := ty) (olds := olds) (news := news) ht hu0 hut huu hint hi hiz (lenOfA_ok hn hX w) (by rw [hsz]; exact n1 w.drew rfl) (base := base) (sLen := sLen) (sCap := sCap) (by rw [hsz, ← hsu]; exact ho) hroom o1 (nextslicecap_small hroom o1 (by rw [hbz]; exact o2))
        rw [hsu]
        exact this) hv7
    exact ⟨ρ', .value u', w', vOf_run a1, a2, a3, a4⟩

end
end Go.Am

/- The small machine against the model: clear. -/
namespace Go.Am

section
variable {P : Program} {c : Cx} {ρ : Rho} {ws : Ws} {e : Env} {E : Operand → Value} {l : List Operand}

theorem zeroCells_ok {z : List AVal} {zu : Array Value} (n : Nat) (hz : VRs ρ z zu.toList) (h : 1 ≤ z.length) : VRs ρ (repOf z n) (Builtin.zeroCells zu n).toList := by
  have h1 := rep_ok (ρ := ρ) n hz h
  rw [arr_eta] at h1
  have : (Builtin.zeroCells zu n).toList = ((Array.range (n * zu.toList.length)).map (zu[· % zu.size]!)).toList := by
    unfold Builtin.zeroCells
    rw [Array.length_toList]
  rw [this]; exact h1

theorem bClear_ok (T : Ties P c) {ts : Array TypeId} {ty : TypeId} {ys : List AOpd} {args : List Value} {a : AOp} (hA : ArgsR ρ e ys args) (h : bClear ts ys c = some a) :
    ∃ s z x, a = .ef (.clearSl s z x) ∧ EfOk P ρ e (vOf (Builtin.clear_ ts ty ⟨args⟩)) (fun e h => rE "clear" (efClear s z x e h)) := by
  obtain ⟨y, hy, h1⟩ := ob_some h
  have := one1_some hy; subst this
  obtain ⟨u, rfl, hU⟩ := hA.one
  obtain ⟨t, ht, h2⟩ := ob_some h1
  obtain ⟨d, hd, h3⟩ := ob_some h2
  obtain ⟨el, hel, h4⟩ := ob_some h3
  obtain ⟨s, hs, h5⟩ := ob_some h4
  obtain ⟨z, hz, h6⟩ := ob_some h5
  obtain ⟨hzl, h7⟩ := ok?_some h6
  cases h7
  have := tdSlice_some hel; subst this
  have hu := T.und hd
  obtain ⟨g1, g2⟩ := Ties.size1 hs
  have hzl := Nat.eq_of_beq_eq_true hzl
  obtain ⟨i, zu, hi, hiz, hzc, hzo⟩ := zero_both (ρ := ρ) T hz
  refine ⟨s, z.cells, y, rfl, efOk_one fun B hp w R v h' hv => ?_⟩
  obtain ⟨xv, hxv, hv1⟩ := ob_some hv
  obtain ⟨sl, hsl, hv2⟩ := ob_some hv1
  have hX := hU _ hxv
  have hrun : ∀ (k : Sem Unit) (w' : World), (∀ s : Sem Value, s = (do k; pure (.tuple #[])) → (Builtin.clear_ ts ty ⟨[u]⟩).run P w = s.run P w) → k.run P w = .ok () w' → (vOf (Builtin.clear_ ts ty ⟨[u]⟩)).run P w = .ok (.value (.tuple ⟨[]⟩)) w' := by
    intro k w' hk hw'
    refine vOf_run ?_
    rw [hk _ rfl]
    exact (run_ok hw').trans rfl
  cases sl with
  | none =>
    cases hv2
    have := asSlice_nil hsl; subst this
    have hu0 := vr_slice0 hX
    subst hu0
    refine ⟨ρ, .value (.tuple ⟨[]⟩), w, hrun (pure ()) w (fun s hs => ?_) rfl, .tup _ _ .nil, R, Goes.refl _ _ _⟩
    subst hs
    unfold Builtin.clear_
    simp only [ht, show (⟨[Value.slice none 0 0]⟩ : Array Value)[0]? = some (.slice none 0 0) from rfl]
    rw [run_ok (run_underlying hu w)]; rfl
  | some sl =>
    obtain ⟨b, off, len, k⟩ := sl
    have := asSlice_some hsl; subst this
    obtain ⟨cb, sz, kk, hsu, hb, _⟩ := vr_slice hX
    have hsu : u = .slice (some ⟨cb, off, none⟩) len kk := hsu
    subst hsu
    have hv3 : (bif Nat.beq len 0 then some (some (AVal.tup []), hp) else ob (storeAt hp b off (repOf z.cells len)) fun h' => some (some (AVal.tup []), h')) = some (v, h') := hv2
    cases len with
    | zero =>
      cases hv3
      refine ⟨ρ, .value (.tuple ⟨[]⟩), w, hrun (pure ()) w (fun s hs => ?_) rfl, .tup _ _ .nil, R, Goes.refl _ _ _⟩
      subst hs
      unfold Builtin.clear_
      simp only [ht, show (⟨[Value.slice (some ⟨cb, off, none⟩) 0 kk]⟩ : Array Value)[0]? = some (.slice (some ⟨cb, off, none⟩) 0 kk) from rfl]
      rw [run_ok (run_underlying hu w)]; rfl
    | succ m =>
      obtain ⟨h'', hst, hv4⟩ := ob_some (show ob (storeAt hp b off (repOf z.cells (m + 1))) (fun h' => some (some (AVal.tup []), h')) = some (v, h') from hv3)
      cases hv4
      obtain ⟨w', a1, a2, a3, a4⟩ := storeAt_ok (P := P) hst R hb (zeroCells_ok (m + 1) hzc (by omega)) (rep_one hzo (m + 1))
      refine ⟨ρ, .value (.tuple ⟨[]⟩), w', hrun (zeroValue el >>= fun z => storeCells ⟨cb, off, none⟩ (Builtin.zeroCells z.cells (m + 1)).toList) w' (fun s hs => ?_) ?_, .tup _ _ .nil, a2, a3⟩
      · subst hs
        unfold Builtin.clear_
        simp only [ht, show (⟨[Value.slice (some ⟨cb, off, none⟩) (m + 1) kk]⟩ : Array Value)[0]? = some (.slice (some ⟨cb, off, none⟩) (m + 1) kk) from rfl]
        rw [run_ok (run_underlying hu w)]
        show (zeroValue el >>= fun z => storeCells ⟨cb, off, none⟩ (Builtin.zeroCells z.cells (m + 1)).toList >>= fun _ => pure (Value.tuple #[])).run P w = _
        rw [run_ok (run_zero hi hiz w), run_ok a1, run_ok (show (zeroValue el >>= fun z => storeCells ⟨cb, off, none⟩ (Builtin.zeroCells z.cells (m + 1)).toList).run P w = .ok () w' from (run_ok (run_zero hi hiz w)).trans a1)]
      · exact (run_ok (run_zero hi hiz w)).trans a1

end
end Go.Am

/- The small machine against the model: a block that is given up and changed. -/
namespace Go.Am

section
variable {P : Program} {c : Cx} {ρ : Rho} {ws : Ws} {e : Env} {E : Operand → Value} {l : List Operand}

/-- A block is given up; the world's is changed. -/
theorem Rel.drop {B : Base} {b cb n : Nat} {h h1 : Hp} {w w' : World} {o : AObj} (R : Rel B ρ h w.heap) (hg : h.get b = some o) (hwr : o.wr = true) (hb : ρ b = some (cb, n)) (hd : h.del b = some h1)
    (hs : w'.heap.size = w.heap.size) (hk : ∀ k, k ≠ cb → w'.heap[k]? = w.heap[k]?) (os : w'.os = w.os) (tape : w'.tape = w.tape) (output : w'.output = w.output) :
    Rel B ρ h1 w'.heap ∧ Goes ρ h w ρ h1 w' := by
  obtain ⟨R1, G1⟩ := R.delete (w := w) hd hg hb
  obtain ⟨hro, hn, hr, hget⟩ := Hp.get_del hd
  have hnot : ∀ c q p, h1.get c = some q → ρ c = some p → p.1 ≠ cb := by
    intro c q p h2 h3 h4
    rw [hget] at h2
    by_cases e : c = b
    · rw [if_pos e] at h2; cases h2
    · rw [if_neg e] at h2
      exact e (R.inj c b q o p (cb, n) h2 hg h3 hb h4)
  refine ⟨⟨fun c q p h2 h3 => (R1.obj c q p h2 h3).at (hk _ (hnot c q p h2 h3)), R1.base, R1.inj, R1.fresh, fun c p h2 => by rw [hs]; exact R1.dom c p h2, by rw [hs]; exact R1.low, R1.roLe, fun k hk' => by rw [hk k (fun e => by have := R.base b o _ hg hb hwr; simp only at this; omega)]; exact R.kept k hk', R1.nw⟩,
    ⟨G1.ext, G1.old, G1.next, G1.ro, G1.roKept, G1.img, by rw [hs]; exact Nat.le_refl _, fun k _ hno => hk k (fun e => hno b o (cb, n) hg hwr hb e.symm), os, tape, output, G1.dead⟩⟩

end
end Go.Am

/- The small machine against the model: append of a make. -/
namespace Go.Am

section
variable {P : Program} {c : Cx} {ρ : Rho} {ws : Ws} {e : Env} {E : Operand → Value} {l : List Operand}

/-- append of new zeros, where there is room. -/
theorem run_appz_room {ts : Array TypeId} {t ty u el : TypeId} {ik ik' : IntKind} {i : TypeInfo} {z : Value} {base : Option Addr} {sLen sCap n : Nat} {w w' : World}
    (h0 : ts[0]? = some t) (h1 : ts[1]? = some u) (ht : P.underlying t = some (.slice el)) (hu : P.underlying u = some (.int ik)) (hi : P.info? el = some i) (hz : i.zero = some z) (h1s : 1 ≤ i.size)
    (hn : n ≤ 1048576) (hb : i.bytes ≤ 4096) (hroom : sLen + n ≤ sCap)
    (hst : ((match base with | some a => storeCells (a.add (sLen * i.size)) (Builtin.zeroCells z.cells n).toList | none => pure ()) : Sem Unit).run P w = .ok () w') :
    (Builtin.append_ ts ty ⟨[.slice base sLen sCap, .int ik' (n : Int)]⟩).run P w = .ok (.slice base (sLen + n) sCap) w' := by
  have hw : IntKind.i64.wrap (n : Int) = (n : Int) := wrap_lim (k := .i64) (show n < lim .i64 by simp only [lim]; omega)
  have hmul := mul_small hb hn
  unfold Builtin.append_
  simp only [h0, h1, show (⟨[Value.slice base sLen sCap, Value.int ik' (n : Int)]⟩ : Array Value)[0]? = some (.slice base sLen sCap) from rfl, show (⟨[Value.slice base sLen sCap, Value.int ik' (n : Int)]⟩ : Array Value)[1]? = some (.int ik' (n : Int)) from rfl]
  rw [run_ok (run_underlying ht w)]
  simp only
  rw [run_ok (run_size hi w)]
  rw [run_ok (run_underlying hu w)]
  rw [run_ok (run_pure P true w)]
  simp only [if_true]
  rw [run_ok (show (Go.asInt (.int ik' (n : Int))).run P w = .ok (n : Int) w from rfl)]
  simp only [hw]
  rw [if_neg (by omega)]
  rw [run_ok (run_info hi w), if_neg (by rw [Int.mul_comm]; omega)]
  rw [run_ok (run_pure P (n : Int).toNat w), Int.toNat_natCast]
  simp only [if_pos hroom, Bool.not_true, Bool.false_eq_true, if_false]
  have hz0 : n = 0 → Builtin.zeroCells z.cells n = #[] := by intro h; subst h; simp [Builtin.zeroCells]
  by_cases h : n * i.size = 0
  · have hn0 : n = 0 := by rcases Nat.mul_eq_zero.1 h with h | h <;> omega
    rw [if_pos h, run_ok (run_pure P (#[] : Array Value) w)]
    rw [hz0 hn0] at hst
    cases base with
    | none => cases hst; rfl
    | some a => exact (run_ok hst).trans rfl
  · rw [if_neg h]
    refine (run_ok (show ((do pure (Builtin.zeroCells (← zeroValue el).cells n)) : Sem (Array Value)).run P w = .ok (Builtin.zeroCells z.cells n) w from (run_ok (run_zero hi hz w)).trans rfl)).trans ?_
    cases base with
    | none => cases hst; rfl
    | some a => exact (run_ok hst).trans rfl

/-- append of new zeros, where there is no room. -/
theorem run_appz_grow {ts : Array TypeId} {t ty u el : TypeId} {ik ik' : IntKind} {i : TypeInfo} {z : Value} {base : Option Addr} {sLen sCap n : Nat} {olds : List Value} {w : World}
    (h0 : ts[0]? = some t) (h1 : ts[1]? = some u) (ht : P.underlying t = some (.slice el)) (hu : P.underlying u = some (.int ik)) (hi : P.info? el = some i) (hz : i.zero = some z) (h1s : 1 ≤ i.size)
    (hn : n ≤ 1048576) (hb : i.bytes ≤ 4096) (hroom : ¬ sLen + n ≤ sCap) (hneed : sLen + n ≤ 1048576) (hfit : ¬ Builtin.nextslicecap (sLen + n) sCap * i.bytes > 2 ^ 48)
    (ho : (Builtin.firstCells i.size sLen (.slice base sLen sCap)).run P w.drew = .ok ⟨olds⟩ w.drew) :
    (Builtin.append_ ts ty ⟨[.slice base sLen sCap, .int ik' (n : Int)]⟩).run P w = .ok (.slice (some ⟨w.heap.size, 0, none⟩) (sLen + n) (grownCap w (sLen + n) sCap el))
      (w.drew.alloc (.cells ((⟨olds⟩ : Array Value) ++ ⟨(Builtin.zeroCells z.cells n).toList⟩ ++ Builtin.zeroCells z.cells (grownCap w (sLen + n) sCap el - (sLen + n))) el)) := by
  have hw : IntKind.i64.wrap (n : Int) = (n : Int) := wrap_lim (k := .i64) (show n < lim .i64 by simp only [lim]; omega)
  have hmul := mul_small hb hn
  unfold Builtin.append_
  simp only [h0, h1, show (⟨[Value.slice base sLen sCap, Value.int ik' (n : Int)]⟩ : Array Value)[0]? = some (.slice base sLen sCap) from rfl, show (⟨[Value.slice base sLen sCap, Value.int ik' (n : Int)]⟩ : Array Value)[1]? = some (.int ik' (n : Int)) from rfl]
  rw [run_ok (run_underlying ht w)]
  simp only
  rw [run_ok (run_size hi w)]
  rw [run_ok (run_underlying hu w)]
  rw [run_ok (run_pure P true w)]
  simp only [if_true]
  rw [run_ok (show (Go.asInt (.int ik' (n : Int))).run P w = .ok (n : Int) w from rfl)]
  simp only [hw]
  rw [if_neg (by omega)]
  rw [run_ok (run_info hi w), if_neg (by rw [Int.mul_comm]; omega)]
  rw [run_ok (run_pure P (n : Int).toNat w), Int.toNat_natCast]
  simp only [if_neg hroom, Bool.not_true, Bool.false_eq_true, if_false]
  rw [run_ok (run_info hi w)]
  rw [if_neg (fun h => absurd h.1 (by simp only [IntKind.max, IntKind.signed, IntKind.bits]; omega))]
  rw [run_ok (run_info hi w)]
  rw [if_neg hfit]
  rw [run_ok (show (choose (.appendCap (sLen + n) sCap el)).run P w = .ok (grownCap w (sLen + n) sCap el) w.drew from rfl)]
  rw [run_ok (run_info hi w.drew)]
  have hroomask : ∀ k, (askRoom k).run P w.drew = .ok () w.drew := by intro k; unfold askRoom; split <;> rfl
  rw [run_ok (hroomask _), run_ok ho]
  have hz0 : n = 0 → Builtin.zeroCells z.cells n = #[] := by intro h; subst h; simp [Builtin.zeroCells]
  by_cases h : n * i.size = 0
  · have hn0 : n = 0 := by rcases Nat.mul_eq_zero.1 h with h | h <;> omega
    rw [if_pos h, run_ok (run_pure P (#[] : Array Value) w.drew), run_ok (run_zero hi hz w.drew), hz0 hn0]
    rfl
  · rw [if_neg h]
    refine (run_ok (show ((do pure (Builtin.zeroCells (← zeroValue el).cells n)) : Sem (Array Value)).run P w.drew = .ok (Builtin.zeroCells z.cells n) w.drew from (run_ok (run_zero hi hz w.drew)).trans rfl)).trans ?_
    rw [run_ok (run_zero hi hz w.drew)]
    rfl

end
end Go.Am

/- The small machine against the model: append of a make. -/
namespace Go.Am

section
variable {P : Program} {c : Cx} {ρ : Rho} {ws : Ws} {e : Env} {E : Operand → Value} {l : List Operand}

theorem bAppendZeros_ok (T : Ties P c) {ts : Array TypeId} {ty : TypeId} {ys : List AOpd} {args : List Value} {el : TypeId} {s b : Nat} {zl : List AVal} {p q : AOpd} (hA : ArgsR ρ e ys args) (h : bAppend ts ys c = some (.ef (.appendZeros el s b zl p q))) :
    EfOk P ρ e (vOf (Builtin.append_ ts ty ⟨args⟩)) (fun e h => rE "append of make" (efAppendZeros el s b zl p q e h)) := by
  obtain ⟨pq, hp, h1⟩ := ob_some h
  obtain ⟨t, ht, h2⟩ := ob_some h1
  obtain ⟨u, hu0, h3⟩ := ob_some h2
  obtain ⟨d, hd, h4⟩ := ob_some h3
  obtain ⟨el', hel, h5⟩ := ob_some h4
  obtain ⟨s', hs, h6⟩ := ob_some h5
  obtain ⟨b', hb, h7⟩ := ob_some h6
  obtain ⟨ud, hud, h8⟩ := ob_some h7
  obtain ⟨z, hz, h9⟩ := ob_some h8
  obtain ⟨hzl, h10⟩ := ok?_some h9
  have hzl := Nat.eq_of_beq_eq_true hzl
  cases e1 : tdInt ud with
  | none => rw [e1] at h10; cases h10
  | some ik =>
    rw [e1] at h10
    have h11 : some (AOp.ef (.appendZeros el' s' b' z.cells pq.1 pq.2)) = some (.ef (.appendZeros el s b zl p q)) := h10
    cases h11
    have := tdSlice_some hel; subst this
    have := tdInt_some e1; subst this
    have := two2_some hp; subst this
    obtain ⟨su, xu, rfl, hU⟩ := hA.two
    have hut := T.und hd
    have huu := T.und hud
    obtain ⟨g1, g2⟩ := Ties.size1 hs
    obtain ⟨i, zu, hi, hiz, hzc, hzo⟩ := zero_both (ρ := ρ) T hz
    have hsz : i.size = s := by
      obtain ⟨j, hj, h8⟩ := ob_some g2
      cases h8
      have := T.ty _ _ hj
      rw [hi] at this; cases this; rfl
    have hbz : i.bytes = b := by
      obtain ⟨j, hj, h8⟩ := ob_some hb
      cases h8
      have := T.ty _ _ hj
      rw [hi] at this; cases this; rfl
    have hul : zu.cells.size = s := by rw [← Array.length_toList, ← hzc.length, hzl]
    refine efOk_one fun B hp w R v h' hv => ?_
    obtain ⟨sv, hsv, hv1⟩ := ob_some hv
    obtain ⟨sl, hsl, hv2⟩ := ob_some hv1
    obtain ⟨xv, hxv, hv3⟩ := ob_some hv2
    obtain ⟨n, hn, hv4⟩ := ob_some hv3
    obtain ⟨hok, hv5⟩ := ok?_some hv4
    rw [forceN_eq] at hv5
    obtain ⟨vv, hh, hv7, hv8⟩ := ob2_some hv5
    cases hv8
    obtain ⟨k1, k2⟩ := okSize_some hok
    obtain ⟨hS, hX⟩ := hU _ _ hsv hxv
    obtain ⟨ik', rfl⟩ := asNat_some hn
    have hxu := vr_int hX
    subst hxu
    obtain ⟨ρ', u', w', a1, a2, a3, a4⟩ := app_ok (P := P) (run := (Builtin.append_ ts ty ⟨[su, .int ik' (n : Int)]⟩).run P w) (zs := zu.cells) R hsl hS (zeroCells_ok n hzc (by omega)) (rep_one hzo n) (by rw [repOf_length, hzl]) hul g1
      (fun base sLen sCap w' hsu hroom hst => by
        subst hsu
        exact run_appz_room ht hu0 hut huu hi hiz (by omega) k1 (by rw [hbz]; exact k2) hroom (by rw [hsz]; exact hst))
      (fun base sLen sCap olds hsu hroom hok ho => by
        obtain ⟨o1, o2⟩ := okSize_some hok
        subst hsu
        exact run_appz_grow (P := P) (ty := ty) (olds := olds) ht hu0 hut huu hi hiz (by omega) k1 (by rw [hbz]; exact k2) hroom o1 (nextslicecap_small hroom o1 (by rw [hbz]; exact o2)) (by rw [hsz]; exact ho)) hv7
    exact ⟨ρ', .value u', w', vOf_run a1, a2, a3, a4⟩

end
end Go.Am

/- The small machine against the model: texts that share bytes. -/
namespace Go.Am

section
variable {P : Program} {c : Cx} {ρ : Rho} {ws : Ws} {e : Env} {E : Operand → Value} {l : List Operand}

/-- So many bytes stand there. -/
theorem liesAt_row {t : TypeId} {i : TypeInfo} (hi : P.info? t = some i) (h1 : i.size = 1) {o n m : Nat} (hn : o + n ≤ m) : liesAt P P.depth t (m / P.cellsOf t) o t n = true := by
  have hd : ∃ d, P.depth = d + 1 := ⟨2 * (P.types.size + Made.depth) + 1, rfl⟩
  obtain ⟨d, hd⟩ := hd
  have hc : P.cellsOf t = 1 := by unfold Program.cellsOf; rw [hi]; exact h1
  have hsame : sameLayout P P.depth t t = true := by rw [hd]; unfold sameLayout; simp
  have key : ∀ d, Go.rowAt P (sameLayout P P.depth · t) (d + 1) t (m / P.cellsOf t) o n = true := by
    intro d
    unfold Go.rowAt
    rw [hc]
    simp only [Nat.one_ne_zero, if_false, Nat.div_one, Nat.mod_one, hsame]
    simp [hn]
  have hrow : Go.rowAt P (sameLayout P P.depth · t) P.depth t (m / P.cellsOf t) o n = true := by
    rw [hd] at key ⊢; exact key d
  have hgo : ∀ d, liesAt P (d + 1) t (m / P.cellsOf t) o t n = true := by
    intro d
    unfold liesAt
    rw [hrow]; rfl
  rw [hd]; exact hgo d

theorem run_loadBytes {w : World} {cb : Nat} : ∀ (s : List Nat) (o : Nat) (acc : ByteArray), (∀ n ∈ s, n < 256) → (∀ (j n : Nat), s[j]? = some n → w.cell? ⟨cb, o + j, none⟩ = some (.int .u8 (n : Int))) →
    ∃ b, (loadBytes ⟨cb, o, none⟩ acc s.length).run P w = .ok b w ∧ nums b = nums acc ++ s := by
  intro s
  induction s with
  | nil => intro o acc _ _; exact ⟨acc, rfl, by simp⟩
  | cons n s ih =>
    intro o acc h1 h2
    have hc := h2 0 n rfl
    obtain ⟨b, g1, g2⟩ := ih (o + 1) (acc.push (n : Int).toNat.toUInt8) (fun m hm => h1 m (by simp [hm])) (fun j m hj => by
      have := h2 (j + 1) m (by simpa using hj)
      rw [show o + 1 + j = o + (j + 1) from by omega]; exact this)
    refine ⟨b, ?_, ?_⟩
    · show (Go.load ⟨cb, o, none⟩ >>= _).run P w = _
      refine (run_ok (run_load hc)).trans ?_
      simp only
      rw [addr_add]
      exact g1
    · rw [g2]
      have hn := h1 n (by simp)
      have : nums (acc.push (n : Int).toNat.toUInt8) = nums acc ++ [n] := by
        unfold nums
        rw [show (acc.push (n : Int).toNat.toUInt8).data = acc.data.push (n : Int).toNat.toUInt8 from rfl]
        simp only [Array.toList_push, List.map_append, List.map_cons, List.map_nil, Int.toNat_natCast]
        congr 2
        simp [Nat.toUInt8]
        omega
      rw [this]; simp

end
end Go.Am

/- The small machine against the model: texts that share bytes. -/
namespace Go.Am

section
variable {P : Program} {c : Cx} {ρ : Rho} {ws : Ws} {e : Env} {E : Operand → Value} {l : List Operand}

theorem freeze_at (w : World) (a : Addr) (n : Nat) : (w.freeze a n).heap.size = w.heap.size ∧ (∀ k, k ≠ a.block → (w.freeze a n).heap[k]? = w.heap[k]?) ∧ (w.freeze a n).os = w.os ∧ (w.freeze a n).tape = w.tape ∧ (w.freeze a n).output = w.output := by
  unfold World.freeze
  by_cases h : n = 0
  · rw [if_pos h]; exact ⟨rfl, fun _ _ => rfl, rfl, rfl, rfl⟩
  · rw [if_neg h]; exact ⟨by simp, fun k hk => by simp [Array.getElem?_modify, Ne.symm hk], rfl, rfl, rfl⟩

/-- The model's unsafe.String of bytes that stand there. -/
theorem run_unsafeString {ts : Array TypeId} {t ty el : TypeId} {i : TypeInfo} {k : IntKind} {cb o : Nat} {s : List Nat} {arr : Array Value} {fz : Nat × Nat} {w : World} (ht : ts[0]? = some t) (hu : P.underlying t = some (.pointer el)) (hi : P.info? el = some i) (h1 : i.size = 1)
    (hw : w.heap[cb]? = some (.cells arr el fz)) (hle : o + s.length ≤ arr.size) (hn : s.length ≤ 1048576) (hne : s.length ≠ 0) (hb : ∀ n ∈ s, n < 256) (hs : ∀ (j n : Nat), s[j]? = some n → w.cell? ⟨cb, o + j, none⟩ = some (.int .u8 (n : Int))) :
    ∃ b, (Builtin.unsafeString_ ts ty ⟨[.pointer (some ⟨cb, o, none⟩), .int k (s.length : Int)]⟩).run P w = .ok (.string b) (w.freeze ⟨cb, o, none⟩ s.length) ∧ nums b = s := by
  obtain ⟨b, g1, g2⟩ := run_loadBytes (P := P) s o .empty hb hs
  refine ⟨b, ?_, by rw [g2]; rfl⟩
  have hsh : (Go.shape cb).run P w = .ok (some (el, arr.size)) w := by unfold Go.shape; simp only [Sem.run, World.shape?, hw]
  have hv : (variablesAt ⟨cb, o, none⟩ el s.length).run P w = .ok true w := by
    unfold variablesAt
    rw [run_ok (run_program P w)]
    refine (run_ok hsh).trans ?_
    simp only
    rw [liesAt_row hi h1 hle]; rfl
  have hel : (elemOf t).run P w = .ok el w := by unfold elemOf; exact (run_ok (run_underlying hu w)).trans rfl
  unfold Builtin.unsafeString_
  refine (run_ok (show (Go.asInt (.int k (s.length : Int))).run P w = .ok (s.length : Int) w from rfl)).trans ?_
  rw [ht]
  show (if (s.length : Int) < 0 then _ else if (s.length : Int) > IntKind.i64.max then _ else _ : Sem Value).run P w = _
  rw [if_neg (by omega), if_neg (by simp only [IntKind.max, IntKind.signed, IntKind.bits]; omega)]
  show (if (s.length : Int) = 0 then _ else _ : Sem Value).run P w = _
  rw [if_neg (by omega), run_ok hel, Int.toNat_natCast]
  refine (run_ok hv).trans ?_
  simp only [if_true]
  refine (run_ok g1).trans ?_
  rfl

end
end Go.Am

/- The small machine against the model: texts that share bytes. -/
namespace Go.Am

section
variable {P : Program} {c : Cx} {ρ : Rho} {ws : Ws} {e : Env} {E : Operand → Value} {l : List Operand}

theorem bUnsafeString_ok (T : Ties P c) {ts : Array TypeId} {ty : TypeId} {ys : List AOpd} {args : List Value} {a : AOp} (hA : ArgsR ρ e ys args) (h : bUnsafeString ts ys c = some a) :
    ∃ t x n, a = .ef (.unsafeStr t x n) ∧ EfOk P ρ e (vOf (Builtin.unsafeString_ ts ty ⟨args⟩)) (fun e h => rE "a text of bytes" (efUnsafeStr t x n e h)) := by
  obtain ⟨p, hp, h1⟩ := ob_some h
  obtain ⟨t, ht, h2⟩ := ob_some h1
  obtain ⟨d, hd, h3⟩ := ob_some h2
  obtain ⟨el, hel, h4⟩ := ob_some h3
  obtain ⟨s, hs, h5⟩ := ob_some h4
  obtain ⟨h6, h7⟩ := ok?_some h5
  cases h7
  simp only [Bool.and_eq_true] at h6
  have hs1 := Nat.eq_of_beq_eq_true h6.2
  subst hs1
  have := tdPtr_some hel; subst this
  have := two2_some hp; subst this
  obtain ⟨u, u', rfl, hU⟩ := hA.two
  have hu := T.und hd
  obtain ⟨i, hi, h8⟩ := ob_some hs
  have hi1 : i.size = 1 := by simpa using h8
  refine ⟨el, p.1, p.2, rfl, efOk_one fun B hp w R v h' hv => ?_⟩
  obtain ⟨xv, hxv, hv1⟩ := ob_some hv
  obtain ⟨nv, hnv, hv2⟩ := ob_some hv1
  obtain ⟨n, hn, hv3⟩ := ob_some hv2
  obtain ⟨hX, hN⟩ := hU _ _ hxv hnv
  obtain ⟨k, rfl⟩ := asNat_some hn
  have := vr_int hN; subst this
  cases g : Nat.beq n 0 with
  | true =>
    have hv3 : (bif Nat.beq n 0 then (ob (ptrEq xv xv) fun _ => some (some (AVal.str []), hp)) else _) = some (v, h') := hv3
    rw [g] at hv3
    obtain ⟨r, hr, hv4⟩ := ob_some (show ob (ptrEq xv xv) (fun _ => some (some (AVal.str []), hp)) = some (v, h') from hv3)
    cases hv4
    have g0 := Nat.eq_of_beq_eq_true g
    subst g0
    refine ⟨ρ, .value (.string .empty), w, vOf_run ?_, .str _ _ rfl, R, Goes.refl _ _ _⟩
    have hp0 : ∃ q : Option Addr, u = .pointer q := by
      rcases ptrEq_some hr with ⟨rfl, _, _⟩ | ⟨b, o, rfl, h2, _⟩ | ⟨b, o, rfl, h2, _⟩ | ⟨b, o, q, rfl, _, _⟩
      · cases hX; exact ⟨_, rfl⟩
      · cases h2
      · cases h2
      · cases hX; exact ⟨_, rfl⟩
    obtain ⟨q, rfl⟩ := hp0
    unfold Builtin.unsafeString_
    refine (run_ok (show (Go.asInt (.int k ((0 : Nat) : Int))).run P w = .ok 0 w from rfl)).trans ?_
    rw [ht]
    cases q <;> rfl
  | false =>
    have hv3 : (bif Nat.beq n 0 then (ob (ptrEq xv xv) fun _ => some (some (AVal.str []), hp)) else
      ob2 (asPtr xv) fun b o => ob2 (rowAt hp b) fun cs er => on2 er fun e rw => ok? (andb (Nat.beq e el) (andb (Nat.ble n 1048576) rw)) (ob (piece o n cs) fun cs => ob (bytesOfCells cs) fun s => ob (hp.del b) fun h' => some (some (AVal.str s), h'))) = some (v, h') := hv3
    rw [g] at hv3
    obtain ⟨b, o, hpt, hv4⟩ := ob2_some (show ob2 (asPtr xv) (fun b o => ob2 (rowAt hp b) fun cs er => on2 er fun e rw => ok? (andb (Nat.beq e el) (andb (Nat.ble n 1048576) rw)) (ob (piece o n cs) fun cs => ob (bytesOfCells cs) fun s => ob (hp.del b) fun h' => some (some (AVal.str s), h'))) = some (v, h') from hv3)
    obtain ⟨cs, er, hrow, hv5⟩ := ob2_some hv4
    obtain ⟨el', rw'⟩ := er
    obtain ⟨hc, hv6⟩ := ok?_some (show ok? (andb (Nat.beq el' el) (andb (Nat.ble n 1048576) rw')) (ob (piece o n cs) fun cs => ob (bytesOfCells cs) fun s => ob (hp.del b) fun h' => some (some (AVal.str s), h')) = some (v, h') from hv5)
    obtain ⟨pc, hpc, hv7⟩ := ob_some hv6
    obtain ⟨s, hs', hv8⟩ := ob_some hv7
    obtain ⟨h0, hd0, hv9⟩ := ob_some hv8
    cases hv9
    simp only [andb_eq, Bool.and_eq_true] at hc
    obtain ⟨c1, c2, c3⟩ := hc
    have c1 := Nat.eq_of_beq_eq_true c1
    subst c1; subst c3
    have := asPtr_some hpt; subst this
    obtain ⟨cb, sz, hXe, hb⟩ := vr_ptr hX
    subst hXe
    have hg := rowAt_some hrow
    obtain ⟨arr, fz, r1, r2, r3, r4⟩ := R.obj b _ _ hg hb
    obtain ⟨q1, q2⟩ := bytesOf_some hs'
    subst q1
    obtain ⟨_, p2, p3⟩ := piece_some hpc
    have hsl : s.length = n := by
      have := congrArg List.length p2
      simp only [byteCells, List.length_map, List.length_take, List.length_drop] at this p3
      omega
    have hne : ¬ n = 0 := fun e0 => by subst e0; cases g
    have hcell : ∀ (j m : Nat), s[j]? = some m → w.cell? ⟨cb, o + j, none⟩ = some (.int .u8 (m : Int)) := by
      intro j m hj
      have hjn : j < n := by rw [← hsl]; exact (List.getElem?_eq_some_iff.1 hj).1
      have hx : (byteCells s)[j]? = some (.int .u8 (m : Int)) := by
        unfold byteCells; rw [List.getElem?_map, hj]; rfl
      rw [p2, List.getElem?_take_of_lt hjn, List.getElem?_drop] at hx
      obtain ⟨_, x, hxa, hxr⟩ := r3.2 _ _ hx
      rw [cell_of r1, hxa, vr_int hxr]
    have hle : o + s.length ≤ arr.size := by
      have := r3.1
      simp only [List.length_drop] at p3
      omega
    obtain ⟨bb, z1, z2⟩ := run_unsafeString (P := P) (ty := ty) (k := k) ht hu (T.ty _ _ hi) hi1 r1 hle (by rw [hsl]; exact Nat.le_of_ble_eq_true c2) (by rw [hsl]; exact hne) q2 hcell
    rw [hsl] at z1
    obtain ⟨f1, f2, f3, f4, f5⟩ := freeze_at w ⟨cb, o, none⟩ n
    obtain ⟨a1, a2⟩ := R.drop (w := w) (w' := w.freeze ⟨cb, o, none⟩ n) hg rfl hb hd0 f1 f2 f3 f4 f5
    exact ⟨ρ, .value (.string bb), _, vOf_run z1, .str _ _ z2, a1, a2⟩

end
end Go.Am

end
