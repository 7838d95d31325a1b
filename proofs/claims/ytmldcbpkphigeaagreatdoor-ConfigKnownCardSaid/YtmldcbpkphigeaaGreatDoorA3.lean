/- The small machine against the model: operations (2). (Part of the proof of a statement about the given program; no condition.) -/
import Derived.Test.YtmldcbpkphigeaaGreatDoorA2
import Derived.Laws.Cells
import Derived.Laws.BytesString
import Derived.Laws.LoneSync
set_option linter.unusedVariables false
set_option linter.unusedSimpArgs false
noncomputable section
/- The small machine against the model: lengths; reading cells. -/
namespace Go.Am

section
variable {P : Program} {c : Cx} {ρ : Rho} {ws : Ws} {e : Env} {E : Operand → Value} {l : List Operand}

/-! ### A call's arguments -/

/-- The arguments of a call. -/
def ArgsR (ρ : Rho) (e : Env) (ys : List AOpd) (args : List Value) : Prop := args.length = ys.length ∧ ∀ vs, evs ys e = some vs → VRs ρ vs args

theorem opds_length : ∀ {xs : List Operand} {ys : List AOpd}, opds ws xs = some ys → ys.length = xs.length := by
  intro xs
  induction xs with
  | nil => intro ys h; cases h; rfl
  | cons x xs ih =>
    intro ys h
    obtain ⟨y, hy, h1⟩ := ob_some h
    obtain ⟨ys', hys, h2⟩ := ob_some h1
    cases h2
    simp [ih hys]

theorem EvR.args (hE : EvR ρ ws e E l) {xs : List Operand} {ys : List AOpd} (hm : ∀ x ∈ xs, x ∈ l) (h : opds ws xs = some ys) : ArgsR ρ e ys (xs.map E) :=
  ⟨by rw [opds_length h]; simp, fun _ hv => hE.list hm h hv⟩

theorem one1_some {ys : List AOpd} {y : AOpd} (h : one1 ys = some y) : ys = [y] := by
  unfold one1 at h
  split at h
  · cases h; rfl
  · cases h
theorem two2_some {ys : List AOpd} {p : AOpd × AOpd} (h : two2 ys = some p) : ys = [p.1, p.2] := by
  unfold two2 at h
  split at h
  · cases h; rfl
  · cases h

theorem ArgsR.one {y : AOpd} {args : List Value} (h : ArgsR ρ e [y] args) : ∃ u, args = [u] ∧ ∀ v, y.ev e = some v → VR ρ v u := by
  obtain ⟨h1, h2⟩ := h
  match args, h1 with
  | [u], _ =>
    refine ⟨u, rfl, fun v hv => ?_⟩
    have := h2 [v] (by show ob (y.ev e) (fun v => ob (evs [] e) fun vs => some (v :: vs)) = _; rw [hv]; rfl)
    cases this; assumption

theorem ArgsR.two {y z : AOpd} {args : List Value} (h : ArgsR ρ e [y, z] args) : ∃ u u', args = [u, u'] ∧ ∀ v v', y.ev e = some v → z.ev e = some v' → VR ρ v u ∧ VR ρ v' u' := by
  obtain ⟨h1, h2⟩ := h
  match args, h1 with
  | [u, u'], _ =>
    refine ⟨u, u', rfl, fun v v' hv hv' => ?_⟩
    have := h2 [v, v'] (by show ob (y.ev e) (fun v => ob (ob (z.ev e) (fun v => ob (evs [] e) fun vs => some (v :: vs))) fun vs => some (v :: vs)) = _; rw [hv, hv']; rfl)
    cases this with | cons _ _ _ _ a b => cases b with | cons _ _ _ _ b _ => exact ⟨a, b⟩

/-! ### Blocks -/

theorem rowAt_some {h : Hp} {b : Nat} {cs : List AVal} {t : TypeId} {rw : Bool} (hr : rowAt h b = some (cs, t, rw)) : h.get b = some (.cells cs t rw) := by
  obtain ⟨o, ho, h1⟩ := ob_some hr
  cases o <;> cases h1
  exact ho
theorem mapAt_some {h : Hp} {b : Nat} {es : List AEnt} {k : Nat} (hr : mapAt h b = some (es, k)) : h.get b = some (.map es k) := by
  obtain ⟨o, ho, h1⟩ := ob_some hr
  cases o <;> cases h1
  exact ho
theorem iterStr_some {h : Hp} {b : Nat} {s : List Nat} {k : Nat} (hr : iterStr h b = some (s, k)) : h.get b = some (.sIter s k) := by
  obtain ⟨o, ho, h1⟩ := ob_some hr
  cases o <;> cases h1
  exact ho
theorem iterAt_some {h : Hp} {b : Nat} {m : Option Nat} {s t : Nat} {l : List Nat} (hr : iterAt h b = some (m, s, l, t)) : h.get b = some (.mIter m s l t) := by
  obtain ⟨o, ho, h1⟩ := ob_some hr
  cases o <;> cases h1
  exact ho

theorem cell_of {w : World} {cb o : Nat} {arr : Array Value} {t : TypeId} {fz : Nat × Nat} (h : w.heap[cb]? = some (.cells arr t fz)) : w.cell? ⟨cb, o, none⟩ = arr[o]? := by
  unfold World.cell?; rw [h]; rfl

theorem run_load {w : World} {a : Addr} {v : Value} (h : w.cell? a = some v) : (Go.load a).run P w = .ok v w := by
  unfold Go.load; simp only [Sem.run, h]
theorem run_getMap {w : World} {cb k : Nat} {es : Array MapEntry} (h : w.heap[cb]? = some (.map es k)) : (getObj cb).run P w = .ok (.map es k) w := by
  unfold getObj; simp only [Sem.run, h]
theorem run_getObj {w : World} {cb : Nat} {o : Obj} (h : w.heap[cb]? = some o) (hc : ∀ a t f, o ≠ .cells a t f) : (getObj cb).run P w = .ok o w := by
  unfold getObj
  simp only [Sem.run, h]

/-- A piece of a block, as the model loads it. -/
theorem piece_load {B : Base} {b o n cb sz : Nat} {h : Hp} {w : World} {cs r : List AVal} {t : TypeId} {rw' : Bool} (R : Rel B ρ h w.heap) (hg : h.get b = some (.cells cs t rw')) (hb : ρ b = some (cb, sz)) (hp : piece o n cs = some r) :
    ∃ us : List Value, us.length = n ∧ (∀ w' : World, w'.heap = w.heap → (loadCells ⟨cb, o, none⟩ n).run P w' = .ok ⟨us⟩ w') ∧ VRs ρ r us ∧ (∀ x ∈ r, x.oneCell = true) := by
  obtain ⟨arr, fz, h1, h2, ⟨h3, h4⟩, h5⟩ := R.obj b _ _ hg hb
  obtain ⟨_, g2, g3⟩ := piece_some hp
  simp only [List.length_drop] at g3
  have hlen : r.length = n := by rw [g2]; simp; omega
  have hat : ∀ i, i < n → ∃ x v, r[i]? = some x ∧ arr[o + i]? = some v ∧ VR ρ x v ∧ x.oneCell = true := by
    intro i hi
    obtain ⟨x, hx⟩ : ∃ x, cs[o + i]? = some x := ⟨_, List.getElem?_eq_getElem (by omega)⟩
    obtain ⟨ho, v, hv, hR⟩ := h4 (o + i) x hx
    refine ⟨x, v, ?_, hv, hR, ho⟩
    rw [g2, List.getElem?_take_of_lt hi, List.getElem?_drop]; exact hx
  refine ⟨(arr.toList.drop o).take n, ?_, ?_, ?_, ?_⟩
  · simp; omega
  · intro w' hw'
    have h1 : w'.heap[cb]? = some (.cells arr t fz) := by rw [hw']; exact h1
    have hl : ((arr.toList.drop o).take n).length = n := by simp; omega
    have := run_loadCells_list (P := P) w' ⟨cb, o, none⟩ ((arr.toList.drop o).take n) (fun j v hj => by
      rw [addr_add, cell_of h1]
      have hjn : j < n := by rw [← hl]; exact (List.getElem?_eq_some_iff.1 hj).1
      rw [List.getElem?_take_of_lt hjn, List.getElem?_drop] at hj
      simpa using hj)
    rw [hl] at this
    exact this
  · refine VRs.of_get (by rw [hlen]; simp; omega) fun i x hx => ?_
    have hi : i < n := by rw [← hlen]; exact (List.getElem?_eq_some_iff.1 hx).1
    obtain ⟨x', v, e1, e2, e3, _⟩ := hat i hi
    rw [hx] at e1; cases e1
    refine ⟨v, ?_, e3⟩
    rw [List.getElem?_take_of_lt hi, List.getElem?_drop]
    simpa using e2
  · intro x hx
    obtain ⟨i, hi⟩ := List.mem_iff_getElem?.1 hx
    have hi' : i < n := by rw [← hlen]; exact (List.getElem?_eq_some_iff.1 hi).1
    obtain ⟨x', v, e1, _, _, e4⟩ := hat i hi'
    rw [hi] at e1; cases e1; exact e4

theorem cpLoad_ok (T : Ties P c) {t : TypeId} {x : Operand} {a : AOp} (hE : EvR ρ ws e E [x]) (h : cpLoad t x c ws = some a) : AopOk P ρ e (vOf (Instr.loadAt t (E x))) a := by
  obtain ⟨g, hg, h1⟩ := ob_some h
  obtain ⟨n, hn, h2⟩ := ob_some h1
  obtain ⟨x', hx, h3⟩ := ob_some h2
  cases g with
  | true =>
    cases h3
    intro B hp w R v hv
    obtain ⟨xv, hxv, hv1⟩ := ob_some (show rdLoadN n x' e hp = some v from hv)
    obtain ⟨b, o, hpt, hv2⟩ := ob2_some hv1
    obtain ⟨cs, p, hrow, hv3⟩ := ob2_some hv2
    obtain ⟨r, hr, hv4⟩ := ob_some hv3
    cases hv4
    have := asPtr_some hpt; subst this
    obtain ⟨cb, sz, hX, hb⟩ := vr_ptr (hE.at (by simp) hx hxv)
    obtain ⟨us, h4, h5, h6, h7⟩ := piece_load (P := P) R (rowAt_some hrow) hb hr
    refine ⟨.agg ⟨us⟩, vOf_run ?_, .agg _ _ h6 h7⟩
    rw [hX]
    show (loadVar t ⟨cb, o, none⟩).run P w = _
    unfold loadVar
    rw [run_ok (T.isAgg hg w)]
    simp only [if_true]
    rw [run_ok (T.size hn w), run_ok (h5 w rfl)]; rfl
  | false =>
    cases h3
    intro B hp w R v hv
    obtain ⟨xv, hxv, hv1⟩ := ob_some (show rdLoad1 x' e hp = some v from hv)
    obtain ⟨b, o, hpt, hv2⟩ := ob2_some hv1
    obtain ⟨cs, p, hrow, hv3⟩ := ob2_some hv2
    have := asPtr_some hpt; subst this
    obtain ⟨cb, sz, hX, hb⟩ := vr_ptr (hE.at (by simp) hx hxv)
    obtain ⟨arr, fz, q1, q2, ⟨q3, q4⟩, q5⟩ := R.obj b _ _ (rowAt_some hrow) hb
    rw [nth_eq] at hv3
    obtain ⟨ho, u, hu, hR⟩ := q4 o v hv3
    refine ⟨u, vOf_run ?_, hR⟩
    rw [hX]
    show (loadVar t ⟨cb, o, none⟩).run P w = _
    unfold loadVar
    rw [run_ok (T.isAgg hg w)]
    exact run_load (by rw [cell_of q1]; exact hu)

/-! ### Texts of bytes; pointers of no type -/

theorem bytesOf_some : ∀ {cs : List AVal} {s : List Nat}, bytesOfCells cs = some s → cs = byteCells s ∧ ∀ n ∈ s, n < 256 := by
  intro cs
  induction cs with
  | nil => intro s h; cases h; exact ⟨rfl, fun n hn => by simp at hn⟩
  | cons x cs ih =>
    intro s h
    obtain ⟨n, hn, h1⟩ := ob_some (show ob (asU8 x) (fun n => ok? (Nat.blt n 256) (ob (bytesOfCells cs) fun s => some (n :: s))) = some s from h)
    obtain ⟨h2, h3⟩ := ok?_some h1
    obtain ⟨s', hs', h4⟩ := ob_some h3
    cases h4
    obtain ⟨g1, g2⟩ := ih hs'
    have := asU8_some hn
    subst this
    subst g1
    exact ⟨rfl, fun m hm => by rcases List.mem_cons.1 hm with rfl | hm; exact blt_lt h2; exact g2 m hm⟩

theorem toBytes {s : List Nat} (h : ∀ n ∈ s, n < 256) : (s.map UInt8.ofNat).map UInt8.toNat = s := by
  induction s with
  | nil => rfl
  | cons n s ih =>
    simp only [List.map_cons]
    rw [ih fun m hm => h m (by simp [hm])]
    congr 1
    have := h n (by simp)
    simp [UInt8.toNat_ofNat']
    omega

theorem byteCells_vr {s : List Nat} {us : List Value} (h : ∀ n ∈ s, n < 256) (hR : VRs ρ (byteCells s) us) : us = ((s.map UInt8.ofNat).map fun b => (b.toNat : Int)).map (Value.int .u8) := by
  induction s generalizing us with
  | nil => cases hR; rfl
  | cons n s ih =>
    unfold byteCells at hR
    cases hR with | cons _ v _ vs h1 h2 =>
    rw [ih (fun m hm => h m (by simp [hm])) h2, vr_int h1]
    have hn := h n (by simp)
    simp only [List.map_cons]
    congr 2
    have e : (UInt8.ofNat n).toNat = n := by simp [UInt8.toNat_ofNat']; omega
    rw [e]; rfl

theorem run_text {w : World} {a : Addr} {n cap : Nat} {s : List Nat} {us : List Value} (h : ∀ n ∈ s, n < 256) (hR : VRs ρ (byteCells s) us) (hl : (loadCells a n).run P w = .ok ⟨us⟩ w) :
    ∃ b, (Conv.bytesToString (.slice (some a) n cap)).run P w = .ok (.string b) w ∧ nums b = s := by
  rw [byteCells_vr h hR] at hl
  refine ⟨_, run_bytesToString w a n cap _ hl, ?_⟩
  rw [foldl_push_byteCells]
  show ((ByteArray.empty.data ++ (s.map UInt8.ofNat).toArray).toList).map UInt8.toNat = s
  rw [show ByteArray.empty.data = (⟨[]⟩ : Array UInt8) from rfl]
  simpa using toBytes h

theorem liesAt_self {t : TypeId} {i : TypeInfo} (hi : P.info? t = some i) (h1 : 1 ≤ i.size) {n : Nat} (hn : i.size ≤ n) : liesAt P P.depth t (n / P.cellsOf t) 0 t 1 = true := by
  have hd : ∃ d, P.depth = d + 1 := ⟨2 * (P.types.size + Made.depth) + 1, rfl⟩
  obtain ⟨d, hd⟩ := hd
  have hc : P.cellsOf t = i.size := by unfold Program.cellsOf; rw [hi]; rfl
  have hsame : sameLayout P P.depth t t = true := by rw [hd]; unfold sameLayout; simp
  have hrow : Go.rowAt P (sameLayout P P.depth · t) P.depth t (n / P.cellsOf t) 0 1 = true := by
    have key : ∀ d, Go.rowAt P (sameLayout P P.depth · t) (d + 1) t (n / P.cellsOf t) 0 1 = true := by
      intro d
      unfold Go.rowAt
      rw [hc]
      have hge : 1 ≤ n / i.size := (Nat.le_div_iff_mul_le (by omega)).2 (by omega)
      simp only [show i.size ≠ 0 from by omega, if_false, Nat.zero_div, Nat.zero_mod, hsame]
      simp [hge]
    rw [hd]
    rw [hd] at key
    exact key d
  have hgo : ∀ d, liesAt P (d + 1) t (n / P.cellsOf t) 0 t 1 = true := by
    intro d
    unfold liesAt
    rw [hrow]; rfl
  rw [hd]; exact hgo d

/-- Conversions that read. -/
theorem cpConvert_rd (T : Ties P c) {s d : TypeId} {x : Operand} {r : Rd} (hE : EvR ρ ws e E [x]) (h : cpConvert s d x c ws = some (.rd r)) : RdOk P ρ e (vOf (convert s d (E x))) r := by
  obtain ⟨x', hx, h1⟩ := ob_some h
  obtain ⟨ds, hds, h2⟩ := ob_some h1
  obtain ⟨dd, hdd, h3⟩ := ob_some h2
  have us := T.und hds
  have ud := T.und hdd
  cases e1 : tdInt dd with
  | some k =>
    rw [e1] at h3
    obtain ⟨k', hk', h4⟩ := ob_some (show ob (tdInt ds) (fun _ => some (AOp.pu (.conv k x'))) = _ from h3)
    cases h4
  | none =>
    rw [e1] at h3
    have h3 : (bif tdString ds then (bif tdString dd then some (.pu (.same x')) else ob (tdSlice dd) fun e => ob (c.size e) fun n => ok? (isByte c e && n.beq 1) (some (.al (.strBytes e x'))))
       else bif tdString dd then (ob (tdSlice ds) fun e => ok? (isByte c e) (some (.rd (.text x'))))
       else bif tdUnsafe dd then (ob (tdPtr ds) fun e => ob (c.size1 e) fun n => some (.rd (.toPtr none (Nat.pred n) x')))
       else bif tdUnsafe ds then (ob (tdPtr dd) fun e => ob (c.size1 e) fun n => some (.rd (.toPtr (some e) (Nat.pred n) x')))
       else none) = some (AOp.rd r) := h3
    cases e2 : tdString ds with
    | true =>
      rw [e2] at h3
      cases e3 : tdString dd with
      | true => rw [e3] at h3; cases h3
      | false =>
        rw [e3] at h3
        obtain ⟨el, hel, h4⟩ := ob_some (show ob (tdSlice dd) (fun e => ob (c.size e) fun n => ok? (isByte c e && n.beq 1) (some (AOp.al (.strBytes e x')))) = _ from h3)
        obtain ⟨n, hn, h5⟩ := ob_some h4
        obtain ⟨h6, h7⟩ := ok?_some h5
        cases h7
    | false =>
      rw [e2] at h3
      cases e3 : tdString dd with
      | true =>
        rw [e3] at h3
        obtain ⟨el, hel, h4⟩ := ob_some (show ob (tdSlice ds) (fun e => ok? (isByte c e) (some (AOp.rd (.text x')))) = _ from h3)
        obtain ⟨h5, h6⟩ := ok?_some h4
        cases h6
        have hb8 := byte_of T h5
        have := tdSlice_some hel; subst this
        have := tdString_true e3; subst this
        intro B hp w R v hv
        obtain ⟨xv, hxv, hv1⟩ := ob_some (show rdText x' e hp = some v from hv)
        obtain ⟨sl, hsl, hv2⟩ := ob_some hv1
        have hX := hE.at (by simp) hx hxv
        cases sl with
        | none =>
          cases hv2
          have := asSlice_nil hsl; subst this
          rw [vr_slice0 hX]
          refine ⟨.string .empty, vOf_run ?_, .str _ _ rfl⟩
          unfold convert
          rw [run_ok (run_underlying us w), run_ok (run_underlying ud w)]
          refine (run_ok (run_underlying hb8 w)).trans rfl
        | some sl =>
          obtain ⟨b, off, n, k⟩ := sl
          obtain ⟨cs, p, hrow, hv3⟩ := ob2_some (show ob2 (rowAt hp b) (fun cs _ => ob (piece off n cs) fun cs => ob (bytesOfCells cs) fun t => some (.str t)) = some v from hv2)
          obtain ⟨pc, hpc, hv4⟩ := ob_some hv3
          obtain ⟨st, hst, hv5⟩ := ob_some hv4
          cases hv5
          have := asSlice_some hsl; subst this
          obtain ⟨cb, sz, kk, hX', hb, _⟩ := vr_slice hX
          obtain ⟨us', g1, g2, g3, g4⟩ := piece_load (P := P) R (rowAt_some hrow) hb hpc
          obtain ⟨q1, q2⟩ := bytesOf_some hst
          subst q1
          obtain ⟨bb, q3, q4⟩ := run_text (P := P) (cap := kk) q2 g3 (g2 w rfl)
          refine ⟨.string bb, vOf_run ?_, .str _ _ q4⟩
          rw [hX']
          unfold convert
          rw [run_ok (run_underlying us w), run_ok (run_underlying ud w)]
          refine (run_ok (run_underlying hb8 w)).trans q3
      | false =>
        rw [e3] at h3
        -- an unsafe pointer
        have key : ∀ (u : Option TypeId) (k : Nat) (B : Base) (hp : Hp) (w : World), Rel B ρ hp w.heap → ∀ v, (Rd.toPtr u k x').ev e hp = some v → ∃ b o cb sz cs t arr fz y, v = .ptr b o ∧ E x = .pointer (some ⟨cb, o, none⟩) ∧ ρ b = some (cb, sz) ∧ w.heap[cb]? = some (.cells arr t fz) ∧ CellsR ρ cs arr ∧ cs[o + k]? = some y ∧ (∀ q, u = some q → o = 0 ∧ t = q) := by
          intro u k B hp w R v hv
          obtain ⟨xv, hxv, hv1⟩ := ob_some (show rdToPtr u k x' e hp = some v from hv)
          obtain ⟨b, o, hpt, hv2⟩ := ob2_some hv1
          obtain ⟨cs, p, hrow, hv3⟩ := ob2_some hv2
          obtain ⟨t, rw'⟩ := p
          obtain ⟨y, hy, hv4⟩ := ob_some (show ob (nth (Nat.add o k) cs) (fun _ => Option.casesOn (motive := fun _ => Option AVal) u (some (.ptr b o)) (fun q => ok? (andb (Nat.beq o 0) (Nat.beq t q)) (some (.ptr b o)))) = some v from hv3)
          have := asPtr_some hpt; subst this
          obtain ⟨cb, sz, hX, hb⟩ := vr_ptr (hE.at (by simp) hx hxv)
          obtain ⟨arr, fz, q1, q2, q3, q5⟩ := R.obj b _ _ (rowAt_some hrow) hb
          rw [nth_eq] at hy
          cases u with
          | none => cases hv4; exact ⟨b, o, cb, sz, cs, t, arr, fz, y, rfl, hX, hb, q1, q3, hy, fun q hq => by cases hq⟩
          | some q =>
            obtain ⟨h7, h8⟩ := ok?_some (show ok? (andb (Nat.beq o 0) (Nat.beq t q)) (some (AVal.ptr b o)) = some v from hv4)
            cases h8
            simp only [andb_eq, Bool.and_eq_true] at h7
            exact ⟨b, o, cb, sz, cs, t, arr, fz, y, rfl, hX, hb, q1, q3, hy, fun q' hq => by cases hq; exact ⟨Nat.eq_of_beq_eq_true h7.1, Nat.eq_of_beq_eq_true h7.2⟩⟩
        cases e4 : tdUnsafe dd with
        | true =>
          rw [e4] at h3
          obtain ⟨el, hel, h4⟩ := ob_some (show ob (tdPtr ds) (fun e => ob (c.size1 e) fun n => some (AOp.rd (.toPtr none (Nat.pred n) x'))) = _ from h3)
          obtain ⟨n, hn, h5⟩ := ob_some h4
          cases h5
          have := tdUnsafe_true e4; subst this
          have := tdPtr_some hel; subst this
          obtain ⟨g1, g2⟩ := Ties.size1 hn
          obtain ⟨i, hi, h6⟩ := ob_some g2
          cases h6
          intro B hp w R v hv
          obtain ⟨b, o, cb, sz, cs, t, arr, fz, y, rfl, hX, hb, q1, ⟨q2, q3⟩, hy, _⟩ := key none _ B hp w R v hv
          obtain ⟨x0, hx0⟩ : ∃ x0, cs[o]? = some x0 := ⟨_, List.getElem?_eq_getElem (by have := (List.getElem?_eq_some_iff.1 hy).1; omega)⟩
          obtain ⟨_, u, hu, _⟩ := q3 o x0 hx0
          refine ⟨.pointer (some ⟨cb, o, none⟩), vOf_run ?_, .ptr _ _ _ _ hb⟩
          rw [hX]
          exact run_convert_to_unsafe us ud (by rw [T.ty _ _ hi]; simp; omega) (by rw [cell_of q1]; exact hu)
        | false =>
          rw [e4] at h3
          cases e5 : tdUnsafe ds with
          | false => rw [e5] at h3; cases h3
          | true =>
            rw [e5] at h3
            obtain ⟨el, hel, h4⟩ := ob_some (show ob (tdPtr dd) (fun e => ob (c.size1 e) fun n => some (AOp.rd (.toPtr (some e) (Nat.pred n) x'))) = _ from h3)
            obtain ⟨n, hn, h5⟩ := ob_some h4
            cases h5
            have := tdUnsafe_true e5; subst this
            have := tdPtr_some hel; subst this
            obtain ⟨g1, g2⟩ := Ties.size1 hn
            obtain ⟨i, hi, h6⟩ := ob_some g2
            cases h6
            intro B hp w R v hv
            obtain ⟨b, o, cb, sz, cs, t, arr, fz, y, rfl, hX, hb, q1, ⟨q2, q3⟩, hy, hq⟩ := key (some el) _ B hp w R v hv
            obtain ⟨rfl, rfl⟩ := hq _ rfl
            refine ⟨.pointer (some ⟨cb, 0, none⟩), vOf_run ?_, .ptr _ _ _ _ hb⟩
            rw [hX]
            have hsh : w.shape? cb = some (t, arr.size) := by unfold World.shape?; rw [q1]
            have hi := T.ty _ _ hi
            have hlen : i.size ≤ arr.size := by
              have := (List.getElem?_eq_some_iff.1 hy).1
              have e0 : Nat.pred i.size = i.size - 1 := rfl
              rw [e0] at this
              omega
            have hz : ¬ i.size = 0 := by omega
            have hlies := liesAt_self hi g1 hlen
            have hview : (viewAt cb).run P w = .ok none w := by unfold viewAt; simp [Go.shape, Sem.run, hsh]
            unfold convert
            rw [run_ok (run_underlying us w), run_ok (run_underlying ud w)]
            show (Conv.unsafePointer s d (.pointer (some ⟨cb, 0, none⟩))).run P w = _
            unfold Conv.unsafePointer
            rw [run_ok (run_underlying us w), run_ok (run_underlying ud w)]
            show (Conv.seenAt ⟨cb, 0, none⟩ >>= _).run P w = _
            refine (run_ok (show (Conv.seenAt ⟨cb, 0, none⟩).run P w = .ok ⟨cb, 0, none⟩ w from ?_)).trans ?_
            · unfold Conv.seenAt
              rw [run_ok hview]; rfl
            · refine (run_ok (run_size hi w)).trans ?_
              refine (run_ok (show (variablesAt ⟨cb, 0, none⟩ t 1).run P w = .ok true w from ?_)).trans ?_
              · unfold variablesAt
                rw [run_ok (run_program P w)]
                refine (run_ok (show (Go.shape cb).run P w = .ok (some (t, arr.size)) w from by unfold Go.shape; simp only [Sem.run, hsh])).trans ?_
                simp only
                rw [hlies]; rfl
              · simp only [hz, Bool.or_true, if_true]
                rfl

end
end Go.Am

/- The small machine against the model: maps are read. -/
namespace Go.Am

/-- Where a key is found. -/
inductive FindR (kd : EqD) (x : AVal) : List AEnt → Option (Nat × AEnt) → Prop where
  | nil : FindR kd x [] none
  | hit (e : AEnt) (es : List AEnt) (h : aEq kd x e.key = some true) : FindR kd x (e :: es) (some (0, e))
  | none (e : AEnt) (es : List AEnt) (h : aEq kd x e.key = some false) (hs : FindR kd x es none) : FindR kd x (e :: es) none
  | some (e : AEnt) (es : List AEnt) (j : Nat) (f : AEnt) (h : aEq kd x e.key = some false) (hs : FindR kd x es (some (j, f))) : FindR kd x (e :: es) (some (j + 1, f))

theorem findEnt_R {kd : EqD} {x : AVal} : ∀ {es : List AEnt} {r : Option AEnt}, findEnt kd x es = some r → ∃ q, FindR kd x es q ∧ r = q.map (·.2) := by
  intro es
  induction es with
  | nil => intro r h; cases h; exact ⟨none, .nil, rfl⟩
  | cons e es ih =>
    intro r h
    obtain ⟨key, val, born⟩ := e
    obtain ⟨b, hb, h1⟩ := ob_some (show ob (aEq kd x key) (fun b => Bool.casesOn (motive := fun _ => Option (Option AEnt)) b (findEnt kd x es) (some (some ⟨key, val, born⟩))) = some r from h)
    cases b with
    | true => cases h1; exact ⟨_, .hit _ _ hb, rfl⟩
    | false =>
      obtain ⟨q, hq, hr⟩ := ih h1
      cases q with
      | none => exact ⟨none, .none _ _ hb hq, hr⟩
      | some p => exact ⟨some (p.1 + 1, p.2), .some _ _ _ _ hb hq, hr⟩

section
variable {P : Program} {c : Cx} {ρ : Rho} {ws : Ws} {e : Env} {E : Operand → Value} {l : List Operand}

theorem EntsR.length : ∀ {es : List AEnt} {ms : List MapEntry}, EntsR ρ es ms → es.length = ms.length
  | _, _, .nil => rfl
  | _, _, .cons _ _ _ _ _ hs => by simp [EntsR.length hs]

theorem sameNow_ok {d : TypeDesc} {k : Sc} {x y : AVal} {u v : Value} {r : Bool} (hk : tdScalar d = some k) (hx : VR ρ x u) (hy : VR ρ y v) (h : k.eq x y = some r) : Instr.sameNow d u v = some r := by
  cases k with
  | b =>
    obtain ⟨a, b, rfl, rfl, rfl⟩ := eqB_some h
    rw [vr_bool hx, vr_bool hy, tdScalar_b hk]; rfl
  | i =>
    obtain ⟨k, a, b, rfl, rfl, rfl⟩ := eqN_some h
    obtain ⟨k', rfl⟩ := tdScalar_i hk
    rw [vr_int hx, vr_int hy]
    simp [Instr.sameNow]
  | s =>
    obtain ⟨a, b, rfl, rfl, rfl⟩ := eqS_some h
    obtain ⟨s, rfl, rfl⟩ := vr_str hx
    obtain ⟨s', rfl, rfl⟩ := vr_str hy
    rw [tdScalar_s hk, ← str_beq]; rfl

/-- What the model's search gives. -/
def Found (ρ : Rho) (ms : List MapEntry) (i : Nat) : Option (Nat × AEnt) → Option (Nat × Value) → Prop
  | none, r => r = none
  | some (j, f), r => ∃ m, ms[j]? = some m ∧ EntR ρ f m ∧ r = some (i + j, m.val)

theorem findNow_ok {d : TypeDesc} {k : Sc} {x : AVal} {u : Value} (hk : tdScalar d = some k) (hx : VR ρ x u) : ∀ {es : List AEnt} {ms : List MapEntry} {q : Option (Nat × AEnt)} (i : Nat), FindR (.sc k) x es q → EntsR ρ es ms → ∃ r, Instr.findNow d u ms i = some r ∧ Found ρ ms i q r
  | _, _, _, i, .nil, .nil => ⟨none, rfl, rfl⟩
  | _, _, _, i, .hit e es h, .cons _ m _ ms hm hs => by
    have := sameNow_ok hk hx (show VR ρ e.key m.key from by cases hm; assumption) h
    refine ⟨some (i, m.val), by simp [Instr.findNow, this], m, rfl, hm, rfl⟩
  | _, _, _, i, .none e es h hs', .cons _ m _ ms hm hs => by
    have := sameNow_ok hk hx (show VR ρ e.key m.key from by cases hm; assumption) h
    obtain ⟨r, h1, h2⟩ := findNow_ok hk hx (i + 1) hs' hs
    exact ⟨r, by simp [Instr.findNow, this, h1], h2⟩
  | _, _, _, i, .some e es j f h hs', .cons _ m _ ms hm hs => by
    have := sameNow_ok hk hx (show VR ρ e.key m.key from by cases hm; assumption) h
    obtain ⟨r, h1, m', h2, h3, h4⟩ := findNow_ok hk hx (i + 1) hs' hs
    exact ⟨r, by simp [Instr.findNow, this, h1], m', by simpa using h2, h3, by rw [h4]; congr 2; omega⟩

theorem findAsking_ok {t : TypeId} {kd : EqD} {x : AVal} {u : Value} (hf : EqFit P t kd) (hx : VR ρ x u) (w : World) : ∀ {es : List AEnt} {ms : List MapEntry} {q : Option (Nat × AEnt)} (i : Nat), FindR kd x es q → EntsR ρ es ms → ∃ r, (Instr.findAsking t u ms i).run P w = .ok r w ∧ Found ρ ms i q r
  | _, _, _, i, .nil, .nil => ⟨none, rfl, rfl⟩
  | _, _, _, i, .hit e es h, .cons _ m _ ms hm hs => by
    have := equal_ok (w := w) hf hx (show VR ρ e.key m.key from by cases hm; assumption) h
    refine ⟨some (i, m.val), ?_, m, rfl, hm, rfl⟩
    unfold Instr.findAsking
    rw [run_ok this]; rfl
  | _, _, _, i, .none e es h hs', .cons _ m _ ms hm hs => by
    have := equal_ok (w := w) hf hx (show VR ρ e.key m.key from by cases hm; assumption) h
    obtain ⟨r, h1, h2⟩ := findAsking_ok hf hx w (i + 1) hs' hs
    refine ⟨r, ?_, h2⟩
    unfold Instr.findAsking
    rw [run_ok this]; exact h1
  | _, _, _, i, .some e es j f h hs', .cons _ m _ ms hm hs => by
    have := equal_ok (w := w) hf hx (show VR ρ e.key m.key from by cases hm; assumption) h
    obtain ⟨r, h1, m', h2, h3, h4⟩ := findAsking_ok hf hx w (i + 1) hs' hs
    refine ⟨r, ?_, m', by simpa using h2, h3, by rw [h4]; congr 2; omega⟩
    unfold Instr.findAsking
    rw [run_ok this]; exact h1

theorem cells_under {t : TypeId} {l : List Sc} {x : AVal} {u : Value} (hx : VR ρ x u) (h : aEq (.cells l) x x = some true) : ∃ us, u = .agg us := by
  obtain ⟨xs, h1, h2⟩ := ob_some h
  have := asAgg_some h1; subst this
  obtain ⟨us, rfl, _⟩ := vr_agg hx
  exact ⟨_, rfl⟩

theorem checkKey_sc {t : TypeId} {d : TypeDesc} {k : Sc} {u : Value} {z : Bool} (hd : P.underlying t = some d) (hk : tdScalar d = some k) (w : World) : (Instr.checkKey z 10000 t u).run P w = .ok () w := by
  have : ∃ n, Instr.checkKey z 10000 t u = Instr.checkKey z (n + 1) t u := ⟨9999, rfl⟩
  obtain ⟨n, hn⟩ := this
  rw [hn]
  unfold Instr.checkKey
  rw [run_ok (run_underlying hd w)]
  cases d <;> first | (simp [tdScalar] at hk; done) | rfl

/-- The key is fit to be one. -/
theorem checkKey_ok {t : TypeId} {kd : EqD} {x : AVal} {u : Value} {z : Bool} {r : Bool} (hf : EqFit P t kd) (hs : (∃ k, kd = .sc k) ∨ ∃ l, kd = .cells l) (hx : VR ρ x u) (h : aEq kd x x = some r) (w : World) : (Instr.checkKey z 10000 t u).run P w = .ok () w := by
  rcases hs with ⟨k, rfl⟩ | ⟨l, rfl⟩
  · obtain ⟨d, hd, hk⟩ := hf
    exact checkKey_sc hd hk w
  · obtain ⟨xs, h1, h2⟩ := ob_some h
    have := asAgg_some h1; subst this
    obtain ⟨ys, h3, h4⟩ := ob_some h2
    cases h3
    obtain ⟨us, rfl, hu, _⟩ := vr_agg hx
    exact (hf ρ xs xs us us r hu hu h4 w).2.1 z

theorem findKey_ok {t : TypeId} {kd : EqD} {x : AVal} {u : Value} {r : Bool} (hf : EqFit P t kd) (hs : (∃ k, kd = .sc k) ∨ ∃ l, kd = .cells l) (hx : VR ρ x u) (h : aEq kd x x = some r) {es : List AEnt} {ms : List MapEntry} {q : Option (Nat × AEnt)}
    (hq : FindR kd x es q) (hm : EntsR ρ es ms) (hcells : ∀ l, kd = .cells l → ∃ d, P.underlying t = some d ∧ tdScalar d = none) (w : World) : ∃ r, (Instr.findKey t u ms).run P w = .ok r w ∧ Found ρ ms 0 q r := by
  rcases hs with ⟨k, rfl⟩ | ⟨l, rfl⟩
  · obtain ⟨d, hd, hk⟩ := hf
    obtain ⟨r, h1, h2⟩ := findNow_ok hk hx 0 hq hm
    refine ⟨r, ?_, h2⟩
    unfold Instr.findKey
    rw [run_ok (run_underlying hd w), h1]; rfl
  · obtain ⟨d, hd, hk⟩ := hcells l rfl
    obtain ⟨xs, h1, h2⟩ := ob_some h
    have := asAgg_some h1; subst this
    obtain ⟨us, rfl, hu, _⟩ := vr_agg hx
    cases hm with
    | nil =>
      cases hq
      refine ⟨none, ?_, rfl⟩
      unfold Instr.findKey
      rw [run_ok (run_underlying hd w)]; rfl
    | cons e' m es' ms' hm' hs' =>
      have hn : Instr.findNow d (.agg ⟨us⟩) (m :: ms') 0 = none := by
        unfold Instr.findNow
        rw [show Instr.sameNow d (.agg ⟨us⟩) m.key = none from by cases d <;> first | rfl | (cases m.key <;> rfl)]
      obtain ⟨r, h3, h4⟩ := findAsking_ok hf hx w 0 hq (.cons _ _ _ _ hm' hs')
      refine ⟨r, ?_, h4⟩
      unfold Instr.findKey
      rw [run_ok (run_underlying hd w), hn]; exact h3

theorem keyd_cells {t : TypeId} {d : EqD} (T : Ties P c) (h : c.keyd t = some d) : ∀ l, d = .cells l → ∃ td, P.underlying t = some td ∧ tdScalar td = none := by
  intro l hl
  obtain ⟨td, hd, h1⟩ := ob_some h
  refine ⟨td, T.und hd, ?_⟩
  cases e1 : tdScalar td with
  | some k => rw [e1] at h1; cases h1; cases hl
  | none => rfl

theorem fin0 {et : TypeId} {okk : Bool} (zu : Value) (hz : ∀ w, (zeroValue et).run P w = .ok zu w) (w : World) :
    ((zeroValue et >>= fun x => pure (x, false)) >>= fun p : Value × Bool => pure (if okk then Value.tuple #[p.1, .bool p.2] else p.1)).run P w = (zeroValue et >>= fun x => pure (if okk then Value.tuple #[x, .bool false] else x)).run P w := by
  rw [run_ok (show (zeroValue et >>= fun x => (pure (x, false) : Sem (Value × Bool))).run P w = .ok (zu, false) w from (run_ok (hz w)).trans rfl), run_ok (hz w)]

theorem cpLookup_ok (T : Ties P c) {t : TypeId} {m k : Operand} {okk : Bool} {a : AOp} (hE : EvR ρ ws e E [m, k]) (h : cpLookup t m k okk c ws = some a) : AopOk P ρ e (vOf (Instr.lookup t (E m) (E k) okk)) a := by
  obtain ⟨d, hd, h1⟩ := ob_some h
  obtain ⟨p, hp, h2⟩ := ob_some h1
  obtain ⟨m', hm, h3⟩ := ob_some h2
  obtain ⟨k', hk, h4⟩ := ob_some h3
  obtain ⟨kd, hkd, h5⟩ := ob_some h4
  obtain ⟨z, hz, h6⟩ := ob_some h5
  cases h6
  obtain ⟨kt, et⟩ := p
  have := tdMap_some hp; subst this
  have hu := T.und hd
  obtain ⟨hf, hs⟩ := keyd_fit T hkd
  obtain ⟨zu, hzR, hzrun⟩ := zero_run (ρ := ρ) T hz
  intro B hp w R v hv
  obtain ⟨mv, hmv, hv1⟩ := ob_some (show rdLookup kd z okk m' k' e hp = some v from hv)
  obtain ⟨mm, hmm, hv2⟩ := ob_some hv1
  obtain ⟨kv, hkv, hv3⟩ := ob_some hv2
  have hM := hE.at (by simp) hm hmv
  have hK := hE.at (by simp) hk hkv
  -- what comes of a search
  have fin : ∀ (ms : Array MapEntry) (q : Option (Nat × AEnt)) (r : Option (Nat × Value)), (Instr.findKey kt (E k) ms.toList).run P w = .ok r w → Found ρ ms.toList 0 q r → found okk z (q.map (·.2)) = some v →
      ∃ u, (Instr.findKey kt (E k) ms.toList >>= fun r => (match r with | some (_, v) => pure (v, true) | none => do pure (← zeroValue et, false)) >>= fun p => pure (if okk then Value.tuple #[p.1, .bool p.2] else p.1)).run P w = .ok u w ∧ VR ρ v u := by
    intro ms q r hr hF hv
    rw [run_ok hr]
    cases q with
    | none =>
      have : r = none := hF
      subst this
      have e1 : ((match (none : Option (Nat × Value)) with | some (_, v) => pure (v, true) | none => do pure (← zeroValue et, false)) : Sem (Value × Bool)).run P w = .ok (zu, false) w := (run_ok (hzrun w)).trans rfl
      cases okk with
      | true => cases hv; exact ⟨.tuple ⟨[zu, .bool false]⟩, (run_ok e1).trans rfl, .tup _ _ (.cons _ _ _ _ hzR (.cons _ _ _ _ (.bool _) .nil))⟩
      | false => cases hv; exact ⟨zu, (run_ok e1).trans rfl, hzR⟩
    | some p =>
      obtain ⟨j, f⟩ := p
      obtain ⟨m0, _, hm0, rfl⟩ := hF
      obtain ⟨fk, fv, fb⟩ := f
      cases hm0 with | mk _ _ _ u x hu' hx' =>
      cases okk with
      | true => cases hv; exact ⟨.tuple ⟨[x, .bool true]⟩, rfl, .tup _ _ (.cons _ _ _ _ hx' (.cons _ _ _ _ (.bool _) .nil))⟩
      | false => cases hv; exact ⟨x, rfl, hx'⟩
  cases mm with
  | none =>
    have := asMap_nil hmm; subst this
    obtain ⟨r0, hr0, hv4⟩ := ob_some (show ob (aEq kd kv kv) (fun _ => found okk z none) = some v from hv3)
    have hM' : E m = .map none := by generalize E m = y at hM; cases hM; rfl
    obtain ⟨r, g1, g2⟩ := findKey_ok (es := []) (ms := []) hf hs hK hr0 .nil .nil (keyd_cells T hkd) w
    obtain ⟨u, g3, g4⟩ := fin #[] none r g1 g2 hv4
    refine ⟨u, vOf_run ?_, g4⟩
    rw [hM']
    unfold Instr.lookup
    rw [run_ok (run_underlying hu w)]
    refine (run_ok (run_pure P (#[] : Array MapEntry) w)).trans ?_
    refine (run_ok (checkKey_ok hf hs hK hr0 w)).trans ?_
    refine Eq.trans ?_ g3
    rw [run_ok g1, run_ok g1]
    cases r with
    | some p => rfl
    | none => exact (fin0 zu hzrun w).symm
  | some b =>
    have := asMap_some hmm; subst this
    obtain ⟨es, clock, hes, hv4⟩ := ob2_some (show ob2 (mapAt hp b) (fun es _ => ob (aEq kd kv kv) fun _ => ob (findEnt kd kv es) fun e => found okk z e) = some v from hv3)
    obtain ⟨r0, hr0, hv5⟩ := ob_some hv4
    obtain ⟨en, hen, hv6⟩ := ob_some hv5
    obtain ⟨q, hq, rfl⟩ := findEnt_R hen
    have hM' : ∃ cb n, E m = .map (some cb) ∧ ρ b = some (cb, n) := by generalize E m = y at hM; cases hM with | map _ c n h => exact ⟨c, n, rfl, h⟩
    obtain ⟨cb, n, hM', hb⟩ := hM'
    obtain ⟨ents, q1, q2⟩ := R.obj b _ _ (mapAt_some hes) hb
    obtain ⟨r, g1, g2⟩ := findKey_ok hf hs hK hr0 hq q2 (keyd_cells T hkd) w
    obtain ⟨u, g3, g4⟩ := fin ents q r g1 g2 hv6
    refine ⟨u, vOf_run ?_, g4⟩
    rw [hM']
    unfold Instr.lookup
    rw [run_ok (run_underlying hu w)]
    refine (run_ok (run_getMap q1)).trans ?_
    refine (run_ok (run_pure P ents w)).trans ?_
    refine (run_ok (checkKey_ok hf hs hK hr0 w)).trans ?_
    refine Eq.trans ?_ g3
    rw [run_ok g1, run_ok g1]
    cases r with
    | some p => rfl
    | none => exact (fin0 zu hzrun w).symm

end
end Go.Am

/- The small machine against the model: built-in functions without effect; entries of iterators. -/
namespace Go.Am

section
variable {P : Program} {c : Cx} {ρ : Rho} {ws : Ws} {e : Env} {E : Operand → Value} {l : List Operand}

theorem vr_slice_any {s : Option Sl} {x : AVal} {u : Value} (hs : asSlice x = some s) (hx : VR ρ x u) : ∃ b n k, u = .slice b n k ∧ n = slLen s := by
  cases s with
  | none => have := asSlice_nil hs; subst this; exact ⟨none, 0, 0, vr_slice0 hx, rfl⟩
  | some s =>
    have := asSlice_some hs; subst this
    obtain ⟨cb, sz, kk, h, _⟩ := vr_slice hx
    exact ⟨_, _, _, h, rfl⟩

theorem bLen_ok (T : Ties P c) {ts : Array TypeId} {ty : TypeId} {ys : List AOpd} {args : List Value} {a : AOp} (hA : ArgsR ρ e ys args) (h : bLen ts ys c = some a) : AopOk P ρ e (vOf (Builtin.len_ ts ty ⟨args⟩)) a := by
  obtain ⟨y, hy, h1⟩ := ob_some h
  have := one1_some hy; subst this
  obtain ⟨u, rfl, hU⟩ := hA.one
  obtain ⟨t, ht, h2⟩ := ob_some h1
  obtain ⟨d, hd, h3⟩ := ob_some h2
  have hu := T.und hd
  have hrun : ∀ w, (Builtin.len_ ts ty ⟨[u]⟩).run P w = ((do match ← underlying t, u with
      | .string, .string s => pure (goInt s.size)
      | .array n _, _ => pure (goInt n)
      | .pointer arr, _ =>
        let .array n _ ← underlying arr | stuck "len: pointer to array expected"
        pure (goInt n)
      | .slice _, .slice _ n _ => pure (goInt n)
      | .map _ _, .map none | .chan _ _, .chan none => pure (goInt 0)
      | .map _ _, .map (some r) =>
        let .map entries _ ← getObj r | stuck "len: map expected"
        pure (goInt entries.size)
      | .chan _ _, .chan (some r) =>
        let .chan _ buf _ _ _ timer ← getObj r | stuck "len: channel expected"
        pure (goInt (if timer then 0 else buf.size))
      | _, _ => stuck "len: string, array, pointer to array, slice, map or channel expected" : Sem Value)).run P w := by
    intro w
    unfold Builtin.len_
    simp only [ht, show (⟨[u]⟩ : Array Value)[0]? = some u from rfl]
    rfl
  cases e1 : tdString d with
  | true =>
    rw [e1] at h3
    cases h3
    have := tdString_true e1; subst this
    intro v hv w
    obtain ⟨xv, hxv, hv1⟩ := ob_some (show puLenStr y e = some v from hv)
    obtain ⟨s, hs, hv2⟩ := ob_some hv1
    rw [forceN_eq] at hv2
    cases hv2
    have := asStr_some hs; subst this
    obtain ⟨b, rfl, rfl⟩ := vr_str (hU _ hxv)
    refine ⟨goInt b.size, vOf_run ?_, ?_⟩
    · rw [hrun, run_ok (run_underlying hu w)]; rfl
    · rw [nums_length]; exact .int _ _
  | false =>
    rw [e1] at h3
    have h3 : Option.casesOn (motive := fun _ => Option AOp) (tdSlice d)
      (Option.casesOn (motive := fun _ => Option AOp) (tdMap d)
        (Option.casesOn (motive := fun _ => Option AOp) (tdArray d)
          (ob (tdPtr d) fun a => ob (c.und a) fun d => ob (tdArray d) fun a => some (.pu (.lenN a.1)))
          (fun a => some (.pu (.lenN a.1))))
        (fun _ => some (.rd (.lenMap y))))
      (fun _ => some (.pu (.lenSl y))) = some a := h3
    cases e2 : tdSlice d with
    | some el =>
      rw [e2] at h3
      cases h3
      have := tdSlice_some e2; subst this
      intro v hv w
      obtain ⟨xv, hxv, hv1⟩ := ob_some (show puLenSl y e = some v from hv)
      obtain ⟨s, hs, hv2⟩ := ob_some hv1
      rw [forceN_eq] at hv2
      cases hv2
      obtain ⟨b, n, k, rfl, rfl⟩ := vr_slice_any hs (hU _ hxv)
      refine ⟨goInt (slLen s), vOf_run ?_, .int _ _⟩
      rw [hrun, run_ok (run_underlying hu w)]; rfl
    | none =>
      rw [e2] at h3
      cases e3 : tdMap d with
      | some p =>
        rw [e3] at h3
        cases h3
        obtain ⟨kt, et⟩ := p
        have := tdMap_some e3; subst this
        intro B hp w R v hv
        obtain ⟨xv, hxv, hv1⟩ := ob_some (show rdLenMap y e hp = some v from hv)
        obtain ⟨m, hm, hv2⟩ := ob_some hv1
        have hX := hU _ hxv
        cases m with
        | none =>
          cases hv2
          have := asMap_nil hm; subst this
          cases hX
          refine ⟨goInt 0, vOf_run ?_, .int _ _⟩
          rw [hrun, run_ok (run_underlying hu w)]; rfl
        | some b =>
          obtain ⟨es, clock, hes, hv3⟩ := ob2_some (show ob2 (mapAt hp b) (fun es _ => forceN es.length fun n => some (AVal.int .i64 (.ofNat n))) = some v from hv2)
          rw [forceN_eq] at hv3
          cases hv3
          have := asMap_some hm; subst this
          cases hX with | map _ cb n hb =>
          obtain ⟨ents, q1, q2⟩ := R.obj b _ _ (mapAt_some hes) hb
          refine ⟨goInt ents.size, vOf_run ?_, ?_⟩
          · rw [hrun, run_ok (run_underlying hu w)]
            refine (run_ok (run_getMap q1)).trans rfl
          · rw [q2.length]; exact .int _ _
      | none =>
        rw [e3] at h3
        cases e4 : tdArray d with
        | some p =>
          rw [e4] at h3
          cases h3
          obtain ⟨n, el⟩ := p
          have := tdArray_some e4; subst this
          intro v hv w
          cases (show some (AVal.int .i64 (.ofNat n)) = some v from hv)
          refine ⟨goInt n, vOf_run ?_, .int _ _⟩
          rw [hrun, run_ok (run_underlying hu w)]; rfl
        | none =>
          rw [e4] at h3
          obtain ⟨arr, ha, h4⟩ := ob_some (show ob (tdPtr d) (fun a => ob (c.und a) fun d => ob (tdArray d) fun a => some (AOp.pu (.lenN a.1))) = some a from h3)
          obtain ⟨d2, hd2, h5⟩ := ob_some h4
          obtain ⟨p, hp, h6⟩ := ob_some h5
          cases h6
          obtain ⟨n, el⟩ := p
          have := tdPtr_some ha; subst this
          have := tdArray_some hp; subst this
          intro v hv w
          cases (show some (AVal.int .i64 (.ofNat n)) = some v from hv)
          refine ⟨goInt n, vOf_run ?_, .int _ _⟩
          rw [hrun, run_ok (run_underlying hu w)]
          refine (run_ok (run_underlying (T.und hd2) w)).trans rfl

theorem bCap_ok (T : Ties P c) {ts : Array TypeId} {ty : TypeId} {ys : List AOpd} {args : List Value} {a : AOp} (hA : ArgsR ρ e ys args) (h : bCap ts ys c = some a) : AopOk P ρ e (vOf (Builtin.cap_ ts ty ⟨args⟩)) a := by
  obtain ⟨y, hy, h1⟩ := ob_some h
  have := one1_some hy; subst this
  obtain ⟨u, rfl, hU⟩ := hA.one
  obtain ⟨t, ht, h2⟩ := ob_some h1
  obtain ⟨d, hd, h3⟩ := ob_some h2
  obtain ⟨el, hel, h4⟩ := ob_some h3
  cases h4
  have := tdSlice_some hel; subst this
  have hu := T.und hd
  intro v hv w
  obtain ⟨xv, hxv, hv1⟩ := ob_some (show puCapSl y e = some v from hv)
  obtain ⟨s, hs, hv2⟩ := ob_some hv1
  obtain ⟨n, hn, hv3⟩ := ob_some hv2
  cases hv3
  have hX := hU _ hxv
  have key : ∃ b m, u = .slice b m n := by
    cases s with
    | none =>
      have := asSlice_nil hs; subst this
      cases hn
      exact ⟨none, 0, vr_slice0 hX⟩
    | some s =>
      obtain ⟨b, off, m, k⟩ := s
      have := asSlice_some hs; subst this
      obtain ⟨cb, sz, kk, hk, _, g1, _⟩ := vr_slice hX
      cases k with
      | exact k => cases hn; rw [hk, g1 _ rfl]; exact ⟨_, _, rfl⟩
      | grown g => cases hn
  obtain ⟨b, m, rfl⟩ := key
  refine ⟨goInt n, vOf_run ?_, .int _ _⟩
  unfold Builtin.cap_
  simp only [ht, show (⟨[Value.slice b m n]⟩ : Array Value)[0]? = some (Value.slice b m n) from rfl]
  rw [run_ok (run_underlying hu w)]; rfl

theorem mm_ok {mx : Bool} : ∀ {xs : List AVal} {us : List Value} {x v : AVal} {u : Value}, VR ρ x u → VRs ρ xs us → aMM mx x xs = some v → ∀ w, ∃ r, (us.foldlM (if mx then Builtin.max2 else Builtin.min2) u).run P w = .ok r w ∧ VR ρ v r := by
  intro xs
  induction xs with
  | nil => intro us x v u hx hs h w; cases hs; cases h; exact ⟨u, rfl, hx⟩
  | cons y xs ih =>
    intro us x v u hx hs h w
    cases hs with | cons _ u' _ us hy hs =>
    obtain ⟨k, m, h1, h2⟩ := ob2_some (show ob2 (asInt x) (fun k m => ob2 (asInt y) fun k' n => ok? (decide (k = k')) (forceI (mmOf mx m n) fun r => aMM mx (.int k r) xs)) = some v from h)
    obtain ⟨k', n, h3, h4⟩ := ob2_some h2
    obtain ⟨h5, h6⟩ := ok?_some h4
    rw [forceI_eq] at h6
    have := asInt_some h1; subst this
    have := asInt_some h3; subst this
    rw [vr_int hx, vr_int hy]
    obtain ⟨r, hr, hR⟩ := ih (VR.int k (mmOf mx m n)) hs h6 w
    refine ⟨r, ?_, hR⟩
    rw [List.foldlM_cons]
    refine (run_ok (show ((if mx then Builtin.max2 else Builtin.min2) (.int k m) (.int k' n)).run P w = .ok (.int k (mmOf mx m n)) w from ?_)).trans hr
    cases mx with
    | true =>
      simp only [if_true, Builtin.max2, mmOf, cond_true, ltI_eq]
      by_cases g : m < n
      · rw [if_pos g, decide_eq_true g]; rfl
      · rw [if_neg g, decide_eq_false g]; rfl
    | false =>
      simp only [Bool.false_eq_true, if_false, Builtin.min2, mmOf, cond_false, ltI_eq]
      by_cases g : n < m
      · rw [if_pos g, decide_eq_true g]; rfl
      · rw [if_neg g, decide_eq_false g]; rfl

theorem bMM_ok {mx : Bool} {ys : List AOpd} {args : List Value} (hA : ArgsR ρ e ys args) : PuOk P ρ e (vOf (match args with | [] => stuck (if mx then "max: at least one argument expected" else "min: at least one argument expected") | x :: rest => rest.foldlM (if mx then Builtin.max2 else Builtin.min2) x)) (.minmax mx ys) := by
  intro v hv w
  obtain ⟨vs, hvs, hv1⟩ := ob_some (show puMM mx ys e = some v from hv)
  have hR := hA.2 vs hvs
  cases hR with
  | nil => cases hv1
  | cons x u xs us hx hs =>
    obtain ⟨r, hr, hR⟩ := mm_ok (P := P) hx hs hv1 w
    exact ⟨r, vOf_run hr, hR⟩

theorem bSliceData_ok {ts : Array TypeId} {ty : TypeId} {ys : List AOpd} {args : List Value} {a : AOp} (hA : ArgsR ρ e ys args) (h : bSliceData ts ys c = some a) : AopOk P ρ e (vOf (Builtin.unsafeSliceData_ ts ty ⟨args⟩)) a := by
  obtain ⟨y, hy, h1⟩ := ob_some h
  cases h1
  have := one1_some hy; subst this
  obtain ⟨u, rfl, hU⟩ := hA.one
  intro v hv w
  obtain ⟨xv, hxv, hv1⟩ := ob_some (show puSliceData y e = some v from hv)
  obtain ⟨s, hs, hv2⟩ := ob_some hv1
  have hX := hU _ hxv
  cases s with
  | none =>
    cases hv2
    have := asSlice_nil hs; subst this
    rw [vr_slice0 hX]
    exact ⟨.pointer none, vOf_run rfl, .ptr0⟩
  | some s =>
    obtain ⟨b, off, n, k⟩ := s
    have := asSlice_some hs; subst this
    obtain ⟨cb, sz, kk, rfl, hb, g1, g2⟩ := vr_slice hX
    have key : kk ≠ 0 ∧ v = .ptr b off := by
      cases k with
      | exact k =>
        obtain ⟨q1, q2⟩ := ok?_some (show ok? (Nat.ble 1 k) (some (AVal.ptr b off)) = some v from hv2)
        cases q2
        have := Nat.le_of_ble_eq_true q1
        rw [g1 k rfl]
        exact ⟨by omega, rfl⟩
      | grown g =>
        obtain ⟨q1, q2⟩ := ok?_some (show ok? (Nat.ble 1 n) (some (AVal.ptr b off)) = some v from hv2)
        cases q2
        have := Nat.le_of_ble_eq_true q1
        have h3 : n ≤ kk := (g2 g rfl).1
        exact ⟨by omega, rfl⟩
    obtain ⟨hk, rfl⟩ := key
    refine ⟨.pointer (some ⟨cb, off, none⟩), vOf_run ?_, .ptr _ _ _ _ hb⟩
    show (if kk ≠ 0 then pure (Value.pointer (some ⟨cb, off, none⟩)) else _ : Sem Value).run P w = _
    rw [if_pos hk]; rfl

/-- The last number of a list. -/
theorem lastN_eq : ∀ (l : List Nat), lastN l = l.getLast? := by
  intro l
  induction l with
  | nil => rfl
  | cons x l ih => cases l with
    | nil => rfl
    | cons y l => show lastN (y :: l) = _; rw [ih]; simp

theorem entBorn_ok {s : Nat} : ∀ {es : List AEnt} {ms : List MapEntry} {f : AEnt}, EntsR ρ es ms → entBorn s es = some f → ∃ m, ms.find? (fun e => e.born == s) = some m ∧ EntR ρ f m
  | _, _, f, .nil, h => by cases h
  | _, _, f, .cons e m es ms hm hs, h => by
    obtain ⟨ek, ev, eb⟩ := e
    cases hm with | mk _ _ _ u x hu hx =>
    have h : (bif eb.beq s then some (⟨ek, ev, eb⟩ : AEnt) else entBorn s es) = some f := h
    cases g : eb.beq s with
    | true =>
      rw [g] at h; cases h
      have e0 := Nat.eq_of_beq_eq_true g
      exact ⟨_, by simp [e0], .mk _ _ _ _ _ hu hx⟩
    | false =>
      rw [g] at h
      obtain ⟨m, h1, h2⟩ := entBorn_ok hs h
      have hne : ¬ eb = s := fun e0 => by subst e0; rw [Nat.beq_refl] at g; cases g
      exact ⟨m, by simp [List.find?_cons, hne, h1], h2⟩

theorem vr_ptr0 {b : Nat} {v : Value} (h : VR ρ (.ptr b 0) v) : ∃ c n, v = .pointer (some ⟨c, 0, none⟩) ∧ ρ b = some (c, n) := vr_ptr h

theorem cpEntry_ok {x : Operand} {a : AOp} (hE : EvR ρ ws e E [x]) (h : cpEntry x c ws = some a) : AopOk P ρ e (vOf (Instr.entry (E x))) a := by
  obtain ⟨x', hx, h1⟩ := ob_some h
  cases h1
  intro B hp w R v hv
  obtain ⟨xv, hxv, hv1⟩ := ob_some (show rdEntry x' e hp = some v from hv)
  obtain ⟨b, o, hpt, hv2⟩ := ob2_some hv1
  obtain ⟨h0, hv3⟩ := ok?_some hv2
  have h0 := Nat.eq_of_beq_eq_true h0
  subst h0
  obtain ⟨m, q, hit, hv4⟩ := ob2_some hv3
  obtain ⟨since, seen, last⟩ := q
  obtain ⟨mb, hmb, hv5⟩ := ob_some (show ob m (fun m => ob2 (mapAt hp m) fun es clock => ok? (clock.beq last) (ob (lastN seen) fun s => ob (entBorn s es) fun e => AEnt.casesOn (motive := fun _ => Option AVal) e fun k v _ => some (.tup [k, v]))) = some v from hv4)
  subst hmb
  obtain ⟨es, clock, hes, hv6⟩ := ob2_some hv5
  obtain ⟨hcl, hv7⟩ := ok?_some hv6
  have hcl := Nat.eq_of_beq_eq_true hcl
  subst hcl
  obtain ⟨s, hs, hv8⟩ := ob_some hv7
  obtain ⟨f, hf, hv9⟩ := ob_some hv8
  obtain ⟨fk, fv, fb⟩ := f
  cases hv9
  have := asPtr_some hpt; subst this
  obtain ⟨cb, sz, hX, hb⟩ := vr_ptr (hE.at (by simp) hx hxv)
  obtain ⟨m', g1, g2⟩ := R.obj b _ _ (iterAt_some hit) hb
  rcases g2 with ⟨g2, _⟩ | ⟨b', cm, n, g2, rfl, g3⟩
  · cases g2
  · cases g2
    obtain ⟨ents, q1, q2⟩ := R.obj _ _ _ (mapAt_some hes) g3
    obtain ⟨me, q3, q4⟩ := entBorn_ok q2 hf
    cases q4 with | mk _ _ _ u y hu hy =>
    refine ⟨.tuple ⟨[u, y]⟩, vOf_run ?_, .tup _ _ (.cons _ _ _ _ hu (.cons _ _ _ _ hy .nil))⟩
    rw [hX]
    unfold Instr.entry
    refine (run_ok (run_getObj g1 (by intro a t f h; cases h))).trans ?_
    rw [lastN_eq] at hs
    have hback : (⟨seen⟩ : Array Nat).back? = some s := by simpa using hs
    have hfind : ents.find? (fun e => e.born == s) = some ⟨u, y, fb⟩ := by rw [← q3]; simp
    show (match (⟨seen⟩ : Array Nat).back? with | some stamp => _ | _ => _ : Sem Value).run P w = _
    rw [hback]
    refine (run_ok (run_getMap q1)).trans ?_
    simp only [bne_self_eq_false, Bool.false_eq_true, if_false, hfind]
    rfl

end
end Go.Am

/- The small machine against the model: effects; cells are written. -/
namespace Go.Am

/-- What an operation gives, ours and the model's. -/
def NextR (ρ : Rho) (x : AVal) : Next → Prop
  | .value u => VR ρ x u
  | .skip => x = .tup []
  | _ => False

/-- What an effect gives: or an empty tuple. -/
def orT (v : Option AVal) : AVal := v.getD (.tup [])
theorem orTup_eq (v : Option AVal) : orTup v = some (orT v) := by cases v <;> rfl

/-- How an effect of ours (but for a call) is like the model's. -/
def EfOk (P : Program) (ρ : Rho) (e : Env) (s : Sem Next) (f : Env → Hp → R (Option AVal × Hp)) : Prop :=
  ∀ B h w, Rel B ρ h w.heap → ∀ outs, f e h = .ok outs → ∃ v h', (v, h') ∈ outs ∧ ∃ ρ' nx w', s.run P w = .ok nx w' ∧ NextR ρ' (orT v) nx ∧ Rel B ρ' h' w'.heap ∧ Goes ρ h w ρ' h' w'

section
variable {P : Program} {c : Cx} {ρ : Rho} {ws : Ws} {e : Env} {E : Operand → Value} {l : List Operand}

theorem run_store1 {w : World} {cb o : Nat} {arr : Array Value} {t : TypeId} {fz : Nat × Nat} {v : Value} (h : w.heap[cb]? = some (.cells arr t fz)) (ho : o < arr.size) (hf : Free fz arr.size) (hv : v.oneCell = true) :
    (Go.store ⟨cb, o, none⟩ v).run P w = .ok () (w.setCell ⟨cb, o, none⟩ v) := by
  have hc : w.cell? ⟨cb, o, none⟩ = some arr[o] := by rw [cell_of h]; exact Array.getElem?_eq_getElem ho
  have hz : w.frozen? ⟨cb, o, none⟩ = false := by
    unfold World.frozen?
    rw [h]
    obtain ⟨lo, hi⟩ := fz
    have := hf o ho
    simp only at this ⊢
    by_cases a : lo ≤ o
    · by_cases b : o < hi
      · exact absurd ⟨a, b⟩ this
      · simp [b]
    · simp [a]
  unfold Go.store
  cases v <;> first
    | (simp [Value.oneCell] at hv; done)
    | (simp only [Sem.run, hc, hz, Bool.false_eq_true, if_false])

theorem setCell_at {w : World} {cb o : Nat} {arr : Array Value} {t : TypeId} {fz : Nat × Nat} {v : Value} (h : w.heap[cb]? = some (.cells arr t fz)) :
    (w.setCell ⟨cb, o, none⟩ v).heap[cb]? = some (.cells (arr.setIfInBounds o v) t fz) ∧ (w.setCell ⟨cb, o, none⟩ v).heap.size = w.heap.size ∧ ∀ k, k ≠ cb → (w.setCell ⟨cb, o, none⟩ v).heap[k]? = w.heap[k]? := by
  refine ⟨?_, by simp [World.setCell], fun k hk => ?_⟩
  · simp [World.setCell, Array.getElem?_modify, h]
  · simp [World.setCell, Array.getElem?_modify, Ne.symm hk]

theorem run_storeCells {cb o : Nat} {t : TypeId} {fz : Nat × Nat} : ∀ (vs : List Value) (i : Nat) (w : World) (arr : Array Value), w.heap[cb]? = some (.cells arr t fz) → o + i + vs.length ≤ arr.size → Free fz arr.size → (∀ v ∈ vs, v.oneCell = true) →
    ∃ w', (Go.storeCells ⟨cb, o, none⟩ vs i).run P w = .ok () w' ∧ w'.heap.size = w.heap.size ∧ (∀ k, k ≠ cb → w'.heap[k]? = w.heap[k]?) ∧
      w'.heap[cb]? = some (.cells ((vs.zipIdx i).foldl (fun cs p => cs.setIfInBounds (o + p.2) p.1) arr) t fz) ∧ w'.os = w.os ∧ w'.tape = w.tape ∧ w'.output = w.output ∧ w'.drawn = w.drawn := by
  intro vs
  induction vs with
  | nil => intro i w arr h _ _ _; exact ⟨w, rfl, rfl, fun _ _ => rfl, h, rfl, rfl, rfl, rfl⟩
  | cons v vs ih =>
    intro i w arr h hl hf ho
    simp only [List.length_cons] at hl
    obtain ⟨g1, g2, g3⟩ := setCell_at (o := o + i) (v := v) h
    obtain ⟨w', q1, q2, q3, q4, q5, q6, q7, q8⟩ := ih (i + 1) (w.setCell ⟨cb, o + i, none⟩ v) _ g1 (by simp; omega) (by simpa using hf) (fun u hu => ho u (by simp [hu]))
    refine ⟨w', ?_, by rw [q2, g2], fun k hk => by rw [q3 k hk, g3 k hk], ?_, q5, q6, q7, q8⟩
    · show (Go.store ((⟨cb, o, none⟩ : Addr).add i) v >>= fun _ => Go.storeCells ⟨cb, o, none⟩ vs (i + 1)).run P w = _
      rw [addr_add, run_ok (run_store1 h (by omega) hf (ho v (by simp)))]
      exact q1
    · rw [q4, List.zipIdx_cons, List.foldl_cons]

/-- Cells written over a block's. -/
theorem splice_cells {off : Nat} {xs cs r : List AVal} {us : List Value} {arr : Array Value} (h : splice off xs cs = some r) (hx : VRs ρ xs us) (ho : ∀ x ∈ xs, x.oneCell = true) (hc : CellsR ρ cs arr) :
    off + us.length ≤ arr.size ∧ CellsR ρ r ((us.zipIdx 0).foldl (fun cs p => cs.setIfInBounds (off + p.2) p.1) arr) ∧ ((us.zipIdx 0).foldl (fun cs p => cs.setIfInBounds (off + p.2) p.1) arr).size = arr.size := by
  rw [splice_eq] at h
  by_cases g : off + xs.length ≤ cs.length
  · rw [if_pos g] at h
    simp only [Option.some.injEq] at h
    obtain ⟨h1, h2⟩ := foldl_set off us 0 arr
    have l1 := hx.length
    have l2 := hc.1
    refine ⟨by omega, ⟨?_, fun i x hi => ?_⟩, h1⟩
    · rw [h1, ← h]; simp; omega
    · have h2 := h2 i
      simp only [Nat.add_zero] at h2
      rw [h2]
      rw [← h] at hi
      by_cases a : i < off
      · rw [if_neg (by omega)]
        rw [List.append_assoc, List.getElem?_append_left (by simp; omega), List.getElem?_take_of_lt a] at hi
        exact hc.2 i x hi
      · by_cases b : i < off + us.length
        · rw [if_pos (by omega)]
          rw [List.append_assoc, List.getElem?_append_right (by simp; omega), List.getElem?_append_left (by simp; omega)] at hi
          rw [show i - (cs.take off).length = i - off from by simp; omega] at hi
          exact ⟨ho x (List.mem_of_getElem? hi), hx.get _ x hi⟩
        · rw [if_neg (by omega)]
          rw [List.getElem?_append_right (by simp; omega), List.getElem?_drop] at hi
          rw [show off + xs.length + (i - (cs.take off ++ xs).length) = i from by simp; omega] at hi
          exact hc.2 i x hi
  · rw [if_neg g] at h; cases h

theorem one_of {xs : List AVal} {us : List Value} (h : VRs ρ xs us) (ho : ∀ x ∈ xs, x.oneCell = true) : ∀ v ∈ us, v.oneCell = true := by
  intro v hv
  obtain ⟨i, hi⟩ := List.mem_iff_getElem?.1 hv
  have hl := h.length
  have : i < xs.length := by rw [hl]; exact (List.getElem?_eq_some_iff.1 hi).1
  obtain ⟨u, hu, hR⟩ := h.get i _ (List.getElem?_eq_getElem this)
  rw [hi] at hu; cases hu
  rw [hR.oneCell]
  exact ho _ (List.getElem_mem this)

theorem storeAt_ok {B : Base} {b off cb n : Nat} {h h' : Hp} {w : World} {xs : List AVal} {us : List Value} (hs : storeAt h b off xs = some h') (R : Rel B ρ h w.heap) (hb : ρ b = some (cb, n)) (hx : VRs ρ xs us) (ho : ∀ x ∈ xs, x.oneCell = true) :
    ∃ w', (Go.storeCells ⟨cb, off, none⟩ us).run P w = .ok () w' ∧ Rel B ρ h' w'.heap ∧ Goes ρ h w ρ h' w' ∧ w'.drawn = w.drawn := by
  obtain ⟨cs, p, hrow, h1⟩ := ob2_some hs
  obtain ⟨el, rw'⟩ := p
  obtain ⟨h2, h3⟩ := ok?_some (show ok? rw' (ob (splice off xs cs) fun cs => h.upd b (.cells cs el true)) = some h' from h1)
  obtain ⟨cs', h4, h5⟩ := ob_some h3
  subst h2
  have hg := rowAt_some hrow
  obtain ⟨arr, fz, g1, g2, g3, g4⟩ := R.obj b _ _ hg hb
  have hf := g4 rfl
  obtain ⟨q1, q2, q3⟩ := splice_cells h4 hx ho g3
  obtain ⟨w', r1, r2, r3, r4, r5, r6, r7, r8⟩ := run_storeCells (P := P) (o := off) us 0 w arr g1 (by omega) hf (one_of hx ho)
  obtain ⟨a1, a2⟩ := R.update (w := w) (w' := w') hg rfl hb h5 r2 r3 ⟨_, fz, r4, by rw [q3]; exact g2, q2, fun _ => by rw [q3]; exact hf⟩ r5 r6 r7
  exact ⟨w', r1, a1, a2, r8⟩

theorem rE_some {why : String} {x : Er} {outs : List (Option AVal × Hp)} (h : rE why x = .ok outs) : ∃ r, x = some r ∧ outs = [r] := by
  cases x with
  | none => cases h
  | some r => cases h; exact ⟨r, rfl, rfl⟩
theorem rL_some {why : String} {x : Option (List (Option AVal × Hp))} {outs : List (Option AVal × Hp)} (h : rL why x = .ok outs) : x = some outs := by
  cases x with
  | none => cases h
  | some r => cases h; rfl

/-- An effect with one outcome. -/
theorem efOk_one {s : Sem Next} {why : String} {f : Env → Hp → Er} (h : ∀ B h w, Rel B ρ h w.heap → ∀ v h', f e h = some (v, h') → ∃ ρ' nx w', s.run P w = .ok nx w' ∧ NextR ρ' (orT v) nx ∧ Rel B ρ' h' w'.heap ∧ Goes ρ h w ρ' h' w') :
    EfOk P ρ e s (fun e h => rE why (f e h)) := by
  intro B hp w R outs ho
  obtain ⟨⟨v, h'⟩, h1, h2⟩ := rE_some ho
  subst h2
  exact ⟨v, h', by simp, h B hp w R v h' h1⟩

/-- A step without a value. -/
def uOf (s : Sem Unit) : Sem Next := do s; pure .skip
theorem uOf_run {s : Sem Unit} {w w' : World} (h : s.run P w = .ok () w') : (uOf s).run P w = .ok .skip w' := by
  unfold uOf; rw [run_ok h]; rfl

theorem store_ok (T : Ties P c) {t : TypeId} {a x : Operand} {op : AOp} (hE : EvR ρ ws e E [a, x]) (h : cpStore t a x c ws = some op) : ∃ n a' x', op = .ef (.store n a' x') ∧ EfOk P ρ e (uOf (Instr.storeAt t (E a) (E x))) (fun e h => rE "store" (efStore n a' x' e h)) := by
  obtain ⟨n, hn, h1⟩ := ob_some h
  obtain ⟨a', ha, h2⟩ := ob_some h1
  obtain ⟨x', hx, h3⟩ := ob_some h2
  cases h3
  refine ⟨n, a', x', rfl, efOk_one fun B hp w R v h' hv => ?_⟩
  obtain ⟨av, hav, hv1⟩ := ob_some hv
  obtain ⟨b, o, hpt, hv2⟩ := ob2_some hv1
  obtain ⟨xv, hxv, hv3⟩ := ob_some hv2
  obtain ⟨h4, hv4⟩ := ok?_some hv3
  obtain ⟨h'', hst, hv5⟩ := ob_some hv4
  cases hv5
  simp only [andb_eq, Bool.and_eq_true] at h4
  have hl := h4.2
  rw [lenIs_eq] at hl
  simp only [decide_eq_true_eq] at hl
  have := asPtr_some hpt; subst this
  obtain ⟨cb, sz, hA, hb⟩ := vr_ptr (hE.at (by simp) ha hav)
  have hX := hE.at (by simp) hx hxv
  obtain ⟨w', q1, q2, q3, q4⟩ := storeAt_ok (P := P) hst R hb hX.cells (hX.cells_one h4.1)
  refine ⟨ρ, .skip, w', uOf_run ?_, rfl, q2, q3⟩
  rw [hA]
  show (storeVar t ⟨cb, o, none⟩ (E x)).run P w = _
  unfold storeVar
  have e1 : (E x).cells.size = n := by rw [← hl, hX.cells.length, Array.length_toList]
  rw [run_ok (T.size hn w), if_neg (by rw [e1]; simp)]
  exact q1

end
end Go.Am

/- The small machine against the model: maps are written. -/
namespace Go.Am

section
variable {P : Program} {c : Cx} {ρ : Rho} {ws : Ws} {e : Env} {E : Operand → Value} {l : List Operand}

theorem replaceEnt_R {kd : EqD} {x v : AVal} : ∀ {es : List AEnt} {j : Nat} {f : AEnt}, FindR kd x es (some (j, f)) → replaceEnt kd x v es = some (es.set j ⟨x, v, f.born⟩)
  | _, _, _, .hit ⟨k, w, b⟩ es h => by
    show ob (aEq kd x k) (fun t => bif t then some (⟨x, v, b⟩ :: es) else ob (replaceEnt kd x v es) fun r => some (⟨k, w, b⟩ :: r)) = _
    rw [h]; rfl
  | _, _, _, .some ⟨k, w, b⟩ es j f h hs => by
    show ob (aEq kd x k) (fun t => bif t then some (⟨x, v, b⟩ :: es) else ob (replaceEnt kd x v es) fun r => some (⟨k, w, b⟩ :: r)) = _
    rw [h]
    show ob (replaceEnt kd x v es) (fun r => some (⟨k, w, b⟩ :: r)) = _
    rw [replaceEnt_R hs]; rfl

theorem removeEnt_some {kd : EqD} {x : AVal} : ∀ {es : List AEnt} {j : Nat} {f : AEnt}, FindR kd x es (some (j, f)) → removeEnt kd x es = some (es.eraseIdx j)
  | _, _, _, .hit ⟨k, w, b⟩ es h => by
    show ob (aEq kd x k) (fun t => bif t then some es else ob (removeEnt kd x es) fun r => some (⟨k, w, b⟩ :: r)) = _
    rw [h]; rfl
  | _, _, _, .some ⟨k, w, b⟩ es j f h hs => by
    show ob (aEq kd x k) (fun t => bif t then some es else ob (removeEnt kd x es) fun r => some (⟨k, w, b⟩ :: r)) = _
    rw [h]
    show ob (removeEnt kd x es) (fun r => some (⟨k, w, b⟩ :: r)) = _
    rw [removeEnt_some hs]; rfl
theorem removeEnt_none {kd : EqD} {x : AVal} : ∀ {es : List AEnt}, FindR kd x es none → removeEnt kd x es = some es
  | _, .nil => rfl
  | _, .none ⟨k, w, b⟩ es h hs => by
    show ob (aEq kd x k) (fun t => bif t then some es else ob (removeEnt kd x es) fun r => some (⟨k, w, b⟩ :: r)) = _
    rw [h]
    show ob (removeEnt kd x es) (fun r => some (⟨k, w, b⟩ :: r)) = _
    rw [removeEnt_none hs]; rfl

/-- What comes of taking an entry away is a search, too. -/
theorem removeEnt_R {kd : EqD} {x : AVal} : ∀ {es r : List AEnt}, removeEnt kd x es = some r → ∃ q, FindR kd x es q := by
  intro es
  induction es with
  | nil => intro r _; exact ⟨_, .nil⟩
  | cons e es ih =>
    intro r h
    obtain ⟨k, w, b⟩ := e
    obtain ⟨t, ht, h1⟩ := ob_some (show ob (aEq kd x k) (fun t => bif t then some es else ob (removeEnt kd x es) fun r => some (⟨k, w, b⟩ :: r)) = some r from h)
    cases t with
    | true => exact ⟨_, .hit _ _ ht⟩
    | false =>
      obtain ⟨r', hr, _⟩ := ob_some (show ob (removeEnt kd x es) (fun r => some (⟨k, w, b⟩ :: r)) = some r from h1)
      obtain ⟨q, hq⟩ := ih hr
      cases q with
      | none => exact ⟨_, .none _ _ ht hq⟩
      | some p => exact ⟨_, .some _ _ _ _ ht hq⟩

theorem findR_at {kd : EqD} {x : AVal} : ∀ {es : List AEnt} {j : Nat} {f : AEnt}, FindR kd x es (some (j, f)) → es[j]? = some f ∧ aEq kd x f.key = some true
  | _, _, _, .hit e es h => ⟨rfl, h⟩
  | _, _, _, .some e es j f h hs => by obtain ⟨h1, h2⟩ := findR_at hs; exact ⟨by simpa using h1, h2⟩

theorem addEnt_eq (x : AEnt) : ∀ es : List AEnt, addEnt x es = some (es ++ [x]) := by
  intro es
  induction es with
  | nil => rfl
  | cons y es ih => show ob (addEnt x es) (fun r => some (y :: r)) = _; rw [ih]; rfl

theorem EntsR.set : ∀ {es : List AEnt} {ms : List MapEntry} {j : Nat} {f' : AEnt} {g : MapEntry → MapEntry}, EntsR ρ es ms → (∀ m, ms[j]? = some m → EntR ρ f' (g m)) → EntsR ρ (es.set j f') (ms.modify j g)
  | _, _, j, f', g, .nil, _ => by cases j <;> exact .nil
  | _, _, 0, f', g, .cons e m es ms h hs, hg => .cons _ _ _ _ (hg m rfl) hs
  | _, _, j + 1, f', g, .cons e m es ms h hs, hg => .cons _ _ _ _ h (EntsR.set hs fun m hm => hg m (by simpa using hm))

theorem EntsR.append : ∀ {es fs : List AEnt} {ms ns : List MapEntry}, EntsR ρ es ms → EntsR ρ fs ns → EntsR ρ (es ++ fs) (ms ++ ns)
  | _, _, _, _, .nil, h => h
  | _, _, _, _, .cons e m es ms h hs, g => .cons _ _ _ _ h (EntsR.append hs g)

theorem EntsR.erase : ∀ {es : List AEnt} {ms : List MapEntry} (j : Nat), EntsR ρ es ms → EntsR ρ (es.eraseIdx j) (ms.eraseIdx j)
  | _, _, j, .nil => .nil
  | _, _, 0, .cons e m es ms h hs => hs
  | _, _, j + 1, .cons e m es ms h hs => .cons _ _ _ _ h (EntsR.erase j hs)

theorem sc_bits {k : Sc} {x y : AVal} {u v : Value} {n : Nat} (h : k.eq x y = some true) (hx : VR ρ x u) (hy : VR ρ y v) : Instr.sameBits n v u = true := by
  cases k with
  | b =>
    obtain ⟨a, b, rfl, rfl, hr⟩ := eqB_some h
    rw [vr_bool hx, vr_bool hy]
    have : a = b := by simpa using hr.symm
    subst this
    cases n <;> simp [Instr.sameBits]
  | i =>
    obtain ⟨k, a, b, rfl, rfl, hr⟩ := eqN_some h
    rw [vr_int hx, vr_int hy]
    have : a = b := by simpa using hr.symm
    subst this
    cases n <;> simp [Instr.sameBits]
  | s =>
    obtain ⟨a, b, rfl, rfl, hr⟩ := eqS_some h
    obtain ⟨s, rfl, rfl⟩ := vr_str hx
    obtain ⟨s', rfl, rfl⟩ := vr_str hy
    have hb : (s' == s) = true := by
      rw [str_beq, strEq_eq]
      rw [strEq_eq] at hr
      have : nums s = nums s' := by simpa using hr.symm
      simp [this]
    cases n <;> simp [Instr.sameBits, hb]

theorem cells_bits {n : Nat} : ∀ {l : List Sc} {xs ys : List AVal} {us vs : List Value}, cellsEq l xs ys = some true → VRs ρ xs us → VRs ρ ys vs → us.length = vs.length ∧ (vs.zip us).all (fun p => Instr.sameBits n p.1 p.2) = true
  | [], [], [], _, _, _, .nil, .nil => ⟨rfl, rfl⟩
  | k :: l, x :: xs, y :: ys, _, _, h, .cons _ u _ us hx hxs, .cons _ v _ vs hy hys => by
    obtain ⟨p, hp, h1⟩ := ob_some (show ob (k.eq x y) (fun p => ob (cellsEq l xs ys) fun q => some (p && q)) = some true from h)
    obtain ⟨q, hq, h2⟩ := ob_some h1
    have h2 : (p && q) = true := by simpa using h2
    simp only [Bool.and_eq_true] at h2
    obtain ⟨rfl, rfl⟩ := h2
    obtain ⟨g1, g2⟩ := cells_bits (n := n) hq hxs hys
    refine ⟨by simp [g1], ?_⟩
    simp only [List.zip_cons_cons, List.all_cons, g2, Bool.and_true]
    exact sc_bits hp hx hy

theorem keyStays_ok {kd : EqD} {x y : AVal} {u v : Value} (hs : (∃ k, kd = .sc k) ∨ ∃ l, kd = .cells l) (h : aEq kd x y = some true) (hx : VR ρ x u) (hy : VR ρ y v) (w : World) : (Instr.keyThatStays v u).run P w = .ok u w := by
  have hb : Instr.sameBits 10000 v u = true := by
    rcases hs with ⟨k, rfl⟩ | ⟨l, rfl⟩
    · exact sc_bits h hx hy
    · obtain ⟨xs, h1, h2⟩ := ob_some h
      obtain ⟨ys, h3, h4⟩ := ob_some h2
      have := asAgg_some h1; subst this
      have := asAgg_some h3; subst this
      obtain ⟨us, rfl, hu, _⟩ := vr_agg hx
      obtain ⟨vs, rfl, hv, _⟩ := vr_agg hy
      obtain ⟨g1, g2⟩ := cells_bits (n := 9999) h4 hu hv
      have : ∃ n, (∀ a b, Instr.sameBits 10000 a b = Instr.sameBits (n + 1) a b) ∧ n = 9999 := ⟨9999, fun _ _ => rfl, rfl⟩
      obtain ⟨n, hn, hn'⟩ := this
      rw [hn]
      rw [← hn'] at g2
      simp only [Instr.sameBits, Bool.and_eq_true]
      exact ⟨by simp [g1], g2⟩
  unfold Instr.keyThatStays
  rw [if_pos hb]; rfl

/-- A map is written anew. -/
theorem setMap_ok {B : Base} {b cb n k k' : Nat} {h h' : Hp} {w : World} {es es' : List AEnt} {ents ents' : Array MapEntry} (R : Rel B ρ h w.heap) (hg : h.get b = some (.map es k)) (hb : ρ b = some (cb, n)) (hw : w.heap[cb]? = some (.map ents k)) (hu : h.upd b (.map es' k') = some h') (he : EntsR ρ es' ents'.toList) :
    ∃ w', (setObj cb (.map ents' k')).run P w = .ok () w' ∧ Rel B ρ h' w'.heap ∧ Goes ρ h w ρ h' w' := by
  have hlt : cb < w.heap.size := (Array.getElem?_eq_some_iff.1 hw).1
  refine ⟨{ w with heap := w.heap.setIfInBounds cb (.map ents' k') }, ?_, ?_⟩
  · unfold setObj; simp only [Sem.run, hw]
  · exact R.update (w := w) (w' := { w with heap := w.heap.setIfInBounds cb (.map ents' k') }) hg rfl hb hu (by simp) (fun q hq => by simp [Array.getElem?_setIfInBounds, Ne.symm hq]) ⟨ents', by simp [Array.getElem?_setIfInBounds, hlt], he⟩ rfl rfl rfl

theorem vr_map {b : Nat} {v : Value} (h : VR ρ (.map b) v) : ∃ cb n, v = .map (some cb) ∧ ρ b = some (cb, n) := by cases h with | map _ c n h => exact ⟨c, n, rfl, h⟩

theorem modify_toList (a : Array MapEntry) (j : Nat) (g : MapEntry → MapEntry) : (a.modify j g).toList = a.toList.modify j g := by simp

theorem mapUpdate_ok (T : Ties P c) {t : TypeId} {m k x : Operand} {op : AOp} (hE : EvR ρ ws e E [m, k, x]) (h : cpInsert t m k x c ws = some op) :
    ∃ kd m' k' x', op = .ef (.mapUpdate kd m' k' x') ∧ EfOk P ρ e (uOf (Instr.mapUpdate t (E m) (E k) (E x))) (fun e h => rE "mapUpdate" (efMapUpdate kd m' k' x' e h)) := by
  obtain ⟨d, hd, h1⟩ := ob_some h
  obtain ⟨p, hp, h2⟩ := ob_some h1
  obtain ⟨m', hm, h3⟩ := ob_some h2
  obtain ⟨k', hk, h4⟩ := ob_some h3
  obtain ⟨x', hx, h5⟩ := ob_some h4
  obtain ⟨kd, hkd, h6⟩ := ob_some h5
  cases h6
  obtain ⟨kt, et⟩ := p
  have := tdMap_some hp; subst this
  have hu := T.und hd
  obtain ⟨hf, hs⟩ := keyd_fit T hkd
  refine ⟨kd, m', k', x', rfl, efOk_one fun B hp w R v h' hv => ?_⟩
  obtain ⟨mv, hmv, hv1⟩ := ob_some hv
  obtain ⟨mm, hmm, hv2⟩ := ob_some hv1
  obtain ⟨b, hmb, hv3⟩ := ob_some hv2
  subst hmb
  obtain ⟨kv, hkv, hv4⟩ := ob_some hv3
  obtain ⟨xv, hxv, hv5⟩ := ob_some hv4
  obtain ⟨es, clock, hes, hv6⟩ := ob2_some hv5
  obtain ⟨r0, hr0, hv7⟩ := ob_some hv6
  obtain ⟨en, hen, hv8⟩ := ob_some hv7
  obtain ⟨q, hq, rfl⟩ := findEnt_R hen
  have := asMap_some hmm; subst this
  have hK := hE.at (by simp) hk hkv
  have hX := hE.at (by simp) hx hxv
  obtain ⟨cb, n, hM, hb⟩ := vr_map (hE.at (by simp) hm hmv)
  have hg := mapAt_some hes
  obtain ⟨ents, q1, q2⟩ := R.obj b _ _ hg hb
  obtain ⟨r, g1, g2⟩ := findKey_ok (P := P) hf hs hK hr0 hq q2 (keyd_cells T hkd) w
  have hrun : ∀ w', ((match r with
      | some (i, _) => do
        let key ← Instr.keyThatStays (((ents[i]?).map (·.key)).getD (E k)) (E k)
        setObj cb (.map (ents.modify i fun e => { e with key, val := E x }) clock)
      | none => setObj cb (.map (ents.push { key := E k, val := E x, born := clock }) (clock + 1)) : Sem Unit)).run P w = .ok () w' →
      (uOf (Instr.mapUpdate t (E m) (E k) (E x))).run P w = .ok .skip w' := by
    intro w' hw'
    refine uOf_run ?_
    rw [hM]
    unfold Instr.mapUpdate
    rw [run_ok (run_underlying hu w)]
    refine (run_ok (run_getMap q1)).trans ?_
    refine (run_ok (checkKey_ok hf hs hK hr0 w)).trans ?_
    refine (run_ok g1).trans ?_
    rw [← hw']
    cases r <;> rfl
  cases q with
  | none =>
    have : r = none := g2
    subst this
    have hv9 : forceN clock (fun clock => ob (addEnt ⟨kv, xv, clock⟩ es) fun es => ob (hp.upd b (.map es (clock + 1))) fun h' => some ((none : Option AVal), h')) = some (v, h') := hv8
    rw [forceN_eq, addEnt_eq] at hv9
    obtain ⟨h'', hup, hv10⟩ := ob_some (show ob (hp.upd b (.map (es ++ [⟨kv, xv, clock⟩]) (clock + 1))) (fun h' => some ((none : Option AVal), h')) = some (v, h') from hv9)
    cases hv10
    obtain ⟨w', a1, a2, a3⟩ := setMap_ok (P := P) (ents' := ents.push { key := E k, val := E x, born := clock }) R hg hb q1 hup (by
      rw [Array.toList_push]
      exact q2.append (.cons _ _ _ _ (.mk _ _ _ _ _ hK hX) .nil))
    exact ⟨ρ, .skip, w', hrun w' a1, rfl, a2, a3⟩
  | some p =>
    obtain ⟨j, f⟩ := p
    obtain ⟨m0, hm0, hR, rfl⟩ := g2
    have hv9 : ob (replaceEnt kd kv xv es) (fun es => ob (hp.upd b (.map es clock)) fun h' => some ((none : Option AVal), h')) = some (v, h') := hv8
    rw [replaceEnt_R hq] at hv9
    obtain ⟨h'', hup, hv10⟩ := ob_some (show ob (hp.upd b (.map (es.set j ⟨kv, xv, f.born⟩) clock)) (fun h' => some ((none : Option AVal), h')) = some (v, h') from hv9)
    cases hv10
    obtain ⟨f1, f2⟩ := findR_at hq
    have hm1 : ents[j]? = some m0 := by simpa using hm0
    have hkey : VR ρ f.key m0.key := by cases hR; assumption
    obtain ⟨w', a1, a2, a3⟩ := setMap_ok (P := P) (ents' := ents.modify j fun e => { e with key := E k, val := E x }) R hg hb q1 hup (by
      rw [modify_toList]
      refine q2.set fun m hm => ?_
      rw [hm0] at hm; cases hm
      have : f.born = m0.born := by cases hR; rfl
      rw [this]
      exact .mk _ _ _ _ _ hK hX)
    refine ⟨ρ, .skip, w', hrun w' ?_, rfl, a2, a3⟩
    simp only [Nat.zero_add, hm1, Option.map_some, Option.getD_some]
    rw [run_ok (keyStays_ok hs f2 hK hkey w)]
    exact a1

end
end Go.Am

/- The small machine against the model: more effects on maps; iterators. -/
namespace Go.Am

section
variable {P : Program} {c : Cx} {ρ : Rho} {ws : Ws} {e : Env} {E : Operand → Value} {l : List Operand}

theorem mapEntry_ok (T : Ties P c) {t : TypeId} {m k : Operand} {op : AOp} (hE : EvR ρ ws e E [m, k]) (h : cpMapEntry t m k c ws = some op) :
    ∃ kd z m' k', op = .ef (.mapEntry kd z m' k') ∧ EfOk P ρ e (vOf (Instr.mapEntry t (E m) (E k))) (fun e h => rE "mapEntry" (efMapEntry kd z m' k' e h)) := by
  obtain ⟨d, hd, h1⟩ := ob_some h
  obtain ⟨p, hp, h2⟩ := ob_some h1
  obtain ⟨m', hm, h3⟩ := ob_some h2
  obtain ⟨k', hk, h4⟩ := ob_some h3
  obtain ⟨kd, hkd, h5⟩ := ob_some h4
  obtain ⟨z, hz, h6⟩ := ob_some h5
  cases h6
  obtain ⟨kt, et⟩ := p
  have := tdMap_some hp; subst this
  have hu := T.und hd
  obtain ⟨hf, hs⟩ := keyd_fit T hkd
  obtain ⟨zu, hzR, hzrun⟩ := zero_run (ρ := ρ) T hz
  refine ⟨kd, z, m', k', rfl, efOk_one fun B hp w R v h' hv => ?_⟩
  obtain ⟨mv, hmv, hv1⟩ := ob_some hv
  obtain ⟨mm, hmm, hv2⟩ := ob_some hv1
  obtain ⟨b, hmb, hv3⟩ := ob_some hv2
  subst hmb
  obtain ⟨kv, hkv, hv4⟩ := ob_some hv3
  obtain ⟨es, clock, hes, hv6⟩ := ob2_some hv4
  obtain ⟨r0, hr0, hv7⟩ := ob_some hv6
  obtain ⟨en, hen, hv8⟩ := ob_some hv7
  obtain ⟨q, hq, rfl⟩ := findEnt_R hen
  have := asMap_some hmm; subst this
  have hK := hE.at (by simp) hk hkv
  obtain ⟨cb, n, hM, hb⟩ := vr_map (hE.at (by simp) hm hmv)
  have hg := mapAt_some hes
  obtain ⟨ents, q1, q2⟩ := R.obj b _ _ hg hb
  obtain ⟨r, g1, g2⟩ := findKey_ok (P := P) hf hs hK hr0 hq q2 (keyd_cells T hkd) w
  have hrun : ∀ w' u, ((match r with
      | some (i, v) => do
        let key ← Instr.keyThatStays (((ents[i]?).map (·.key)).getD (E k)) (E k)
        setObj cb (.map (ents.modify i fun e => { e with key }) clock)
        pure (.tuple #[v, goInt (((ents[i]?).map (·.born)).getD 0)])
      | none => do
        let zero ← zeroValue et
        setObj cb (.map (ents.push { key := E k, val := zero, born := clock }) (clock + 1))
        pure (.tuple #[zero, goInt clock]) : Sem Value)).run P w = .ok u w' →
      (vOf (Instr.mapEntry t (E m) (E k))).run P w = .ok (.value u) w' := by
    intro w' u hw'
    refine vOf_run ?_
    rw [hM]
    unfold Instr.mapEntry
    rw [run_ok (run_underlying hu w)]
    refine (run_ok (run_getMap q1)).trans ?_
    refine (run_ok (checkKey_ok hf hs hK hr0 w)).trans ?_
    refine (run_ok g1).trans ?_
    rw [← hw']
    cases r <;> rfl
  cases q with
  | none =>
    have : r = none := g2
    subst this
    have hv9 : forceN clock (fun clock => ob (addEnt ⟨kv, z, clock⟩ es) fun es => ob (hp.upd b (.map es (clock + 1))) fun h' => some (some (AVal.tup [z, .int .i64 (.ofNat clock)]), h')) = some (v, h') := hv8
    rw [forceN_eq, addEnt_eq] at hv9
    obtain ⟨h'', hup, hv10⟩ := ob_some (show ob (hp.upd b (.map (es ++ [⟨kv, z, clock⟩]) (clock + 1))) (fun h' => some (some (AVal.tup [z, .int .i64 (.ofNat clock)]), h')) = some (v, h') from hv9)
    cases hv10
    obtain ⟨w', a1, a2, a3⟩ := setMap_ok (P := P) (ents' := ents.push { key := E k, val := zu, born := clock }) R hg hb q1 hup (by
      rw [Array.toList_push]
      exact q2.append (.cons _ _ _ _ (.mk _ _ _ _ _ hK hzR) .nil))
    refine ⟨ρ, .value (.tuple ⟨[zu, goInt clock]⟩), w', hrun w' _ ?_, .tup _ _ (.cons _ _ _ _ hzR (.cons _ _ _ _ (.int _ _) .nil)), a2, a3⟩
    refine (run_ok (hzrun w)).trans ?_
    exact (run_ok a1).trans rfl
  | some p =>
    obtain ⟨j, f⟩ := p
    obtain ⟨fk, fv, fb⟩ := f
    obtain ⟨m0, hm0, hR, rfl⟩ := g2
    have hv9 : ob (replaceEnt kd kv fv es) (fun es => ob (hp.upd b (.map es clock)) fun h' => some (some (AVal.tup [fv, .int .i64 (.ofNat fb)]), h')) = some (v, h') := hv8
    rw [replaceEnt_R hq] at hv9
    obtain ⟨h'', hup, hv10⟩ := ob_some (show ob (hp.upd b (.map (es.set j ⟨kv, fv, fb⟩) clock)) (fun h' => some (some (AVal.tup [fv, .int .i64 (.ofNat fb)]), h')) = some (v, h') from hv9)
    cases hv10
    obtain ⟨f1, f2⟩ := findR_at hq
    have hm1 : ents[j]? = some m0 := by simpa using hm0
    cases hR with | mk _ _ _ mk mv hkey hval =>
    obtain ⟨w', a1, a2, a3⟩ := setMap_ok (P := P) (ents' := ents.modify j fun e => { e with key := E k }) R hg hb q1 hup (by
      rw [modify_toList]
      refine q2.set fun m hm => ?_
      rw [hm0] at hm; cases hm
      exact .mk _ _ _ _ _ hK hval)
    refine ⟨ρ, .value (.tuple ⟨[mv, goInt fb]⟩), w', hrun w' _ ?_, .tup _ _ (.cons _ _ _ _ hval (.cons _ _ _ _ (.int _ _) .nil)), a2, a3⟩
    simp only [Nat.zero_add, hm1, Option.map_some, Option.getD_some]
    rw [run_ok (keyStays_ok hs f2 hK hkey w)]
    exact (run_ok a1).trans rfl

/-- An entry by its birth. -/
theorem updBorn_ok {s : Nat} {x : AVal} {u : Value} (hx : VR ρ x u) : ∀ {es r : List AEnt} {ms : List MapEntry}, EntsR ρ es ms → updBorn s x es = some r → ∃ j, ms.findIdx? (fun e => (e.born : Int) == (s : Int)) = some j ∧ EntsR ρ r (ms.modify j fun e => { e with val := u })
  | _, _, _, .nil, h => by cases h
  | _, r, _, .cons e m es ms hm hs, h => by
    obtain ⟨ek, ev, eb⟩ := e
    cases hm with | mk _ _ _ mk mv hk hv =>
    have h : (bif eb.beq s then some (⟨ek, x, eb⟩ :: es) else ob (updBorn s x es) fun r => some (⟨ek, ev, eb⟩ :: r)) = some r := h
    cases g : eb.beq s with
    | true =>
      rw [g] at h; cases h
      have e0 := Nat.eq_of_beq_eq_true g
      subst e0
      exact ⟨0, by simp [List.findIdx?_cons], .cons _ _ _ _ (.mk _ _ _ _ _ hk hx) hs⟩
    | false =>
      rw [g] at h
      obtain ⟨r', hr, h2⟩ := ob_some (show ob (updBorn s x es) (fun r => some ((⟨ek, ev, eb⟩ : AEnt) :: r)) = some r from h)
      cases h2
      obtain ⟨j, h1, h2⟩ := updBorn_ok hx hs hr
      have hne : ¬ (eb : Int) = (s : Int) := fun e0 => by
        have : eb = s := by omega
        subst this; rw [Nat.beq_refl] at g; cases g
      exact ⟨j + 1, by simp [List.findIdx?_cons, hne, h1], .cons _ _ _ _ (.mk _ _ _ _ _ hk hv) h2⟩

theorem entryStore_ok {t : TypeId} {m s x : Operand} {op : AOp} (hE : EvR ρ ws e E [m, s, x]) (h : cpEntryStore t m s x c ws = some op) :
    ∃ m' s' x', op = .ef (.entryStore m' s' x') ∧ EfOk P ρ e (uOf (Instr.entryStore t (E m) (E s) (E x))) (fun e h => rE "entryStore" (efEntryStore m' s' x' e h)) := by
  obtain ⟨m', hm, h1⟩ := ob_some h
  obtain ⟨s', hs, h2⟩ := ob_some h1
  obtain ⟨x', hx, h3⟩ := ob_some h2
  cases h3
  refine ⟨m', s', x', rfl, efOk_one fun B hp w R v h' hv => ?_⟩
  obtain ⟨mv, hmv, hv1⟩ := ob_some hv
  obtain ⟨mm, hmm, hv2⟩ := ob_some hv1
  obtain ⟨b, hmb, hv3⟩ := ob_some hv2
  subst hmb
  obtain ⟨sv, hsv, hv4⟩ := ob_some hv3
  obtain ⟨sn, hsn, hv5⟩ := ob_some hv4
  obtain ⟨xv, hxv, hv6⟩ := ob_some hv5
  obtain ⟨es, clock, hes, hv7⟩ := ob2_some hv6
  obtain ⟨es', hup0, hv8⟩ := ob_some hv7
  obtain ⟨h'', hup, hv9⟩ := ob_some hv8
  cases hv9
  have := asMap_some hmm; subst this
  obtain ⟨kk, rfl⟩ := asNat_some hsn
  have hX := hE.at (by simp) hx hxv
  have hS := vr_int (hE.at (by simp) hs hsv)
  obtain ⟨cb, n, hM, hb⟩ := vr_map (hE.at (by simp) hm hmv)
  have hg := mapAt_some hes
  obtain ⟨ents, q1, q2⟩ := R.obj b _ _ hg hb
  obtain ⟨j, g1, g2⟩ := updBorn_ok hX q2 hup0
  obtain ⟨w', a1, a2, a3⟩ := setMap_ok (P := P) (ents' := ents.modify j fun e => { e with val := E x }) R hg hb q1 hup (by rw [modify_toList]; exact g2)
  refine ⟨ρ, .skip, w', uOf_run ?_, rfl, a2, a3⟩
  rw [hM, hS]
  unfold Instr.entryStore
  refine (run_ok (run_getMap q1)).trans ?_
  refine (run_ok (show (Go.asInt (.int kk (sn : Int))).run P w = .ok (sn : Int) w from rfl)).trans ?_
  have hfi : ents.findIdx? (fun e => (e.born : Int) == (sn : Int)) = some j := by
    obtain ⟨ents⟩ := ents
    simpa using g1
  rw [hfi]
  exact a1

theorem bDelete_ok (T : Ties P c) {ts : Array TypeId} {ty : TypeId} {ys : List AOpd} {args : List Value} {a : AOp} (hA : ArgsR ρ e ys args) (h : bDelete ts ys c = some a) :
    ∃ kd m k, a = .ef (.delete kd m k) ∧ EfOk P ρ e (vOf (Builtin.delete_ ts ty ⟨args⟩)) (fun e h => rE "delete" (efDelete kd m k e h)) := by
  obtain ⟨p, hp, h1⟩ := ob_some h
  obtain ⟨t, ht, h2⟩ := ob_some h1
  obtain ⟨d, hd, h3⟩ := ob_some h2
  obtain ⟨q, hq, h4⟩ := ob_some h3
  obtain ⟨kd, hkd, h5⟩ := ob_some h4
  cases h5
  obtain ⟨kt, et⟩ := q
  have := tdMap_some hq; subst this
  have := two2_some hp; subst this
  obtain ⟨u, u', rfl, hU⟩ := hA.two
  have hu := T.und hd
  obtain ⟨hf, hs⟩ := keyd_fit T hkd
  refine ⟨kd, p.1, p.2, rfl, efOk_one fun B hp w R v h' hv => ?_⟩
  obtain ⟨mv, hmv, hv1⟩ := ob_some hv
  obtain ⟨mm, hmm, hv2⟩ := ob_some hv1
  obtain ⟨kv, hkv, hv3⟩ := ob_some hv2
  obtain ⟨r0, hr0, hv4⟩ := ob_some hv3
  obtain ⟨hM, hK⟩ := hU _ _ hmv hkv
  cases mm with
  | none =>
    cases hv4
    have := asMap_nil hmm; subst this
    have hM' : u = .map none := by cases hM; rfl
    subst hM'
    refine ⟨ρ, .value (.tuple ⟨[]⟩), w, vOf_run ?_, .tup _ _ .nil, R, Goes.refl _ _ _⟩
    unfold Builtin.delete_
    simp only [ht, show (⟨[Value.map none, u']⟩ : Array Value)[0]? = some (.map none) from rfl, show (⟨[Value.map none, u']⟩ : Array Value)[1]? = some u' from rfl]
    rw [run_ok (run_underlying hu w)]
    exact (run_ok (checkKey_ok hf hs hK hr0 w)).trans rfl
  | some b =>
    obtain ⟨es, clock, hes, hv5⟩ := ob2_some (show ob2 (mapAt hp b) (fun es clock => ob (removeEnt kd kv es) fun es => ob (hp.upd b (.map es clock)) fun h' => some (some (AVal.tup []), h')) = some (v, h') from hv4)
    obtain ⟨es', hre, hv6⟩ := ob_some hv5
    obtain ⟨h'', hup, hv7⟩ := ob_some hv6
    cases hv7
    have := asMap_some hmm; subst this
    obtain ⟨cb, n, rfl, hb⟩ := vr_map hM
    have hg := mapAt_some hes
    obtain ⟨ents, q1, q2⟩ := R.obj b _ _ hg hb
    obtain ⟨q, hq⟩ := removeEnt_R hre
    obtain ⟨r, g1, g2⟩ := findKey_ok (P := P) hf hs hK hr0 hq q2 (keyd_cells T hkd) w
    have head : ∀ (w' : World) (s : Sem Unit), s.run P w = .ok () w' → (match r with | some (i, _) => setObj cb (.map (ents.eraseIdxIfInBounds i) clock) | none => setObj cb (.map ents clock)) = s →
        (vOf (Builtin.delete_ ts ty ⟨[.map (some cb), u']⟩)).run P w = .ok (.value (.tuple ⟨[]⟩)) w' := by
      intro w' s hw' hs'
      refine vOf_run ?_
      unfold Builtin.delete_
      simp only [ht, show (⟨[Value.map (some cb), u']⟩ : Array Value)[0]? = some (.map (some cb)) from rfl, show (⟨[Value.map (some cb), u']⟩ : Array Value)[1]? = some u' from rfl]
      rw [run_ok (run_underlying hu w)]
      refine (run_ok (run_getMap q1)).trans ?_
      refine (run_ok (checkKey_ok hf hs hK hr0 w)).trans ?_
      refine (run_ok g1).trans ?_
      subst hs'
      cases r with
      | none => exact (run_ok hw').trans rfl
      | some p => exact (run_ok hw').trans rfl
    cases q with
    | none =>
      have : r = none := g2
      subst this
      rw [removeEnt_none hq] at hre
      cases hre
      obtain ⟨w', a1, a2, a3⟩ := setMap_ok (P := P) (ents' := ents) R hg hb q1 hup q2
      exact ⟨ρ, _, w', head w' _ a1 rfl, .tup _ _ .nil, a2, a3⟩
    | some p =>
      obtain ⟨j, f⟩ := p
      obtain ⟨m0, hm0, hR, rfl⟩ := g2
      rw [removeEnt_some hq] at hre
      cases hre
      have hlt : j < ents.size := by
        have := (List.getElem?_eq_some_iff.1 hm0).1
        simpa using this
      obtain ⟨w', a1, a2, a3⟩ := setMap_ok (P := P) (ents' := ents.eraseIdxIfInBounds j) R hg hb q1 hup (by
        rw [show (ents.eraseIdxIfInBounds j).toList = ents.toList.eraseIdx j from by simp [Array.eraseIdxIfInBounds, hlt]]
        exact q2.erase j)
      exact ⟨ρ, _, w', head w' _ a1 (by simp), .tup _ _ .nil, a2, a3⟩

/-- A new block, in the world too. -/
theorem Rel.alloc {B : Base} {n : Nat} {h : Hp} {w w' : World} {o : AObj} {obj : Obj} (R : Rel B ρ h w.heap) (hw : w'.heap = w.heap.push obj) (ho : ORel (ρ.set h.next (w.heap.size, n)) o (w.heap.size, n) w'.heap)
    (os : w'.os = w.os) (tape : w'.tape = w.tape) (output : w'.output = w.output) (hwo : o.wr = true := by rfl) :
    Rel B (ρ.set h.next (w.heap.size, n)) (h.plus o) w'.heap ∧ Goes ρ h w (ρ.set h.next (w.heap.size, n)) (h.plus o) w' := by
  obtain ⟨f1, f2⟩ := R.fresh h.next (Nat.le_refl _)
  have hext : Ext' ρ (ρ.set h.next (w.heap.size, n)) := Rho.set_ext f1
  have hold : ∀ k, k < w.heap.size → w'.heap[k]? = w.heap[k]? := fun k hk => by
    rw [hw, Array.getElem?_push]
    rw [if_neg (by omega)]
  have hcase : ∀ c q p, (h.plus o).get c = some q → (ρ.set h.next (w.heap.size, n)) c = some p → (c = h.next ∧ q = o ∧ p = (w.heap.size, n)) ∨ (c ≠ h.next ∧ h.get c = some q ∧ ρ c = some p) := by
    intro c q p h1 h2
    rw [Hp.get_plus] at h1
    by_cases e : c = h.next
    · subst e
      rw [if_pos rfl] at h1; cases h1
      rw [Rho.set_same] at h2; cases h2
      exact .inl ⟨rfl, rfl, rfl⟩
    · rw [if_neg e] at h1
      rw [Rho.set_ne e] at h2
      exact .inr ⟨e, h1, h2⟩
  have hro := R.roLe
  refine ⟨⟨?_, ?_, ?_, ?_, ?_, ?_, by show h.ro ≤ h.next + 1; omega, fun k hk => by rw [hold k (by have := R.low; omega)]; exact R.kept k hk, ?_⟩, ⟨hext, ?_, ?_, rfl, ?_, ?_, ?_, ?_, os, tape, output, fun c hc he => by rw [Hp.get_plus, if_neg (by omega)]; exact he⟩⟩
  · intro c q p h1 h2
    rcases hcase c q p h1 h2 with ⟨rfl, rfl, rfl⟩ | ⟨e, g1, g2⟩
    · exact ho
    · exact ((R.obj c q p g1 g2).ext hext).at (hold _ (R.dom c p g2))
  · intro c q p h1 h2 h3
    rcases hcase c q p h1 h2 with ⟨rfl, rfl, rfl⟩ | ⟨e, g1, g2⟩
    · exact R.low
    · exact R.base c q p g1 g2 h3
  · intro c c' q q' p p' h1 h2 h3 h4 h5
    rcases hcase c q p h1 h3 with ⟨rfl, rfl, rfl⟩ | ⟨e, g1, g2⟩ <;> rcases hcase c' q' p' h2 h4 with ⟨rfl, rfl, rfl⟩ | ⟨e', g1', g2'⟩
    · rfl
    · have := R.dom c' p' g2'; simp only at h5; omega
    · have := R.dom c p g2; simp only at h5; omega
    · exact R.inj c c' q q' p p' g1 g1' g2 g2' h5
  · intro c hc
    have hc : h.next + 1 ≤ c := hc
    obtain ⟨a1, a2⟩ := R.fresh c (by omega)
    exact ⟨by rw [Rho.set_ne (by omega)]; exact a1, by rw [Hp.get_plus, if_neg (by omega)]; exact a2⟩
  · intro c p h1
    by_cases e : c = h.next
    · subst e; rw [Rho.set_same] at h1; cases h1; rw [hw]; simp
    · rw [Rho.set_ne e] at h1; have := R.dom c p h1; rw [hw]; simp; omega
  · rw [hw]; have := R.low; simp; omega
  · intro c q p h1 h2 h3
    rcases hcase c q p h1 h2 with ⟨rfl, rfl, rfl⟩ | ⟨e, g1, g2⟩
    · rw [hwo] at h3; cases h3
    · exact R.nw c q p g1 g2 h3
  · intro c hc he
    refine ⟨by rw [Rho.set_ne (by omega)]; exact he, by rw [Hp.get_plus, if_neg (by omega)]⟩
  · show h.next ≤ h.next + 1; omega
  · intro c hc
    rw [Hp.get_plus, if_neg (by omega)]
  · intro c q p h1 h2 h3 h4
    rcases hcase c q p h1 h3 with ⟨rfl, rfl, rfl⟩ | ⟨e, g1, g2⟩
    · simp only at h4; omega
    · exact ⟨c, q, p, g1, h2, g2, rfl⟩
  · rw [hw]; simp
  · intro k hk _; exact hold k hk

end
end Go.Am

/- The small machine against the model: iterators. -/
namespace Go.Am

section
variable {P : Program} {c : Cx} {ρ : Rho} {ws : Ws} {e : Env} {E : Operand → Value} {l : List Operand}

theorem rangeMap_ok (T : Ties P c) {t : TypeId} {x : Operand} {f : Ef} (hE : EvR ρ ws e E [x]) (h : cpRange t x c ws = some (.ef f)) : ∃ x', f = .rangeMap x' ∧ EfOk P ρ e (vOf (Instr.range t (E x))) (fun e h => rE "range" (efRangeMap x' e h)) := by
  obtain ⟨d, hd, h1⟩ := ob_some h
  obtain ⟨x', hx, h2⟩ := ob_some h1
  have hu := T.und hd
  cases e1 : tdString d with
  | true => rw [e1] at h2; cases h2
  | false =>
    rw [e1] at h2
    obtain ⟨p, hp, h3⟩ := ob_some (show ob (tdMap d) (fun _ => some (AOp.ef (.rangeMap x'))) = _ from h2)
    cases h3
    obtain ⟨kt, et⟩ := p
    have := tdMap_some hp; subst this
    refine ⟨x', rfl, efOk_one fun B hp w R v h' hv => ?_⟩
    obtain ⟨xv, hxv, hv1⟩ := ob_some hv
    obtain ⟨m, hm, hv2⟩ := ob_some hv1
    have hX := hE.at (by simp) hx hxv
    obtain ⟨f1, _⟩ := R.fresh hp.next (Nat.le_refl _)
    cases m with
    | none =>
      have := asMap_nil hm; subst this
      have hX' : E x = .map none := by generalize E x = y at hX; cases hX; rfl
      have hv3 : hp.newK (.mIter none 0 [] 0) (fun b h => some (some (AVal.ptr b 0), h)) = some (v, h') := hv2
      rw [Hp.newK_eq] at hv3
      cases hv3
      obtain ⟨a1, a2⟩ := Rel.alloc (w' := { w with heap := w.heap.push (.mapIter none 0 #[] 0) }) (n := 0) (o := .mIter none 0 [] 0) R rfl ⟨none, by simp, .inl ⟨rfl, rfl⟩⟩ rfl rfl rfl
      refine ⟨_, .value (.pointer (some ⟨w.heap.size, 0, none⟩)), _, vOf_run ?_, .ptr _ _ _ _ (Rho.set_same _ _ _), a1, a2⟩
      rw [hX']
      unfold Instr.range
      rw [run_ok (run_underlying hu w)]; rfl
    | some b =>
      have := asMap_some hm; subst this
      obtain ⟨es, clock, hes, hv3⟩ := ob2_some (show ob2 (mapAt hp b) (fun _ clock => hp.newK (.mIter (some b) clock [] clock) fun b h => some (some (AVal.ptr b 0), h)) = some (v, h') from hv2)
      rw [Hp.newK_eq] at hv3
      cases hv3
      obtain ⟨cb, n, hX', hb⟩ := vr_map hX
      obtain ⟨ents, q1, q2⟩ := R.obj b _ _ (mapAt_some hes) hb
      obtain ⟨a1, a2⟩ := Rel.alloc (w' := { w with heap := w.heap.push (.mapIter (some cb) clock #[] clock) }) (n := 0) (o := .mIter (some b) clock [] clock) R rfl ⟨some cb, by simp, .inr ⟨b, cb, n, rfl, rfl, Rho.set_ext f1 _ _ hb⟩⟩ rfl rfl rfl
      refine ⟨_, .value (.pointer (some ⟨w.heap.size, 0, none⟩)), _, vOf_run ?_, .ptr _ _ _ _ (Rho.set_same _ _ _), a1, a2⟩
      rw [hX']
      unfold Instr.range
      rw [run_ok (run_underlying hu w)]
      exact (run_ok (run_getMap q1)).trans rfl

theorem entsR_get : ∀ {es : List AEnt} {ms : List MapEntry} {i : Nat} {f : AEnt}, EntsR ρ es ms → es[i]? = some f → ∃ m, ms[i]? = some m ∧ EntR ρ f m
  | _, _, i, f, .nil, h => by simp at h
  | _, _, 0, f, .cons e m es ms h hs, hf => by simp at hf; subst hf; exact ⟨m, rfl, h⟩
  | _, _, i + 1, f, .cons e m es ms h hs, hf => by
    obtain ⟨m', h1, h2⟩ := entsR_get (i := i) hs (by simpa using hf)
    exact ⟨m', by simpa using h1, h2⟩

theorem anyN_eq (s : Nat) : ∀ l : List Nat, anyN s l = l.contains s := by
  intro l
  induction l with
  | nil => rfl
  | cons x l ih =>
    show (bif Nat.beq x s then true else anyN s l) = _
    rw [ih, beq_eq]
    by_cases h : x = s
    · subst h; simp
    · simp [h, Ne.symm h]

theorem leftOf_ok {seen : List Nat} : ∀ {es : List AEnt} {ms : List MapEntry}, EntsR ρ es ms → EntsR ρ (leftOf seen es) (ms.filter fun e => !seen.contains e.born)
  | _, _, .nil => .nil
  | _, _, .cons e m es ms h hs => by
    obtain ⟨ek, ev, eb⟩ := e
    cases h with | mk _ _ _ mk mv hk hv =>
    show EntsR ρ (bif anyN eb seen then leftOf seen es else ⟨ek, ev, eb⟩ :: leftOf seen es) _
    rw [anyN_eq]
    cases g : seen.contains eb with
    | true =>
      rw [List.filter_cons_of_neg (by simpa using g)]
      exact leftOf_ok hs
    | false =>
      rw [List.filter_cons_of_pos (by simpa using g)]
      exact .cons _ _ _ _ (.mk _ _ _ _ _ hk hv) (leftOf_ok hs)

theorem allLt_ok {n : Nat} : ∀ {es : List AEnt} {ms : List MapEntry}, EntsR ρ es ms → allLt n es = true → ∀ m ∈ ms, m.born < n
  | _, _, .nil, _, m, hm => by simp at hm
  | _, _, .cons e m es ms h hs, hl, m', hm' => by
    have hl : (e.born.blt n && allLt n es) = true := hl
    simp only [Bool.and_eq_true] at hl
    rcases List.mem_cons.1 hm' with rfl | hm'
    · cases h; exact blt_lt hl.1
    · exact allLt_ok hs hl.2 m' hm'

theorem stepsOf_ok {h : Hp} {b m since clock : Nat} {seen : List Nat} : ∀ {es : List AEnt} {outs : List (Option AVal × Hp)}, stepsOf h b m since seen clock es = some outs → ∀ (i : Nat) (f : AEnt), es[i]? = some f → ∃ h', h.upd b (.mIter (some m) since (seen ++ [f.born]) clock) = some h' ∧ (some (.tup [.bool true, f.key, f.val]), h') ∈ outs := by
  intro es
  induction es with
  | nil => intro outs _ i f hf; simp at hf
  | cons e es ih =>
    intro outs ho i f hf
    obtain ⟨ek, ev, eb⟩ := e
    have hadd : ∀ l : List Nat, addN eb l = some (l ++ [eb]) := by
      intro l
      induction l with
      | nil => rfl
      | cons x l ih => show ob (addN eb l) (fun r => some (x :: r)) = _; rw [ih]; rfl
    obtain ⟨sn, hsn, h1⟩ := ob_some (show ob (addN eb seen) (fun sn => ob (h.upd b (.mIter (some m) since sn clock)) fun h' => ob (stepsOf h b m since seen clock es) fun r => some ((some (AVal.tup [.bool true, ek, ev]), h') :: r)) = some outs from ho)
    rw [hadd] at hsn; cases hsn
    obtain ⟨h', hup, h2⟩ := ob_some h1
    obtain ⟨r, hr, h3⟩ := ob_some h2
    cases h3
    cases i with
    | zero => simp at hf; subst hf; exact ⟨h', hup, by simp⟩
    | succ i =>
      obtain ⟨h'', g1, g2⟩ := ih hr i f (by simpa using hf)
      exact ⟨h'', g1, by simp [g2]⟩

theorem setIter_ok {B : Base} {b cb n : Nat} {h h' : Hp} {w : World} {o o' : AObj} {obj obj' : Obj} (R : Rel B ρ h w.heap) (hg : h.get b = some o) (hwr : o.wr = true) (hwr' : o'.wr = true) (hb : ρ b = some (cb, n)) (hw : w.heap[cb]? = some obj) (hc : ∀ a t f, obj ≠ .cells a t f) (hu : h.upd b o' = some h')
    (ho : ∀ H : Array Obj, H[cb]? = some obj' → ORel ρ o' (cb, n) H) :
    ∃ w', (setObj cb obj').run P w = .ok () w' ∧ Rel B ρ h' w'.heap ∧ Goes ρ h w ρ h' w' := by
  have hlt : cb < w.heap.size := (Array.getElem?_eq_some_iff.1 hw).1
  refine ⟨{ w with heap := w.heap.setIfInBounds cb obj' }, ?_, ?_⟩
  · unfold setObj; simp only [Sem.run, hw]
  · exact R.update (w := w) (w' := { w with heap := w.heap.setIfInBounds cb obj' }) hg hwr hb hu (by simp) (fun q hq => by simp [Ne.symm hq]) (ho _ (by simp [hlt])) rfl rfl rfl hwr'

theorem run_choose {q : Question} (w : World) : ∃ n w', (choose q).run P w = .ok n w' ∧ (w' = w ∨ ∃ d, w' = { w with drawn := d }) ∧ ((q.forced = true ∧ n = 0) ∨ (q.forced = false ∧ ∃ t, n = q.cut t)) := by
  unfold choose
  cases g : q.forced with
  | true => exact ⟨0, w, by simp only [Sem.run, g, if_true], .inl rfl, .inl ⟨rfl, rfl⟩⟩
  | false => exact ⟨q.cut (w.tape w.drawn q), { w with drawn := w.drawn + 1 }, by simp only [Sem.run, g, Bool.false_eq_true, if_false], .inr ⟨_, rfl⟩, .inr ⟨rfl, _, rfl⟩⟩

theorem nextMap_ok {x : Operand} {x' : AOpd} {ty : TypeId} (hE : EvR ρ ws e E [x]) (hx : ofOpd ws x = some x') : EfOk P ρ e (vOf (Instr.next (E x) false ty)) (fun e h => rL "next" (efNextMap x' e h)) := by
  intro B hp w R outs ho
  have ho := rL_some ho
  obtain ⟨xv, hxv, hv1⟩ := ob_some ho
  obtain ⟨b, o, hpt, hv2⟩ := ob2_some hv1
  obtain ⟨h0, hv3⟩ := ok?_some hv2
  have h0 := Nat.eq_of_beq_eq_true h0
  subst h0
  obtain ⟨m, q, hit, hv4⟩ := ob2_some hv3
  obtain ⟨since, seen, last⟩ := q
  have := asPtr_some hpt; subst this
  obtain ⟨cb, sz, hX, hb⟩ := vr_ptr (hE.at (by simp) hx hxv)
  have hg := iterAt_some hit
  obtain ⟨m', g1, g2⟩ := R.obj b _ _ hg hb
  cases m with
  | none =>
    cases (show some [((some (AVal.tup [.bool false]) : Option AVal), hp)] = some outs from hv4)
    rcases g2 with ⟨_, rfl⟩ | ⟨_, _, _, g2, _⟩
    · refine ⟨_, _, List.mem_singleton.2 rfl, ρ, .value (.tuple ⟨[.bool false]⟩), w, vOf_run ?_, .tup _ _ (.cons _ _ _ _ (.bool _) .nil), R, Goes.refl _ _ _⟩
      rw [hX]
      unfold Instr.next
      exact (run_ok (run_getObj g1 (by intro a t f h; cases h))).trans rfl
    · cases g2
  | some mb =>
    rcases g2 with ⟨g2, _⟩ | ⟨b', cm, n, g2, rfl, g3⟩
    · cases g2
    · cases g2
      obtain ⟨es, clock, hes, hv6⟩ := ob2_some (show ob2 (mapAt hp mb) (fun es clock => ok? (clock.beq since && (allLt since es && last.beq clock))
        (List.casesOn (motive := fun _ => Option (List (Option AVal × Hp))) (leftOf seen es) (some [(some (.tup [.bool false]), hp)]) (fun e l => stepsOf hp b mb since seen clock (e :: l)))) = some outs from hv4)
      obtain ⟨hc, hv7⟩ := ok?_some hv6
      simp only [Bool.and_eq_true] at hc
      have c1 := Nat.eq_of_beq_eq_true hc.1
      have c3 := Nat.eq_of_beq_eq_true hc.2.2
      subst c1; subst c3
      obtain ⟨ents, q1, q2⟩ := R.obj _ _ _ (mapAt_some hes) g3
      have hlt := allLt_ok q2 hc.2.1
      have hleft := leftOf_ok (seen := seen) q2
      have hel : (ents.filter fun e => !(⟨seen⟩ : Array Nat).contains e.born).toList = ents.toList.filter fun e => !seen.contains e.born := by simp
      generalize hL : (ents.filter fun e => !(⟨seen⟩ : Array Nat).contains e.born) = left at hel
      rw [← hel] at hleft
      have hin : ∀ m ∈ left, m.born < last := by
        intro m hm
        rw [← hL] at hm
        exact hlt m (by have := (Array.mem_filter.1 hm).1; simpa using this)
      have hold : left.filter (fun e => decide (e.born < last)) = left := by
        rw [Array.filter_eq_self]
        intro m hm; simpa using hin m hm
      have hnew : left.filter (fun e => decide (e.born ≥ last)) = #[] := by
        rw [Array.filter_eq_empty_iff]
        intro m hm
        have := hin m hm
        simp; omega
      have hcond : (!(⟨seen⟩ : Array Nat).isEmpty && !ents.isEmpty && ents.all (fun e => decide (e.born ≥ last))) = false := by
        cases hE0 : ents.isEmpty with
        | true => simp
        | false =>
          have : ents.all (fun e => decide (e.born ≥ last)) = false := by
            rw [Array.all_eq_false]
            have hpos : 0 < ents.size := by
              cases hs : ents.size with
              | zero => rw [Array.isEmpty_iff_size_eq_zero.2 hs] at hE0; cases hE0
              | succ n => omega
            exact ⟨0, hpos, by have := hlt ents[0] (by simp); simp; omega⟩
          rw [this]; simp
      have hcand : ∀ (s : Sem Value), s = ((do
            let candidates := (if left.isEmpty then #[none] else #[]) ++ (left ++ #[]).map some
            match candidates[← choose (.mapNext candidates.size)]? with
            | some (some e) => do
              setObj cb (.mapIter (some cm) last ((⟨seen⟩ : Array Nat).push e.born) last)
              pure (.tuple #[.bool true, e.key, e.val])
            | some none => pure (.tuple #[.bool false])
            | none => stuck "Next: no such candidate") : Sem Value) → (Instr.next (E x) false ty).run P w = s.run P w := by
        intro s hs
        subst hs
        rw [hX]
        unfold Instr.next
        refine (run_ok (run_getObj g1 (by intro a t f h; cases h))).trans ?_
        refine (run_ok (run_getMap q1)).trans ?_
        simp only [hcond, Bool.false_eq_true, if_false, hL, hold, hnew]
        rfl
      cases hlf : leftOf seen es with
      | nil =>
        rw [hlf] at hleft hv7
        cases (show some [((some (AVal.tup [.bool false]) : Option AVal), hp)] = some outs from hv7)
        have hemp : left = #[] := by
          have := hleft.length
          simp only [List.length_nil, Array.length_toList] at this
          exact Array.eq_empty_of_size_eq_zero this.symm
        refine ⟨_, _, List.mem_singleton.2 rfl, ρ, .value (.tuple ⟨[.bool false]⟩), w, vOf_run ?_, .tup _ _ (.cons _ _ _ _ (.bool _) .nil), R, Goes.refl _ _ _⟩
        rw [hcand _ rfl, hemp]
        have hc0 : ((if (#[] : Array MapEntry).isEmpty then #[none] else #[]) ++ ((#[] : Array MapEntry) ++ #[]).map some) = (#[none] : Array (Option MapEntry)) := by simp
        simp only [hc0]
        exact (run_ok (show (choose (.mapNext 1)).run P w = .ok 0 w from rfl)).trans rfl
      | cons f fs =>
        rw [hlf] at hleft hv7
        have hv8 : stepsOf hp b mb last seen last (f :: fs) = some outs := hv7
        have hsz : left.size = fs.length + 1 := by
          have := hleft.length
          simp only [List.length_cons, Array.length_toList] at this
          omega
        have hne : left.isEmpty = false := by
          cases h : left.isEmpty with
          | false => rfl
          | true => have := Array.isEmpty_iff_size_eq_zero.1 h; omega
        obtain ⟨i, w1, i1, i2, i3⟩ := run_choose (P := P) (q := .mapNext left.size) w
        have hi : i < left.size := by
          rcases i3 with ⟨_, rfl⟩ | ⟨_, t, rfl⟩
          · omega
          · simp only [Question.cut]; exact Nat.mod_lt _ (by omega)
        obtain ⟨f', hf'⟩ : ∃ f', (f :: fs)[i]? = some f' := ⟨_, List.getElem?_eq_getElem (by simp; omega)⟩
        obtain ⟨h', j1, j2⟩ := stepsOf_ok hv8 i f' hf'
        obtain ⟨me, hme, hfm⟩ := entsR_get hleft hf'
        obtain ⟨fk, fv, fb⟩ := f'
        cases hfm with | mk _ _ _ mk mv hk hv =>
        have hw1 : w1.heap = w.heap := by rcases i2 with rfl | ⟨d, rfl⟩ <;> rfl
        obtain ⟨w', a1, a2, a3⟩ := setIter_ok (P := P) (w := w1) (o' := .mIter (some mb) last (seen ++ [fb]) last) (obj' := .mapIter (some cm) last ((⟨seen⟩ : Array Nat).push fb) last) (by rw [hw1]; exact R) hg rfl rfl hb (by rw [hw1]; exact g1) (by intro a t f h; cases h) j1
          (fun H hH => ⟨some cm, by rw [hH]; simp, .inr ⟨mb, cm, n, rfl, rfl, g3⟩⟩)
        refine ⟨_, _, j2, ρ, .value (.tuple ⟨[.bool true, mk, mv]⟩), w', vOf_run ?_, .tup _ _ (.cons _ _ _ _ (.bool _) (.cons _ _ _ _ hk (.cons _ _ _ _ hv .nil))), a2, ?_⟩
        · rw [hcand _ rfl]
          have hc0 : ((if left.isEmpty then #[none] else #[]) ++ (left ++ #[]).map some) = left.map some := by simp [hne]
          simp only [hc0, Array.size_map]
          refine (run_ok i1).trans ?_
          have hci : (left.map some)[i]? = some (some ⟨mk, mv, fb⟩) := by
            have : left[i]? = some ⟨mk, mv, fb⟩ := by simpa using hme
            simp [this]
          rw [hci]
          exact (run_ok a1).trans rfl
        · rcases i2 with rfl | ⟨d, rfl⟩
          · exact a3
          · exact a3.drew0

end
end Go.Am

end
