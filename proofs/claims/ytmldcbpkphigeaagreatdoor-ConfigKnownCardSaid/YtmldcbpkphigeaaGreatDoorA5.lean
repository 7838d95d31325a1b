/- The small machine against the model: calls; regions in the order of their text. (Part of the proof of a statement about the given program; no condition.) -/
import Derived.Test.YtmldcbpkphigeaaGreatDoorA4
import Derived.Lib.Bytealg
import Derived.Lib.MakeNoZero
set_option linter.unusedVariables false
set_option linter.unusedSimpArgs false
noncomputable section
/- The small machine against the model: every operation but calls. -/
namespace Go.Am

/-- Is no effect. -/
def NoEf (x : Option AOp) : Prop := ∀ f, x ≠ some (.ef f)
theorem noEf_ob {α : Type} {x : Option α} {g : α → Option AOp} (h : ∀ a, NoEf (g a)) : NoEf (ob x g) := by
  intro f e; obtain ⟨a, _, e⟩ := ob_some e; exact h a f e
theorem noEf_ok {b : Bool} {x : Option AOp} (h : NoEf x) : NoEf (ok? b x) := by
  intro f e; obtain ⟨_, e⟩ := ok?_some e; exact h f e
theorem noEf_opt {α : Type} {x : Option α} {a : Option AOp} {g : α → Option AOp} (h : NoEf a) (h' : ∀ y, NoEf (g y)) : NoEf (Option.casesOn (motive := fun _ => Option AOp) x a g) := by
  cases x
  · exact h
  · exact h' _
theorem noEf_cond {b : Bool} {x y : Option AOp} (h : NoEf x) (h' : NoEf y) : NoEf (bif b then x else y) := by cases b <;> assumption
theorem noEf_pu {p : Pu} : NoEf (some (.pu p)) := by intro f e; cases e
theorem noEf_al {p : Al} : NoEf (some (.al p)) := by intro f e; cases e
theorem noEf_rd {p : Rd} : NoEf (some (.rd p)) := by intro f e; cases e
theorem noEf_mv {p : AOpd} : NoEf (some (.mv p)) := by intro f e; cases e
theorem noEf_none : NoEf none := by intro f e; cases e
theorem noEf_load {b : Bool} {n : Nat} {x : AOpd} : NoEf (some (.rd (bif b then .loadN n x else .load1 x))) := noEf_rd

/-- Is surely no effect. -/
def _root_.Go.Op.still (o : Op) : Prop := match o with | .store .. | .mapUpdate .. | .insert .. | .mapEntry .. | .entryStore .. | .range .. | .next .. | .call .. => False | _ => True

section
variable {P : Program} {c : Cx} {ρ : Rho} {ws : Ws} {e : Env} {E : Operand → Value} {l : List Operand}

theorem noEf_of (o : Op) (hb : o.still) : NoEf (comp1 o c ws) := by
  cases o <;> first
    | exact hb.elim
    | (simp only [comp1, cpMove, cpPick, cpAlloc, cpBox, cpBuild, cpBuildSlice, cpLoad, cpNilCheck, cpBinOp, cpUnOp, cpConvert, cpArr, cpIface, cpFunc, cpMakeMap, cpMakeSlice, cpSlice, cpFieldAddr, cpField, cpIndexAddr, cpIndex, cpLookup, cpEntry, cpAssert, cpExtract, no1, no2, no3]
       repeat (first | exact noEf_pu | exact noEf_al | exact noEf_rd | exact noEf_mv | exact noEf_none | exact noEf_load | refine noEf_ob (fun _ => ?_) | refine noEf_ok ?_ | refine noEf_cond ?_ ?_ | refine noEf_opt ?_ (fun _ => ?_)))

/-- An effect that is no call. -/
def Ef.calls : Ef → Bool
  | .call _ _ | .invoke _ _ _ => true
  | _ => false

/-- How a compiled operation is like the model's; calls apart. -/
def OpOk (P : Program) (c : Cx) (ρ : Rho) (e : Env) (s : Sem Next) : AOp → Prop
  | .ef f => f.calls = false → ∀ callF, EfOk P ρ e s (fun e h => runEf f c callF e h)
  | a => AopOk P ρ e s a

theorem opOk_of {s : Sem Next} {a : AOp} {o : Op} (h : AopOk P ρ e s a) (hc : comp1 o c ws = some a) (hb : o.still) : OpOk P c ρ e s a := by
  have hn : ∀ f, a ≠ .ef f := fun f e => noEf_of (c := c) (ws := ws) o hb f (e ▸ hc)
  cases a <;> first | exact h | exact absurd rfl (hn _)
theorem opOk_ef {s : Sem Next} {f : Ef} (h : ∀ callF, EfOk P ρ e s (fun e h => runEf f c callF e h)) : OpOk P c ρ e s (.ef f) := fun _ => h

theorem convert_ok (T : Ties P c) {s d : TypeId} {x : Operand} {a : AOp} (hE : EvR ρ ws e E [x]) (h : cpConvert s d x c ws = some a) : AopOk P ρ e (vOf (convert s d (E x))) a := by
  cases a with
  | rd r => exact cpConvert_rd T hE h
  | _ => exact cpConvert_ok T hE h (fun r hr => by cases hr)

theorem comp_ok (T : Ties P c) {o : Oper} {a : AOp} (hE : EvR ρ ws e E o.op.operands.toList) (h : comp1 o.op c ws = some a) (hb : ∀ k, o.op ≠ .call k) : OpOk P c ρ e (execOp E o) a := by
  obtain ⟨dst, op, ty⟩ := o
  cases op
  case move x => exact opOk_of (cpMove_ok (c := c) hE h) h trivial
  case assign x => exact opOk_of (cpMove_ok (c := c) hE h) h trivial
  case store t a x => obtain ⟨n, a', x', rfl, h1⟩ := store_ok T hE h; exact opOk_ef fun _ => h1
  case mapUpdate t m k x => obtain ⟨kd, m', k', x', rfl, h1⟩ := mapUpdate_ok T hE h; exact opOk_ef fun _ => h1
  case insert t m k x => obtain ⟨kd, m', k', x', rfl, h1⟩ := mapUpdate_ok T hE h; exact opOk_ef fun _ => h1
  case mapEntry t m k => obtain ⟨kd, z, m', k', rfl, h1⟩ := mapEntry_ok T hE h; exact opOk_ef fun _ => h1
  case entryStore t m s x => obtain ⟨m', s', x', rfl, h1⟩ := entryStore_ok (c := c) hE h; exact opOk_ef fun _ => h1
  case pick x y z => exact opOk_of (cpPick_ok (c := c) hE h) h trivial
  case alloc t => exact opOk_of (cpAlloc_ok (ws := ws) T h) h trivial
  case box t x => exact opOk_of (cpBox_ok (c := c) hE h) h trivial
  case build t ps => exact opOk_of (cpBuild_ok T hE (fun p hp => by simp [Op.operands]; exact ⟨_, Array.mem_toList_iff.1 hp⟩) h) h trivial
  case buildSlice t n ps => exact opOk_of (cpBuildSlice_ok T hE (fun p hp => by simp [Op.operands]; exact ⟨_, Array.mem_toList_iff.1 hp⟩) h) h trivial
  case load t x => exact opOk_of (cpLoad_ok T hE h) h trivial
  case ready => exact absurd h (by intro h; cases h)
  case waits => exact absurd h (by intro h; cases h)
  case nilCheck x => exact opOk_of (cpNilCheck_ok (c := c) rfl hE h) h trivial
  case binOp op t x y ty => exact opOk_of (cpBinOp_ok (ty := ty) T hE h) h trivial
  case unOp op t x => exact opOk_of (cpUnOp_ok (c := c) (t := t) hE h) h trivial
  case convert s d x => exact opOk_of (convert_ok T hE h) h trivial
  case sliceToArrayPointer t x => exact opOk_of (cpArr_ok T hE h) h trivial
  case makeInterface t x => exact opOk_of (cpIface_ok T hE h) h trivial
  case makeFunc f a b => exact opOk_of (cpFunc_ok (c := c) hE (fun x hx => by simpa [Op.operands] using hx) h) h trivial
  case makeMap t r => exact opOk_of (cpMakeMap_ok T hE (fun z hz => by subst hz; simp [Op.operands]) h) h trivial
  case makeChan => exact absurd h (by intro h; cases h)
  case makeSlice t a b => exact opOk_of (cpMakeSlice_ok T hE h) h trivial
  case slice t x lo hi mx =>
    exact opOk_of (cpSlice_ok T hE (by simp [Op.operands]) (fun z hz => by subst hz; simp [Op.operands]) (fun z hz => by subst hz; simp [Op.operands]) (fun z hz => by subst hz; simp [Op.operands]) h) h trivial
  case fieldAddr t x f => exact opOk_of (cpFieldAddr_ok T hE h) h trivial
  case field t x f => exact opOk_of (cpField_ok T hE h) h trivial
  case indexAddr t x i => exact opOk_of (cpIndexAddr_ok T hE h) h trivial
  case index t x i => exact opOk_of (cpIndex_ok T hE h) h trivial
  case lookup t m k ok => exact opOk_of (cpLookup_ok T hE h) h trivial
  case range t x =>
    cases a with
    | al r => exact cpRange_al T hE h
    | ef f => obtain ⟨x', rfl, h1⟩ := rangeMap_ok T hE h; exact opOk_ef fun _ => h1
    | _ =>
      obtain ⟨d, _, h1⟩ := ob_some h
      obtain ⟨x', _, h2⟩ := ob_some h1
      cases e1 : tdString d with
      | true => rw [e1] at h2; cases h2
      | false => rw [e1] at h2; obtain ⟨_, _, h3⟩ := ob_some h2; cases h3
  case next x s =>
    obtain ⟨x', hx, h1⟩ := ob_some h
    cases h1
    cases s with
    | true => exact opOk_ef fun _ => nextStr_ok hE hx
    | false => exact opOk_ef fun _ => nextMap_ok hE hx
  case entry x => exact opOk_of (cpEntry_ok (c := c) hE h) h trivial
  case typeAssert x t u ok => exact opOk_of (cpAssert_ok (xt := t) T hE h) h trivial
  case extract x i => exact opOk_of (cpExtract_ok (c := c) hE h) h trivial
  case call k => exact absurd rfl (hb k)
  all_goals exact absurd h (by intro h; cases h)

end
end Go.Am

/- The small machine against the model: calls. -/
namespace Go.Am

/-- What may come of it, ours and the model's. -/
def ResO (B : Base) (ρ : Rho) (h : Hp) (w : World) (outs : List (Option AVal × Hp)) (u : Value) (w' : World) : Prop :=
  ∃ v h' ρ', (v, h') ∈ outs ∧ VR ρ' (orT v) u ∧ Rel B ρ' h' w'.heap ∧ Goes ρ h w ρ' h' w'
def ResV (B : Base) (ρ : Rho) (h : Hp) (w : World) (outs : List (AVal × Hp)) (u : Value) (w' : World) : Prop :=
  ∃ v h' ρ', (v, h') ∈ outs ∧ VR ρ' v u ∧ Rel B ρ' h' w'.heap ∧ Goes ρ h w ρ' h' w'

/-- How an operation of the model goes on. -/
def GoesOn (P : Program) (s : Sem Next) (w : World) (R : Value → World → Prop) : Prop :=
  ∀ (o : Oper) (a : Act) (Q : Exit → Act → World → Prop) (K : Act → World → Prop), (∀ u w', R u w' → K (a.put o.dst u) w') → o.upon P a K Q (s.run P w)

def Ends (R : Value → World → Prop) : Ending → World → Prop
  | .returned u, w => R u w
  | _, _ => False

/-- The program's variables stand where they stand. -/
def GlobR (G : Nat) (ρ : Rho) : Prop := ∀ g, g < G → ∃ n, ρ g = some (g, n)
theorem GlobR.ext {G : Nat} {ρ ρ' : Rho} (e : Ext' ρ ρ') (h : GlobR G ρ) : GlobR G ρ' := fun g hg => by obtain ⟨n, hn⟩ := h g hg; exact ⟨n, e _ _ hn⟩

/-- A machine's calls are sound. -/
def FnOk (P : Program) (B : Base) (G : Nat) (callF : CallF) : Prop :=
  ∀ f args h outs, callF f args h = .ok outs → ∀ ρ w us, GlobR G ρ → Rel B ρ h w.heap → VRs ρ args us → Calls P f ⟨us⟩ w (Ends (ResV B ρ h w outs))

theorem GoesOn.value {P : Program} {s : Sem Next} {w w' : World} {R : Value → World → Prop} {u : Value} (h : s.run P w = .ok (.value u) w') (hR : R u w') : GoesOn P s w R := by
  intro o a Q K hK
  rw [h, Oper.upon_value]
  exact hK u w' hR
theorem GoesOn.skip {P : Program} {s : Sem Next} {w w' : World} {R : Value → World → Prop} (h : s.run P w = .ok .skip w') (hR : R undef w') : GoesOn P s w R := by
  intro o a Q K hK
  rw [h, Oper.upon_skip]
  exact hK undef w' hR
theorem GoesOn.enter {P : Program} {s : Sem Next} {w w' : World} {R : Value → World → Prop} {f : FuncId} {args : Array Value} (h : s.run P w = .ok (.enter f args) w') (hc : Calls P f args w' (Ends R)) : GoesOn P s w R := by
  intro o a Q K hK
  rw [h, Oper.upon_enter]
  refine hc.mono fun e w'' he => ?_
  cases e with
  | returned u => exact hK u w'' he
  | panicked ch => exact he.elim
  | outgrown => exact he.elim
theorem GoesOn.mono {P : Program} {s : Sem Next} {w : World} {R R' : Value → World → Prop} (h : GoesOn P s w R) (hR : ∀ u w', R u w' → R' u w') : GoesOn P s w R' :=
  fun o a Q K hK => h o a Q K fun u w' hu => hK u w' (hR u w' hu)

/-- An effect that is no call. -/
theorem efOk_goes {P : Program} {ρ : Rho} {e : Env} {s : Sem Next} {f : Env → Hp → R (Option AVal × Hp)} (hf : EfOk P ρ e s f) {B : Base} {h : Hp} {w : World} {outs : List (Option AVal × Hp)} (R : Rel B ρ h w.heap) (hr : f e h = .ok outs) :
    GoesOn P s w (ResO B ρ h w outs) := by
  obtain ⟨v, h', hm, ρ', nx, w', h1, h2, h3, h4⟩ := hf B h w R outs hr
  cases nx with
  | value u => exact .value h1 ⟨v, h', ρ', hm, h2, h3, h4⟩
  | skip =>
    refine .skip h1 ⟨v, h', ρ', hm, ?_, h3, h4⟩
    have : orT v = .tup [] := h2
    rw [this]
    exact .tup [] [] .nil
  | _ => exact h2.elim

/-- What ties outside functions to the model's. -/
def ExtOk (P : Program) (f : FuncId) (x : Ext) : Prop :=
  ∃ fn r, P.funcs[f]? = some fn ∧ (fn.name == "runtime.NumGoroutine") = false ∧ fn.body = none ∧ Extern.findNext fn = none ∧ Extern.find fn = some r ∧
    (match x with
    | .countStr => r = Extern.BytealgCount.count
    | .indexByteStr => r = Extern.BytealgIndexByte.indexByte
    | .same => r = Extern.AbiNoEscape.same
    | .makeNoZero e => r = Extern.BytealgMakeNoZero.makeNoZero fn.params fn.resultTypes ∧ ∃ t i, fn.resultTypes = #[t] ∧ P.underlying t = some (.slice e) ∧ P.info? e = some i ∧ i.size = 1 ∧ i.bytes = 1
    | .indexStr _ => False)

/-- A function of the program's own. -/
def OwnFn (P : Program) (f : FuncId) : Prop := ∃ fn code, P.funcs[f]? = some fn ∧ (fn.name == "runtime.NumGoroutine") = false ∧ fn.body = some code

structure Ties2 (P : Program) (c : Cx) (B : Base) (G : Nat) : Prop where
  ext : ∀ f x, c.ext f = some x → ExtOk P f x
  own : ∀ f fn code, c.fns.get f = some fn → fn.body = some code → OwnFn P f
  orc : ∀ f args h outs, c.orc f args h = some (.ok outs) → OwnFn P f ∧ ∀ ρ w us, GlobR G ρ → Rel B ρ h w.heap → VRs ρ args us → Calls P f ⟨us⟩ w (Ends (ResV B ρ h w outs))

section
variable {P : Program} {c : Cx} {ρ : Rho} {ws : Ws} {e : Env} {E : Operand → Value} {l : List Operand}

theorem run_mark {m : Mark} (w : World) : (mark m).run P w = .ok () w := rfl

theorem callFunc_enter {f : FuncId} (h : OwnFn P f) (args : Array Value) (w : World) : (callFunc f args).run P w = .ok (.enter f args) w := by
  obtain ⟨fn, code, h1, h2, h3⟩ := h
  unfold callFunc
  rw [run_ok (run_program P w)]
  simp only [h1, h2, Bool.false_eq_true, if_false, h3, Option.isNone_some]
  rfl

theorem callFunc_ext {f : FuncId} {fn : Func} {r : Array Value → Sem Value} (h1 : P.funcs[f]? = some fn) (h2 : (fn.name == "runtime.NumGoroutine") = false) (h3 : fn.body = none) (h4 : Extern.findNext fn = none) (h5 : Extern.find fn = some r)
    {args : Array Value} {w w' : World} {u : Value} (hr : (r args).run P w = .ok u w') : (callFunc f args).run P w = .ok (.value u) w' := by
  unfold callFunc
  rw [run_ok (run_program P w)]
  simp only [h1, h2, Bool.false_eq_true, if_false, h3, Option.isNone_none, if_true, h4, h5]
  rw [run_ok (run_mark w)]
  show ((r args) >>= fun x => pure (Next.value x)).run P w = _
  rw [run_ok hr]
  rfl

theorem asVal_ok {r : R (AVal × Hp)} {outs : List (Option AVal × Hp)} (h : asVal r = .ok outs) : ∃ l, r = .ok l ∧ ∀ v h', (v, h') ∈ l → (some v, h') ∈ outs := by
  obtain ⟨l, h1, h2⟩ := R.bind_ok h
  refine ⟨l, h1, fun v h' hm => ?_⟩
  obtain ⟨x, hx, hb⟩ := h2 (v, h') hm
  cases hx
  exact hb _ (List.mem_singleton.2 rfl)

theorem resO_of {B : Base} {h : Hp} {w : World} {l : List (AVal × Hp)} {outs : List (Option AVal × Hp)} (hm : ∀ v h', (v, h') ∈ l → (some v, h') ∈ outs) : ∀ u w', ResV B ρ h w l u w' → ResO B ρ h w outs u w' := by
  rintro u w' ⟨v, h', ρ', h1, h2, h3, h4⟩
  exact ⟨some v, h', ρ', hm v h' h1, h2, h3, h4⟩

/-! ### Outside functions -/

theorem asI64_some {x : AVal} {n : Nat} (h : asI64 x = some n) : x = .int .i64 n := by
  unfold asI64 at h
  split at h
  · rename_i m
    cases m with
    | ofNat m => cases h; rfl
    | negSucc m => cases h
  · cases h

theorem countIn_eq (b : UInt8) : ∀ (l : List UInt8) (n : Nat), countIn b.toNat (l.map UInt8.toNat) n = n + Lib.countByte l b := by
  intro l
  induction l with
  | nil => intro n; rfl
  | cons x l ih =>
    intro n
    simp only [List.map_cons, countIn, Lib.countByte, List.count_cons]
    rw [ih, beq_eq, Lib.countByte]
    by_cases g : x = b
    · subst g; simp; omega
    · have : ¬ x.toNat = b.toNat := fun e => g (UInt8.toNat_inj.1 e)
      simp [this, g]

theorem indexByteIn_eq (b : UInt8) : ∀ (l : List UInt8) (i : Nat), (match indexByteIn b.toNat (l.map UInt8.toNat) i with | some k => Lib.indexByte l b = (k : Int) - i ∧ i ≤ k | none => Lib.indexByte l b = -1) := by
  intro l
  induction l with
  | nil => intro i; rfl
  | cons x l ih =>
    intro i
    simp only [List.map_cons, indexByteIn, Lib.indexByte]
    rw [beq_eq]
    by_cases g : x = b
    · subst g; simp
    · have g1 : ¬ x.toNat = b.toNat := fun e => g (UInt8.toNat_inj.1 e)
      have g2 : (x == b) = false := by simpa using g
      have := ih (i + 1)
      simp only [decide_eq_false g1, cond_false, g2, Bool.false_eq_true, if_false]
      cases hq : indexByteIn b.toNat (l.map UInt8.toNat) (i + 1) with
      | none => rw [hq] at this; simp only at this ⊢; rw [this]; rfl
      | some k =>
        rw [hq] at this
        obtain ⟨t1, t2⟩ := this
        have : ¬ (Lib.indexByte l b == -1) = true := by rw [t1]; simp; omega
        simp only [this, if_false]
        exact ⟨by rw [t1]; push_cast; omega, by omega⟩

theorem vr_u8 {v : Value} {n : Int} {k : IntKind} (h : VR ρ (.int k n) v) : v = .int k n := by cases h; rfl
theorem vr_string {v : Value} {s : List Nat} (h : VR ρ (.str s) v) : ∃ b, v = .string b ∧ nums b = s := by cases h with | str _ b h => exact ⟨b, rfl, h⟩

theorem toU8 {n : Nat} (h : n < 256) : (((n : Int).toNat).toUInt8).toNat = n := by
  simp; omega

theorem natOrMinus_vr (o : Option Nat) : VR ρ (natOrMinus o) (match o with | some i => .int .i64 (i : Int) | none => .int .i64 (-1)) := by
  cases o with
  | none => exact .int _ _
  | some i =>
    show VR ρ (forceN i fun i => .int .i64 (.ofNat i)) _
    rw [forceN_eq]; exact .int _ _

theorem ext_ok {B : Base} {f : FuncId} {x : Ext} (hx : ExtOk P f x) {args : List AVal} {h h' : Hp} {v : AVal} {w : World} {us : List Value} (he : x.ev args h = some (v, h')) (R : Rel B ρ h w.heap) (hv : VRs ρ args us) :
    ∃ u ρ' w', (callFunc f ⟨us⟩).run P w = .ok (.value u) w' ∧ VR ρ' v u ∧ Rel B ρ' h' w'.heap ∧ Goes ρ h w ρ' h' w' := by
  obtain ⟨fn, r, h1, h2, h3, h4, h5, h6⟩ := hx
  cases x with
  | indexStr m => exact h6.elim
  | same =>
    simp only at h6; subst h6
    cases hv with
    | nil => cases he
    | cons a u as us' ha hs =>
      obtain ⟨g1, g2⟩ := ok?_some (show ok? as.isEmpty (some (a, h)) = some (v, h') from he)
      cases g2
      have : as = [] := List.isEmpty_iff.1 g1
      subst this
      cases hs
      exact ⟨u, ρ, w, callFunc_ext h1 h2 h3 h4 h5 rfl, ha, R, Goes.refl _ _ _⟩
  | countStr =>
    simp only at h6; subst h6
    cases hv with
    | nil => cases he
    | cons a u as us' ha hs =>
      cases hs with
      | nil => cases he
      | cons b u2 bs us2 hb hs =>
        obtain ⟨g1, g2⟩ := ok?_some (show ok? bs.isEmpty (ob (asStr a) fun s => ob (asU8 b) fun c => ok? (c.blt 256) (forceN (countIn c s 0) fun n => some (.int .i64 (.ofNat n), h))) = some (v, h') from he)
        have : bs = [] := List.isEmpty_iff.1 g1
        subst this
        cases hs
        obtain ⟨s, q1, g3⟩ := ob_some g2
        obtain ⟨n, q2, g4⟩ := ob_some g3
        obtain ⟨q3, g5⟩ := ok?_some g4
        rw [forceN_eq] at g5
        cases g5
        have := asStr_some q1; subst this
        have := asU8_some q2; subst this
        obtain ⟨bb, rfl, hbb⟩ := vr_string ha
        have := vr_u8 hb; subst this
        have hn : n < 256 := by
          rw [Nat.blt, ble_eq] at q3; simp at q3; omega
        refine ⟨_, ρ, w, callFunc_ext h1 h2 h3 h4 h5 (Lib.run_countString bb _ w), ?_, R, Goes.refl _ _ _⟩
        rw [← hbb]
        have e := countIn_eq ((n : Int).toNat).toUInt8 bb.data.toList 0
        rw [toU8 hn] at e
        show VR ρ (.int .i64 (.ofNat (countIn n (bb.data.toList.map UInt8.toNat) 0))) _
        rw [e, Nat.zero_add]
        exact .int _ _
  | indexByteStr =>
    simp only at h6; subst h6
    cases hv with
    | nil => cases he
    | cons a u as us' ha hs =>
      cases hs with
      | nil => cases he
      | cons b u2 bs us2 hb hs =>
        obtain ⟨g1, g2⟩ := ok?_some (show ok? bs.isEmpty (ob (asStr a) fun s => ob (asU8 b) fun c => ok? (c.blt 256) (some (natOrMinus (indexByteIn c s 0), h))) = some (v, h') from he)
        have : bs = [] := List.isEmpty_iff.1 g1
        subst this
        cases hs
        obtain ⟨s, q1, g3⟩ := ob_some g2
        obtain ⟨n, q2, g4⟩ := ob_some g3
        obtain ⟨q3, g5⟩ := ok?_some g4
        cases g5
        have := asStr_some q1; subst this
        have := asU8_some q2; subst this
        obtain ⟨bb, rfl, hbb⟩ := vr_string ha
        have := vr_u8 hb; subst this
        have hn : n < 256 := by
          rw [Nat.blt, ble_eq] at q3; simp at q3; omega
        refine ⟨_, ρ, w, callFunc_ext h1 h2 h3 h4 h5 (Lib.run_indexByteString bb _ w), ?_, R, Goes.refl _ _ _⟩
        rw [← hbb]
        have e := indexByteIn_eq ((n : Int).toNat).toUInt8 bb.data.toList 0
        rw [toU8 hn] at e
        show VR ρ (natOrMinus (indexByteIn n (bb.data.toList.map UInt8.toNat) 0)) _
        cases hq : indexByteIn n (bb.data.toList.map UInt8.toNat) 0 with
        | none =>
          rw [hq] at e
          simp only at e
          rw [e]
          exact natOrMinus_vr none
        | some k =>
          rw [hq] at e
          rw [e.1]
          have := natOrMinus_vr (ρ := ρ) (some k)
          simpa using this
  | makeNoZero el =>
    obtain ⟨rfl, t, i, k1, k2, k3, k4, k5⟩ := h6
    cases hv with
    | nil => cases he
    | cons a u as us' ha hs =>
      obtain ⟨g1, g2⟩ := ok?_some (show ok? as.isEmpty (ob (asI64 a) fun n => ok? (n.ble 1048576) (forceN n fun n => h.newK (.cells [] el true) fun b h => some (.slice b 0 n (.grown 1), h))) = some (v, h') from he)
      have : as = [] := List.isEmpty_iff.1 g1
      subst this
      cases hs
      obtain ⟨n, q1, g3⟩ := ob_some g2
      obtain ⟨q2, g4⟩ := ok?_some g3
      have := asI64_some q1; subst this
      have := vr_u8 ha; subst this
      have hn : n ≤ 1048576 := Nat.le_of_ble_eq_true q2
      rw [forceN_eq, Hp.newK_eq] at g4
      cases g4
      obtain ⟨cs, c1, c2, c3⟩ := Lib.run_makeNoZero (P := P) w fn.params t el k2 n (by omega)
      rw [← k1] at c1
      obtain ⟨a1, a2⟩ := Rel.alloc (w' := w.drew.drew.alloc (.cells cs el)) (n := cs.size) (o := .cells [] el true) R rfl ⟨cs, (0, 0), (by show (w.heap.push (.cells cs el))[w.heap.size]? = _; exact Array.getElem?_push_size), rfl, ⟨by simp, fun i x hx => by simp at hx⟩, fun _ => fun i _ hi => by simp at hi⟩ rfl rfl rfl
      refine ⟨_, _, _, callFunc_ext h1 h2 h3 h4 h5 c1, ?_, a1, a2⟩
      exact .sliceG _ _ _ _ _ _ _ (Rho.set_same _ _ _) (by omega) (by omega)

end
end Go.Am

/- The small machine against the model: every operation. -/
namespace Go.Am

theorem veqs_eq {f : AVal → AVal → Bool} (hf : ∀ x y, f x y = true → x = y) : ∀ {xs ys : List AVal}, veqs f xs ys = true → xs = ys := by
  intro xs
  induction xs with
  | nil => intro ys h; cases ys with
    | nil => rfl
    | cons => simp [veqs] at h
  | cons x xs ih => intro ys h; cases ys with
    | nil => simp [veqs] at h
    | cons y ys =>
      simp only [veqs, Bool.and_eq_true] at h
      rw [hf x y h.1, ih h.2]

theorem beq_true {a b : Nat} (h : a.beq b = true) : a = b := Nat.eq_of_beq_eq_true h

theorem veq_eq : ∀ (n : Nat) (x y : AVal), veq n x y = true → x = y := by
  intro n
  induction n with
  | zero => intro x y h; simp [veq] at h
  | succ n ih =>
    intro x y h
    unfold veq at h
    split at h
    · simp only [beq_iff_eq] at h; rw [h]
    · simp only [Bool.and_eq_true, decide_eq_true_eq, eqI_eq] at h; rw [h.1, h.2]
    · rw [strEq_eq] at h; simp only [decide_eq_true_eq] at h; rw [h]
    · rfl
    · rfl
    · rfl
    · rfl
    · rfl
    · rfl
    · simp only [Bool.and_eq_true] at h; rw [beq_true h.1, beq_true h.2]
    · simp only [Bool.and_eq_true] at h; rw [beq_true h.1, beq_true h.2.1, beq_true h.2.2.1, beq_true h.2.2.2]
    · simp only [Bool.and_eq_true] at h; rw [beq_true h.1, beq_true h.2.1, beq_true h.2.2.1, beq_true h.2.2.2]
    · rw [beq_true h]
    · simp only [Bool.and_eq_true] at h; rw [beq_true h.1, veqs_eq ih h.2]
    · simp only [Bool.and_eq_true] at h; rw [beq_true h.1, ih _ _ h.2]
    · rw [veqs_eq ih h]
    · rw [veqs_eq ih h]
    · cases h

theorem maxNext_ge : ∀ (l : List (AVal × Hp)) (n : Nat), n ≤ maxNext n l ∧ ∀ r ∈ l, r.2.next ≤ maxNext n l := by
  intro l
  induction l with
  | nil => intro n; exact ⟨Nat.le_refl _, fun r hr => by simp at hr⟩
  | cons x l ih =>
    intro n
    simp only [maxNext]
    cases hq : n.ble x.2.next with
    | true =>
      have := Nat.le_of_ble_eq_true hq
      obtain ⟨a, b⟩ := ih x.2.next
      simp only [cond_true]
      refine ⟨by omega, fun r hr => ?_⟩
      rcases List.mem_cons.1 hr with rfl | hr
      · exact a
      · exact b r hr
    | false =>
      have : ¬ n ≤ x.2.next := fun h => by rw [Nat.ble_eq_true_of_le h] at hq; cases hq
      obtain ⟨a, b⟩ := ih n
      simp only [cond_false]
      refine ⟨a, fun r hr => ?_⟩
      rcases List.mem_cons.1 hr with rfl | hr
      · omega
      · exact b r hr

section
variable {P : Program} {c : Cx} {ρ : Rho} {ws : Ws} {e : Env} {E : Operand → Value} {l : List Operand}

/-- A call that is run apart: whatever comes of it, the heap is as it was. -/
theorem apart_ok {B : Base} {G : Nat} {callF : CallF} (hF : FnOk P B G callF) (hGl : GlobR G ρ) {f : FuncId} {args : List AVal} {t : Tr AObj} {n ro : Nat} {l : List (AVal × Hp)} {r : AVal × Hp} {w : World} {us : List Value}
    (hc : callF f args ⟨t, n, n⟩ = .ok l) (ho : oneOf ⟨t, n, ro⟩ l = some r) (R : Rel B ρ ⟨t, n, ro⟩ w.heap) (hv : VRs ρ args us) : Calls P f ⟨us⟩ w (Ends (ResV B ρ ⟨t, n, ro⟩ w [r])) := by
  have R0 : Rel B ρ ⟨t, n, n⟩ w.heap := ⟨R.obj, R.base, R.inj, R.fresh, R.dom, R.low, Nat.le_refl _, R.kept, R.nw⟩
  refine (hF f args _ l hc ρ w us hGl R0 hv).mono fun en w' he => ?_
  cases en with
  | panicked ch => exact he
  | outgrown => exact he
  | returned u =>
    obtain ⟨v', h1', ρ', m1, m2, R1, G1⟩ := he
    cases l with
    | nil => simp at m1
    | cons x l =>
      obtain ⟨v, h1⟩ := x
      obtain ⟨p1, p2⟩ := ok?_some (show ok? (noAddr v && l.all fun r => veq 3 v r.1) (forceN (maxNext h1.next l) fun n' => onHp ⟨t, n, ro⟩ fun t _ ro => some (v, ⟨t, n', ro⟩)) = some r from ho)
      rw [forceN_eq] at p2
      have p2 : some (v, (⟨t, maxNext h1.next l, ro⟩ : Hp)) = some r := p2
      cases p2
      simp only [Bool.and_eq_true, List.all_eq_true] at p1
      have hnx := maxNext_ge l h1.next
      have hvv : v' = v ∧ h1'.next ≤ maxNext h1.next l := by
        rcases List.mem_cons.1 m1 with g | g
        · cases g; exact ⟨rfl, hnx.1⟩
        · exact ⟨(veq_eq 3 _ _ (p1.2 _ g)).symm, hnx.2 _ g⟩
      obtain ⟨rfl, hnx⟩ := hvv
      have hlt : ∀ b o, (⟨t, n, n⟩ : Hp).get b = some o → b < n := by
        intro b o hb
        by_cases g : b < n
        · exact g
        · have := (R.fresh b (by show n ≤ b; omega)).2
          have hb' : (⟨t, n, ro⟩ : Hp).get b = some o := hb
          rw [this] at hb'; cases hb'
      have hget : ∀ b o, (⟨t, n, n⟩ : Hp).get b = some o → h1'.get b = some o := fun b o hb => by
        rw [G1.roKept b (hlt b o hb)]; exact hb
      have hnn : n ≤ h1'.next := G1.next
      refine ⟨v', ⟨t, maxNext h1.next l, ro⟩, ρ', List.mem_singleton.2 rfl, m2, ⟨?_, ?_, ?_, ?_, R1.dom, R1.low, ?_, R1.kept, ?_⟩, ⟨G1.ext, ?_, ?_, rfl, fun _ _ => rfl, ?_, G1.size, G1.frame, G1.os, G1.tape, G1.output, fun _ _ e => e⟩⟩
      · intro b o p hb hp; exact R1.obj b o p (hget b o hb) hp
      · intro b o p hb hp hw; exact R1.base b o p (hget b o hb) hp hw
      · intro b b' o o' p p' h1 h2 h3 h4 h5; exact R1.inj b b' o o' p p' (hget b o h1) (hget b' o' h2) h3 h4 h5
      · intro b hb
        have hb : maxNext h1.next l ≤ b := hb
        exact ⟨(R1.fresh b (by omega)).1, (R.fresh b (by show n ≤ b; omega)).2⟩
      · have := R.roLe
        show ro ≤ maxNext h1.next l
        have this : ro ≤ n := this
        omega
      · intro b o p hb hp hw; exact R1.nw b o p (hget b o hb) hp hw
      · intro b hb he
        exact ⟨(G1.old b hb he).1, rfl⟩
      · show n ≤ maxNext h1.next l; omega
      · intro b o p hb hw hp hs; exact G1.img b o p (hget b o hb) hw hp hs

theorem callG_ok {B : Base} {G : Nat} (X : Ties2 P c B G) {callF : CallF} (hF : FnOk P B G callF) (hGl : GlobR G ρ) (hO : ∀ f args h outs, callF f args h = .ok outs → OwnFn P f) {f : FuncId} {args : List AVal} {h : Hp} {l : List (AVal × Hp)} {w : World} {us : List Value}
    (hc : callG c callF f args h = .ok l) (R : Rel B ρ h w.heap) (hv : VRs ρ args us) : GoesOn P (callFunc f ⟨us⟩) w (ResV B ρ h w l) := by
  unfold callG at hc
  cases hx : c.ext f with
  | some x =>
    rw [hx] at hc
    simp only at hc
    cases hq : x.ev args h with
    | none => rw [hq] at hc; cases hc
    | some r =>
      rw [hq] at hc
      cases hc
      obtain ⟨v, h'⟩ := r
      obtain ⟨u, ρ', w', h1, h2, h3, h4⟩ := ext_ok (X.ext f x hx) hq R hv
      exact .value h1 ⟨v, h', ρ', List.mem_singleton.2 rfl, h2, h3, h4⟩
  | none =>
    rw [hx] at hc
    simp only at hc
    cases ho : c.orc f args h with
    | some r =>
      rw [ho] at hc
      simp only at hc
      subst hc
      obtain ⟨h1, h2⟩ := X.orc f args h l ho
      exact .enter (callFunc_enter h1 _ _) (h2 ρ w us hGl R hv)
    | none =>
      rw [ho] at hc
      simp only at hc
      cases ha : c.apart f with
      | false =>
        rw [ha] at hc
        simp only [cond_false] at hc
        exact .enter (callFunc_enter (hO f args h l hc) _ _) (hF f args h l hc ρ w us hGl R hv)
      | true =>
        rw [ha] at hc
        obtain ⟨t, n, ro⟩ := h
        simp only [cond_true, onHp, forceN_eq] at hc
        cases hr : callF f args ⟨t, n, n⟩ with
        | no w => rw [hr] at hc; cases hc
        | ok l' =>
          rw [hr] at hc
          simp only at hc
          cases h1 : oneOf ⟨t, n, ro⟩ l' with
          | none => rw [h1] at hc; cases hc
          | some r =>
            rw [h1] at hc
            cases hc
            exact .enter (callFunc_enter (hO f args _ l' hr) _ _) (apart_ok hF hGl hr h1 R hv)

end
end Go.Am

/- The small machine against the model: calls of values and of methods; every operation. -/
namespace Go.Am

theorem fnFunc_some {f : Fn} {g : FuncId} (h : fnFunc f = some g) : f = .func g := by cases f <;> simp [fnFunc] at h; rw [h]
theorem fnVia_some {f : Fn} {t : TypeId} {p : Array FieldStep} {g : FuncId} {b : Bool} (h : fnVia f = some (t, p, g, b)) : f = .via t p g b := by
  cases f <;> simp [fnVia] at h; obtain ⟨rfl, rfl, rfl, rfl⟩ := h; rfl

theorem findMethod_eq (name : String) : ∀ l : List Method, findMethod name l = l.find? (·.name == name) := by
  intro l
  induction l with
  | nil => rfl
  | cons m l ih =>
    simp only [findMethod, List.find?_cons]
    cases h : m.name == name with
    | true => rfl
    | false => exact ih

section
variable {P : Program} {c : Cx} {ρ : Rho} {ws : Ws} {e : Env} {E : Operand → Value} {l : List Operand}

theorem run_receiverVia {t d : TypeId} {x : Value} (hu : P.underlying t = some (.pointer d)) (w : World) : (receiverVia t x #[] true).run P w = .ok x w := by
  unfold receiverVia
  show Sem.run P (receiverAt t (.val x) true none) w = _
  unfold receiverAt
  rw [run_ok (run_underlying hu w)]
  rfl

theorem viaOk_some {t : TypeId} {path : Array FieldStep} {p : Bool} (T : Ties P c) (h : viaOk c t path p = true) : path = #[] ∧ p = true ∧ ∃ d, P.underlying t = some (.pointer d) := by
  unfold viaOk at h
  simp only [Bool.and_eq_true] at h
  obtain ⟨⟨h1, h2⟩, h3⟩ := h
  cases hd : c.und t with
  | none => rw [hd] at h3; cases h3
  | some d =>
    rw [hd] at h3
    simp only at h3
    cases hp : tdPtr d with
    | none => rw [hp] at h3; cases h3
    | some q =>
      have := tdPtr_some hp
      subst this
      exact ⟨by simpa using h1, h2, q, T.und hd⟩

theorem callV_ok {B : Base} {G : Nat} (T : Ties P c) (X : Ties2 P c B G) {callF : CallF} (hF : FnOk P B G callF) (hGl : GlobR G ρ) (hO : ∀ f args h outs, callF f args h = .ok outs → OwnFn P f) {f : AVal} {vs : List AVal} {h : Hp} {outs : List (Option AVal × Hp)} {w : World} {fu : Value} {us : Array Value}
    (hc : callV c callF f vs h = .ok outs) (R : Rel B ρ h w.heap) (hf : VR ρ f fu) (hv : VRs ρ vs us.toList) : GoesOn P (do let d ← Deferred.ofValue fu us; invoke d.target d.args) w (ResO B ρ h w outs) := by
  unfold callV at hc
  cases hq : asFn f with
  | none => rw [hq] at hc; cases hc
  | some q =>
    obtain ⟨fn, first, captured⟩ := q
    have := asFn_some hq; subst this
    rw [hq] at hc
    simp only [on2] at hc
    rw [appendL_eq] at hc
    simp only [ob] at hc
    rw [appendL_eq] at hc
    simp only at hc
    cases hf with
    | fn _ _ _ fs cs hx hy =>
      have hall : VRs ρ (first ++ (vs ++ captured)) (fs ++ (us.toList ++ cs)) := hx.append (hv.append hy)
      cases h1 : fnFunc fn with
      | some g =>
        rw [h1] at hc
        simp only at hc
        have := fnFunc_some h1; subst this
        obtain ⟨l, hl, hm⟩ := asVal_ok hc
        refine (?_ : GoesOn P (callFunc g ((⟨fs⟩ ++ us) ++ ⟨cs⟩)) w _)
        have e1 : ((⟨fs⟩ : Array Value) ++ us) ++ ⟨cs⟩ = ⟨fs ++ (us.toList ++ cs)⟩ := by
          apply Array.toList_inj.1; simp
        rw [e1]
        exact (callG_ok X hF hGl hO hl R hall).mono (resO_of hm)
      | none =>
        rw [h1] at hc
        simp only at hc
        cases h2 : fnVia fn with
        | none => rw [h2] at hc; cases hc
        | some q =>
          obtain ⟨t, path, g, p⟩ := q
          rw [h2] at hc
          simp only at hc
          have := fnVia_some h2; subst this
          cases h3 : (viaOk c t path p && captured.isEmpty) && !(first ++ (vs ++ captured)).isEmpty with
          | false => rw [h3] at hc; cases hc
          | true =>
            rw [h3] at hc
            simp only [cond_true] at hc
            simp only [Bool.and_eq_true] at h3
            obtain ⟨rfl, rfl, d, hu⟩ := viaOk_some T h3.1.1
            have : captured = [] := List.isEmpty_iff.1 h3.1.2
            subst this
            cases hy
            obtain ⟨l, hl, hm⟩ := asVal_ok hc
            simp only [List.append_nil] at hl hall
            have hgo := (callG_ok X hF hGl hO hl R hall).mono (resO_of hm)
            refine (?_ : GoesOn P (invoke (.fn (.via t #[] g true) #[]) (⟨fs⟩ ++ us)) w _)
            have e1 : ((⟨fs⟩ : Array Value) ++ us) = ⟨fs ++ us.toList⟩ := by apply Array.toList_inj.1; simp
            rw [e1]
            generalize hz : fs ++ us.toList = zs at *
            cases zs with
            | nil =>
              cases hall' : first ++ vs with
              | nil => have := h3.2; rw [List.append_nil, hall'] at this; cases this
              | cons y ys => rw [hall'] at hall; cases hall
            | cons z zs =>
              intro o a Q K hK
              have hrun : (invoke (.fn (.via t #[] g true) #[]) ⟨z :: zs⟩).run P w = (callFunc g ⟨z :: zs⟩).run P w := by
                show Sem.run P (receiverVia t z #[] true >>= fun r => callFunc g (#[r] ++ (⟨z :: zs⟩ : Array Value).extract 1 (⟨z :: zs⟩ : Array Value).size)) w = _
                rw [run_ok (run_receiverVia hu w)]
                congr 2
                apply Array.toList_inj.1
                simp
              rw [hrun]
              exact hgo o a Q K hK

theorem run_method {t : TypeId} {i : TypeInfo} {m : Method} {g : FuncId} {pr : Bool} {d : TypeDesc} {v : Value} {name : String} {fuel : Nat} (hi : P.info? t = some i) (hm : i.methods.toList.find? (·.name == name) = some m) (hp : m.path = #[]) (hf : m.func = some (g, pr))
    (hu : P.underlying t = some d) (hk : (∃ e, d = .pointer e) ∧ pr = true ∨ (∀ e, d ≠ .pointer e) ∧ pr = false) (w : World) : (method (fuel + 1) t v name).run P w = .ok (g, v) w := by
  unfold method
  rw [run_ok (run_info hi w)]
  have : i.methods.find? (·.name == name) = some m := by rw [← hm]; simp
  simp only [this, hp]
  show Sem.run P (match m.func with | none => _ | some (f, pointerReceiver) => _) w = _
  simp only [hf]
  have h2 : ∀ wr, (receiverAt t (.val v) pr wr).run P w = .ok v w := by
    intro wr
    unfold receiverAt
    rw [run_ok (run_underlying hu w)]
    rcases hk with ⟨⟨e, rfl⟩, rfl⟩ | ⟨hn, rfl⟩
    · rfl
    · cases d <;> first | rfl | exact absurd rfl (hn _)
  rw [run_ok (h2 _)]
  rfl

theorem methodOf_some (T : Ties P c) {t : TypeId} {name : String} {g : FuncId} (h : methodOf c t name = some g) (v : Value) (w : World) : (method (P.types.size + Made.depth) t v name).run P w = .ok (g, v) w := by
  obtain ⟨i, hi, h1⟩ := ob_some h
  obtain ⟨m, hm, h2⟩ := ob_some h1
  obtain ⟨h3, h4⟩ := ok?_some h2
  obtain ⟨fp, hf, h5⟩ := ob_some h4
  obtain ⟨d, hd, h6⟩ := ob_some h5
  obtain ⟨h7, h8⟩ := ok?_some h6
  obtain ⟨g', pr⟩ := fp
  simp only [Option.some.injEq] at h8
  subst h8
  rw [findMethod_eq] at hm
  rw [show P.types.size + Made.depth = (P.types.size + 99) + 1 from rfl]
  refine run_method (T.ty _ _ hi) hm (by simpa using h3) hf (T.und hd) ?_ w
  cases hp : tdPtr d with
  | some q =>
    rw [hp] at h7
    have := tdPtr_some hp; subst this
    exact .inl ⟨⟨q, rfl⟩, h7⟩
  | none =>
    rw [hp] at h7
    simp only [Option.isSome_none, cond_false, Bool.not_eq_true'] at h7
    refine .inr ⟨fun q hq => ?_, h7⟩
    subst hq; cases hp

theorem efInvoke_ok {B : Base} {G : Nat} (T : Ties P c) (X : Ties2 P c B G) {callF : CallF} (hF : FnOk P B G callF) (hGl : GlobR G ρ) (hO : ∀ f args h outs, callF f args h = .ok outs → OwnFn P f) {r : AOpd} {name : String} {ys : List AOpd} {h : Hp} {outs : List (Option AVal × Hp)} {w : World} {ru : Value} {us : List Value}
    (hc : efInvoke r name ys c callF e h = .ok outs) (R : Rel B ρ h w.heap) (hr : ∀ v, r.ev e = some v → VR ρ v ru) (hv : ArgsR ρ e ys us) : GoesOn P (invoke (.fn (.method name) #[]) (#[ru] ++ ⟨us⟩)) w (ResO B ρ h w outs) := by
  unfold efInvoke at hc
  cases h1 : ob (r.ev e) asIface with
  | none => rw [h1] at hc; cases hc
  | some q =>
    obtain ⟨t, v⟩ := q
    obtain ⟨x, hx, hx'⟩ := ob_some h1
    have := asIface_some hx'; subst this
    rw [h1] at hc
    simp only [on2] at hc
    cases h2 : evs ys e with
    | none => rw [h2] at hc; cases hc
    | some vs =>
      rw [h2] at hc
      simp only at hc
      cases h3 : methodOf c t name with
      | none => rw [h3] at hc; cases hc
      | some g =>
        rw [h3] at hc
        simp only at hc
        obtain ⟨l, hl, hm⟩ := asVal_ok hc
        have hR := hr _ hx
        cases hR with
        | iface _ _ u hu =>
          have hgo := (callG_ok X hF hGl hO hl R (.cons _ _ _ _ hu (hv.2 vs h2))).mono (resO_of hm)
          intro o a Q K hK
          have hrun : (invoke (.fn (.method name) #[]) (#[Value.iface t u] ++ ⟨us⟩)).run P w = (callFunc g ⟨u :: us⟩).run P w := by
            have e1 : (#[Value.iface t u] ++ ⟨us⟩ : Array Value) = ⟨Value.iface t u :: us⟩ := by apply Array.toList_inj.1; simp
            rw [e1]
            show Sem.run P (callMethod (Value.iface t u) name ((⟨Value.iface t u :: us⟩ : Array Value).extract 1 (⟨Value.iface t u :: us⟩ : Array Value).size)) w = _
            unfold callMethod
            rw [run_ok (run_program P w)]
            simp only
            show Sem.run P (method (P.types.size + Made.depth) t u name >>= fun p => callFunc p.1 (#[p.2] ++ (⟨Value.iface t u :: us⟩ : Array Value).extract 1 (⟨Value.iface t u :: us⟩ : Array Value).size)) w = _
            rw [run_ok (methodOf_some T h3 u w)]
            congr 2
            apply Array.toList_inj.1
            simp
          rw [hrun]
          exact hgo o a Q K hK

end
end Go.Am

/- The small machine against the model: every operation, calls too. -/
namespace Go.Am

section
variable {P : Program} {c : Cx} {ρ : Rho} {ws : Ws} {e : Env} {E : Operand → Value} {l : List Operand}

/-- How a compiled operation is like the model's. -/
def StepOk (P : Program) (c : Cx) (ρ : Rho) (e : Env) (s : Sem Next) : AOp → Prop
  | .ef f => ∀ B G callF, Ties2 P c B G → FnOk P B G callF → (∀ f args h outs, callF f args h = .ok outs → OwnFn P f) → GlobR G ρ → ∀ h w outs, Rel B ρ h w.heap → runEf f c callF e h = .ok outs → GoesOn P s w (ResO B ρ h w outs)
  | a => AopOk P ρ e s a

theorem stepOk_of {s : Sem Next} {a : AOp} (h : AopOk P ρ e s a) (hn : ∀ f, a ≠ .ef f) : StepOk P c ρ e s a := by
  cases a <;> first | exact h | exact absurd rfl (hn _)
theorem stepOk_ef {s : Sem Next} {f : Ef} (h : ∀ callF, EfOk P ρ e s (fun e h => runEf f c callF e h)) : StepOk P c ρ e s (.ef f) :=
  fun _ _ callF _ _ _ _ _ _ _ R hr => efOk_goes (h callF) R hr

theorem noCalls {o : Op} {f : Ef} (h : comp1 o c ws = some (.ef f)) (hb : ∀ k, o ≠ .call k) : f.calls = false := by
  by_cases g : o.still
  · exact absurd h (noEf_of o g f)
  · cases o <;> first
      | exact absurd trivial g
      | skip
    case store t a x => obtain ⟨_, _, h1⟩ := ob_some h; obtain ⟨_, _, h2⟩ := ob_some h1; obtain ⟨_, _, h3⟩ := ob_some h2; cases h3; rfl
    case mapUpdate t m k x => obtain ⟨_, _, h1⟩ := ob_some h; obtain ⟨_, _, h2⟩ := ob_some h1; obtain ⟨_, _, h3⟩ := ob_some h2; obtain ⟨_, _, h4⟩ := ob_some h3; obtain ⟨_, _, h5⟩ := ob_some h4; obtain ⟨_, _, h6⟩ := ob_some h5; cases h6; rfl
    case insert t m k x => obtain ⟨_, _, h1⟩ := ob_some h; obtain ⟨_, _, h2⟩ := ob_some h1; obtain ⟨_, _, h3⟩ := ob_some h2; obtain ⟨_, _, h4⟩ := ob_some h3; obtain ⟨_, _, h5⟩ := ob_some h4; obtain ⟨_, _, h6⟩ := ob_some h5; cases h6; rfl
    case mapEntry t m k => obtain ⟨_, _, h1⟩ := ob_some h; obtain ⟨_, _, h2⟩ := ob_some h1; obtain ⟨_, _, h3⟩ := ob_some h2; obtain ⟨_, _, h4⟩ := ob_some h3; obtain ⟨_, _, h5⟩ := ob_some h4; obtain ⟨_, _, h6⟩ := ob_some h5; cases h6; rfl
    case entryStore t m s x => obtain ⟨_, _, h1⟩ := ob_some h; obtain ⟨_, _, h2⟩ := ob_some h1; obtain ⟨_, _, h3⟩ := ob_some h2; cases h3; rfl
    case range t x =>
      obtain ⟨d, _, h1⟩ := ob_some h; obtain ⟨x', _, h2⟩ := ob_some h1
      cases e1 : tdString d with
      | true => rw [e1] at h2; cases h2
      | false => rw [e1] at h2; obtain ⟨_, _, h3⟩ := ob_some h2; cases h3; rfl
    case next x s => obtain ⟨_, _, h1⟩ := ob_some h; cases h1; rfl
    case call k => exact absurd rfl (hb k)

theorem compBuiltin_ok (T : Ties P c) {b : Builtin} {ts : Array TypeId} {ty : TypeId} {cs : Array Bool} {ys : List AOpd} {args : List Value} {a : AOp} (hA : ArgsR ρ e ys args) (h : compBuiltin b ts ys c = some a) :
    StepOk P c ρ e (builtin b ts ty cs ⟨args⟩) a := by
  cases b
  case append =>
    obtain ⟨p, hp, h1⟩ := ob_some (show bAppend ts ys c = some a from h)
    have h0 := h
    obtain ⟨_, _, h2⟩ := ob_some h1
    obtain ⟨_, _, h3⟩ := ob_some h2
    obtain ⟨_, _, h4⟩ := ob_some h3
    obtain ⟨_, _, h5⟩ := ob_some h4
    obtain ⟨_, _, h6⟩ := ob_some h5
    obtain ⟨_, _, h7⟩ := ob_some h6
    obtain ⟨u, _, h8⟩ := ob_some h7
    obtain ⟨_, _, h9⟩ := ob_some h8
    obtain ⟨_, h10⟩ := ok?_some h9
    cases hu : tdInt u with
    | none => rw [hu] at h10; cases h10; exact stepOk_ef fun _ => bAppend_ok (ty := ty) T hA h0
    | some _ => rw [hu] at h10; cases h10; exact stepOk_ef fun _ => bAppendZeros_ok (ty := ty) T hA h0
  case cap => exact stepOk_of (bCap_ok (ty := ty) T hA h) (fun f hf => by
    subst hf
    obtain ⟨_, _, h1⟩ := ob_some (show bCap ts ys c = _ from h); obtain ⟨_, _, h2⟩ := ob_some h1; obtain ⟨_, _, h3⟩ := ob_some h2; obtain ⟨_, _, h4⟩ := ob_some h3; cases h4)
  case clear => obtain ⟨s, z, x, rfl, h1⟩ := bClear_ok (ty := ty) T hA h; exact stepOk_ef fun _ => h1
  case copy => obtain ⟨s, d, x, rfl, h1⟩ := bCopy_ok (ty := ty) T hA h; exact stepOk_ef fun _ => h1
  case delete => obtain ⟨kd, m, k, rfl, h1⟩ := bDelete_ok (ty := ty) T hA h; exact stepOk_ef fun _ => h1
  case unsafeString => obtain ⟨t, x, n, rfl, h1⟩ := bUnsafeString_ok (ty := ty) T hA h; exact stepOk_ef fun _ => h1
  case len => exact stepOk_of (bLen_ok (ty := ty) T hA h) (fun f hf => by
    subst hf
    revert h
    show bLen ts ys c ≠ _
    revert f
    show NoEf _
    unfold bLen
    repeat (first | exact noEf_pu | exact noEf_rd | refine noEf_ob (fun _ => ?_) | refine noEf_cond ?_ ?_ | refine noEf_opt ?_ (fun _ => ?_)))
  case max => cases h; cases args <;> exact (bMM_ok (mx := true) hA)
  case min => cases h; cases args <;> exact (bMM_ok (mx := false) hA)
  case unsafeSliceData => exact stepOk_of (bSliceData_ok (ts := ts) (ty := ty) (c := c) hA h) (fun f hf => by
    subst hf
    obtain ⟨_, _, h1⟩ := ob_some (show bSliceData ts ys c = _ from h); cases h1)
  all_goals exact absurd h (by intro h; cases h)

theorem op_ok (T : Ties P c) {o : Oper} {a : AOp} (hE : EvR ρ ws e E o.op.operands.toList) (h : comp1 o.op c ws = some a) : StepOk P c ρ e (execOp E o) a := by
  by_cases hb : ∀ k, o.op ≠ .call k
  · have h1 := comp_ok T hE h hb
    cases a with
    | ef f => exact stepOk_ef (h1 (noCalls h hb))
    | _ => exact h1
  · obtain ⟨dst, op, ty⟩ := o
    simp only [Classical.not_forall, Classical.not_not] at hb
    obtain ⟨k, rfl⟩ := hb
    simp only at h hE
    have h0 : cpCall k c ws = some a := h
    obtain ⟨args, ha, h1⟩ := ob_some h0
    have hA : ArgsR ρ e args (k.args.toList.map E) := hE.args (fun x hx => by simp [Op.operands, Call.operands]; right; exact Array.mem_toList_iff.1 hx) ha
    obtain ⟨callee, kargs, kts⟩ := k
    cases callee with
    | value f =>
      obtain ⟨f', hf, h2⟩ := ob_some h1
      cases h2
      intro B G callF X hF hO hGl h w outs R hr
      have hr : efCall f' args c callF e h = .ok outs := hr
      unfold efCall at hr
      cases hv : f'.ev e with
      | none => rw [hv] at hr; cases hr
      | some v =>
        rw [hv] at hr
        simp only at hr
        cases hvs : evs args e with
        | none => rw [hvs] at hr; cases hr
        | some vs =>
          rw [hvs] at hr
          simp only at hr
          have hh := callV_ok (us := kargs.map E) T X hF hGl hO hr R (hE.at (by simp [Op.operands, Call.operands]) hf hv) (by simpa using hA.2 vs hvs)
          exact hh
    | invoke r name =>
      obtain ⟨r', hr', h2⟩ := ob_some h1
      cases h2
      intro B G callF X hF hO hGl h w outs R hr
      have hr : efInvoke r' name args c callF e h = .ok outs := hr
      have hh := efInvoke_ok T X hF hGl hO hr R (fun v hv => hE.at (by simp [Op.operands, Call.operands]) hr' hv) hA
      have e1 : (⟨kargs.toList.map E⟩ : Array Value) = kargs.map E := by apply Array.toList_inj.1; simp
      rw [e1] at hh
      exact hh
    | builtin b =>
      have e1 : (⟨kargs.toList.map E⟩ : Array Value) = kargs.map E := by apply Array.toList_inj.1; simp
      have hh := compBuiltin_ok (ty := ty) (cs := kargs.map fun | .const _ => true | _ => false) T hA (show compBuiltin b kts args c = some a from h1)
      rw [e1] at hh
      exact hh

end
end Go.Am

/- The small machine: what is asked of a program's regions. -/
namespace Go.Am

/-- The slots among operands. -/
def tmpsOf : List Operand → List Tmp
  | [] => []
  | .tmp t :: l => t :: tmpsOf l
  | _ :: l => tmpsOf l

def hasN (s : Nat) : List Nat → Bool
  | [] => false
  | x :: l => bif x.beq s then true else hasN s l

/-- No global past the last one. -/
def globsOk (G : Nat) : List Operand → Bool
  | [] => true
  | .global g :: l => g.blt G && globsOk G l
  | _ :: l => globsOk G l

def dstOk (N : Nat) (d : Option Tmp) : Bool := Option.casesOn (motive := fun _ => Bool) d true (fun t => t.blt N)

def lookO (n : Nat) : List (Option Tmp) → Option Tmp
  | [] => none
  | x :: l => Nat.casesOn (motive := fun _ => Option Tmp) n x (fun m => lookO m l)

/-- The guard looks at what its operation wrote. -/
def guardOk (i : Nat) (ws : List (Option Tmp)) (o : Oper) : Bool :=
  Option.casesOn (motive := fun _ => Bool) o.guard true (fun g => g.1.blt i && Option.casesOn (motive := fun _ => Bool) (lookO (i - 1 - g.1) ws) false (fun t => match lastIn t ws 0 with | some j => j.beq (i - 1 - g.1) | none => false))

def seqOk (N G : Nat) : List Oper → Nat → List (Option Tmp) → Bool
  | [], _, _ => true
  | o :: l, i, ws => (dstOk N o.dst && (globsOk G o.op.operands.toList && guardOk i ws o)) && seqOk N G l (i + 1) (o.dst :: ws)

/-- An operation ahead: its number, the slot it writes, the slots it looks at. -/
structure Ahead where
  i : Nat
  dst : Option Tmp
  looks : List Tmp

def isDst (t : Tmp) (d : Option Tmp) : Bool := Option.casesOn (motive := fun _ => Bool) d false (fun u => u.beq t)

/-- Two operations, the first one ahead in the text: what the one writes and the other looks at is ordered. -/
def pairOk (m : Nat) (p : Ahead) (dst : Option Tmp) (looks : List Tmp) : Bool :=
  Option.casesOn (motive := fun _ => Bool) p.dst true (fun t => !isDst t dst && (!hasN t looks || m.testBit p.i)) &&
  Option.casesOn (motive := fun _ => Bool) dst true (fun t => !hasN t p.looks || m.testBit p.i)

def pairsOk (m : Nat) (dst : Option Tmp) (looks : List Tmp) : List Ahead → Bool
  | [] => true
  | p :: l => pairOk m p dst looks && pairsOk m dst looks l

/-- All that must be ahead is among these. -/
def edgesIn (md : Region.Mode) (m : Nat) : List Edge → Bool
  | [] => true
  | e :: l => (!Region.binds md e || m.testBit e.on) && edgesIn md m l

/-- Those that can be done, one behind the other. -/
def passE (md : Region.Mode) : List Oper → Nat → Nat → Nat
  | [], _, m => m
  | o :: l, i, m => forceN (bif m.testBit i then m else bif edgesIn md m o.after.toList then m.lor (2 ^ i) else m) fun m => passE md l (i + 1) m

/-- All can be done. -/
def fullIn (md : Region.Mode) (l : List Oper) : Nat → Nat → Bool
  | 0, _ => false
  | k + 1, m => forceN (passE md l 0 m) fun m => bif m.beq (2 ^ l.length - 1) then true else fullIn md l k m

def guardMask (m : Nat) (o : Oper) : Bool := Option.casesOn (motive := fun _ => Bool) o.guard true (fun g => m.testBit g.1)

def drawOk (N G : Nat) : List Oper → Nat → List (Option Tmp) → List Nat → List Ahead → Bool
  | [], _, _, _, _ => true
  | o :: l, i, ws, ms, ps => forceN (maskOf ms o.after.toList) fun m =>
    (dstOk N o.dst && (globsOk G o.op.operands.toList && (guardOk i ws o && (guardMask m o && pairsOk m o.dst (tmpsOf o.op.operands.toList) ps)))) &&
      drawOk N G l (i + 1) (o.dst :: ws) (ms ++ [m]) (⟨i, o.dst, tmpsOf o.op.operands.toList⟩ :: ps)

def codeOk (N G : Nat) : Code → Bool
  | .region _ ops draw => bif draw then drawOk N G ops.toList 0 [] [] [] && (fullIn .any ops.toList 8 0 && (!Region.departs ops || (fullIn .text ops.toList 8 0 && fullIn .gc ops.toList 8 0))) else seqOk N G ops.toList 0 []
  | .seq a b => codeOk N G a && codeOk N G b
  | .cond x a b => globsOk G [x] && (codeOk N G a && codeOk N G b)
  | .block _ b => codeOk N G b
  | .loop b => codeOk N G b
  | .scope b => codeOk N G b
  | _ => true

def fnOk (G : Nat) (fn : Func) : Bool := (match fn.body with | some c => codeOk fn.ntmps G c | none => true) && !(fn.name == "runtime.NumGoroutine")

end Go.Am

/- The small machine against the model: frames; an operation in its region. -/
namespace Go.Am

structure ActOk (N : Nat) (a : Act) : Prop where
  size : a.tmps.size = N
  defers : a.defers = []
/-- A slot holds something alike. -/
def Slot (ρ : Rho) (a : Act) (t : Tmp) (v : AVal) : Prop := ∃ u, a.tmps[t]? = some u ∧ VR ρ v u
/-- Frames alike at these slots. -/
def FrR (g : Nat) (ρ : Rho) (fr : Fr) (a : Act) : Prop := ∀ t, g.testBit t = true → ∀ v, fr.get t = some v → Slot ρ a t v

theorem Slot.ext {ρ ρ' : Rho} (e : Ext' ρ ρ') {a : Act} {t : Tmp} {v : AVal} (h : Slot ρ a t v) : Slot ρ' a t v := by obtain ⟨u, h1, h2⟩ := h; exact ⟨u, h1, h2.ext e⟩
theorem FrR.ext {g : Nat} {ρ ρ' : Rho} (e : Ext' ρ ρ') {fr : Fr} {a : Act} (h : FrR g ρ fr a) : FrR g ρ' fr a := fun t ht v hv => (h t ht v hv).ext e

theorem lastIn_none {t : Tmp} : ∀ {ws : List (Option Tmp)} {i : Nat}, lastIn t ws i = none → ∀ k : Nat, ws[k]? ≠ some (some t) := by
  intro ws
  induction ws with
  | nil => intro i _ k; simp
  | cons d l ih =>
    intro i h k
    cases d with
    | none =>
      cases k with
      | zero => simp
      | succ k => simpa using ih (show lastIn t l (i + 1) = none from h) k
    | some u =>
      have h : (bif u.beq t then some i else lastIn t l (i + 1)) = none := h
      cases e : u.beq t with
      | true => rw [e] at h; cases h
      | false =>
        rw [e] at h
        cases k with
        | zero => simp; intro g; subst g; rw [beqY rfl] at e; cases e
        | succ k => simpa using ih h k

theorem lastIn_some {t : Tmp} : ∀ {ws : List (Option Tmp)} {i j : Nat}, lastIn t ws i = some j → ∃ k, j = i + k ∧ ws[k]? = some (some t) := by
  intro ws
  induction ws with
  | nil => intro i j h; cases h
  | cons d l ih =>
    intro i j h
    cases d with
    | none =>
      obtain ⟨k, h1, h2⟩ := ih (show lastIn t l (i + 1) = some j from h)
      exact ⟨k + 1, by omega, by simpa using h2⟩
    | some u =>
      have h : (bif u.beq t then some i else lastIn t l (i + 1)) = some j := h
      cases e : u.beq t with
      | true =>
        rw [e] at h
        cases h
        have := beq_true e; subst this
        exact ⟨0, rfl, rfl⟩
      | false =>
        rw [e] at h
        obtain ⟨k, h1, h2⟩ := ih h
        exact ⟨k + 1, by omega, by simpa using h2⟩

theorem lastIn_shift {t : Tmp} : ∀ {ws : List (Option Tmp)} {i : Nat}, lastIn t ws (i + 1) = (lastIn t ws i).map (· + 1) := by
  intro ws
  induction ws with
  | nil => intro i; rfl
  | cons d l ih =>
    intro i
    cases d with
    | none => exact ih
    | some u =>
      show (bif u.beq t then some (i + 1) else lastIn t l (i + 1 + 1)) = (bif u.beq t then some i else lastIn t l (i + 1)).map (· + 1)
      cases u.beq t with
      | true => rfl
      | false => exact ih

theorem nthO_cons (x : Option AVal) (st : List (Option AVal)) (j : Nat) : nthO (j + 1) (x :: st) = nthO j st := rfl
theorem nthO_zero (x : Option AVal) (st : List (Option AVal)) : nthO 0 (x :: st) = x := rfl

theorem globsOk_mem {G g : Nat} : ∀ {l : List Operand}, globsOk G l = true → Operand.global g ∈ l → g < G := by
  intro l
  induction l with
  | nil => intro _ h; simp at h
  | cons x l ih =>
    intro h hm
    cases x with
    | global g' =>
      simp only [globsOk, Bool.and_eq_true] at h
      rcases List.mem_cons.1 hm with e | hm
      · cases e
        have := h.1
        rw [Nat.blt, ble_eq] at this
        exact (by simpa using this : g + 1 ≤ G)
      · exact ih h.2 hm
    | tmp t => rcases List.mem_cons.1 hm with e | hm; · cases e
               · exact ih (show globsOk G l = true from h) hm
    | const v => rcases List.mem_cons.1 hm with e | hm; · cases e
                 · exact ih (show globsOk G l = true from h) hm
    | func f => rcases List.mem_cons.1 hm with e | hm; · cases e
                · exact ih (show globsOk G l = true from h) hm

theorem tmpsOf_mem {t : Tmp} : ∀ {l : List Operand}, Operand.tmp t ∈ l → t ∈ tmpsOf l := by
  intro l
  induction l with
  | nil => intro h; simp at h
  | cons x l ih =>
    intro hm
    cases x with
    | tmp u =>
      rcases List.mem_cons.1 hm with e | hm
      · cases e; exact List.mem_cons_self ..
      · exact List.mem_cons_of_mem _ (ih hm)
    | _ => rcases List.mem_cons.1 hm with e | hm; · cases e
           · exact ih hm

section
variable {P : Program} {c : Cx} {ρ : Rho} {ws : Ws} {l : List Operand} {st : St} {fr : Fr} {a : Act} {G : Nat}

theorem evR_of (hG : GlobR G ρ) (hg : globsOk G l = true) (hs : ∀ t, Operand.tmp t ∈ l → ∀ j, lastIn t ws 0 = some j → ∀ v, nthO j st = some v → Slot ρ a t v)
    (hf : ∀ t, Operand.tmp t ∈ l → lastIn t ws 0 = none → ∀ v, fr.get t = some v → Slot ρ a t v) : EvR ρ ws ⟨st, fr⟩ a.eval l := by
  have key : ∀ t u, a.tmps[t]? = some u → a.eval (.tmp t) = u := fun t u h => by simp [Act.eval, h]
  intro x hm y hy v hv
  cases x with
  | tmp t =>
    simp only [ofOpd, Option.some.injEq] at hy
    cases e : lastIn t ws 0 with
    | none =>
      rw [e] at hy
      subst hy
      obtain ⟨u, h1, h2⟩ := hf t hm e v hv
      rw [key t u h1]; exact h2
    | some j =>
      rw [e] at hy
      subst hy
      obtain ⟨u, h1, h2⟩ := hs t hm j e v hv
      rw [key t u h1]; exact h2
  | const k =>
    obtain ⟨z, hz, h1⟩ := ob_some hy
    cases h1
    cases hv
    exact ofConst_ok hz
  | global g =>
    cases hy
    cases hv
    obtain ⟨n, hn⟩ := hG g (globsOk_mem hg hm)
    exact .ptr _ _ _ _ hn
  | func f =>
    cases hy
    cases hv
    exact .fn _ [] [] [] [] .nil .nil

theorem al_wr {al : Al} {e : Env} {nm : Nm} {o : AObj} (h : al.ev e = some (nm, o)) : o.wr = true := by
  cases al with
  | new cs el => cases h; rfl
  | box el x => obtain ⟨v, _, h1⟩ := ob_some (show alBox el x e = _ from h); obtain ⟨_, h2⟩ := ok?_some h1; cases h2; rfl
  | buildSlice n el z ps => obtain ⟨v, _, h1⟩ := ob_some (show alBuild n el z ps e = _ from h); obtain ⟨_, _, h2⟩ := ob_some h1; cases h2; rfl
  | makeMap => cases h; rfl
  | makeSlice el s b z x y =>
    obtain ⟨_, _, h1⟩ := ob_some (show alMakeSlice el s b z x y e = _ from h)
    obtain ⟨_, _, h2⟩ := ob_some h1
    obtain ⟨_, _, h3⟩ := ob_some h2
    obtain ⟨_, _, h4⟩ := ob_some h3
    obtain ⟨_, h5⟩ := ok?_some h4
    rw [forceN_eq, forceN_eq] at h5
    cases h5; rfl
  | rangeStr x => obtain ⟨v, _, h1⟩ := ob_some (show alRangeStr x e = _ from h); obtain ⟨_, _, h2⟩ := ob_some h1; cases h2; rfl
  | strBytes el x => obtain ⟨v, _, h1⟩ := ob_some (show alBytes el x e = _ from h); obtain ⟨_, _, h2⟩ := ob_some h1; obtain ⟨_, h3⟩ := ok?_some h2; cases h3; rfl

/-- An operation of a region that is done in the text's order. -/
theorem op_step {B : Base} (T : Ties P c) (X : Ties2 P c B G) {callF : CallF} (hF : FnOk P B G callF) (hO : ∀ f args h outs, callF f args h = .ok outs → OwnFn P f) (hGl : GlobR G ρ) {o : Oper} (hE : EvR ρ ws ⟨st, fr⟩ a.eval o.op.operands.toList)
    {k : OpsF} {h : Hp} {w : World} {outs : List (St × Hp)} {Q : Exit → Act → World → Prop} {K : Act → World → Prop} (hr : runOp (comp c ws o.op) c callF fr k st h = .ok outs) (RR : Rel B ρ h w.heap)
    (hK : ∀ x h1 ρ1 w1 u outs1, (∀ v, x = some v → VR ρ1 v u) → Rel B ρ1 h1 w1.heap → Goes ρ h w ρ1 h1 w1 → k (x :: st) h1 = .ok outs1 → (∀ y ∈ outs1, y ∈ outs) → K (a.put o.dst u) w1) : o.wp P a w K Q := by
  unfold comp at hr
  unfold Oper.wp
  cases hc : comp1 o.op c ws with
  | none => rw [hc] at hr; cases hr
  | some ao =>
    rw [hc] at hr
    simp only at hr
    have hS := op_ok T hE hc
    cases ao with
    | no why => cases hr
    | mv x =>
      obtain ⟨u, h1, h2⟩ := (hS : ∃ u, (∀ w, (execOp a.eval o).run P w = .ok (.value u) w) ∧ ∀ v, x.ev ⟨st, fr⟩ = some v → VR ρ v u)
      rw [h1 w, Oper.upon_value]
      exact hK _ h ρ w u outs h2 RR (Goes.refl _ _ _) hr (fun y hy => hy)
    | pu p =>
      have hr : Option.casesOn (motive := fun _ => R (St × Hp)) (p.ev ⟨st, fr⟩) (.no "a value") (fun v => k (some v :: st) h) = .ok outs := hr
      cases hv : p.ev ⟨st, fr⟩ with
      | none => rw [hv] at hr; cases hr
      | some v =>
        rw [hv] at hr
        obtain ⟨u, h1, h2⟩ := (hS : PuOk P ρ ⟨st, fr⟩ (execOp a.eval o) p) v hv w
        rw [h1, Oper.upon_value]
        exact hK (some v) h ρ w u outs (fun v' e => by cases e; exact h2) RR (Goes.refl _ _ _) hr (fun y hy => hy)
    | rd r =>
      have hr : Option.casesOn (motive := fun _ => R (St × Hp)) (r.ev ⟨st, fr⟩ h) (.no "a read") (fun v => k (some v :: st) h) = .ok outs := hr
      cases hv : r.ev ⟨st, fr⟩ h with
      | none => rw [hv] at hr; cases hr
      | some v =>
        rw [hv] at hr
        obtain ⟨u, h1, h2⟩ := (hS : RdOk P ρ ⟨st, fr⟩ (execOp a.eval o) r) B h w RR v hv
        rw [h1, Oper.upon_value]
        exact hK (some v) h ρ w u outs (fun v' e => by cases e; exact h2) RR (Goes.refl _ _ _) hr (fun y hy => hy)
    | al al =>
      have hr : Option.casesOn (motive := fun _ => R (St × Hp)) (al.ev ⟨st, fr⟩) (.no "a new block") (fun r => on2 r fun nm ob => h.newK ob fun b h => nm.atK b fun v => k (some v :: st) h) = .ok outs := hr
      cases hv : al.ev ⟨st, fr⟩ with
      | none => rw [hv] at hr; cases hr
      | some r =>
        obtain ⟨nm, ob⟩ := r
        rw [hv] at hr
        simp only [on2, Hp.newK_eq, Nm.atK_eq] at hr
        obtain ⟨u, obj, n, d, h1, h2⟩ := (hS : AlOk P ρ ⟨st, fr⟩ (execOp a.eval o) al) nm ob hv w
        obtain ⟨h3, h4⟩ := h2 h.next (RR.fresh _ (Nat.le_refl _)).1
        obtain ⟨a1, a2⟩ := Rel.alloc (w' := { w with heap := w.heap.push obj, drawn := d }) (n := n) (o := ob) RR rfl (h4 _ (by show (w.heap.push obj)[w.heap.size]? = _; exact Array.getElem?_push_size)) rfl rfl rfl (al_wr hv)
        rw [h1, Oper.upon_value]
        exact hK (some (nm.at h.next)) _ _ _ u outs (fun v' e => by cases e; exact h3) a1 a2 hr (fun y hy => hy)
    | ef f =>
      have hr : (runEf f c callF ⟨st, fr⟩ h).bind (fun r => on2 r fun v h => k (orTup v :: st) h) = .ok outs := hr
      obtain ⟨l, h1, h2⟩ := R.bind_ok hr
      refine hS B G callF X hF hO hGl h w l RR h1 o a Q K fun u w' hu => ?_
      obtain ⟨v, h', ρ', m1, m2, m3, m4⟩ := hu
      obtain ⟨x, hx, hb⟩ := h2 (v, h') m1
      refine hK (orTup v) h' ρ' w' u x (fun v' e => ?_) m3 m4 hx hb
      rw [orTup_eq] at e
      cases e; exact m2

end
end Go.Am

/- The small machine against the model: regions in the text's order. -/
namespace Go.Am

/-- The slots that are looked at but not written ahead are among these. -/
def FreeOk (g : Nat) : List Oper → List (Option Tmp) → Prop
  | [], _ => True
  | o :: l, ws => (∀ t, Operand.tmp t ∈ o.op.operands.toList → lastIn t ws 0 = none → g.testBit t = true) ∧ FreeOk g l (o.dst :: ws)

theorem bit_or {g t u : Nat} : (g.lor (2 ^ t)).testBit u = (g.testBit u || decide (t = u)) := by
  show (g ||| 2 ^ t).testBit u = _
  rw [Nat.testBit_or, Nat.testBit_two_pow]

theorem freeOpds_ok {ws : List (Option Tmp)} : ∀ (l : List Operand) (g : Nat), (∀ u, g.testBit u = true → (freeOpds ws l g).testBit u = true) ∧ ∀ t, Operand.tmp t ∈ l → lastIn t ws 0 = none → (freeOpds ws l g).testBit t = true := by
  intro l
  induction l with
  | nil => intro g; exact ⟨fun _ h => h, fun t h => by simp at h⟩
  | cons x l ih =>
    intro g
    cases x with
    | tmp u =>
      cases e : lastIn u ws 0 with
      | some j =>
        have he : freeOpds ws (.tmp u :: l) g = freeOpds ws l g := by simp only [freeOpds, e]
        rw [he]
        refine ⟨(ih g).1, fun t ht hn => ?_⟩
        rcases List.mem_cons.1 ht with h | h
        · cases h; rw [e] at hn; cases hn
        · exact (ih g).2 t h hn
      | none =>
        have he : freeOpds ws (.tmp u :: l) g = freeOpds ws l (g.lor (2 ^ u)) := by simp only [freeOpds, e]
        rw [he]
        refine ⟨fun t ht => (ih _).1 t (by rw [bit_or, ht]; rfl), fun t ht hn => ?_⟩
        rcases List.mem_cons.1 ht with h | h
        · cases h; exact (ih _).1 _ (by rw [bit_or]; simp)
        · exact (ih _).2 t h hn
    | _ =>
      refine ⟨(ih g).1, fun t ht hn => ?_⟩
      rcases List.mem_cons.1 ht with h | h
      · cases h
      · exact (ih g).2 t h hn

theorem freeOps_ok : ∀ (l : List Oper) (ws : List (Option Tmp)) (g0 : Nat), (∀ u, g0.testBit u = true → (freeOps l ws g0).testBit u = true) ∧ ∀ g, (∀ u, (freeOps l ws g0).testBit u = true → g.testBit u = true) → FreeOk g l ws := by
  intro l
  induction l with
  | nil => intro ws g0; exact ⟨fun _ h => h, fun g _ => trivial⟩
  | cons o l ih =>
    intro ws g0
    have he : freeOps (o :: l) ws g0 = freeOps l (o.dst :: ws) (freeOpds ws o.op.operands.toList g0) := by simp only [freeOps, forceN_eq]
    rw [he]
    obtain ⟨h1, h2⟩ := freeOpds_ok (ws := ws) o.op.operands.toList g0
    obtain ⟨h3, h4⟩ := ih (o.dst :: ws) (freeOpds ws o.op.operands.toList g0)
    exact ⟨fun u hu => h3 u (h1 u hu), fun g hg => ⟨fun t ht hn => hg t (h3 t (h2 t ht hn)), h4 g hg⟩⟩

theorem vr_asBool {ρ : Rho} {v : AVal} {u : Value} (h : VR ρ v u) : (match (some u : Option Value) with | some (.bool b) => some b | _ => none) = asBool v := by cases h <;> rfl

theorem lookO_some : ∀ {ws : List (Option Tmp)} {n : Nat} {t : Tmp}, lookO n ws = some t → ws[n]? = some (some t) := by
  intro ws
  induction ws with
  | nil => intro n t h; simp [lookO] at h
  | cons x l ih =>
    intro n t h
    cases n with
    | zero => have h : x = some t := h; subst h; rfl
    | succ n => simpa using ih (show lookO n l = some t from h)

/-- What a guard asks, by the slot that it looks at. -/
def wants (v : AVal) (want : Bool) : Bool := Option.casesOn (motive := fun _ => Bool) (asBool v) false (fun b => b == want)

theorem guard_eq {ρ : Rho} {a : Act} {ops : Array Oper} {o : Oper} {gi : Nat} {want : Bool} {t : Tmp} {v : AVal} (ho : o.guard = some (gi, want)) (hd : (ops[gi]?).bind (·.dst) = some t) (hs : Slot ρ a t v) :
    Region.wanted o (yielded ops a.tmps) = wants v want := by
  obtain ⟨u, h1, h2⟩ := hs
  have hb := vr_asBool h2
  unfold Region.wanted wants
  rw [ho]
  simp only
  unfold yielded
  rw [hd]
  simp only [Option.bind_some, h1]
  rw [← hb]
  cases u with
  | bool b => rfl
  | _ => rfl

/-- How far a region has come in the text's order. -/
structure SInv (N G : Nat) (a0 : Act) (ρ : Rho) (ws : List (Option Tmp)) (st : St) (a : Act) : Prop where
  ok : ActOk N a
  glob : GlobR G ρ
  wr : ∀ t j, lastIn t ws 0 = some j → ∀ v, nthO j st = some v → Slot ρ a t v
  un : ∀ t, lastIn t ws 0 = none → a.tmps[t]? = a0.tmps[t]?

theorem put_tmps {a : Act} {d : Tmp} {u : Value} (h : d < a.tmps.size) (t : Tmp) : (a.put (some d) u).tmps[t]? = if t = d then some u else a.tmps[t]? := by
  simp only [Act.put, Array.getElem?_setIfInBounds]
  by_cases e : d = t
  · subst e; simp [h]
  · simp [e, Ne.symm e]

theorem dstOk_some {N d : Nat} (h : dstOk N (some d) = true) : d < N := by
  have h : d.blt N = true := h
  rw [Nat.blt, ble_eq] at h
  exact (by simpa using h : d + 1 ≤ N)

theorem ActOk.put {N : Nat} {a : Act} (h : ActOk N a) (d : Option Tmp) (u : Value) : ActOk N (a.put d u) := by
  cases d with
  | none => exact h
  | some d => exact ⟨by simp [Act.put, h.size], h.defers⟩

theorem SInv.step {N G : Nat} {a0 a : Act} {ρ ρ1 : Rho} {ws : List (Option Tmp)} {st : St} (h : SInv N G a0 ρ ws st a) (e : Ext' ρ ρ1) {d : Option Tmp} (hd : dstOk N d = true) {x : Option AVal} {u : Value} (hx : ∀ v, x = some v → VR ρ1 v u) :
    SInv N G a0 ρ1 (d :: ws) (x :: st) (a.put d u) := by
  cases d with
  | none =>
    refine ⟨h.ok, h.glob.ext e, fun t j hj v hv => ?_, fun t ht => ?_⟩
    · have hj : lastIn t ws (0 + 1) = some j := hj
      rw [lastIn_shift] at hj
      cases q : lastIn t ws 0 with
      | none => rw [q] at hj; cases hj
      | some k => rw [q] at hj; cases hj; exact (h.wr t k q v hv).ext e
    · have ht : lastIn t ws (0 + 1) = none := ht
      rw [lastIn_shift] at ht
      cases q : lastIn t ws 0 with
      | none => exact h.un t q
      | some k => rw [q] at ht; cases ht
  | some d =>
    have hlt : d < a.tmps.size := by rw [h.ok.size]; exact dstOk_some hd
    refine ⟨h.ok.put _ _, h.glob.ext e, fun t j hj v hv => ?_, fun t ht => ?_⟩
    · have hj : (bif d.beq t then some 0 else lastIn t ws (0 + 1)) = some j := hj
      cases q : d.beq t with
      | true =>
        rw [q] at hj; cases hj
        have := beq_true q; subst this
        exact ⟨u, by rw [put_tmps hlt]; simp, hx v hv⟩
      | false =>
        rw [q] at hj
        have hne : t ≠ d := fun e => by subst e; rw [beqY rfl] at q; cases q
        simp only [cond_false] at hj
        rw [lastIn_shift] at hj
        cases q : lastIn t ws 0 with
        | none => rw [q] at hj; cases hj
        | some k =>
          rw [q] at hj; cases hj
          obtain ⟨u', h1, h2⟩ := h.wr t k q v hv
          exact ⟨u', by rw [put_tmps hlt, if_neg hne]; exact h1, h2.ext e⟩
    · have ht : (bif d.beq t then some 0 else lastIn t ws (0 + 1)) = none := ht
      cases q : d.beq t with
      | true => rw [q] at ht; cases ht
      | false =>
        rw [q] at ht
        have hne : t ≠ d := fun e => by subst e; rw [beqY rfl] at q; cases q
        simp only [cond_false] at ht
        rw [lastIn_shift] at ht
        rw [put_tmps hlt, if_neg hne]
        cases q : lastIn t ws 0 with
        | none => exact h.un t q
        | some k => rw [q] at ht; cases ht

section
variable {P : Program} {c : Cx} {ρ : Rho} {ws : Ws} {st : St} {fr : Fr} {a a0 : Act} {B : Base} {N G g : Nat}

/-- The operands of an operation, in the text's order. -/
theorem SInv.evR {ρ0 : Rho} (h : SInv N G a0 ρ ws st a) (h0 : FrR g ρ0 fr a0) (e : Ext' ρ0 ρ) {l : List Operand} (hg : globsOk G l = true) (hf : ∀ t, Operand.tmp t ∈ l → lastIn t ws 0 = none → g.testBit t = true) : EvR ρ ws ⟨st, fr⟩ a.eval l :=
  evR_of h.glob hg (fun t _ j hj v hv => h.wr t j hj v hv) fun t ht hn v hv => by
    obtain ⟨u, h1, h2⟩ := h0 t (hf t ht hn) v hv
    exact ⟨u, by rw [h.un t hn]; exact h1, h2.ext e⟩

theorem guardAt_some {i : Nat} {o : Oper} {go : Option (Nat × Bool)} (h : guardAt i o = some go) : (o.guard = none ∧ go = none) ∨ ∃ gi want, o.guard = some (gi, want) ∧ gi < i ∧ go = some (i - 1 - gi, want) := by
  unfold guardAt at h
  cases q : o.guard with
  | none => rw [q] at h; cases h; exact .inl ⟨rfl, rfl⟩
  | some p =>
    obtain ⟨gi, want⟩ := p
    rw [q] at h
    obtain ⟨h1, h2⟩ := ok?_some (show ok? (gi.blt i) (some (some (i - 1 - gi, want))) = some go from h)
    cases h2
    refine .inr ⟨gi, want, rfl, ?_, rfl⟩
    rw [Nat.blt, ble_eq] at h1
    exact (by simpa using h1 : gi + 1 ≤ i)

theorem guardOk_some {i gi : Nat} {want : Bool} {o : Oper} (h : guardOk i ws o = true) (hg : o.guard = some (gi, want)) : ∃ t, ws[i - 1 - gi]? = some (some t) ∧ lastIn t ws 0 = some (i - 1 - gi) := by
  unfold guardOk at h
  rw [hg] at h
  simp only [Bool.and_eq_true] at h
  obtain ⟨_, h2⟩ := h
  cases q : lookO (i - 1 - gi) ws with
  | none => rw [q] at h2; cases h2
  | some t =>
    rw [q] at h2
    simp only at h2
    cases q2 : lastIn t ws 0 with
    | none => rw [q2] at h2; cases h2
    | some j => rw [q2] at h2; rw [beq_true h2] at q2; exact ⟨t, lookO_some q, q2⟩

/-- A region in the text's order. -/
theorem seq_ops (T : Ties P c) (X : Ties2 P c B G) {callF : CallF} (hF : FnOk P B G callF) (hO : ∀ f args h outs, callF f args h = .ok outs → OwnFn P f) {ops : Array Oper} {Q : Exit → Act → World → Prop} {ρ0 : Rho} {h0 : Hp} {w0 : World} (hfr : FrR g ρ0 fr a0) :
    ∀ (l pre : List Oper) (ws : List (Option Tmp)) (ins : List Ins) (st : St) (h : Hp) (outs : List (St × Hp)) (ρ : Rho) (w : World) (a : Act), ops.toList = pre ++ l → ws = (pre.map (·.dst)).reverse → seqOk N G l pre.length ws = true → FreeOk g l ws →
      prepFrom c false l pre.length ws [] = some ins → seqOps c callF fr ins st h = .ok outs → SInv N G a0 ρ ws st a → Rel B ρ h w.heap → Goes ρ0 h0 w0 ρ h w →
      (∀ st' h' ρ' w' a', (st', h') ∈ outs → SInv N G a0 ρ' ((ops.toList.map (·.dst)).reverse) st' a' → Rel B ρ' h' w'.heap → Goes ρ0 h0 w0 ρ' h' w' → Q .normal a' w') →
      wpOps P ops Q (List.range' pre.length l.length) a w := by
  intro l
  induction l with
  | nil =>
    intro pre ws ins st h outs ρ w a e1 e2 _ _ hp hs hi R Gs hQ
    cases hp
    cases hs
    simp only [List.append_nil] at e1
    subst e2
    exact hQ st h ρ w a (List.mem_singleton.2 rfl) (by rw [e1]; exact hi) R Gs
  | cons o l ih =>
    intro pre ws ins st h outs ρ w a e1 e2 hk hfree hp hs hi R Gs hQ
    simp only [seqOk, Bool.and_eq_true] at hk
    obtain ⟨⟨k1, k2, k3⟩, k4⟩ := hk
    obtain ⟨f1, f2⟩ := hfree
    obtain ⟨go, p1, p2⟩ := ob_some (show ob (guardAt pre.length o) (fun g => forceN (bif false then maskOf [] o.after.toList else 0) fun m => ob (prepFrom c false l (pre.length + 1) (o.dst :: ws) (bif false then [] ++ [m] else [])) fun r => some (⟨g, comp c ws o.op, m⟩ :: r)) = some ins from hp)
    rw [forceN_eq] at p2
    obtain ⟨r, p3, p4⟩ := ob_some p2
    cases p4
    have hat : ops[pre.length]? = some o := by
      rw [← Array.getElem?_toList, e1]; simp
    have hrng : List.range' pre.length (o :: l).length = pre.length :: List.range' (pre.length + 1) l.length := by simp [List.range'_succ]
    rw [hrng]
    have hws : ∀ gi, gi < pre.length → ws[pre.length - 1 - gi]? = some ((pre.map (·.dst))[gi]?.getD none) := by
      intro gi hgi
      subst e2
      rw [List.getElem?_reverse (by simp; omega)]
      simp only [List.length_map]
      rw [show pre.length - 1 - (pre.length - 1 - gi) = gi from by omega]
      simp [hgi]
    have next : ∀ x h1 ρ1 w1 u outs1, (∀ v, x = some v → VR ρ1 v u) → Rel B ρ1 h1 w1.heap → Goes ρ h w ρ1 h1 w1 → seqOps c callF fr r (x :: st) h1 = .ok outs1 → (∀ y ∈ outs1, y ∈ outs) → wpOps P ops Q (List.range' (pre.length + 1) l.length) (a.put o.dst u) w1 := by
      intro x h1 ρ1 w1 u outs1 hx R1 G1 hs1 hsub
      have := ih (pre ++ [o]) (o.dst :: ws) r (x :: st) h1 outs1 ρ1 w1 (a.put o.dst u) (by rw [e1]; simp) (by subst e2; simp) (by simpa using k4) f2 (by simpa using p3) hs1 (hi.step G1.ext k1 hx) R1 (Gs.trans G1)
        (fun st' h' ρ' w' a' hm => hQ st' h' ρ' w' a' (hsub _ hm))
      simpa using this
    have hs : stepSeq c callF fr ⟨go, comp c ws o.op, bif false then maskOf [] o.after.toList else 0⟩ (seqOps c callF fr r) st h = .ok outs := hs
    have hE : EvR ρ ws ⟨st, fr⟩ a.eval o.op.operands.toList := hi.evR hfr Gs.ext k2 f1
    have run : runOp (comp c ws o.op) c callF fr (seqOps c callF fr r) st h = .ok outs → o.wp P a w (wpOps P ops Q (List.range' (pre.length + 1) l.length)) Q := fun hr => op_step T X hF hO hi.glob hE hr R next
    simp only [wpOps, hat]
    rcases guardAt_some p1 with ⟨g1, g2⟩ | ⟨gi, want, g1, g2, g3⟩
    · subst g2
      have hw : Region.wanted o (yielded ops a.tmps) = true := by unfold Region.wanted; rw [g1]
      rw [if_pos hw]
      exact .inl (run hs)
    · subst g3
      obtain ⟨t, t1, t2⟩ := guardOk_some k3 g1
      have hdst : (ops[gi]?).bind (·.dst) = some t := by
        rw [hws gi g2] at t1
        have hpre : pre[gi]? = some pre[gi] := List.getElem?_eq_getElem g2
        simp only [List.getElem?_map, hpre, Option.map_some, Option.getD_some, Option.some.injEq] at t1
        rw [← Array.getElem?_toList, e1, List.getElem?_append_left g2, hpre]
        exact t1
      have hs : Option.casesOn (motive := fun _ => Am.R (St × Hp)) (nthO (pre.length - 1 - gi) st) (.no "a guard") (fun v =>
        Bool.casesOn (motive := fun _ => Am.R (St × Hp)) (wants v want) (seqOps c callF fr r (some (.tup []) :: st) h) (runOp (comp c ws o.op) c callF fr (seqOps c callF fr r) st h)) = .ok outs := hs
      cases q : nthO (pre.length - 1 - gi) st with
      | none => rw [q] at hs; cases hs
      | some v =>
        rw [q] at hs
        simp only at hs
        have hw := guard_eq g1 hdst (hi.wr t _ t2 v q)
        cases q2 : wants v want with
        | true =>
          rw [q2] at hs hw
          rw [if_pos hw]
          exact .inl (run hs)
        | false =>
          rw [q2] at hs hw
          rw [if_neg (by rw [hw]; simp)]
          exact next _ h ρ w undef outs (fun v e => by cases e; exact .tup [] [] .nil) R (Goes.refl _ _ _) hs (fun y hy => hy)

end
end Go.Am

end
