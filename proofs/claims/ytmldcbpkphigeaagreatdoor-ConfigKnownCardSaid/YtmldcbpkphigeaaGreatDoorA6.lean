/- The small machine against the model: regions that draw their order. (Part of the proof of a statement about the given program; no condition.) -/
import Derived.Test.YtmldcbpkphigeaaGreatDoorA5
set_option linter.unusedVariables false
set_option linter.unusedSimpArgs false
noncomputable section
/- The small machine: a region that draws its order, as it was run in the text's order: its steps. -/
namespace Go.Am

def Wanted (o : Ins) (st : St) : Prop := match o.guard with | none => True | some g => ∃ v, nthO g.1 st = some v ∧ wants v g.2 = true
def Unwanted (o : Ins) (st : St) : Prop := match o.guard with | none => False | some g => ∃ v, nthO g.1 st = some v ∧ wants v g.2 = false

theorem wanted_not {o : Ins} {st : St} (h : Wanted o st) : ¬ Unwanted o st := by
  unfold Wanted at h
  unfold Unwanted
  cases hg : o.guard with
  | none => exact fun h => h
  | some g =>
    rw [hg] at h
    obtain ⟨v, h1, h2⟩ := h
    rintro ⟨v', h3, h4⟩
    rw [h1] at h3; cases h3
    rw [h2] at h4; cases h4

/-- The heap with a block put in. -/
def Hp.put (h : Hp) (b : Nat) (o : AObj) : Hp := ⟨h.heap.set b (some o), h.next, h.ro⟩
theorem Hp.get_put (h : Hp) (b c : Nat) (o : AObj) : (h.put b o).get c = if c = b then some o else h.get c := Tr.get_set h.heap b c (some o)

def IsRd (fr : Fr) (o : Ins) (st : St) (h : Hp) (r : Rd) (v : AVal) : Prop := Wanted o st ∧ o.op = .rd r ∧ r.ev ⟨st, fr⟩ h = some v
def IsEf (o : Ins) (st : St) : Prop := Wanted o st ∧ ∃ f, o.op = .ef f
def IsAl (fr : Fr) (o : Ins) (st : St) (nm : Nm) (ob : AObj) : Prop := Wanted o st ∧ ∃ al : Al, o.op = .al al ∧ al.ev ⟨st, fr⟩ = some (nm, ob)

/-- A step of such a region. -/
inductive StepD (c : Cx) (callF : CallF) (fr : Fr) (r0 : Nat) (i : Nat) (o : Ins) (st : St) (h : Hp) : St → Hp → Prop where
  | skip (hw : Unwanted o st) : StepD c callF fr r0 i o st h (some (.tup []) :: st) h
  | mv (hw : Wanted o st) (x : AOpd) (ho : o.op = .mv x) : StepD c callF fr r0 i o st h (x.ev ⟨st, fr⟩ :: st) h
  | pu (hw : Wanted o st) (p : Pu) (v : AVal) (ho : o.op = .pu p) (hv : p.ev ⟨st, fr⟩ = some v) : StepD c callF fr r0 i o st h (some v :: st) h
  | al (hw : Wanted o st) (al : Al) (nm : Nm) (ob : AObj) (ho : o.op = .al al) (hv : al.ev ⟨st, fr⟩ = some (nm, ob)) : StepD c callF fr r0 i o st h (some (nm.at (r0 + i)) :: st) (h.put (r0 + i) ob)
  | rd (hw : Wanted o st) (r : Rd) (v : AVal) (ho : o.op = .rd r) (hv : r.ev ⟨st, fr⟩ h = some v) : StepD c callF fr r0 i o st h (some v :: st) h
  | ef (hw : Wanted o st) (f : Ef) (v : Option AVal) (h' : Hp) (ho : o.op = .ef f) (hv : runEf f c callF ⟨st, fr⟩ h = .ok [(v, h')]) : StepD c callF fr r0 i o st h (orTup v :: st) h'

/-- All its steps from one on, behind these effects and reads. -/
structure Drawn (c : Cx) (callF : CallF) (fr : Fr) (r0 : Nat) (L : List Ins) (i : Nat) (efs : List EfRec) (rds : List RdRec) (sts : Nat → St) (hs : Nat → Hp) : Prop where
  step : ∀ k o, i ≤ k → L[k]? = some o → StepD c callF fr r0 k o (sts k) (hs k) (sts (k + 1)) (hs (k + 1))
  rdE : ∀ k o r v, i ≤ k → L[k]? = some o → IsRd fr o (sts k) (hs k) r v → ∀ e ∈ efs, o.mask.testBit e.i = true ∨ sameRead r fr (sts k) e.before v = true
  rd : ∀ k o r v, i ≤ k → L[k]? = some o → IsRd fr o (sts k) (hs k) r v → ∀ j p, i ≤ j → j < k → L[j]? = some p → IsEf p (sts j) → o.mask.testBit j = true ∨ sameRead r fr (sts k) (hs j) v = true
  efR : ∀ k o, i ≤ k → L[k]? = some o → IsEf o (sts k) → ∀ r ∈ rds, o.mask.testBit r.i = true ∨ sameRead r.r fr r.st (hs (k + 1)) r.v = true
  ef : ∀ k o, i ≤ k → L[k]? = some o → IsEf o (sts k) → ∀ j p r v, i ≤ j → j < k → L[j]? = some p → IsRd fr p (sts j) (hs j) r v → o.mask.testBit j = true ∨ sameRead r fr (sts j) (hs (k + 1)) v = true
  efE : ∀ k o, i ≤ k → L[k]? = some o → IsEf o (sts k) → ∀ e ∈ efs, o.mask.testBit e.i = true
  ee : ∀ k o, i ≤ k → L[k]? = some o → IsEf o (sts k) → ∀ j p, i ≤ j → j < k → L[j]? = some p → IsEf p (sts j) → o.mask.testBit j = true

def updF {α : Type} (f : Nat → α) (i : Nat) (x : α) : Nat → α := fun k => if k = i then x else f k
theorem updF_same {α : Type} (f : Nat → α) (i : Nat) (x : α) : updF f i x i = x := by simp [updF]
theorem updF_ne {α : Type} (f : Nat → α) {i k : Nat} (x : α) (h : k ≠ i) : updF f i x k = f k := by simp [updF, h]

section
variable {c : Cx} {callF : CallF} {fr : Fr} {r0 : Nat} {L : List Ins}

theorem Drawn.lift {i : Nat} {o : Ins} {st st' : St} {h h' : Hp} {efs efs' : List EfRec} {rds rds' : List RdRec} {sts : Nat → St} {hs : Nat → Hp} (hL : L[i]? = some o) (hS : StepD c callF fr r0 i o st h st' h')
    (hr : ∀ r v, IsRd fr o st h r v → (∀ e ∈ efs, o.mask.testBit e.i = true ∨ sameRead r fr st e.before v = true) ∧ (⟨i, r, st, v⟩ : RdRec) ∈ rds')
    (he : IsEf o st → (∀ r ∈ rds, o.mask.testBit r.i = true ∨ sameRead r.r fr r.st h' r.v = true) ∧ (∀ e ∈ efs, o.mask.testBit e.i = true) ∧ (⟨i, h⟩ : EfRec) ∈ efs')
    (h1 : ∀ e ∈ efs, e ∈ efs') (h2 : ∀ r ∈ rds, r ∈ rds') (D : Drawn c callF fr r0 L (i + 1) efs' rds' sts hs) (hst : sts (i + 1) = st') (hh : hs (i + 1) = h') :
    Drawn c callF fr r0 L i efs rds (updF sts i st) (updF hs i h) := by
  have s1 : ∀ k, i < k → updF sts i st k = sts k := fun k hk => updF_ne _ _ (by omega)
  have s2 : ∀ k, i < k → updF hs i h k = hs k := fun k hk => updF_ne _ _ (by omega)
  have e1 : updF sts i st i = st := updF_same _ _ _
  have e2 : updF hs i h i = h := updF_same _ _ _
  constructor
  · intro k p hk hp
    by_cases g : k = i
    · subst g
      rw [hL] at hp; cases hp
      rw [e1, e2, s1 _ (by omega), s2 _ (by omega), hst, hh]; exact hS
    · rw [s1 k (by omega), s2 k (by omega), s1 (k + 1) (by omega), s2 (k + 1) (by omega)]
      exact D.step k p (by omega) hp
  · intro k p r v hk hp hR e hee
    by_cases g : k = i
    · subst g
      rw [hL] at hp; cases hp
      rw [e1] at hR ⊢
      rw [e2] at hR
      exact (hr r v hR).1 e hee
    · rw [s1 k (by omega)] at hR ⊢
      rw [s2 k (by omega)] at hR
      exact D.rdE k p r v (by omega) hp hR e (h1 e hee)
  · intro k p r v hk hp hR j q hj hjk hq hE
    have hki : i < k := by omega
    rw [s1 k hki, s2 k hki] at hR
    rw [s1 k hki]
    by_cases g : j = i
    · subst g
      rw [hL] at hq; cases hq
      rw [e1] at hE
      rw [e2]
      exact D.rdE k p r v (by omega) hp hR _ (he hE).2.2
    · rw [s1 j (by omega)] at hE
      rw [s2 j (by omega)]
      exact D.rd k p r v (by omega) hp hR j q (by omega) hjk hq hE
  · intro k p hk hp hE r hrr
    by_cases g : k = i
    · subst g
      rw [hL] at hp; cases hp
      rw [e1] at hE
      rw [s2 (k + 1) (by omega), hh]
      exact (he hE).1 r hrr
    · rw [s1 k (by omega)] at hE
      rw [s2 (k + 1) (by omega)]
      exact D.efR k p (by omega) hp hE r (h2 r hrr)
  · intro k p hk hp hE j q r v hj hjk hq hR
    have hki : i < k := by omega
    rw [s1 k hki] at hE
    rw [s2 (k + 1) (by omega)]
    by_cases g : j = i
    · subst g
      rw [hL] at hq; cases hq
      rw [e1, e2] at hR
      rw [e1]
      exact D.efR k p (by omega) hp hE _ (hr r v hR).2
    · rw [s1 j (by omega), s2 j (by omega)] at hR
      rw [s1 j (by omega)]
      exact D.ef k p (by omega) hp hE j q r v (by omega) hjk hq hR
  · intro k p hk hp hE e hee
    by_cases g : k = i
    · subst g
      rw [hL] at hp; cases hp
      rw [e1] at hE
      exact (he hE).2.1 e hee
    · rw [s1 k (by omega)] at hE
      exact D.efE k p (by omega) hp hE e (h1 e hee)
  · intro k p hk hp hE j q hj hjk hq hE'
    have hki : i < k := by omega
    rw [s1 k hki] at hE
    by_cases g : j = i
    · subst g
      rw [hL] at hq; cases hq
      rw [e1] at hE'
      exact D.efE k p (by omega) hp hE _ (he hE').2.2
    · rw [s1 j (by omega)] at hE'
      exact D.ee k p (by omega) hp hE j q (by omega) hjk hq hE'

theorem allEf_ok {m : Nat} {r : Rd} {st : St} {v : AVal} : ∀ {l : List EfRec}, allEf m r fr st v l = true → ∀ e ∈ l, m.testBit e.i = true ∨ sameRead r fr st e.before v = true := by
  intro l
  induction l with
  | nil => intro _ e h; simp at h
  | cons x l ih =>
    intro h e he
    simp only [allEf, Bool.and_eq_true, Bool.or_eq_true] at h
    rcases List.mem_cons.1 he with rfl | he
    · exact h.1
    · exact ih h.2 e he
theorem allRd_ok {m : Nat} {h : Hp} : ∀ {l : List RdRec}, allRd m fr h l = true → ∀ r ∈ l, m.testBit r.i = true ∨ sameRead r.r fr r.st h r.v = true := by
  intro l
  induction l with
  | nil => intro _ e h; simp at h
  | cons x l ih =>
    intro h e he
    simp only [allRd, Bool.and_eq_true, Bool.or_eq_true] at h
    rcases List.mem_cons.1 he with rfl | he
    · exact h.1
    · exact ih h.2 e he
theorem efOrdered_ok {m : Nat} : ∀ {l : List EfRec}, efOrdered m l = true → ∀ e ∈ l, m.testBit e.i = true := by
  intro l
  induction l with
  | nil => intro _ e h; simp at h
  | cons x l ih =>
    intro h e he
    simp only [efOrdered, Bool.and_eq_true] at h
    rcases List.mem_cons.1 he with rfl | he
    · exact h.1
    · exact ih h.2 e he

/-- What a step that is wanted comes to. -/
theorem drawOp_inv {i : Nat} {o : Ins} {k : DrawF} {st : St} {h : Hp} {efs : List EfRec} {rds : List RdRec} {outs : List (St × Hp)} (hw : Wanted o st) (hr : drawOp o.op c callF fr o.mask r0 k i st h efs rds = .ok outs) :
    ∃ st' h' efs' rds', StepD c callF fr r0 i o st h st' h' ∧ k (i + 1) st' h' efs' rds' = .ok outs ∧
      (∀ r v, IsRd fr o st h r v → (∀ e ∈ efs, o.mask.testBit e.i = true ∨ sameRead r fr st e.before v = true) ∧ (⟨i, r, st, v⟩ : RdRec) ∈ rds') ∧
      (IsEf o st → (∀ r ∈ rds, o.mask.testBit r.i = true ∨ sameRead r.r fr r.st h' r.v = true) ∧ (∀ e ∈ efs, o.mask.testBit e.i = true) ∧ (⟨i, h⟩ : EfRec) ∈ efs') ∧
      (∀ e ∈ efs, e ∈ efs') ∧ ∀ r ∈ rds, r ∈ rds' := by
  obtain ⟨gd, op, mask⟩ := o
  cases op with
  | no why => cases hr
  | mv x =>
    have hr : forceN (Nat.succ i) (fun j => k j (x.ev ⟨st, fr⟩ :: st) h efs rds) = .ok outs := hr
    rw [forceN_eq] at hr
    exact ⟨_, _, _, _, .mv hw x rfl, hr, (fun r v hR => by cases hR.2.1), (fun hE => by obtain ⟨_, f, hf⟩ := hE; cases hf), fun _ h => h, fun _ h => h⟩
  | pu p =>
    have hr : Option.casesOn (motive := fun _ => R (St × Hp)) (p.ev ⟨st, fr⟩) (.no "a value") (fun v => forceN (Nat.succ i) fun j => k j (some v :: st) h efs rds) = .ok outs := hr
    cases hv : p.ev ⟨st, fr⟩ with
    | none => rw [hv] at hr; cases hr
    | some v =>
      rw [hv] at hr
      simp only [forceN_eq] at hr
      exact ⟨_, _, _, _, .pu hw p v rfl hv, hr, (fun r v hR => by cases hR.2.1), (fun hE => by obtain ⟨_, f, hf⟩ := hE; cases hf), fun _ h => h, fun _ h => h⟩
  | al al =>
    have hr : Option.casesOn (motive := fun _ => R (St × Hp)) (al.ev ⟨st, fr⟩) (.no "a new block") (fun r => on2 r fun nm ob => forceN (Nat.add r0 i) fun b => onHp h fun t n ro => Tr.setK (some ob) (path b) t fun t => nm.atK b fun v => forceN (Nat.succ i) fun j => k j (some v :: st) ⟨t, n, ro⟩ efs rds) = .ok outs := hr
    cases hv : al.ev ⟨st, fr⟩ with
    | none => rw [hv] at hr; cases hr
    | some q =>
      obtain ⟨nm, ob⟩ := q
      obtain ⟨t, n, ro⟩ := h
      rw [hv] at hr
      simp only [on2, onHp, forceN_eq, Nm.atK_eq, Tr.setK_eq] at hr
      exact ⟨_, _, _, _, .al hw al nm ob rfl hv, hr, (fun r v hR => by cases hR.2.1), (fun hE => by obtain ⟨_, f, hf⟩ := hE; cases hf), fun _ h => h, fun _ h => h⟩
  | rd r =>
    have hr : Option.casesOn (motive := fun _ => R (St × Hp)) (r.ev ⟨st, fr⟩ h) (.no "a read") (fun v => bc (allEf mask r fr st v efs) (forceN (Nat.succ i) fun j => k j (some v :: st) h efs (⟨i, r, st, v⟩ :: rds)) (.no "a read that hangs on the order")) = .ok outs := hr
    cases hv : r.ev ⟨st, fr⟩ h with
    | none => rw [hv] at hr; cases hr
    | some v =>
      rw [hv] at hr
      simp only [forceN_eq] at hr
      cases ha : allEf mask r fr st v efs with
      | false => rw [ha] at hr; cases hr
      | true =>
        rw [ha] at hr
        refine ⟨_, _, _, _, .rd hw r v rfl hv, hr, fun r' v' hR => ?_, (fun hE => by obtain ⟨_, f, hf⟩ := hE; cases hf), fun _ h => h, fun _ h => List.mem_cons_of_mem _ h⟩
        obtain ⟨_, q1, q2⟩ := hR
        cases q1
        rw [hv] at q2; cases q2
        exact ⟨allEf_ok ha, List.mem_cons_self ..⟩
  | ef f =>
    have hr : (bif efOrdered mask efs then
      R.casesOn (motive := fun _ => R (St × Hp)) (runEf f c callF ⟨st, fr⟩ h)
        (fun l => List.casesOn (motive := fun _ => R (St × Hp)) l (.no "no way") fun r l => List.casesOn (motive := fun _ => R (St × Hp)) l
          (on2 r fun v h' => bc (allRd mask fr h' rds) (forceN (Nat.succ i) fun j => k j (orTup v :: st) h' (⟨i, h⟩ :: efs) rds) (.no "a read that hangs on the order"))
          (fun _ _ => .no "more than one way in a region that draws its order"))
        (fun w => .no w)
      else .no "effects in open order") = .ok outs := hr
    cases ho : efOrdered mask efs with
    | false => rw [ho] at hr; cases hr
    | true =>
      rw [ho] at hr
      simp only [cond_true] at hr
      cases hv : runEf f c callF ⟨st, fr⟩ h with
      | no why => rw [hv] at hr; cases hr
      | ok l =>
        rw [hv] at hr
        cases l with
        | nil => cases hr
        | cons r l =>
          cases l with
          | cons => cases hr
          | nil =>
            obtain ⟨v, h'⟩ := r
            simp only [on2, forceN_eq] at hr
            cases ha : allRd mask fr h' rds with
            | false => rw [ha] at hr; cases hr
            | true =>
              rw [ha] at hr
              exact ⟨_, _, _, _, .ef hw f v h' rfl hv, hr, (fun r v hR => by cases hR.2.1), fun _ => ⟨allRd_ok ha, efOrdered_ok ho, List.mem_cons_self ..⟩, fun _ h => List.mem_cons_of_mem _ h, fun _ h => h⟩

theorem draw_trace : ∀ (l : List Ins) (i : Nat) (st : St) (h : Hp) (efs : List EfRec) (rds : List RdRec) (outs : List (St × Hp)), drawOps c callF fr r0 l i st h efs rds = .ok outs → L.drop i = l → i + l.length = L.length →
    ∃ sts hs, sts i = st ∧ hs i = h ∧ Drawn c callF fr r0 L i efs rds sts hs ∧ outs = [(sts L.length, hs L.length)] := by
  intro l
  induction l with
  | nil =>
    intro i st h efs rds outs hr _ hl
    cases hr
    have hn : ∀ k, i ≤ k → L[k]? = none := fun k hk => List.getElem?_eq_none (by simp at hl; omega)
    have n1 : ∀ {k : Nat} {o : Ins} {p : Prop}, i ≤ k → L[k]? = some o → p := fun hk hp => by rw [hn _ hk] at hp; cases hp
    exact ⟨fun _ => st, fun _ => h, rfl, rfl, ⟨fun k o hk hp => n1 hk hp, fun k o r v hk hp => n1 hk hp, fun k o r v hk hp => n1 hk hp, fun k o hk hp => n1 hk hp, fun k o hk hp => n1 hk hp, fun k o hk hp => n1 hk hp, fun k o hk hp => n1 hk hp⟩, rfl⟩
  | cons o l ih =>
    intro i st h efs rds outs hr hd hl
    have hL : L[i]? = some o := by
      have : (L.drop i)[0]? = some o := by rw [hd]; rfl
      simpa using this
    have hd' : L.drop (i + 1) = l := by rw [← List.drop_drop, hd]; rfl
    have hl' : i + 1 + l.length = L.length := by simp at hl; omega
    have fin : ∀ {st' h' efs' rds'}, StepD c callF fr r0 i o st h st' h' → drawOps c callF fr r0 l (i + 1) st' h' efs' rds' = .ok outs →
        (∀ r v, IsRd fr o st h r v → (∀ e ∈ efs, o.mask.testBit e.i = true ∨ sameRead r fr st e.before v = true) ∧ (⟨i, r, st, v⟩ : RdRec) ∈ rds') →
        (IsEf o st → (∀ r ∈ rds, o.mask.testBit r.i = true ∨ sameRead r.r fr r.st h' r.v = true) ∧ (∀ e ∈ efs, o.mask.testBit e.i = true) ∧ (⟨i, h⟩ : EfRec) ∈ efs') →
        (∀ e ∈ efs, e ∈ efs') → (∀ r ∈ rds, r ∈ rds') → ∃ sts hs, sts i = st ∧ hs i = h ∧ Drawn c callF fr r0 L i efs rds sts hs ∧ outs = [(sts L.length, hs L.length)] := by
      intro st' h' efs' rds' hS hk a1 a2 a3 a4
      obtain ⟨sts, hs, q1, q2, q3, q4⟩ := ih (i + 1) st' h' efs' rds' outs hk hd' hl'
      exact ⟨updF sts i st, updF hs i h, updF_same _ _ _, updF_same _ _ _, q3.lift hL hS a1 a2 a3 a4 q1 q2, by rw [q4, updF_ne _ _ (by omega), updF_ne _ _ (by omega)]⟩
    have hr : Option.casesOn (motive := fun _ => R (St × Hp)) o.guard (drawOp o.op c callF fr o.mask r0 (drawOps c callF fr r0 l) i st h efs rds)
      (fun g => Option.casesOn (motive := fun _ => R (St × Hp)) (nthO g.1 st) (.no "a guard") fun v =>
        Bool.casesOn (motive := fun _ => R (St × Hp)) (wants v g.2) (forceN (Nat.succ i) fun j => drawOps c callF fr r0 l j (some (.tup []) :: st) h efs rds) (drawOp o.op c callF fr o.mask r0 (drawOps c callF fr r0 l) i st h efs rds)) = .ok outs := hr
    cases hg : o.guard with
    | none =>
      rw [hg] at hr
      obtain ⟨st', h', efs', rds', b1, b2, b3, b4, b5, b6⟩ := drawOp_inv (by unfold Wanted; rw [hg]; trivial) hr
      exact fin b1 b2 b3 b4 b5 b6
    | some g =>
      rw [hg] at hr
      simp only at hr
      cases hq : nthO g.1 st with
      | none => rw [hq] at hr; cases hr
      | some v =>
        rw [hq] at hr
        simp only at hr
        cases hv : wants v g.2 with
        | true =>
          rw [hv] at hr
          obtain ⟨st', h', efs', rds', b1, b2, b3, b4, b5, b6⟩ := drawOp_inv (by unfold Wanted; rw [hg]; exact ⟨v, hq, hv⟩) hr
          exact fin b1 b2 b3 b4 b5 b6
        | false =>
          rw [hv] at hr
          simp only [forceN_eq] at hr
          have hu : Unwanted o st := by unfold Unwanted; rw [hg]; exact ⟨v, hq, hv⟩
          exact fin (.skip hu) hr (fun r v hR => absurd hu (wanted_not hR.1)) (fun hE => absurd hu (wanted_not hE.1)) (fun _ h => h) (fun _ h => h)

end
end Go.Am

/- The small machine against the model: regions that draw their order: what the check of them tells of each operation. -/
namespace Go.Am

/-- The slots written ahead, the last one first. -/
def wsAt (L0 : List Oper) (i : Nat) : List (Option Tmp) := ((L0.take i).map (·.dst)).reverse

structure OpFacts (c : Cx) (N G : Nat) (L0 : List Oper) (ins : List Ins) (i0 : Nat) (M : List Nat) (k : Nat) (o : Oper) : Prop where
  dst : dstOk N o.dst = true
  globs : globsOk G o.op.operands.toList = true
  guard : guardOk k (wsAt L0 k) o = true
  gmask : guardMask (M.getD k 0) o = true
  pairs : ∀ j p, j < k → L0[j]? = some p → pairOk (M.getD k 0) ⟨j, p.dst, tmpsOf p.op.operands.toList⟩ o.dst (tmpsOf o.op.operands.toList) = true
  ins : ∃ go, guardAt k o = some go ∧ ins[k - i0]? = some ⟨go, comp c (wsAt L0 k) o.op, M.getD k 0⟩
  mask : M.getD k 0 = maskOf (M.take k) o.after.toList

theorem pairsOk_mem {m : Nat} {d : Option Tmp} {lk : List Tmp} : ∀ {l : List Ahead}, pairsOk m d lk l = true → ∀ p ∈ l, pairOk m p d lk = true := by
  intro l
  induction l with
  | nil => intro _ p h; simp at h
  | cons x l ih =>
    intro h p hp
    simp only [pairsOk, Bool.and_eq_true] at h
    rcases List.mem_cons.1 hp with rfl | hp
    · exact h.1
    · exact ih h.2 p hp

theorem draw_facts {c : Cx} {N G : Nat} {L0 : List Oper} : ∀ (l pre : List Oper) (ms : List Nat) (ps : List Ahead) (ins : List Ins), L0 = pre ++ l → ms.length = pre.length → (∀ j p, j < pre.length → L0[j]? = some p → (⟨j, p.dst, tmpsOf p.op.operands.toList⟩ : Ahead) ∈ ps) →
    drawOk N G l pre.length (wsAt L0 pre.length) ms ps = true → prepFrom c true l pre.length (wsAt L0 pre.length) ms = some ins →
    ∃ M, M.take pre.length = ms ∧ M.length = L0.length ∧ ins.length = l.length ∧ ∀ k o, pre.length ≤ k → L0[k]? = some o → OpFacts c N G L0 ins pre.length M k o := by
  intro l
  induction l with
  | nil =>
    intro pre ms ps ins e hl _ _ hp
    cases hp
    simp only [List.append_nil] at e
    subst e
    exact ⟨ms, List.take_of_length_le (by omega), hl, rfl, fun k o hk ho => by rw [List.getElem?_eq_none hk] at ho; cases ho⟩
  | cons o l ih =>
    intro pre ms ps ins e hl hps hk hp
    simp only [drawOk, forceN_eq, Bool.and_eq_true] at hk
    obtain ⟨⟨k1, k2, k3, k4, k5⟩, k6⟩ := hk
    obtain ⟨go, p1, p2⟩ := ob_some (show ob (guardAt pre.length o) (fun g => forceN (bif true then maskOf ms o.after.toList else 0) fun m => ob (prepFrom c true l (pre.length + 1) (o.dst :: wsAt L0 pre.length) (bif true then ms ++ [m] else ms)) fun r => some (⟨g, comp c (wsAt L0 pre.length) o.op, m⟩ :: r)) = some ins from hp)
    rw [forceN_eq] at p2
    obtain ⟨r, p3, p4⟩ := ob_some p2
    cases p4
    simp only [cond_true] at p3
    have hat : L0[pre.length]? = some o := by rw [e]; simp
    have hw : o.dst :: wsAt L0 pre.length = wsAt L0 (pre.length + 1) := by
      unfold wsAt
      rw [List.take_add_one, hat]
      simp
    rw [hw] at k6 p3
    have hlen : (pre ++ [o]).length = pre.length + 1 := by simp
    obtain ⟨M, q1, q2, q3, q4⟩ := ih (pre ++ [o]) (ms ++ [maskOf ms o.after.toList]) (⟨pre.length, o.dst, tmpsOf o.op.operands.toList⟩ :: ps) r (by rw [e]; simp) (by simp [hl])
      (by
        rw [hlen]
        intro j p hj hpj
        by_cases g : j = pre.length
        · subst g; rw [hat] at hpj; cases hpj; exact List.mem_cons_self ..
        · exact List.mem_cons_of_mem _ (hps j p (by omega) hpj)) (by rw [hlen]; exact k6) (by rw [hlen]; exact p3)
    rw [hlen] at q1 q4
    have hM1 : M.take pre.length = ms := by
      have : (M.take (pre.length + 1)).take pre.length = (ms ++ [maskOf ms o.after.toList]).take pre.length := by rw [q1]
      rw [List.take_take, Nat.min_eq_left (by omega), List.take_left' hl] at this
      exact this
    have hM2 : M.getD pre.length 0 = maskOf ms o.after.toList := by
      have h1 : (M.take (pre.length + 1))[pre.length]? = some (maskOf ms o.after.toList) := by
        rw [q1, List.getElem?_append_right (by omega)]
        simp [hl]
      rw [List.getElem?_take_of_lt (by omega)] at h1
      rw [List.getD_eq_getElem?_getD, h1]; rfl
    refine ⟨M, hM1, q2, by simp [q3], fun k o' hk ho' => ?_⟩
    by_cases g : k = pre.length
    · subst g
      rw [hat] at ho'; cases ho'
      refine ⟨k1, k2, k3, by rw [hM2]; exact k4, fun j p hj hpj => by rw [hM2]; exact pairsOk_mem k5 _ (hps j p hj hpj), ⟨go, p1, by rw [hM2]; simp⟩, by rw [hM1, hM2]⟩
    · have := q4 k o' (by omega) ho'
      refine ⟨this.dst, this.globs, this.guard, this.gmask, this.pairs, ?_, this.mask⟩
      obtain ⟨go', z1, z2⟩ := this.ins
      refine ⟨go', z1, ?_⟩
      rw [show k - pre.length = (k - (pre.length + 1)) + 1 from by omega]
      simpa using z2

theorem maskOf_bits {acc : List Nat} {k : Nat} : ∀ {es : List Edge}, (maskOf acc es).testBit k = true → ∃ e ∈ es, Region.binds .any e = true ∧ (k = e.on ∨ (acc.getD e.on 0).testBit k = true) := by
  intro es
  induction es with
  | nil => intro h; simp [maskOf] at h
  | cons e l ih =>
    intro h
    simp only [maskOf] at h
    cases hb : Region.binds .any e with
    | false =>
      rw [hb] at h
      obtain ⟨e', h1, h2⟩ := ih h
      exact ⟨e', List.mem_cons_of_mem _ h1, h2⟩
    | true =>
      rw [hb] at h
      simp only [cond_true] at h
      have h : (maskOf acc l ||| (2 ^ e.on ||| acc.getD e.on 0)).testBit k = true := h
      rw [Nat.testBit_or, Nat.testBit_or, Nat.testBit_two_pow] at h
      simp only [Bool.or_eq_true, decide_eq_true_eq] at h
      rcases h with h | h | h
      · obtain ⟨e', h1, h2⟩ := ih h
        exact ⟨e', List.mem_cons_of_mem _ h1, h2⟩
      · exact ⟨e, List.mem_cons_self .., hb, .inl h.symm⟩
      · exact ⟨e, List.mem_cons_self .., hb, .inr h⟩

theorem binds_any {md : Region.Mode} {e : Edge} (h : Region.binds .any e = true) : Region.binds md e = true := by
  unfold Region.binds at *
  cases hg : e.ground with
  | textOnly r => rw [hg] at h; simp only at h; cases h
  | gcOnly r => rw [hg] at h; simp only at h; cases h
  | _ => rfl

theorem hasN_true {t : Nat} : ∀ {l : List Nat}, t ∈ l → hasN t l = true := by
  intro l
  induction l with
  | nil => intro h; simp at h
  | cons x l ih =>
    intro h
    simp only [hasN]
    cases e : x.beq t with
    | true => rfl
    | false =>
      rcases List.mem_cons.1 h with rfl | h
      · rw [beqY rfl] at e; cases e
      · exact ih h

/-- One writes what the other one looks at, behind it: it is ordered. -/
theorem pairOk_look {m : Nat} {p : Ahead} {t : Tmp} {d : Option Tmp} {lk : List Tmp} (h : pairOk m p d lk = true) (hp : p.dst = some t) (hm : t ∈ lk) : m.testBit p.i = true := by
  unfold pairOk at h
  rw [hp] at h
  simp only [Bool.and_eq_true, Bool.or_eq_true, hasN_true hm, Bool.not_true, Bool.false_eq_true, false_or] at h
  exact h.1.2
theorem pairOk_write {m : Nat} {p : Ahead} {t : Tmp} {lk : List Tmp} (h : pairOk m p (some t) lk = true) (hm : t ∈ p.looks) : m.testBit p.i = true := by
  unfold pairOk at h
  simp only [Bool.and_eq_true, Bool.or_eq_true, hasN_true hm, Bool.not_true, Bool.false_eq_true, false_or] at h
  exact h.2
theorem pairOk_dst {m : Nat} {p : Ahead} {t : Tmp} {lk : List Tmp} (h : pairOk m p (some t) lk = true) : p.dst ≠ some t := by
  intro e
  unfold pairOk at h
  rw [e] at h
  simp only [Bool.and_eq_true, isDst, beqY, Bool.not_true, Bool.false_eq_true, false_and] at h

theorem FreeOk.at {g : Nat} {L0 : List Oper} : ∀ {l pre : List Oper}, L0 = pre ++ l → FreeOk g l (wsAt L0 pre.length) → ∀ k o, pre.length ≤ k → L0[k]? = some o → ∀ t, Operand.tmp t ∈ o.op.operands.toList → lastIn t (wsAt L0 k) 0 = none → g.testBit t = true := by
  intro l
  induction l with
  | nil => intro pre e _ k o hk ho; simp only [List.append_nil] at e; subst e; rw [List.getElem?_eq_none hk] at ho; cases ho
  | cons o l ih =>
    intro pre e h k o' hk ho'
    have hat : L0[pre.length]? = some o := by rw [e]; simp
    have hw : o.dst :: wsAt L0 pre.length = wsAt L0 (pre.length + 1) := by
      unfold wsAt
      rw [List.take_add_one, hat]
      simp
    obtain ⟨h1, h2⟩ := h
    by_cases q : k = pre.length
    · subst q; rw [hat] at ho'; cases ho'; exact h1
    · rw [hw] at h2
      have hlen : (pre ++ [o]).length = pre.length + 1 := by simp
      exact ih (pre := pre ++ [o]) (by rw [e]; simp) (by rw [hlen]; exact h2) k o' (by rw [hlen]; omega) ho'

end Go.Am

/- The small machine against the model: regions that draw their order: the heap on the way. -/
namespace Go.Am

/-- A heap by what stands where. -/
structure RelF (B : Base) (ρ : Rho) (Y : Nat → AObj → Prop) (next : Nat) (H : Array Obj) : Prop where
  obj : ∀ b o p, Y b o → ρ b = some p → ORel ρ o p H
  base : ∀ b o p, Y b o → ρ b = some p → o.wr = true → B ≤ p.1
  inj : ∀ b b' o o' p p', Y b o → Y b' o' → ρ b = some p → ρ b' = some p' → p.1 = p'.1 → b = b'
  fresh : ∀ b, next ≤ b → ρ b = none
  dom : ∀ b p, ρ b = some p → p.1 < H.size
  low : B ≤ H.size
  kept : ∀ k, k < B.size → H[k]? = B.mem k
  nw : ∀ b o p, Y b o → ρ b = some p → o.wr = false → p.1 < B

structure GoesF (ρ : Rho) (Y : Nat → AObj → Prop) (next ro : Nat) (w : World) (ρ' : Rho) (Y' : Nat → AObj → Prop) (next' : Nat) (w' : World) : Prop where
  ext : Ext' ρ ρ'
  old : ∀ b, b < next → ρ b = none → ρ' b = none ∧ ∀ o, Y' b o ↔ Y b o
  nexts : next ≤ next'
  roKept : ∀ b, b < ro → ∀ o, Y' b o ↔ Y b o
  img : ∀ b o p, Y' b o → o.wr = true → ρ' b = some p → p.1 < w.heap.size → ∃ b0 o0 p0, Y b0 o0 ∧ o0.wr = true ∧ ρ b0 = some p0 ∧ p0.1 = p.1
  size : w.heap.size ≤ w'.heap.size
  frame : ∀ k, k < w.heap.size → (∀ b o p, Y b o → o.wr = true → ρ b = some p → p.1 ≠ k) → w'.heap[k]? = w.heap[k]?
  os : w'.os = w.os
  tape : w'.tape = w.tape
  output : w'.output = w.output
  dead : ∀ b, b < next → (∀ o, ¬ Y b o) → ∀ o, ¬ Y' b o

theorem GoesF.trans {ρ ρ1 ρ2 : Rho} {Y Y1 Y2 : Nat → AObj → Prop} {n n1 n2 ro : Nat} {w w1 w2 : World} (a : GoesF ρ Y n ro w ρ1 Y1 n1 w1) (b : GoesF ρ1 Y1 n1 ro w1 ρ2 Y2 n2 w2) : GoesF ρ Y n ro w ρ2 Y2 n2 w2 where
  ext := fun x p e => b.ext x p (a.ext x p e)
  old := fun x hx e => by
    obtain ⟨e1, e2⟩ := a.old x hx e
    obtain ⟨e3, e4⟩ := b.old x (Nat.lt_of_lt_of_le hx a.nexts) e1
    exact ⟨e3, fun o => (e4 o).trans (e2 o)⟩
  nexts := Nat.le_trans a.nexts b.nexts
  roKept := fun x hx o => (b.roKept x hx o).trans (a.roKept x hx o)
  img := fun x o p h1 h2 h3 h4 => by
    obtain ⟨b1, o1, p1, g1, g2, g3, g4⟩ := b.img x o p h1 h2 h3 (Nat.lt_of_lt_of_le h4 a.size)
    obtain ⟨b0, o0, p0, f1, f2, f3, f4⟩ := a.img b1 o1 p1 g1 g2 g3 (by omega)
    exact ⟨b0, o0, p0, f1, f2, f3, f4.trans g4⟩
  size := Nat.le_trans a.size b.size
  frame := fun k hk hn => by
    rw [b.frame k (Nat.lt_of_lt_of_le hk a.size) fun x o p h1 h2 h3 h4 => ?_, a.frame k hk hn]
    obtain ⟨b0, o0, p0, f1, f2, f3, f4⟩ := a.img x o p h1 h2 h3 (by omega)
    exact hn b0 o0 p0 f1 f2 f3 (f4.trans h4)
  os := b.os.trans a.os
  tape := b.tape.trans a.tape
  output := b.output.trans a.output
  dead := fun x hx e => b.dead x (Nat.lt_of_lt_of_le hx a.nexts) (a.dead x hx e)

theorem RelF.congr {B : Base} {ρ : Rho} {Y Y' : Nat → AObj → Prop} {n n' : Nat} {H : Array Obj} (h : RelF B ρ Y n H) (hY : ∀ b o, Y' b o → ρ b ≠ none → Y b o) (hn : n ≤ n') : RelF B ρ Y' n' H where
  obj := fun b o p h1 h2 => h.obj b o p (hY b o h1 (by rw [h2]; simp)) h2
  base := fun b o p h1 h2 => h.base b o p (hY b o h1 (by rw [h2]; simp)) h2
  inj := fun b b' o o' p p' h1 h2 h3 h4 => h.inj b b' o o' p p' (hY b o h1 (by rw [h3]; simp)) (hY b' o' h2 (by rw [h4]; simp)) h3 h4
  fresh := fun b hb => h.fresh b (by omega)
  dom := h.dom
  low := h.low
  kept := h.kept
  nw := fun b o p h1 h2 => h.nw b o p (hY b o h1 (by rw [h2]; simp)) h2

theorem RelF.rel {B : Base} {ρ : Rho} {Y : Nat → AObj → Prop} {H : Array Obj} {h : Hp} (R : RelF B ρ Y h.next H) (hY : ∀ b o, h.get b = some o → Y b o) (hf : ∀ b, h.next ≤ b → h.get b = none) (hro : h.ro ≤ h.next) : Rel B ρ h H where
  obj := fun b o p h1 h2 => R.obj b o p (hY b o h1) h2
  base := fun b o p h1 h2 => R.base b o p (hY b o h1) h2
  inj := fun b b' o o' p p' h1 h2 => R.inj b b' o o' p p' (hY b o h1) (hY b' o' h2)
  fresh := fun b hb => ⟨R.fresh b hb, hf b hb⟩
  dom := R.dom
  low := R.low
  roLe := hro
  kept := R.kept
  nw := fun b o p h1 h2 => R.nw b o p (hY b o h1) h2

/-- A new block, which was there in ours. -/
theorem RelF.alloc {B : Base} {sz b0 n : Nat} {ρ : Rho} {Y : Nat → AObj → Prop} {w w' : World} {ob : AObj} {obj : Obj} (R : RelF B ρ Y n w.heap) (hb : ρ b0 = none) (hlt : b0 < n) (hY : ∀ o, Y b0 o → o = ob) (hw : w'.heap = w.heap.push obj) (hwo : ob.wr = true)
    (ho : ORel (ρ.set b0 (w.heap.size, sz)) ob (w.heap.size, sz) w'.heap) (os : w'.os = w.os) (tape : w'.tape = w.tape) (output : w'.output = w.output) {nx ro : Nat} {Y0 : Nat → AObj → Prop} {ρ0 : Rho} {w0 : World} (hn0 : nx ≤ b0) (G : GoesF ρ0 Y0 nx ro w0 ρ Y n w) :
    RelF B (ρ.set b0 (w.heap.size, sz)) Y n w'.heap ∧ GoesF ρ0 Y0 nx ro w0 (ρ.set b0 (w.heap.size, sz)) Y n w' := by
  have hext : Ext' ρ (ρ.set b0 (w.heap.size, sz)) := Rho.set_ext hb
  have hold : ∀ k, k < w.heap.size → w'.heap[k]? = w.heap[k]? := fun k hk => by
    rw [hw, Array.getElem?_push, if_neg (by omega)]
  have hcase : ∀ c q p, Y c q → (ρ.set b0 (w.heap.size, sz)) c = some p → (c = b0 ∧ q = ob ∧ p = (w.heap.size, sz)) ∨ (c ≠ b0 ∧ ρ c = some p) := by
    intro c q p h1 h2
    by_cases e : c = b0
    · subst e
      rw [Rho.set_same] at h2; cases h2
      exact .inl ⟨rfl, hY q h1, rfl⟩
    · rw [Rho.set_ne e] at h2
      exact .inr ⟨e, h2⟩
  refine ⟨⟨?_, ?_, ?_, ?_, ?_, ?_, fun k hk => by rw [hold k (by have := R.low; omega)]; exact R.kept k hk, ?_⟩, ⟨fun b p e => hext b p (G.ext b p e), ?_, G.nexts, G.roKept, ?_, ?_, ?_, os.trans G.os, tape.trans G.tape, output.trans G.output, G.dead⟩⟩
  · intro c q p h1 h2
    rcases hcase c q p h1 h2 with ⟨rfl, rfl, rfl⟩ | ⟨e, g2⟩
    · exact ho
    · exact ((R.obj c q p h1 g2).ext hext).at (hold _ (R.dom c p g2))
  · intro c q p h1 h2 h3
    rcases hcase c q p h1 h2 with ⟨rfl, rfl, rfl⟩ | ⟨e, g2⟩
    · exact R.low
    · exact R.base c q p h1 g2 h3
  · intro c c' q q' p p' h1 h2 h3 h4 h5
    rcases hcase c q p h1 h3 with ⟨rfl, rfl, rfl⟩ | ⟨e, g2⟩ <;> rcases hcase c' q' p' h2 h4 with ⟨rfl, rfl, rfl⟩ | ⟨e', g2'⟩
    · rfl
    · have := R.dom c' p' g2'; simp only at h5; omega
    · have := R.dom c p g2; simp only at h5; omega
    · exact R.inj c c' q q' p p' h1 h2 g2 g2' h5
  · intro c hc
    rw [Rho.set_ne (by omega)]; exact R.fresh c hc
  · intro c p h1
    by_cases e : c = b0
    · subst e; rw [Rho.set_same] at h1; cases h1; rw [hw]; simp
    · rw [Rho.set_ne e] at h1; have := R.dom c p h1; rw [hw]; simp; omega
  · rw [hw]; have := R.low; simp; omega
  · intro c q p h1 h2 h3
    rcases hcase c q p h1 h2 with ⟨rfl, rfl, rfl⟩ | ⟨e, g2⟩
    · rw [hwo] at h3; cases h3
    · exact R.nw c q p h1 g2 h3
  · intro c hc he
    obtain ⟨g1, g2⟩ := G.old c hc he
    exact ⟨by rw [Rho.set_ne (by omega)]; exact g1, g2⟩
  · intro c q p h1 h2 h3 h4
    rcases hcase c q p h1 h3 with ⟨rfl, rfl, rfl⟩ | ⟨e, g2⟩
    · have := G.size; simp only at h4; omega
    · exact G.img c q p h1 h2 g2 h4
  · rw [hw]; have := G.size; simp; omega
  · intro k hk hn
    rw [hold k (by have := G.size; omega)]; exact G.frame k hk hn

section
variable {P : Program} {c : Cx} {callF : CallF} {fr : Fr} {B : Base} {r0 n : Nat} {L : List Ins} {sts : Nat → St} {hs : Nat → Hp}

def AlAt (fr : Fr) (L : List Ins) (sts : Nat → St) (i : Nat) (nm : Nm) (ob : AObj) : Prop := ∃ o, L[i]? = some o ∧ IsAl fr o (sts i) nm ob
def EfAt (L : List Ins) (sts : Nat → St) (i : Nat) : Prop := ∃ o, L[i]? = some o ∧ IsEf o (sts i)

theorem AlAt.same {i : Nat} {nm nm' : Nm} {ob ob' : AObj} (h : AlAt fr L sts i nm ob) (h' : AlAt fr L sts i nm' ob') : nm = nm' ∧ ob = ob' := by
  obtain ⟨o, h1, _, al, h2, h3⟩ := h
  obtain ⟨o', g1, _, al', g2, g3⟩ := h'
  rw [h1] at g1; cases g1
  rw [h2] at g2; cases g2
  rw [h3] at g3; cases g3
  exact ⟨rfl, rfl⟩
theorem AlAt.notEf {i : Nat} {nm : Nm} {ob : AObj} (h : AlAt fr L sts i nm ob) : ¬ EfAt L sts i := by
  rintro ⟨o', g1, _, f, g2⟩
  obtain ⟨o, h1, _, al, h2, h3⟩ := h
  rw [h1] at g1; cases g1
  rw [h2] at g2; cases g2
theorem AlAt.wr {i : Nat} {nm : Nm} {ob : AObj} (h : AlAt fr L sts i nm ob) : ob.wr = true := by
  obtain ⟨o, h1, _, al, h2, h3⟩ := h
  exact al_wr h3

/-- Is a number one of this region's, of an operation from j on? -/
def Late (r0 n j b : Nat) : Prop := r0 ≤ b ∧ b < r0 + n ∧ j ≤ b - r0
/-- The heap as it stood ahead of operation j, and what those from j on will put there. -/
def Lay (fr : Fr) (L : List Ins) (sts : Nat → St) (hs : Nat → Hp) (r0 n j : Nat) (b : Nat) (o : AObj) : Prop :=
  (Late r0 n j b ∧ ∃ nm, AlAt fr L sts (b - r0) nm o) ∨ (¬ Late r0 n j b ∧ (hs j).get b = some o)

/-- What is known of the heap ahead of operation j. -/
structure HOk (hs : Nat → Hp) (r0 n ro j : Nat) : Prop where
  fr : ∀ b, (hs j).next ≤ b → (hs j).get b = none
  ro : (hs j).ro = ro
  nx : r0 + n ≤ (hs j).next
  non : ∀ i, j ≤ i → i < n → (hs j).get (r0 + i) = none

/-- One step on, which is no effect. -/
theorem lay_fwd {efs : List EfRec} {rds : List RdRec} (D : Drawn c callF fr r0 L 0 efs rds sts hs) (hn : L.length = n) {j ro : Nat} (hj : j < n) (he : ¬ EfAt L sts j) (hk : HOk hs r0 n ro j) :
    (∀ b o, Lay fr L sts hs r0 n (j + 1) b o ↔ Lay fr L sts hs r0 n j b o) ∧ HOk hs r0 n ro (j + 1) ∧ (hs (j + 1)).next = (hs j).next ∧ (∀ i, i ≠ j → (hs (j + 1)).get (r0 + i) = (hs j).get (r0 + i)) ∧ (∀ nm ob, AlAt fr L sts j nm ob → (hs (j + 1)).get (r0 + j) = some ob) := by
  have hL : L[j]? = some L[j] := List.getElem?_eq_getElem (by omega)
  have hS := D.step j _ (Nat.zero_le _) hL
  have key : (hs (j + 1) = hs j ∧ (∀ nm ob, ¬ AlAt fr L sts j nm ob)) ∨ (∃ nm ob, AlAt fr L sts j nm ob ∧ hs (j + 1) = (hs j).put (r0 + j) ob) := by
    generalize e1 : sts (j + 1) = s1 at hS
    generalize e2 : hs (j + 1) = h1 at hS ⊢
    cases hS with
    | skip hw => exact .inl ⟨rfl, fun nm ob h => by obtain ⟨o, g1, g2, _⟩ := h; rw [hL] at g1; cases g1; exact absurd hw (wanted_not g2)⟩
    | mv hw x ho => exact .inl ⟨rfl, fun nm ob h => by obtain ⟨o, g1, g2, al, g3, _⟩ := h; rw [hL] at g1; cases g1; rw [ho] at g3; cases g3⟩
    | pu hw p v ho hv => exact .inl ⟨rfl, fun nm ob h => by obtain ⟨o, g1, g2, al, g3, _⟩ := h; rw [hL] at g1; cases g1; rw [ho] at g3; cases g3⟩
    | rd hw r v ho hv => exact .inl ⟨rfl, fun nm ob h => by obtain ⟨o, g1, g2, al, g3, _⟩ := h; rw [hL] at g1; cases g1; rw [ho] at g3; cases g3⟩
    | al hw al nm ob ho hv => exact .inr ⟨nm, ob, ⟨_, hL, hw, al, ho, hv⟩, rfl⟩
    | ef hw f v h' ho hv => exact absurd ⟨_, hL, hw, f, ho⟩ he
  rcases key with ⟨h1, h2⟩ | ⟨nm, ob, h1, h2⟩
  · rw [h1]
    refine ⟨fun b o => ?_, ⟨by rw [h1]; exact hk.fr, by rw [h1]; exact hk.ro, by rw [h1]; exact hk.nx, fun i hi hin => by rw [h1]; exact hk.non i (by omega) hin⟩, rfl, fun _ _ => rfl, fun nm ob h => absurd h (h2 nm ob)⟩
    unfold Lay
    rw [h1]
    by_cases g : b = r0 + j
    · subst g
      have l1 : ¬ Late r0 n (j + 1) (r0 + j) := by unfold Late; omega
      have l2 : Late r0 n j (r0 + j) := by unfold Late; omega
      simp only [l1, l2, false_and, not_false_eq_true, true_and, not_true_eq_false, or_false, false_or]
      rw [hk.non j (Nat.le_refl _) hj]
      constructor
      · intro e; cases e
      · rintro ⟨nm, e⟩
        rw [show r0 + j - r0 = j from by omega] at e
        exact absurd e (h2 nm o)
    · have : Late r0 n (j + 1) b ↔ Late r0 n j b := by unfold Late; omega
      rw [this]
  · rw [h2]
    refine ⟨fun b o => ?_, ⟨?_, ?_, ?_, ?_⟩, rfl, ?_, ?_⟩
    · unfold Lay
      rw [h2]
      by_cases g : b = r0 + j
      · subst g
        have l1 : ¬ Late r0 n (j + 1) (r0 + j) := by unfold Late; omega
        have l2 : Late r0 n j (r0 + j) := by unfold Late; omega
        simp only [l1, l2, false_and, not_false_eq_true, true_and, not_true_eq_false, or_false, false_or]
        rw [Hp.get_put, if_pos rfl, show r0 + j - r0 = j from by omega]
        constructor
        · intro e; cases e; exact ⟨nm, h1⟩
        · rintro ⟨nm', e⟩
          rw [(h1.same e).2]
      · have : Late r0 n (j + 1) b ↔ Late r0 n j b := by unfold Late; omega
        rw [this, Hp.get_put, if_neg g]
    · intro b hb
      rw [h2] at hb ⊢
      have hb : (hs j).next ≤ b := hb
      rw [Hp.get_put, if_neg (by have := hk.nx; omega)]
      exact hk.fr b hb
    · rw [h2]; exact hk.ro
    · rw [h2]; exact hk.nx
    · intro i hi hin
      rw [h2, Hp.get_put, if_neg (by omega)]
      exact hk.non i (by omega) hin
    · intro i hi
      rw [Hp.get_put, if_neg (by omega)]
    · intro nm' ob' h'
      rw [Hp.get_put, if_pos rfl, (h1.same h').2]

end
end Go.Am

/- The small machine against the model: regions that draw their order: the heap behind each step. -/
namespace Go.Am

section
variable {P : Program} {c : Cx} {callF : CallF} {fr : Fr} {B : Base} {r0 n nx ro : Nat} {L : List Ins} {sts : Nat → St} {hs : Nat → Hp} {ρ0 ρ : Rho} {Y0 : Nat → AObj → Prop} {w0 w : World} {dn dn' : Nat → Prop}

structure HeapAt (B : Base) (ρ0 : Rho) (Y0 : Nat → AObj → Prop) (nx ro : Nat) (w0 : World) (fr : Fr) (L : List Ins) (sts : Nat → St) (hs : Nat → Hp) (r0 n : Nat) (dn : Nat → Prop) (ρ : Rho) (w : World) (j : Nat) : Prop where
  rel : RelF B ρ (Lay fr L sts hs r0 n j) (hs j).next w.heap
  goes : GoesF ρ0 Y0 nx ro w0 ρ (Lay fr L sts hs r0 n j) (hs j).next w
  hok : HOk hs r0 n ro j
  kept : ∀ i nm ob, i < j → AlAt fr L sts i nm ob → ¬ dn i → (hs j).get (r0 + i) = some ob
  rho : ∀ k, k < n → ρ (r0 + k) ≠ none → dn k

theorem GoesF.congr {Y : Nat → AObj → Prop} {Y' Y'' : Nat → AObj → Prop} {n1 n' n'' : Nat} (h : GoesF ρ0 Y n1 ro w0 ρ Y' n' w) (hY : ∀ b o, Y'' b o ↔ Y' b o) (hn : n'' = n') : GoesF ρ0 Y n1 ro w0 ρ Y'' n'' w := by
  have : Y'' = Y' := funext fun b => funext fun o => propext (hY b o)
  subst this; subst hn; exact h

theorem HeapAt.fwd {efs : List EfRec} {rds : List RdRec} (D : Drawn c callF fr r0 L 0 efs rds sts hs) (hn : L.length = n) {j : Nat} (hj : j < n) (he : ¬ EfAt L sts j) (h : HeapAt B ρ0 Y0 nx ro w0 fr L sts hs r0 n dn ρ w j) :
    HeapAt B ρ0 Y0 nx ro w0 fr L sts hs r0 n dn ρ w (j + 1) := by
  obtain ⟨h1, h2, h3, h4, h5⟩ := lay_fwd D hn hj he h.hok
  refine ⟨h.rel.congr (fun b o hb _ => (h1 b o).1 hb) (by rw [h3]; exact Nat.le_refl _), h.goes.congr h1 h3, h2, fun i nm ob hi ha hd => ?_, h.rho⟩
  by_cases g : i = j
  · subst g; exact h5 nm ob ha
  · rw [h4 i g]; exact h.kept i nm ob (by omega) ha hd

theorem HeapAt.to {efs : List EfRec} {rds : List RdRec} (D : Drawn c callF fr r0 L 0 efs rds sts hs) (hn : L.length = n) {m : Nat} (h : HeapAt B ρ0 Y0 nx ro w0 fr L sts hs r0 n dn ρ w m) : ∀ d, m + d ≤ n → (∀ k, m ≤ k → k < m + d → ¬ EfAt L sts k) → HeapAt B ρ0 Y0 nx ro w0 fr L sts hs r0 n dn ρ w (m + d) := by
  intro d
  induction d with
  | zero => intro _ _; exact h
  | succ d ih =>
    intro hd he
    have h1 := ih (by omega) fun k hk hk' => he k hk (by omega)
    exact HeapAt.fwd (j := m + d) D hn (by omega) (he _ (by omega) (by omega)) h1

theorem HeapAt.here {j : Nat} (h : HeapAt B ρ0 Y0 nx ro w0 fr L sts hs r0 n dn ρ w j) (hro : ro ≤ r0) : Rel B ρ (hs j) w.heap :=
  h.rel.rel (fun b o hb => .inr ⟨(fun hl => by
    obtain ⟨l1, l2, l3⟩ := hl
    have := h.hok.non (b - r0) l3 (by omega)
    rw [show r0 + (b - r0) = b from by omega, hb] at this
    cases this), hb⟩) h.hok.fr (by rw [h.hok.ro]; have := h.hok.nx; omega)

theorem HeapAt.more {j : Nat} (h : HeapAt B ρ0 Y0 nx ro w0 fr L sts hs r0 n dn ρ w j) (hd : ∀ k, dn k → dn' k) : HeapAt B ρ0 Y0 nx ro w0 fr L sts hs r0 n dn' ρ w j :=
  ⟨h.rel, h.goes, h.hok, fun i nm ob hi ha hdn => h.kept i nm ob hi ha fun g => hdn (hd i g), fun k hk hr => hd k (h.rho k hk hr)⟩

/-- A draw changes nothing. -/
theorem RelF.at {Y : Nat → AObj → Prop} {n1 : Nat} {H H' : Array Obj} (h : RelF B ρ Y n1 H) (e : H' = H) : RelF B ρ Y n1 H' := by subst e; exact h

theorem HeapAt.alloc {m i sz : Nat} (h : HeapAt B ρ0 Y0 nx ro w0 fr L sts hs r0 n dn ρ w m) {nm : Nm} {ob : AObj} {obj : Obj} {w' : World} (hi : i < n) (ha : AlAt fr L sts i nm ob) (hnx : nx ≤ r0) (hnd : ¬ dn i) (hd : ∀ k, dn k → dn' k) (hdi : dn' i)
    (hw : w'.heap = w.heap.push obj) (ho : ORel (ρ.set (r0 + i) (w.heap.size, sz)) ob (w.heap.size, sz) w'.heap) (os : w'.os = w.os) (tape : w'.tape = w.tape) (output : w'.output = w.output) :
    HeapAt B ρ0 Y0 nx ro w0 fr L sts hs r0 n dn' (ρ.set (r0 + i) (w.heap.size, sz)) w' m ∧ Ext' ρ (ρ.set (r0 + i) (w.heap.size, sz)) := by
  have hr : ρ (r0 + i) = none := by
    cases e : ρ (r0 + i) with
    | none => rfl
    | some p => exact absurd (h.rho i hi (by rw [e]; simp)) hnd
  have hY : ∀ o, Lay fr L sts hs r0 n m (r0 + i) o → o = ob := by
    intro o hl
    rcases hl with ⟨l1, nm', l2⟩ | ⟨l1, l2⟩
    · rw [show r0 + i - r0 = i from by omega] at l2
      exact (l2.same ha).2
    · have : i < m := by
        by_cases g : i < m
        · exact g
        · exact absurd (by unfold Late; omega) l1
      rw [h.kept i nm ob this ha hnd] at l2
      cases l2; rfl
  obtain ⟨a1, a2⟩ := RelF.alloc (sz := sz) h.rel hr (by have := h.hok.nx; omega) hY hw ha.wr ho os tape output (by omega) h.goes
  refine ⟨⟨a1, a2, h.hok, fun k nm ob hk hk1 hk2 => h.kept k nm ob hk hk1 fun g => hk2 (hd k g), fun k hk hr' => ?_⟩, Rho.set_ext hr⟩
  by_cases e : k = i
  · subst e; exact hdi
  · rw [Rho.set_ne (by omega)] at hr'; exact hd k (h.rho k hk hr')

theorem HeapAt.effect {i : Nat} {ρ' : Rho} {w' : World} (h : HeapAt B ρ0 Y0 nx ro w0 fr L sts hs r0 n dn ρ w i) (hi : i < n) (he : EfAt L sts i) (hro : ro ≤ r0) (hd : ∀ k, dn k → dn' k) (R : Rel B ρ' (hs (i + 1)) w'.heap) (G : Goes ρ (hs i) w ρ' (hs (i + 1)) w') :
    HeapAt B ρ0 Y0 nx ro w0 fr L sts hs r0 n dn' ρ' w' (i + 1) := by
  have R0 := h.here hro
  have hnoal : ∀ nm ob, ¬ AlAt fr L sts i nm ob := fun nm ob ha => ha.notEf he
  have hlate : ∀ b, Late r0 n (i + 1) b → Late r0 n i b := fun b hb => by unfold Late at *; omega
  have hget : ∀ b o, (hs i).get b = some o → ¬ Late r0 n i b := fun b o hb hl => by
    obtain ⟨l1, l2, l3⟩ := hl
    have := h.hok.non (b - r0) l3 (by omega)
    rw [show r0 + (b - r0) = b from by omega, hb] at this
    cases this
  have hlay : ∀ b o, (hs i).get b = some o → Lay fr L sts hs r0 n i b o := fun b o hb => .inr ⟨hget b o hb, hb⟩
  have hlt : ∀ b, Late r0 n (i + 1) b → b < (hs i).next := fun b hb => by have := h.hok.nx; unfold Late at hb; omega
  have hnone : (hs i).get (r0 + i) = none := h.hok.non i (Nat.le_refl _) hi
  -- what is late has its place as it had
  have hlρ : ∀ b p, Late r0 n (i + 1) b → ρ' b = some p → ρ b = some p := by
    intro b p hb hp
    cases e : ρ b with
    | none => rw [(G.old b (hlt b hb) e).1] at hp; cases hp
    | some q => rw [G.ext b q e] at hp; rw [hp]
  have hLL : ∀ b o, Late r0 n (i + 1) b → (Lay fr L sts hs r0 n (i + 1) b o ↔ Lay fr L sts hs r0 n i b o) := by
    intro b o hb
    unfold Lay
    simp only [hb, hlate b hb, true_and, not_true_eq_false, false_and, or_false]
  have hne : ∀ b b' o' p p', Late r0 n (i + 1) b → (hs i).get b' = some o' → (∃ o, Lay fr L sts hs r0 n i b o) → ρ b = some p → ρ b' = some p' → p'.1 ≠ p.1 := by
    intro b b' o' p p' hb hb' hl hp hp' e
    obtain ⟨o, ho⟩ := hl
    have := h.rel.inj b' b o' o p' p (hlay b' o' hb') ho hp' hp e
    subst this
    exact hget _ _ hb' (hlate _ hb)
  have hrel : RelF B ρ' (Lay fr L sts hs r0 n (i + 1)) (hs (i + 1)).next w'.heap := by
    refine ⟨?_, ?_, ?_, fun b hb => (R.fresh b hb).1, R.dom, R.low, R.kept, ?_⟩
    · intro b o p hb hp
      by_cases l : Late r0 n (i + 1) b
      · have hp0 := hlρ b p l hp
        have hb0 := (hLL b o l).1 hb
        refine ((h.rel.obj b o p hb0 hp0).ext G.ext).at (G.frame p.1 (h.rel.dom b p hp0) fun b' o' p' g1 _ g3 => hne b b' o' p p' l g1 ⟨o, hb0⟩ hp0 g3)
      · rcases hb with ⟨l', _⟩ | ⟨_, hb⟩
        · exact absurd l' l
        · exact R.obj b o p hb hp
    · intro b o p hb hp hw
      by_cases l : Late r0 n (i + 1) b
      · exact h.rel.base b o p ((hLL b o l).1 hb) (hlρ b p l hp) hw
      · rcases hb with ⟨l', _⟩ | ⟨_, hb⟩
        · exact absurd l' l
        · exact R.base b o p hb hp hw
    · -- two of one place
      have mixed : ∀ b b' o o' p p', Late r0 n (i + 1) b → Lay fr L sts hs r0 n (i + 1) b o → (hs (i + 1)).get b' = some o' → ρ' b = some p → ρ' b' = some p' → p.1 = p'.1 → False := by
        intro b b' o o' p p' l hb hb' hp hp' e
        have hp0 := hlρ b p l hp
        have hb0 := (hLL b o l).1 hb
        have hwo : o.wr = true := by
          rcases hb0 with ⟨_, nm, ha⟩ | ⟨l', _⟩
          · exact ha.wr
          · exact absurd (hlate b l) l'
        cases hw : o'.wr with
        | true =>
          obtain ⟨b1, o1, p1, g1, g2, g3, g4⟩ := G.img b' o' p' hb' hw hp' (by rw [← e]; exact h.rel.dom b p hp0)
          exact hne b b1 o1 p p1 l g1 ⟨o, hb0⟩ hp0 g3 (by rw [g4, e])
        | false =>
          have a1 := R.nw b' o' p' hb' hp' hw
          have a2 := h.rel.base b o p hb0 hp0 hwo
          omega
      intro b b' o o' p p' hb hb' hp hp' e
      by_cases l : Late r0 n (i + 1) b <;> by_cases l' : Late r0 n (i + 1) b'
      · exact h.rel.inj b b' o o' p p' ((hLL b o l).1 hb) ((hLL b' o' l').1 hb') (hlρ b p l hp) (hlρ b' p' l' hp') e
      · rcases hb' with ⟨q, _⟩ | ⟨_, hb'⟩
        · exact absurd q l'
        · exact (mixed b b' o o' p p' l hb hb' hp hp' e).elim
      · rcases hb with ⟨q, _⟩ | ⟨_, hb⟩
        · exact absurd q l
        · exact (mixed b' b o' o p' p l' hb' hb hp' hp e.symm).elim
      · rcases hb with ⟨q, _⟩ | ⟨_, hb⟩
        · exact absurd q l
        · rcases hb' with ⟨q, _⟩ | ⟨_, hb'⟩
          · exact absurd q l'
          · exact R.inj b b' o o' p p' hb hb' hp hp' e
    · intro b o p hb hp hw
      by_cases l : Late r0 n (i + 1) b
      · exact h.rel.nw b o p ((hLL b o l).1 hb) (hlρ b p l hp) hw
      · rcases hb with ⟨l', _⟩ | ⟨_, hb⟩
        · exact absurd l' l
        · exact R.nw b o p hb hp hw
  have hsame : ∀ b, (hs (i + 1)).get b = (hs i).get b → ∀ o, Lay fr L sts hs r0 n (i + 1) b o ↔ Lay fr L sts hs r0 n i b o := by
    intro b hb o
    by_cases l : Late r0 n (i + 1) b
    · exact hLL b o l
    · by_cases l' : Late r0 n i b
      · have hbi : b = r0 + i := by unfold Late at *; omega
        subst hbi
        unfold Lay
        simp only [l, l', false_and, not_false_eq_true, true_and, not_true_eq_false, or_false, false_or]
        rw [hb, hnone, show r0 + i - r0 = i from by omega]
        constructor
        · intro e; cases e
        · rintro ⟨nm, e⟩; exact absurd e (hnoal nm o)
      · unfold Lay
        simp only [l, l', false_and, not_false_eq_true, true_and, false_or]
        rw [hb]
  have hgoes : GoesF ρ (Lay fr L sts hs r0 n i) (hs i).next ro w ρ' (Lay fr L sts hs r0 n (i + 1)) (hs (i + 1)).next w' := by
    refine ⟨G.ext, fun b hb he => ⟨(G.old b hb he).1, hsame b (G.old b hb he).2⟩, G.next, fun b hb => hsame b (G.roKept b (by rw [h.hok.ro]; exact hb)), ?_, G.size, fun k hk hn => G.frame k hk fun b o p h1 h2 h3 => hn b o p (hlay b o h1) h2 h3, G.os, G.tape, G.output, ?_⟩
    · intro b o p hb hw hp hs'
      by_cases l : Late r0 n (i + 1) b
      · exact ⟨b, o, p, (hLL b o l).1 hb, hw, hlρ b p l hp, rfl⟩
      · rcases hb with ⟨l', _⟩ | ⟨_, hb⟩
        · exact absurd l' l
        · obtain ⟨b1, o1, p1, g1, g2, g3, g4⟩ := G.img b o p hb hw hp hs'
          exact ⟨b1, o1, p1, hlay b1 o1 g1, g2, g3, g4⟩
    · intro b hb hno o ho
      by_cases l : Late r0 n (i + 1) b
      · exact hno o ((hLL b o l).1 ho)
      · rcases ho with ⟨l', _⟩ | ⟨_, ho⟩
        · exact l l'
        · have : (hs i).get b = none := by
            cases e : (hs i).get b with
            | none => rfl
            | some q => exact absurd (hlay b q e) (hno q)
          rw [G.dead b hb this] at ho; cases ho
  refine ⟨hrel, h.goes.trans hgoes, ⟨fun b hb => (R.fresh b hb).2, by rw [G.ro]; exact h.hok.ro, by have := h.hok.nx; have := G.next; omega, fun k hk hkn => G.dead _ (by have := h.hok.nx; omega) (h.hok.non k (by omega) hkn)⟩, ?_, ?_⟩
  · intro k nm ob hk ha hnd
    have hki : k ≠ i := fun e => by subst e; exact hnoal nm ob ha
    have hkn : k < n := by omega
    have hρ : ρ (r0 + k) = none := by
      cases e : ρ (r0 + k) with
      | none => rfl
      | some p => exact absurd (hd k (h.rho k hkn (by rw [e]; simp))) hnd
    rw [(G.old _ (by have := h.hok.nx; omega) hρ).2]
    exact h.kept k nm ob (by omega) ha fun g => hnd (hd k g)
  · intro k hk hρ'
    cases e : ρ (r0 + k) with
    | none => exact absurd (G.old _ (by have := h.hok.nx; omega) e).1 hρ'
    | some p => exact hd k (h.rho k hk (by rw [e]; simp))

end
end Go.Am

/- The small machine against the model: regions that draw their order. -/
namespace Go.Am

theorem countP_lt {p p' : Nat → Bool} {i : Nat} (h1 : ∀ k, p' k = true → p k = true) (h2 : p i = true) (h3 : p' i = false) : ∀ {l : List Nat}, i ∈ l → l.countP p' < l.countP p := by
  have le : ∀ l : List Nat, l.countP p' ≤ l.countP p := fun l => List.countP_mono_left fun k _ hk => h1 k hk
  intro l
  induction l with
  | nil => intro h; simp at h
  | cons x l ih =>
    intro h
    rw [List.countP_cons, List.countP_cons]
    rcases List.mem_cons.1 h with rfl | h
    · rw [h2, h3]; have := le l; simp; omega
    · have := ih h
      cases e : p' x with
      | true => rw [h1 x e]; simp; omega
      | false => cases p x <;> simp <;> omega

theorem StepD.cons {c : Cx} {callF : CallF} {fr : Fr} {r0 i : Nat} {o : Ins} {st st' : St} {h h' : Hp} (H : StepD c callF fr r0 i o st h st' h') : ∃ x, st' = x :: st := by cases H <;> exact ⟨_, rfl⟩

section
variable {P : Program} {c : Cx} {callF : CallF} {fr : Fr} {B : Base} {r0 n nx ro N G g : Nat} {L : List Ins} {sts : Nat → St} {hs : Nat → Hp} {ρ0 ρ : Rho} {Y0 : Nat → AObj → Prop} {w0 w : World} {dn dn' : Nat → Prop}

theorem sts_nth {efs : List EfRec} {rds : List RdRec} (D : Drawn c callF fr r0 L 0 efs rds sts hs) : ∀ (j i : Nat), i ≤ L.length → j < i → nthO j (sts i) = nthO 0 (sts (i - j)) := by
  intro j
  induction j with
  | zero => intro i _ _; rfl
  | succ j ih =>
    intro i hi hj
    have hL : L[i - 1]? = some L[i - 1] := List.getElem?_eq_getElem (by omega)
    obtain ⟨x, hx⟩ := (D.step (i - 1) _ (Nat.zero_le _) hL).cons
    rw [show i - 1 + 1 = i from by omega] at hx
    rw [hx, nthO_cons, ih (i - 1) (by omega) (by omega)]
    congr 2; omega

/-- How far the frame has come. -/
structure FInv (N G : Nat) (L0 : List Oper) (M : List Nat) (a0 : Act) (ρ0 : Rho) (sts : Nat → St) (dn : Nat → Prop) (ρ : Rho) (a : Act) : Prop where
  ok : ActOk N a
  glob : GlobR G ρ
  closed : ∀ i, dn i → ∀ k, (M.getD i 0).testBit k = true → dn k
  val : ∀ i o t, dn i → L0[i]? = some o → o.dst = some t → ∀ v, nthO 0 (sts (i + 1)) = some v → Slot ρ a t v
  un : ∀ t, (∀ i o, dn i → L0[i]? = some o → o.dst ≠ some t) → a.tmps[t]? = a0.tmps[t]?
  ext : Ext' ρ0 ρ

variable {L0 : List Oper} {M : List Nat} {a0 a : Act} {ins : List Ins}

theorem dst_unlike (F : ∀ k o, L0[k]? = some o → OpFacts c N G L0 ins 0 M k o) {i j : Nat} {o p : Oper} {t : Tmp} (ho : L0[i]? = some o) (hp : L0[j]? = some p) (hne : j ≠ i) (h1 : o.dst = some t) (h2 : p.dst = some t) : False := by
  rcases Nat.lt_or_gt_of_ne hne with g | g
  · have := (F i o ho).pairs j p g hp
    rw [h1] at this
    exact pairOk_dst this h2
  · have := (F j p hp).pairs i o g ho
    rw [h2] at this
    exact pairOk_dst this h1

theorem FInv.step (F : ∀ k o, L0[k]? = some o → OpFacts c N G L0 ins 0 M k o) (h : FInv N G L0 M a0 ρ0 sts dn ρ a) {i : Nat} {o : Oper} (ho : L0[i]? = some o) (hnd : ¬ dn i) (hc : ∀ k, (M.getD i 0).testBit k = true → dn k) (hd : ∀ k, dn' k ↔ dn k ∨ k = i)
    {ρ1 : Rho} (e : Ext' ρ ρ1) {u : Value} (hu : ∀ v, nthO 0 (sts (i + 1)) = some v → VR ρ1 v u) : FInv N G L0 M a0 ρ0 sts dn' ρ1 (a.put o.dst u) := by
  refine ⟨h.ok.put _ _, h.glob.ext e, fun j hj k hk => ?_, fun j p t hj hp ht v hv => ?_, fun t ht => ?_, fun b p hb => e b p (h.ext b p hb)⟩
  · rw [hd] at hj ⊢
    rcases hj with hj | rfl
    · exact .inl (h.closed j hj k hk)
    · exact .inl (hc k hk)
  · by_cases g : j = i
    · subst g
      rw [ho] at hp; cases hp
      rw [ht]
      have hlt : t < a.tmps.size := by rw [h.ok.size]; exact dstOk_some (by have := (F _ _ ho).dst; rw [ht] at this; exact this)
      exact ⟨u, by rw [put_tmps hlt, if_pos rfl], hu v hv⟩
    · have hj' : dn j := ((hd j).1 hj).resolve_right g
      obtain ⟨u', h1, h2⟩ := h.val j p t hj' hp ht v hv
      refine ⟨u', ?_, h2.ext e⟩
      cases hdo : o.dst with
      | none => exact h1
      | some t' =>
        have hne : t' ≠ t := fun q => by subst q; exact dst_unlike F ho hp g hdo ht
        simp only [Act.put]
        rw [Array.getElem?_setIfInBounds_ne hne]
        exact h1
  · have h1 : o.dst ≠ some t := ht i o ((hd i).2 (.inr rfl)) ho
    rw [← h.un t fun j p hj hp => ht j p ((hd j).2 (.inl hj)) hp]
    cases hdo : o.dst with
    | none => rfl
    | some t' =>
      have hne : t' ≠ t := fun q => by subst q; exact h1 hdo
      simp only [Act.put]
      rw [Array.getElem?_setIfInBounds_ne hne]

theorem wsAt_get {k j : Nat} {t : Tmp} (hk : k ≤ L0.length) (h : (wsAt L0 k)[j]? = some (some t)) : j < k ∧ ∃ p, L0[k - 1 - j]? = some p ∧ p.dst = some t := by
  unfold wsAt at h
  have hl : ((L0.take k).map (·.dst)).length = k := by simp; omega
  have hj : j < k := by
    have := (List.getElem?_eq_some_iff.1 h).1
    rw [List.length_reverse, hl] at this
    exact this
  refine ⟨hj, ?_⟩
  rw [List.getElem?_reverse (by rw [hl]; exact hj), hl, List.getElem?_map, List.getElem?_take_of_lt (by omega)] at h
  cases q : L0[k - 1 - j]? with
  | none => rw [q] at h; cases h
  | some p => rw [q] at h; exact ⟨p, rfl, by simpa using h⟩
theorem wsAt_mem {k i : Nat} {p : Oper} (hk : k ≤ L0.length) (hi : i < k) (hp : L0[i]? = some p) : (wsAt L0 k)[k - 1 - i]? = some p.dst := by
  unfold wsAt
  have hl : ((L0.take k).map (·.dst)).length = k := by simp; omega
  rw [List.getElem?_reverse (by rw [hl]; omega), hl, show k - 1 - (k - 1 - i) = i from by omega, List.getElem?_map, List.getElem?_take_of_lt (by omega), hp]
  rfl

theorem FInv.evR {efs : List EfRec} {rds : List RdRec} (D : Drawn c callF fr r0 L 0 efs rds sts hs) (F : ∀ k o, L0[k]? = some o → OpFacts c N G L0 ins 0 M k o) (hlen : L.length = L0.length) (hfree : ∀ k o, L0[k]? = some o → ∀ t, Operand.tmp t ∈ o.op.operands.toList → lastIn t (wsAt L0 k) 0 = none → g.testBit t = true)
    (h0 : FrR g ρ0 fr a0) (h : FInv N G L0 M a0 ρ0 sts dn ρ a) {i : Nat} {o : Oper} (ho : L0[i]? = some o) (hnd : ¬ dn i) (hc : ∀ k, (M.getD i 0).testBit k = true → dn k) : EvR ρ (wsAt L0 i) ⟨sts i, fr⟩ a.eval o.op.operands.toList := by
  have hi : i < L0.length := (List.getElem?_eq_some_iff.1 ho).1
  refine evR_of h.glob (F i o ho).globs (fun t ht j hj v hv => ?_) fun t ht hn v hv => ?_
  · obtain ⟨k, rfl, h2⟩ := lastIn_some hj
    rw [Nat.zero_add] at hv
    obtain ⟨h3, p, h4, h5⟩ := wsAt_get (by omega) h2
    rw [sts_nth D k i (by omega) h3, show i - k = i - 1 - k + 1 from by omega] at hv
    have hm := pairOk_look ((F i o ho).pairs (i - 1 - k) p (by omega) h4) h5 (tmpsOf_mem ht)
    exact h.val (i - 1 - k) p t (hc _ hm) h4 h5 v hv
  · obtain ⟨u, h1, h2⟩ := h0 t (hfree i o ho t ht hn) v hv
    refine ⟨u, ?_, h2.ext h.ext⟩
    rw [h.un t fun k p hk hp hdst => ?_]
    · exact h1
    · rcases Nat.lt_trichotomy k i with q | q | q
      · have := lastIn_none hn (i - 1 - k)
        rw [wsAt_mem (by omega) q hp, hdst] at this
        exact this rfl
      · subst q; exact hnd hk
      · have hpo := (F k p hp).pairs i o q ho
        rw [hdst] at hpo
        exact hnd (h.closed k hk i (pairOk_write hpo (tmpsOf_mem ht)))

theorem comp_some {ws : Ws} {op : Op} {x : AOp} (h : comp c ws op = x) (hn : ∀ y, x ≠ .no y) : comp1 op c ws = some x := by
  unfold comp at h
  cases e : comp1 op c ws with
  | none => rw [e] at h; exact absurd h.symm (hn _)
  | some y => rw [e] at h; rw [← h]

theorem sameRead_ok {r : Rd} {st : St} {h : Hp} {v : AVal} (hs : sameRead r fr st h v = true) : r.ev ⟨st, fr⟩ h = some v := by
  unfold sameRead at hs
  cases e : r.ev ⟨st, fr⟩ h with
  | none => rw [e] at hs; cases hs
  | some u => rw [e] at hs; rw [veq_eq 40 u v hs]

/-- All can be done: none is left. -/
theorem passE_done {md : Region.Mode} {ops : Array Oper} {listed : Array Bool} (hsz : listed.size = ops.size) (hr : Region.ready md ops listed = []) : ∀ (l : List Oper) (i m : Nat), ops.toList.drop i = l → (∀ k, m.testBit k = true → listed.getD k false = true) → ∀ k, (passE md l i m).testBit k = true → listed.getD k false = true := by
  intro l
  induction l with
  | nil => intro i m _ hm k hk; exact hm k hk
  | cons o l ih =>
    intro i m hd hm k hk
    simp only [passE, forceN_eq] at hk
    have ho : ops[i]? = some o := by
      have : (ops.toList.drop i)[0]? = some o := by rw [hd]; rfl
      rw [← Array.getElem?_toList]; simpa using this
    have hi : i < ops.size := (Array.getElem?_eq_some_iff.1 ho).1
    refine ih (i + 1) _ (by rw [← List.drop_drop, hd]; rfl) (fun j hj => ?_) k hk
    cases q : m.testBit i with
    | true => rw [q] at hj; exact hm j hj
    | false =>
      rw [q] at hj
      simp only [cond_false] at hj
      cases q2 : edgesIn md m o.after.toList with
      | false => rw [q2] at hj; exact hm j hj
      | true =>
        rw [q2] at hj
        simp only [cond_true] at hj
        rw [bit_or] at hj
        simp only [Bool.or_eq_true, decide_eq_true_eq] at hj
        rcases hj with hj | rfl
        · exact hm j hj
        · cases q3 : listed.getD i true with
          | true => simp [hsz, hi] at q3 ⊢; exact q3
          | false =>
            have hmem : i ∈ Region.ready md ops listed := mem_ready.2 ⟨q3, o, ho, fun e he hb => by
              have : ∀ es : List Edge, edgesIn md m es = true → ∀ e ∈ es, Region.binds md e = true → m.testBit e.on = true := by
                intro es
                induction es with
                | nil => intro _ e he; simp at he
                | cons x es ihe =>
                  intro h e he hb
                  simp only [edgesIn, Bool.and_eq_true, Bool.or_eq_true, Bool.not_eq_true'] at h
                  rcases List.mem_cons.1 he with rfl | he
                  · rcases h.1 with h1 | h1
                    · rw [hb] at h1; cases h1
                    · exact h1
                  · exact ihe h.2 e he hb
              exact hm _ (this _ q2 e (Array.mem_toList_iff.2 he) hb)⟩
            rw [hr] at hmem; cases hmem

theorem fullIn_done {md : Region.Mode} {ops : Array Oper} {listed : Array Bool} (hsz : listed.size = ops.size) (hr : Region.ready md ops listed = []) : ∀ (k m : Nat), fullIn md ops.toList k m = true → (∀ j, m.testBit j = true → listed.getD j false = true) → ∀ i, i < ops.size → listed.getD i false = true := by
  intro k
  induction k with
  | zero => intro m h; simp [fullIn] at h
  | succ k ih =>
    intro m h hm i hi
    simp only [fullIn, forceN_eq] at h
    have hp := passE_done hsz hr ops.toList 0 m (by simp) hm
    cases q : (passE md ops.toList 0 m).beq (2 ^ ops.toList.length - 1) with
    | true =>
      refine hp i ?_
      rw [beq_true q, Nat.testBit_two_pow_sub_one]
      simpa using hi
    | false => rw [q] at h; exact ih _ h hp i hi

end
end Go.Am

/- The small machine against the model: a region that draws its order, whole. -/
namespace Go.Am

theorem least_of {p : Nat → Prop} : ∀ k, p k → ∃ e, p e ∧ ∀ j, j < e → ¬ p j := by
  intro k
  induction k using Nat.strongRecOn with
  | _ k ih =>
    intro hk
    by_cases h : ∃ j, j < k ∧ p j
    · obtain ⟨j, h1, h2⟩ := h
      exact ih j h1 h2
    · exact ⟨k, hk, fun j h1 h2 => h ⟨j, h1, h2⟩⟩

section
variable {P : Program} {c : Cx} {callF : CallF} {fr : Fr} {B : Base} {r0 n nx ro N G g : Nat} {L : List Ins} {sts : Nat → St} {hs : Nat → Hp} {ρ0 : Rho} {Y0 : Nat → AObj → Prop} {w0 : World}
variable {M : List Nat} {a0 : Act}

def dnOf (listed : Array Bool) (k : Nat) : Prop := listed.getD k false = true

theorem dn_set {listed : Array Bool} {i : Nat} (hi : i < listed.size) (k : Nat) : dnOf (listed.setIfInBounds i true) k ↔ dnOf listed k ∨ k = i := by
  unfold dnOf
  by_cases h : k = i
  · subst h; simp [hi]
  · rw [getD_set_ne false (Ne.symm h)]; simp [h]

/-- Which reads are as they were. -/
theorem read_now {ops : Array Oper} {dn : Nat → Prop} {ρ : Rho} {w : World} {m i : Nat} {oi : Ins} {r : Rd} {v : AVal} (D : Drawn c callF fr r0 L 0 [] [] sts hs) (hn : L.length = n)
    (H : HeapAt B ρ0 Y0 nx ro w0 fr L sts hs r0 n dn ρ w m) (hro : ro ≤ r0) (hm : m ≤ n) (e1 : ∀ i, EfAt L sts i → (i < m ↔ dn i)) (last : m = 0 ∨ EfAt L sts (m - 1)) (hL : L[i]? = some oi) (hR : IsRd fr oi (sts i) (hs i) r v) (hnd : ¬ dn i)
    (hc : ∀ k, oi.mask.testBit k = true → dn k) (hcl : ∀ k ok, L[k]? = some ok → dn k → ∀ j, ok.mask.testBit j = true → dn j) : ∃ hh, Rel B ρ hh w.heap ∧ r.ev ⟨sts i, fr⟩ hh = some v := by
  have hi : i < n := by rw [← hn]; exact (List.getElem?_eq_some_iff.1 hL).1
  by_cases q : m ≤ i
  · by_cases q2 : ∃ k, m ≤ k ∧ k < i ∧ EfAt L sts k
    · -- the first effect that is not done
      obtain ⟨e, ⟨h1, h2, h3⟩, hmin⟩ : ∃ e, (m ≤ e ∧ e < i ∧ EfAt L sts e) ∧ ∀ k, k < e → ¬ (m ≤ k ∧ k < i ∧ EfAt L sts k) := by
        obtain ⟨k, hk⟩ := q2
        exact least_of k hk
      have hnde : ¬ dn e := fun h => by have := (e1 e h3).2 h; omega
      obtain ⟨p, hp, hE⟩ := h3
      have := H.to D hn (e - m) (by omega) (fun k hk hk' => fun hf => hmin k (by omega) ⟨hk, by omega, hf⟩)
      rw [show m + (e - m) = e from by omega] at this
      refine ⟨hs e, this.here hro, ?_⟩
      rcases D.rd i oi r v (Nat.zero_le _) hL hR e p (Nat.zero_le _) h2 hp hE with h | h
      · exact absurd (hc e h) hnde
      · exact sameRead_ok h
    · have := H.to D hn (i - m) (by omega) (fun k hk hk' hf => q2 ⟨k, hk, by omega, hf⟩)
      rw [show m + (i - m) = i from by omega] at this
      exact ⟨hs i, this.here hro, hR.2.2⟩
  · have hE := last.resolve_left (by omega)
    obtain ⟨p, hp, hE'⟩ := hE
    have hne : m - 1 ≠ i := fun e => by
      rw [e, hL] at hp; cases hp
      obtain ⟨_, f, hf⟩ := hE'
      rw [hR.2.1] at hf; cases hf
    refine ⟨hs m, H.here hro, ?_⟩
    rcases D.ef (m - 1) p (Nat.zero_le _) hp hE' i oi r v (Nat.zero_le _) (by omega) hL hR with h | h
    · exact absurd (hcl (m - 1) p hp ((e1 _ ⟨p, hp, hE'⟩).1 (by omega)) i h) hnd
    · rw [show m - 1 + 1 = m from by omega] at h
      exact sameRead_ok h

theorem draw_ops (T : Ties P c) (X : Ties2 P c B G) (hF : FnOk P B G callF) (hO : ∀ f args h outs, callF f args h = .ok outs → OwnFn P f) {md : Region.Mode} {ops : Array Oper} {Q : Exit → Act → World → Prop}
    (hops : ops.size = n) (D : Drawn c callF fr r0 L 0 [] [] sts hs) (hn : L.length = n) (F : ∀ k o, ops.toList[k]? = some o → OpFacts c N G ops.toList L 0 M k o) (hfree : ∀ k o, ops.toList[k]? = some o → ∀ t, Operand.tmp t ∈ o.op.operands.toList → lastIn t (wsAt ops.toList k) 0 = none → g.testBit t = true)
    (hfr : FrR g ρ0 fr a0) (hfull : fullIn md ops.toList 8 0 = true) (hro : ro ≤ r0) (hnx : nx ≤ r0)
    (hQ : ∀ ρ w a, SInv N G a0 ρ (wsAt ops.toList n) (sts n) a → Rel B ρ (hs n) w.heap → GoesF ρ0 Y0 nx ro w0 ρ (fun b o => (hs n).get b = some o) (hs n).next w → (hs n).ro = ro → Q .normal a w) :
    ∀ (fuel : Nat) (listed : Array Bool) (ρ : Rho) (w : World) (a : Act) (m : Nat), listed.size = n → FInv N G ops.toList M a0 ρ0 sts (dnOf listed) ρ a → HeapAt B ρ0 Y0 nx ro w0 fr L sts hs r0 n (dnOf listed) ρ w m → m ≤ n → (∀ i, EfAt L sts i → (i < m ↔ dnOf listed i)) → (m = 0 ∨ EfAt L sts (m - 1)) →
      (List.range n).countP (fun k => !listed.getD k false) ≤ fuel → wpAny P md ops Q fuel listed a w := by
  -- the end
  have fin : ∀ (listed : Array Bool) (ρ : Rho) (w : World) (a : Act) (m : Nat), listed.size = n → FInv N G ops.toList M a0 ρ0 sts (dnOf listed) ρ a → HeapAt B ρ0 Y0 nx ro w0 fr L sts hs r0 n (dnOf listed) ρ w m → m ≤ n → (∀ i, EfAt L sts i → (i < m ↔ dnOf listed i)) → (∀ i, i < n → dnOf listed i) → Q .normal a w := by
    intro listed ρ w a m hsz hf hh hm e1 hall
    have h1 := hh.to D hn (n - m) (by omega) (fun k hk hk' he => by
      have := (e1 k he).2 (hall k (by omega))
      omega)
    rw [show m + (n - m) = n from by omega] at h1
    have hlay : ∀ b o, (hs n).get b = some o ↔ Lay fr L sts hs r0 n n b o := by
      intro b o
      have : ¬ Late r0 n n b := by unfold Late; omega
      unfold Lay
      simp [this]
    refine hQ ρ w a ⟨hf.ok, hf.glob, fun t j hj v hv => ?_, fun t ht => hf.un t fun i o hd ho hdst => ?_⟩ (h1.here hro) (h1.goes.congr hlay rfl) h1.hok.ro
    · obtain ⟨k, rfl, h2⟩ := lastIn_some hj
      rw [Nat.zero_add] at hv
      obtain ⟨h3, p, h4, h5⟩ := wsAt_get (by simp [hops]) h2
      rw [sts_nth D k n (by omega) h3, show n - k = n - 1 - k + 1 from by omega] at hv
      exact hf.val (n - 1 - k) p t (hall _ (by omega)) h4 h5 v hv
    · have hi : i < ops.toList.length := (List.getElem?_eq_some_iff.1 ho).1
      have hi : i < n := by simpa [hops] using hi
      have := lastIn_none ht (n - 1 - i)
      rw [wsAt_mem (by simp [hops]) hi ho, hdst] at this
      exact this rfl
  intro fuel
  induction fuel with
  | zero =>
    intro listed ρ w a m hsz hf hh hm e1 last hcnt
    have hall : ∀ i, i < n → dnOf listed i := by
      intro i hi
      have h0 : (List.range n).countP (fun k => !listed.getD k false) = 0 := by omega
      have := List.countP_eq_zero.1 h0 i (List.mem_range.2 hi)
      unfold dnOf
      simpa using this
    refine ⟨?_, fin listed ρ w a m hsz hf hh hm e1 hall⟩
    rw [List.eq_nil_iff_forall_not_mem]
    intro i hi
    obtain ⟨h1, o, h2, _⟩ := mem_ready.1 hi
    have hi' : i < n := by rw [← hops]; exact (Array.getElem?_eq_some_iff.1 h2).1
    have := hall i hi'
    unfold dnOf at this
    simp [hsz, hi'] at h1 this
    rw [h1] at this; cases this
  | succ fuel ih =>
    intro listed ρ w a m hsz hf hh hm e1 last hcnt
    refine ⟨fun hr => fin listed ρ w a m hsz hf hh hm e1 fun i hi => fullIn_done (by rw [hsz, hops]) hr 8 0 hfull (fun j hj => by simp at hj) i (by rw [hops]; exact hi), fun i hi => ?_⟩
    obtain ⟨hun, o, ho, hedge⟩ := mem_ready.1 hi
    have hin : i < n := by rw [← hops]; exact (Array.getElem?_eq_some_iff.1 ho).1
    have hoL : ops.toList[i]? = some o := by rw [Array.getElem?_toList]; exact ho
    have hnd : ¬ dnOf listed i := by
      unfold dnOf
      simp [hsz, hin] at hun ⊢
      exact hun
    have hfacts := F i o hoL
    -- what is surely ahead is done
    have hc : ∀ k, (M.getD i 0).testBit k = true → dnOf listed k := by
      intro k hk
      rw [hfacts.mask] at hk
      obtain ⟨e, he, hb, h1⟩ := maskOf_bits hk
      have hdone : dnOf listed e.on := hedge e (Array.mem_toList_iff.1 he) (binds_any hb)
      rcases h1 with rfl | h1
      · exact hdone
      · refine hf.closed e.on hdone k ?_
        by_cases q : e.on < i
        · rw [List.getD_eq_getElem?_getD, List.getElem?_take_of_lt q] at h1
          rw [List.getD_eq_getElem?_getD]; exact h1
        · rw [List.getD_eq_getElem?_getD, List.getElem?_eq_none (by simp; omega)] at h1
          simp at h1
    obtain ⟨go, hgo, hoi⟩ := hfacts.ins
    rw [Nat.sub_zero] at hoi
    have hS := D.step i _ (Nat.zero_le _) hoi
    have hE : EvR ρ (wsAt ops.toList i) ⟨sts i, fr⟩ a.eval o.op.operands.toList := hf.evR D F (by simp [hn, hops]) hfree hfr hoL hnd hc
    have hset : ∀ k, dnOf (listed.setIfInBounds i true) k ↔ dnOf listed k ∨ k = i := dn_set (by rw [hsz]; exact hin)
    have hcnt' : (List.range n).countP (fun k => !(listed.setIfInBounds i true).getD k false) ≤ fuel := by
      have := countP_lt (p := fun k => !listed.getD k false) (p' := fun k => !(listed.setIfInBounds i true).getD k false) (i := i)
        (fun k hk => by
          simp only [Bool.not_eq_true'] at hk ⊢
          cases q : listed.getD k false with
          | false => rfl
          | true =>
            have := (hset k).2 (.inl q)
            unfold dnOf at this
            rw [this] at hk; cases hk)
        (by unfold dnOf at hnd; simpa using hnd)
        (by have := (hset i).2 (.inr rfl); unfold dnOf at this; rw [this]; rfl) (l := List.range n) (List.mem_range.2 hin)
      omega
    -- whether it is wanted
    have hguard : (Wanted ⟨go, comp c (wsAt ops.toList i) o.op, M.getD i 0⟩ (sts i) → Region.wanted o (yielded ops a.tmps) = true) ∧ (Unwanted ⟨go, comp c (wsAt ops.toList i) o.op, M.getD i 0⟩ (sts i) → Region.wanted o (yielded ops a.tmps) = false) := by
      rcases guardAt_some hgo with ⟨g1, g2⟩ | ⟨gi, want, g1, g2, g3⟩
      · subst g2
        exact ⟨fun _ => by unfold Region.wanted; rw [g1], fun h => h.elim⟩
      · subst g3
        obtain ⟨t, t1, t2⟩ := guardOk_some hfacts.guard g1
        obtain ⟨_, p, p1, p2⟩ := wsAt_get (by simp [hops]; omega) t1
        rw [show i - 1 - (i - 1 - gi) = gi from by omega] at p1
        have hdst : (ops[gi]?).bind (·.dst) = some t := by rw [← Array.getElem?_toList, p1]; exact p2
        have hgm : (M.getD i 0).testBit gi = true := by have := hfacts.gmask; unfold guardMask at this; rw [g1] at this; exact this
        have hslot : ∀ v, nthO (i - 1 - gi) (sts i) = some v → Slot ρ a t v := fun v hv => by
          rw [sts_nth D (i - 1 - gi) i (by omega) (by omega), show i - (i - 1 - gi) = gi + 1 from by omega] at hv
          exact hf.val gi p t (hc gi hgm) p1 p2 v hv
        refine ⟨fun h => ?_, fun h => ?_⟩
        · obtain ⟨v, h1, h2⟩ := (h : ∃ v, nthO (i - 1 - gi) (sts i) = some v ∧ wants v want = true)
          rw [guard_eq g1 hdst (hslot v h1)]; exact h2
        · obtain ⟨v, h1, h2⟩ := (h : ∃ v, nthO (i - 1 - gi) (sts i) = some v ∧ wants v want = false)
          rw [guard_eq g1 hdst (hslot v h1)]; exact h2
    -- what is left to do, behind a step that is no effect
    have next : ∀ (ρ1 : Rho) (w1 : World) (u : Value), Ext' ρ ρ1 → (∀ v, nthO 0 (sts (i + 1)) = some v → VR ρ1 v u) → HeapAt B ρ0 Y0 nx ro w0 fr L sts hs r0 n (dnOf (listed.setIfInBounds i true)) ρ1 w1 m → ¬ EfAt L sts i →
        wpAny P md ops Q fuel (listed.setIfInBounds i true) (a.put o.dst u) w1 := by
      intro ρ1 w1 u he hu hH hne
      exact ih _ ρ1 w1 _ m (by simp [hsz]) (hf.step F hoL hnd hc hset he hu) hH hm (fun j hj => by
        rw [hset, e1 j hj]
        exact ⟨.inl, fun h => h.resolve_right fun e => hne (e ▸ hj)⟩) last hcnt'
    have more := hh.more (dn' := dnOf (listed.setIfInBounds i true)) fun k hk => (hset k).2 (.inl hk)
    have hcl : ∀ k ok, L[k]? = some ok → dnOf listed k → ∀ j, ok.mask.testBit j = true → dnOf listed j := by
      intro k ok hk hd j hj
      have hkn : k < n := by rw [← hn]; exact (List.getElem?_eq_some_iff.1 hk).1
      have hk0 : ops.toList[k]? = some (ops.toList[k]'(by simp [hops]; exact hkn)) := List.getElem?_eq_getElem _
      obtain ⟨go', _, h2⟩ := (F k _ hk0).ins
      rw [Nat.sub_zero, hk] at h2
      cases h2
      exact hf.closed k hd j hj
    unfold wpOp
    simp only [ho]
    generalize hst1 : sts (i + 1) = s1 at hS
    generalize hhs1 : hs (i + 1) = h1 at hS
    cases hS with
    | skip hw =>
      rw [hguard.2 hw]
      simp only [Bool.false_eq_true, if_false]
      exact next ρ w undef (fun _ _ h => h) (fun v hv => by rw [hst1] at hv; cases hv; exact .tup [] [] .nil) more (fun ⟨o', g1, g2⟩ => by rw [hoi] at g1; cases g1; exact wanted_not g2.1 hw)
    | mv hw x hox =>
      rw [hguard.1 hw]
      simp only [if_true]
      left
      obtain ⟨u, h1, h2⟩ := (op_ok T hE (comp_some hox (by intro y h; cases h)) : ∃ u, (∀ w, (execOp a.eval o).run P w = .ok (.value u) w) ∧ ∀ v, x.ev ⟨sts i, fr⟩ = some v → VR ρ v u)
      unfold Oper.wp
      rw [h1 w, Oper.upon_value]
      exact next ρ w u (fun _ _ h => h) (fun v hv => by rw [hst1] at hv; exact h2 v hv) more (fun ⟨o', g1, g2, f, g3⟩ => by rw [hoi] at g1; cases g1; rw [hox] at g3; cases g3)
    | pu hw p v hox hv =>
      rw [hguard.1 hw]
      simp only [if_true]
      left
      obtain ⟨u, h1, h2⟩ := (op_ok T hE (comp_some hox (by intro y h; cases h)) : PuOk P ρ ⟨sts i, fr⟩ (execOp a.eval o) p) v hv w
      unfold Oper.wp
      rw [h1, Oper.upon_value]
      exact next ρ w u (fun _ _ h => h) (fun v' hv' => by rw [hst1] at hv'; cases hv'; exact h2) more (fun ⟨o', g1, g2, f, g3⟩ => by rw [hoi] at g1; cases g1; rw [hox] at g3; cases g3)
    | rd hw r v hox hv =>
      rw [hguard.1 hw]
      simp only [if_true]
      left
      obtain ⟨hh', R', hv'⟩ := read_now (ops := ops) D hn hh hro hm e1 last hoi ⟨hw, hox, hv⟩ hnd hc hcl
      obtain ⟨u, h1, h2⟩ := (op_ok T hE (comp_some hox (by intro y h; cases h)) : RdOk P ρ ⟨sts i, fr⟩ (execOp a.eval o) r) B hh' w R' v hv'
      unfold Oper.wp
      rw [h1, Oper.upon_value]
      exact next ρ w u (fun _ _ h => h) (fun v' hv' => by rw [hst1] at hv'; cases hv'; exact h2) more (fun ⟨o', g1, g2, f, g3⟩ => by rw [hoi] at g1; cases g1; rw [hox] at g3; cases g3)
    | al hw al nm ob hox hv =>
      rw [hguard.1 hw]
      simp only [if_true]
      left
      have ha : AlAt fr L sts i nm ob := ⟨_, hoi, hw, al, hox, hv⟩
      obtain ⟨u, obj, sz, d, h1, h2⟩ := (op_ok T hE (comp_some hox (by intro y h; cases h)) : AlOk P ρ ⟨sts i, fr⟩ (execOp a.eval o) al) nm ob hv w
      have hr : ρ (r0 + i) = none := by
        cases e : ρ (r0 + i) with
        | none => rfl
        | some p => exact absurd (hh.rho i hin (by rw [e]; simp)) hnd
      obtain ⟨h3, h4⟩ := h2 (r0 + i) hr
      obtain ⟨b1, b2⟩ := hh.alloc (sz := sz) (dn' := dnOf (listed.setIfInBounds i true)) (w' := { w with heap := w.heap.push obj, drawn := d }) hin ha hnx hnd (fun k hk => (hset k).2 (.inl hk)) ((hset i).2 (.inr rfl)) rfl (h4 _ (by show (w.heap.push obj)[w.heap.size]? = _; exact Array.getElem?_push_size)) rfl rfl rfl
      unfold Oper.wp
      rw [h1, Oper.upon_value]
      exact next _ _ u b2 (fun v' hv' => by rw [hst1] at hv'; cases hv'; exact h3) b1 ha.notEf
    | ef hw f v h' hox hv =>
      rw [hguard.1 hw]
      simp only [if_true]
      left
      have hE' : EfAt L sts i := ⟨_, hoi, hw, f, hox⟩
      have hbefore : ∀ k, k < i → EfAt L sts k → dnOf listed k := fun k hk ⟨p, hp, hpe⟩ => hc k (D.ee i _ (Nat.zero_le _) hoi ⟨hw, f, hox⟩ k p (Nat.zero_le _) hk hp hpe)
      have hafter : ∀ k, i < k → EfAt L sts k → ¬ dnOf listed k := fun k hk ⟨p, hp, hpe⟩ hd => hnd (hcl k p hp hd i (D.ee k p (Nat.zero_le _) hp hpe i _ (Nat.zero_le _) hk hoi ⟨hw, f, hox⟩))
      have hmi : m ≤ i := by
        rcases Nat.lt_or_ge i m with q | q
        · exact absurd ((e1 i hE').1 q) hnd
        · exact q
      have h0 := hh.to D hn (i - m) (by omega) (fun k hk hk' he => by
        have := (e1 k he).2 (hbefore k (by omega) he)
        omega)
      rw [show m + (i - m) = i from by omega] at h0
      have hgo' := (op_ok T hE (comp_some hox (by intro y h; cases h)) : StepOk P c ρ ⟨sts i, fr⟩ (execOp a.eval o) (.ef f)) B G callF X hF hO hf.glob (hs i) w _ (h0.here hro) hv
      refine hgo' o a Q _ fun u w' hu => ?_
      obtain ⟨v', h'', ρ', m1, m2, m3, m4⟩ := hu
      have := List.mem_singleton.1 m1
      cases this
      have h2 := h0.effect (dn' := dnOf (listed.setIfInBounds i true)) hin hE' hro (fun k hk => (hset k).2 (.inl hk)) (by rw [hhs1]; exact m3) (by rw [hhs1]; exact m4)
      refine ih _ ρ' w' _ (i + 1) (by simp [hsz]) (hf.step F hoL hnd hc hset m4.ext fun x hx => ?_) h2 hin (fun j hj => ?_) (.inr (by simpa using hE')) hcnt'
      · rw [hst1, nthO_zero, orTup_eq] at hx
        cases hx; exact m2
      · rw [hset]
        rcases Nat.lt_trichotomy j i with q | q | q
        · exact ⟨fun _ => .inl (hbefore j q hj), fun _ => by omega⟩
        · exact ⟨fun _ => .inr q, fun _ => by omega⟩
        · exact ⟨fun _ => by omega, fun h => h.elim (fun h => absurd h (hafter j q hj)) fun h => by omega⟩

end
end Go.Am

end
