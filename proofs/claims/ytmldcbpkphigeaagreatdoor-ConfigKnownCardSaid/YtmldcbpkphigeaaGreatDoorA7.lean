/- The small machine is sound; how a row is reached by it. (Part of the proof of a statement about the given program; no condition.) -/
import Derived.Test.YtmldcbpkphigeaaGreatDoorA6
import Derived.Scope
import Derived.Laws.Sem
import Derived.Laws.StructEq
import Derived.ChangeKeysEq
import Derived.Below
import Derived.Lib.Index
import Derived.ProofKit
import Derived.OpenShut
import Derived.LaidMore
import Derived.Stop.LaidErr
set_option linter.unusedVariables false
set_option linter.unusedSimpArgs false
noncomputable section
/- The small machine against the model: regions; code. -/
namespace Go.Am

/-- How code is left, ours and the model's. -/
def ExR : AEx → Exit → Prop
  | .normal, .normal => True
  | .exit id, .exit id' => id' = id
  | .ret, .ret => True
  | _, _ => False

/-- What may come of code. -/
def QOut (B : Base) (N G g : Nat) (ρ0 : Rho) (h0 : Hp) (w0 : World) (outs : List Out) (e : Exit) (a : Act) (w : World) : Prop :=
  ∃ o ∈ outs, ∃ ρ, ExR o.ex e ∧ ActOk N a ∧ GlobR G ρ ∧ FrR g ρ o.fr a ∧ Rel B ρ o.hp w.heap ∧ Goes ρ0 h0 w0 ρ o.hp w

/-- The slots that code looks at elsewhere than where they are written are among these. -/
def CodeFree (g : Nat) : Code → Prop
  | .region _ ops _ => FreeOk g ops.toList []
  | .seq a b => CodeFree g a ∧ CodeFree g b
  | .cond x a b => (∀ t, x = .tmp t → g.testBit t = true) ∧ CodeFree g a ∧ CodeFree g b
  | .block _ b => CodeFree g b
  | .loop b => CodeFree g b
  | .scope b => CodeFree g b
  | _ => True

theorem freeCode_ok : ∀ (code : Code) (g0 : Nat), (∀ u, g0.testBit u = true → (freeCode code g0).testBit u = true) ∧ ∀ g, (∀ u, (freeCode code g0).testBit u = true → g.testBit u = true) → CodeFree g code := by
  intro code
  induction code with
  | region id ops d => intro g0; exact freeOps_ok ops.toList [] g0
  | seq a b iha ihb =>
    intro g0
    obtain ⟨a1, a2⟩ := iha g0
    obtain ⟨b1, b2⟩ := ihb (freeCode a g0)
    exact ⟨fun u hu => b1 u (a1 u hu), fun g hg => ⟨a2 g fun u hu => hg u (b1 u hu), b2 g hg⟩⟩
  | cond x a b iha ihb =>
    intro g0
    obtain ⟨x1, x2⟩ := freeOpds_ok (ws := []) [x] g0
    obtain ⟨a1, a2⟩ := iha (freeOpds [] [x] g0)
    obtain ⟨b1, b2⟩ := ihb (freeCode a (freeOpds [] [x] g0))
    exact ⟨fun u hu => b1 u (a1 u (x1 u hu)), fun g hg => ⟨fun t ht => hg t (b1 t (a1 t (x2 t (by simp [ht]) rfl))), a2 g fun u hu => hg u (b1 u hu), b2 g hg⟩⟩
  | block id b ih => intro g0; exact ih g0
  | loop b ih => intro g0; exact ih g0
  | scope b ih => intro g0; exact ih g0
  | _ => intro g0; exact ⟨fun u hu => hu, fun g _ => trivial⟩

/-! ### What a region leaves -/

def setAll (st : List (Option AVal)) : List (Path × Tmp × Nat) → Fr → Fr
  | [], fr => fr
  | x :: l, fr => setAll st l (Tr.setP (nthO x.2.2 st) x.1 fr)
theorem setAllK_eq {β : Type} (st : List (Option AVal)) : ∀ (l : List (Path × Tmp × Nat)) (fr : Fr) (k : Fr → β), setAllK st l fr k = k (setAll st l fr) := by
  intro l
  induction l with
  | nil => intro fr k; rfl
  | cons x l ih =>
    intro fr k
    obtain ⟨p, t, i⟩ := x
    show Option.rec (motive := fun _ => β) (Tr.setK none p fr fun fr => setAllK st l fr k) (fun v => Tr.setK (some v) p fr fun fr => setAllK st l fr k) (nthO i st) = _
    cases e : nthO i st with
    | none => simp only [Tr.setK_eq, ih, setAll, e]
    | some v => simp only [Tr.setK_eq, ih, setAll, e]

theorem setAll_get {g : Nat} {st : List (Option AVal)} : ∀ (ds : List (Option Tmp)) (i : Nat) (done : List Tmp) (fr : Fr) (t : Tmp), (setAll st (exportsOf g ds i done) fr).get t = if g.testBit t = true ∧ anyN t done = false then (match lastIn t ds i with | some j => nthO j st | none => fr.get t) else fr.get t := by
  intro ds
  induction ds with
  | nil => intro i done fr t; simp [exportsOf, setAll, lastIn]
  | cons d l ih =>
    intro i done fr t
    cases d with
    | none => exact ih (i + 1) done fr t
    | some u =>
      show (setAll st (bif g.testBit u && !anyN u done then (path u, u, i) :: exportsOf g l (i + 1) (u :: done) else exportsOf g l (i + 1) done) fr).get t = if g.testBit t = true ∧ anyN t done = false then (match (bif u.beq t then some i else lastIn t l (i + 1)) with | some j => nthO j st | none => fr.get t) else fr.get t
      by_cases e : u = t
      · subst e
        rw [beqY rfl]
        cases q1 : g.testBit u with
        | false => simp only [Bool.false_and, cond_false]; rw [ih]; simp [q1]
        | true =>
          cases q2 : anyN u done with
          | true => simp only [Bool.not_true, Bool.and_false, cond_false]; rw [ih]; simp [q2]
          | false =>
            simp only [Bool.not_false, Bool.and_true, cond_true, setAll]
            rw [ih]
            have : anyN u (u :: done) = true := by simp [anyN, beqY]
            simp only [this, q1, Bool.true_eq_false, and_false, if_false, and_self, if_true]
            show (Tr.set fr u (nthO i st)).get u = _
            rw [Tr.get_set, if_pos rfl]
      · have hb : u.beq t = false := beqN e
        rw [hb]
        simp only [cond_false]
        cases q1 : g.testBit u && !anyN u done with
        | false => simp only [cond_false]; exact ih (i + 1) done fr t
        | true =>
          simp only [cond_true, setAll]
          rw [ih]
          have h1 : anyN t (u :: done) = anyN t done := by simp only [anyN]; rw [hb]; rfl
          have h2 : Tr.get (Tr.setP (nthO i st) (path u) fr) t = fr.get t := by
            show (Tr.set fr u (nthO i st)).get t = _
            rw [Tr.get_set, if_neg (Ne.symm e)]
          rw [h1, h2]

section
variable {P : Program} {c : Cx} {B : Base} {N G g : Nat}

/-- What is asked of a machine that runs code. -/
def Sound (P : Program) (B : Base) (self : RunF) : Prop :=
  ∀ (g : Nat) (code : Code) (fr : Fr) (h : Hp) (outs : List Out), self g code fr h = .ok outs → ∀ (N G : Nat), codeOk N G code = true → CodeFree g code → ∀ (ρ : Rho) (w : World) (a : Act), ActOk N a → GlobR G ρ → FrR g ρ fr a → Rel B ρ h w.heap → code.wp P (QOut B N G g ρ h w outs) a w

theorem outs_of {fr : Fr} {ops : Array Oper} {ρ0 ρ : Rho} {h0 h : Hp} {w0 w : World} {a0 a : Act} {st : St} (hfr : FrR g ρ0 fr a0) (e : Ext' ρ0 ρ) (hS : SInv N G a0 ρ ((ops.toList.map (·.dst)).reverse) st a) (R : Rel B ρ h w.heap) (Gs : Goes ρ0 h0 w0 ρ h w) {outs : List Out} (hm : (⟨.normal, setAll st (exportsOf g (dstsOf ops) 0 []) fr, h⟩ : Out) ∈ outs) :
    QOut B N G g ρ0 h0 w0 outs .normal a w := by
  refine ⟨_, hm, ρ, trivial, hS.ok, hS.glob, fun t ht v hv => ?_, R, Gs⟩
  rw [setAll_get, if_pos ⟨ht, rfl⟩] at hv
  have hd : dstsOf ops = (ops.toList.map (·.dst)).reverse := rfl
  rw [hd] at hv
  cases q : lastIn t ((ops.toList.map (·.dst)).reverse) 0 with
  | some j => rw [q] at hv; exact hS.wr t j q v hv
  | none =>
    rw [q] at hv
    obtain ⟨u, h1, h2⟩ := hfr t ht v hv
    exact ⟨u, by rw [hS.un t q]; exact h1, h2.ext e⟩

theorem region_ok (T : Ties P c) (X : Ties2 P c B G) {self : RunF} (hF : FnOk P B G (callStep c self)) (hO : ∀ f args h outs, callStep c self f args h = .ok outs → OwnFn P f) {id : Nat} {ops : Array Oper} {draw : Bool} {fr : Fr} {h : Hp} {outs : List Out} {ρ : Rho} {w : World} {a : Act}
    (hr : cdRegion id ops draw c self g fr h = .ok outs) (hk : codeOk N G (.region id ops draw) = true) (hfree : CodeFree g (.region id ops draw)) (ha : ActOk N a) (hG : GlobR G ρ) (hfr : FrR g ρ fr a) (R : Rel B ρ h w.heap) : (Code.region id ops draw).wp P (QOut B N G g ρ h w outs) a w := by
  unfold cdRegion at hr
  cases hp : prep c ops draw with
  | none => rw [hp] at hr; cases hr
  | some l =>
    rw [hp] at hr
    simp only at hr
    obtain ⟨l', h1, h2⟩ := Am.R.bind_ok hr
    have hout : ∀ st h', (st, h') ∈ l' → (⟨.normal, setAll st (exportsOf g (dstsOf ops) 0 []) fr, h'⟩ : Out) ∈ outs := by
      intro st h' hm
      obtain ⟨x, hx, hb⟩ := h2 (st, h') hm
      simp only [on2, setAllK_eq] at hx
      cases hx
      exact hb _ (List.mem_singleton.2 rfl)
    cases draw with
    | false =>
      simp only [cond_false] at h1
      have hk : seqOk N G ops.toList 0 [] = true := hk
      refine wp_region ?_
      rw [List.range_eq_range']
      have := seq_ops (N := N) (G := G) (g := g) (a0 := a) T X hF hO (ops := ops) (Q := QOut B N G g ρ h w outs) (h0 := h) (w0 := w) hfr ops.toList [] [] l [] h l' ρ w a rfl rfl hk hfree hp h1 ⟨ha, hG, (fun t j hj => by cases hj), fun _ _ => rfl⟩ R (Goes.refl _ _ _)
        (fun st' h' ρ' w' a' hm hS R' Gs => outs_of hfr Gs.ext hS R' Gs (hout st' h' hm))
      simpa using this
    | true =>
      obtain ⟨t, n0, ro⟩ := h
      simp only [cond_true, onHp, forceN_eq] at h1
      have hk : (drawOk N G ops.toList 0 [] [] [] && (fullIn .any ops.toList 8 0 && (!Region.departs ops || (fullIn .text ops.toList 8 0 && fullIn .gc ops.toList 8 0)))) = true := hk
      simp only [Bool.and_eq_true, Bool.or_eq_true, Bool.not_eq_true'] at hk
      obtain ⟨k1, k2, k3⟩ := hk
      obtain ⟨M, _, _, m3, F⟩ := draw_facts (c := c) (N := N) (G := G) (L0 := ops.toList) ops.toList [] [] [] l rfl rfl (fun j p hj => by simp at hj) k1 hp
      have F : ∀ k o, ops.toList[k]? = some o → OpFacts c N G ops.toList l 0 M k o := fun k o ho => F k o (Nat.zero_le _) ho
      have hfr' := FreeOk.at (g := g) (L0 := ops.toList) (l := ops.toList) (pre := []) rfl hfree
      have hl : l.length = ops.size := by rw [m3]; simp
      obtain ⟨sts, hs, s1, s2, D, s3⟩ := draw_trace (L := l) l 0 [] ⟨t, Nat.add n0 ops.size, ro⟩ [] [] l' h1 (by simp) (by simp)
      subst s3
      have hro : ro ≤ n0 := R.roLe
      -- the order is one of these
      have main : ∀ md, fullIn md ops.toList 8 0 = true → wpAny P md ops (QOut B N G g ρ ⟨t, n0, ro⟩ w outs) ops.size (Array.replicate ops.size false) a { w with drawn := w.drawn + 1 } := by
        intro md hmd
        have nod : ∀ k, ¬ dnOf (Array.replicate ops.size false) k := by
          intro k hk
          unfold dnOf at hk
          by_cases q : k < ops.size <;> simp [q] at hk
        have hget : ∀ b, (hs 0).get b = (⟨t, n0, ro⟩ : Hp).get b := fun b => by rw [s2]; rfl
        have hfresh : ∀ b, n0 ≤ b → ρ b = none ∧ (⟨t, n0, ro⟩ : Hp).get b = none := R.fresh
        have hlay : ∀ b o, Lay fr l sts hs n0 ops.size 0 b o → b < n0 → (⟨t, n0, ro⟩ : Hp).get b = some o := by
          intro b o hb hlt
          rcases hb with ⟨l1, _⟩ | ⟨_, l2⟩
          · unfold Late at l1; omega
          · rw [hget] at l2; exact l2
        have hlay' : ∀ b o, b < n0 → ((⟨t, n0, ro⟩ : Hp).get b = some o ↔ Lay fr l sts hs n0 ops.size 0 b o) := fun b o hlt =>
          ⟨fun hb => .inr ⟨by unfold Late; omega, by rw [hget]; exact hb⟩, fun hb => hlay b o hb hlt⟩
        have hnext : (hs 0).next = n0 + ops.size := by rw [s2]; rfl
        refine draw_ops (nx := n0) (ro := ro) (ρ0 := ρ) (Y0 := fun b o => (⟨t, n0, ro⟩ : Hp).get b = some o) (w0 := w) (r0 := n0) (a0 := a) (fr := fr) (L := l) (sts := sts) (hs := hs) (M := M) T X hF hO rfl D hl F (fun k o ho => hfr' k o (Nat.zero_le _) ho) hfr hmd hro (Nat.le_refl _) ?_ ops.size _ ρ _ a 0 (by simp) ?_ ?_ (Nat.zero_le _) ?_ (.inl rfl) ?_
        · -- behind it
          intro ρ' w' a' hS R' Gs hro'
          have hw : wsAt ops.toList ops.size = (ops.toList.map (·.dst)).reverse := by unfold wsAt; rw [List.take_of_length_le (by simp)]
          rw [hw] at hS
          have hlen : l.length = ops.size := hl
          have hmem := hout (sts l.length) (hs l.length) (List.mem_singleton.2 rfl)
          rw [hlen] at hmem
          refine outs_of hfr Gs.ext hS R' ?_ hmem
          refine ⟨Gs.ext, fun b hb he => ⟨(Gs.old b hb he).1, ?_⟩, Gs.nexts, hro', fun b hb => ?_, Gs.img, Gs.size, Gs.frame, Gs.os, Gs.tape, Gs.output, fun b hb he => ?_⟩
          · exact Option.ext fun o => (Gs.old b hb he).2 o
          · exact Option.ext fun o => Gs.roKept b hb o
          · cases q : (hs ops.size).get b with
            | none => rfl
            | some o => exact absurd q (Gs.dead b hb (fun o ho => by rw [he] at ho; cases ho) o)
        · exact ⟨ha, hG, fun i hi => absurd hi (nod i), fun i o t hi => absurd hi (nod i), fun t _ => rfl, fun _ _ h => h⟩
        · refine ⟨⟨?_, ?_, ?_, ?_, R.dom, R.low, R.kept, ?_⟩, ⟨fun _ _ h => h, ?_, ?_, ?_, ?_, Nat.le_refl _, fun _ _ _ => rfl, rfl, rfl, rfl, ?_⟩, ⟨?_, ?_, ?_, ?_⟩, fun i nm ob hi => by omega, ?_⟩
          · intro b o p hb hp
            have hlt : b < n0 := by
              by_cases q : b < n0
              · exact q
              · rw [(hfresh b (by omega)).1] at hp; cases hp
            exact R.obj b o p (hlay b o hb hlt) hp
          · intro b o p hb hp hw
            have hlt : b < n0 := by
              by_cases q : b < n0
              · exact q
              · rw [(hfresh b (by omega)).1] at hp; cases hp
            exact R.base b o p (hlay b o hb hlt) hp hw
          · intro b b' o o' p p' hb hb' hp hp' e
            have hlt : ∀ b p, ρ b = some p → b < n0 := by
              intro b p hp
              by_cases q : b < n0
              · exact q
              · rw [(hfresh b (by omega)).1] at hp; cases hp
            exact R.inj b b' o o' p p' (hlay b o hb (hlt b p hp)) (hlay b' o' hb' (hlt b' p' hp')) hp hp' e
          · intro b hb; rw [hnext] at hb; exact (hfresh b (by omega)).1
          · intro b o p hb hp hw
            have hlt : b < n0 := by
              by_cases q : b < n0
              · exact q
              · rw [(hfresh b (by omega)).1] at hp; cases hp
            exact R.nw b o p (hlay b o hb hlt) hp hw
          · intro b hb he; exact ⟨he, fun o => (hlay' b o hb).symm⟩
          · rw [hnext]; omega
          · intro b hb o; exact (hlay' b o (by omega)).symm
          · intro b o p hb hw hp _
            have hlt : b < n0 := by
              by_cases q : b < n0
              · exact q
              · rw [(hfresh b (by omega)).1] at hp; cases hp
            exact ⟨b, o, p, hlay b o hb hlt, hw, hp, rfl⟩
          · intro b hb hno o ho; exact hno o (hlay b o ho hb)
          · intro b hb; rw [hnext] at hb; rw [hget]; exact (hfresh b (by omega)).2
          · rw [s2]
          · rw [hnext]; exact Nat.le_refl _
          · intro i _ _; rw [hget]; exact (hfresh _ (by omega)).2
          · intro k _ hk; exact absurd (hfresh _ (by omega)).1 hk
        · intro i _; exact ⟨fun h => by omega, fun h => absurd h (nod i)⟩
        · refine Nat.le_trans List.countP_le_length (by simp)
      refine wp_region_draw fun tt => ?_
      unfold Region.schedule
      cases q : P.follows .mixedOrders || !Region.departs ops with
      | true => rw [if_pos rfl]; exact wpAny_sound ops.size tt _ a _ (main .any k2)
      | false =>
        rw [if_neg (by simp)]
        have hd : Region.departs ops = true := by
          cases hd : Region.departs ops with
          | true => rfl
          | false => rw [hd] at q; simp at q
        obtain ⟨k4, k5⟩ := k3.resolve_left (by rw [hd]; simp)
        by_cases ht : tt % 2 == 0
        · rw [if_pos ht]; exact wpAny_sound ops.size _ _ a _ (main .text k4)
        · rw [if_neg ht]; exact wpAny_sound ops.size _ _ a _ (main .gc k5)

end
end Go.Am

/- The small machine against the model: code, functions, the machine whole. -/
namespace Go.Am

section
variable {P : Program} {c : Cx} {B : Base} {N G g : Nat}

/-- A loop from its second round on. -/
def LoopWp (P : Program) (c : Code) (Q : Exit → Act → World → Prop) (a : Act) (w : World) : Prop :=
  ∀ (b : Frame) (k : List Item) (cs : List Frame), ∃ e a' w', Q e a' w' ∧ Arrives P (lone (b.at a (.code c :: .inLoop c :: k)) cs w) b k cs e a' w'

def CodeWp (P : Program) (code : Code) (Q : Exit → Act → World → Prop) (a : Act) (w : World) : Prop :=
  match code with
  | .loop c => LoopWp P c Q a w
  | code => code.wp P Q a w

theorem LoopWp.wp {code : Code} {Q : Exit → Act → World → Prop} {a : Act} {w : World} (h : LoopWp P code Q a w) : (Code.loop code).wp P Q a w := by
  intro b k cs
  obtain ⟨e, a', w', hq, harr⟩ := h b k cs
  exact ⟨e, a', w', hq, .of_steps (.one step_loop) harr⟩

theorem CodeWp.wp {code : Code} {Q : Exit → Act → World → Prop} {a : Act} {w : World} (h : CodeWp P code Q a w) : code.wp P Q a w := by
  cases code <;> first | exact h | exact LoopWp.wp h

theorem LoopWp.round {code : Code} {Q : Exit → Act → World → Prop} {a : Act} {w : World} (h : code.wp P (Exit.then (LoopWp P code Q) Q) a w) : LoopWp P code Q a w := by
  intro b k cs
  obtain ⟨e, a₁, w₁, hq, harr⟩ := h b (.inLoop code :: k) cs
  cases e with
  | normal =>
    obtain ⟨e₂, a₂, w₂, hq₂, harr₂⟩ := hq b k cs
    exact ⟨e₂, a₂, w₂, hq₂, .of_steps (Steps.trans harr (.one step_inLoop)) harr₂⟩
  | exit id => exact ⟨_, a₁, w₁, hq, .pass (x := .inLoop code) rfl (fun _ _ => .inl (by simp)) harr⟩
  | goto l => exact ⟨_, a₁, w₁, hq, .pass (x := .inLoop code) rfl (fun _ _ => .inl (by simp)) harr⟩
  | ret => exact ⟨_, a₁, w₁, hq, .pass (x := .inLoop code) rfl (fun _ _ => .inl (by simp)) harr⟩
  | panic ch => exact ⟨_, a₁, w₁, hq, .pass (x := .inLoop code) rfl (fun _ _ => .inl (by simp)) harr⟩
  | outgrown => exact ⟨_, a₁, w₁, hq, .pass (x := .inLoop code) rfl (fun _ _ => .inl (by simp)) harr⟩

theorem LoopWp.mono {code : Code} {Q Q' : Exit → Act → World → Prop} {a : Act} {w : World} (h : LoopWp P code Q a w) (hq : ∀ e a w, Q e a w → Q' e a w) : LoopWp P code Q' a w :=
  fun b k cs => let ⟨e, a', w', q, r⟩ := h b k cs; ⟨e, a', w', hq _ _ _ q, r⟩

/-- A machine that runs code is sound. -/
def SoundR (P : Program) (B : Base) (G : Nat) (self : RunF) : Prop :=
  ∀ (g : Nat) (code : Code) (fr : Fr) (h : Hp) (outs : List Out), self g code fr h = .ok outs → ∀ (N : Nat), codeOk N G code = true → CodeFree g code → ∀ (ρ : Rho) (w : World) (a : Act), ActOk N a → GlobR G ρ → FrR g ρ fr a → Rel B ρ h w.heap → CodeWp P code (QOut B N G g ρ h w outs) a w

theorem QOut.trans {ρ ρ1 : Rho} {h h1 : Hp} {w w1 : World} {outs outs1 : List Out} (G1 : Goes ρ h w ρ1 h1 w1) (hs : ∀ o ∈ outs1, o ∈ outs) {e : Exit} {a : Act} {w2 : World} (hq : QOut B N G g ρ1 h1 w1 outs1 e a w2) : QOut B N G g ρ h w outs e a w2 := by
  obtain ⟨o, m, ρ2, q1, q2, q3, q4, q5, q6⟩ := hq
  exact ⟨o, hs o m, ρ2, q1, q2, q3, q4, q5, G1.trans q6⟩

/-! ### Functions -/

structure Ties3 (c : Cx) (G : Nat) : Prop where
  code : ∀ f fn code, c.fns.get f = some fn → fn.body = some code → codeOk fn.ntmps G code = true

theorem freeRes_ok : ∀ (l : List ResultVar) (g0 : Nat), (∀ u, g0.testBit u = true → (freeRes l g0).testBit u = true) ∧ (∀ t, ResultVar.tmp t ∈ l → (freeRes l g0).testBit t = true) ∧ ∀ t ty, ResultVar.cell t ty ∈ l → (freeRes l g0).testBit t = true := by
  intro l
  induction l with
  | nil => intro g0; exact ⟨fun u hu => hu, fun t h => by simp at h, fun t ty h => by simp at h⟩
  | cons r l ih =>
    intro g0
    cases r with
    | tmp t =>
      obtain ⟨h1, h2, h3⟩ := ih (g0.lor (2 ^ t))
      refine ⟨fun u hu => h1 u (by rw [bit_or, hu]; rfl), fun u hu => ?_, fun u ty hu => ?_⟩
      · rcases List.mem_cons.1 hu with e | hu
        · cases e; exact h1 _ (by rw [bit_or]; simp)
        · exact h2 u hu
      · rcases List.mem_cons.1 hu with e | hu
        · cases e
        · exact h3 u ty hu
    | cell t ty' =>
      obtain ⟨h1, h2, h3⟩ := ih (g0.lor (2 ^ t))
      refine ⟨fun u hu => h1 u (by rw [bit_or, hu]; rfl), fun u hu => ?_, fun u ty hu => ?_⟩
      · rcases List.mem_cons.1 hu with e | hu
        · cases e
        · exact h2 u hu
      · rcases List.mem_cons.1 hu with e | hu
        · cases e; exact h1 _ (by rw [bit_or]; simp)
        · exact h3 u ty hu

/-- The model's results. -/
def resOne (tmps : Array Value) : ResultVar → Sem Value
  | .tmp t => pure (tmps.getD t undef)
  | .cell a t => do loadVar t (← asAddr (tmps.getD a undef))

theorem resVal_ok (T : Ties P c) {ρ : Rho} {fr : Fr} {h : Hp} {w : World} {a : Act} {r : ResultVar} {v : AVal} (hv : resVal c fr h r = some v) (ha : FrR g ρ fr a) (R : Rel B ρ h w.heap) (h1 : ∀ t, r = .tmp t → g.testBit t = true) (h2 : ∀ t ty, r = .cell t ty → g.testBit t = true) :
    ∃ u, (resOne a.tmps r).run P w = .ok u w ∧ VR ρ v u := by
  cases r with
  | tmp t =>
    obtain ⟨u, q1, q2⟩ := ha t (h1 t rfl) v hv
    exact ⟨u, by show Sem.run P (pure (a.tmps.getD t undef)) w = _; simp [q1], q2⟩
  | cell t ty =>
    obtain ⟨gg, e1, e2⟩ := ob_some (show ob (c.agg ty) (fun g => ob (c.size ty) fun n => bif g then rdLoadN n (.tmp (path t) t) ⟨[], fr⟩ h else rdLoad1 (.tmp (path t) t) ⟨[], fr⟩ h) = some v from hv)
    obtain ⟨n, e3, e4⟩ := ob_some e2
    have hc : cpLoad ty (.tmp t) c [] = some (.rd (bif gg then .loadN n (.tmp (path t) t) else .load1 (.tmp (path t) t))) := by
      show ob (c.agg ty) (fun g => ob (c.size ty) fun n => ob (some (AOpd.tmp (path t) t)) fun a => some (AOp.rd (bif g then .loadN n a else .load1 a))) = _
      rw [e1]
      show ob (c.size ty) _ = _
      rw [e3]; rfl
    have hE : EvR ρ [] ⟨[], fr⟩ a.eval [.tmp t] := by
      intro x hx y hy v' hv'
      have : x = .tmp t := by simpa using hx
      subst this
      cases hy
      obtain ⟨u, q1, q2⟩ := ha t (h2 t ty rfl) v' hv'
      have : a.eval (.tmp t) = u := by simp [Act.eval, q1]
      rw [this]; exact q2
    have hok := cpLoad_ok T hE hc
    have hev : Rd.ev (bif gg then .loadN n (.tmp (path t) t) else .load1 (.tmp (path t) t)) ⟨[], fr⟩ h = some v := by cases gg <;> exact e4
    obtain ⟨u, q1, q2⟩ := hok B h w R v hev
    refine ⟨u, ?_, q2⟩
    have : (Instr.loadAt ty (a.eval (.tmp t))).run P w = .ok u w := by
      have q1 : Sem.run P (Instr.loadAt ty (a.eval (.tmp t)) >>= fun x => pure (Next.value x)) w = .ok (.value u) w := q1
      rw [run_bind] at q1
      cases hq : (Instr.loadAt ty (a.eval (.tmp t))).run P w with
      | halt hh ww => rw [hq] at q1; cases q1
      | ok x ww => rw [hq] at q1; cases q1; rfl
    have hp : ∃ b o, (AOpd.tmp (path t) t).ev ⟨[], fr⟩ = some (.ptr b o) := by
      cases gg with
      | true =>
        obtain ⟨x, x1, x2⟩ := ob_some (show rdLoadN n (.tmp (path t) t) ⟨[], fr⟩ h = some v from e4)
        obtain ⟨b, o, x3, x4⟩ := ob2_some x2
        exact ⟨b, o, by rw [x1, asPtr_some x3]⟩
      | false =>
        obtain ⟨x, x1, x2⟩ := ob_some (show rdLoad1 (.tmp (path t) t) ⟨[], fr⟩ h = some v from e4)
        obtain ⟨b, o, x3, x4⟩ := ob2_some x2
        exact ⟨b, o, by rw [x1, asPtr_some x3]⟩
    obtain ⟨b, o, hp⟩ := hp
    have hR := hE.at (List.mem_singleton.2 rfl) (show ofOpd [] (.tmp t) = some (AOpd.tmp (path t) t) from rfl) hp
    obtain ⟨cb, sz, hu, _⟩ := vr_ptr hR
    rw [hu] at this
    have hu' : a.tmps.getD t undef = .pointer (some ⟨cb, o, none⟩) := hu
    show Sem.run P (asAddr (a.tmps.getD t undef) >>= fun x => loadVar ty x) w = _
    rw [hu']
    exact this

theorem resVals_ok (T : Ties P c) {ρ : Rho} {fr : Fr} {h : Hp} {w : World} {a : Act} (ha : FrR g ρ fr a) (R : Rel B ρ h w.heap) : ∀ (l : List ResultVar) (vs : List AVal), resVals c fr h l = some vs → (∀ t, ResultVar.tmp t ∈ l → g.testBit t = true) → (∀ t ty, ResultVar.cell t ty ∈ l → g.testBit t = true) →
    ∃ us, (l.mapM (resOne a.tmps)).run P w = .ok us w ∧ VRs ρ vs us := by
  intro l
  induction l with
  | nil => intro vs hv _ _; cases hv; exact ⟨[], rfl, .nil⟩
  | cons r l ih =>
    intro vs hv h1 h2
    obtain ⟨v, e1, e2⟩ := ob_some (show ob (resVal c fr h r) (fun v => ob (resVals c fr h l) fun vs => some (v :: vs)) = some vs from hv)
    obtain ⟨vs', e3, e4⟩ := ob_some e2
    cases e4
    obtain ⟨u, q1, q2⟩ := resVal_ok T e1 ha R (fun t ht => h1 t (by simp [ht])) (fun t ty ht => h2 t ty (by simp [ht]))
    obtain ⟨us, q3, q4⟩ := ih vs' e3 (fun t ht => h1 t (by simp [ht])) (fun t ty ht => h2 t ty (by simp [ht]))
    refine ⟨u :: us, ?_, .cons _ _ _ _ q2 q4⟩
    rw [List.mapM_cons, run_ok q1, run_ok q3]
    rfl

theorem results_ok (T : Ties P c) {ρ : Rho} {fr : Fr} {h : Hp} {w : World} {a : Act} {fn : Func} {v : AVal} (ha : FrR g ρ fr a) (R : Rel B ρ h w.heap) (hv : resultOf c fn fr h = some v) (h1 : ∀ t, ResultVar.tmp t ∈ fn.results.toList → g.testBit t = true) (h2 : ∀ t ty, ResultVar.cell t ty ∈ fn.results.toList → g.testBit t = true) :
    ∃ u, (results fn a.tmps).run P w = .ok u w ∧ VR ρ v u := by
  obtain ⟨vs, e1, e2⟩ := ob_some hv
  cases e2
  obtain ⟨us, q1, q2⟩ := resVals_ok T ha R _ vs e1 h1 h2
  have hm : (fn.results.mapM (resOne a.tmps)).run P w = .ok ⟨us⟩ w := by
    rw [Array.mapM_eq_mapM_toList]
    show Sem.run P (List.toArray <$> (fn.results.toList.mapM (resOne a.tmps))) w = _
    rw [map_eq_pure_bind, run_ok q1]
    rfl
  have hres : results fn a.tmps = (fn.results.mapM (resOne a.tmps) >>= fun vs => pure (if h : vs.size = 1 then vs[0] else .tuple vs)) := by
    unfold results
    congr 1
  rw [hres, run_ok hm]
  cases q2 with
  | nil => exact ⟨_, rfl, .tup _ _ .nil⟩
  | cons x u xs us hx hs =>
    cases hs with
    | nil => exact ⟨u, rfl, hx⟩
    | cons y u' ys us' hy hs => exact ⟨_, rfl, .tup _ _ (.cons _ _ _ _ hx (.cons _ _ _ _ hy hs))⟩

theorem callStep_own (X : Ties2 P c B G) {self : RunF} : ∀ f args h outs, callStep c self f args h = .ok outs → OwnFn P f := by
  intro f args h outs hc
  unfold callStep at hc
  cases h1 : c.fns.get f with
  | none => rw [h1] at hc; cases hc
  | some fn =>
    rw [h1] at hc
    simp only at hc
    cases h2 : fn.body with
    | none => rw [h2] at hc; cases hc
    | some body => exact X.own f fn body h1 h2

theorem callStep_ok (T : Ties P c) (Z : Ties3 c G) {self : RunF} (hS : SoundR P B G self) : FnOk P B G (callStep c self) := by
  intro f args h outs hc ρ w us hG R hv
  unfold callStep at hc
  cases h1 : c.fns.get f with
  | none => rw [h1] at hc; cases hc
  | some fn =>
    rw [h1] at hc
    simp only at hc
    cases h2 : fn.body with
    | none => rw [h2] at hc; cases hc
    | some body =>
      rw [h2] at hc
      simp only at hc
      cases h3 : args.length.ble fn.ntmps with
      | false => rw [h3] at hc; cases hc
      | true =>
        rw [h3] at hc
        simp only [cond_true, forceN_eq, Tr.ofK_eq] at hc
        have hlen : args.length ≤ fn.ntmps := Nat.le_of_ble_eq_true h3
        cases h4 : self (globOf fn body) body (Tr.ofFrom args 0 .leaf) h with
        | no why => rw [h4] at hc; cases hc
        | ok l =>
          rw [h4] at hc
          simp only at hc
          obtain ⟨l', e1, e2⟩ := Am.R.bind_ok hc
          cases e1
          have hl := hv.length
          have hfree : CodeFree (globOf fn body) body := (freeCode_ok body 0).2 _ fun u hu => (freeRes_ok _ _).1 u hu
          let a : Act := { tmps := (⟨us⟩ : Array Value) ++ Array.replicate (fn.ntmps - (⟨us⟩ : Array Value).size) undef, defers := [] }
          have hact : ActOk fn.ntmps a := ⟨by simp [a]; omega, rfl⟩
          have hfr : FrR (globOf fn body) ρ (Tr.ofFrom args 0 .leaf) a := by
            intro t _ v hvv
            rw [Tr.get_ofFrom] at hvv
            by_cases q : 0 ≤ t ∧ t < 0 + args.length
            · rw [if_pos q] at hvv
              rw [Nat.sub_zero] at hvv
              obtain ⟨u, q1, q2⟩ := hv.get t v hvv
              refine ⟨u, ?_, q2⟩
              have : t < us.length := by omega
              simp only [a]
              rw [Array.getElem?_append_left (by simpa using this)]
              simpa using q1
            · rw [if_neg q, Tr.get_leaf] at hvv; cases hvv
          have hw := (hS _ body _ h l h4 fn.ntmps (Z.code f fn body h1 h2) hfree ρ w a hact hG hfr R).wp
          refine calls_of_wp (T.fns f fn h1) h2 (wp_mono hw fun e a' w' hq => ?_)
          obtain ⟨o, m, ρ', q1, q2, q3, q4, q5, q6⟩ := hq
          obtain ⟨ex, fr', hp'⟩ := o
          obtain ⟨x, x1, x2⟩ := e2 _ m
          have done : ∀ v, resultOf c fn fr' hp' = some v → (∀ r ∈ [(v, hp')], r ∈ outs) → a'.defers = [] ∧ ∃ u, (results fn a'.tmps).run P w' = .ok u w' ∧ Ends (ResV B ρ h w outs) (.returned u) w' := by
            intro v hvv hm
            obtain ⟨u, z1, z2⟩ := results_ok T q4 q5 hvv (fun t ht => (freeRes_ok _ _).2.1 t ht) (fun t ty ht => (freeRes_ok _ _).2.2 t ty ht)
            exact ⟨q2.defers, u, z1, v, hp', ρ', hm _ (List.mem_singleton.2 rfl), z2, q5, q6⟩
          cases ex with
          | normal =>
            have x1 : Option.casesOn (motive := fun _ => Am.R (AVal × Hp)) (resultOf c fn fr' hp') (.no "results") (fun v => .ok [(v, hp')]) = .ok x := x1
            cases hq : resultOf c fn fr' hp' with
            | none => rw [hq] at x1; cases x1
            | some v =>
              rw [hq] at x1; cases x1
              cases e <;> first | exact q1.elim | exact done v hq x2
          | ret =>
            have x1 : Option.casesOn (motive := fun _ => Am.R (AVal × Hp)) (resultOf c fn fr' hp') (.no "results") (fun v => .ok [(v, hp')]) = .ok x := x1
            cases hq : resultOf c fn fr' hp' with
            | none => rw [hq] at x1; cases x1
            | some v =>
              rw [hq] at x1; cases x1
              cases e <;> first | exact q1.elim | exact done v hq x2
          | exit id => cases x1

theorem stepRun_ok (T : Ties P c) (X : Ties2 P c B G) (Z : Ties3 c G) {self : RunF} (hS : SoundR P B G self) : SoundR P B G (stepRun c self) := by
  intro g code fr h outs hr N hk hfree ρ w a ha hG hfr R
  have hF := callStep_ok T Z hS
  have hr : codeStep code c self g fr h = .ok outs := hr
  -- how a piece goes on
  have seqs : ∀ {x : Code} {l : List Out} {Q' : Act → World → Prop}, (∀ o ∈ l, ∃ y, (∀ id, o.ex = .exit id → y = [o]) ∧ (o.ex = .ret → y = [o]) ∧ (∀ r ∈ y, r ∈ outs) ∧ ∀ ρ1 a1 w1, o.ex = .normal → ActOk N a1 → GlobR G ρ1 → FrR g ρ1 o.fr a1 → Rel B ρ1 o.hp w1.heap → Goes ρ h w ρ1 o.hp w1 → Q' a1 w1) →
      ∀ e a1 w1, QOut B N G g ρ h w l e a1 w1 → Exit.then Q' (QOut B N G g ρ h w outs) e a1 w1 := by
    intro x l Q' hl e a1 w1 hq
    obtain ⟨o, m, ρ1, q1, q2, q3, q4, q5, q6⟩ := hq
    obtain ⟨y, y1, y2, y3, y4⟩ := hl o m
    obtain ⟨ex, fr', hp'⟩ := o
    cases ex with
    | normal => cases e <;> first | exact q1.elim | exact y4 ρ1 a1 w1 rfl q2 q3 q4 q5 q6
    | exit id => cases e <;> first | exact q1.elim | exact ⟨_, y3 _ (by rw [y1 id rfl]; exact List.mem_singleton.2 rfl), ρ1, q1, q2, q3, q4, q5, q6⟩
    | ret => cases e <;> first | exact q1.elim | exact ⟨_, y3 _ (by rw [y2 rfl]; exact List.mem_singleton.2 rfl), ρ1, q1, q2, q3, q4, q5, q6⟩
  cases code with
  | skip =>
    cases hr
    exact wp_skip ⟨_, List.mem_singleton.2 rfl, ρ, trivial, ha, hG, hfr, R, Goes.refl _ _ _⟩
  | region id ops draw => exact region_ok T X hF (callStep_own X) hr hk hfree ha hG hfr R
  | seq x y =>
    have hk : (codeOk N G x && codeOk N G y) = true := hk
    simp only [Bool.and_eq_true] at hk
    obtain ⟨l, h1, h2⟩ := Am.R.bind_ok (show (self g x fr h).bind (thenRun self g y) = .ok outs from hr)
    refine wp_seq (wp_mono (hS g x fr h l h1 N hk.1 hfree.1 ρ w a ha hG hfr R).wp (seqs (x := x) fun o m => ?_))
    obtain ⟨z, z1, z2⟩ := h2 o m
    obtain ⟨ex, fr', hp'⟩ := o
    cases ex with
    | normal => exact ⟨z, (fun id e => by cases e), (fun e => by cases e), z2, fun ρ1 a1 w1 _ q2 q3 q4 q5 q6 => wp_mono (hS g y fr' hp' z z1 N hk.2 hfree.2 ρ1 w1 a1 q2 q3 q4 q5).wp fun e a2 w2 hq => hq.trans q6 z2⟩
    | exit id => cases z1; exact ⟨_, fun _ _ => rfl, fun _ => rfl, z2, (fun _ _ _ e => by cases e)⟩
    | ret => cases z1; exact ⟨_, fun _ _ => rfl, fun _ => rfl, z2, (fun _ _ _ e => by cases e)⟩
  | cond x y z =>
    have hk : (globsOk G [x] && (codeOk N G y && codeOk N G z)) = true := hk
    simp only [Bool.and_eq_true] at hk
    obtain ⟨f1, f2, f3⟩ := hfree
    have hr : Option.casesOn (motive := fun _ => Am.R Out) (ob (ofOpd [] x) fun x => ob (x.ev ⟨[], fr⟩) asBool) (.no "cond") (fun t => Bool.casesOn (motive := fun _ => Am.R Out) t (self g z fr h) (self g y fr h)) = .ok outs := hr
    cases hq : ob (ofOpd [] x) (fun x => ob (x.ev ⟨[], fr⟩) asBool) with
    | none => rw [hq] at hr; cases hr
    | some t =>
      rw [hq] at hr
      obtain ⟨x', e1, e2⟩ := ob_some hq
      obtain ⟨v, e3, e4⟩ := ob_some e2
      have := asBool_some e4; subst this
      have hE : EvR ρ [] ⟨[], fr⟩ a.eval [x] := evR_of hG hk.1 (fun t _ j hj => by cases hj) (fun t ht _ v hv => hfr t (f1 t (List.mem_singleton.1 ht).symm) v hv)
      have hb : a.eval x = .bool t := by
        have := hE.at (by simp) e1 e3
        exact vr_bool this
      refine wp_cond hb ?_
      cases t with
      | true => exact (hS g y fr h outs hr N hk.2.1 f2 ρ w a ha hG hfr R).wp
      | false => exact (hS g z fr h outs hr N hk.2.2 f3 ρ w a ha hG hfr R).wp
  | block id b =>
    obtain ⟨l, h1, h2⟩ := Am.R.bind_ok (show (self g b fr h).bind (outBlock id) = .ok outs from hr)
    refine wp_block (wp_mono (hS g b fr h l h1 N hk hfree ρ w a ha hG hfr R).wp fun e a1 w1 hq => ?_)
    obtain ⟨o, m, ρ1, q1, q2, q3, q4, q5, q6⟩ := hq
    obtain ⟨z, z1, z2⟩ := h2 o m
    obtain ⟨ex, fr', hp'⟩ := o
    cases ex with
    | normal =>
      cases z1
      cases e <;> first | exact q1.elim | exact ⟨_, z2 _ (List.mem_singleton.2 rfl), ρ1, trivial, q2, q3, q4, q5, q6⟩
    | ret =>
      cases z1
      cases e <;> first | exact q1.elim | exact ⟨_, z2 _ (List.mem_singleton.2 rfl), ρ1, trivial, q2, q3, q4, q5, q6⟩
    | exit id' =>
      have z1 : (bif id'.beq id then Am.R.ok [⟨.normal, fr', hp'⟩] else .ok [⟨.exit id', fr', hp'⟩]) = .ok z := z1
      cases e <;> first | exact q1.elim | skip
      rename_i id2
      have q1 : id2 = id' := q1
      subst q1
      unfold Exit.inBlock
      simp only
      cases hb : id2.beq id with
      | true =>
        rw [hb] at z1; cases z1
        rw [if_pos (beq_true hb)]
        exact ⟨_, z2 _ (List.mem_singleton.2 rfl), ρ1, trivial, q2, q3, q4, q5, q6⟩
      | false =>
        rw [hb] at z1; cases z1
        rw [if_neg (fun e => by subst e; rw [beqY rfl] at hb; cases hb)]
        exact ⟨_, z2 _ (List.mem_singleton.2 rfl), ρ1, rfl, q2, q3, q4, q5, q6⟩
  | loop b =>
    obtain ⟨l, h1, h2⟩ := Am.R.bind_ok (show (self g b fr h).bind (thenRun self g (.loop b)) = .ok outs from hr)
    refine LoopWp.round (wp_mono (hS g b fr h l h1 N hk hfree ρ w a ha hG hfr R).wp (seqs (x := b) fun o m => ?_))
    obtain ⟨z, z1, z2⟩ := h2 o m
    obtain ⟨ex, fr', hp'⟩ := o
    cases ex with
    | normal => exact ⟨z, (fun id e => by cases e), (fun e => by cases e), z2, fun ρ1 a1 w1 _ q2 q3 q4 q5 q6 => LoopWp.mono (hS g (.loop b) fr' hp' z z1 N hk hfree ρ1 w1 a1 q2 q3 q4 q5) fun e a2 w2 hq => hq.trans q6 z2⟩
    | exit id => cases z1; exact ⟨_, fun _ _ => rfl, fun _ => rfl, z2, (fun _ _ _ e => by cases e)⟩
    | ret => cases z1; exact ⟨_, fun _ _ => rfl, fun _ => rfl, z2, (fun _ _ _ e => by cases e)⟩
  | scope b =>
    refine wp_scope_straight (wp_mono (hS g b fr h outs hr N hk hfree ρ w a ha hG hfr R).wp fun e a1 w1 hq => ?_)
    obtain ⟨o, m, ρ1, q1, q2⟩ := hq
    cases e with
    | goto l => cases ho : o.ex <;> rw [ho] at q1 <;> exact q1.elim
    | _ => exact ⟨o, m, ρ1, q1, q2⟩
  | exit id =>
    cases hr
    exact wp_exit ⟨_, List.mem_singleton.2 rfl, ρ, rfl, ha, hG, hfr, R, Goes.refl _ _ _⟩
  | ret =>
    cases hr
    exact wp_ret ⟨_, List.mem_singleton.2 rfl, ρ, trivial, ha, hG, hfr, R, Goes.refl _ _ _⟩
  | _ => cases hr

theorem pow2_ok {f : RunF → RunF} (hf : ∀ x, SoundR P B G x → SoundR P B G (f x)) : ∀ (k : Nat) (x : RunF), SoundR P B G x → SoundR P B G (pow2 f k x) := by
  intro k
  induction k with
  | zero => intro x hx; exact hf x hx
  | succ k ih => intro x hx; exact ih _ (ih x hx)

theorem run_sound (T : Ties P c) (X : Ties2 P c B G) (Z : Ties3 c G) (k : Nat) : SoundR P B G (run c k) := by
  have := pow2_ok (P := P) (B := B) (G := G) (f := stepRun c) (fun x hx => stepRun_ok T X Z hx) k bottom (fun g code fr h outs hr => by cases hr)
  exact this

/-- The small machine is sound. -/
theorem callAt_ok (T : Ties P c) (X : Ties2 P c B G) (Z : Ties3 c G) {k : Nat} {f : FuncId} {args : List AVal} {h : Hp} {outs : List (AVal × Hp)} (hc : callAt c k f args h = .ok outs) {ρ : Rho} {w : World} {us : List Value} (hG : GlobR G ρ) (R : Rel B ρ h w.heap) (hv : VRs ρ args us) :
    Calls P f ⟨us⟩ w (Ends (ResV B ρ h w outs)) :=
  callStep_ok T Z (run_sound T X Z k) f args h outs hc ρ w us hG R hv

end
end Go.Am

/- The small machine against the model: types whose cells are numbers, texts and bools. -/
namespace Go.Am

def plainFs (P : Program) (rec : TypeId → Option (List Sc × Bool)) : List Field → Nat → Option (List Sc)
  | [], _ => some []
  | f :: fs, off => bif f.name == "_" then none else bif f.offset.beq off then
      Option.casesOn (motive := fun _ => Option (List Sc)) (rec f.type) none (fun r => Option.casesOn (motive := fun _ => Option (List Sc)) (P.info? f.type) none fun i =>
        bif i.size.beq r.1.length then Option.casesOn (motive := fun _ => Option (List Sc)) (plainFs P rec fs (off + r.1.length)) none fun l => some (r.1 ++ l) else none)
    else none

/-- The kinds of a type's cells; is it an aggregate? -/
def plainN (P : Program) : Nat → TypeId → Option (List Sc × Bool)
  | 0, _ => none
  | n + 1, t => match P.underlying t with
    | some .bool => some ([.b], false)
    | some (.int _) => some ([.i], false)
    | some .string => some ([.s], false)
    | some (.struct fs) => bif P.stoodInHeld t then none else Option.casesOn (motive := fun _ => Option (List Sc × Bool)) (plainFs P (plainN P n) fs.toList 0) none fun l => some (l, true)
    | some (.array m e) => Option.casesOn (motive := fun _ => Option (List Sc × Bool)) (plainN P n e) none (fun r => Option.casesOn (motive := fun _ => Option (List Sc × Bool)) (P.info? e) none fun i =>
        bif i.size.beq r.1.length then some ((List.replicate m r.1).flatten, true) else none)
    | _ => none

def ValOf (g : Bool) (us : List Value) (v : Value) : Prop := match g with | true => v = .agg ⟨us⟩ | false => us = [v]

section
variable {P : Program} {ρ : Rho}

theorem cellsEq_length : ∀ {l : List Sc} {xs ys : List AVal} {b : Bool}, cellsEq l xs ys = some b → xs.length = l.length ∧ ys.length = l.length := by
  intro l
  induction l with
  | nil => intro xs ys b h; cases xs <;> cases ys <;> simp [cellsEq] at h; exact ⟨rfl, rfl⟩
  | cons k l ih =>
    intro xs ys b h
    cases xs with
    | nil => simp [cellsEq] at h
    | cons x xs =>
      cases ys with
      | nil => simp [cellsEq] at h
      | cons y ys =>
        obtain ⟨p, _, h1⟩ := ob_some (show ob (k.eq x y) (fun p => ob (cellsEq l xs ys) fun q => some (p && q)) = some b from h)
        obtain ⟨q, h2, _⟩ := ob_some h1
        obtain ⟨a1, a2⟩ := ih h2
        exact ⟨by simp [a1], by simp [a2]⟩

theorem cellsEq_append : ∀ {l1 l2 : List Sc} {xs ys : List AVal} {b : Bool}, cellsEq (l1 ++ l2) xs ys = some b → ∃ b1 b2, cellsEq l1 (xs.take l1.length) (ys.take l1.length) = some b1 ∧ cellsEq l2 (xs.drop l1.length) (ys.drop l1.length) = some b2 ∧ b = (b1 && b2) := by
  intro l1
  induction l1 with
  | nil => intro l2 xs ys b h; exact ⟨true, b, by simp [cellsEq], by simpa using h, by simp⟩
  | cons k l ih =>
    intro l2 xs ys b h
    cases xs with
    | nil => simp [cellsEq] at h
    | cons x xs =>
      cases ys with
      | nil => simp [cellsEq] at h
      | cons y ys =>
        obtain ⟨p, h0, h1⟩ := ob_some (show ob (k.eq x y) (fun p => ob (cellsEq (l ++ l2) xs ys) fun q => some (p && q)) = some b from h)
        obtain ⟨q, h2, h3⟩ := ob_some h1
        cases h3
        obtain ⟨b1, b2, a1, a2, a3⟩ := ih h2
        subst a3
        refine ⟨p && b1, b2, ?_, by simpa using a2, by simp [Bool.and_assoc]⟩
        show ob (k.eq x y) (fun p => ob (cellsEq l (xs.take l.length) (ys.take l.length)) fun q => some (p && q)) = _
        rw [h0]
        show ob (cellsEq l (xs.take l.length) (ys.take l.length)) _ = _
        rw [a1]; rfl

theorem run_part {t : TypeId} {us : List Value} {off n : Nat} {i : TypeInfo} {g : Bool} (hg : ∀ w, (Go.isAgg t).run P w = .ok g w) (hi : P.info? t = some i) (hn : i.size = n) (h1 : g = false → n = 1) (hl : off + n ≤ us.length) (w : World) :
    ∃ v, (part t ⟨us⟩ off).run P w = .ok v w ∧ ValOf g ((us.drop off).take n) v := by
  unfold part
  rw [run_ok (hg w)]
  cases g with
  | true =>
    refine ⟨.agg ⟨(us.drop off).take n⟩, ?_, rfl⟩
    simp only [if_true]
    rw [run_ok (run_size hi w), hn]
    simp [pure]
  | false =>
    have := h1 rfl; subst this
    have hlt : off < us.length := by omega
    refine ⟨us[off], ?_, ?_⟩
    · simp [hlt, pure]
    · show (us.drop off).take 1 = [us[off]]
      rw [List.drop_eq_getElem_cons hlt]; rfl

theorem forIn_ok {α : Type} {w : World} : ∀ (l : List α) (f : α → PUnit → Sem (ForInStep PUnit)), (∀ a ∈ l, (f a ⟨⟩).run P w = .ok (.yield ⟨⟩) w) → (forIn l PUnit.unit f).run P w = .ok ⟨⟩ w := by
  intro l
  induction l with
  | nil => intro f _; rfl
  | cons a l ih =>
    intro f h
    rw [List.forIn_cons, run_ok (h a (List.mem_cons_self ..))]
    exact ih f fun b hb => h b (List.mem_cons_of_mem _ hb)

/-- Equality and keys of a type, cell by cell. -/
def EqT (P : Program) (t : TypeId) (l : List Sc) (g : Bool) (n : Nat) : Prop :=
  (∀ w, (Go.isAgg t).run P w = .ok g w) ∧ (g = false → l.length = 1) ∧ ∀ d, n ≤ d → ∀ (ρ : Rho) (xs ys : List AVal) (us vs : List Value) (b : Bool) (u v : Value), VRs ρ xs us → VRs ρ ys vs → cellsEq l xs ys = some b → ValOf g us u → ValOf g vs v →
    ∀ w, (Op.equalIn d t u v).run P w = .ok b w ∧ ∀ z, (Instr.checkKey z d t u).run P w = .ok () w

theorem eqT_sc {t : TypeId} {td : TypeDesc} {k : Sc} (hu : P.underlying t = some td) (hk : tdScalar td = some k) (n : Nat) : EqT P t [k] false (n + 1) := by
  refine ⟨fun w => ?_, fun _ => rfl, fun d hd ρ xs ys us vs b u v hx hy hc hu1 hv1 w => ?_⟩
  · unfold Go.isAgg
    rw [run_ok (run_underlying hu w)]
    cases td <;> simp [tdScalar] at hk <;> rfl
  · have hu1 : us = [u] := hu1
    have hv1 : vs = [v] := hv1
    subst hu1; subst hv1
    cases hx with
    | cons x _ xs _ hx hxs =>
      cases hxs
      cases hy with
      | cons y _ ys _ hy hys =>
        cases hys
        obtain ⟨p, h0, h1⟩ := ob_some (show ob (k.eq x y) (fun p => ob (cellsEq [] [] []) fun q => some (p && q)) = some b from hc)
        have h1 : some (p && true) = some b := h1
        simp only [Bool.and_true, Option.some.injEq] at h1
        subst h1
        obtain ⟨d, rfl⟩ : ∃ m, d = m + 1 := ⟨d - 1, by omega⟩
        refine ⟨equalIn_sc hu hk hx hy h0, fun z => ?_⟩
        unfold Instr.checkKey
        rw [run_ok (run_underlying hu w)]
        cases td <;> simp [tdScalar] at hk <;> rfl

theorem plainFs_ok {n d : Nat} {rec : TypeId → Option (List Sc × Bool)} (hr : ∀ t l g, rec t = some (l, g) → EqT P t l g n) (hd : n ≤ d) {xs ys : List AVal} {us vs : List Value} (hx : VRs ρ xs us) (hy : VRs ρ ys vs) : ∀ (fs : List Field) (off : Nat) (l : List Sc) (b : Bool), plainFs P rec fs off = some l → cellsEq l (xs.drop off) (ys.drop off) = some b →
    ∀ w, (Op.eqFields d ⟨us⟩ ⟨vs⟩ fs).run P w = .ok b w ∧ ∀ z, ∀ f ∈ fs, ∃ v, (part f.type ⟨us⟩ f.offset).run P w = .ok v w ∧ (Instr.checkKey z d f.type v).run P w = .ok () w := by
  intro fs
  induction fs with
  | nil =>
    intro off l b h hc w
    cases h
    obtain ⟨h1, h2⟩ := cellsEq_length hc
    cases hq : xs.drop off with
    | cons => rw [hq] at h1; simp at h1
    | nil =>
      cases hq2 : ys.drop off with
      | cons => rw [hq2] at h2; simp at h2
      | nil =>
        rw [hq, hq2] at hc
        cases hc
        exact ⟨rfl, fun z f hf => by simp at hf⟩
  | cons f fs ih =>
    intro off l b h hc w
    simp only [plainFs] at h
    cases hn : f.name == "_" with
    | true => rw [hn] at h; cases h
    | false =>
      rw [hn] at h
      simp only [cond_false] at h
      cases ho : f.offset.beq off with
      | false => rw [ho] at h; cases h
      | true =>
        rw [ho] at h
        simp only [cond_true] at h
        have hoff := beq_true ho
        cases hre : rec f.type with
        | none => rw [hre] at h; cases h
        | some r =>
          obtain ⟨lf, g⟩ := r
          rw [hre] at h
          simp only at h
          cases hi : P.info? f.type with
          | none => rw [hi] at h; cases h
          | some i =>
            rw [hi] at h
            simp only at h
            cases hs : i.size.beq lf.length with
            | false => rw [hs] at h; cases h
            | true =>
              rw [hs] at h
              simp only [cond_true] at h
              have hsz := beq_true hs
              cases hp : plainFs P rec fs (off + lf.length) with
              | none => rw [hp] at h; cases h
              | some l' =>
                rw [hp] at h
                cases h
                obtain ⟨e1, e2, e3⟩ := hr _ _ _ hre
                obtain ⟨b1, b2, c1, c2, rfl⟩ := cellsEq_append hc
                rw [List.drop_drop, List.drop_drop] at c2
                obtain ⟨i1, i2⟩ := ih (off + lf.length) l' b2 hp c2 w
                have lx := cellsEq_length c1
                have hxl := hx.length
                have hyl := hy.length
                simp only [List.length_take, List.length_drop] at lx
                have hlx : off + lf.length ≤ us.length ∨ lf.length = 0 := by omega
                have hly : off + lf.length ≤ vs.length ∨ lf.length = 0 := by omega
                -- an empty aggregate
                have hpx : ∃ u, (part f.type ⟨us⟩ f.offset).run P w = .ok u w ∧ ValOf g ((us.drop off).take lf.length) u := by
                  rw [hoff]
                  rcases hlx with q | q
                  · exact run_part e1 hi hsz e2 q w
                  · cases g with
                    | false => have := e2 rfl; omega
                    | true =>
                      refine ⟨.agg ⟨(us.drop off).take lf.length⟩, ?_, rfl⟩
                      unfold part
                      rw [run_ok (e1 w)]
                      simp only [if_true]
                      rw [run_ok (run_size hi w), hsz, q]
                      simp [pure]
                have hpy : ∃ u, (part f.type ⟨vs⟩ f.offset).run P w = .ok u w ∧ ValOf g ((vs.drop off).take lf.length) u := by
                  rw [hoff]
                  rcases hly with q | q
                  · exact run_part e1 hi hsz e2 q w
                  · cases g with
                    | false => have := e2 rfl; omega
                    | true =>
                      refine ⟨.agg ⟨(vs.drop off).take lf.length⟩, ?_, rfl⟩
                      unfold part
                      rw [run_ok (e1 w)]
                      simp only [if_true]
                      rw [run_ok (run_size hi w), hsz, q]
                      simp [pure]
                obtain ⟨u, p1, p2⟩ := hpx
                obtain ⟨v, p3, p4⟩ := hpy
                obtain ⟨q1, q2⟩ := e3 d hd ρ _ _ _ _ b1 u v ((hx.drop off).take _) ((hy.drop off).take _) c1 p2 p4 w
                refine ⟨?_, fun z f' hf' => ?_⟩
                · simp only [Op.eqFields]
                  rw [if_pos (by simpa using hn), run_ok p1, run_ok p3, run_ok q1]
                  cases b1 with
                  | false => rfl
                  | true => simpa using i1
                · rcases List.mem_cons.1 hf' with rfl | hf'
                  · exact ⟨u, p1, q2 z⟩
                  · exact i2 z f' hf'

theorem items_ok {n d : Nat} {e : TypeId} {le : List Sc} {g : Bool} {i : TypeInfo} (he : EqT P e le g n) (hi : P.info? e = some i) (hs : i.size = le.length) (hd : n ≤ d) {xs ys : List AVal} {us vs : List Value} (hx : VRs ρ xs us) (hy : VRs ρ ys vs) : ∀ (m j : Nat) (b : Bool), cellsEq ((List.replicate m le).flatten) (xs.drop (j * le.length)) (ys.drop (j * le.length)) = some b →
    ∀ w, (Op.eqItems d e (P.cellsOf e) ⟨us⟩ ⟨vs⟩ (List.range' j m)).run P w = .ok b w ∧ ∀ z, ∀ k ∈ List.range' j m, ∃ v, (part e ⟨us⟩ (k * le.length)).run P w = .ok v w ∧ (Instr.checkKey z d e v).run P w = .ok () w := by
  have hcs : P.cellsOf e = le.length := by unfold Program.cellsOf; rw [hi]; exact hs
  intro m
  induction m with
  | zero =>
    intro j b hc w
    obtain ⟨h1, h2⟩ := cellsEq_length hc
    simp only [List.replicate_zero, List.flatten_nil, List.length_nil] at h1 h2
    rw [List.eq_nil_of_length_eq_zero h1, List.eq_nil_of_length_eq_zero h2] at hc
    cases hc
    exact ⟨rfl, fun z k hk => by simp at hk⟩
  | succ m ih =>
    intro j b hc w
    rw [List.replicate_succ, List.flatten_cons] at hc
    obtain ⟨b1, b2, c1, c2, rfl⟩ := cellsEq_append hc
    rw [List.drop_drop, List.drop_drop, show j * le.length + le.length = (j + 1) * le.length from by rw [Nat.add_mul]; omega] at c2
    obtain ⟨i1, i2⟩ := ih (j + 1) b2 c2 w
    obtain ⟨e1, e2, e3⟩ := he
    have lx := cellsEq_length c1
    have hxl := hx.length
    have hyl := hy.length
    simp only [List.length_take, List.length_drop] at lx
    have key : ∀ zs : List Value, (j * le.length + le.length ≤ zs.length ∨ le.length = 0) → ∃ u, (part e ⟨zs⟩ (j * le.length)).run P w = .ok u w ∧ ValOf g ((zs.drop (j * le.length)).take le.length) u := by
      intro zs hz
      rcases hz with q | q
      · exact run_part e1 hi hs e2 q w
      · cases g with
        | false => have := e2 rfl; omega
        | true =>
          refine ⟨.agg ⟨(zs.drop (j * le.length)).take le.length⟩, ?_, rfl⟩
          unfold part
          rw [run_ok (e1 w)]
          simp only [if_true]
          rw [run_ok (run_size hi w), hs, q]
          simp [pure]
    obtain ⟨u, p1, p2⟩ := key us (by omega)
    obtain ⟨v, p3, p4⟩ := key vs (by omega)
    obtain ⟨q1, q2⟩ := e3 d hd ρ _ _ _ _ b1 u v ((hx.drop _).take _) ((hy.drop _).take _) c1 p2 p4 w
    rw [List.range'_succ]
    refine ⟨?_, fun z k hk => ?_⟩
    · simp only [Op.eqItems]
      rw [hcs, run_ok p1, run_ok p3, run_ok q1]
      cases b1 with
      | false => rfl
      | true => rw [← hcs]; simpa using i1
    · rcases List.mem_cons.1 hk with rfl | hk
      · exact ⟨u, p1, q2 z⟩
      · exact i2 z k hk

theorem plainN_ok : ∀ (n : Nat) (t : TypeId) (l : List Sc) (g : Bool), plainN P n t = some (l, g) → EqT P t l g n := by
  intro n
  induction n with
  | zero => intro t l g h; cases h
  | succ n ih =>
    intro t l g h
    unfold plainN at h
    split at h
    · rename_i hu; cases h; exact eqT_sc hu rfl n
    · rename_i k hu; cases h; exact eqT_sc hu rfl n
    · rename_i hu; cases h; exact eqT_sc hu rfl n
    · rename_i fs hu
      cases hs : P.stoodInHeld t with
      | true => rw [hs] at h; cases h
      | false =>
        rw [hs] at h
        simp only [cond_false] at h
        cases hp : plainFs P (plainN P n) fs.toList 0 with
        | none => rw [hp] at h; cases h
        | some l' =>
          rw [hp] at h
          cases h
          refine ⟨fun w => by unfold Go.isAgg; rw [run_ok (run_underlying hu w)]; rfl, (fun h => by cases h), fun d hd ρ xs ys us vs b u v hx hy hc hu1 hv1 w => ?_⟩
          have hu1 : u = .agg ⟨us⟩ := hu1
          have hv1 : v = .agg ⟨vs⟩ := hv1
          subst hu1; subst hv1
          obtain ⟨d, rfl⟩ : ∃ m, d = m + 1 := ⟨d - 1, by omega⟩
          have hff : P.fieldsOf t = fs := by unfold Program.fieldsOf; rw [hu]
          obtain ⟨q1, q2⟩ := plainFs_ok (n := n) (d := d) (fun t l g h => ih t l g h) (by omega) hx hy fs.toList 0 l b hp (by simpa using hc) w
          refine ⟨?_, fun z => ?_⟩
          · rw [run_equalIn_struct w d t _ _ (by rw [hff]; exact hu) hs, hff]
            exact q1
          · unfold Instr.checkKey
            rw [run_ok (run_underlying hu w)]
            simp only
            rw [← Array.forIn_toList]
            rw [run_ok (forIn_ok (w := w) _ _ fun f hf => ?_)]
            · rfl
            obtain ⟨v, p1, p2⟩ := q2 z f hf
            by_cases hn : f.name ≠ "_"
            · rw [if_pos hn]
              rw [run_ok p1, run_ok p2]
              rfl
            · rw [if_neg hn]; rfl
    · rename_i m e hu
      cases hp : plainN P n e with
      | none => rw [hp] at h; cases h
      | some r =>
        obtain ⟨le, ge⟩ := r
        rw [hp] at h
        simp only at h
        cases hi : P.info? e with
        | none => rw [hi] at h; cases h
        | some i =>
          rw [hi] at h
          simp only at h
          cases hs : i.size.beq le.length with
          | false => rw [hs] at h; cases h
          | true =>
            rw [hs] at h
            cases h
            refine ⟨fun w => by unfold Go.isAgg; rw [run_ok (run_underlying hu w)]; rfl, (fun h => by cases h), fun d hd ρ xs ys us vs b u v hx hy hc hu1 hv1 w => ?_⟩
            have hu1 : u = .agg ⟨us⟩ := hu1
            have hv1 : v = .agg ⟨vs⟩ := hv1
            subst hu1; subst hv1
            obtain ⟨d, rfl⟩ : ∃ m, d = m + 1 := ⟨d - 1, by omega⟩
            obtain ⟨q1, q2⟩ := items_ok (n := n) (d := d) (ih e le ge hp) hi (beq_true hs) (by omega) hx hy m 0 b (by simpa using hc) w
            refine ⟨?_, fun z => ?_⟩
            · rw [run_equalIn_array w d _ _ hu hi, List.range_eq_range']
              exact q1
            · unfold Instr.checkKey
              rw [run_ok (run_underlying hu w)]
              simp only [Std.Legacy.Range.forIn_eq_forIn_range', Std.Legacy.Range.size, Nat.sub_zero, Nat.add_one_sub_one, Nat.div_one]
              rw [run_ok (forIn_ok (w := w) _ _ fun k hk => ?_)]
              · rfl
              obtain ⟨v, p1, p2⟩ := q2 z k hk
              rw [run_ok (run_size hi w), beq_true hs, run_ok p1, run_ok (p2)]
              rfl
    · cases h

/-- A type is one of these. -/
def plainOk (P : Program) (t : TypeId) (l : List Sc) : Prop := plainN P 12 t = some (l, true) ∧ P.eqGuardType P.depth t = false

theorem plainOk_cells {t : TypeId} {l : List Sc} (h : plainOk P t l) : EqCells P t l := by
  intro ρ xs ys us vs b hx hy hc w
  obtain ⟨_, _, e3⟩ := plainN_ok 12 t l true h.1
  obtain ⟨q1, q2⟩ := e3 10000 (by omega) ρ xs ys us vs b _ _ hx hy hc rfl rfl w
  exact ⟨q1, q2, h.2⟩

end
end Go.Am

/- The small machine against the model: what ties it to a program, by checks; how a call begins; what comes of one that is worked out. -/
namespace Go.Am

/-! ### Ties by checks -/

def fieldsOk (P : Program) : Bool := P.types.toList.all fun i => match i.desc with | .struct fs => fs.toList.all (fun f => Nat.blt f.type P.types.size) | _ => true

def plainOf : List (TypeId × List Sc) → Tr (List Sc) → Tr (List Sc)
  | [], t => t
  | p :: l, t => plainOf l (t.set p.1 (some p.2))

theorem plainOf_get : ∀ (l : List (TypeId × List Sc)) (t : Tr (List Sc)) (i : TypeId) (x : List Sc), (plainOf l t).get i = some x → (i, x) ∈ l ∨ t.get i = some x := by
  intro l
  induction l with
  | nil => intro t i x h; exact .inr h
  | cons p l ih =>
    intro t i x h
    rcases ih _ i x h with h | h
    · exact .inl (List.mem_cons_of_mem _ h)
    · rw [Tr.get_set] at h
      by_cases e : i = p.1
      · rw [if_pos e] at h
        cases h; subst e; exact .inl (List.mem_cons_self ..)
      · rw [if_neg e] at h; exact .inr h

def scEq : List Sc → List Sc → Bool
  | [], [] => true
  | .b :: x, .b :: y => scEq x y
  | .i :: x, .i :: y => scEq x y
  | .s :: x, .s :: y => scEq x y
  | _, _ => false
theorem scEq_eq : ∀ {x y : List Sc}, scEq x y = true → x = y := by
  intro x
  induction x with
  | nil => intro y h; cases y with
    | nil => rfl
    | cons => simp [scEq] at h
  | cons k x ih =>
    intro y h
    cases y with
    | nil => cases k <;> simp [scEq] at h
    | cons k' y =>
      cases k <;> cases k' <;> first | (simp [scEq] at h; done) | (rw [ih (show scEq x y = true from h)])

def plainB (P : Program) (p : TypeId × List Sc) : Bool := (match plainN P 12 p.1 with | some (l, true) => scEq l p.2 | _ => false) && !P.eqGuardType P.depth p.1
theorem plainB_ok {P : Program} {t : TypeId} {l : List Sc} (h : plainB P (t, l) = true) : plainOk P t l := by
  unfold plainB at h
  simp only [Bool.and_eq_true, Bool.not_eq_true'] at h
  obtain ⟨h1, h2⟩ := h
  split at h1
  · rename_i l' hl
    rw [scEq_eq h1] at hl
    exact ⟨hl, h2⟩
  · cases h1

theorem ties_of {P : Program} {c : Cx} {L : List (TypeId × List Sc)} (hty : c.ty = Tr.of P.types.toList) (hfn : c.fns = Tr.of P.funcs.toList) (hfs : fieldsOk P = true) (hp : c.plain = plainOf L .leaf) (hL : L.all (plainB P) = true)
    (hs : ∀ t k, c.scal t = some k → ∃ i d, P.info? t = some i ∧ i.comparable = true ∧ P.underlying t = some d ∧ tdScalar d = some k) : Ties P c := by
  have ht : ∀ t i, c.ty.get t = some i → P.types[t]? = some i := fun t i h => by
    rw [hty, Tr.get_of, Array.getElem?_toList] at h; exact h
  refine ⟨fun t i h => ?_, fun f fn h => ?_, fun t fs h f hf => ?_, fun t l h => ?_, hs⟩
  · have h1 := ht t i h
    have hlt : t < P.types.size := (Array.getElem?_eq_some_iff.1 h1).1
    show (if t < P.types.size then P.types[t]? else _) = _
    rw [if_pos hlt]; exact h1
  · rw [hfn, Tr.get_of, Array.getElem?_toList] at h; exact h
  · have key : ∃ (t' : TypeId) (i : TypeInfo), P.types[t']? = some i ∧ i.desc = .struct fs := by
      obtain ⟨i, hi, h1⟩ := ob_some h
      cases e : tdNamed i.desc with
      | none => rw [e] at h1; exact ⟨t, i, ht t i hi, by simpa using h1⟩
      | some u =>
        rw [e] at h1
        obtain ⟨j, hj, h2⟩ := ob_some h1
        exact ⟨u, j, ht u j hj, by simpa using h2⟩
    obtain ⟨t', i, hi, hd⟩ := key
    have hm : i ∈ P.types.toList := Array.mem_toList_iff.2 (Array.mem_of_getElem? hi)
    have := List.all_eq_true.1 hfs i hm
    rw [hd] at this
    have := List.all_eq_true.1 this f hf
    rw [Nat.blt, ble_eq] at this
    have hlt : f.type < P.types.size := (by simpa using this : f.type + 1 ≤ P.types.size)
    refine ⟨P.types[f.type], ?_⟩
    rw [hty, Tr.get_of, Array.getElem?_toList]
    exact Array.getElem?_eq_getElem hlt
  · rw [hp] at h
    rcases plainOf_get L .leaf t l h with h | h
    · exact plainOk_cells (plainB_ok (List.all_eq_true.1 hL _ h))
    · rw [Tr.get_leaf] at h; cases h

theorem ties3_of {P : Program} {c : Cx} {G : Nat} (hfn : c.fns = Tr.of P.funcs.toList) (h : P.funcs.toList.all (fnOk G) = true) : Ties3 c G ∧ ∀ f fn code, c.fns.get f = some fn → fn.body = some code → OwnFn P f := by
  have key : ∀ f fn, c.fns.get f = some fn → P.funcs[f]? = some fn ∧ fnOk G fn = true := fun f fn h1 => by
    rw [hfn, Tr.get_of, Array.getElem?_toList] at h1
    exact ⟨h1, List.all_eq_true.1 h fn (Array.mem_toList_iff.2 (Array.mem_of_getElem? h1))⟩
  constructor
  · refine ⟨fun f fn code h1 h2 => ?_⟩
    have := (key f fn h1).2
    unfold fnOk at this
    rw [h2] at this
    simp only [Bool.and_eq_true] at this
    exact this.1
  · intro f fn code h1 h2
    obtain ⟨a, b⟩ := key f fn h1
    unfold fnOk at b
    simp only [Bool.and_eq_true, Bool.not_eq_true'] at b
    exact ⟨fn, code, a, b.2, h2⟩

/-! ### How a call begins -/

def baseOf (W : World) : Base := ⟨W.heap.size, fun k => W.heap[k]?⟩
def rho0 (W : World) (G : Nat) : Rho := fun b => if b < G then (match W.heap[b]? with | some (.cells arr _ _) => some (b, arr.size) | _ => some (b, 0)) else none

theorem rho0_some {W : World} {G b : Nat} {p : Nat × Nat} (h : rho0 W G b = some p) : b < G ∧ p.1 = b := by
  unfold rho0 at h
  by_cases g : b < G
  · rw [if_pos g] at h
    split at h <;> cases h <;> exact ⟨g, rfl⟩
  · rw [if_neg g] at h; cases h

theorem start_glob (W : World) (G : Nat) : GlobR G (rho0 W G) := by
  intro g hg
  unfold rho0
  rw [if_pos hg]
  split <;> exact ⟨_, rfl⟩

/-- Blocks of ours that stand as the world's variables do. -/
def Stands (W : World) (G : Nat) (t : Tr AObj) : Prop := ∀ b o, t.get b = some o → b < G ∧ ∃ cs e arr fz, o = .cells cs e false ∧ W.heap[b]? = some (.cells arr e fz) ∧ CellsR (fun _ => none) cs arr

theorem start_rel {W : World} {G : Nat} {t : Tr AObj} (hG : G ≤ W.heap.size) (ht : Stands W G t) : Rel (baseOf W) (rho0 W G) ⟨t, G, G⟩ W.heap := by
  have hget : ∀ b, (⟨t, G, G⟩ : Hp).get b = t.get b := fun b => rfl
  refine ⟨?_, ?_, ?_, ?_, ?_, Nat.le_refl _, Nat.le_refl _, fun k _ => rfl, ?_⟩
  · intro b o p hb hp
    obtain ⟨h1, cs, e, arr, fz, rfl, h2, h3⟩ := ht b o hb
    unfold rho0 at hp
    rw [if_pos h1, h2] at hp
    cases hp
    exact ⟨arr, fz, h2, rfl, h3.ext fun _ _ h => (by cases h), fun h => (by cases h)⟩
  · intro b o p hb hp hw
    obtain ⟨h1, cs, e, arr, fz, rfl, h2, h3⟩ := ht b o hb
    cases hw
  · intro b b' o o' p p' _ _ hp hp' e
    have h1 := (rho0_some hp).2
    have h2 := (rho0_some hp').2
    omega
  · intro b hb
    have hb : G ≤ b := hb
    refine ⟨by unfold rho0; rw [if_neg (by omega)], ?_⟩
    cases e : (⟨t, G, G⟩ : Hp).get b with
    | none => rfl
    | some o => have := (ht b o e).1; omega
  · intro b p hp
    obtain ⟨h1, h2⟩ := rho0_some hp
    omega
  · intro b o p _ hp _
    obtain ⟨h1, h2⟩ := rho0_some hp
    show p.1 < W.heap.size
    omega

/-! ### What comes of a call -/

def trueV : AVal → Bool
  | .bool b => b
  | _ => false
def allTrue : R (AVal × Hp) → Bool
  | .ok l => l.all fun r => trueV r.1
  | .no _ => false

theorem true_of {P : Program} {c : Cx} {G k : Nat} {f : FuncId} {t : Tr AObj} {W : World} (T : Ties P c) (X : Ties2 P c (baseOf W) G) (Z : Ties3 c G) (hc : allTrue (callAt c k f [] ⟨t, G, G⟩) = true) (hG : G ≤ W.heap.size) (ht : Stands W G t) :
    Calls P f #[] W fun e w' => e = .returned (.bool true) ∧ Go.RowKit.Below W.heap.size W w' := by
  cases hq : callAt c k f [] ⟨t, G, G⟩ with
  | no w => rw [hq] at hc; cases hc
  | ok outs =>
    rw [hq] at hc
    refine (callAt_ok T X Z hq (start_glob W G) (start_rel hG ht) .nil).mono fun e w' he => ?_
    cases e with
    | panicked => exact he.elim
    | outgrown => exact he.elim
    | returned u =>
      obtain ⟨v, h', ρ', m1, m2, m3, m4⟩ := he
      have := List.all_eq_true.1 hc _ m1
      have hv : v = .bool true := by
        cases v <;> simp [trueV] at this
        subst this; rfl
      subst hv
      refine ⟨by rw [vr_bool m2], ⟨m4.os, m4.tape, m4.output, m4.size, fun k hk => m4.frame k hk fun b o p hb hw _ => ?_⟩⟩
      obtain ⟨_, cs, e, arr, fz, rfl, _, _⟩ := ht b o hb
      cases hw

end Go.Am

/- The small machine against the model: a search that is answered at once. -/
namespace Go.Am

/-- strings.Index, answered at once. -/
def exIdx (args : List AVal) (h : Hp) : Option (AVal × Hp) :=
  List.casesOn (motive := fun _ => Option (AVal × Hp)) args none fun a l => List.casesOn (motive := fun _ => Option (AVal × Hp)) l none fun b l =>
    ok? l.isEmpty (ob (asStr a) fun a => ob (asStr b) fun b => ok? (Nat.ble 1 b.length && a.length.ble 1048576) (some (natOrMinus (indexIn b a 0), h)))

def idxR (o : Option (AVal × Hp)) : R (AVal × Hp) := Option.casesOn (motive := fun _ => R (AVal × Hp)) o (.no "a search") fun r => .ok [r]

theorem map_toNat_inj {x y : List UInt8} (h : x.map UInt8.toNat = y.map UInt8.toNat) : x = y := by
  induction x generalizing y with
  | nil => cases y with
    | nil => rfl
    | cons => simp at h
  | cons a x ih => cases y with
    | nil => simp at h
    | cons b y =>
      simp only [List.map_cons, List.cons.injEq] at h
      rw [UInt8.toNat_inj.1 h.1, ih h.2]

theorem prefix_strEq (sub l : List UInt8) : strEq (takeN (sub.map UInt8.toNat).length (l.map UInt8.toNat)) (sub.map UInt8.toNat) = sub.isPrefixOf l := by
  rw [strEq_eq, takeN_eq, List.length_map, ← List.map_take]
  cases h : sub.isPrefixOf l with
  | true =>
    have := List.isPrefixOf_iff_prefix.1 h
    rw [List.prefix_iff_eq_take] at this
    rw [← this]; simp
  | false =>
    simp only [decide_eq_false_iff_not]
    intro e
    have := map_toNat_inj e
    have hp : sub.isPrefixOf l = true := List.isPrefixOf_iff_prefix.2 (List.prefix_iff_eq_take.2 this.symm)
    rw [hp] at h; cases h

theorem indexIn_eq (sub : List UInt8) (hs : sub ≠ []) : ∀ (l : List UInt8) (i : Nat), (match indexIn (sub.map UInt8.toNat) (l.map UInt8.toNat) i with | some k => Lib.index l sub = (k : Int) - i ∧ i ≤ k | none => Lib.index l sub = -1) := by
  intro l
  induction l with
  | nil => intro i; cases sub with
    | nil => exact absurd rfl hs
    | cons => rfl
  | cons x l ih =>
    intro i
    have hp := prefix_strEq sub (x :: l)
    simp only [List.map_cons] at hp ⊢
    simp only [indexIn, Lib.index]
    rw [hp]
    cases h : sub.isPrefixOf (x :: l) with
    | true => simp
    | false =>
      simp only [cond_false, Bool.false_eq_true, if_false]
      have := ih (i + 1)
      cases hq : indexIn (sub.map UInt8.toNat) (l.map UInt8.toNat) (i + 1) with
      | none => rw [hq] at this; simp only at this ⊢; rw [this]; rfl
      | some k =>
        rw [hq] at this
        obtain ⟨t1, t2⟩ := this
        have : ¬ (Lib.index l sub == -1) = true := by rw [t1]; simp; omega
        simp only [this, if_false]
        exact ⟨by rw [t1]; push_cast; omega, by omega⟩

/-- What the library's search answers is what ours does. -/
theorem idx_ok {P : Program} {B : Base} {ρ : Rho} {f : FuncId} {args : List AVal} {h : Hp} {outs : List (AVal × Hp)} {w : World} {us : List Value} (ho : idxR (exIdx args h) = .ok outs) (R : Rel B ρ h w.heap) (hv : VRs ρ args us)
    (hc : ∀ s sub : ByteArray, s.size < 4294967281 → Calls P f #[.string s, .string sub] w fun e w' => e = .returned (.int .i64 (Lib.index s.data.toList sub.data.toList)) ∧ w' = w) : Calls P f ⟨us⟩ w (Ends (ResV B ρ h w outs)) := by
  unfold exIdx at ho
  cases hv with
  | nil => cases ho
  | cons a u as us' ha hs =>
    cases hs with
    | nil => cases ho
    | cons b u2 bs us2 hb hs =>
      cases hq : ok? bs.isEmpty (ob (asStr a) fun a => ob (asStr b) fun b => ok? (Nat.ble 1 b.length && a.length.ble 1048576) (some (natOrMinus (indexIn b a 0), h))) with
      | none => simp only at ho; rw [hq] at ho; cases ho
      | some r =>
        simp only at ho
        rw [hq] at ho
        cases ho
        obtain ⟨g1, g2⟩ := ok?_some hq
        have : bs = [] := List.isEmpty_iff.1 g1
        subst this
        cases hs
        obtain ⟨s, q1, g3⟩ := ob_some g2
        obtain ⟨t, q2, g4⟩ := ob_some g3
        obtain ⟨q3, g5⟩ := ok?_some g4
        cases g5
        have := asStr_some q1; subst this
        have := asStr_some q2; subst this
        obtain ⟨bb, rfl, hbb⟩ := vr_string ha
        obtain ⟨tt, rfl, htt⟩ := vr_string hb
        simp only [Bool.and_eq_true] at q3
        have hlen : bb.size ≤ 1048576 := by
          have := Nat.le_of_ble_eq_true q3.2
          rw [← hbb] at this
          simpa [nums] using this
        have hne : tt.data.toList ≠ [] := by
          intro e
          have := Nat.le_of_ble_eq_true q3.1
          rw [← htt] at this
          simp [nums, e] at this
        refine (hc bb tt (by omega)).mono fun e w' ⟨he, hw⟩ => ?_
        subst he; subst hw
        refine ⟨_, h, ρ, List.mem_singleton.2 rfl, ?_, R, Goes.refl _ _ _⟩
        rw [← hbb, ← htt]
        have e := indexIn_eq tt.data.toList hne bb.data.toList 0
        show VR ρ (natOrMinus (indexIn (tt.data.toList.map UInt8.toNat) (bb.data.toList.map UInt8.toNat) 0)) _
        cases hq : indexIn (tt.data.toList.map UInt8.toNat) (bb.data.toList.map UInt8.toNat) 0 with
        | none =>
          rw [hq] at e
          simp only at e
          rw [e]
          exact natOrMinus_vr none
        | some k =>
          rw [hq] at e
          rw [e.1]
          have := natOrMinus_vr (ρ := ρ) (some k)
          simpa using this

end Go.Am

/- The small machine against the model: tables and errors that lie as a row lists them. -/
namespace Go.Am
open Go.RowKit

/-- A table of whole numbers that is listed. -/
theorem laid_ints {P : Program} {n : String} {k : IntKind} {zs : List Int} {r : List (String × DataW Unit)} {W : World} {g : Nat} {t e : TypeId} {N : Nat} (h : laidMet P ((n, .agg (zs.map fun z => .lit (.int k z))) :: r) W)
    (hg : P.globalNamed n = some g) (ht : (P.globals[g]?).map (·.type) = some t) (hu : P.underlying t = some (.array N e)) (he : P.underlying e = some (.int k)) (hc : P.cellsOf e = 1) (hN : N = zs.length) :
    ∀ (i : Nat) (z : Int), zs[i]? = some z → W.cell? ⟨g, i, none⟩ = some (.int k z) := by
  intro i z hz
  obtain ⟨ps, ⟨g0, t0, cs, fuel, p, q, hg0, ht0, hv, hd, _, _⟩, _, _⟩ := h
  obtain rfl := Option.some.inj (hg.symm.trans hg0)
  obtain rfl := Option.some.inj (ht.symm.trans ht0)
  obtain ⟨xs, m, _, ex, _, hl, hel⟩ := DataW.trod_array hu hd
  have hi : i < zs.length := (List.getElem?_eq_some_iff.1 hz).1
  have hE := hel i (by omega)
  rw [hc, Nat.mul_one, List.getElem?_eq_getElem (by omega)] at hE
  obtain ⟨y, e1, e2, _⟩ := DataW.trod_int he hE
  have e3 : (xs.map (·.1)) = zs.map fun z => .lit (.int k z) := (DataW.agg.inj (Prod.mk.inj ex).1).symm
  have e4 : (xs.map (·.1))[i]? = (zs.map fun z => (DataW.lit (.int k z) : DataW Unit))[i]? := by rw [e3]
  rw [List.getElem?_map, List.getElem?_map, List.getElem?_eq_getElem (by omega : i < xs.length), hz, e2] at e4
  have hy : y = z := by
    simpa using e4
  rw [World.var?_cell hg hv i, ← hy]
  have : cs.toList[i]? = some (.int k y) := by
    have h0 : ((cs.toList.drop i).take 1)[0]? = some (.int k y) := by rw [e1]; rfl
    simpa using h0
  simpa using this

/-- A variable stands as a row of whole numbers. -/
theorem stands_ints {W : World} {g : Nat} {t : TypeId} {cs : Array Value} {k : IntKind} {zs : List Int} (hh : W.heap[g]? = some (.cells cs t)) (hc : ∀ (i : Nat) (z : Int), zs[i]? = some z → W.cell? ⟨g, i, none⟩ = some (.int k z)) :
    CellsR (fun _ => none) (zs.map fun z => .int k z) cs := by
  have hcell : ∀ i, W.cell? ⟨g, i, none⟩ = cs[i]? := fun i => by simp [World.cell?, hh]
  refine ⟨?_, fun i x hx => ?_⟩
  · rw [List.length_map]
    by_cases hz : zs.length = 0
    · omega
    · have hl : zs.length - 1 < zs.length := by omega
      have := hc (zs.length - 1) _ (List.getElem?_eq_getElem hl)
      rw [hcell] at this
      have := (Array.getElem?_eq_some_iff.1 this).1
      omega
  · rw [List.getElem?_map] at hx
    cases hz : zs[i]? with
    | none => rw [hz] at hx; cases hx
    | some z =>
      rw [hz] at hx
      cases hx
      exact ⟨rfl, .int k z, by rw [← hcell]; exact hc i z hz, .int _ _⟩

theorem stands_opq {W : World} {g : Nat} {t u : TypeId} {cs : Array Value} {a : Addr} (hh : W.heap[g]? = some (.cells cs t)) (hc : W.cell? ⟨g, 0, none⟩ = some (.iface u (.pointer (some a)))) : CellsR (fun _ => none) [.iface u .opq] cs := by
  have hcell : ∀ i, W.cell? ⟨g, i, none⟩ = cs[i]? := fun i => by simp [World.cell?, hh]
  rw [hcell] at hc
  refine ⟨by have := (Array.getElem?_eq_some_iff.1 hc).1; simp; omega, fun i x hx => ?_⟩
  cases i with
  | zero => simp only [List.getElem?_cons_zero, Option.some.injEq] at hx; subst hx; exact ⟨rfl, _, hc, .iface _ _ _ (.opq a)⟩
  | succ i => simp at hx

/-! ### The row -/

section
variable {H : Type} {enc : TypeId × Value → H}

/-- The wrap that hands on both what is listed and the world's shape. -/
theorem returnsInHanded_and_shaped {a : Assume} {C : Checked} {os : Os} {f : FuncId} {fn : Func} {s : ChangeSpec} {conds : List PathCond} {apart fresh handsOn again : Bool} {X : World → Array Value → Prop}
    (hX : ∀ (w w' : World) (args : Array Value), w.heap = w'.heap → X w args → X w' args)
    (own : ownKnob C.prog.godebug = none) (started : os.Started) (noInit : C.prog.inits.idxOf? f = none) (hfn : C.prog.funcs[f]? = some fn)
    (witness : ∃ (w : World) (tape : Tape) (i : Input), w.os = os ∧ (w.forCall tape i).Shaped C.prog ∧ i.vars = [] ∧ Input.okWide C.prog (w.forCall tape i) .any w.heap.size f i ∧
      ((s.pre enc C.prog fn conds apart (w.forCall tape i).memory i.args ∧ X (w.forCall tape i).memory i.args) ∧ sizedMet enc C.prog fn (OpenSpec.ofChange s) apart (w.forCall tape i).memory i.args) ∧ a.holds C.prog (lone (Frame.enter C.prog f i.args .normal) [] (w.forCall tape i)))
    (contract : ∀ (W : World) (base : Nat) (args : Array Value) (ds gs : List (DataW H)) (before : List MemPlace),
      (∀ (j : Nat) t v, fn.params[j]? = some t → args[j]? = some v → Value.okWide C.prog W .any base t v) →
      DataW.Whole enc C.prog fn.params.toList s.vars apart W args.toList ds gs before →
      conds.all (PathCond.test C.prog ⟨fn.params.toList, ds, s.plain.varTypes C.prog, gs⟩) = true →
      (DataW.weightsEach C.prog (fn.params.toList ++ s.plain.varTypes C.prog) (ds ++ gs)).all (· ≤ reachBytes) = true → X W args → W.ShapedOpen C.prog →
      a.holds C.prog (lone (Frame.enter C.prog f args .normal) [] W) →
      Calls C.prog f args W fun e W' => ∃ v, e = .returned v ∧ s.post enc C.prog fn apart fresh handsOn again W args v W') :
    ReturnsInHanded a C os f .any (fun w args => (s.pre enc C.prog fn conds apart w args ∧ X w args) ∧ sizedMet enc C.prog fn (OpenSpec.ofChange s) apart w args) (s.post enc C.prog fn apart fresh handsOn again) := by
  refine returnsInHanded_of_calls own started noInit witness ?_
  intro w tape i _ hsh _ hok hpre hholds
  obtain ⟨_, _, _, fn', hfn', _, _, _, _, hval⟩ := hok
  have e : fn' = fn := Option.some.inj (hfn'.symm.trans hfn)
  subst e
  obtain ⟨⟨⟨ds, gs, before, hw, hc⟩, hx⟩, hz⟩ := hpre
  have hw' := DataW.Whole.of_heap (w' := w.forCall tape i) (by rfl) hw
  refine (contract (w.forCall tape i) w.heap.size i.args ds gs before hval hw' hc (hz.weights hw) (hX _ _ _ (by rfl) hx) hsh hholds).mono fun e W' ⟨v, he, hp⟩ => ?_
  subst he
  exact ChangeSpec.post_blind hp

variable {P : Program}
open Go.ChangeShapes Go.WideShapes in
/-- What was there stands as it stood: what a row asks behind a call that is not made again. -/
theorem post_calm {f : Func} {s : ChangeSpec} {apart fresh handsOn : Bool} {W W' : World} {args : Array Value} {v : Value} {ds gs : List (DataW H)} {before pa pv : List MemPlace}
    (hW : DataW.Whole enc P f.params.toList s.vars apart W args.toList ds gs before)
    (hres : DataW.TrodAll enc P W' (match fresh with | true => W.heap.size | false => 0) (fun _ => false) handsOn f.resultTypes.toList (v.resultList f.resultTypes.size) (s.fn H (ds ++ gs)).results [])
    (hargs : DataW.TrodAll enc P W' 0 (fun b => decide (b < W.heap.size)) true f.params.toList args.toList (s.fn H (ds ++ gs)).args pa)
    (hvars : DataW.TrodVars enc P W' (fun b => decide (b < W.heap.size)) s.vars (s.fn H (ds ++ gs)).vars pv)
    (hps : before = pa ++ pv) (hb : Below W.heap.size W W') : s.post enc P f apart fresh handsOn false W args v W' :=
  ⟨ds, gs, before, [], pa, pv, hW, hres, hargs, hvars, World.keptBut_mono (fun p hp => ⟨hp, .inr (by rw [hps, List.mem_append] at hp; exact hp)⟩) (hb.frame (· ∈ before)), fun h => by cases h⟩

end
end Go.Am

end
