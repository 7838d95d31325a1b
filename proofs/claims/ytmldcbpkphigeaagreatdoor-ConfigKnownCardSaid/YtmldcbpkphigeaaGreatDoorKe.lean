/- What ties the small machine to this program; wakes and ConfigKnown answer true. -/
import Derived.Test.YtmldcbpkphigeaaGreatDoorKb
import Derived.Test.YtmldcbpkphigeaaGreatDoorKc
import Derived.Test.YtmldcbpkphigeaaGreatDoorKd
import Derived.Test.YtmldcbpkphigeaaGreatDoorA7
import Derived.Shelf.Vars
namespace Go.Proofs.YtmldcbpkphigeaaGreatDoor
open Go Go.Am Go.RowKit

theorem tiesW : Ties Tryz.prog cxW := ties_of (L := plainK) (by kernel_rfl) (by kernel_rfl) fieldsK (by kernel_rfl) plainsK (fun t k h => by cases h)
theorem scalI_ok : ∀ t k, scalI t = some k → ∃ i d, Tryz.prog.info? t = some i ∧ i.comparable = true ∧ Tryz.prog.underlying t = some d ∧ tdScalar d = some k := by
  intro t k h
  unfold scalI at h
  cases ht : Nat.beq t 307 with
  | false => rw [ht] at h; cases h
  | true =>
    rw [ht] at h; cases h
    have := Nat.eq_of_beq_eq_true ht; subst this
    obtain ⟨i, h1, h2⟩ := Option.map_eq_some_iff.1 (show (Tryz.prog.info? 307).map (fun i => i.comparable) = some true by kernel_rfl)
    exact ⟨i, .int .i64, h1, h2, by kernel_rfl, rfl⟩
theorem tiesI : Ties Tryz.prog cxI := ties_of (L := plainK) (by kernel_rfl) (by kernel_rfl) fieldsK (by kernel_rfl) plainsK scalI_ok
theorem ties3W : Ties3 cxW 8 ∧ ∀ f fn code, cxW.fns.get f = some fn → fn.body = some code → OwnFn Tryz.prog f := ties3_of (by kernel_rfl) codesK
theorem ties3I : Ties3 cxI 8 ∧ ∀ f fn code, cxI.fns.get f = some fn → fn.body = some code → OwnFn Tryz.prog f := ties3_of (by kernel_rfl) codesK
theorem ties2W (B : Base) : Ties2 Tryz.prog cxW B 8 := ⟨extK_ok, ties3W.2, fun f args h outs ho => by cases ho⟩
theorem own184 : OwnFn Tryz.prog 184 := by
  obtain ⟨c, hc⟩ := Option.isSome_iff_exists.1 (show Tryz.f184.body.isSome = true by kernel_rfl)
  exact ⟨Tryz.f184, c, Tryz.func184, by kernel_rfl, hc⟩
theorem ties2I {W : World} (hn : 0 < W.heap.size) {m : Int} (hm : W.cell? ⟨0, 0, none⟩ = some (.int .i64 m)) : Ties2 Tryz.prog cxI (baseOf W) 8 := by
  refine ⟨extK_ok, ties3I.2, fun f args h outs ho => ?_⟩
  have ho : orcI f args h = some (.ok outs) := ho
  unfold orcI at ho
  cases hf : Nat.beq f 184 with
  | false => rw [hf] at ho; cases ho
  | true =>
    rw [hf] at ho
    have := Nat.eq_of_beq_eq_true hf; subst this
    have ho := Option.some.inj ho
    refine ⟨own184, fun ρ w us _ R hv => idx_ok ho R hv fun s sub hs => Tryz.stringslite_Index s sub m w hs ?_⟩
    have := R.kept 0 hn
    rw [← hm]
    exact World.cell?_of_block this

/-- wakes answers true, in whatever world. -/
theorem wakes_calls (W : World) (hW : 8 ≤ W.heap.size) : Calls Tryz.prog 30 #[] W fun e w' => e = .returned (.bool true) ∧ Below W.heap.size W w' :=
  true_of tiesW (ties2W _) ties3W.1 wakesK hW (fun b o h => by rw [Tr.get_leaf] at h; cases h)

/-! ### What the world's shape tells -/

theorem rows_of {W : World} (h : W.ShapedOpen Tryz.prog) : (∃ cs, W.heap[1]? = some (.cells cs 296)) ∧ (∃ cs, W.heap[4]? = some (.cells cs 203)) ∧ ∃ cs, W.heap[7]? = some (.cells cs 319) := by
  have key : ∀ (g t : Nat), g < Tryz.prog.globals.size → (((begin Tryz.prog (fun _ _ => 0) default).world.heap[g]?).bind Obj.row?).map (·.2) = some t → ∃ cs, W.heap[g]? = some (.cells cs t) := by
    intro g t hg h0
    obtain ⟨⟨z, t'⟩, h1, h2⟩ := Option.map_eq_some_iff.1 h0
    simp only at h2; subst h2
    obtain ⟨cs, h3, _⟩ := h.1 g z t' hg h1
    exact ⟨cs, h3⟩
  exact ⟨key 1 296 (of_decide_eq_true (by kernel_rfl)) (by kernel_rfl), key 4 203 (of_decide_eq_true (by kernel_rfl)) (by kernel_rfl), key 7 319 (of_decide_eq_true (by kernel_rfl)) (by kernel_rfl)⟩

theorem maxLen_of {W : World} (h : W.ShapedOpen Tryz.prog) : ∃ m, W.cell? ⟨0, 0, none⟩ = some (.int .i64 m) := by
  obtain ⟨⟨z, t⟩, h1, h2⟩ := Option.map_eq_some_iff.1 (show (((begin Tryz.prog (fun _ _ => 0) default).world.heap[0]?).bind Obj.row?).map (fun r => (r.1.size, r.2)) = some (1, 3) by kernel_rfl)
  simp only [Prod.mk.injEq] at h2
  obtain ⟨h3, rfl⟩ := h2
  exact cell_of_shapedOpen_int h (of_decide_eq_true (by kernel_rfl)) h1 h3 (by kernel_rfl) (by kernel_rfl) Tryz.underlying3

theorem row321 (u : TypeId) (hu : Tryz.prog.typeName? 3 u = some "*errors.errorString") : u = 321 :=
  typeName_ptr_named (nm := "errors.errorString") (by kernel_rfl) (by kernel_rfl) (by decide) u hu

theorem stands_of {W : World} (hsh : W.ShapedOpen Tryz.prog) (hL : laidMet Tryz.prog Rows.configKnownRow.laid W) : Stands W 8 glob0 := by
  obtain ⟨⟨c1, h1⟩, ⟨c4, h4⟩, ⟨c7, h7⟩⟩ := rows_of hsh
  have g64 := laid_ints (k := .u8) (zs := [0, 1, 56, 2, 57, 49, 28, 3, 61, 58, 42, 50, 38, 29, 17, 4, 62, 47, 59, 36, 45, 43, 51, 22, 53, 39, 33, 30, 24, 18, 12, 5, 63, 55, 48, 27, 60, 41, 37, 16, 46, 35, 44, 21, 52, 32, 23, 11, 54, 26, 40, 15, 34, 20, 31, 10, 25, 14, 19, 9, 13, 8, 7, 6]) (g := 7) (t := 319) (e := 5) hL.tail (by kernel_rfl) (by kernel_rfl) Tryz.underlying319 Tryz.underlying5 (by kernel_rfl) rfl
  have g10 := laid_ints (k := .u64) (zs := [1, 10, 100, 1000, 10000, 100000, 1000000, 10000000, 100000000, 1000000000, 10000000000, 100000000000, 1000000000000, 10000000000000, 100000000000000, 1000000000000000, 10000000000000000, 100000000000000000, 1000000000000000000, 10000000000000000000]) (g := 1) (t := 296) (e := 255) hL.tail.tail (by kernel_rfl) (by kernel_rfl) Tryz.underlying296 Tryz.underlying255 (by kernel_rfl) rfl
  obtain ⟨a, _, hv, _⟩ := laid_sentinel (te := 323) (ts := 9) (tp := 321) (ti := 203) (g := 4) hL.tail.tail.tail.tail.tail (by kernel_rfl) (by kernel_rfl) Tryz.underlying203 row321 Tryz.underlying321 Tryz.underlying323 rfl rfl Tryz.underlying9 (by kernel_rfl) (by kernel_rfl)
  have herr : W.cell? ⟨4, 0, none⟩ = some (.iface 321 (.pointer (some a))) := by
    rw [World.var?_cell (show Tryz.prog.globalNamed "strconv.ErrSyntax" = some 4 by kernel_rfl) hv 0]; rfl
  intro b o hb
  unfold glob0 at hb
  rw [Tr.get_set] at hb
  by_cases e7 : b = 7
  · rw [if_pos e7] at hb
    cases hb; subst e7
    exact ⟨by omega, _, _, c7, _, rfl, h7, stands_ints h7 g64⟩
  · rw [if_neg e7, Tr.get_set] at hb
    by_cases e4 : b = 4
    · rw [if_pos e4] at hb
      cases hb; subst e4
      exact ⟨by omega, _, _, c4, _, rfl, h4, stands_opq h4 herr⟩
    · rw [if_neg e4, Tr.get_set] at hb
      by_cases e1 : b = 1
      · rw [if_pos e1] at hb
        cases hb; subst e1
        exact ⟨by omega, _, _, c1, _, rfl, h1, stands_ints h1 g10⟩
      · rw [if_neg e1, Tr.get_leaf] at hb; cases hb
end Go.Proofs.YtmldcbpkphigeaaGreatDoor
