/-
  FnExactViewMerge: for every input the law returns true and leaves its arguments as they were. No conditions.
  (The frame follows the kit's proof-skeleton; the walk is ours.)
-/
import Derived.Test.YtmjacdcefaohcaaDoorRows
import Derived.Test.YtmjacdcefaohcaaDoorHead
import Derived.Test.YtmjacdcefaohcaaDoorOpen
import Derived.Test.YtmjacdcefaohcaaDoorDoor
import Derived.Test.YtmjacdcefaohcaaDoorCards
import Derived.Test.YtmjacdcefaohcaaDoorTie
import Derived.SevenTiedAt
import Derived.Test.YtmjacdcefaohcaaDoorWEViewMerge
import Derived.WalkKit
import Derived.ProofKit
import Derived.OpenShut
import Derived.ShutString
import Derived.ChangeOld
import Derived.Below
namespace Go.Proofs.YtmjacdcefaohcaaDoor.fnExactViewMerge
open Go.ChangeShapes Go.WideShapes Go.ChangeAt Go.RowKit
set_option linter.unusedVariables false

set_option maxRecDepth 100000 in
theorem lifted (os : Os) (started : os.Started) (H : Type) (enc : TypeId × Value → H) :
    ReturnsInHanded {} Tryd.checked os 15 .any (fun w args => (Rows.fnExactViewMergeSpec.pre enc Tryd.prog Tryd.f15 [] false w args ∧ laidMetH Tryd.prog laidE w) ∧ sizedMet enc Tryd.prog Tryd.f15 (OpenSpec.ofChange Rows.fnExactViewMergeSpec) false w args) (Rows.fnExactViewMergeSpec.post enc Tryd.prog Tryd.f15 false true false false) := by
  refine returnsInHanded_of_change_and (C := Tryd.checked) (X := fun w _ => laidMetH Tryd.prog laidE w) (fun _ _ _ hh h => h.of_heap hh) own started (by kernel_rfl) Tryd.func15
    (ChangeSpec.witness_shaped (enc := enc) (C := Tryd.checked) (os := os) (X := fun w _ => laidMetH Tryd.prog laidE w) false (World.doorLaid Tryd.prog 28 os) #[.agg #[.int .i64 0, .slice none 0 0], .agg #[.int .i64 0, .slice none 0 0]] 8 rfl (World.shaped_of_RefB (by kernel_rfl) (by kernel_rfl)) (by kernel_rfl) (by kernel_rfl) (by kernel_rfl) (door_met os _)) ?_
  intro W base args ds gs before hval0 hW _ _ hL _
  have hval : ∀ (j : Nat) t v, Tryd.f15.params[j]? = some t → args[j]? = some v → Value.okWide Tryd.prog W .any base t v := hval0
  have hW' := hW
  obtain ⟨p, q, hA0, hV, rfl, hfz, hnd⟩ := hW
  have hA : DataW.TrodAll enc Tryd.prog W 0 (fun _ => true) true Tryd.f15.params.toList args.toList ds p := hA0
  rw [Tryd.params15] at hA hval
  obtain ⟨v0, vs0, d0, ds0, p0, q0, hargs, rfl, rfl, h0, r0⟩ := trodAll_cons hA
  obtain ⟨v1, vs1, d1, ds1, p1, q1, rfl, rfl, rfl, h1, r1⟩ := trodAll_cons r0
  obtain ⟨rfl, rfl, rfl⟩ := trodAll_nil r1
  obtain rfl : args = #[v0, v1] := by cases args; simp_all
  have hV' : DataW.TrodVars enc Tryd.prog W (fun _ => true) [vn] gs q := hV
  obtain ⟨ea, hv0, hsent⟩ := sent_of_laid hL
  obtain ⟨rfl, rfl⟩ := hV'.unique (vars_read1 enc gE gEType Tryd.underlying57 hv0 trivial _)
  have k0 := h0
  have lt0 : ∀ x ∈ p0, x.block < W.heap.size := by obtain ⟨m, hm⟩ := k0; exact DataW.trod_lt m _ _ _ hm
  obtain ⟨q0, A0, n0, c0, xs0, rfl, wf0, hn0, hx0⟩ := openView (hval 0 41 v0 rfl rfl) h0
  have k1 := h1
  have lt1 : ∀ x ∈ p1, x.block < W.heap.size := by obtain ⟨m, hm⟩ := k1; exact DataW.trod_lt m _ _ _ hm
  obtain ⟨q1, A1, n1, c1, xs1, rfl, wf1, hn1, hx1⟩ := openView (hval 1 41 v1 rfl rfl) h1
  clear hA0 hval0
  refine (exViewMerge_walk q0 A0 n0 c0 xs0 q1 A1 n1 c1 xs1 ea W wf0 hn0 hx0 wf1 hn1 hx1 hsent).mono fun e W' ⟨he, bel⟩ => ?_
  subst he
  have hv1 := var?_below gE hv0 bel hsent.lt
  exact ⟨_, rfl, _, _, _, [], _, [.cell 0 0], hW', trodAll_mk1 (shut_bool Tryd.underlying4 _), (trodAll_cons_mk (Below.trod laidOut (by kernel_rfl) (of_decide_eq_true (by kernel_rfl)) k0 bel lt0) (trodAll_cons_mk (Below.trod laidOut (by kernel_rfl) (of_decide_eq_true (by kernel_rfl)) k1 bel lt1) trodAll_mk0)), vars_read1 enc gE gEType Tryd.underlying57 hv1 trivial _, bel.frame _, fun h => by cases h⟩

theorem closed : joinedFacts Tryd.prog 15 Tryd.f15 Rows.fnExactViewMergeSpec Rows.fnExactViewMergeRow = true := by
  have me := fact_mayEnter
  have li : (Rows.fnExactViewMergeRow.lifted == Tryd.prog.liftsFinal) = true := by rw [fact_lifts]; rfl
  have mk : (Tryd.prog.make == some Rows.fnExactViewMergeRow.make) = true := by rw [fact_make]; rfl
  unfold joinedFacts
  repeat' (with_reducible refine and_intro ?_ ?_)
  all_goals first
    | with_reducible exact me
    | with_reducible exact li
    | with_reducible exact mk
    | (as_aux_lemma => kernel_rfl)

theorem over : Rows.fnExactViewMergeRow.holds Tryd.pinned (OpenSpec.ofChange Rows.fnExactViewMergeSpec) :=
  OpenClaim.holds_of_wide 15 Tryd.f15 rfl rfl rfl rfl rfl rfl rfl ⟨rfl, rfl, rfl, rfl, rfl⟩ rfl rfl rfl rfl rfl (by kernel_rfl) Tryd.func15 closed
    (of_decide_eq_true (by kernel_rfl)) (by unfold Func.isWrapper; first | (rw [if_pos (by decide +kernel)]; kernel_rfl) | (rw [if_neg (by decide +kernel)]; exact ⟨rfl, rfl⟩))
    (fun os started H enc _ => lifted os started H enc)

/-- The card. -/
theorem proved : Rows.FnExactViewMergeCardSaid :=
  Claim7.holds_tied_plain_at .later [] [.sentinel] true _ true
    over (fun _ h => by cases h) (by kernel_rfl) (fun _ h => by cases h) fnExactViewMerge_row_tie rfl ⟨rfl, rfl⟩ (by kernel_rfl) rfl
    (fun f fn hf hfn => by
      obtain rfl : f = 15 := Option.some.inj ((show Tryd.prog.funcNamed Rows.fnExactViewMergeRow.func = some 15 by kernel_rfl).symm.trans hf) |>.symm
      obtain rfl : fn = Tryd.f15 := (Option.some.inj (Tryd.func15.symm.trans hfn)).symm
      exact ⟨by kernel_rfl, fun j t ht => by
        rw [Tryd.params15] at ht
        rcases j with _ | _ | j
        all_goals simp at ht
        all_goals (subst ht; kernel_rfl)⟩)
    (by kernel_rfl)
#print axioms proved
end Go.Proofs.YtmjacdcefaohcaaDoor.fnExactViewMerge
