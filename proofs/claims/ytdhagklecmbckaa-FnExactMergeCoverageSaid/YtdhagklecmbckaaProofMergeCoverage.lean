/-
  MergeCoverage of the program and MergeCoverage of the reference return the same, for all arguments: the law FnExactMergeCoverage returns true and leaves its arguments as they were. No condition.
-/
import Derived.Test.YtdhagklecmbckaaOuter
import Derived.Test.YtdhagklecmbckaaLawMerge
namespace Go.Proofs.Ytdhagklecmbckaa
open Go.ChangeShapes Go.WideShapes Go.ChangeAt Go.RowKit
open Go.ChangeMaps (open_string shut_string)
set_option linter.unusedVariables false

theorem wrap_at0 {l : List Int} (h : ∀ x ∈ l, (Lit.int .i64 x).wf = true) (i : Nat) : wrap64 (at0 l i) = at0 l i := by
  by_cases hi : i < l.length
  · rw [at0_in hi]
    have hb := bounds_i64 (h l[i] (List.getElem_mem hi))
    exact IntWalk.wrap64_in _ hb
  · rw [at0_out hi]; exact IntWalk.wrap64_in 0 (by omega)
theorem fnExactMergeCoverage_in (W : World) {A A' : Option Addr} {l l' : List Int} {c c' : Nat} (h : RdI W A l c) (h' : RdI W A' l' c') : Gives Try.prog 8 #[.slice A l.length c, .slice A' l'.length c'] W (.bool true) := lawMerge_c A A' l l' c c' W h.1 h'.1 (wrap_at0 h.2)
namespace fnExactMergeCoverage
set_option maxRecDepth 100000 in
theorem lifted (os : Os) (started : os.Started) (H : Type) (enc : TypeId × Value → H) :
    ReturnsInHanded {} Try.checked os 8 .any (Rows.fnExactMergeCoverageSpec.pre6 enc Try.prog Try.f8 Rows.fnExactMergeCoverageRow.domain false) (Rows.fnExactMergeCoverageSpec.post enc Try.prog Try.f8 false true false false) := by
  refine returnsInHanded_of_change (C := Try.checked) own started (by kernel_rfl) Try.func8
    (ChangeSpec.witness6 (enc := enc) (C := Try.checked) false ⟨#[], #[.slice none 0 0, .slice none 0 0], []⟩ 8 (by kernel_rfl) (by kernel_rfl) (by kernel_rfl) (by kernel_rfl)) ?_
  intro W base args ds gs before hval0 hW hcnd _
  have hval : ∀ (j : Nat) t v, Try.f8.params[j]? = some t → args[j]? = some v → Value.okWide Try.prog W .any base t v := hval0
  have hW' := hW
  obtain ⟨p, q, hA0, hV, rfl, hfz, hnd⟩ := hW
  have hA : DataW.TrodAll enc Try.prog W 0 (fun _ => true) true Try.f8.params.toList args.toList ds p := hA0
  rw [Try.params8] at hA hval
  obtain ⟨v0, vs0, d0, ds0, p0, q0, hargs, rfl, rfl, h0, r0⟩ := trodAll_cons hA
  obtain ⟨v1, vs1, d1, ds1, p1, q1, rfl, rfl, rfl, h1, r1⟩ := trodAll_cons r0
  obtain ⟨rfl, rfl, rfl⟩ := trodAll_nil r1
  obtain rfl : args = #[v0, v1] := by cases args; simp_all
  obtain ⟨rfl, rfl⟩ := trodVars_none hV
  have lt0 : ∀ x ∈ p0, x.block < W.heap.size := by obtain ⟨m, hm⟩ := h0; exact DataW.trod_lt m _ _ _ hm
  have g0 := h0
  obtain ⟨a0, len0, cap0, rfl⟩ := okWide_slice Try.underlying42 (hval 0 42 v0 rfl rfl)
  obtain ⟨A0, l0, c0, e0, w0⟩ : ∃ A l c, Value.slice a0 len0 cap0 = .slice A (List.length l) c ∧ RdI W A l c := by obtain ⟨m, hm⟩ := g0; exact in_ints Try.underlying42 Try.underlying3 (by kernel_rfl) hm
  have lt1 : ∀ x ∈ p1, x.block < W.heap.size := by obtain ⟨m, hm⟩ := h1; exact DataW.trod_lt m _ _ _ hm
  have g1 := h1
  obtain ⟨a1, len1, cap1, rfl⟩ := okWide_slice Try.underlying42 (hval 1 42 v1 rfl rfl)
  obtain ⟨A1, l1, c1, e1, w1⟩ : ∃ A l c, Value.slice a1 len1 cap1 = .slice A (List.length l) c ∧ RdI W A l c := by obtain ⟨m, hm⟩ := g1; exact in_ints Try.underlying42 Try.underlying3 (by kernel_rfl) hm
  clear hA0 hval0
  have hcall : Gives Try.prog 8 #[(.slice a0 len0 cap0), (.slice a1 len1 cap1)] W (.bool true) := by
    rw [e0]
    rw [e1]
    exact fnExactMergeCoverage_in W w0 w1
  refine hcall.mono fun e W' ⟨he, bel⟩ => ?_
  subst he
  exact ⟨_, rfl, _, _, _, [], _, [], hW', trodAll_mk1 (shut_bool Try.underlying4 _), (trodAll_cons_mk (Below.trod laidOut (by kernel_rfl) (of_decide_eq_true (by kernel_rfl)) h0 bel lt0) (trodAll_cons_mk (Below.trod laidOut (by kernel_rfl) (of_decide_eq_true (by kernel_rfl)) h1 bel lt1) trodAll_mk0)), rfl, Below.frame bel _, fun h => by cases h⟩
theorem closed : joinedFacts Try.prog 8 Try.f8 Rows.fnExactMergeCoverageSpec Rows.fnExactMergeCoverageRow = true := by
  unfold joinedFacts
  refine and_ (and_ (and_ (and_ (and_ (and_ (and_ (and_ (and_ (and_ (and_ (and_ (and_ (and_ (and_ (and_ (and_ (and_ (and_ (and_ (and_ (and_ (and_ (and_ (and_ (and_ (and_ (and_ (and_ (and_ (and_ ?_ ?_) ?_) ?_) ?_) ?_) ?_) ?_) ?_) ?_) ?_) ?_) ?_) ?_) ?_) ?_) ?_) ?_) ?_) ?_) ?_) ?_) ?_) ?_) ?_) ?_) ?_) ?_) ?_) ?_) ?_) ?_
  · as_aux_lemma => kernel_rfl
  · exact fact_laid
  · exact fact_maps
  · as_aux_lemma => kernel_rfl
  · as_aux_lemma => kernel_rfl
  · as_aux_lemma => kernel_rfl
  · exact fact_stops
  · as_aux_lemma => kernel_rfl
  · exact fact_knobs
  · as_aux_lemma => kernel_rfl
  · as_aux_lemma => kernel_rfl
  · as_aux_lemma => kernel_rfl
  · as_aux_lemma => kernel_rfl
  · as_aux_lemma => kernel_rfl
  · as_aux_lemma => kernel_rfl
  · as_aux_lemma => kernel_rfl
  · as_aux_lemma => kernel_rfl
  · as_aux_lemma => kernel_rfl
  · as_aux_lemma => kernel_rfl
  · as_aux_lemma => kernel_rfl
  · as_aux_lemma => kernel_rfl
  · as_aux_lemma => kernel_rfl
  · as_aux_lemma => kernel_rfl
  · as_aux_lemma => kernel_rfl
  · exact fact_heard
  · exact fact_enter
  · exact fact_final'
  · exact fact_make'
  · as_aux_lemma => kernel_rfl
  · as_aux_lemma => kernel_rfl
  · as_aux_lemma => kernel_rfl
  · as_aux_lemma => kernel_rfl
theorem over : Rows.fnExactMergeCoverageRow.holds Try.pinned (OpenSpec.ofChange Rows.fnExactMergeCoverageSpec) :=
  OpenClaim.holds_of_wide 8 Try.f8 rfl rfl rfl rfl rfl rfl rfl ⟨rfl, rfl, rfl, rfl, rfl⟩ rfl rfl rfl rfl rfl (by kernel_rfl) Try.func8 closed
    (of_decide_eq_true (by kernel_rfl)) (by unfold Func.isWrapper; first | (rw [if_pos (by decide +kernel)]; kernel_rfl) | (rw [if_neg (by decide +kernel)]; exact ⟨rfl, rfl⟩))
    (fun os started H enc _ => lifted os started H enc)
theorem proved : Rows.FnExactMergeCoverageSaid := over
end fnExactMergeCoverage
#print axioms fnExactMergeCoverage.proved
end Go.Proofs.Ytdhagklecmbckaa
