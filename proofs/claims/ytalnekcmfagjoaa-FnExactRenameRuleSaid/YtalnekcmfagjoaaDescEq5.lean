/- Comparison of registries. -/
import Derived.Test.YtalnekcmfagjoaaDescEq4
namespace Go.Proofs.Ytalnekcmfagjoaa
open Go.RowKit Go.Sort

set_option maxHeartbeats 400000 in
theorem eqDescription_c (A A' : Option Addr) (ds es : List DRule) (c c' : Nat) (w : World) (h : RdD w A ds c) (h' : RdD w A' es c') (hs : ShortD ds) (hs' : ShortD es) :
    Gives Try.prog 11 #[vdesc (.slice A ds.length c), vdesc (.slice A' es.length c')] w (.bool (eqD ds es)) := by
  have C := Lib.hid (fun w h h' => eqRuleS_c A A' ds es c c' w h h' hs hs')
  have eb := Ext_alloc (.cells #[.slice A' es.length c'] 28) (Ext_alloc (.cells #[.slice A ds.length c] 28) (Ext.refl w))
  unfold vdesc
  generalize eqD ds es = z at *
  cases z
  all_goals
    go_enter Try.func11, Try.ntmps11
    go_wp2_with fail
    refine (C.out _ (h.ext eb) (h'.ext eb)).mono ?_; rintro _ w1 ⟨rfl, he1⟩
    go_wp2
    go_ret
    exact ⟨rfl, eb.trans he1⟩
set_option maxRecDepth 100000 in
set_option maxHeartbeats 4000000 in
theorem eqDescriptionS_c (A A' : Option Addr) (ds es : List (List DRule)) (c c' : Nat) (w : World) (h : RdG w A ds c) (h' : RdG w A' es c') (hs : ShortG ds) (hs' : ShortG es) :
    Gives Try.prog 47 #[.slice A ds.length c, .slice A' es.length c'] w (.bool (eqG ds es)) := by
  have hl := h.len; have hl' := h'.len
  have eb := Ext.refl w
  by_cases hn : ds.length = es.length
  · have hb1 : ((ds.length : Int) != (es.length : Int)) = false := by simp [hn]
    have H := Lib.hid hn; clear hn
    go_enter Try.func47, Try.ntmps47
    go_wp2
    go_loopw [5] (fun i wr => ∃ k : Nat, k ≤ ds.length ∧ i = .int .i64 k ∧ Hid (∀ j (h1 : j < ds.length) (h2 : j < es.length), j < k → eqD ds[j] es[j] = true) ∧ Ext w wr) (fun i _ => ds.length - (intOf i).toNat)
    case atStart => exact ⟨0, by omega, rfl, (fun j _ _ hj => by omega), Ext.refl _⟩
    case round =>
      obtain ⟨k, hk, rfl, ht, he⟩ := hrel
      by_cases hlt : k < ds.length
      · have hlt' : k < es.length := by have := H.out; omega
        obtain ⟨b, off, A1, c1, rfl, hb, hS, k0⟩ := h.at k hlt
        obtain ⟨b', off', A1', c1', rfl, hb', hS', j0⟩ := h'.at k hlt'
        have s1 := hs _ (List.getElem_mem hlt); have s2 := hs' _ (List.getElem_mem hlt')
        have NO : Hid (eqD ds[k] es[k] = false → eqG ds es = false) := eqAll_take _ ds es k hlt hlt'
        have YES : Hid (eqD ds[k] es[k] = true → ∀ j (h1 : j < ds.length) (h2 : j < es.length), j < k + 1 → eqD ds[j] es[j] = true) := by
          intro hy j h1 h2 hj
          rcases (by omega : j < k ∨ j = k) with hj | rfl
          · exact ht.out j h1 h2 hj
          · exact hy
        generalize ds[k] = r at *
        generalize es[k] = q at *
        have CE := Lib.hid (fun w h h' => eqDescription_c A1 A1' r q c1 c1' w h h' s1 s2)
        generalize eqD r q = z at *
        replace k0 := fun w' (e : Ext _ w') => k0 w' (eb.trans e)
        replace j0 := fun w' (e : Ext _ w') => j0 w' (eb.trans e)
        unfold vdesc at CE
        have H1 := Lib.hid (fun w' (e : Ext _ w') => hS.ext (eb.trans e)); have H2 := Lib.hid (fun w' (e : Ext _ w') => hS'.ext (eb.trans e))
        clear h h' s1 s2 hS hS' hs hs'
        have HT := ht; clear ht
        go_wp2_with fail
        refine wp_region_quiet_below (by kernel_rfl) (by kernel_rfl) ?_
        repeat (go_big_quiet_step ((go_at_call 11; exact Calls.regrown_of (CE.out _ (H1.out _ (by first | assumption | exact Ext_regrown _ _ he)) (H2.out _ (by first | assumption | exact Ext_regrown _ _ he))))))
        refine wpQuiet_nil ?_
        rintro w1 ⟨⟨nq, osq⟩, hq⟩
        have ew1 := ext_of_q hq
        clear hq nq osq
        have he1 := he.trans ew1
        cases z
        · have NO' := Lib.hid (NO.out rfl); clear NO YES
          go_wp2
          go_ret
          exact ⟨ret_bool NO'.out.symm, eb.trans he1⟩
        · have YES' := Lib.hid (YES.out rfl); clear NO YES
          go_wp2
          go_roundw
          case rel => exact ⟨k+1, by omega, by go_num, YES'.out, he1⟩
          case measure => simp [intOf]; omega
      · have hk' : k = ds.length := by omega
        have HE : Hid (eqG ds es = true) := eqAll_all _ _ _ H.out (fun j h1 h2 => ht.out j h1 h2 (by omega))
        go_wp2
        go_ret
        exact ⟨ret_bool HE.out.symm, eb.trans he⟩
  · have hb1 : ((ds.length : Int) != (es.length : Int)) = true := by simp; omega
    have HE : Hid (eqG ds es = false) := eqAll_len _ _ _ hn
    go_enter Try.func47, Try.ntmps47
    go_wp2
    go_ret
    exact ⟨ret_bool HE.out.symm, eb⟩
set_option maxHeartbeats 400000 in
theorem eqRegistry_c (A A' : Option Addr) (ds es : List (List DRule)) (c c' : Nat) (w : World) (h : RdG w A ds c) (h' : RdG w A' es c') (hs : ShortG ds) (hs' : ShortG es) :
    Gives Try.prog 18 #[vdesc (.slice A ds.length c), vdesc (.slice A' es.length c')] w (.bool (eqG ds es)) := by
  have C := Lib.hid (fun w h h' => eqDescriptionS_c A A' ds es c c' w h h' hs hs')
  have eb := Ext_alloc (.cells #[.slice A' es.length c'] 41) (Ext_alloc (.cells #[.slice A ds.length c] 41) (Ext.refl w))
  unfold vdesc
  generalize eqG ds es = z at *
  cases z
  all_goals
    go_enter Try.func18, Try.ntmps18
    go_wp2_with fail
    refine (C.out _ (h.ext eb) (h'.ext eb)).mono ?_; rintro _ w1 ⟨rfl, he1⟩
    go_wp2
    go_ret
    exact ⟨rfl, eb.trans he1⟩
end Go.Proofs.Ytalnekcmfagjoaa
