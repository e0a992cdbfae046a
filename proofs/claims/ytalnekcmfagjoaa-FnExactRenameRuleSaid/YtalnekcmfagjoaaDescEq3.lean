/- Comparison of rules: the reference's and the program's. -/
import Derived.Test.YtalnekcmfagjoaaDescEq2
namespace Go.Proofs.Ytalnekcmfagjoaa
open Go.RowKit Go.Sort

/-- rules, all short -/
def ShortD (ds : List DRule) : Prop := ∀ r ∈ ds, ShortR r
def ShortG (gs : List (List DRule)) : Prop := ∀ d ∈ gs, ShortD d
theorem shortD_of {ds : List DRule} (h : szD ds ≤ 1048576) : ShortD ds := fun _ hr => (szRl_short (szD_mem h hr)).1
theorem shortG_of {gs : List (List DRule)} (h : szG gs ≤ 1048576) : ShortG gs := fun _ hd => shortD_of (szG_mem h hd)
set_option maxRecDepth 100000 in
set_option maxHeartbeats 4000000 in
theorem eqRuleS_c (A A' : Option Addr) (ds es : List DRule) (c c' : Nat) (w : World) (h : RdD w A ds c) (h' : RdD w A' es c') (hs : ShortD ds) (hs' : ShortD es) :
    Gives Try.prog 38 #[.slice A ds.length c, .slice A' es.length c'] w (.bool (eqD ds es)) := by
  have hl := h.len; have hl' := h'.len
  have eb := Ext.refl w
  by_cases hn : ds.length = es.length
  · have hb1 : ((ds.length : Int) != (es.length : Int)) = false := by simp [hn]
    have H := Lib.hid hn; clear hn
    go_enter Try.func38, Try.ntmps38
    go_wp2
    go_loopw [5] (fun i wr => ∃ k : Nat, k ≤ ds.length ∧ i = .int .i64 k ∧ Hid (∀ j (h1 : j < ds.length) (h2 : j < es.length), j < k → eqR ds[j] es[j] = true) ∧ Ext w wr) (fun i _ => ds.length - (intOf i).toNat)
    case atStart => exact ⟨0, by omega, rfl, (fun j _ _ hj => by omega), Ext.refl _⟩
    case round =>
      obtain ⟨k, hk, rfl, ht, he⟩ := hrel
      by_cases hlt : k < ds.length
      · have hlt' : k < es.length := by have := H.out; omega
        obtain ⟨b, off, Ab, cb, An, cn, At, ct, Ak, ck, rfl, hb, hS, hR⟩ := h.at k hlt
        obtain ⟨b', off', Ab', cb', An', cn', At', ct', Ak', ck', rfl, hb', hS', hR'⟩ := h'.at k hlt'
        have s1 := hs _ (List.getElem_mem hlt); have s2 := hs' _ (List.getElem_mem hlt')
        have NO : Hid (eqR ds[k] es[k] = false → eqD ds es = false) := eqAll_take _ ds es k hlt hlt'
        have YES : Hid (eqR ds[k] es[k] = true → ∀ j (h1 : j < ds.length) (h2 : j < es.length), j < k + 1 → eqR ds[j] es[j] = true) := by
          intro hy j h1 h2 hj
          rcases (by omega : j < k ∨ j = k) with hj | rfl
          · exact ht.out j h1 h2 hj
          · exact hy
        generalize ds[k] = r at *
        generalize es[k] = q at *
        have CE := Lib.hid (fun w h h' => eqRule_c r q Ab cb An cn At ct Ak ck Ab' cb' An' cn' At' ct' Ak' ck' w h h' s1 s2)
        generalize eqR r q = z at *
        replace hR := hR.ext eb
        replace hR' := hR'.ext eb
        obtain ⟨k0, k1, k2, k3, k4, k5, k6, k7⟩ := hR
        obtain ⟨j0, j1, j2, j3, j4, j5, j6, j7⟩ := hR'
        unfold vrule at CE
        have H1 := Lib.hid (fun w' (e : Ext _ w') => hS.ext (eb.trans e)); have H2 := Lib.hid (fun w' (e : Ext _ w') => hS'.ext (eb.trans e))
        clear h h' s1 s2 hS hS' hs hs'
        have HT := ht; clear ht
        go_wp2_with fail
        refine wp_region_quiet_below (by kernel_rfl) (by kernel_rfl) ?_
        repeat (go_big_quiet_step ((go_at_call 69; exact Calls.regrown_of (CE.out _ (H1.out _ (by first | assumption | exact Ext_regrown _ _ he)) (H2.out _ (by first | assumption | exact Ext_regrown _ _ he))))))
        refine wpQuiet_nil ?_
        rintro w1 ⟨⟨nq, osq⟩, hq⟩
        have ew1 := ext_of_q hq
        clear hq nq osq
        have he1 := he.trans ew1
        cases z
        · have NO' := Lib.hid (NO.out rfl); clear NO YES
          go_wp2
          go_ret
          exact ⟨ret_bool NO'.out.symm, eb.trans he1⟩
        · have YES' := Lib.hid (YES.out rfl); clear NO YES
          go_wp2
          go_roundw
          case rel => exact ⟨k+1, by omega, by go_num, YES'.out, he1⟩
          case measure => simp [intOf]; omega
      · have hk' : k = ds.length := by omega
        have HE : Hid (eqD ds es = true) := eqAll_all _ _ _ H.out (fun j h1 h2 => ht.out j h1 h2 (by omega))
        go_wp2
        go_ret
        exact ⟨ret_bool HE.out.symm, eb.trans he⟩
  · have hb1 : ((ds.length : Int) != (es.length : Int)) = true := by simp; omega
    have HE : Hid (eqD ds es = false) := eqAll_len _ _ _ hn
    go_enter Try.func38, Try.ntmps38
    go_wp2
    go_ret
    exact ⟨ret_bool HE.out.symm, eb⟩
end Go.Proofs.Ytalnekcmfagjoaa
