/- CrashLog of the reference; AppendRecord of both. -/
import Derived.Test.YtohejlknihleeaaStoreLog
namespace Go.Proofs.Ytohejlknihleeaa
open Go.RowKit Go.Sort

set_option maxRecDepth 100000 in
set_option maxHeartbeats 4000000 in
theorem sCrashLog_c (A : Option Addr) (l : List UInt8) (c : Nat) (s k : Int) (w : World) (hA : Bs w A l c) (hL : l.length ≤ 1099511627776) :
    Calls Try.prog 62 #[vlog (.slice A l.length c) s, .int .i64 k] w fun e w' => ∃ v, e = .returned (vlog v (crashAt l s k)) ∧ OwnL vu8 5 w w' v (l.take (crashEnd l s k)) ∧ Ext w w' := by
  have hl := hA.len
  have hcap := hA.cap
  have eb := Ext_alloc (.cells #[.slice none 0 0, .int .i64 0] 53) (Ext_alloc (.cells #[.slice A l.length c, .int .i64 s] 53) (Ext.refl w))
  have BX := fun w' (e : Ext ((w.alloc (.cells #[.slice A l.length c, .int .i64 s] 53)).alloc (.cells #[.slice none 0 0, .int .i64 0] 53)) w') => boxed2 e
  have B0 := fun w' e => (BX w' e).1
  have B1 := fun w' e => (BX w' e).2.1
  have F1 := fun w' e => (BX w' e).2.2.2.1
  clear BX
  have C1 := Lib.hid (fun w h => sCopyLog_c A l c s w h)
  have C2 := Lib.hid (fun w h => sIsValidLog_c A l c s w h hL)
  unfold vlog at *
  cases hv : validLog l s
  · have HV : Hid (crashAt l s k = s ∧ l.take (crashEnd l s k) = l) := by
      show _ ∧ _; unfold crashAt crashEnd; rw [hv]; simp
    rw [hv] at C2
    rw [HV.out.1, HV.out.2]
    go_enter Try.func62, Try.ntmps62
    go_wp2_with fail
    refine (C2.out _ (hA.ext eb)).mono ?_; rintro _ w2 ⟨rfl, he2⟩
    go_wp2_with fail
    refine (C1.out _ (hA.ext (eb.trans he2))).mono ?_; rintro _ w1 ⟨v1, rfl, ho1, he1⟩; obtain ⟨A1, c1, hv1, r1⟩ := OwnL.rd ho1 hl; subst hv1
    have e12 := he2.trans he1
    have hs1 : w.heap.size + 1 < w2.heap.size := by have := he2.size; simp at this; omega
    have hB1 := B1 _ e12
    go_wp2
    obtain ⟨s0, s1⟩ := stored2 hB1
    refine bodyPost_ret (v := .agg #[.slice A1 l.length c1, .int .i64 s]) (by simp [results, Try.results62, go_sem, s0, s1]) rfl ⟨_, rfl, ?_, ?_⟩
    · exact OwnL.lower (ownsRow_setCell_below (ownsRow_setCell_below ho1 (by omega) _) (by omega) _) (eb.trans he2)
    · exact ((eb.trans e12).setCell (by simp) _).setCell (by simp) _
  · obtain ⟨m, hm⟩ : ∃ m, keptOf l s k = m := ⟨_, rfl⟩
    obtain ⟨k1, _, k2⟩ := keptOf_facts (k := k) hv
    have k3 := crashEnd_le (k := k) hv
    rw [hm] at k1 k2 k3
    obtain ⟨E, hE⟩ : ∃ E, stop (l.take m) 0 = E := ⟨_, rfl⟩
    rw [hE] at k3
    have HV : Hid (crashAt l s k = E ∧ crashEnd l s k = E) := by
      show _ ∧ _; unfold crashAt crashEnd; rw [hv, hm, hE]; simp
    have CM1 := Lib.hid (fun w => sMin_c k (l.length : Int) w)
    obtain ⟨M, hM⟩ : ∃ M, (if (l.length : Int) < k then (l.length : Int) else k) = M := ⟨_, rfl⟩
    rw [hM] at CM1 k2
    have CM2 := Lib.hid (fun w => sMax_c s M w)
    rw [k2] at CM2
    clear k2 hM
    have C3 : Hid (∀ A' c' w', Bs w' A' (l.take m) c' → Calls Try.prog 53 #[.slice A' m c'] w' fun e w'' => ∃ v ps, e = .returned (.tuple #[v, .int .i64 (E : Nat)]) ∧ ps.map Prod.fst = recs (l.take m) 0 ∧ OwnR w' w'' v ps ∧ Ext w' w'') := by
      intro A' c' w' h'
      have := sReadRecords_c A' (l.take m) c' w' h' (by simp; omega)
      rw [show (l.take m).length = m by simp; omega, hE] at this
      exact this
    rw [hv] at C2
    rw [HV.out.1, HV.out.2]
    have HEL : Hid (E = (l.take E).length) := by show _ = _; simp; omega
    have HB2 : Hid ((([] : List UInt8).length + (l.take E).length) * 1 ≤ 140737488355328) := by show _ ≤ _; simp; omega
    have g1 : (m : Int) ≤ (c : Int) := by omega
    have g1' : m ≤ c := by omega
    clear hm hE
    go_enter Try.func62, Try.ntmps62
    go_wp2_with fail
    refine (C2.out _ (hA.ext eb)).mono ?_; rintro _ w2 ⟨rfl, he2⟩
    have B0' := fun w' (e : Ext w2 w') => B0 w' (he2.trans e)
    go_wp2_with fail
    go_region_held3 (fun w' => Ext w2 w') (first | assumption | exact Ext_drew (Ext.refl _) | exact Ext.trans (by assumption) (by assumption)) (first
      | (go_at_call 100; refine (CM1.out _).mono ?_; rintro _ w3 ⟨rfl, he3⟩)
      | (go_at_call 99; refine (CM2.out _).mono ?_; rintro _ w4 ⟨rfl, he4⟩)
      | (go_at_call 53; refine (C3.out _ _ _ ((hA.ext ((eb.trans he2).trans (by assumption))).take m)).mono ?_; rintro _ w5 ⟨v5, p5, rfl, _, _, he5⟩))
    have e25 : Ext w2 w5 := by assumption
    have e15 := he2.trans e25
    clear he3 he4 he5 B0'
    have HS : Hid (w.heap.size + 1 < w5.heap.size) := by have := e15.size; simp at this; show _ < _; omega
    go_wp2_with (first
      | (at_builtin; refine wpList_appL rfl (.tmp 27) (.tmp 31) _ rfl E_u8 (by omega) w5 _ vu8 (fun _ => rfl) _ rfl _ _ _ rfl [] (l.take E) (OwnL.empty (Ext.refl _)) (Ext_alloc _ (Ext.refl _)) HEL.out (((hA.ext (eb.trans e15)).take E).src (Ext_alloc _ (Ext.refl _))) HB2.out ?_; intro v6 w6 ho6 he6 _ _; have e16 := e15.trans he6; rw [List.nil_append] at ho6; obtain ⟨A6, c6, hv6, r6⟩ := OwnL.rd ho6 (by rw [← HEL.out]; omega); rw [← HEL.out] at hv6; subst hv6))
    have hB1 := B1 _ e16
    obtain ⟨s0, s1⟩ := stored2 hB1
    refine bodyPost_ret (v := .agg #[.slice A6 E c6, .int .i64 E]) (by simp [results, Try.results62, go_sem, s0, s1]) rfl ⟨_, rfl, ?_, ?_⟩
    · exact OwnL.lower (ownsRow_setCell_below (ownsRow_setCell_below ho6 HS.out _) HS.out _) (eb.trans e15)
    · exact ((eb.trans e16).setCell (by simp) _).setCell (by simp) _
end Go.Proofs.Ytohejlknihleeaa
