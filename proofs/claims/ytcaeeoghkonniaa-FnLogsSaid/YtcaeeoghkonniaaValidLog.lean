/- IsValidLog of the program: the scan that panics, and the deferred closure that recovers. -/
import Derived.Test.YtcaeeoghkonniaaLog2
import Derived.Defers
import Derived.Recover
import Derived.Laws.Pointers
namespace Go.Proofs.Ytcaeeoghkonniaa
open Go.RowKit Go.Sort

/-- how the scan of a log ends -/
def mustEnd : Bool → Ending
  | true => .returned (.tuple #[])
  | false => .panicked [{ v := .iface 54 (.agg #[]), recovered := false }]
set_option maxRecDepth 100000 in
set_option maxHeartbeats 4000000 in
theorem iMustBeLog_c (A : Option Addr) (l : List UInt8) (c : Nat) (s : Int) (w : World) (h : Bs w A l c) (hL : l.length ≤ 1099511627776) :
    Calls Try.prog 29 #[vlog (.slice A l.length c) s] w fun e w' => e = mustEnd (validLog l s) ∧ Ext w w' := by
  have hl := h.len
  have eb := Ext_alloc (.cells #[.slice A l.length c, .int .i64 s] 25) (Ext.refl w)
  have B := fun w' (e : Ext (w.alloc (.cells #[.slice A l.length c, .int .i64 s] 25)) w') => boxed e
  have H := Lib.hid h; clear h
  by_cases hs : s < 0 ∨ (l.length : Int) < s
  · have HI : Hid ((decide (0 ≤ s) && decide (s ≤ (l.length : Int))) = false) := by
      show _ = _; rw [Bool.and_eq_false_iff]; simp; omega
    have HV : Hid (validLog l s = false) := validLog_out hs
    rw [HV.out]
    clear hs
    unfold vlog
    go_enter Try.func29, Try.ntmps29
    go_wp2_with (go_at_call 44; refine (iInRange_c _ _ _ _).mono ?_; rintro _ w1 ⟨rfl, he1⟩; rw [HI.out])
    exact ⟨rfl, rfl, eb.trans he1⟩
  · obtain ⟨n, rfl⟩ := Int.eq_ofNat_of_zero_le (show 0 ≤ s by omega)
    have hn : n ≤ l.length := by omega
    clear hs
    have HI : Hid ((decide ((0 : Int) ≤ (n : Int)) && decide ((n : Int) ≤ (l.length : Int))) = true) := by
      show _ = _; simp; omega
    have HV : Hid (validLog l (n : Int) = ((stop l 0 == l.length) && endsAt l n)) := validLog_eq hn
    have H0 : Hid (((n : Int) == 0) = (n == 0)) := by show _ = _; rw [Bool.eq_iff_iff]; simp
    unfold vlog
    go_enter Try.func29, Try.ntmps29
    go_wp2_with (go_at_call 44; refine (iInRange_c _ _ _ _).mono ?_; rintro _ w1 ⟨rfl, he1⟩; rw [HI.out])
    go_loopw [2, 3] (fun e i wr => ∃ (a : Nat) (b : Bool), a ≤ l.length ∧ i = .int .i64 a ∧ e = .bool b ∧ Hid (Scan l n a b) ∧ Hid (stop l a = stop l 0) ∧ Ext (w.alloc (.cells #[.slice A l.length c, .int .i64 (n : Int)] 25)) wr) (fun _ i _ => l.length - (intOf i).toNat)
    case atStart => exact ⟨0, _, by omega, rfl, rfl, by have := Scan.start l n; rw [← H0.out] at this; exact this, rfl, he1⟩
    case round =>
      clear he1
      obtain ⟨a, b, ha, rfl, rfl, hsc, hst, he⟩ := hrel
      have hwf : (Lit.int .i64 (a : Int)).wf = true := WalkArith.wf_i64 (by omega)
      have CD := Lib.hid (fun w h => iDecodeRecord_c A l c a w h hwf)
      unfold DecOut at CD
      by_cases hlt : a < l.length
      · cases hd : decN l a with
        | none =>
          obtain ⟨q1, q2⟩ := dec_no hd
          rw [q1, q2] at CD
          have HE : Hid (validLog l (n : Int) = false) := by
            show _ = _; rw [HV.out, ← hst.out, (read_none hd).2]
            have : (a == l.length) = false := by simp; omega
            rw [this]; rfl
          clear q1 q2 hd hst hsc
          unfold vrec DRec.zero at CD
          go_wp2_with (go_at_call 30; refine (CD.out _ (H.out.ext (eb.trans he))).mono ?_; rintro _ w2 ⟨v2, rfl, ho2, he2⟩; obtain ⟨A2, c2, hv2, _⟩ := OwnL.rd ho2 (by simp); subst hv2)
          exact ⟨rfl, by rw [HE.out]; rfl, Ext_alloc _ ((eb.trans he).trans he2)⟩
        | some r =>
          obtain ⟨q1, q2⟩ := dec_yes hd
          have hf := decN_fits hd
          have hrl : r.l.length ≤ 400 := by have := validRec_facts (decN_some hd).2.1; omega
          rw [q1, q2] at CD
          have hsc2 := Scan.step hn hd hsc.out
          have hst2 : stop l (a + sizeAt l a) = stop l 0 := (read_some hd).2.symm.trans hst.out
          obtain ⟨a', ha'⟩ : ∃ a', a + sizeAt l a = a' := ⟨_, rfl⟩
          rw [ha'] at hsc2 hst2
          rw [show a + nmAt l a + 6 + szAt l a = a' by rw [← ha']; unfold sizeAt; omega] at CD
          have ha2 : a' ≤ l.length := by omega
          have ha3 : a < a' := by omega
          obtain ⟨k, nm, ver, d⟩ := r
          dsimp only [Option.getD_some] at CD hrl
          have H1 : Hid (((a' : Int) == (n : Int)) = (a' == n)) := by show _ = _; rw [Bool.eq_iff_iff]; simp; omega
          have HS := Lib.hid hsc2; have HT := Lib.hid hst2
          clear q1 q2 hd hst hsc hsc2 hst2 ha' hf
          unfold vrec at CD
          cases b
          all_goals
            go_wp2_with (go_at_call 30; refine (CD.out _ (H.out.ext (eb.trans he))).mono ?_; rintro _ w2 ⟨v2, rfl, ho2, he2⟩; obtain ⟨A2, c2, hv2, _⟩ := OwnL.rd ho2 (by omega); subst hv2; have he12 := he.trans he2)
            go_roundw
            case rel => exact ⟨a', _, by omega, by go_num, rfl, by first | exact HS | (rw [H1.out]; exact HS), HT, Ext_alloc _ he12⟩
            case measure => simp [intOf]; omega
      · obtain rfl : a = l.length := by omega
        have HE : Hid (validLog l (n : Int) = b) := by
          show _ = _
          rw [HV.out, ← hst.out, (read_none (decN_out (by omega))).2, Scan.done hn hsc.out]
          simp
        clear hst hsc
        cases b
        · go_wp2
          exact ⟨rfl, by rw [HE.out]; rfl, eb.trans he⟩
        · go_wp2
          go_end0
          exact ⟨by rw [HE.out]; rfl, eb.trans he⟩

section
variable {P : Program}
theorem run_ta_hit (w : World) (t xT : TypeId) (fs : Array Field) (v : Value) (h : P.underlying t = some (.struct fs)) : (Instr.typeAssert (.iface t v) xT t true).run P w = .ok (.tuple #[v, .bool true]) w := by
  simp [Instr.typeAssert, run_underlying h, go_sem, Result.andThen]
theorem run_ta_nil (w : World) (t xT : TypeId) (fs : Array Field) (z : Value) (h : P.underlying t = some (.struct fs)) (hz : (P.info? t).map (·.zero) = some (some z)) : (Instr.typeAssert .nilIface xT t true).run P w = .ok (.tuple #[z, .bool false]) w := by
  obtain ⟨j, hj, hz'⟩ := Option.map_eq_some_iff.1 hz
  simp [Instr.typeAssert, run_underlying h, zeroValue, typeInfo, hj, hz']
end
set_option maxRecDepth 100000 in
theorem catch_panicking (p : Addr) (x : Bool) (older : List PanicEntry) (w : World) (hc : w.cell? p = some (.bool x)) (hz : w.frozen? p = false) :
    CallsD Try.prog 28 #[.pointer (some p)] (.panicking ({ v := .iface 54 (.agg #[]), recovered := false } :: older)) w fun e u' w' =>
      e = .returned (.tuple #[]) ∧ u' = .panicking ({ v := .iface 54 (.agg #[]), recovered := true } :: older) ∧ ∃ o, w' = (w.alloc o).setCell p (.bool false) := by
  have hta := fun w => run_ta_hit (P := Try.prog) w 54 20 _ (.agg #[]) Try.underlying54
  refine callsD_of_wpS Try.func28 rfl fun c₀ cs hu => ?_
  apply wpS_seq
  apply wpS_region
  simp [wpOpsS, go_sem, recoverD, hu, Try.ntmps28, Exit.thenS, hta]
  apply wpS_seq
  apply wpS_region
  simp [wpOpsS, go_sem, Exit.thenS]
  refine wpS_cond (t := true) (by simp [Act.eval, Array.replicate]) ?_
  simp only [if_true]
  apply wpS_region
  have hlt := block_lt_of_cell hc
  have hne : ¬ p.block = w.heap.size := by omega
  have hc2 : (w.alloc (.cells #[] 54)).cell? p = some (.bool x) := (Ext_alloc _ (Ext.refl w)).cell hlt |>.trans hc
  have hz2 : (w.alloc (.cells #[] 54)).frozen? p = false := ((Ext_alloc _ (Ext.refl w)).frozen hlt).trans hz
  simp [wpOpsS, go_sem, hc2, hz2, bodyPostS, results, Try.results28]
  exact ⟨_, rfl⟩
set_option maxRecDepth 100000 in
theorem catch_idle (p : Addr) (w : World) :
    CallsD Try.prog 28 #[.pointer (some p)] .returning w fun e u' w' => e = .returned (.tuple #[]) ∧ u' = .returning ∧ ∃ o, w' = w.alloc o := by
  have hta := fun w => run_ta_nil (P := Try.prog) w 54 20 _ (.agg #[]) Try.underlying54 (by kernel_rfl)
  refine callsD_of_wpS Try.func28 rfl fun c₀ cs hu => ?_
  apply wpS_seq
  apply wpS_region
  simp [wpOpsS, go_sem, recoverD, hu, Try.ntmps28, Exit.thenS, hta]
  apply wpS_seq
  apply wpS_region
  simp [wpOpsS, go_sem, Exit.thenS]
  refine wpS_cond (t := false) (by simp [Act.eval, Array.replicate]) ?_
  simp only [Bool.false_eq_true, if_false]
  refine wpS_of_wp (wp_skip ?_)
  cases c₀
  simp_all [bodyPostS, results, Try.results28]
  exact ⟨_, rfl⟩

set_option maxRecDepth 100000 in
set_option maxHeartbeats 1000000 in
theorem iIsValidLog_c (A : Option Addr) (l : List UInt8) (c : Nat) (s : Int) (w : World) (h : Bs w A l c) (hL : l.length ≤ 1099511627776) :
    Gives Try.prog 9 #[vlog (.slice A l.length c) s] w (.bool (validLog l s)) := by
  have hmf : ∀ (fn : Fn) (first cap : Array Value) (w : World), (Instr.makeFunc fn first cap).run Try.prog w = .ok (.func fn first cap) w := fun _ _ _ _ => rfl
  have eb := Ext_alloc (.cells #[.bool false] 4) (Ext_alloc (.cells #[.slice A l.length c, .int .i64 s] 25) (Ext.refl w))
  have BX := fun w' (e : Ext ((w.alloc (.cells #[.slice A l.length c, .int .i64 s] 25)).alloc (.cells #[.bool false] 4)) w') => boxed2 e
  have B1 := fun w' e => (BX w' e).2.1 0
  have F1 := fun w' e => (BX w' e).2.2.2.1 0
  have C := Lib.hid (fun w h => iMustBeLog_c A l c s w h hL)
  clear BX
  cases hv : validLog l s
  · rw [hv] at C
    unfold vlog mustEnd at C
    unfold vlog
    go_enter_defers Try.func9, Try.ntmps9
    go_wp2_with (go_at_call 29; refine (C.out _ (h.ext eb)).mono ?_; rintro _ w1 ⟨rfl, he1⟩)
    refine leaves_cons (f := 28) (args := #[.pointer (some ⟨w.heap.size + 1, 0, none⟩)]) (by simp) (by simp [go_sem]) ?_
    refine (catch_panicking ⟨w.heap.size + 1, 0, none⟩ false [] _ (B1 _ he1) (F1 _ he1)).mono ?_
    rintro e u' w'' ⟨rfl, rfl, o, rfl⟩
    have hs : w.heap.size + 1 < w1.heap.size := by have := he1.size; simp at this; omega
    have hc : (w1.alloc o).cell? ⟨w.heap.size + 1, 0, none⟩ = some (.bool false) := B1 _ (he1.trans (Ext_alloc _ (Ext.refl _)))
    have hs0 : ((w1.alloc o).setCell ⟨w.heap.size + 1, 0, none⟩ (.bool false)).cell? ⟨w.heap.size + 1, 0, none⟩ = some (.bool false) := World.cell?_setCell_same _ _ _ hc
    have hfin : Ext w ((w1.alloc o).setCell ⟨w.heap.size + 1, 0, none⟩ (.bool false)) := (Ext_alloc _ (eb.trans he1)).setCell (by simp) _
    simp [Leaves, settle, results, Try.results9, go_sem, hs0]
    exact hfin
  · rw [hv] at C
    unfold vlog mustEnd at C
    unfold vlog
    go_enter_defers Try.func9, Try.ntmps9
    go_wp2_with (go_at_call 29; refine (C.out _ (h.ext eb)).mono ?_; rintro _ w1 ⟨rfl, he1⟩)
    have hc1 : (w1.setCell ⟨w.heap.size + 1, 0, none⟩ (.bool true)).cell? ⟨w.heap.size + 1, 0, none⟩ = some (.bool true) := World.cell?_setCell_same _ _ _ (B1 _ he1)
    have e2 : Ext w (w1.setCell ⟨w.heap.size + 1, 0, none⟩ (.bool true)) := (eb.trans he1).setCell (by simp) _
    have hs : w.heap.size + 1 < (w1.setCell ⟨w.heap.size + 1, 0, none⟩ (.bool true)).heap.size := block_lt_of_cell hc1
    generalize w1.setCell ⟨w.heap.size + 1, 0, none⟩ (.bool true) = w2 at *
    refine leaves_cons (f := 28) (args := #[.pointer (some ⟨w.heap.size + 1, 0, none⟩)]) (by simp) (by simp [go_sem]) ?_
    refine (catch_idle ⟨w.heap.size + 1, 0, none⟩ _).mono ?_
    rintro e u' w'' ⟨rfl, rfl, o, rfl⟩
    have hs0 : (w2.alloc o).cell? ⟨w.heap.size + 1, 0, none⟩ = some (.bool true) := ((Ext_alloc o (Ext.refl w2)).cell hs).trans hc1
    have hfin : Ext w (w2.alloc o) := Ext_alloc _ e2
    simp [Leaves, settle, results, Try.results9, go_sem, hs0]
    exact hfin
end Go.Proofs.Ytcaeeoghkonniaa
