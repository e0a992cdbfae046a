/- Logs: CountRecords, IsValidLog of the reference, copies. -/
import Derived.Test.YtlaejcacembjiaaZFi3
import Derived.Defers
import Derived.Recover
import Derived.Laws.Pointers
import Derived.Deep.RegionHeld3
import Derived.Deep.DeepCutAuto
import Derived.Deep.RegionLaw
import Derived.IntWalk
namespace Go.Proofs.Ytlaejcacembjiaa
open Go.RowKit Go.Sort



/-- a block of two cells, written one by one -/
theorem stored2 {w1 : World} {g : Nat} {x0 x1 : Value} (h : ∀ i, w1.cell? ⟨g, i, none⟩ = #[x0, x1][i]?) :
    (∀ y0, (w1.setCell ⟨g, 0, none⟩ y0).cell? ⟨g, 0, none⟩ = some y0) ∧ (∀ y0 y1, ((w1.setCell ⟨g, 0, none⟩ y0).setCell ⟨g, 1, none⟩ y1).cell? ⟨g, 1, none⟩ = some y1) := by
  have h0 := h 0; have h1 := h 1
  simp at h0 h1
  refine ⟨fun y0 => ?_, fun y0 y1 => ?_⟩
  · apply World.cell?_setCell_same; exact h0
  · apply World.cell?_setCell_same (u := x1); simp [World.cell?_setCell_other, h1]
set_option maxRecDepth 100000 in
set_option maxHeartbeats 2000000 in
theorem iCopyLog_c (A : Option Addr) (l : List UInt8) (c : Nat) (s : Int) (w : World) (h : Bs w A l c) :
    Calls Try.prog 118 #[vlog (.slice A l.length c) s] w fun e w' => ∃ v, e = .returned (vlog v s) ∧ OwnL vu8 5 w w' v l ∧ Ext w w' := by
  have hl := h.len
  have eb := Ext_alloc (.cells #[.slice none 0 0, .int .i64 0] 51) (Ext_alloc (.cells #[.slice A l.length c, .int .i64 s] 51) (Ext.refl w))
  have H := Lib.hid h
  have BX := fun w' (e : Ext ((w.alloc (.cells #[.slice A l.length c, .int .i64 s] 51)).alloc (.cells #[.slice none 0 0, .int .i64 0] 51)) w') => boxed2 e
  have B0 := fun w' e => (BX w' e).1
  have B1 := fun w' e => (BX w' e).2.1
  have F1 := fun w' e => (BX w' e).2.2.2.1
  have HO : Hid (OwnL vu8 5 ((w.alloc (.cells #[.slice A l.length c, .int .i64 s] 51)).alloc (.cells #[.slice none 0 0, .int .i64 0] 51)) ((((w.alloc (.cells #[.slice A l.length c, .int .i64 s] 51)).alloc (.cells #[.slice none 0 0, .int .i64 0] 51)).alloc (.cells #[] 5)).drew) (.slice (some ⟨w.heap.size + 1 + 1, 0, none⟩) 0 0) []) := by
    have := OwnL.ext (OwnL.empty (f := vu8) (e := 5) (Ext.refl ((w.alloc (.cells #[.slice A l.length c, .int .i64 s] 51)).alloc (.cells #[.slice none 0 0, .int .i64 0] 51)))) (Ext_drew (Ext.refl _))
    simpa [Hid] using this
  have HB : Hid (([] : List UInt8).length + l.length ≤ 140737488355328 / 1) := by show _ ≤ _; simp; omega
  have HB2 : Hid ((([] : List UInt8).length + l.length) * 1 ≤ 140737488355328) := by show _ ≤ _; simp; omega
  clear BX
  unfold vlog
  go_enter Try.func118, Try.ntmps118
  go_wp2_with fail
  go_region_law (first
    | (refine step_appL rfl (.tmp 3) (.tmp 5) _ rfl E_u8 (by omega) _ _ vu8 (fun _ => rfl) _ rfl _ _ _ rfl [] l HO.out (Ext_drew (Ext_alloc _ (Ext.refl _))) rfl ((H.out.ext eb).src (Ext_drew (Ext_alloc _ (Ext.refl _)))) HB2.out ?_; intro v4 w4 ho4 he4; rw [List.nil_append] at ho4; obtain ⟨A4, c4, hv4, r4⟩ := OwnL.rd ho4 hl; subst hv4))
  all_goals
    go_wp2
    obtain ⟨s0, s1⟩ := stored2 (B1 _ he4)
    refine bodyPost_ret (v := .agg #[.slice A4 l.length c4, .int .i64 s]) (by simp [results, Try.results118, go_sem, s0, s1]) rfl ⟨_, rfl, ?_, ?_⟩
    · exact OwnL.lower (ownsRow_setCell_below (ownsRow_setCell_below ho4 (by simp) _) (by simp) _) eb
    · exact ((eb.trans he4).setCell (by simp) _).setCell (by simp) _

set_option maxRecDepth 100000 in
set_option maxHeartbeats 2000000 in
theorem sCopyLog_c (A : Option Addr) (l : List UInt8) (c : Nat) (s : Int) (w : World) (h : Bs w A l c) :
    Calls Try.prog 116 #[vlog (.slice A l.length c) s] w fun e w' => ∃ v, e = .returned (vlog v s) ∧ OwnL vu8 5 w w' v l ∧ Ext w w' := by
  have hl := h.len
  have eb := Ext_alloc (.cells #[.slice none 0 0, .int .i64 0] 51) (Ext_alloc (.cells #[.slice A l.length c, .int .i64 s] 51) (Ext.refl w))
  have H := Lib.hid h
  have BX := fun w' (e : Ext ((w.alloc (.cells #[.slice A l.length c, .int .i64 s] 51)).alloc (.cells #[.slice none 0 0, .int .i64 0] 51)) w') => boxed2 e
  have B0 := fun w' e => (BX w' e).1
  have B1 := fun w' e => (BX w' e).2.1
  have F1 := fun w' e => (BX w' e).2.2.2.1
  have HO : Hid (OwnL vu8 5 ((w.alloc (.cells #[.slice A l.length c, .int .i64 s] 51)).alloc (.cells #[.slice none 0 0, .int .i64 0] 51)) ((((w.alloc (.cells #[.slice A l.length c, .int .i64 s] 51)).alloc (.cells #[.slice none 0 0, .int .i64 0] 51)).alloc (.cells #[] 5)).drew) (.slice (some ⟨w.heap.size + 1 + 1, 0, none⟩) 0 0) []) := by
    have := OwnL.ext (OwnL.empty (f := vu8) (e := 5) (Ext.refl ((w.alloc (.cells #[.slice A l.length c, .int .i64 s] 51)).alloc (.cells #[.slice none 0 0, .int .i64 0] 51)))) (Ext_drew (Ext.refl _))
    simpa [Hid] using this
  have HB : Hid (([] : List UInt8).length + l.length ≤ 140737488355328 / 1) := by show _ ≤ _; simp; omega
  have HB2 : Hid ((([] : List UInt8).length + l.length) * 1 ≤ 140737488355328) := by show _ ≤ _; simp; omega
  clear BX
  unfold vlog
  go_enter Try.func116, Try.ntmps116
  go_wp2_with fail
  go_region_law (first
    | (refine step_appL rfl (.tmp 3) (.tmp 5) _ rfl E_u8 (by omega) _ _ vu8 (fun _ => rfl) _ rfl _ _ _ rfl [] l HO.out (Ext_drew (Ext_alloc _ (Ext.refl _))) rfl ((H.out.ext eb).src (Ext_drew (Ext_alloc _ (Ext.refl _)))) HB2.out ?_; intro v4 w4 ho4 he4; rw [List.nil_append] at ho4; obtain ⟨A4, c4, hv4, r4⟩ := OwnL.rd ho4 hl; subst hv4))
  all_goals
    go_wp2
    obtain ⟨s0, s1⟩ := stored2 (B1 _ he4)
    refine bodyPost_ret (v := .agg #[.slice A4 l.length c4, .int .i64 s]) (by simp [results, Try.results116, go_sem, s0, s1]) rfl ⟨_, rfl, ?_, ?_⟩
    · exact OwnL.lower (ownsRow_setCell_below (ownsRow_setCell_below ho4 (by simp) _) (by simp) _) eb
    · exact ((eb.trans he4).setCell (by simp) _).setCell (by simp) _

theorem Rd.take {α : Type} {f : α → Value} {w : World} {A : Option Addr} {l : List α} {c : Nat} (h : Rd f w A l c) (n : Nat) : Rd f w A (l.take n) c := by
  have hn : (l.take n).length ≤ l.length := by simp; omega
  refine ⟨⟨by have := h.cap; omega, by have := h.1.2.1; omega, fun hp => ?_⟩, by have := h.len; omega⟩
  obtain ⟨b, off, h1, h2, h3⟩ := h.base (by omega)
  refine ⟨b, off, h1, h2, fun w' e i hi => ?_⟩
  rw [h3 w' e i (by omega)]
  simp
theorem Rd.none {α : Type} {f : α → Value} {l : List α} (hl : l.length = 0) (w : World) (A : Option Addr) (c : Nat) : Rd f w A l c := ⟨⟨by omega, by omega, fun h => by omega⟩, by omega⟩
set_option maxRecDepth 100000 in
set_option maxHeartbeats 2000000 in
theorem sIsValidLog_c (A : Option Addr) (l : List UInt8) (c : Nat) (s : Int) (w : World) (h : Bs w A l c) (hL : l.length ≤ 1099511627776) :
    Gives Try.prog 84 #[vlog (.slice A l.length c) s] w (.bool (validLog l s)) := by
  have hl := h.len
  have hcap := h.cap
  have eb := Ext_alloc (.cells #[.slice A l.length c, .int .i64 s] 51) (Ext.refl w)
  have B := fun w' (e : Ext (w.alloc (.cells #[.slice A l.length c, .int .i64 s] 51)) w') => boxed e
  by_cases hs : s < 0 ∨ (l.length : Int) < s
  · have HI : Hid ((decide (0 ≤ s) && decide (s ≤ (l.length : Int))) = false) := by
      show _ = _; rw [Bool.and_eq_false_iff]; simp; omega
    have HV : Hid (validLog l s = false) := validLog_out hs
    rw [HV.out]
    clear hs
    unfold vlog
    go_enter Try.func84, Try.ntmps84
    go_wp2_with (go_at_call 104; refine (l1In_c _ _ _ _).mono ?_; rintro _ w1 ⟨rfl, he1⟩; rw [HI.out])
    go_ret
    exact ⟨rfl, eb.trans he1⟩
  · obtain ⟨n, rfl⟩ := Int.eq_ofNat_of_zero_le (show 0 ≤ s by omega)
    have hn : n ≤ l.length := by omega
    clear hs
    have HI : Hid ((decide ((0 : Int) ≤ (n : Int)) && decide ((n : Int) ≤ (l.length : Int))) = true) := by
      show _ = _; simp; omega
    have HV : Hid (validLog l (n : Int) = (((stop l 0 : Int) == (l.length : Int)) && ((stop (l.take n) 0 : Int) == (n : Int)))) := by
      show _ = _; rw [validLog_eq hn]; unfold endsAt; rw [Bool.eq_iff_iff]; simp; omega
    have C1 := Lib.hid (fun w h => sReadRecords_c A l c w h hL)
    have C2 : Hid (∀ A' c' w', Bs w' A' (l.take n) c' → Calls Try.prog 120 #[.slice A' n c'] w' fun e w'' => ∃ v ps, e = .returned (.tuple #[v, .int .i64 (stop (l.take n) 0 : Nat)]) ∧ ps.map Prod.fst = recs (l.take n) 0 ∧ OwnR w' w'' v ps ∧ Ext w' w'') := by
      intro A' c' w' h'
      have := sReadRecords_c A' (l.take n) c' w' h' (by simp; omega)
      rw [show (l.take n).length = n by simp; omega] at this
      exact this
    rw [HV.out]
    generalize stop (l.take n) 0 = s2 at *
    generalize recs (l.take n) 0 = r2 at *
    generalize stop l 0 = s1 at *
    generalize recs l 0 = r1 at *
    unfold vlog
    go_enter Try.func84, Try.ntmps84
    go_wp2_with (first
      | (go_at_call 104; refine (l1In_c _ _ _ _).mono ?_; rintro _ w1 ⟨rfl, he1⟩; rw [HI.out]))
    refine (C1.out _ (h.ext (eb.trans he1))).mono ?_; rintro _ w2 ⟨v2, p2, rfl, _, _, he2⟩; have he12 := he1.trans he2
    go_wp2_with fail
    refine (C2.out _ _ _ ((h.ext (eb.trans he12)).take n)).mono ?_; rintro _ w3 ⟨v3, p3, rfl, _, _, he3⟩; have he13 := he12.trans he3
    go_wp2
    all_goals
      go_ret
      exact ⟨ret_bool (by simp [*]), eb.trans he13⟩
end Go.Proofs.Ytlaejcacembjiaa

/- IsValidLog of the program: the scan that panics, and the deferred closure that recovers. -/
namespace Go.Proofs.Ytlaejcacembjiaa
open Go.RowKit Go.Sort

/-- how the scan of a log ends -/
def mustEnd : Bool → Ending
  | true => .returned (.tuple #[])
  | false => .panicked [{ v := .iface 140 (.agg #[]), recovered := false }]
set_option maxRecDepth 100000 in
set_option maxHeartbeats 4000000 in
theorem iMustBeLog_c (A : Option Addr) (l : List UInt8) (c : Nat) (s : Int) (w : World) (h : Bs w A l c) (hL : l.length ≤ 1099511627776) :
    Calls Try.prog 128 #[vlog (.slice A l.length c) s] w fun e w' => e = mustEnd (validLog l s) ∧ Ext w w' := by
  have hl := h.len
  have eb := Ext_alloc (.cells #[.slice A l.length c, .int .i64 s] 51) (Ext.refl w)
  have B := fun w' (e : Ext (w.alloc (.cells #[.slice A l.length c, .int .i64 s] 51)) w') => boxed e
  have H := Lib.hid h; clear h
  by_cases hs : s < 0 ∨ (l.length : Int) < s
  · have HI : Hid ((decide (0 ≤ s) && decide (s ≤ (l.length : Int))) = false) := by
      show _ = _; rw [Bool.and_eq_false_iff]; simp; omega
    have HV : Hid (validLog l s = false) := validLog_out hs
    rw [HV.out]
    clear hs
    unfold vlog
    go_enter Try.func128, Try.ntmps128
    go_wp2_with (go_at_call 109; refine (iInRange_c _ _ _ _).mono ?_; rintro _ w1 ⟨rfl, he1⟩; rw [HI.out])
    exact ⟨rfl, rfl, eb.trans he1⟩
  · obtain ⟨n, rfl⟩ := Int.eq_ofNat_of_zero_le (show 0 ≤ s by omega)
    have hn : n ≤ l.length := by omega
    clear hs
    have HI : Hid ((decide ((0 : Int) ≤ (n : Int)) && decide ((n : Int) ≤ (l.length : Int))) = true) := by
      show _ = _; simp; omega
    have HV : Hid (validLog l (n : Int) = ((stop l 0 == l.length) && endsAt l n)) := validLog_eq hn
    have H0 : Hid (((n : Int) == 0) = (n == 0)) := by show _ = _; rw [Bool.eq_iff_iff]; simp
    unfold vlog
    go_enter Try.func128, Try.ntmps128
    go_wp2_with (go_at_call 109; refine (iInRange_c _ _ _ _).mono ?_; rintro _ w1 ⟨rfl, he1⟩; rw [HI.out])
    go_loopw [2, 3] (fun e i wr => ∃ (a : Nat) (b : Bool), a ≤ l.length ∧ i = .int .i64 a ∧ e = .bool b ∧ Hid (Scan l n a b) ∧ Hid (stop l a = stop l 0) ∧ Ext (w.alloc (.cells #[.slice A l.length c, .int .i64 (n : Int)] 51)) wr) (fun _ i _ => l.length - (intOf i).toNat)
    case atStart => exact ⟨0, _, by omega, rfl, rfl, by have := Scan.start l n; rw [← H0.out] at this; exact this, rfl, he1⟩
    case round =>
      clear he1
      obtain ⟨a, b, ha, rfl, rfl, hsc, hst, he⟩ := hrel
      have hwf : (Lit.int .i64 (a : Int)).wf = true := WalkArith.wf_i64 (by omega)
      have CD := Lib.hid (fun w h => iDecodeRecord_c A l c a w h hwf)
      unfold DecOut at CD
      by_cases hlt : a < l.length
      · cases hd : decN l a with
        | none =>
          obtain ⟨q1, q2⟩ := dec_no hd
          rw [q1, q2] at CD
          have HE : Hid (validLog l (n : Int) = false) := by
            show _ = _; rw [HV.out, ← hst.out, (read_none hd).2]
            have : (a == l.length) = false := by simp; omega
            rw [this]; rfl
          clear q1 q2 hd hst hsc
          unfold vrec DRec.zero at CD
          go_wp2_with (go_at_call 157; refine (CD.out _ (H.out.ext (eb.trans he))).mono ?_; rintro _ w2 ⟨v2, rfl, ho2, he2⟩; obtain ⟨A2, c2, hv2, _⟩ := OwnL.rd ho2 (by simp); subst hv2)
          exact ⟨rfl, by rw [HE.out]; rfl, Ext_alloc _ ((eb.trans he).trans he2)⟩
        | some r =>
          obtain ⟨q1, q2⟩ := dec_yes hd
          have hf := decN_fits hd
          have hrl : r.l.length ≤ 400 := by have := validRec_facts (decN_some hd).2.1; omega
          rw [q1, q2] at CD
          have hsc2 := Scan.step hn hd hsc.out
          have hst2 : stop l (a + sizeAt l a) = stop l 0 := (read_some hd).2.symm.trans hst.out
          obtain ⟨a', ha'⟩ : ∃ a', a + sizeAt l a = a' := ⟨_, rfl⟩
          rw [ha'] at hsc2 hst2
          rw [show a + nmAt l a + 6 + szAt l a = a' by rw [← ha']; unfold sizeAt; omega] at CD
          have ha2 : a' ≤ l.length := by omega
          have ha3 : a < a' := by omega
          obtain ⟨k, nm, ver, d⟩ := r
          dsimp only [Option.getD_some] at CD hrl
          have H1 : Hid (((a' : Int) == (n : Int)) = (a' == n)) := by show _ = _; rw [Bool.eq_iff_iff]; simp; omega
          have HS := Lib.hid hsc2; have HT := Lib.hid hst2
          clear q1 q2 hd hst hsc hsc2 hst2 ha' hf
          unfold vrec at CD
          cases b
          all_goals
            go_wp2_with (go_at_call 157; refine (CD.out _ (H.out.ext (eb.trans he))).mono ?_; rintro _ w2 ⟨v2, rfl, ho2, he2⟩; obtain ⟨A2, c2, hv2, _⟩ := OwnL.rd ho2 (by omega); subst hv2; have he12 := he.trans he2)
            go_roundw
            case rel => exact ⟨a', _, by omega, by go_num, rfl, by first | exact HS | (rw [H1.out]; exact HS), HT, Ext_alloc _ he12⟩
            case measure => simp [intOf]; omega
      · obtain rfl : a = l.length := by omega
        have HE : Hid (validLog l (n : Int) = b) := by
          show _ = _
          rw [HV.out, ← hst.out, (read_none (decN_out (by omega))).2, Scan.done hn hsc.out]
          simp
        clear hst hsc
        cases b
        · go_wp2
          exact ⟨rfl, by rw [HE.out]; rfl, eb.trans he⟩
        · go_wp2
          go_end0
          exact ⟨by rw [HE.out]; rfl, eb.trans he⟩

section
variable {P : Program}
theorem run_ta_hit (w : World) (t xT : TypeId) (fs : Array Field) (v : Value) (h : P.underlying t = some (.struct fs)) : (Instr.typeAssert (.iface t v) xT t true).run P w = .ok (.tuple #[v, .bool true]) w := by
  simp [Instr.typeAssert, run_underlying h, go_sem, Result.andThen]
theorem run_ta_nil (w : World) (t xT : TypeId) (fs : Array Field) (z : Value) (h : P.underlying t = some (.struct fs)) (hz : (P.info? t).map (·.zero) = some (some z)) : (Instr.typeAssert .nilIface xT t true).run P w = .ok (.tuple #[z, .bool false]) w := by
  obtain ⟨j, hj, hz'⟩ := Option.map_eq_some_iff.1 hz
  simp [Instr.typeAssert, run_underlying h, zeroValue, typeInfo, hj, hz']
end
set_option maxRecDepth 100000 in
theorem catch_panicking (p : Addr) (x : Bool) (older : List PanicEntry) (w : World) (hc : w.cell? p = some (.bool x)) (hz : w.frozen? p = false) :
    CallsD Try.prog 127 #[.pointer (some p)] (.panicking ({ v := .iface 140 (.agg #[]), recovered := false } :: older)) w fun e u' w' =>
      e = .returned (.tuple #[]) ∧ u' = .panicking ({ v := .iface 140 (.agg #[]), recovered := true } :: older) ∧ ∃ o, w' = (w.alloc o).setCell p (.bool false) := by
  have hta := fun w => run_ta_hit (P := Try.prog) w 140 20 _ (.agg #[]) Try.underlying140
  refine callsD_of_wpS Try.func127 rfl fun c₀ cs hu => ?_
  apply wpS_seq
  apply wpS_region
  simp [wpOpsS, go_sem, recoverD, hu, Try.ntmps127, Exit.thenS, hta]
  apply wpS_seq
  apply wpS_region
  simp [wpOpsS, go_sem, Exit.thenS]
  refine wpS_cond (t := true) (by simp [Act.eval, Array.replicate]) ?_
  simp only [if_true]
  apply wpS_region
  have hlt := block_lt_of_cell hc
  have hne : ¬ p.block = w.heap.size := by omega
  have hc2 : (w.alloc (.cells #[] 140)).cell? p = some (.bool x) := (Ext_alloc _ (Ext.refl w)).cell hlt |>.trans hc
  have hz2 : (w.alloc (.cells #[] 140)).frozen? p = false := ((Ext_alloc _ (Ext.refl w)).frozen hlt).trans hz
  simp [wpOpsS, go_sem, hc2, hz2, bodyPostS, results, Try.results127]
  exact ⟨_, rfl⟩
set_option maxRecDepth 100000 in
theorem catch_idle (p : Addr) (w : World) :
    CallsD Try.prog 127 #[.pointer (some p)] .returning w fun e u' w' => e = .returned (.tuple #[]) ∧ u' = .returning ∧ ∃ o, w' = w.alloc o := by
  have hta := fun w => run_ta_nil (P := Try.prog) w 140 20 _ (.agg #[]) Try.underlying140 (by kernel_rfl)
  refine callsD_of_wpS Try.func127 rfl fun c₀ cs hu => ?_
  apply wpS_seq
  apply wpS_region
  simp [wpOpsS, go_sem, recoverD, hu, Try.ntmps127, Exit.thenS, hta]
  apply wpS_seq
  apply wpS_region
  simp [wpOpsS, go_sem, Exit.thenS]
  refine wpS_cond (t := false) (by simp [Act.eval, Array.replicate]) ?_
  simp only [Bool.false_eq_true, if_false]
  refine wpS_of_wp (wp_skip ?_)
  cases c₀
  simp_all [bodyPostS, results, Try.results127]
  exact ⟨_, rfl⟩

set_option maxRecDepth 100000 in
set_option maxHeartbeats 1000000 in
theorem iIsValidLog_c (A : Option Addr) (l : List UInt8) (c : Nat) (s : Int) (w : World) (h : Bs w A l c) (hL : l.length ≤ 1099511627776) :
    Gives Try.prog 86 #[vlog (.slice A l.length c) s] w (.bool (validLog l s)) := by
  have hmf : ∀ (fn : Fn) (first cap : Array Value) (w : World), (Instr.makeFunc fn first cap).run Try.prog w = .ok (.func fn first cap) w := fun _ _ _ _ => rfl
  have eb := Ext_alloc (.cells #[.bool false] 4) (Ext_alloc (.cells #[.slice A l.length c, .int .i64 s] 51) (Ext.refl w))
  have BX := fun w' (e : Ext ((w.alloc (.cells #[.slice A l.length c, .int .i64 s] 51)).alloc (.cells #[.bool false] 4)) w') => boxed2 e
  have B1 := fun w' e => (BX w' e).2.1 0
  have F1 := fun w' e => (BX w' e).2.2.2.1 0
  have C := Lib.hid (fun w h => iMustBeLog_c A l c s w h hL)
  clear BX
  cases hv : validLog l s
  · rw [hv] at C
    unfold vlog mustEnd at C
    unfold vlog
    go_enter_defers Try.func86, Try.ntmps86
    go_wp2_with (go_at_call 128; refine (C.out _ (h.ext eb)).mono ?_; rintro _ w1 ⟨rfl, he1⟩)
    refine leaves_cons (f := 127) (args := #[.pointer (some ⟨w.heap.size + 1, 0, none⟩)]) (by simp) (by simp [go_sem]) ?_
    refine (catch_panicking ⟨w.heap.size + 1, 0, none⟩ false [] _ (B1 _ he1) (F1 _ he1)).mono ?_
    rintro e u' w'' ⟨rfl, rfl, o, rfl⟩
    have hs : w.heap.size + 1 < w1.heap.size := by have := he1.size; simp at this; omega
    have hc : (w1.alloc o).cell? ⟨w.heap.size + 1, 0, none⟩ = some (.bool false) := B1 _ (he1.trans (Ext_alloc _ (Ext.refl _)))
    have hs0 : ((w1.alloc o).setCell ⟨w.heap.size + 1, 0, none⟩ (.bool false)).cell? ⟨w.heap.size + 1, 0, none⟩ = some (.bool false) := World.cell?_setCell_same _ _ _ hc
    have hfin : Ext w ((w1.alloc o).setCell ⟨w.heap.size + 1, 0, none⟩ (.bool false)) := (Ext_alloc _ (eb.trans he1)).setCell (by simp) _
    simp [Leaves, settle, results, Try.results86, go_sem, hs0]
    exact hfin
  · rw [hv] at C
    unfold vlog mustEnd at C
    unfold vlog
    go_enter_defers Try.func86, Try.ntmps86
    go_wp2_with (go_at_call 128; refine (C.out _ (h.ext eb)).mono ?_; rintro _ w1 ⟨rfl, he1⟩)
    have hc1 : (w1.setCell ⟨w.heap.size + 1, 0, none⟩ (.bool true)).cell? ⟨w.heap.size + 1, 0, none⟩ = some (.bool true) := World.cell?_setCell_same _ _ _ (B1 _ he1)
    have e2 : Ext w (w1.setCell ⟨w.heap.size + 1, 0, none⟩ (.bool true)) := (eb.trans he1).setCell (by simp) _
    have hs : w.heap.size + 1 < (w1.setCell ⟨w.heap.size + 1, 0, none⟩ (.bool true)).heap.size := block_lt_of_cell hc1
    generalize w1.setCell ⟨w.heap.size + 1, 0, none⟩ (.bool true) = w2 at *
    refine leaves_cons (f := 127) (args := #[.pointer (some ⟨w.heap.size + 1, 0, none⟩)]) (by simp) (by simp [go_sem]) ?_
    refine (catch_idle ⟨w.heap.size + 1, 0, none⟩ _).mono ?_
    rintro e u' w'' ⟨rfl, rfl, o, rfl⟩
    have hs0 : (w2.alloc o).cell? ⟨w.heap.size + 1, 0, none⟩ = some (.bool true) := ((Ext_alloc o (Ext.refl w2)).cell hs).trans hc1
    have hfin : Ext w (w2.alloc o) := Ext_alloc _ e2
    simp [Leaves, settle, results, Try.results86, go_sem, hs0]
    exact hfin
end Go.Proofs.Ytlaejcacembjiaa

/- StoreLog, CrashLog and AppendRecord of the program and of the reference. -/
namespace Go.Proofs.Ytlaejcacembjiaa
open Go.RowKit Go.Sort

theorem grown_setCell (w : World) (a : Addr) (u : Value) : w.grownBy (w.setCell a u) (some a.block) :=
  ⟨rfl, rfl, rfl, by simp, fun k _ hk => heap_setCell_other w a k u (fun e => hk (by rw [e]))⟩
/-- a row of the call's own stays where another block is written -/
theorem OwnL.set {α : Type} {f : α → Value} {e : TypeId} {w0 w : World} {v : Value} {l : List α} (h : OwnL f e w0 w v l) (p : Addr) (u : Value) (hne : v.ownBlock ≠ some p.block) : OwnL f e w0 (w.setCell p u) v l := by
  refine World.ownsRow.kept h (grown_setCell w p u) ?_
  cases hb : v.ownBlock with
  | none => exact .inl rfl
  | some g => right; rw [hb] at hne; exact fun he => hne he
theorem OwnL.lt_ne {α : Type} {f : α → Value} {e : TypeId} {w0 w : World} {v : Value} {l : List α} (h : OwnL f e w0 w v l) {b : Nat} (hb : b < w0.heap.size ∨ w.heap.size ≤ b) : v.ownBlock ≠ some b := by
  intro hv
  have h1 := World.ownsRow.lt h b hv
  omega
theorem OwnL.take {α : Type} {f : α → Value} {e : TypeId} {w0 w : World} {A : Option Addr} {n c : Nat} {l : List α} (h : OwnL f e w0 w (.slice A l.length c) l) (hn : n ≤ l.length) : OwnL f e w0 w (.slice A n c) (l.take n) := by
  have hl : (l.take n).length = n := by simp; omega
  unfold OwnL
  rw [hl]
  refine ⟨by simpa using hl, ?_⟩
  rcases h.2 with ⟨hv, h0⟩ | ⟨g, cap, cur, hv, hb, hg, hnc, hcm, hcs, htake⟩
  · injection hv with h1 _ h3
    subst h1; subst h3
    exact .inl ⟨by rw [show n = 0 by omega], by omega⟩
  · injection hv with h1 _ h3
    subst h1; subst h3
    refine .inr ⟨g, c, cur, rfl, hb, hg, by omega, hcm, hcs, ?_⟩
    have : (cur.toList.take (l.length * 1)).take n = (l.map f).take n := by rw [htake]
    rw [List.take_take, Nat.min_eq_left (by omega)] at this
    rw [Nat.mul_one, this, List.map_take]
/-- what is stored behind StoreLog -/
def storeAt (l : List UInt8) (s : Int) : Int := if validLog l s then l.length else s
set_option maxRecDepth 100000 in
set_option maxHeartbeats 2000000 in
theorem iStoreLog_c (A : Option Addr) (l : List UInt8) (c : Nat) (s : Int) (w : World) (h : Bs w A l c) (hL : l.length ≤ 1099511627776) :
    Calls Try.prog 74 #[vlog (.slice A l.length c) s] w fun e w' => ∃ v, e = .returned (vlog v (storeAt l s)) ∧ OwnL vu8 5 w w' v l ∧ Ext w w' := by
  have hl := h.len
  have eb := Ext_alloc (.cells #[.slice none 0 0, .int .i64 0] 51) (Ext_alloc (.cells #[.slice A l.length c, .int .i64 s] 51) (Ext.refl w))
  have BX := fun w' (e : Ext ((w.alloc (.cells #[.slice A l.length c, .int .i64 s] 51)).alloc (.cells #[.slice none 0 0, .int .i64 0] 51)) w') => boxed2 e
  have B0 := fun w' e => (BX w' e).1
  have B1 := fun w' e => (BX w' e).2.1
  have F1 := fun w' e => (BX w' e).2.2.2.1
  clear BX
  have C1 := Lib.hid (fun w h => iCopyLog_c A l c s w h)
  have C2 := Lib.hid (fun w h => iIsValidLog_c A l c s w h hL)
  unfold storeAt
  unfold vlog at *
  cases hv : validLog l s
  all_goals
    rw [hv] at C2
    go_enter Try.func74, Try.ntmps74
    go_wp2_with fail
    refine (C1.out _ (h.ext eb)).mono ?_; rintro _ w1 ⟨v1, rfl, ho1, he1⟩; obtain ⟨A1, c1, hv1, r1⟩ := OwnL.rd ho1 hl; subst hv1
    have ex := Ext_alloc (.cells #[.slice A1 l.length c1, .int .i64 s] 51) (Ext.refl w1)
    have B2 := fun w' (e : Ext (w1.alloc (.cells #[.slice A1 l.length c1, .int .i64 s] 51)) w') => boxed e
    have F2 := fun w' (e : Ext (w1.alloc (.cells #[.slice A1 l.length c1, .int .i64 s] 51)) w') => boxed_free e
    have e1x := he1.trans ex
    go_wp2_with fail
    refine (C2.out _ (h.ext (eb.trans e1x))).mono ?_; rintro _ w2 ⟨rfl, he2⟩
    have e12 := e1x.trans he2
    have hs1 : w.heap.size + 1 < w1.heap.size := by have := he1.size; simp at this; omega
    have hs2 : w1.heap.size < w2.heap.size := by have := he2.size; simp at this; omega
    have o2 := (OwnL.ext ho1 ex).ext he2
    have HN : Hid ((Value.slice A1 l.length c1).ownBlock ≠ some w1.heap.size) := OwnL.lt_ne ho1 (.inr (Nat.le_refl _))
    have hB0 := B0 _ e12; have hB1 := B1 _ e12; have hF1 := F1 _ e12; have hB2 := B2 _ he2; have hF2 := F2 _ he2
    have hz0 := hB1 0; have hz1 := hB1 1; have hy0 := hB2 0; have hy1 := hB2 1
    simp at hz0 hz1 hy0 hy1
    go_wp2
    first
      | (obtain ⟨s0, s1⟩ := stored2 hB1
         refine bodyPost_ret (v := .agg #[.slice A1 l.length c1, .int .i64 s]) (by simp [results, Try.results74, go_sem, s0, s1]) rfl ⟨_, rfl, ?_, ?_⟩
         · exact OwnL.lower (ownsRow_setCell_below (ownsRow_setCell_below o2 (by simp) _) (by simp) _) eb
         · exact ((eb.trans e12).setCell (by simp) _).setCell (by simp) _)
      | (have hB1' : ∀ u i, (w2.setCell ⟨w1.heap.size, 1, none⟩ u).cell? ⟨w.heap.size + 1, i, none⟩ = #[Value.slice none 0 0, Value.int .i64 0][i]? := by
           intro u i
           have hoth : (w2.setCell ⟨w1.heap.size, 1, none⟩ u).cell? ⟨w.heap.size + 1, i, none⟩ = w2.cell? ⟨w.heap.size + 1, i, none⟩ := by
             apply World.cell?_setCell_other
             intro hh; injection hh with hh; omega
           exact hoth.trans (hB1 i)
         obtain ⟨s0, s1⟩ := stored2 (hB1' (.int .i64 l.length))
         refine bodyPost_ret (v := .agg #[.slice A1 l.length c1, .int .i64 l.length]) (by simp [results, Try.results74, go_sem, s0, s1]) rfl ⟨_, rfl, ?_, ?_⟩
         · exact OwnL.lower (ownsRow_setCell_below (ownsRow_setCell_below (OwnL.set o2 _ _ HN.out) (by simp) _) (by simp) _) eb
         · exact (((eb.trans e12).setCell (by simp; omega) _).setCell (by simp) _).setCell (by simp) _)

set_option maxRecDepth 100000 in
set_option maxHeartbeats 2000000 in
theorem sStoreLog_c (A : Option Addr) (l : List UInt8) (c : Nat) (s : Int) (w : World) (h : Bs w A l c) (hL : l.length ≤ 1099511627776) :
    Calls Try.prog 71 #[vlog (.slice A l.length c) s] w fun e w' => ∃ v, e = .returned (vlog v (storeAt l s)) ∧ OwnL vu8 5 w w' v l ∧ Ext w w' := by
  have hl := h.len
  have eb := Ext_alloc (.cells #[.slice none 0 0, .int .i64 0] 51) (Ext_alloc (.cells #[.slice A l.length c, .int .i64 s] 51) (Ext.refl w))
  have BX := fun w' (e : Ext ((w.alloc (.cells #[.slice A l.length c, .int .i64 s] 51)).alloc (.cells #[.slice none 0 0, .int .i64 0] 51)) w') => boxed2 e
  have B0 := fun w' e => (BX w' e).1
  have B1 := fun w' e => (BX w' e).2.1
  have F1 := fun w' e => (BX w' e).2.2.2.1
  clear BX
  have C1 := Lib.hid (fun w h => sCopyLog_c A l c s w h)
  have C2 := Lib.hid (fun w h => sIsValidLog_c A l c s w h hL)
  unfold storeAt
  unfold vlog at *
  cases hv : validLog l s
  all_goals
    rw [hv] at C2
    go_enter Try.func71, Try.ntmps71
    go_wp2_with fail
    refine (C1.out _ (h.ext eb)).mono ?_; rintro _ w1 ⟨v1, rfl, ho1, he1⟩; obtain ⟨A1, c1, hv1, r1⟩ := OwnL.rd ho1 hl; subst hv1
    have ex := Ext_alloc (.cells #[.slice A1 l.length c1, .int .i64 s] 51) (Ext.refl w1)
    have B2 := fun w' (e : Ext (w1.alloc (.cells #[.slice A1 l.length c1, .int .i64 s] 51)) w') => boxed e
    have F2 := fun w' (e : Ext (w1.alloc (.cells #[.slice A1 l.length c1, .int .i64 s] 51)) w') => boxed_free e
    have e1x := he1.trans ex
    go_wp2_with fail
    refine (C2.out _ (h.ext (eb.trans e1x))).mono ?_; rintro _ w2 ⟨rfl, he2⟩
    have e12 := e1x.trans he2
    have hs1 : w.heap.size + 1 < w1.heap.size := by have := he1.size; simp at this; omega
    have hs2 : w1.heap.size < w2.heap.size := by have := he2.size; simp at this; omega
    have o2 := (OwnL.ext ho1 ex).ext he2
    have HN : Hid ((Value.slice A1 l.length c1).ownBlock ≠ some w1.heap.size) := OwnL.lt_ne ho1 (.inr (Nat.le_refl _))
    have hB0 := B0 _ e12; have hB1 := B1 _ e12; have hF1 := F1 _ e12; have hB2 := B2 _ he2; have hF2 := F2 _ he2
    have hz0 := hB1 0; have hz1 := hB1 1; have hy0 := hB2 0; have hy1 := hB2 1
    simp at hz0 hz1 hy0 hy1
    go_wp2
    first
      | (obtain ⟨s0, s1⟩ := stored2 hB1
         refine bodyPost_ret (v := .agg #[.slice A1 l.length c1, .int .i64 s]) (by simp [results, Try.results71, go_sem, s0, s1]) rfl ⟨_, rfl, ?_, ?_⟩
         · exact OwnL.lower (ownsRow_setCell_below (ownsRow_setCell_below o2 (by simp) _) (by simp) _) eb
         · exact ((eb.trans e12).setCell (by simp) _).setCell (by simp) _)
      | (have hB1' : ∀ u i, (w2.setCell ⟨w1.heap.size, 1, none⟩ u).cell? ⟨w.heap.size + 1, i, none⟩ = #[Value.slice none 0 0, Value.int .i64 0][i]? := by
           intro u i
           have hoth : (w2.setCell ⟨w1.heap.size, 1, none⟩ u).cell? ⟨w.heap.size + 1, i, none⟩ = w2.cell? ⟨w.heap.size + 1, i, none⟩ := by
             apply World.cell?_setCell_other
             intro hh; injection hh with hh; omega
           exact hoth.trans (hB1 i)
         obtain ⟨s0, s1⟩ := stored2 (hB1' (.int .i64 l.length))
         refine bodyPost_ret (v := .agg #[.slice A1 l.length c1, .int .i64 l.length]) (by simp [results, Try.results71, go_sem, s0, s1]) rfl ⟨_, rfl, ?_, ?_⟩
         · exact OwnL.lower (ownsRow_setCell_below (ownsRow_setCell_below (OwnL.set o2 _ _ HN.out) (by simp) _) (by simp) _) eb
         · exact (((eb.trans e12).setCell (by simp; omega) _).setCell (by simp) _).setCell (by simp) _)

/-- where a crashed log is cut, what is stored of it -/
def keptOf (l : List UInt8) (s k : Int) : Nat := (min (max k s) (l.length : Int)).toNat
def crashEnd (l : List UInt8) (s k : Int) : Nat := if validLog l s then stop (l.take (keptOf l s k)) 0 else l.length
def crashAt (l : List UInt8) (s k : Int) : Int := if validLog l s then stop (l.take (keptOf l s k)) 0 else s
theorem keptOf_facts {l : List UInt8} {s k : Int} (h : validLog l s = true) : keptOf l s k ≤ l.length ∧ (if (l.length : Int) < (if k < s then s else k) then (l.length : Int) else (if k < s then s else k)) = (keptOf l s k : Int) ∧
    (if s < (if (l.length : Int) < k then (l.length : Int) else k) then (if (l.length : Int) < k then (l.length : Int) else k) else s) = (keptOf l s k : Int) := by
  have hf := validLog_facts h
  unfold keptOf
  refine ⟨by omega, ?_, ?_⟩
  · split <;> split <;> omega
  · split <;> split <;> omega
theorem crashEnd_le {l : List UInt8} {s k : Int} (h : validLog l s = true) : stop (l.take (keptOf l s k)) 0 ≤ l.length := by
  have h1 := (stop_le (b := l.take (keptOf l s k)) (a := 0) (by omega)).1
  rw [List.length_take] at h1; omega


set_option maxRecDepth 100000 in
set_option maxHeartbeats 4000000 in
theorem iCrashLog_c (A : Option Addr) (l : List UInt8) (c : Nat) (s k : Int) (w : World) (hA : Bs w A l c) (hL : l.length ≤ 1099511627776) :
    Calls Try.prog 79 #[vlog (.slice A l.length c) s, .int .i64 k] w fun e w' => ∃ v, e = .returned (vlog v (crashAt l s k)) ∧ OwnL vu8 5 w w' v (l.take (crashEnd l s k)) ∧ Ext w w' := by
  have hl := hA.len
  have hcap := hA.cap
  have eb := Ext_alloc (.cells #[.slice none 0 0, .int .i64 0] 51) (Ext_alloc (.cells #[.slice A l.length c, .int .i64 s] 51) (Ext.refl w))
  have BX := fun w' (e : Ext ((w.alloc (.cells #[.slice A l.length c, .int .i64 s] 51)).alloc (.cells #[.slice none 0 0, .int .i64 0] 51)) w') => boxed2 e
  have B0 := fun w' e => (BX w' e).1
  have B1 := fun w' e => (BX w' e).2.1
  have F1 := fun w' e => (BX w' e).2.2.2.1
  clear BX
  have C1 := Lib.hid (fun w h => iCopyLog_c A l c s w h)
  have C2 := Lib.hid (fun w h => iIsValidLog_c A l c s w h hL)
  unfold vlog at *
  cases hv : validLog l s
  · have HV : Hid (crashAt l s k = s ∧ l.take (crashEnd l s k) = l) := by
      show _ ∧ _; unfold crashAt crashEnd; rw [hv]; simp
    rw [hv] at C2
    rw [HV.out.1, HV.out.2]
    go_enter Try.func79, Try.ntmps79
    go_wp2_with fail
    refine (C1.out _ (hA.ext eb)).mono ?_; rintro _ w1 ⟨v1, rfl, ho1, he1⟩; obtain ⟨A1, c1, hv1, r1⟩ := OwnL.rd ho1 hl; subst hv1
    have ex := Ext_alloc (.cells #[.slice A1 l.length c1, .int .i64 s] 51) (Ext.refl w1)
    have B2 := fun w' (e : Ext (w1.alloc (.cells #[.slice A1 l.length c1, .int .i64 s] 51)) w') => boxed e
    have e1x := he1.trans ex
    go_wp2_with fail
    refine (C2.out _ (hA.ext (eb.trans e1x))).mono ?_; rintro _ w2 ⟨rfl, he2⟩
    have e12 := e1x.trans he2
    have o2 := (OwnL.ext ho1 ex).ext he2
    have hB1 := B1 _ e12
    go_wp2
    obtain ⟨s0, s1⟩ := stored2 hB1
    refine bodyPost_ret (v := .agg #[.slice A1 l.length c1, .int .i64 s]) (by simp [results, Try.results79, go_sem, s0, s1]) rfl ⟨_, rfl, ?_, ?_⟩
    · exact OwnL.lower (ownsRow_setCell_below (ownsRow_setCell_below o2 (by simp) _) (by simp) _) eb
    · exact ((eb.trans e12).setCell (by simp) _).setCell (by simp) _
  · obtain ⟨m, hm⟩ : ∃ m, keptOf l s k = m := ⟨_, rfl⟩
    obtain ⟨k1, k2, _⟩ := keptOf_facts (k := k) hv
    have k3 := crashEnd_le (k := k) hv
    rw [hm] at k1 k2 k3
    obtain ⟨E, hE⟩ : ∃ E, stop (l.take m) 0 = E := ⟨_, rfl⟩
    rw [hE] at k3
    have HV : Hid (crashAt l s k = E ∧ crashEnd l s k = E) := by
      show _ ∧ _; unfold crashAt crashEnd; rw [hv, hm, hE]; simp
    have CM1 := Lib.hid (fun w => iMax_c k s w)
    obtain ⟨M, hM⟩ : ∃ M, (if k < s then s else k) = M := ⟨_, rfl⟩
    rw [hM] at CM1 k2
    have CM2 := Lib.hid (fun w => iMin_c M (l.length : Int) w)
    rw [k2] at CM2
    clear k2 hM
    have C3 : Hid (∀ A' c' w', Bs w' A' (l.take m) c' → Calls Try.prog 125 #[.slice A' m c'] w' fun e w'' => ∃ v ps, e = .returned (.tuple #[v, .int .i64 (E : Nat)]) ∧ ps.map Prod.fst = recs (l.take m) 0 ∧ OwnR w' w'' v ps ∧ Ext w' w'') := by
      intro A' c' w' h'
      have := iReadRecords_c A' (l.take m) c' w' h' (by simp; omega)
      rw [show (l.take m).length = m by simp; omega, hE] at this
      exact this
    rw [hv] at C2
    rw [HV.out.1, HV.out.2]
    clear hm hE
    go_enter Try.func79, Try.ntmps79
    go_wp2_with fail
    refine (C1.out _ (hA.ext eb)).mono ?_; rintro _ w1 ⟨v1, rfl, ho1, he1⟩; obtain ⟨A1, c1, hv1, r1⟩ := OwnL.rd ho1 hl; subst hv1
    have hc1 := r1.cap
    have ex := Ext_alloc (.cells #[.slice A1 l.length c1, .int .i64 s] 51) (Ext.refl w1)
    have B2 := fun w' (e : Ext (w1.alloc (.cells #[.slice A1 l.length c1, .int .i64 s] 51)) w') => boxed e
    have e1x := he1.trans ex
    go_wp2_with fail
    refine (C2.out _ (hA.ext (eb.trans e1x))).mono ?_; rintro _ w2 ⟨rfl, he2⟩
    have e12 := e1x.trans he2
    go_wp2_with fail
    refine wp_region_quiet_below (by kernel_rfl) (by kernel_rfl) ?_
    repeat (go_big_quiet_step ((first | (go_at_call 124; exact Calls.regrown_of (CM1.out _)) | (go_at_call 123; exact Calls.regrown_of (CM2.out _)))))
    refine wpQuiet_nil ?_
    rintro w3 ⟨⟨nq, osq⟩, hq⟩
    have ew3 := ext_of_q hq
    clear hq nq osq
    have e13 := e12.trans ew3
    have e23 := he2.trans ew3
    go_wp2_with fail
    refine (C3.out _ _ _ ((hA.ext (eb.trans e13)).take m)).mono ?_; rintro _ w4 ⟨v4, p4, rfl, _, _, he4⟩
    have e14 := e13.trans he4
    have e24 := e23.trans he4
    have o4 := OwnL.ext (OwnL.take ho1 k3) (ex.trans e24)
    have hB1 := B1 _ e14
    go_wp2
    obtain ⟨s0, s1⟩ := stored2 hB1
    refine bodyPost_ret (v := .agg #[.slice A1 E c1, .int .i64 E]) (by simp [results, Try.results79, go_sem, s0, s1]) rfl ⟨_, rfl, ?_, ?_⟩
    · exact OwnL.lower (ownsRow_setCell_below (ownsRow_setCell_below o4 (by simp) _) (by simp) _) eb
    · exact ((eb.trans e14).setCell (by simp) _).setCell (by simp) _
end Go.Proofs.Ytlaejcacembjiaa

/- CrashLog of the reference; AppendRecord of both. -/
namespace Go.Proofs.Ytlaejcacembjiaa
open Go.RowKit Go.Sort

set_option maxRecDepth 100000 in
set_option maxHeartbeats 4000000 in
theorem sCrashLog_c (A : Option Addr) (l : List UInt8) (c : Nat) (s k : Int) (w : World) (hA : Bs w A l c) (hL : l.length ≤ 1099511627776) :
    Calls Try.prog 78 #[vlog (.slice A l.length c) s, .int .i64 k] w fun e w' => ∃ v, e = .returned (vlog v (crashAt l s k)) ∧ OwnL vu8 5 w w' v (l.take (crashEnd l s k)) ∧ Ext w w' := by
  have hl := hA.len
  have hcap := hA.cap
  have eb := Ext_alloc (.cells #[.slice none 0 0, .int .i64 0] 51) (Ext_alloc (.cells #[.slice A l.length c, .int .i64 s] 51) (Ext.refl w))
  have BX := fun w' (e : Ext ((w.alloc (.cells #[.slice A l.length c, .int .i64 s] 51)).alloc (.cells #[.slice none 0 0, .int .i64 0] 51)) w') => boxed2 e
  have B0 := fun w' e => (BX w' e).1
  have B1 := fun w' e => (BX w' e).2.1
  have F1 := fun w' e => (BX w' e).2.2.2.1
  clear BX
  have C1 := Lib.hid (fun w h => sCopyLog_c A l c s w h)
  have C2 := Lib.hid (fun w h => sIsValidLog_c A l c s w h hL)
  unfold vlog at *
  cases hv : validLog l s
  · have HV : Hid (crashAt l s k = s ∧ l.take (crashEnd l s k) = l) := by
      show _ ∧ _; unfold crashAt crashEnd; rw [hv]; simp
    rw [hv] at C2
    rw [HV.out.1, HV.out.2]
    go_enter Try.func78, Try.ntmps78
    go_wp2_with fail
    refine (C2.out _ (hA.ext eb)).mono ?_; rintro _ w2 ⟨rfl, he2⟩
    go_wp2_with fail
    refine (C1.out _ (hA.ext (eb.trans he2))).mono ?_; rintro _ w1 ⟨v1, rfl, ho1, he1⟩; obtain ⟨A1, c1, hv1, r1⟩ := OwnL.rd ho1 hl; subst hv1
    have e12 := he2.trans he1
    have hs1 : w.heap.size + 1 < w2.heap.size := by have := he2.size; simp at this; omega
    have hB1 := B1 _ e12
    go_wp2
    obtain ⟨s0, s1⟩ := stored2 hB1
    refine bodyPost_ret (v := .agg #[.slice A1 l.length c1, .int .i64 s]) (by simp [results, Try.results78, go_sem, s0, s1]) rfl ⟨_, rfl, ?_, ?_⟩
    · exact OwnL.lower (ownsRow_setCell_below (ownsRow_setCell_below ho1 (by omega) _) (by omega) _) (eb.trans he2)
    · exact ((eb.trans e12).setCell (by simp) _).setCell (by simp) _
  · obtain ⟨m, hm⟩ : ∃ m, keptOf l s k = m := ⟨_, rfl⟩
    obtain ⟨k1, _, k2⟩ := keptOf_facts (k := k) hv
    have k3 := crashEnd_le (k := k) hv
    rw [hm] at k1 k2 k3
    obtain ⟨E, hE⟩ : ∃ E, stop (l.take m) 0 = E := ⟨_, rfl⟩
    rw [hE] at k3
    have HV : Hid (crashAt l s k = E ∧ crashEnd l s k = E) := by
      show _ ∧ _; unfold crashAt crashEnd; rw [hv, hm, hE]; simp
    have CM1 := Lib.hid (fun w => sMin_c k (l.length : Int) w)
    obtain ⟨M, hM⟩ : ∃ M, (if (l.length : Int) < k then (l.length : Int) else k) = M := ⟨_, rfl⟩
    rw [hM] at CM1 k2
    have CM2 := Lib.hid (fun w => sMax_c s M w)
    rw [k2] at CM2
    clear k2 hM
    have C3 : Hid (∀ A' c' w', Bs w' A' (l.take m) c' → Calls Try.prog 120 #[.slice A' m c'] w' fun e w'' => ∃ v ps, e = .returned (.tuple #[v, .int .i64 (E : Nat)]) ∧ ps.map Prod.fst = recs (l.take m) 0 ∧ OwnR w' w'' v ps ∧ Ext w' w'') := by
      intro A' c' w' h'
      have := sReadRecords_c A' (l.take m) c' w' h' (by simp; omega)
      rw [show (l.take m).length = m by simp; omega, hE] at this
      exact this
    rw [hv] at C2
    rw [HV.out.1, HV.out.2]
    have HEL : Hid (E = (l.take E).length) := by show _ = _; simp; omega
    have HB2 : Hid ((([] : List UInt8).length + (l.take E).length) * 1 ≤ 140737488355328) := by show _ ≤ _; simp; omega
    have g1 : (m : Int) ≤ (c : Int) := by omega
    have g1' : m ≤ c := by omega
    clear hm hE
    go_enter Try.func78, Try.ntmps78
    go_wp2_with fail
    refine (C2.out _ (hA.ext eb)).mono ?_; rintro _ w2 ⟨rfl, he2⟩
    have B0' := fun w' (e : Ext w2 w') => B0 w' (he2.trans e)
    go_wp2_with fail
    go_region_held3 (fun w' => Ext w2 w') (first | assumption | exact Ext_drew (Ext.refl _) | exact Ext.trans (by assumption) (by assumption)) (first
      | (go_at_call 122; refine (CM1.out _).mono ?_; rintro _ w3 ⟨rfl, he3⟩)
      | (go_at_call 121; refine (CM2.out _).mono ?_; rintro _ w4 ⟨rfl, he4⟩)
      | (go_at_call 120; refine (C3.out _ _ _ ((hA.ext ((eb.trans he2).trans (by assumption))).take m)).mono ?_; rintro _ w5 ⟨v5, p5, rfl, _, _, he5⟩))
    have e25 : Ext w2 w5 := by assumption
    have e15 := he2.trans e25
    clear he3 he4 he5 B0'
    have HS : Hid (w.heap.size + 1 < w5.heap.size) := by have := e15.size; simp at this; show _ < _; omega
    go_wp2_with (first
      | (at_builtin; refine wpList_appL rfl (.tmp 27) (.tmp 31) _ rfl E_u8 (by omega) w5 _ vu8 (fun _ => rfl) _ rfl _ _ _ rfl [] (l.take E) (OwnL.empty (Ext.refl _)) (Ext_alloc _ (Ext.refl _)) HEL.out (((hA.ext (eb.trans e15)).take E).src (Ext_alloc _ (Ext.refl _))) HB2.out ?_; intro v6 w6 ho6 he6 _ _; have e16 := e15.trans he6; rw [List.nil_append] at ho6; obtain ⟨A6, c6, hv6, r6⟩ := OwnL.rd ho6 (by rw [← HEL.out]; omega); rw [← HEL.out] at hv6; subst hv6))
    have hB1 := B1 _ e16
    obtain ⟨s0, s1⟩ := stored2 hB1
    refine bodyPost_ret (v := .agg #[.slice A6 E c6, .int .i64 E]) (by simp [results, Try.results78, go_sem, s0, s1]) rfl ⟨_, rfl, ?_, ?_⟩
    · exact OwnL.lower (ownsRow_setCell_below (ownsRow_setCell_below ho6 HS.out _) HS.out _) (eb.trans e15)
    · exact ((eb.trans e16).setCell (by simp) _).setCell (by simp) _
end Go.Proofs.Ytlaejcacembjiaa

/- AppendRecord of the program and of the reference. -/
namespace Go.Proofs.Ytlaejcacembjiaa
open Go.RowKit Go.Sort

section
variable {P : Program} {ops : Array Oper} {o : Oper} {a : Act} {Q : Exit → Act → World → Prop} {K : Act → World → Prop} {E : Prop}
/-- append(s, ys...) in a region that draws, with what becomes of the block -/
theorem step_appG (hgd : o.guard = none) (s x : Operand) (t : TypeId) (ho : o.op = .call { callee := .builtin .append, args := #[s, x], argTypes := #[t, t] })
    {e : TypeId} {bytes : Nat} {z : Value} (hE : Elem P t e 1 bytes z) (hby : 1 ≤ bytes) (w0 w : World) {α : Type} (f : α → Value) (hf : ∀ x, (f x).oneCell' = true) (v : Value) (hs : a.eval s = v) (A : Option Addr) (m c : Nat) (hx : a.eval x = .slice A m c)
    (l ys : List α) (hown : OwnL f e w0 w v l) (he : Ext w0 w) (hm : m = ys.length)
    (hA : 0 < ys.length → ∃ ad, A = some ad ∧ ∀ j u, (ys.map f)[j]? = some u → w.cell? (ad.add j) = some u)
    (hb : (l.length + ys.length) * bytes ≤ 140737488355328)
    (h : ∀ v' w', OwnL f e w0 w' v' (l ++ ys) → Ext w0 w' → (v'.ownBlock = v.ownBlock ∨ v'.ownBlock = some w.heap.size) → w.grownBy w' v.ownBlock → K (a.put o.dst v') w') :
    if Region.wanted o (yielded ops a.tmps) = true then Oper.wp P o a w K Q else E := by
  have hw : Region.wanted o (yielded ops a.tmps) = true := by simp [Region.wanted, hgd]
  rw [if_pos hw]
  obtain ⟨i0, hi0, hz0, hz1, hz2⟩ := info_parts hE.hi
  subst hm
  have hfin : ∀ v' w', Own e 1 w0 w' v' (l.length + ys.length) (l.map f ++ ys.map f) → Ext w0 w' → (v'.ownBlock = v.ownBlock ∨ v'.ownBlock = some w.heap.size) → w.grownBy w' v.ownBlock → K (a.put o.dst v') w' := fun v' w' h1 h2 h3 h4 => h v' w' (by simpa [OwnL] using h1) h2 h3 h4
  rcases A with _ | ad
  · have hm0 : ys.length = 0 := by
      rcases Nat.eq_zero_or_pos ys.length with h0 | h0
      · exact h0
      · obtain ⟨ad, h, _⟩ := hA h0
        cases h
    obtain rfl : ys = [] := List.eq_nil_of_length_eq_zero hm0
    unfold Oper.wp execOp
    simp only [ho, resolve, invoke, builtin, Sem.run_bind, Sem.run_pure, Result.andThen_ok, List.map_toArray, List.map_cons, List.map_nil, List.length_nil, hs, hx, run_app_nil w w0.heap.size t o.type e i0 1 hE.ht hi0 v l.length (l.map f) hown c]
    exact hfin v w (by have h' := hown; unfold OwnL at h'; simpa using h') he (.inl rfl) (World.grownBy.refl w _)
  · obtain ⟨v', w', hr, h2, h3, h4, h5⟩ := run_append_own_at (P := P) w w0.heap.size t o.type e i0 z 1 bytes hE.ht hi0 hz0 hz1 hz2 hE.hz hE.hs v l.length (l.map f) hown ad ys.length c (ys.map f) (by simp)
      (fun j u hu => by
        rcases Nat.eq_zero_or_pos ys.length with h0 | h0
        · obtain rfl : ys = [] := List.eq_nil_of_length_eq_zero h0
          simp at hu
        · obtain ⟨ad', h', hc⟩ := hA h0
          injection h' with h'
          subst h'
          exact hc j u hu)
      (fun u hu => by obtain ⟨x, _, rfl⟩ := List.mem_map.1 hu; exact hf x) (by have := Nat.mul_le_mul_left (l.length + ys.length) hby; simp only [maxLen]; omega) hb he.size
    unfold Oper.wp execOp
    simp only [ho, resolve, invoke, builtin, Sem.run_bind, Sem.run_pure, Result.andThen_ok, List.map_toArray, List.map_cons, List.map_nil, hs, hx, hr]
    exact hfin v' w' h2 (he.grown h3 (fun k hk => (hown.lt k hk).1)) h5 h3
end
def appOk (l : List UInt8) (s k : Int) (nm : ByteArray) (ver : Int) (d : List UInt8) : Bool := validLog l s && validRec k nm ver d.length
def appBytes (l : List UInt8) (s k : Int) (nm : ByteArray) (ver : Int) (d : List UInt8) : List UInt8 := if appOk l s k nm ver d then l ++ encRec k nm ver d else l


end Go.Proofs.Ytlaejcacembjiaa

/- The stored files of a list of records, by the reference. -/
namespace Go.Proofs.Ytlaejcacembjiaa
open Go.RowKit Go.Sort

def DRec.file (r : DRec) : DFile := ⟨r.nm, r.ver, r.l⟩
def keepF (r : DRec) (f : DFile) : Option DFile := if f.nm.toList == r.nm.toList then (if r.k == 1 then some r.file else none) else some f
def anyF (r : DRec) (fs : List DFile) : Bool := fs.any fun f => f.nm.toList == r.nm.toList
def applyF (fs : List DFile) (r : DRec) : List DFile := fs.filterMap (keepF r) ++ (if (r.k == 1) && !(anyF r fs) then [r.file] else [])
def filesOf (rs : List DRec) : List DFile := rs.foldl applyF []
theorem applyF_len (fs : List DFile) (r : DRec) : (applyF fs r).length ≤ fs.length + 1 := by
  unfold applyF
  rw [List.length_append]
  have h1 := List.length_filterMap_le (keepF r) fs
  split <;> simp <;> omega
theorem filesOf_snoc (rs : List DRec) (r : DRec) : filesOf (rs ++ [r]) = applyF (filesOf rs) r := by unfold filesOf; rw [List.foldl_append]; rfl
theorem foldF_len (rs : List DRec) : ∀ fs : List DFile, (rs.foldl applyF fs).length ≤ fs.length + rs.length := by
  induction rs with
  | nil => intro fs; simp
  | cons r t ih =>
    intro fs
    have h1 := ih (applyF fs r)
    have h2 := applyF_len fs r
    rw [List.foldl_cons, List.length_cons]
    omega
theorem filesOf_len (rs : List DRec) : (filesOf rs).length ≤ rs.length := by
  have := foldF_len rs []
  unfold filesOf; simpa using this
def keepP (r : DRec) (fd : Value) (p : DFile × Value) : Option (DFile × Value) := if p.1.nm.toList == r.nm.toList then (if r.k == 1 then some (r.file, fd) else none) else some p
theorem keepP_fst (r : DRec) (fd : Value) (ps : List (DFile × Value)) : (ps.filterMap (keepP r fd)).map Prod.fst = (ps.map Prod.fst).filterMap (keepF r) := by
  rw [List.map_filterMap, List.filterMap_map]
  congr 1
  funext p
  show (keepP r fd p).map Prod.fst = keepF r p.1
  unfold keepP keepF
  cases (p.1.nm.toList == r.nm.toList) <;> cases (r.k == 1) <;> rfl
/-- an own row of files whose data read -/
theorem rdF_of {w0 w : World} {v : Value} {ps : List (DFile × Value)} (h : Own 102 3 w0 w v ps.length (ps.flatMap fcells)) (hl : ps.length ≤ 1099511627776)
    (hdat : ∀ p ∈ ps, ∃ A' c', p.2 = .slice A' p.1.l.length c' ∧ Bs w A' p.1.l c') : ∃ A c, v = .slice A ps.length c ∧ RdF w A ps c := by
  rcases h.2 with ⟨rfl, h0⟩ | ⟨g, cap, cur, rfl, hb, hg, hnc, hcm, hcs, htake⟩
  · exact ⟨none, 0, by rw [h0], by omega, hl, hdat, fun hp => by omega⟩
  · refine ⟨_, _, rfl, by omega, hl, hdat, fun hp => ⟨g, rfl, heap_lt hg, fun w' e i hi => ?_⟩⟩
    have hc : ∀ j, j < 3 → w'.cell? ⟨g, i * 3 + j, none⟩ = (fcells ps[i])[j]? := by
      intro j hj
      rw [boxed_at hg e, ← fcells_get ps i j hi hj, ← htake, List.getElem?_take, if_pos (by omega)]
      simp
    exact ⟨by have := hc 0 (by omega); simpa [fcells] using this, by have := hc 1 (by omega); simpa [fcells] using this, by have := hc 2 (by omega); simpa [fcells] using this⟩
theorem own_nb {v4 : Value} {a b n : Nat} (h : v4.ownBlock = (Value.slice (some ⟨a, 0, none⟩) 0 0).ownBlock ∨ v4.ownBlock = some n) (h1 : a ≠ b) (h2 : n ≠ b) : v4.ownBlock ≠ some b := by
  intro hh
  rcases h with h | h
  · have : some b = some a := hh.symm.trans h
    injection this with this; exact h1 this.symm
  · have : some b = some n := hh.symm.trans h
    injection this with this; exact h2 this.symm
theorem file_laid {W2 w4 : World} {g : Nat} {nm : ByteArray} {ver : Int} {v : Value} {l : List UInt8} (hb : Box w4 g #[.string ⟨#[]⟩, .int .i64 0, .slice none 0 0] 102) (ho : OwnL vu8 5 W2 w4 v l) (hne : v.ownBlock ≠ some g) (hg : W2.heap.size ≤ g) (he : Ext W2 w4) :
    Box (((w4.setCell ⟨g, 0, none⟩ (.string nm)).setCell ⟨g, 1, none⟩ (.int .i64 ver)).setCell ⟨g, 2, none⟩ v) g #[.string nm, .int .i64 ver, v] 102 ∧ OwnL vu8 5 W2 (((w4.setCell ⟨g, 0, none⟩ (.string nm)).setCell ⟨g, 1, none⟩ (.int .i64 ver)).setCell ⟨g, 2, none⟩ v) v l ∧ W2.heap.size ≤ g ∧ Ext W2 (((w4.setCell ⟨g, 0, none⟩ (.string nm)).setCell ⟨g, 1, none⟩ (.int .i64 ver)).setCell ⟨g, 2, none⟩ v) := by
  refine ⟨?_, ((ho.set ⟨g, 0, none⟩ _ hne).set ⟨g, 1, none⟩ _ hne).set ⟨g, 2, none⟩ _ hne, hg, ((he.setCell (p := ⟨g, 0, none⟩) hg _).setCell (p := ⟨g, 1, none⟩) hg _).setCell (p := ⟨g, 2, none⟩) hg _⟩
  have := ((hb.set 0 (.string nm)).set 1 (.int .i64 ver)).set 2 v
  simpa using this
theorem OwnL.moved' {α : Type} {f : α → Value} {e : TypeId} {w0 w w' : World} {v : Value} {l : List α} (h : OwnL f e w0 w v l) {row : Option Nat} (hg : w.grownBy w' row) (hne : ∀ b, row = some b → v.ownBlock ≠ some b) : OwnL f e w0 w' v l := by
  refine World.ownsRow.kept h hg ?_
  cases hb : v.ownBlock with
  | none => exact .inl rfl
  | some g => right; exact fun he => hne g he.symm hb
theorem keepP_take {r : DRec} {fd : Value} {ps : List (DFile × Value)} {k : Nat} (h : k < ps.length) : (ps.take (k + 1)).filterMap (keepP r fd) = (ps.take k).filterMap (keepP r fd) ++ (keepP r fd ps[k]).toList := by
  rw [List.take_succ_eq_append_getElem h, List.filterMap_append]
  congr 1
def doneF (r : DRec) (ps : List (DFile × Value)) (k : Nat) : Bool := (r.k == 1) && anyF r ((ps.take k).map Prod.fst)
theorem doneF_take {r : DRec} {ps : List (DFile × Value)} {k : Nat} (h : k < ps.length) : doneF r ps (k + 1) = (doneF r ps k || ((r.k == 1) && (ps[k].1.nm.toList == r.nm.toList))) := by
  unfold doneF anyF
  rw [List.take_succ_eq_append_getElem h, List.map_append, List.any_append]
  cases (r.k == 1) <;> simp
/-- what the loop of l35Apply keeps of its row, the file's box, the data -/
structure Keep (W1 W2 wr : World) (g : Nat) (r : DRec) (fd : Value) (v : Value) (qs : List (DFile × Value)) : Prop where
  row : Own 102 3 W1 wr v qs.length (qs.flatMap fcells)
  box : Box wr g #[.string r.nm, .int .i64 r.ver, fd] 102
  data : OwnL vu8 5 W2 wr fd r.l
  ng : v.ownBlock ≠ some g
  nd : ∀ b, v.ownBlock = some b → fd.ownBlock ≠ some b
  ext : Ext W1 wr
theorem Keep.to {W1 W2 wr w' : World} {g : Nat} {r : DRec} {fd v : Value} {qs : List (DFile × Value)} (h : Keep W1 W2 wr g r fd v qs) (e : Ext wr w') : Keep W1 W2 w' g r fd v qs :=
  ⟨Own.ext h.row e, h.box.ext e, OwnL.ext h.data e, h.ng, h.nd, h.ext.trans e⟩
theorem Keep.app {W1 W2 wr w' : World} {g : Nat} {r : DRec} {fd v v' : Value} {qs : List (DFile × Value)} {q : DFile × Value} {cs : Array Value} {T : TypeId} (h : Keep W1 W2 wr g r fd v qs) (h2 : Own 102 3 W1 w' v' (qs.length + 1) (qs.flatMap fcells ++ fcells q)) (he : Ext W1 w')
    (hb : v'.ownBlock = v.ownBlock ∨ v'.ownBlock = some (wr.alloc (.cells cs T)).heap.size) (hg : (wr.alloc (.cells cs T)).grownBy w' v.ownBlock) : Keep W1 W2 w' g r fd v' (qs ++ [q]) := by
  have ex := Ext_alloc (.cells cs T) (Ext.refl wr)
  have hgl := h.box.lt
  have hdl := fun b hb => (World.ownsRow.lt h.data b hb).2
  have hsz : (wr.alloc (.cells cs T)).heap.size = wr.heap.size + 1 := by simp
  refine ⟨by simpa [List.flatMap_append, List.flatMap_cons] using h2, Box.moved (h.box.ext ex) hg h.ng, OwnL.moved' (OwnL.ext h.data ex) hg h.nd, ?_, ?_, he⟩
  · intro hh
    rcases hb with hb | hb
    · exact h.ng (hb.symm.trans hh)
    · rw [hb] at hh; injection hh with hh; omega
  · intro b hv hd
    rcases hb with hb | hb
    · exact h.nd b (hb.symm.trans hv) hd
    · rw [hb] at hv; injection hv with hv; have := hdl b hd; omega
theorem keepP_mem {r : DRec} {fd : Value} {ps : List (DFile × Value)} {q : DFile × Value} (h : q ∈ ps.filterMap (keepP r fd)) : q ∈ ps ∨ q = (r.file, fd) := by
  obtain ⟨p, hp, he⟩ := List.mem_filterMap.1 h
  unfold keepP at he
  split at he
  · split at he
    · right; injection he with he; exact he.symm
    · cases he
  · injection he with he; left; rw [← he]; exact hp
/-- a slice that the call since w made -/
def NewA (w : World) (A : Option Addr) : Prop := ∀ b off, A = some ⟨b, off, none⟩ → w.heap.size ≤ b
theorem Keep.rd {W1 W2 wr w : World} {g : Nat} {r : DRec} {A4 : Option Addr} {c4 : Nat} {v : Value} {ps qs : List (DFile × Value)} (h : Keep W1 W2 wr g r (.slice A4 r.l.length c4) v qs) (hl : qs.length ≤ 1099511627776) (hdl : r.l.length ≤ 400)
    (hp : ∀ p ∈ ps, ∃ A' c', p.2 = .slice A' p.1.l.length c' ∧ Bs w A' p.1.l c') (e : Ext w wr) (ew : Ext w W1) (hq : ∀ q ∈ qs, q ∈ ps ∨ q = (r.file, .slice A4 r.l.length c4)) : ∃ A c, v = .slice A qs.length c ∧ RdF wr A qs c ∧ NewA w A := by
  suffices h2 : ∃ A c, v = .slice A qs.length c ∧ RdF wr A qs c by
    obtain ⟨A, c, rfl, h3⟩ := h2
    refine ⟨A, c, rfl, h3, fun b off hA => ?_⟩
    subst hA
    exact Nat.le_trans ew.size (World.ownsRow.lt h.row b rfl).1
  refine rdF_of h.row hl fun q hm => ?_
  rcases hq q hm with hm | rfl
  · obtain ⟨A', c', h1, h2⟩ := hp q hm
    exact ⟨A', c', h1, h2.ext e⟩
  · exact OwnL.rd h.data (show r.l.length ≤ _ by omega)
set_option maxRecDepth 100000 in
set_option maxHeartbeats 4000000 in
theorem sApply_c (A : Option Addr) (ps : List (DFile × Value)) (c : Nat) (r : DRec) (Ad : Option Addr) (cd : Nat) (w : World) (h : RdF w A ps c) (hd : Bs w Ad r.l cd) (hdl : r.l.length ≤ 400) (hn : ps.length ≤ 1048576) :
    Calls Try.prog 126 #[.slice A ps.length c, vrec r.k r.nm r.ver (.slice Ad r.l.length cd)] w fun e w' => ∃ A' c' qs, e = .returned (.slice A' qs.length c') ∧ RdF w' A' qs c' ∧ NewA w A' ∧ qs.map Prod.fst = applyF (ps.map Prod.fst) r ∧ Ext w w' := by
  unfold vrec
  have ea := Ext_alloc (.cells #[.int .i64 r.k, .string r.nm, .int .i64 r.ver, .slice Ad r.l.length cd] 138) (Ext.refl w)
  have B0 := fun w' (e : Ext (w.alloc (.cells #[.int .i64 r.k, .string r.nm, .int .i64 r.ver, .slice Ad r.l.length cd] 138)) w') => boxed e
  obtain ⟨W1, hW1⟩ : ∃ W1, W1 = w.alloc (.cells #[.int .i64 r.k, .string r.nm, .int .i64 r.ver, .slice Ad r.l.length cd] 138) := ⟨_, rfl⟩
  have HW1 := Lib.hid hW1
  have hs1 : W1.heap.size = w.heap.size + 1 := by rw [hW1]; simp
  rw [← hW1] at ea B0
  have ey := Ext_alloc (.cells #[] 102) (Ext.refl W1)
  have HV : Hid (Own 102 3 W1 (W1.alloc (.cells #[] 102)) (.slice (some ⟨w.heap.size + 1, 0, none⟩) 0 0) 0 []) := by
    have := Own.empty (e := 102) (size := 3) (Ext.refl W1)
    rw [hs1] at this
    exact this
  obtain ⟨W2, hW2⟩ : ∃ W2, W2 = W1.alloc (.cells #[] 102) := ⟨_, rfl⟩
  have HW2 := Lib.hid hW2
  have hs2 : W2.heap.size = w.heap.size + 2 := by rw [hW2]; simp; omega
  rw [← hW2] at HV ey
  have HO : Hid (OwnL vu8 5 W2 (W2.alloc (.cells #[] 5)) (.slice (some ⟨w.heap.size + 2, 0, none⟩) 0 0) []) := by
    have := OwnL.empty (f := vu8) (e := 5) (Ext.refl W2)
    rw [hs2] at this
    exact this
  clear hW1 hW2
  go_enter Try.func126, Try.ntmps126
  go_wp2_with fail
  rw [← HW1.out, ← HW2.out]
  have HD := Lib.hid hd; have HEY := Lib.hid ey
  have HB2 : Hid ((([] : List UInt8).length + r.l.length) * 1 ≤ 140737488355328) := by show _ ≤ _; simp; omega
  have HDL : Hid (r.l.length ≤ 140737488351232) := by show _ ≤ _; omega
  have HBZ : Hid (∀ w4, (((W2.alloc (.cells #[] 5)).alloc (.cells #[.string ⟨#[]⟩, .int .i64 0, .slice none 0 0] 102)).drew).grownBy w4 (Value.slice (some ⟨w.heap.size + 2, 0, none⟩) 0 0).ownBlock → Box w4 (w.heap.size + 2 + 1) #[.string ⟨#[]⟩, .int .i64 0, .slice none 0 0] 102) := fun w4 hg => by
    have h1 := Box.moved ((Box.new (W2.alloc (.cells #[] 5)) #[.string ⟨#[]⟩, .int .i64 0, .slice none 0 0] 102).ext (Ext_drew (Ext.refl _))) hg (fun hh => by injection hh with hh; simp at hh; omega)
    rwa [show (W2.alloc (.cells #[] 5)).heap.size = w.heap.size + 2 + 1 by simp; omega] at h1
  have HO' : Hid (OwnL vu8 5 W2 ((W2.alloc (.cells #[.string ⟨#[]⟩, .int .i64 0, .slice none 0 0] 102)).alloc (.cells #[] 5)) (.slice (some ⟨w.heap.size + 2 + 1, 0, none⟩) 0 0) []) := by
    have := OwnL.empty (f := vu8) (e := 5) (Ext_alloc (.cells #[.string ⟨#[]⟩, .int .i64 0, .slice none 0 0] 102) (Ext.refl W2))
    rw [World.size_alloc, hs2] at this
    exact this
  have HBZ' : Hid (∀ w4, (((W2.alloc (.cells #[.string ⟨#[]⟩, .int .i64 0, .slice none 0 0] 102)).alloc (.cells #[] 5)).drew).grownBy w4 (Value.slice (some ⟨w.heap.size + 2 + 1, 0, none⟩) 0 0).ownBlock → Box w4 (w.heap.size + 2) #[.string ⟨#[]⟩, .int .i64 0, .slice none 0 0] 102) := fun w4 hg => by
    have h1 := Box.moved ((Box.new W2 #[.string ⟨#[]⟩, .int .i64 0, .slice none 0 0] 102).ext (Ext_drew (Ext_alloc (.cells #[] 5) (Ext.refl _)))) hg (fun hh => by injection hh with hh; simp at hh; omega)
    rwa [hs2] at h1
  have SX : Hid (∀ w', Ext W1 w' → ((w'.cell? ⟨w.heap.size, 1, none⟩ = some (.string r.nm) ∧ w'.cell? ⟨w.heap.size, 2, none⟩ = some (.int .i64 r.ver) ∧ w'.cell? ⟨w.heap.size, 3, none⟩ = some (.slice Ad r.l.length cd)) ∧ Ext W1 w')) := fun w' e => ⟨⟨B0 w' e 1, B0 w' e 2, B0 w' e 3⟩, e⟩
  go_cut [6] (fun s6 wx => ∃ g A4 c4, s6 = .pointer (some ⟨g, 0, none⟩) ∧ Box wx g #[.string r.nm, .int .i64 r.ver, .slice A4 r.l.length c4] 102 ∧ OwnL vu8 5 W2 wx (.slice A4 r.l.length c4) r.l ∧ W2.heap.size ≤ g ∧ Ext W2 wx)
  case first =>
    go_region_held3 (fun w' => (w'.cell? ⟨w.heap.size, 1, none⟩ = some (.string r.nm) ∧ w'.cell? ⟨w.heap.size, 2, none⟩ = some (.int .i64 r.ver) ∧ w'.cell? ⟨w.heap.size, 3, none⟩ = some (.slice Ad r.l.length cd)) ∧ Ext W1 w') (first | exact SX.out _ (Ext_drew ey) | exact SX.out _ (Ext_alloc _ (And.right (by assumption))) | exact SX.out _ (by assumption) | exact SX.out _ (Ext_alloc _ (by assumption)) | exact SX.out _ (((Ext.setCell (by assumption) (by simp; try omega) _).setCell (by simp; try omega) _).setCell (by simp; try omega) _) | exact SX.out _ (((Ext.setCell (And.right (by assumption)) (by simp; try omega) _).setCell (by simp; try omega) _).setCell (by simp; try omega) _)) (first
      | (refine step_appG rfl (.tmp 14) (.tmp 16) _ rfl E_u8 (by omega) W2 _ vu8 (fun _ => rfl) _ rfl _ _ _ rfl [] r.l (OwnL.ext HO.out (by first | exact Ext_drew (Ext.refl _) | exact Ext_drew (Ext_alloc _ (Ext.refl _)))) (by first | exact Ext_drew (Ext_alloc _ (Ext.refl _)) | exact Ext_drew (Ext_alloc _ (Ext_alloc _ (Ext.refl _)))) rfl ((HD.out.ext (ea.trans ey)).src (by first | exact Ext_drew (Ext_alloc _ (Ext.refl _)) | exact Ext_drew (Ext_alloc _ (Ext_alloc _ (Ext.refl _))))) HB2.out ?_; intro v4 w4 ho4 he4 hv4 hg4; rw [List.nil_append] at ho4; have e14 := ey.trans he4; obtain ⟨A4, c4, hvv, r4⟩ := OwnL.rd ho4 HDL.out; subst hvv; (try (have hbz := HBZ.out _ hg4; have z0 : _ = some (Value.string ⟨#[]⟩) := hbz.cell 0; have z1 : _ = some (Value.int .i64 0) := hbz.cell 1; have z2 : _ = some (Value.slice none 0 0) := hbz.cell 2; have y0 := hbz.free 0; have y1 := hbz.free 1; have y2 := hbz.free 2)))
      | (refine step_appG rfl (.tmp 14) (.tmp 16) _ rfl E_u8 (by omega) W2 _ vu8 (fun _ => rfl) _ rfl _ _ _ rfl [] r.l (OwnL.ext HO'.out (by first | exact Ext_drew (Ext.refl _) | exact Ext_drew (Ext_alloc _ (Ext.refl _)))) (by first | exact Ext_drew (Ext_alloc _ (Ext.refl _)) | exact Ext_drew (Ext_alloc _ (Ext_alloc _ (Ext.refl _)))) rfl ((HD.out.ext (ea.trans ey)).src (by first | exact Ext_drew (Ext_alloc _ (Ext.refl _)) | exact Ext_drew (Ext_alloc _ (Ext_alloc _ (Ext.refl _))))) HB2.out ?_; intro v4 w4 ho4 he4 hv4 hg4; rw [List.nil_append] at ho4; have e14 := ey.trans he4; obtain ⟨A4, c4, hvv, r4⟩ := OwnL.rd ho4 HDL.out; subst hvv; (try (have hbz := HBZ'.out _ hg4; have z0 : _ = some (Value.string ⟨#[]⟩) := hbz.cell 0; have z1 : _ = some (Value.int .i64 0) := hbz.cell 1; have z2 : _ = some (Value.slice none 0 0) := hbz.cell 2; have y0 := hbz.free 0; have y1 := hbz.free 1; have y2 := hbz.free 2))))
    all_goals
      go_wp2_with fail
      go_meet
    · exact ⟨_, _, _, rfl, Box.new w4 _ _, OwnL.ext ho4 (Ext_alloc _ (Ext.refl _)), he4.size, Ext_alloc _ he4⟩
    · exact ⟨_, _, _, rfl, file_laid hbz ho4 (own_nb hv4 (by omega) (by simp; omega)) (by omega) he4⟩
    · exact ⟨_, _, _, rfl, file_laid hbz ho4 (own_nb hv4 (by omega) (by simp; omega)) (by omega) he4⟩
  case rest =>
    obtain ⟨g, A4, c4, rfl, hb4, ho4, hg4, he4⟩ := hcut
    clear SX HBZ HBZ' HO HO' HB2 HD hd
    have hv0 : Hid (Own 102 3 W1 wc (.slice (some ⟨w.heap.size + 1, 0, none⟩) 0 0) 0 []) := Own.ext HV.out he4
    have K0 : Hid (Keep W1 W2 wc g r (.slice A4 r.l.length c4) (.slice (some ⟨w.heap.size + 1, 0, none⟩) 0 0) []) :=
      ⟨hv0.out, hb4, ho4, fun hh => by have : some (w.heap.size + 1) = some g := hh; injection this; omega, fun b hb hh => by have h1 : some (w.heap.size + 1) = some b := hb; injection h1 with h1; have := (World.ownsRow.lt ho4 b hh).1; omega, ey.trans he4⟩
    have HKN := Lib.hid (fun (n : Nat) (h : n ≤ 1048576) => (show (n + 1) * 48 ≤ 140737488355328 ∧ n + 1 ≤ maxLen from ⟨by omega, by simp only [maxLen]; omega⟩))
    have HF := Lib.hid (fun k h => keepP_take (r := r) (fd := .slice A4 r.l.length c4) (ps := ps) (k := k) h)
    have HFD := Lib.hid (fun k h => doneF_take (r := r) (ps := ps) (k := k) h)
    clear ey HW1 HW2 HV hv0 hb4 ho4 he4 hg4
    go_wp2
    go_loopw [5, 7, 8] (fun t d i wr => ∃ (k : Nat) (v : Value) (qs : List (DFile × Value)), k ≤ ps.length ∧ qs.length ≤ k ∧ i = .int .i64 k ∧ t = v ∧ d = .bool (doneF r ps k) ∧ Hid (qs = (ps.take k).filterMap (keepP r (.slice A4 r.l.length c4))) ∧ Hid (Keep W1 W2 wr g r (.slice A4 r.l.length c4) v qs)) (fun _ _ i _ => ps.length - (intOf i).toNat)
    case atStart => exact ⟨0, _, [], by omega, by simp, rfl, rfl, (by unfold doneF anyF; simp), rfl, K0⟩
    case round =>
      clear K0
      obtain ⟨k, v, qs, hk, hql, rfl, rfl, rfl, hqs, hK⟩ := hrel
      by_cases hlt : k < ps.length
      · have HQ1 := Lib.hid (HF.out k hlt); have HD1 := Lib.hid (HFD.out k hlt)
        clear HF HFD
        obtain ⟨b, rfl, hb, hc⟩ := h.2.2.2 (by omega)
        obtain ⟨Aq, cq, hvq, rq⟩ := h.2.2.1 ps[k] (List.getElem_mem hlt)
        have e0 := ea.trans hK.out.ext
        have hck := fun w' (e : Ext wr w') => hc w' (e0.trans e) k hlt
        rw [hvq] at hck
        have hk0 := fun w' e => (hck w' e).1; have hk1 := fun w' e => (hck w' e).2.1; have hk2 := fun w' e => (hck w' e).2.2
        replace B0 := fun w' (e : Ext wr w') => B0 w' (hK.out.ext.trans e)
        have hn1 := (HKN.out qs.length (by omega)).1; have hn2 := (HKN.out qs.length (by omega)).2
        have HB1 := Lib.hid hn1; have HB2 := Lib.hid hn2
        clear hck hc hn1 hn2
        generalize ps[k] = p at *
        obtain ⟨⟨nm, ver, l⟩, vq⟩ := p
        dsimp only at hvq rq hk0 hk1 hk2
        subst hvq
        have hw0 := hk0 wr (Ext.refl wr)
        have hw4 := B0 wr (Ext.refl wr) 1
        cases hs : (nm.toList == r.nm.toList)
        · have hs2' : (nm.toList != r.nm.toList) = true := by unfold bne; rw [hs]; rfl
          have HQ : Hid ((ps.take (k + 1)).filterMap (keepP r (.slice A4 r.l.length c4)) = qs ++ [(⟨nm, ver, l⟩, .slice Aq l.length cq)]) := by
            show _ = _; rw [HQ1.out, ← hqs.out]; unfold keepP; rw [if_neg (by simp only [hs]; decide)]; rfl
          have HD : Hid (doneF r ps (k + 1) = doneF r ps k) := by show _ = _; rw [HD1.out, hs]; simp
          clear HQ1 HD1 hqs
          go_wp2_with fail
          refine wp_region_quiet_below (by kernel_rfl) (by kernel_rfl) ?_
          repeat (go_big_quiet_step (fail))
          refine wpQuiet_nil ?_
          rintro w5 ⟨⟨nq, osq⟩, hq⟩
          have ew5 := ext_of_q hq
          clear hq nq osq
          have hK5 := Lib.hid (hK.out.to ew5)
          go_wp2_with (first
            | (at_builtin; go_loud (refine wpList_appB rfl (.tmp 34) (.tmp 39) _ rfl E_file W1 w5 u5 qs.length (qs.flatMap fcells) rfl hK5.out.row hK5.out.ext (fcells (⟨nm, ver, l⟩, .slice Aq l.length cq)) _ rfl 1 _ _ rfl (by simp) rfl (by intro u hu; simp [fcells] at hu; rcases hu with rfl | rfl | rfl <;> rfl) HB2.out HB1.out ?_; intro v6 w6 ho6 he6 hb6 hg6)))
          have hK6 := Lib.hid (hK5.out.app (q := (⟨nm, ver, l⟩, .slice Aq l.length cq)) ho6 he6 hb6 hg6)
          clear hK5 ho6 hb6 hg6
          go_wp2
          go_roundw
          case rel => exact ⟨k + 1, v6, qs ++ [(⟨nm, ver, l⟩, .slice Aq l.length cq)], by omega, by simp; omega, by go_num, rfl, by rw [HD.out], Lib.hid HQ.out.symm, hK6⟩
          case measure => simp [intOf]; omega
        · have hs2' : (nm.toList != r.nm.toList) = false := by unfold bne; rw [hs]; rfl
          have hw0' := B0 wr (Ext.refl wr) 0
          cases hkk : (r.k == 1)
          · have HQ : Hid ((ps.take (k + 1)).filterMap (keepP r (.slice A4 r.l.length c4)) = qs) := by
              show _ = _; rw [HQ1.out, ← hqs.out]; unfold keepP; rw [if_pos (by simp only [hs]), if_neg (by simp only [hkk]; decide)]; simp
            have HD : Hid (doneF r ps (k + 1) = doneF r ps k) := by show _ = _; rw [HD1.out, hkk]; simp
            clear HQ1 HD1 hqs
            go_wp2_with fail
            refine wp_region_quiet_below (by kernel_rfl) (by kernel_rfl) ?_
            repeat (go_big_quiet_step (fail))
            refine wpQuiet_nil ?_
            rintro w5 ⟨⟨nq, osq⟩, hq⟩
            have ew5 := ext_of_q hq
            clear hq nq osq
            have hK5 := Lib.hid (hK.out.to ew5)
            have e5 := B0 w5 ew5 0
            go_wp2
            go_roundw
            case rel => exact ⟨k + 1, u5, qs, by omega, by omega, by go_num, rfl, by rw [HD.out], Lib.hid HQ.out.symm, hK5⟩
            case measure => simp [intOf]; omega
          · have HQ : Hid ((ps.take (k + 1)).filterMap (keepP r (.slice A4 r.l.length c4)) = qs ++ [(r.file, .slice A4 r.l.length c4)]) := by
              show _ = _; rw [HQ1.out, ← hqs.out]; unfold keepP; rw [if_pos (by simp only [hs]), if_pos (by simp only [hkk])]; rfl
            have HD : Hid (doneF r ps (k + 1) = true) := by show _ = _; rw [HD1.out, hkk, hs]; simp
            clear HQ1 HD1 hqs
            go_wp2_with fail
            refine wp_region_quiet_below (by kernel_rfl) (by kernel_rfl) ?_
            repeat (go_big_quiet_step (fail))
            refine wpQuiet_nil ?_
            rintro w5 ⟨⟨nq, osq⟩, hq⟩
            have ew5 := ext_of_q hq
            clear hq nq osq
            have hK5 := Lib.hid (hK.out.to ew5)
            have e5 := B0 w5 ew5 0
            have c0 : _ = some (Value.string r.nm) := hK5.out.box.cell 0; have c1 : _ = some (Value.int .i64 r.ver) := hK5.out.box.cell 1; have c2 : _ = some (Value.slice A4 r.l.length c4) := hK5.out.box.cell 2
            go_wp2_with (first
              | (at_builtin; refine wpList_appB rfl (.tmp 45) (.tmp 47) _ rfl E_file W1 w5 u5 qs.length (qs.flatMap fcells) rfl hK5.out.row hK5.out.ext (fcells (r.file, .slice A4 r.l.length c4)) _ rfl 1 _ _ rfl (by simp) rfl (by intro u hu; simp [fcells] at hu; rcases hu with rfl | rfl | rfl <;> rfl) HB2.out HB1.out ?_; intro v6 w6 ho6 he6 hb6 hg6))
            have hK6 := Lib.hid (hK5.out.app (q := (r.file, .slice A4 r.l.length c4)) ho6 he6 hb6 hg6)
            clear hK5 ho6 hb6 hg6
            go_wp2
            go_roundw
            case rel => exact ⟨k + 1, v6, qs ++ [(r.file, .slice A4 r.l.length c4)], by omega, by simp; omega, by go_num, rfl, by rw [HD.out], Lib.hid HQ.out.symm, hK6⟩
            case measure => simp [intOf]; omega
      · obtain rfl : k = ps.length := by omega
        have hqs := hqs.out
        rw [List.take_length] at hqs
        have hmem : Hid (∀ q ∈ qs, q ∈ ps ∨ q = (r.file, .slice A4 r.l.length c4)) := fun q hq => by rw [hqs] at hq; exact keepP_mem hq
        have hfst : Hid (qs.map Prod.fst = (ps.map Prod.fst).filterMap (keepF r)) := by show _ = _; rw [hqs]; exact keepP_fst r _ ps
        have e0 := ea.trans hK.out.ext
        have hp := Lib.hid h.2.2.1
        have HB1 := Lib.hid (HKN.out qs.length (by omega)).1; have HB2 := Lib.hid (HKN.out qs.length (by omega)).2
        have hw0' := B0 wr hK.out.ext 0
        replace B0 := fun w' (e : Ext wr w') => B0 w' (hK.out.ext.trans e)
        have hde : doneF r ps ps.length = ((r.k == 1) && anyF r (ps.map Prod.fst)) := by unfold doneF; rw [List.take_length]
        rw [hde]
        clear hqs hde HF HFD h
        cases hkk : (r.k == 1)
        · have HA : Hid (applyF (ps.map Prod.fst) r = qs.map Prod.fst) := by show _ = _; unfold applyF; rw [hkk, hfst.out]; simp
          go_wp2
          obtain ⟨A6, c6, hv6, r6, n6⟩ := hK.out.rd (by omega) hdl hp.out e0 ea hmem.out
          subst hv6
          go_ret
          exact ⟨A6, c6, qs, rfl, r6, n6, HA.out.symm, e0⟩
        · cases hany : anyF r (ps.map Prod.fst)
          · have HA : Hid (applyF (ps.map Prod.fst) r = (qs ++ [(r.file, (Value.slice A4 r.l.length c4))]).map Prod.fst) := by show _ = _; unfold applyF; rw [hkk, hany, List.map_append, hfst.out]; simp
            have hmem2 : Hid (∀ q ∈ qs ++ [(r.file, .slice A4 r.l.length c4)], q ∈ ps ∨ q = (r.file, .slice A4 r.l.length c4)) := fun q hq => by
              rcases List.mem_append.1 hq with hq | hq
              · exact hmem.out q hq
              · right; simpa using hq
            have c0 : _ = some (Value.string r.nm) := hK.out.box.cell 0; have c1 : _ = some (Value.int .i64 r.ver) := hK.out.box.cell 1; have c2 : _ = some (Value.slice A4 r.l.length c4) := hK.out.box.cell 2
            clear hany
            go_wp2_with (first
              | (at_builtin; refine wpList_appB rfl (.tmp 56) (.tmp 58) _ rfl E_file W1 wr u5 qs.length (qs.flatMap fcells) rfl hK.out.row hK.out.ext (fcells (r.file, .slice A4 r.l.length c4)) _ rfl 1 _ _ rfl (by simp) rfl (by intro u hu; simp [fcells] at hu; rcases hu with rfl | rfl | rfl <;> rfl) HB2.out HB1.out ?_; intro v6 w6 ho6 he6 hb6 hg6))
            have hK6 := Lib.hid (hK.out.app (q := (r.file, .slice A4 r.l.length c4)) ho6 he6 hb6 hg6)
            have e6 := ea.trans he6
            obtain ⟨A6, c6, hv6, r6, n6⟩ := hK6.out.rd (by simp; omega) hdl hp.out e6 ea hmem2.out
            subst hv6
            clear hK6 ho6 hb6 hg6
            go_wp2
            go_ret
            exact ⟨A6, c6, _, rfl, r6, n6, HA.out.symm, e6⟩
          · have HA : Hid (applyF (ps.map Prod.fst) r = qs.map Prod.fst) := by show _ = _; unfold applyF; rw [hkk, hany, hfst.out]; simp
            go_wp2
            obtain ⟨A6, c6, hv6, r6, n6⟩ := hK.out.rd (by omega) hdl hp.out e0 ea hmem.out
            subst hv6
            go_ret
            exact ⟨A6, c6, qs, rfl, r6, n6, HA.out.symm, e0⟩
theorem recs_dl (b : List UInt8) (a : Nat) : ∀ r ∈ recs b a, r.l.length ≤ 400 := by
  have key : ∀ f a, ∀ r ∈ (readF f b a).1, r.l.length ≤ 400 := by
    intro f
    induction f with
    | zero => intro a r hr; simp [readF] at hr
    | succ f ih =>
      intro a r hr
      rw [readF] at hr
      cases hd : decN b a with
      | none => rw [hd] at hr; simp at hr
      | some x =>
        rw [hd] at hr
        simp only [List.mem_cons] at hr
        rcases hr with rfl | hr
        · have := validRec_facts (decN_some hd).2.1; omega
        · exact ih _ r hr
  exact key _ a
set_option maxRecDepth 100000 in
set_option maxHeartbeats 2000000 in
theorem sFiles35_c (A : Option Addr) (l : List UInt8) (c : Nat) (w : World) (h : Bs w A l c) (hL : l.length ≤ 1048576) :
    Calls Try.prog 85 #[.slice A l.length c] w fun e w' => ∃ A' c' fs, e = .returned (.slice A' fs.length c') ∧ RdF w' A' fs c' ∧ NewA w A' ∧ fs.map Prod.fst = filesOf (recs l 0) ∧ Ext w w' := by
  have hdl := recs_dl l 0
  have hcl : (recs l 0).length ≤ 1048576 := by have := recs_le (b := l) (a := 0) (by omega); omega
  have CR := Lib.hid (fun w h => sReadRecords_c A l c w h (by omega))
  generalize recs l 0 = R at *
  generalize stop l 0 = j at *
  have HDL := Lib.hid hdl; clear hdl
  have e0 := Ext_alloc (.cells #[] 102) (Ext.refl w)
  go_enter Try.func85, Try.ntmps85
  go_wp2_with fail
  refine (CR.out _ (h.ext e0)).mono ?_; rintro _ w1 ⟨v1, rs, rfl, hrs, ho1, he1⟩
  have hrl : rs.length = R.length := by rw [← hrs, List.length_map]
  have hrd : ∀ p ∈ rs, p.1.l.length ≤ 400 := fun p hp => HDL.out p.1 (by rw [← hrs]; exact List.mem_map_of_mem hp)
  obtain ⟨A1, c1, hv1, r1⟩ := ho1.rd (by omega) (fun p hp => by have := hrd p hp; omega)
  subst hv1
  have HRS := Lib.hid hrs; have HRD := Lib.hid hrd
  have e1 := e0.trans he1
  clear hrs hrd ho1 he1 CR HDL
  have R0 : RdF w1 (some ⟨w.heap.size, 0, none⟩) [] 0 := ⟨by simp, by simp, by simp, fun hp => by simp at hp⟩
  go_wp2
  go_loopw [3, 6] (fun t i wr => ∃ (k : Nat) (Af : Option Addr) (ps : List (DFile × Value)) (cf : Nat), k ≤ rs.length ∧ i = .int .i64 k ∧ t = .slice Af ps.length cf ∧ RdF wr Af ps cf ∧ NewA w Af ∧ Hid (ps.map Prod.fst = filesOf ((rs.map Prod.fst).take k)) ∧ Ext w1 wr) (fun _ i _ => rs.length - (intOf i).toNat)
  case atStart => exact ⟨0, _, [], 0, by omega, rfl, rfl, R0, (fun b off hA => by injection hA with hA; injection hA with hA; omega), rfl, Ext.refl _⟩
  case round =>
    clear R0
    obtain ⟨k, Af, ps, cf, hk, rfl, rfl, rf, nf, hps, he⟩ := hrel
    have hpl : ps.length ≤ k := by
      have h1 := congrArg List.length hps.out
      have h2 := filesOf_len ((rs.map Prod.fst).take k)
      rw [List.length_map] at h1
      rw [List.length_take, List.length_map] at h2
      omega
    by_cases hlt : k < rs.length
    · obtain ⟨b, rfl, hb, hc⟩ := r1.2.2.2 (by omega)
      obtain ⟨Ad, cd, hvd, rd⟩ := r1.2.2.1 rs[k] (List.getElem_mem hlt)
      have hck := fun w' (e : Ext wr w') => hc w' (he.trans e) k hlt
      rw [hvd] at hck
      have hk0 := fun w' e => (hck w' e).1; have hk1 := fun w' e => (hck w' e).2.1; have hk2 := fun w' e => (hck w' e).2.2.1; have hk3 := fun w' e => (hck w' e).2.2.2
      have hdk := HRD.out rs[k] (List.getElem_mem hlt)
      have HT : Hid (filesOf ((rs.map Prod.fst).take (k + 1)) = applyF (ps.map Prod.fst) rs[k].1) := by
        show _ = _
        have h1 : k < (rs.map Prod.fst).length := by rw [List.length_map]; exact hlt
        rw [List.take_succ_eq_append_getElem h1, filesOf_snoc, ← hps.out]
        simp
      clear hck hc hps
      generalize rs[k] = p at *
      obtain ⟨r, vr⟩ := p
      dsimp only at hk0 hk1 hk2 hk3 rd hdk hvd
      subst hvd
      have CP := Lib.hid (fun w h h' => sApply_c Af ps cf r Ad cd w h h' hdk (by omega))
      unfold vrec at CP
      go_wp2_with fail
      refine (CP.out _ rf (rd.ext he)).mono ?_; rintro _ w2 ⟨A2, c2, qs, rfl, r2, n2, hq2, he2⟩
      have HQ : Hid (qs.map Prod.fst = filesOf ((rs.map Prod.fst).take (k + 1))) := by show _ = _; rw [HT.out]; exact hq2
      clear hq2 HT
      go_wp2
      go_roundw
      case rel => exact ⟨k + 1, A2, qs, c2, by omega, by go_num, rfl, r2, (fun b off hA => Nat.le_trans (e1.trans he).size (n2 b off hA)), HQ, he.trans he2⟩
      case measure => simp [intOf]; omega
    · obtain rfl : k = rs.length := by omega
      have HQ : Hid (ps.map Prod.fst = filesOf R) := by
        show _ = _
        rw [hps.out, List.take_of_length_le (by rw [List.length_map]; omega), HRS.out]
      clear hps
      go_wp2
      go_ret
      exact ⟨Af, cf, ps, rfl, rf, nf, HQ.out, e1.trans he⟩
end Go.Proofs.Ytlaejcacembjiaa

/- The stored files: the program's way (one place per name) is the reference's. -/
namespace Go.Proofs.Ytlaejcacembjiaa
open Go.RowKit Go.Sort

def idxF (fs : List DFile) (nm : ByteArray) : Nat := fs.findIdx (fun f => f.nm.toList == nm.toList)
def putF (fs : List DFile) (r : DRec) : List DFile :=
  if r.k == 1 then (if idxF fs r.nm < fs.length then fs.set (idxF fs r.nm) r.file else fs ++ [r.file]) else (if idxF fs r.nm < fs.length then fs.eraseIdx (idxF fs r.nm) else fs)
def UniqF (fs : List DFile) : Prop := (fs.map (fun f => f.nm.toList)).Nodup
theorem filt_no {fs : List DFile} {r : DRec} (h : ∀ f ∈ fs, (f.nm.toList == r.nm.toList) = false) : fs.filterMap (keepF r) = fs ∧ anyF r fs = false := by
  refine ⟨?_, ?_⟩
  · induction fs with
    | nil => rfl
    | cons f t ih =>
      have h1 : keepF r f = some f := by unfold keepF; rw [h f (List.mem_cons_self ..)]; rfl
      rw [List.filterMap_cons, h1, ih (fun g hg => h g (List.mem_cons_of_mem _ hg))]
  · unfold anyF
    rw [List.any_eq_false]
    intro f hf; rw [h f hf]; decide
theorem filt_at {a b : List DFile} {f : DFile} {r : DRec} (ha : ∀ f ∈ a, (f.nm.toList == r.nm.toList) = false) (hb : ∀ f ∈ b, (f.nm.toList == r.nm.toList) = false) (hf : (f.nm.toList == r.nm.toList) = true) :
    applyF (a ++ f :: b) r = a ++ ((if r.k == 1 then [r.file] else []) ++ b) := by
  have hany : anyF r (a ++ f :: b) = true := by unfold anyF; rw [List.any_append, List.any_cons, hf]; simp
  unfold applyF
  rw [hany, List.filterMap_append, List.filterMap_cons, (filt_no ha).1, (filt_no hb).1]
  unfold keepF
  rw [hf]
  cases (r.k == 1) <;> simp
/-- the place of a name, the files before and behind it -/
theorem split_at {fs : List DFile} {r : DRec} (hu : UniqF fs) (h : idxF fs r.nm < fs.length) : ∃ a f b, fs = a ++ f :: b ∧ a.length = idxF fs r.nm ∧ (∀ f ∈ a, (f.nm.toList == r.nm.toList) = false) ∧ (∀ f ∈ b, (f.nm.toList == r.nm.toList) = false) ∧ (f.nm.toList == r.nm.toList) = true := by
  obtain ⟨i, hi⟩ : ∃ i, idxF fs r.nm = i := ⟨_, rfl⟩
  rw [hi] at h ⊢
  have hf : (fs[i].nm.toList == r.nm.toList) = true := by
    have := List.findIdx_getElem (p := fun f : DFile => f.nm.toList == r.nm.toList) (xs := fs) (w := by show idxF fs r.nm < _; rw [hi]; exact h)
    have h2 : fs.findIdx (fun f => f.nm.toList == r.nm.toList) = i := hi
    simp only [h2] at this
    exact this
  have hsp : fs = fs.take i ++ fs[i] :: fs.drop (i + 1) := by
    rw [← List.drop_eq_getElem_cons h, List.take_append_drop]
  refine ⟨fs.take i, fs[i], fs.drop (i + 1), hsp, by rw [List.length_take]; omega, ?_, ?_, hf⟩
  · unfold UniqF at hu
    rw [hsp, List.map_append, List.map_cons, List.nodup_append] at hu
    intro g hg
    have h1 := hu.2.2 g.nm.toList (List.mem_map_of_mem (f := fun f : DFile => f.nm.toList) hg) fs[i].nm.toList (List.mem_cons_self ..)
    have h2 : fs[i].nm.toList = r.nm.toList := by simpa using hf
    rw [h2] at h1
    simpa using h1
  · unfold UniqF at hu
    rw [hsp, List.map_append, List.map_cons, List.nodup_append] at hu
    have h3 := hu.2.1
    rw [List.nodup_cons] at h3
    intro g hg
    have h2 : fs[i].nm.toList = r.nm.toList := by simpa using hf
    rw [h2] at h3
    have h4 : r.nm.toList ≠ g.nm.toList := fun he => h3.1 (by rw [he]; exact List.mem_map_of_mem (f := fun f : DFile => f.nm.toList) hg)
    simpa using fun he => h4 he.symm
theorem idx_no {fs : List DFile} {nm : ByteArray} (h : ¬ idxF fs nm < fs.length) : ∀ f ∈ fs, (f.nm.toList == nm.toList) = false := by
  intro f hf
  cases he : (f.nm.toList == nm.toList) with
  | false => rfl
  | true => exact absurd (List.findIdx_lt_length_of_exists ⟨f, hf, he⟩) h
theorem putF_eq {fs : List DFile} {r : DRec} (hu : UniqF fs) : putF fs r = applyF fs r := by
  unfold putF
  by_cases h : idxF fs r.nm < fs.length
  · rw [if_pos h, if_pos h]
    obtain ⟨a, f, b, hsp, ha, h1, h2, h3⟩ := split_at hu h
    rw [← ha]
    rw [hsp, filt_at h1 h2 h3]
    cases (r.k == 1)
    · simp [List.eraseIdx_append_of_length_le]
    · simp
  · rw [if_neg h, if_neg h]
    have h1 := filt_no (idx_no h)
    unfold applyF
    rw [h1.1, h1.2]
    cases (r.k == 1) <;> simp
theorem putF_uniq {fs : List DFile} {r : DRec} (hu : UniqF fs) : UniqF (putF fs r) := by
  rw [putF_eq hu]
  by_cases h : idxF fs r.nm < fs.length
  · obtain ⟨a, f, b, hsp, ha, h1, h2, h3⟩ := split_at hu h
    have h4 : f.nm.toList = r.nm.toList := by simpa using h3
    unfold UniqF at *
    rw [hsp, List.map_append, List.map_cons] at hu
    rw [hsp, filt_at h1 h2 h3]
    cases (r.k == 1)
    · refine List.Nodup.sublist ?_ hu
      simp only [Bool.false_eq_true, if_false, List.nil_append, List.map_append]
      exact List.Sublist.append (List.Sublist.refl _) (List.sublist_cons_self _ _)
    · simp only [if_true, List.map_append, List.map_cons, List.cons_append, List.nil_append]
      have : r.file.nm.toList = f.nm.toList := h4.symm
      rw [this]; exact hu
  · have h0 := idx_no h
    have h1 := filt_no h0
    unfold applyF
    rw [h1.1, h1.2]
    cases (r.k == 1)
    · simpa using hu
    · unfold UniqF at *
      simp only [Bool.not_false, Bool.and_true, if_true, List.map_append, List.map_cons, List.map_nil]
      rw [List.nodup_append]
      refine ⟨hu, by simp, ?_⟩
      intro x hx y hy
      obtain ⟨g, hg, rfl⟩ := List.mem_map.1 hx
      have h5 : y = r.file.nm.toList := by simpa using hy
      have h5 : y = r.nm.toList := h5
      subst h5
      have := h0 g hg
      simpa using this
theorem uniq_files (rs : List DRec) : ∀ fs : List DFile, UniqF fs → UniqF (rs.foldl applyF fs) := by
  induction rs with
  | nil => intro fs h; exact h
  | cons r t ih => intro fs h; rw [List.foldl_cons, ← putF_eq h]; exact ih _ (putF_uniq h)
theorem filesOf_uniq (rs : List DRec) : UniqF (filesOf rs) := uniq_files rs [] (by unfold UniqF; simp)
/-- cells of files: parts, a change -/
theorem fc_take (ps : List (DFile × Value)) : ∀ i, (ps.flatMap fcells).take (i * 3) = (ps.take i).flatMap fcells := by
  induction ps with
  | nil => intro i; simp
  | cons p t ih =>
    intro i
    cases i with
    | zero => simp
    | succ i =>
      rw [List.flatMap_cons, List.take_succ_cons, List.flatMap_cons, ← ih i, show (i + 1) * 3 = (fcells p).length + i * 3 by simp [fcells]; omega, List.take_length_add_append]
theorem fc_drop (ps : List (DFile × Value)) : ∀ i, (ps.flatMap fcells).drop (i * 3) = (ps.drop i).flatMap fcells := by
  induction ps with
  | nil => intro i; simp
  | cons p t ih =>
    intro i
    cases i with
    | zero => simp
    | succ i =>
      rw [List.flatMap_cons, List.drop_succ_cons, ← ih i, show (i + 1) * 3 = (fcells p).length + i * 3 by simp [fcells]; omega, List.drop_length_add_append]
theorem fc_erase (ps : List (DFile × Value)) (i : Nat) : (ps.take i).flatMap fcells ++ (ps.drop (i + 1)).flatMap fcells = (ps.eraseIdx i).flatMap fcells := by
  rw [List.eraseIdx_eq_take_drop_succ, List.flatMap_append]
theorem fc_set (nm : ByteArray) (ver : Int) (l : List UInt8) (v : Value) : ∀ (ps : List (DFile × Value)) (i : Nat), i < ps.length → (((ps.flatMap fcells).set (i * 3) (.string nm)).set (i * 3 + 1) (.int .i64 ver)).set (i * 3 + 2) v = (ps.set i (⟨nm, ver, l⟩, v)).flatMap fcells := by
  intro ps
  induction ps with
  | nil => intro i h; simp at h
  | cons p t ih =>
    intro i h
    cases i with
    | zero => simp [fcells, List.flatMap_cons]
    | succ i =>
      have h1 := ih i (by simpa using h)
      rw [List.flatMap_cons, List.set_cons_succ, List.flatMap_cons, ← h1]
      have hl : (fcells p).length = 3 := rfl
      rw [List.set_append_right _ _ (by omega), List.set_append_right _ _ (by omega), List.set_append_right _ _ (by omega), hl]
      rw [show (i + 1) * 3 - 3 = i * 3 by omega, show (i + 1) * 3 + 1 - 3 = i * 3 + 1 by omega, show (i + 1) * 3 + 2 - 3 = i * 3 + 2 by omega]
end Go.Proofs.Ytlaejcacembjiaa

/- The stored files of an archive, by the program: the walks of indexFunc and files. -/
namespace Go.Proofs.Ytlaejcacembjiaa
open Go.RowKit Go.Sort

section
variable {P : Program} {ops : Array Oper} {o : Oper} {a : Act} {Q : Exit → Act → World → Prop} {K : Act → World → Prop} {E : Prop}
/-- append, elements of any size, as one step of a region that draws -/
theorem step_appM (hgd : o.guard = none) (s x : Operand) (t : TypeId) (ho : o.op = .call { callee := .builtin .append, args := #[s, x], argTypes := #[t, t] })
    {e : TypeId} {size bytes : Nat} {z : Value} (hE : Elem P t e size bytes z) (w0 w : World) (v : Value) (n : Nat) (xs : List Value) (hs : a.eval s = v) (hown : Own e size w0 w v n xs) (he : w0.heap.size ≤ w.heap.size)
    (ad : Addr) (m c : Nat) (news : List Value) (hx : a.eval x = .slice (some ad) m c) (hl : news.length = m * size) (hA : ∀ j u, news[j]? = some u → w.cell? (ad.add j) = some u) (h1 : ∀ u ∈ news, u.oneCell' = true)
    (hm : n + m ≤ maxLen) (hb : (n + m) * bytes ≤ 140737488355328)
    (h : ∀ v' w', Own e size w0 w' v' (n + m) (xs ++ news) → w.grownBy w' v.ownBlock → (v'.ownBlock = v.ownBlock ∨ v'.ownBlock = some w.heap.size) → K (a.put o.dst v') w') :
    if Region.wanted o (yielded ops a.tmps) = true then Oper.wp P o a w K Q else E := by
  have hw : Region.wanted o (yielded ops a.tmps) = true := by simp [Region.wanted, hgd]
  rw [if_pos hw]
  obtain ⟨i0, hi0, hz0, hz1, hz2⟩ := info_parts hE.hi
  obtain ⟨v', w', hr, h2, h3, h4, h5⟩ := run_append_own_at (P := P) w w0.heap.size t o.type e i0 z size bytes hE.ht hi0 hz0 hz1 hz2 hE.hz hE.hs v n xs hown ad m c news hl hA h1 hm hb he
  unfold Oper.wp execOp
  simp only [ho, resolve, invoke, builtin, Sem.run_bind, Sem.run_pure, Result.andThen_ok, List.map_toArray, List.map_cons, List.map_nil, hs, hx, hr]
  exact h v' w' h2 h3 h5
end
set_option maxHeartbeats 400000 in
theorem iSame_c (g : Nat) (nm : ByteArray) (ver : Int) (v : Value) (nm' : ByteArray) (w : World) (hc : ∀ w', Ext w w' → w'.cell? ⟨g, 1, none⟩ = some (.string nm')) :
    Gives Try.prog 130 #[vfile nm ver v, .pointer (some ⟨g, 0, none⟩)] w (.bool (nm.toList == nm'.toList)) := by
  unfold vfile
  go_enter Try.func130, Try.ntmps130
  go_wp2
  go_ret
  exact ⟨rfl, Ext_alloc _ (Ext.refl _)⟩
def idxI (fs : List DFile) (nm : ByteArray) : Int := if idxF fs nm < fs.length then (idxF fs nm : Int) else -1
theorem idxI_at {fs : List DFile} {nm : ByteArray} {k : Nat} (hk : k < fs.length) (hn : ∀ j (hj : j < fs.length), j < k → (fs[j].nm.toList == nm.toList) = false) (he : (fs[k].nm.toList == nm.toList) = true) : idxI fs nm = (k : Int) := by
  have : idxF fs nm = k := by
    unfold idxF
    rw [List.findIdx_eq hk]
    exact ⟨he, fun j hj => hn j (by omega) hj⟩
  unfold idxI; rw [this, if_pos hk]
theorem idxI_no {fs : List DFile} {nm : ByteArray} (hn : ∀ j (hj : j < fs.length), (fs[j].nm.toList == nm.toList) = false) : idxI fs nm = -1 := by
  unfold idxI
  rw [if_neg]
  intro h
  have := List.findIdx_getElem (p := fun f : DFile => f.nm.toList == nm.toList) (xs := fs) (w := h)
  have h2 : (fs[idxF fs nm].nm.toList == nm.toList) = false := hn _ h
  exact absurd (h2.symm.trans this) (by decide)
set_option maxRecDepth 100000 in
set_option maxHeartbeats 1000000 in
theorem idxF_c (A : Option Addr) (ps : List (DFile × Value)) (c : Nat) (g : Nat) (nm : ByteArray) (w : World) (h : RdF w A ps c) (hc : ∀ w', Ext w w' → w'.cell? ⟨g, 1, none⟩ = some (.string nm)) :
    Gives Try.prog 129 #[.slice A ps.length c, .func (.func 130) #[] #[.pointer (some ⟨g, 0, none⟩)]] w (.int .i64 (idxI (ps.map Prod.fst) nm)) := by
  have hl := h.2.1
  have FY : Hid (∀ k (hk : k < ps.length), (∀ j (hj : j < ps.length), j < k → (ps[j].1.nm.toList == nm.toList) = false) → (ps[k].1.nm.toList == nm.toList) = true → idxI (ps.map Prod.fst) nm = (k : Int)) := by
    intro k hk hn he
    refine idxI_at (by rw [List.length_map]; exact hk) (fun j hj hjk => ?_) (by simpa using he)
    have := hn j (by rw [List.length_map] at hj; exact hj) hjk
    simpa using this
  have FN : Hid ((∀ j (hj : j < ps.length), (ps[j].1.nm.toList == nm.toList) = false) → idxI (ps.map Prod.fst) nm = -1) := by
    intro hn
    refine idxI_no fun j hj => ?_
    have := hn j (by rw [List.length_map] at hj; exact hj)
    simpa using this
  generalize idxI (ps.map Prod.fst) nm = R at *
  have C := Lib.hid (fun a b v w' (e : Ext w w') => iSame_c g a b v nm w' (fun w'' e' => hc w'' (e.trans e')))
  unfold vfile at C
  clear hc
  go_enter Try.func129, Try.ntmps129
  go_wp2
  go_loopw [9] (fun ix wr => ∃ k : Nat, k ≤ ps.length ∧ ix = .int .i64 k ∧ Hid (∀ j (hj : j < ps.length), j < k → (ps[j].1.nm.toList == nm.toList) = false) ∧ Ext w wr) (fun ix _ => ps.length - (intOf ix).toNat)
  case atStart => exact ⟨0, by omega, rfl, (fun j _ hj => by omega), Ext.refl _⟩
  case round =>
    obtain ⟨k, hk, rfl, hn, he⟩ := hrel
    by_cases hlt : k < ps.length
    · obtain ⟨b, rfl, hb, hcl⟩ := h.2.2.2 (by omega)
      obtain ⟨Aq, cq, hvq, rq⟩ := h.2.2.1 ps[k] (List.getElem_mem hlt)
      have hck := fun w' (e : Ext wr w') => hcl w' (he.trans e) k hlt
      rw [hvq] at hck
      have hk0 := fun w' e => (hck w' e).1; have hk1 := fun w' e => (hck w' e).2.1; have hk2 := fun w' e => (hck w' e).2.2
      have Y := Lib.hid (FY.out k hlt hn.out)
      have N : Hid ((ps[k].1.nm.toList == nm.toList) = false → ∀ j (hj : j < ps.length), j < k + 1 → (ps[j].1.nm.toList == nm.toList) = false) := fun hne j hj hjk => by
        rcases (by omega : j < k ∨ j = k) with hjk | rfl
        · exact hn.out j hj hjk
        · exact hne
      clear hck hcl FY FN hn h
      generalize ps[k] = p at *
      obtain ⟨⟨nq, vq, lq⟩, dq⟩ := p
      dsimp only at hk0 hk1 hk2 hvq rq Y N
      subst hvq
      cases kx : (nq.toList == nm.toList)
      · have HE := Lib.hid (N.out kx); clear Y N
        go_wp2_with fail
        refine (C.out _ _ _ _ (Ext_alloc _ he)).mono ?_; rintro _ w1 ⟨rfl, s1⟩; rw [kx]
        go_wp2
        go_roundw
        case rel => exact ⟨k + 1, by omega, by go_num, HE, (Ext_alloc _ he).trans s1⟩
        case measure => simp [intOf]; omega
      · have HE := Lib.hid (Y.out kx); clear Y N
        go_wp2_with fail
        refine (C.out _ _ _ _ (Ext_alloc _ he)).mono ?_; rintro _ w1 ⟨rfl, s1⟩; rw [kx]
        go_wp2
        go_ret
        exact ⟨ret_i64 HE.out.symm, (Ext_alloc _ he).trans s1⟩
    · have HE := Lib.hid (FN.out (fun j hj => hn.out j hj (by omega)))
      clear FY FN
      go_wp2
      go_ret
      exact ⟨ret_i64 HE.out.symm, he⟩
end Go.Proofs.Ytlaejcacembjiaa

/- The stored files of an archive, by the program: the walk of files. -/
namespace Go.Proofs.Ytlaejcacembjiaa
open Go.RowKit Go.Sort

theorem OwnR.moved {w0 w w' : World} {v : Value} {ps : List (DRec × Value)} (h : OwnR w0 w v ps) {row : Option Nat} (hg : w.grownBy w' row) (h1 : ∀ g, row = some g → v.ownBlock ≠ some g ∧ ∀ q ∈ ps, q.2.ownBlock ≠ some g) : OwnR w0 w' v ps :=
  ⟨Own.kept' h.1 hg (fun g hv he => (h1 g he).1 hv), fun p hp => OwnL.moved' (h.2.1 p hp) hg (fun g he => (h1 g he).2 p hp), h.2.2⟩
/-- what the loop of files keeps -/
structure FI (w wr : World) (vr : Value) (rs : List (DRec × Value)) (k : Nat) (v : Value) (ps : List (DFile × Value)) : Prop where
  row : Own 102 3 w wr v ps.length (ps.flatMap fcells)
  recs : OwnR w wr vr rs
  far : ∀ g, v.ownBlock = some g → vr.ownBlock ≠ some g ∧ ∀ q ∈ rs, q.2.ownBlock ≠ some g
  mem : ∀ p ∈ ps, ∃ j, ∃ h : j < rs.length, j < k ∧ p.2 = rs[j].2 ∧ p.1.l = rs[j].1.l
  apart : ps.Pairwise fun a b => ∀ g, a.2.ownBlock = some g → b.2.ownBlock ≠ some g
  ext : Ext w wr
theorem FI.to {w wr w' : World} {vr : Value} {rs : List (DRec × Value)} {k : Nat} {v : Value} {ps : List (DFile × Value)} (h : FI w wr vr rs k v ps) (e : Ext wr w') : FI w w' vr rs k v ps :=
  ⟨Own.ext h.row e, h.recs.ext e, h.far, h.mem, h.apart, h.ext.trans e⟩
theorem FI.write {w wr w' : World} {vr : Value} {rs : List (DRec × Value)} {k n : Nat} {v v' : Value} {ps ps' : List (DFile × Value)} (h : FI w wr vr rs k v ps) (row : Own 102 3 w w' v' ps'.length (ps'.flatMap fcells)) (hg : wr.grownBy w' v.ownBlock)
    (hb : v'.ownBlock = v.ownBlock ∨ v'.ownBlock = some n) (hn : wr.heap.size ≤ n) (mem : ∀ p ∈ ps', ∃ j, ∃ h : j < rs.length, j < k + 1 ∧ p.2 = rs[j].2 ∧ p.1.l = rs[j].1.l)
    (apart : ps'.Pairwise fun a b => ∀ g, a.2.ownBlock = some g → b.2.ownBlock ≠ some g) : FI w w' vr rs (k + 1) v' ps' := by
  refine ⟨row, h.recs.moved hg h.far, ?_, mem, apart, h.ext.grown hg (fun g hv => (World.ownsRow.lt h.row g hv).1)⟩
  intro g hv
  rcases hb with hb | hb
  · exact h.far g (hb.symm.trans hv)
  · rw [hb] at hv
    injection hv with hv
    subst hv
    refine ⟨fun hh => ?_, fun q hq hh => ?_⟩
    · have := (World.ownsRow.lt h.recs.1 _ hh).2; omega
    · have := (World.ownsRow.lt (h.recs.2.1 q hq) _ hh).2; omega
theorem FI.skip {w wr : World} {vr : Value} {rs : List (DRec × Value)} {k : Nat} {v : Value} {ps : List (DFile × Value)} (h : FI w wr vr rs k v ps) : FI w wr vr rs (k + 1) v ps :=
  ⟨h.row, h.recs, h.far, fun p hp => let ⟨j, h1, h2, h3⟩ := h.mem p hp; ⟨j, h1, by omega, h3⟩, h.apart, h.ext⟩
/-- the k-th record's data lie in no block of the files' data -/
theorem FI.fresh {w wr : World} {vr : Value} {rs : List (DRec × Value)} {k : Nat} {v : Value} {ps : List (DFile × Value)} (h : FI w wr vr rs k v ps) (hk : k < rs.length) : ∀ p ∈ ps, ∀ g, p.2.ownBlock = some g → rs[k].2.ownBlock ≠ some g := by
  intro p hp g hg
  obtain ⟨j, hj, hjk, he, _⟩ := h.mem p hp
  have := h.recs.2.2.at.2 j k hj hk (by omega) g
  rw [he] at hg
  exact this hg
theorem FI.app {w wr w' : World} {vr : Value} {rs : List (DRec × Value)} {k n : Nat} {v v' : Value} {ps : List (DFile × Value)} {r : DRec} {vd : Value} (h : FI w wr vr rs k v ps) (hk : k < rs.length) (hr : rs[k] = (r, vd))
    (row : Own 102 3 w w' v' (ps.length + 1) (ps.flatMap fcells ++ fcells (r.file, vd))) (hg : wr.grownBy w' v.ownBlock) (hb : v'.ownBlock = v.ownBlock ∨ v'.ownBlock = some n) (hn : wr.heap.size ≤ n) : FI w w' vr rs (k + 1) v' (ps ++ [(r.file, vd)]) := by
  have hfr := h.fresh hk
  rw [hr] at hfr
  refine h.write (by simpa [List.flatMap_append, List.flatMap_cons] using row) hg hb hn ?_ ?_
  · intro p hp
    rcases List.mem_append.1 hp with hp | hp
    · obtain ⟨j, h1, h2, h3⟩ := h.mem p hp
      exact ⟨j, h1, by omega, h3⟩
    · rw [List.mem_singleton.1 hp]
      exact ⟨k, hk, by omega, by rw [hr], by rw [hr]; rfl⟩
  · rw [List.pairwise_append]
    refine ⟨h.apart, by simp, fun p hp q hq g hg' => ?_⟩
    rw [List.mem_singleton.1 hq]
    exact hfr p hp g hg'
theorem FI.setAt {w wr w' : World} {vr : Value} {rs : List (DRec × Value)} {k i : Nat} {v : Value} {ps : List (DFile × Value)} {r : DRec} {vd : Value} (h : FI w wr vr rs k v ps) (hk : k < rs.length) (hr : rs[k] = (r, vd)) (hi : i < ps.length)
    (row : Own 102 3 w w' v ps.length ((((ps.flatMap fcells).set (i * 3) (.string r.nm)).set (i * 3 + 1) (.int .i64 r.ver)).set (i * 3 + 2) vd)) (hg : wr.grownBy w' v.ownBlock) : FI w w' vr rs (k + 1) v (ps.set i (r.file, vd)) := by
  have hfr := h.fresh hk
  rw [hr] at hfr
  rw [fc_set r.nm r.ver r.l vd ps i hi] at row
  refine h.write (n := wr.heap.size) (by rw [List.length_set]; exact row) hg (.inl rfl) (Nat.le_refl _) ?_ ?_
  · intro p hp
    rcases List.mem_or_eq_of_mem_set hp with hp | hp
    · obtain ⟨j, h1, h2, h3⟩ := h.mem p hp
      exact ⟨j, h1, by omega, h3⟩
    · rw [hp]
      exact ⟨k, hk, by omega, by rw [hr], by rw [hr]; rfl⟩
  · rw [List.pairwise_iff_getElem]
    have hap := List.pairwise_iff_getElem.1 h.apart
    intro a b ha hb hab g h1 h2
    rw [List.length_set] at ha hb
    rw [List.getElem_set] at h1 h2
    by_cases ia : i = a
    · rw [if_pos ia] at h1
      rw [if_neg (by omega)] at h2
      exact hfr _ (List.getElem_mem hb) g h2 h1
    · rw [if_neg ia] at h1
      by_cases ib : i = b
      · rw [if_pos ib] at h2
        exact hfr _ (List.getElem_mem ha) g h1 h2
      · rw [if_neg ib] at h2
        exact hap a b ha hb hab g h1 h2
theorem FI.drop {w wr w' : World} {vr : Value} {rs : List (DRec × Value)} {k i n : Nat} {v v' : Value} {ps : List (DFile × Value)} (h : FI w wr vr rs k v ps) (hi : i < ps.length)
    (row : Own 102 3 w w' v' (i + (ps.length - (i + 1))) ((ps.take i).flatMap fcells ++ (ps.drop (i + 1)).flatMap fcells)) (hg : wr.grownBy w' v.ownBlock) (hb : v'.ownBlock = v.ownBlock ∨ v'.ownBlock = some n) (hn : wr.heap.size ≤ n) : FI w w' vr rs (k + 1) v' (ps.eraseIdx i) := by
  rw [fc_erase] at row
  have hl : i + (ps.length - (i + 1)) = (ps.eraseIdx i).length := by rw [List.length_eraseIdx_of_lt hi]; omega
  rw [hl] at row
  refine h.write row hg hb hn ?_ (h.apart.sublist (List.eraseIdx_sublist ps i))
  intro p hp
  obtain ⟨j, h1, h2, h3⟩ := h.mem p ((List.eraseIdx_sublist ps i).subset hp)
  exact ⟨j, h1, by omega, h3⟩
theorem FI.made {w wr : World} {vr : Value} {rs : List (DRec × Value)} {k : Nat} {v : Value} {ps : List (DFile × Value)} (h : FI w wr vr rs k v ps) : OwnF w wr v ps := by
  refine ⟨h.row, fun p hp => ?_, ?_⟩
  · obtain ⟨j, h1, _, h3, h4⟩ := h.mem p hp
    rw [h3, h4]; exact h.recs.2.1 _ (List.getElem_mem h1)
  · unfold Apart
    rw [List.pairwise_cons]
    refine ⟨fun u hu g hg => ?_, ?_⟩
    · obtain ⟨p, hp, rfl⟩ := List.mem_map.1 hu
      obtain ⟨j, h1, _, h3, _⟩ := h.mem p hp
      rw [h3]; exact (h.far g hg).2 _ (List.getElem_mem h1)
    · rw [List.pairwise_map]; exact h.apart
theorem map_erase {α β : Type} (f : α → β) : ∀ (l : List α) (i : Nat), (l.eraseIdx i).map f = (l.map f).eraseIdx i := by
  intro l
  induction l with
  | nil => intro i; rfl
  | cons a t ih => intro i; cases i with
    | zero => rfl
    | succ i => simp [ih]
theorem Own.takeM {e : TypeId} {size : Nat} {w0 w : World} {A : Option Addr} {n c : Nat} {xs : List Value} (h : Own e size w0 w (.slice A n c) n xs) {i : Nat} (hi : i ≤ n) : Own e size w0 w (.slice A i c) i (xs.take (i * size)) := by
  have hm : i * size ≤ n * size := Nat.mul_le_mul_right _ hi
  refine ⟨by rw [List.length_take, h.1]; omega, ?_⟩
  rcases h.2 with ⟨hv, h0⟩ | ⟨g, cap, cur, hv, hb, hg, hnc, hcm, hcs, htake⟩
  · injection hv with h1 _ h3
    subst h1; subst h3
    exact .inl ⟨by rw [show i = 0 by omega], by omega⟩
  · injection hv with h1 _ h3
    subst h1; subst h3
    refine .inr ⟨g, c, cur, rfl, hb, hg, by omega, hcm, hcs, ?_⟩
    rw [← htake, List.take_take, Nat.min_eq_left hm]
set_option maxRecDepth 100000 in
set_option maxHeartbeats 4000000 in
theorem iFilesA_c (gA : Nat) (L : Option Addr) (l : List UInt8) (e : Nat) (w : World) (h : Bs w L l e) (hL : l.length ≤ 1048576) (hA : ∀ w', Ext w w' → w'.cell? ⟨gA, 1, none⟩ = some (.slice L l.length e)) :
    Calls Try.prog 87 #[.pointer (some ⟨gA, 0, none⟩)] w fun e w' => ∃ v fs, e = .returned v ∧ fs.map Prod.fst = filesOf (recs l 0) ∧ OwnF w w' v fs ∧ Ext w w' := by
  have hdl := recs_dl l 0
  have hcl : (recs l 0).length ≤ 1048576 := by have := recs_le (b := l) (a := 0) (by omega); omega
  have CR := Lib.hid (fun w h => iReadRecords_c L l e w h (by omega))
  generalize recs l 0 = R at *
  generalize stop l 0 = j at *
  have HDL := Lib.hid hdl; clear hdl
  have e0 := Ext_alloc (.cells #[] 102) (Ext.refl w)
  have HV := Lib.hid (Own.empty (e := 102) (size := 3) (Ext.refl w))
  go_enter Try.func87, Try.ntmps87
  go_wp2_with fail
  refine (CR.out _ (h.ext e0)).mono ?_; rintro _ w1 ⟨v1, rs, rfl, hrs, ho1, he1⟩
  have hrl : rs.length = R.length := by rw [← hrs, List.length_map]
  have hrd : ∀ p ∈ rs, p.1.l.length ≤ 400 := fun p hp => HDL.out p.1 (by rw [← hrs]; exact List.mem_map_of_mem hp)
  obtain ⟨A1, c1, hv1⟩ := ho1.shape
  subst hv1
  have HRS := Lib.hid hrs; have HRD := Lib.hid hrd
  have e1 := e0.trans he1
  have F0 : Hid (FI w w1 (.slice A1 rs.length c1) rs 0 (.slice (some ⟨w.heap.size, 0, none⟩) 0 0) []) := by
    refine ⟨Own.ext HV.out he1, ho1.lower e0, fun g hg => ?_, by simp, by simp, e1⟩
    have h1 : some w.heap.size = some g := hg
    injection h1 with h1; subst h1
    refine ⟨fun hh => ?_, fun q hq hh => ?_⟩
    · have := (World.ownsRow.lt ho1.1 _ hh).1; rw [World.size_alloc] at this; omega
    · have := (World.ownsRow.lt (ho1.2.1 q hq) _ hh).1; rw [World.size_alloc] at this; omega
  clear hrs hrd ho1 CR HDL HV
  go_wp2
  go_loopw [3, 22] (fun t i wr => ∃ (k : Nat) (ps : List (DFile × Value)), k ≤ rs.length ∧ ps.length ≤ k ∧ i = .int .i64 k ∧ Hid (FI w wr (.slice A1 rs.length c1) rs k t ps) ∧ Hid (ps.map Prod.fst = filesOf ((rs.map Prod.fst).take k))) (fun _ i _ => rs.length - (intOf i).toNat)
  case atStart => exact ⟨0, [], by omega, by simp, rfl, F0, rfl⟩
  case round =>
    clear F0
    obtain ⟨k, ps, hk, hpk, rfl, hF, hps⟩ := hrel
    by_cases hlt : k < rs.length
    · obtain ⟨_, _, hvv, rr⟩ := hF.out.recs.rd (by omega) (fun p hp => by have := HRD.out p hp; omega)
      injection hvv with q1 _ q2; subst q1; subst q2
      obtain ⟨b, rfl, hb, hc⟩ := rr.2.2.2 (by omega)
      obtain ⟨Ad, cd, hvd, rd⟩ := rr.2.2.1 rs[k] (List.getElem_mem hlt)
      have hck := fun w' (e : Ext wr w') => hc w' e k hlt
      obtain ⟨p, hp⟩ : ∃ p, rs[k] = p := ⟨_, rfl⟩
      have hdk := HRD.out rs[k] (List.getElem_mem hlt)
      have HT : Hid (filesOf ((rs.map Prod.fst).take (k + 1)) = putF (ps.map Prod.fst) rs[k].1) := by
        show _ = _
        have h1 : k < (rs.map Prod.fst).length := by rw [List.length_map]; exact hlt
        rw [List.take_succ_eq_append_getElem h1, filesOf_snoc, hps.out, putF_eq (filesOf_uniq _)]
        simp
      rw [hvd] at hck
      rw [hp] at hck HT hvd rd hdk
      have HP := Lib.hid hp
      clear hp hc hps
      obtain ⟨⟨kk, nm, ver, d⟩, vr⟩ := p
      dsimp only at hck HT hvd rd hdk
      subst hvd
      have hk0 := fun w' e => (hck w' e).1; have hk1 := fun w' e => (hck w' e).2.1; have hk2 := fun w' e => (hck w' e).2.2.1; have hk3 := fun w' e => (hck w' e).2.2.2
      clear hck rr
      obtain ⟨Af, cf, hvf, rf⟩ := rdF_of hF.out.row (by omega) (fun q hq => OwnL.rd (hF.out.made.2.1 q hq) (by obtain ⟨j, h1, _, _, h4⟩ := hF.out.mem q hq; have := HRD.out _ (List.getElem_mem h1); rw [h4]; omega))
      subst hvf
      have x5 := Ext_alloc (.cells #[.int .i64 kk, .string nm, .int .i64 ver, .slice Ad d.length cd] 138) (Ext.refl wr)
      have B5 := fun w' (e : Ext (wr.alloc (.cells #[.int .i64 kk, .string nm, .int .i64 ver, .slice Ad d.length cd] 138)) w') => boxed e
      have CI := Lib.hid (idxF_c Af ps cf wr.heap.size nm _ (rf.ext x5) (fun w' e => B5 w' e 1))
      have HKN : Hid ((ps.length + 1) * 48 ≤ 140737488355328 ∧ ps.length + 1 ≤ maxLen) := by refine ⟨by omega, by simp only [maxLen]; omega⟩
      have hplm : (ps.map Prod.fst).length = ps.length := List.length_map ..
      unfold putF at HT
      rw [hplm] at HT
      unfold idxI at CI
      rw [hplm] at CI
      dsimp only at HT
      obtain ⟨i, hi⟩ : ∃ i, idxF (ps.map Prod.fst) nm = i := ⟨_, rfl⟩
      rw [hi] at HT CI
      clear hi hplm
      cases hkk : (kk == 1) <;> by_cases hix : i < ps.length
      · rw [hkk, if_neg (by decide), if_pos hix] at HT
        rw [if_pos hix] at CI
        have HQ : Hid ((ps.eraseIdx i).map Prod.fst = filesOf ((rs.map Prod.fst).take (k + 1))) := by
          show _ = _; rw [HT.out, map_erase]
        clear HT
        obtain ⟨gf, cap, hvf, _, _⟩ := World.ownsRow.form hF.out.row (by omega)
        injection hvf with q1 _ q3
        subst q1; subst q3
        have hcapf := rf.1
        have hwr : IntKind.i64.wrap ((i : Int) + 1) = (i : Int) + 1 := IntWalk.i64_in _ (by omega)
        have hp0 : (0 : Int) ≤ (i : Int) + 1 := by omega
        have hp1 : (i : Int) + 1 ≤ (ps.length : Int) := by omega
        have hp2 : ((i : Int) + 1).toNat = i + 1 := by omega
        have hic : i ≤ cf := by omega
        go_wp2_with fail
        refine CI.out.mono ?_; rintro _ w6 ⟨rfl, s6⟩
        replace B5 := fun w' (e : Ext w6 w') => B5 w' (s6.trans e)
        have e6 := x5.trans s6
        clear CI
        have x7 := Ext_alloc (.cells #[.string nm, .int .i64 ver, .slice Ad d.length cd] 102) e6
        have F7 := Lib.hid (hF.out.to (Ext_drew x7))
        obtain ⟨Adr, hA, hnews⟩ : ∃ Adr : Addr, (if cf = i + 1 then some (⟨gf, 0, none⟩ : Addr) else some ⟨gf, (i + 1) * 3, none⟩) = some Adr ∧ Hid (∀ j u, ((ps.drop (i + 1)).flatMap fcells)[j]? = some u → (w6.alloc (.cells #[.string nm, .int .i64 ver, .slice Ad d.length cd] 102)).drew.cell? (Adr.add j) = some u) := by
          have hlen : ((ps.drop (i + 1)).flatMap fcells).length = (ps.length - (i + 1)) * 3 := by rw [fcells_len, List.length_drop]
          by_cases h : cf = i + 1
          · refine ⟨⟨gf, 0, none⟩, by simp [h], fun j u hu => ?_⟩
            have := (List.getElem?_eq_some_iff.1 hu).1
            omega
          · refine ⟨⟨gf, (i + 1) * 3, none⟩, by simp [h], fun j u hu => ?_⟩
            have hj := (List.getElem?_eq_some_iff.1 hu).1
            rw [hlen] at hj
            have h1 := F7.out.row.cellAt ((i + 1) * 3 + j) (by omega)
            rw [Addr.add_lit, h1, ← List.getElem?_drop, fc_drop]
            exact hu
        have hpre : Hid (Own 102 3 w ((w6.alloc (.cells #[.string nm, .int .i64 ver, .slice Ad d.length cd] 102)).drew) (.slice (some ⟨gf, 0, none⟩) i cf) i ((ps.take i).flatMap fcells)) := by
          have := F7.out.row.takeM (i := i) (by omega)
          rwa [fc_take] at this
        have hnl : Hid (((ps.drop (i + 1)).flatMap fcells).length = (ps.length - (i + 1)) * 3) := by show _ = _; rw [fcells_len, List.length_drop]
        have hone : Hid (∀ u ∈ (ps.drop (i + 1)).flatMap fcells, u.oneCell' = true) := fun u hu => by
          obtain ⟨q, hq, hu⟩ := List.mem_flatMap.1 hu
          obtain ⟨A', c', hv, _⟩ := rf.2.2.1 q (List.mem_of_mem_drop hq)
          simp only [fcells, hv, List.mem_cons, List.not_mem_nil, or_false] at hu
          rcases hu with rfl | rfl | rfl <;> rfl
        have hb1 : Hid (i + (ps.length - (i + 1)) ≤ maxLen ∧ (i + (ps.length - (i + 1))) * 48 ≤ 140737488355328) := by refine ⟨by simp only [maxLen]; omega, by omega⟩
        have hsz := Lib.hid F7.out.ext.size
        clear hwr
        have hwr : IntKind.i64.wrap ((i : Int) + 1) = (i : Int) + 1 := IntWalk.i64_in _ (by omega)
        go_wp2_with fail
        go_region_law (refine step_appM rfl (.tmp 61) (.tmp 65) _ rfl E_file w _ (.slice (some ⟨gf, 0, none⟩) i cf) i ((ps.take i).flatMap fcells) (by simp [Act.eval, Act.put]) hpre.out hsz.out Adr (ps.length - (i + 1)) (cf - (i + 1)) ((ps.drop (i + 1)).flatMap fcells) (by simp [Act.eval, Act.put]) hnl.out hnews.out hone.out hb1.out.1 hb1.out.2 ?_; intro v8 w8 ho8 hg8 hb8)
        have F8 := Lib.hid (F7.out.drop hix ho8 hg8 hb8 (Nat.le_refl _))
        clear ho8 hg8 hb8 hpre hnews
        go_wp2
        go_roundw
        case rel => exact ⟨k + 1, ps.eraseIdx i, by omega, by rw [List.length_eraseIdx_of_lt hix]; omega, by go_num, F8, HQ⟩
        case measure => simp [intOf]; omega
      · rw [hkk, if_neg (by decide), if_neg hix] at HT
        rw [if_neg hix] at CI
        have HQ : Hid (ps.map Prod.fst = filesOf ((rs.map Prod.fst).take (k + 1))) := HT.out.symm
        clear HT
        go_wp2_with fail
        refine CI.out.mono ?_; rintro _ w6 ⟨rfl, s6⟩
        replace B5 := fun w' (e : Ext w6 w') => B5 w' (s6.trans e)
        have e6 := x5.trans s6
        clear CI
        go_wp2
        go_roundw
        case rel => exact ⟨k + 1, ps, by omega, by omega, by go_num, Lib.hid ((hF.out.to (Ext_alloc _ e6)).skip), HQ⟩
        case measure => simp [intOf]; omega
      · rw [hkk, if_pos rfl, if_pos hix] at HT
        rw [if_pos hix] at CI
        have HQ : Hid ((ps.set i (⟨nm, ver, d⟩, Value.slice Ad d.length cd)).map Prod.fst = filesOf ((rs.map Prod.fst).take (k + 1))) := by
          show _ = _; rw [HT.out, List.map_set]; rfl
        clear HT
        obtain ⟨gf, cap, hvf, _, _⟩ := World.ownsRow.form hF.out.row (by omega)
        injection hvf with q1 _ q3
        subst q1; subst q3
        go_wp2_with fail
        refine CI.out.mono ?_; rintro _ w6 ⟨rfl, s6⟩
        replace B5 := fun w' (e : Ext w6 w') => B5 w' (s6.trans e)
        have e6 := x5.trans s6
        clear CI
        have x7 := Ext_alloc (.cells #[.string nm, .int .i64 ver, .slice Ad d.length cd] 102) e6
        have F7 := hF.out.to x7
        obtain ⟨⟨u0, hu0⟩, hf0⟩ := F7.row.slot (i * 3) (by rw [F7.row.1]; omega)
        obtain ⟨⟨u1, hu1⟩, hf1⟩ := F7.row.slot (i * 3 + 1) (by rw [F7.row.1]; omega)
        obtain ⟨⟨u2, hu2⟩, hf2⟩ := F7.row.slot (i * 3 + 2) (by rw [F7.row.1]; omega)
        have HF7 := Lib.hid F7
        have i1 : (i : Int) < (ps.length : Int) := by omega
        clear F7
        go_wp2
        have F8 : Hid (FI w ((((w6.alloc (.cells #[.string nm, .int .i64 ver, .slice Ad d.length cd] 102)).setCell ⟨gf, i * 3, none⟩ (.string nm)).setCell ⟨gf, i * 3 + 1, none⟩ (.int .i64 ver)).setCell ⟨gf, i * 3 + 2, none⟩ (.slice Ad d.length cd)) (.slice (some ⟨b, 0, none⟩) rs.length c1) rs (k + 1) (.slice (some ⟨gf, 0, none⟩) ps.length cf) (ps.set i (⟨nm, ver, d⟩, Value.slice Ad d.length cd))) := by
          obtain ⟨h1, g1⟩ := HF7.out.row.store HF7.out.ext (i * 3) (.string nm)
          obtain ⟨h2, g2⟩ := h1.store g1 (i * 3 + 1) (.int .i64 ver)
          obtain ⟨h3, g3⟩ := h2.store g2 (i * 3 + 2) (.slice Ad d.length cd)
          exact HF7.out.setAt hlt HP.out hix h3 (((grown_set _ ⟨gf, i * 3, none⟩ _).trans (grown_set _ ⟨gf, i * 3 + 1, none⟩ _)).trans (grown_set _ ⟨gf, i * 3 + 2, none⟩ _))
        go_roundw
        case rel => exact ⟨k + 1, ps.set i (⟨nm, ver, d⟩, Value.slice Ad d.length cd), by omega, by rw [List.length_set]; omega, by go_num, F8, HQ⟩
        case measure => simp [intOf]; omega
      · rw [hkk, if_pos rfl, if_neg hix] at HT
        rw [if_neg hix] at CI
        have HQ : Hid ((ps ++ [((⟨nm, ver, d⟩ : DFile), Value.slice Ad d.length cd)]).map Prod.fst = filesOf ((rs.map Prod.fst).take (k + 1))) := by
          show _ = _; rw [HT.out, List.map_append]; rfl
        clear HT
        go_wp2_with fail
        refine CI.out.mono ?_; rintro _ w6 ⟨rfl, s6⟩
        replace B5 := fun w' (e : Ext w6 w') => B5 w' (s6.trans e)
        have e6 := x5.trans s6
        clear CI
        have x7 := Ext_alloc (.cells #[.string nm, .int .i64 ver, .slice Ad d.length cd] 102) e6
        have F7 := Lib.hid (hF.out.to x7)
        go_wp2_with (first
          | (at_builtin; refine wpList_appB rfl (.tmp 52) (.tmp 54) _ rfl E_file w _ (.slice Af ps.length cf) ps.length (ps.flatMap fcells) rfl F7.out.row F7.out.ext (fcells (⟨nm, ver, d⟩, Value.slice Ad d.length cd)) _ rfl 1 _ _ rfl (by simp) rfl (by intro u hu; simp [fcells] at hu; rcases hu with rfl | rfl | rfl <;> rfl) HKN.out.2 HKN.out.1 ?_; intro v8 w8 ho8 he8 hb8 hg8))
        have F8 := Lib.hid ((F7.out.to (Ext_alloc _ (Ext.refl _))).app hlt HP.out ho8 hg8 hb8 (Nat.le_refl _))
        clear ho8 he8 hb8 hg8 F7
        go_wp2
        go_roundw
        case rel => exact ⟨k + 1, ps ++ [(⟨nm, ver, d⟩, Value.slice Ad d.length cd)], by omega, by simp; omega, by go_num, F8, HQ⟩
        case measure => simp [intOf]; omega
    · obtain rfl : k = rs.length := by omega
      have HQ : Hid (ps.map Prod.fst = filesOf R) := by
        show _ = _
        rw [hps.out, List.take_of_length_le (by rw [List.length_map]; omega), HRS.out]
      clear hps
      go_wp2
      go_ret
      exact ⟨_, ps, rfl, HQ.out, hF.out.made, hF.out.ext⟩
end Go.Proofs.Ytlaejcacembjiaa

/- Valid descriptions, as plain functions of the rules. -/
namespace Go.Proofs.Ytlaejcacembjiaa

/-- f holds at every number below n -/
def allN (n : Nat) (f : Nat → Bool) : Bool := (List.range n).all f
theorem allN_no {n k : Nat} {f : Nat → Bool} (hk : k < n) (h : f k = false) : allN n f = false := by
  unfold allN
  rw [Bool.eq_false_iff]
  intro hall
  have := List.all_eq_true.1 hall k (by simpa using hk)
  rw [h] at this; cases this
theorem allN_yes {n : Nat} {f : Nat → Bool} (h : ∀ j, j < n → f j = true) : allN n f = true := List.all_eq_true.2 fun j hj => h j (by simpa using hj)
theorem upTo {k : Nat} {f : Nat → Bool} (h : ∀ j, j < k → f j = true) (hk : f k = true) : ∀ j, j < k + 1 → f j = true := by
  intro j hj
  rcases (by omega : j < k ∨ j = k) with hj | rfl
  · exact h j hj
  · exact hk
/-- is the text among the first k of the list -/
def hasNm (l : List ByteArray) (s : ByteArray) : Bool := l.any fun x => x.toList == s.toList
theorem hasNm_at {l : List ByteArray} {s : ByteArray} {k : Nat} (hk : k < l.length) (h : (l[k].toList == s.toList) = true) : hasNm l s = true := List.any_eq_true.2 ⟨l[k], List.getElem_mem hk, h⟩
theorem hasNm_none {l : List ByteArray} {s : ByteArray} (h : ∀ k (hk : k < l.length), (l[k].toList == s.toList) = false) : hasNm l s = false := by
  unfold hasNm
  rw [List.any_eq_false]
  intro x hx
  obtain ⟨k, hk, rfl⟩ := List.getElem_of_mem hx
  rw [h k hk]; simp
/-- the greatest number of an integer rule, else -1 -/
def limR (r : DRule) : Int := if r.kind = 1 ∧ 1 ≤ r.size ∧ r.size ≤ 4 then 256 ^ r.size.toNat - 1 else -1
def limD (ds : List DRule) (i : Int) : Int := if 0 ≤ i then (match ds[i.toNat]? with | some r => limR r | none => -1) else -1
theorem limR_cases (r : DRule) : limR r = -1 ∨ limR r = 255 ∨ limR r = 65535 ∨ limR r = 16777215 ∨ limR r = 4294967295 := by
  unfold limR
  split
  · rename_i h
    rcases (by omega : r.size = 1 ∨ r.size = 2 ∨ r.size = 3 ∨ r.size = 4) with e | e | e | e <;> rw [e] <;> simp
  · exact .inl rfl
theorem limD_cases (ds : List DRule) (i : Int) : limD ds i = -1 ∨ limD ds i = 255 ∨ limD ds i = 65535 ∨ limD ds i = 16777215 ∨ limD ds i = 4294967295 := by
  unfold limD
  split
  · split
    · exact limR_cases _
    · exact .inl rfl
  · exact .inl rfl
/-- the fields that a rule may have -/
def plainB (r : DRule) (size bytes names tags : Bool) (kids : Int) : Bool :=
  (size || r.size == 0) && (bytes || r.bytes.length == 0) && (names || r.names.length == 0) && (tags || r.tags.length == 0) && (decide (kids < 0) || decide ((r.kids.length : Int) = kids))
def between (n lo hi : Int) : Bool := decide (lo ≤ n) && decide (n ≤ hi)
def nameOk (l : List ByteArray) (i : Nat) : Bool := match l[i]? with | some s => isName s && !hasNm (l.take i) s | none => true
def seqOk (r : DRule) : Bool := plainB r false false true false (-1) && r.kids.length == r.names.length && between r.kids.length 1 8 && allN r.names.length (nameOk r.names)
def tagOk (lim : Int) (l : List Int) (i : Nat) : Bool := match l[i]? with | some t => between t 0 lim && (i == 0 || decide (l.getD (i - 1) 0 < t)) | none => true
def choOk (ds : List DRule) (r : DRule) : Bool := plainB r false false false true (r.tags.length + 1) && between r.tags.length 1 8 && allN r.tags.length (tagOk (limD ds (r.kids.getD 0 0)) r.tags)
def kindOk (ds : List DRule) (r : DRule) : Bool :=
  if r.kind = 1 then plainB r true false false false 0 && between r.size 1 4 && (!r.little || decide (1 < r.size))
  else if r.kind = 2 then plainB r false true false false 0 && between r.bytes.length 1 16
  else if r.kind = 3 then plainB r true false false false 0 && between r.size 1 64
  else if r.kind = 4 then plainB r false false false false 1 && decide (0 < limD ds (r.kids.getD 0 0))
  else if r.kind = 5 then plainB r false false false false 2 && decide (0 < limD ds (r.kids.getD 0 0))
  else if r.kind = 6 then seqOk r
  else if r.kind = 7 then choOk ds r
  else if r.kind = 8 then plainB r false false false false 1
  else if r.kind = 9 then plainB r false false false false 1
  else if r.kind = 10 then plainB r false true false false 0 && r.bytes.length == 1 && !(r.bytes.getD 0 0 == 92)
  else false
def freshNm (ds : List DRule) (r : DRule) (j : Nat) : Bool := match ds[j]? with | some q => !(q.nm.toList == r.nm.toList) | none => true
def kidOk (l : List Int) (i : Nat) (j : Nat) : Bool := match l[j]? with | some k => between k 0 ((i : Int) - 1) | none => true
/-- rule number i is valid -/
def ruleOk (ds : List DRule) (i : Nat) : Bool := match ds[i]? with
  | some r => isName r.nm && (!r.little || r.kind == 1) && allN i (freshNm ds r) && allN r.kids.length (kidOk r.kids i) && kindOk ds r
  | none => false
def ruleOkI (ds : List DRule) (i : Int) : Bool := decide (0 ≤ i) && ruleOk ds i.toNat
def descOk (ds : List DRule) : Bool := between ds.length 1 24 && allN ds.length (ruleOk ds)
def regOk (gs : List (List DRule)) : Bool := decide (gs.length ≤ 8) && allN gs.length (fun i => match gs[i]? with | some d => descOk d | none => true)
end Go.Proofs.Ytlaejcacembjiaa

/- Parts of the test of a description: names in lists, limits, fields. -/
namespace Go.Proofs.Ytlaejcacembjiaa
open Go.RowKit Go.Sort

set_option maxHeartbeats 400000 in
theorem sContains_c (A : Option Addr) (l : List ByteArray) (c : Nat) (s : ByteArray) (w : World) (h : Rd0 vstr w A l c) :
    Gives Try.prog 46 #[.slice A l.length c, .string s] w (.bool (hasNm l s)) := by
  have hl := h.len
  go_enter Try.func46, Try.ntmps46
  go_wp2
  go_loopw [5] (fun i wr => ∃ k : Nat, k ≤ l.length ∧ i = .int .i64 k ∧ Hid (∀ j (hj : j < l.length), j < k → (l[j].toList == s.toList) = false) ∧ Ext w wr) (fun i _ => l.length - (intOf i).toNat)
  case atStart => exact ⟨0, by omega, rfl, (fun j _ hj => by omega), Ext.refl _⟩
  case round =>
    obtain ⟨k, hk, rfl, ht, he⟩ := hrel
    by_cases hlt : k < l.length
    · obtain ⟨b, off, rfl, hb, hc⟩ := h.at k hlt
      have YES : Hid ((l[k].toList == s.toList) = true → hasNm l s = true) := hasNm_at hlt
      have NO : Hid ((l[k].toList == s.toList) = false → ∀ j (hj : j < l.length), j < k + 1 → (l[j].toList == s.toList) = false) := by
        intro hy j hj hjk
        rcases (by omega : j < k ∨ j = k) with hjk | rfl
        · exact ht.out j hj hjk
        · exact hy
      clear h
      generalize l[k] = x at *
      cases hq : (x.toList == s.toList)
      · have NO' := Lib.hid (NO.out hq)
        go_wp2
        go_roundw
        case rel => exact ⟨k+1, by omega, by go_num, NO'.out, he⟩
        case measure => simp [intOf]; omega
      · have YES' := Lib.hid (YES.out hq)
        go_wp2
        go_ret
        exact ⟨ret_bool YES'.out.symm, he⟩
    · have HE : Hid (hasNm l s = false) := hasNm_none (fun j hj => ht.out j hj (by omega))
      go_wp2
      go_ret
      exact ⟨ret_bool HE.out.symm, he⟩
set_option maxHeartbeats 400000 in
theorem iContains_c (A : Option Addr) (l : List ByteArray) (c : Nat) (s : ByteArray) (w : World) (h : Rd0 vstr w A l c) :
    Gives Try.prog 96 #[.slice A l.length c, .string s] w (.bool (hasNm l s)) := by
  have hl := h.len
  go_enter Try.func96, Try.ntmps96
  go_wp2
  go_loopw [9] (fun i wr => ∃ k : Nat, k ≤ l.length ∧ i = .int .i64 k ∧ Hid (∀ j (hj : j < l.length), j < k → (l[j].toList == s.toList) = false) ∧ Ext w wr) (fun i _ => l.length - (intOf i).toNat)
  case atStart => exact ⟨0, by omega, rfl, (fun j _ hj => by omega), Ext.refl _⟩
  case round =>
    obtain ⟨k, hk, rfl, ht, he⟩ := hrel
    by_cases hlt : k < l.length
    · obtain ⟨b, off, rfl, hb, hc⟩ := h.at k hlt
      have YES : Hid ((l[k].toList == s.toList) = true → hasNm l s = true) := hasNm_at hlt
      have NO : Hid ((l[k].toList == s.toList) = false → ∀ j (hj : j < l.length), j < k + 1 → (l[j].toList == s.toList) = false) := by
        intro hy j hj hjk
        rcases (by omega : j < k ∨ j = k) with hjk | rfl
        · exact ht.out j hj hjk
        · exact hy
      clear h
      generalize l[k] = x at *
      cases hq : (x.toList == s.toList)
      · have NO' := Lib.hid (NO.out hq)
        go_wp2
        go_roundw
        case rel => exact ⟨k+1, by omega, by go_num, NO'.out, he⟩
        case measure => simp [intOf]; omega
      · have YES' := Lib.hid (YES.out hq)
        go_wp2
        go_ret
        exact ⟨ret_bool YES'.out.symm, he⟩
    · have HE : Hid (hasNm l s = false) := hasNm_none (fun j hj => ht.out j hj (by omega))
      go_wp2
      go_ret
      exact ⟨ret_bool HE.out.symm, he⟩
set_option maxHeartbeats 400000 in
theorem hasRule_c (A : Option Addr) (n c : Nat) (i : Int) (w : World) (hn : n ≤ 9223372036854775807) :
    Gives Try.prog 137 #[vdesc (.slice A n c), .int .i64 i] w (.bool (decide (0 ≤ i) && decide (i < n))) := by
  unfold vdesc
  by_cases h0 : 0 ≤ i
  · by_cases h1 : i < n
    all_goals
      go_enter Try.func137, Try.ntmps137
      go_wp2
      go_ret
      exact ⟨ret_bool (by simp [*]), Ext_alloc _ (Ext.refl w)⟩
  · go_enter Try.func137, Try.ntmps137
    go_wp2
    go_ret
    exact ⟨ret_bool (by simp; omega), Ext_alloc _ (Ext.refl w)⟩
end Go.Proofs.Ytlaejcacembjiaa

/- Names of rules: FindRule, DescriptionNames, SharedNames. -/
namespace Go.Proofs.Ytlaejcacembjiaa
open Go.RowKit Go.Sort

/-- the first rule with this name, or -1 -/
def findR (ds : List DRule) (s : ByteArray) : Int := match ds.findIdx? (fun r => r.nm.toList == s.toList) with | some i => (i : Int) | none => -1
def nmsOf (ds : List DRule) : List ByteArray := ds.map DRule.nm
theorem findR_at {ds : List DRule} {s : ByteArray} {k : Nat} (hk : k < ds.length) (h : (ds[k].nm.toList == s.toList) = true) (hn : ∀ j (hj : j < ds.length), j < k → (ds[j].nm.toList == s.toList) = false) : findR ds s = (k : Int) := by
  unfold findR
  have : ds.findIdx? (fun r => r.nm.toList == s.toList) = some k := by
    rw [List.findIdx?_eq_some_iff_getElem]
    exact ⟨hk, h, fun j hj => by rw [hn j (by omega) hj]; simp⟩
  rw [this]
theorem findR_none {ds : List DRule} {s : ByteArray} (hn : ∀ j (hj : j < ds.length), (ds[j].nm.toList == s.toList) = false) : findR ds s = -1 := by
  unfold findR
  have : ds.findIdx? (fun r => r.nm.toList == s.toList) = none := by
    rw [List.findIdx?_eq_none_iff]
    intro x hx
    obtain ⟨j, hj, rfl⟩ := List.getElem_of_mem hx
    exact hn j hj
  rw [this]
theorem findR_has (ds : List DRule) (s : ByteArray) : decide (0 ≤ findR ds s) = hasNm (nmsOf ds) s := by
  unfold findR hasNm nmsOf
  cases h : ds.findIdx? (fun r => r.nm.toList == s.toList) with
  | none =>
    rw [List.findIdx?_eq_none_iff] at h
    have : (ds.map DRule.nm).any (fun x => x.toList == s.toList) = false := by
      rw [List.any_map, List.any_eq_false]
      intro x hx
      have := h x hx
      simp only [Function.comp_apply]
      rw [this]; simp
    rw [this]; simp
  | some i =>
    rw [List.findIdx?_eq_some_iff_getElem] at h
    obtain ⟨hi, h1, _⟩ := h
    have : (ds.map DRule.nm).any (fun x => x.toList == s.toList) = true := by
      rw [List.any_map, List.any_eq_true]
      exact ⟨ds[i], List.getElem_mem hi, h1⟩
    rw [this]; simp
theorem findR_lt (ds : List DRule) (s : ByteArray) : -1 ≤ findR ds s ∧ findR ds s < ds.length ∨ findR ds s = -1 := by
  unfold findR
  cases h : ds.findIdx? (fun r => r.nm.toList == s.toList) with
  | none => exact .inr rfl
  | some i =>
    rw [List.findIdx?_eq_some_iff_getElem] at h
    obtain ⟨hi, _, _⟩ := h
    left; simp only; omega
set_option maxRecDepth 100000 in
set_option maxHeartbeats 2000000 in
theorem sFind_c (A : Option Addr) (ds : List DRule) (c : Nat) (s : ByteArray) (w : World) (hd : RdD w A ds c) :
    Gives Try.prog 101 #[vdesc (.slice A ds.length c), .string s] w (.int .i64 (findR ds s)) := by
  have hl := hd.len
  have eb := Ext_alloc (.cells #[.slice A ds.length c] 38) (Ext.refl w)
  have BX := fun w' (e : Ext (w.alloc (.cells #[.slice A ds.length c] 38)) w') => boxed e
  unfold vdesc
  go_enter Try.func101, Try.ntmps101
  go_wp2
  go_loopw [5] (fun q wr => ∃ k : Nat, k ≤ ds.length ∧ q = .int .i64 k ∧ Hid (∀ j (hj : j < ds.length), j < k → (ds[j].nm.toList == s.toList) = false) ∧ Ext (w.alloc (.cells #[.slice A ds.length c] 38)) wr) (fun q _ => ds.length - (intOf q).toNat)
  case atStart => exact ⟨0, by omega, rfl, (fun j _ hj => by omega), Ext.refl _⟩
  case round =>
    obtain ⟨k, hk, rfl, ht, he⟩ := hrel
    by_cases hlt : k < ds.length
    · obtain ⟨b, off, Ab, cb, An, cn, At, ct, Ak, ck, rfl, hb, _, hR⟩ := hd.at k hlt
      have YES : Hid ((ds[k].nm.toList == s.toList) = true → findR ds s = (k : Int)) := fun h => findR_at hlt h ht.out
      have NO : Hid ((ds[k].nm.toList == s.toList) = false → ∀ j (hj : j < ds.length), j < k + 1 → (ds[j].nm.toList == s.toList) = false) := by
        intro hy j hj hjk
        rcases (by omega : j < k ∨ j = k) with hjk | rfl
        · exact ht.out j hj hjk
        · exact hy
      generalize ds[k] = p at *
      obtain ⟨m0, m1, m2, m3, m4, m5, m6, m7⟩ := hR.ext eb
      clear hd hR ht
      cases hq : (p.nm.toList == s.toList)
      · have HE := Lib.hid (NO.out hq); clear YES NO
        go_wp2
        go_roundw
        case rel => exact ⟨k+1, by omega, by go_num, HE.out, he⟩
        case measure => simp [intOf]; omega
      · have HE := Lib.hid (YES.out hq); clear YES NO
        go_wp2
        go_ret
        exact ⟨ret_i64 HE.out.symm, eb.trans he⟩
    · have HE : Hid (findR ds s = -1) := findR_none (fun j hj => ht.out j hj (by omega))
      go_wp2
      go_ret
      exact ⟨ret_i64 HE.out.symm, eb.trans he⟩

set_option maxRecDepth 100000 in
set_option maxHeartbeats 2000000 in
theorem iFind_c (A : Option Addr) (ds : List DRule) (c : Nat) (s : ByteArray) (w : World) (hd : RdD w A ds c) :
    Gives Try.prog 100 #[vdesc (.slice A ds.length c), .string s] w (.int .i64 (findR ds s)) := by
  have hl := hd.len
  have eb := Ext_alloc (.cells #[.slice A ds.length c] 38) (Ext.refl w)
  have BX := fun w' (e : Ext (w.alloc (.cells #[.slice A ds.length c] 38)) w') => boxed e
  unfold vdesc
  go_enter Try.func100, Try.ntmps100
  go_wp2
  go_loopw [10] (fun q wr => ∃ k : Nat, k ≤ ds.length ∧ q = .int .i64 k ∧ Hid (∀ j (hj : j < ds.length), j < k → (ds[j].nm.toList == s.toList) = false) ∧ Ext (w.alloc (.cells #[.slice A ds.length c] 38)) wr) (fun q _ => ds.length - (intOf q).toNat)
  case atStart => exact ⟨0, by omega, rfl, (fun j _ hj => by omega), Ext.refl _⟩
  case round =>
    obtain ⟨k, hk, rfl, ht, he⟩ := hrel
    by_cases hlt : k < ds.length
    · obtain ⟨b, off, Ab, cb, An, cn, At, ct, Ak, ck, rfl, hb, _, hR⟩ := hd.at k hlt
      have YES : Hid ((ds[k].nm.toList == s.toList) = true → findR ds s = (k : Int)) := fun h => findR_at hlt h ht.out
      have NO : Hid ((ds[k].nm.toList == s.toList) = false → ∀ j (hj : j < ds.length), j < k + 1 → (ds[j].nm.toList == s.toList) = false) := by
        intro hy j hj hjk
        rcases (by omega : j < k ∨ j = k) with hjk | rfl
        · exact ht.out j hj hjk
        · exact hy
      generalize ds[k] = p at *
      obtain ⟨m0, m1, m2, m3, m4, m5, m6, m7⟩ := hR.ext eb
      clear hd hR ht
      cases hq : (p.nm.toList == s.toList)
      · have HE := Lib.hid (NO.out hq); clear YES NO
        go_wp2
        go_roundw
        case rel => exact ⟨k+1, by omega, by go_num, HE.out, (Ext_alloc _ he)⟩
        case measure => simp [intOf]; omega
      · have HE := Lib.hid (YES.out hq); clear YES NO
        go_wp2
        go_ret
        exact ⟨ret_i64 HE.out.symm, eb.trans (Ext_alloc _ he)⟩
    · have HE : Hid (findR ds s = -1) := findR_none (fun j hj => ht.out j hj (by omega))
      go_wp2
      go_ret
      exact ⟨ret_i64 HE.out.symm, eb.trans he⟩
section
variable {P : Program} {ops : Array Oper} {rest : List Oper} {o : Oper} {a : Act} {Q : Exit → Act → World → Prop}
/-- append(s, y1, .., ym), with what becomes of the block -/
theorem wpList_appNB (hgd : o.guard = none) (s x : Operand) (t : TypeId) (ho : o.op = .call { callee := .builtin .append, args := #[s, x], argTypes := #[t, t] })
    {e : TypeId} {bytes : Nat} {z : Value} (hE : Elem P t e 1 bytes z) (hby : 1 ≤ bytes) (w0 w : World) {α : Type} (f : α → Value) (hf : ∀ x, (f x).oneCell' = true) (v : Value) (hs : a.eval s = v) (m c g : Nat) (hx : a.eval x = .slice (some ⟨g, 0, none⟩) m c) (hg : g = w.heap.size)
    (l ys : List α) (cs : Array Value) (hcs : cs = (ys.map f).toArray) (hown : OwnL f e w0 w v l) (he : Ext w0 w) (hm : m = ys.length)
    (hb : (l.length + ys.length) * bytes ≤ 140737488355328)
    (h : ∀ v' w', OwnL f e w0 w' v' (l ++ ys) → Ext w0 w' → (v'.ownBlock = v.ownBlock ∨ v'.ownBlock = some (w.alloc (.cells cs e)).heap.size) → (w.alloc (.cells cs e)).grownBy w' v.ownBlock → wpList P ops Q rest (a.put o.dst v') w') :
    wpList P ops Q (o :: rest) a (w.alloc (.cells cs e)) := by
  subst hcs; subst hg
  refine wpList_appL hgd s x t ho hE hby w0 _ f hf v hs (some ⟨w.heap.size, 0, none⟩) m c hx l ys (hown.ext (Ext_alloc _ (Ext.refl w))) (Ext_alloc _ he) hm (fun _ => ⟨_, rfl, fun j u hu => ?_⟩) hb h
  rw [World.cell?_alloc_at']; exact hu
end
theorem take_snoc' {α β : Type} (f : α → β) (l : List α) (k : Nat) (hk : k < l.length) : (l.take k).map f ++ [f l[k]] = (l.take (k+1)).map f := by
  rw [List.take_succ_eq_append_getElem hk, List.map_append]; rfl
/-- the names that both have, in the first one's order -/
def shared (a b : List DRule) : List ByteArray := (nmsOf a).filter (hasNm (nmsOf b))
def shr (a b : List DRule) (k : Nat) : List ByteArray := ((a.take k).map DRule.nm).filter (hasNm (nmsOf b))
theorem shr_yes {a b : List DRule} {k : Nat} (hk : k < a.length) (h : hasNm (nmsOf b) a[k].nm = true) : shr a b k ++ [a[k].nm] = shr a b (k+1) := by
  unfold shr; rw [List.take_succ_eq_append_getElem hk, List.map_append, List.filter_append]; simp [h]
theorem shr_no {a b : List DRule} {k : Nat} (hk : k < a.length) (h : hasNm (nmsOf b) a[k].nm = false) : shr a b k = shr a b (k+1) := by
  unfold shr; rw [List.take_succ_eq_append_getElem hk, List.map_append, List.filter_append]; simp [h]
theorem shr_len (a b : List DRule) (k : Nat) : (shr a b k).length ≤ k := by
  unfold shr; have h1 := List.length_filter_le (hasNm (nmsOf b)) ((a.take k).map DRule.nm); rw [List.length_map, List.length_take] at h1; omega
theorem shared_len {a b : List DRule} {n : Nat} (h : szD a ≤ n) : (shared a b).length ≤ n := by
  unfold shared; have h1 := List.length_filter_le (hasNm (nmsOf b)) (nmsOf a); unfold nmsOf at h1 ⊢; rw [List.length_map] at h1; unfold szD at h; omega
end Go.Proofs.Ytlaejcacembjiaa

/- ListFiles and FileNames of the program and of the reference. -/
namespace Go.Proofs.Ytlaejcacembjiaa
open Go.RowKit Go.Sort

def filesA (l : List UInt8) (s : Int) : List DFile := if validLog l s then filesOf (recs l 0) else []
theorem filesA_len (l : List UInt8) (s : Int) : 6 * (filesA l s).length ≤ l.length := by
  unfold filesA; split
  · have h1 := filesOf_len (recs l 0); have h2 := recs_le (b := l) (a := 0) (by omega); omega
  · simp
theorem foldF_dl (rs : List DRec) (h : ∀ r ∈ rs, r.l.length ≤ 400) : ∀ fs : List DFile, (∀ f ∈ fs, f.l.length ≤ 400) → ∀ f ∈ rs.foldl applyF fs, f.l.length ≤ 400 := by
  induction rs with
  | nil => intro fs hf; exact hf
  | cons r t ih =>
    intro fs hf
    rw [List.foldl_cons]
    refine ih (fun r hr => h r (List.mem_cons_of_mem _ hr)) _ fun f hm => ?_
    have hr := h r (List.mem_cons_self ..)
    unfold applyF at hm
    rcases List.mem_append.1 hm with hm | hm
    · obtain ⟨g, hg, he⟩ := List.mem_filterMap.1 hm
      unfold keepF at he
      split at he
      · split at he
        · injection he with he; rw [← he]; exact hr
        · cases he
      · injection he with he; rw [← he]; exact hf g hg
    · split at hm
      · rw [List.mem_singleton.1 hm]; exact hr
      · simp at hm
theorem filesA_dl (l : List UInt8) (s : Int) : ∀ f ∈ filesA l s, f.l.length ≤ 400 := by
  unfold filesA; split
  · exact foldF_dl _ (recs_dl l 0) [] (by simp)
  · simp
set_option maxRecDepth 100000 in
set_option maxHeartbeats 1000000 in
theorem sListFiles_c (A : Option Addr) (ds : List (List DRule)) (c : Nat) (L : Option Addr) (l : List UInt8) (e : Nat) (s : Int) (w : World) (h : RdA w A ds c L l e) (hl : l.length ≤ 1048576) :
    Calls Try.prog 35 #[varch (.slice A ds.length c) (.slice L l.length e) s] w fun e' w' => ∃ A' c' fs, e' = .returned (.slice A' fs.length c') ∧ RdF w' A' fs c' ∧ NewA w A' ∧ fs.map Prod.fst = filesA l s ∧ Ext w w' := by
  have hL : Bs w L l e := ⟨h.l, by omega⟩
  have CV := Lib.hid (fun w h => sIsValidLog_c L l e s w h (by omega))
  have CF := Lib.hid (fun w h => sFiles35_c L l e w h hl)
  have eb := Ext_alloc (.cells #[.slice A ds.length c, .slice L l.length e, .int .i64 s] 53) (Ext.refl w)
  have B0 := fun w' (e' : Ext (w.alloc (.cells #[.slice A ds.length c, .slice L l.length e, .int .i64 s] 53)) w') => boxed e'
  unfold varch
  unfold vlog at CV
  unfold filesA
  cases hv : validLog l s
  · rw [hv] at CV
    go_enter Try.func35, Try.ntmps35
    go_wp2_with fail
    refine (CV.out _ (hL.ext eb)).mono ?_; rintro _ w1 ⟨rfl, s1⟩
    go_wp2
    go_ret
    exact ⟨_, 0, [], rfl, ⟨by simp, by simp, by simp, fun hp => by simp at hp⟩, (fun b off hA => by injection hA with hA; injection hA with hA; rw [← hA]; exact (eb.trans s1).size), rfl, Ext_alloc _ (eb.trans s1)⟩
  · rw [hv] at CV
    go_enter Try.func35, Try.ntmps35
    go_wp2_with fail
    refine (CV.out _ (hL.ext eb)).mono ?_; rintro _ w1 ⟨rfl, s1⟩
    replace B0 := fun w' (e' : Ext w1 w') => B0 w' (s1.trans e')
    go_wp2_with fail
    refine (CF.out _ (hL.ext (eb.trans s1))).mono ?_; rintro _ w2 ⟨A2, c2, fs, rfl, r2, n2, hf, s2⟩
    have HF := Lib.hid hf; clear hf
    go_wp2
    go_ret
    exact ⟨A2, c2, fs, rfl, r2, (fun b off hA => Nat.le_trans (eb.trans s1).size (n2 b off hA)), HF.out, (eb.trans s1).trans s2⟩
set_option maxRecDepth 100000 in
set_option maxHeartbeats 1000000 in
theorem iListFiles_c (A : Option Addr) (ds : List (List DRule)) (c : Nat) (L : Option Addr) (l : List UInt8) (e : Nat) (s : Int) (w : World) (h : RdA w A ds c L l e) (hl : l.length ≤ 1048576) :
    Calls Try.prog 36 #[varch (.slice A ds.length c) (.slice L l.length e) s] w fun e' w' => ∃ v fs, e' = .returned v ∧ fs.map Prod.fst = filesA l s ∧ OwnF w w' v fs ∧ Ext w w' := by
  have hL : Bs w L l e := ⟨h.l, by omega⟩
  have CV := Lib.hid (fun w h => iIsValidLog_c L l e s w h (by omega))
  have CF := Lib.hid (fun g w h hA => iFilesA_c g L l e w h hl hA)
  have eb := Ext_alloc (.cells #[.slice A ds.length c, .slice L l.length e, .int .i64 s] 53) (Ext.refl w)
  have B0 := fun w' (e' : Ext (w.alloc (.cells #[.slice A ds.length c, .slice L l.length e, .int .i64 s] 53)) w') => boxed e'
  unfold varch
  unfold vlog at CV
  unfold filesA
  cases hv : validLog l s
  · rw [hv] at CV
    go_enter Try.func36, Try.ntmps36
    go_wp2_with fail
    refine (CV.out _ (hL.ext eb)).mono ?_; rintro _ w1 ⟨rfl, s1⟩
    have ho : Hid (OwnF w (w1.alloc (.cells #[] 102)) (.slice (some ⟨w1.heap.size, 0, none⟩) 0 0) []) := ⟨Own.empty (eb.trans s1), by simp, by simp [Apart]⟩
    go_wp2
    go_ret
    first
      | exact ⟨_, rfl, ho.out, Ext_alloc _ (eb.trans s1)⟩
      | exact ⟨_, [], rfl, rfl, ho.out, Ext_alloc _ (eb.trans s1)⟩
  · rw [hv] at CV
    go_enter Try.func36, Try.ntmps36
    go_wp2_with fail
    refine (CV.out _ (hL.ext eb)).mono ?_; rintro _ w1 ⟨rfl, s1⟩
    replace B0 := fun w' (e' : Ext w1 w') => B0 w' (s1.trans e')
    go_wp2_with fail
    refine (CF.out _ _ (hL.ext (eb.trans s1)) (fun w' e' => B0 w' e' 1)).mono ?_; rintro _ w2 ⟨v2, fs, rfl, hf, ho2, s2⟩
    have HF := Lib.hid hf; clear hf
    have ho := Lib.hid (ho2.lower (eb.trans s1))
    go_wp2
    go_ret
    first
      | exact ⟨v2, rfl, fs, HF.out, ho.out, (eb.trans s1).trans s2⟩
      | exact ⟨v2, fs, rfl, HF.out, ho.out, (eb.trans s1).trans s2⟩
set_option maxHeartbeats 400000 in
theorem iTrue_c (nm : ByteArray) (ver : Int) (v : Value) (w : World) : Gives Try.prog 81 #[vfile nm ver v] w (.bool true) := by
  unfold vfile
  go_enter Try.func81, Try.ntmps81
  go_wp2
  go_ret
  exact ⟨rfl, Ext_alloc _ (Ext.refl _)⟩
set_option maxHeartbeats 400000 in
theorem iNameOf_c (nm : ByteArray) (ver : Int) (A : Option Addr) (n c : Nat) (w : World) : Gives Try.prog 82 #[vfile nm ver (.slice A n c)] w (.string nm) := by
  unfold vfile
  go_enter Try.func82, Try.ntmps82
  go_wp2
  go_ret
  exact ⟨rfl, Ext_alloc _ (Ext.refl _)⟩
def nmsF (fs : List DFile) : List ByteArray := fs.map (fun f => f.nm)
set_option maxRecDepth 100000 in
set_option maxHeartbeats 2000000 in
theorem iSelect_c (A : Option Addr) (ps : List (DFile × Value)) (c : Nat) (w : World) (h : RdF w A ps c) (hn : ps.length ≤ 1048576) :
    Calls Try.prog 80 #[.slice A ps.length c, .func (.func 81) #[] #[], .func (.func 82) #[] #[]] w fun e w' => ∃ v, e = .returned v ∧ OwnL vstr 9 w w' v (nmsF (ps.map Prod.fst)) ∧ Ext w w' := by
  have C1 := Lib.hid (fun a b v w => iTrue_c a b v w)
  have C2 := Lib.hid (fun a b A n c w => iNameOf_c a b A n c w)
  unfold vfile at C1 C2
  have HT : Hid (∀ k (hk : k < ps.length), nmsF ((ps.take (k + 1)).map Prod.fst) = nmsF ((ps.take k).map Prod.fst) ++ [ps[k].1.nm]) := fun k hk => by
    unfold nmsF; rw [List.take_succ_eq_append_getElem hk, List.map_append, List.map_append]; rfl
  have HLn : Hid (∀ k, (nmsF ((ps.take k).map Prod.fst)).length ≤ k) := fun k => by unfold nmsF; rw [List.length_map, List.length_map, List.length_take]; omega
  have HO := Lib.hid (OwnL.empty (f := vstr) (e := 9) (Ext.refl w))
  go_enter Try.func80, Try.ntmps80
  go_wp2
  go_loopw [7, 13] (fun t i wr => ∃ (k : Nat) (ys : List ByteArray), k ≤ ps.length ∧ ys.length ≤ k ∧ i = .int .i64 k ∧ Hid (ys = nmsF ((ps.take k).map Prod.fst)) ∧ Hid (OwnL vstr 9 w wr t ys) ∧ Ext w wr) (fun _ i _ => ps.length - (intOf i).toNat)
  case atStart => exact ⟨0, [], by omega, by simp, rfl, by simp [Hid, nmsF], HO, Ext_alloc _ (Ext.refl w)⟩
  case round =>
    clear HO
    obtain ⟨k, ys, hk, hyk, rfl, hys, ho, he⟩ := hrel
    by_cases hlt : k < ps.length
    · obtain ⟨b, rfl, hb, hc⟩ := h.2.2.2 (by omega)
      obtain ⟨Aq, cq, hvq, rq⟩ := h.2.2.1 ps[k] (List.getElem_mem hlt)
      have hck := fun w' (e : Ext wr w') => hc w' (he.trans e) k hlt
      rw [hvq] at hck
      have hk0 := fun w' e => (hck w' e).1; have hk1 := fun w' e => (hck w' e).2.1; have hk2 := fun w' e => (hck w' e).2.2
      have HQ : Hid (ys ++ [ps[k].1.nm] = nmsF ((ps.take (k + 1)).map Prod.fst)) := by show _ = _; rw [HT.out k hlt, hys.out]
      clear hck hc hys HT HLn
      generalize ps[k] = p at *
      obtain ⟨⟨nq, vq, lq⟩, dq⟩ := p
      dsimp only at hk0 hk1 hk2 hvq rq HQ
      subst hvq
      have HB : Hid ((ys.length + [nq].length) * 16 ≤ 140737488355328) := by show _ ≤ _; simp; omega
      have x1 := Ext_alloc (.cells #[.string nq, .int .i64 vq, .slice Aq lq.length cq] 102) (Ext.refl wr)
      have B1 := fun w' (e : Ext (wr.alloc (.cells #[.string nq, .int .i64 vq, .slice Aq lq.length cq] 102)) w') => boxed e
      go_wp2_with fail
      refine (C1.out _ _ _ _).mono ?_; rintro _ w2 ⟨rfl, s2⟩
      replace B1 := fun w' (e : Ext w2 w') => B1 w' (s2.trans e)
      have e2 := x1.trans s2
      go_wp2_with fail
      refine (C2.out _ _ _ _ _ _).mono ?_; rintro _ w3 ⟨rfl, s3⟩
      have e3 := e2.trans s3
      have ho3 := Lib.hid (OwnL.ext ho.out e3)
      have he3 := he.trans e3
      clear ho
      go_wp2_with (at_builtin; refine wpList_appN rfl (.tmp 20) (.tmp 24) _ rfl E_str (by omega) w _ vstr (fun _ => rfl) _ rfl _ _ rfl ys [nq] _ rfl ho3.out he3 rfl HB.out ?_; intro v4 w4 ho4 he4)
      have HO4 := Lib.hid ho4; clear ho4
      go_wp2
      go_roundw
      case rel => exact ⟨k + 1, ys ++ [nq], by omega, by simp; omega, by go_num, HQ, HO4, he4⟩
      case measure => simp [intOf]; omega
    · obtain rfl : k = ps.length := by omega
      have hys := hys.out
      rw [List.take_length] at hys
      have HY := Lib.hid hys; clear hys
      go_wp2
      go_ret
      exact ⟨_, rfl, by rw [← HY.out]; exact ho.out, he⟩
end Go.Proofs.Ytlaejcacembjiaa

/- FileNames of the program and of the reference. -/
namespace Go.Proofs.Ytlaejcacembjiaa
open Go.RowKit Go.Sort

set_option maxRecDepth 100000 in
set_option maxHeartbeats 1000000 in
theorem iFileNames_c (A : Option Addr) (ds : List (List DRule)) (c : Nat) (L : Option Addr) (l : List UInt8) (e : Nat) (s : Int) (w : World) (h : RdA w A ds c L l e) (hl : l.length ≤ 1048576) :
    Calls Try.prog 31 #[varch (.slice A ds.length c) (.slice L l.length e) s] w fun e' w' => ∃ v, e' = .returned v ∧ OwnL vstr 9 w w' v (nmsF (filesA l s)) ∧ Ext w w' := by
  have CF := Lib.hid (fun w h => iListFiles_c A ds c L l e s w h hl)
  have hfl := filesA_len l s
  have hfd : ∀ f ∈ filesA l s, f.l.length ≤ 400 := filesA_dl l s
  generalize filesA l s = R at *
  have HFD := Lib.hid hfd; clear hfd
  have eb := Ext_alloc (.cells #[.slice A ds.length c, .slice L l.length e, .int .i64 s] 53) (Ext.refl w)
  unfold varch at *
  go_enter Try.func31, Try.ntmps31
  go_wp2_with fail
  refine (CF.out _ (h.ext eb)).mono ?_; rintro _ w1 ⟨v1, fs, rfl, hf, ho1, s1⟩
  have hrl : fs.length = R.length := by rw [← hf, List.length_map]
  obtain ⟨A1, c1, hv1, r1⟩ := ho1.rd (by omega) (fun p hp => by have := HFD.out p.1 (by rw [← hf]; exact List.mem_map_of_mem hp); omega)
  subst hv1
  have hfs : fs.length ≤ 1048576 := by omega
  have HF := Lib.hid hf; clear hf ho1 hrl
  go_wp2_with fail
  refine (iSelect_c A1 fs c1 w1 r1 hfs).mono ?_; rintro _ w2 ⟨v2, rfl, ho2, s2⟩
  have ho := Lib.hid (OwnL.lower ho2 (eb.trans s1))
  rw [HF.out] at ho
  clear ho2
  go_wp2
  go_ret
  exact ⟨v2, rfl, ho.out, (eb.trans s1).trans s2⟩
theorem OwnL.base {α : Type} {f : α → Value} {e : TypeId} {w : World} : OwnL f e w (w.alloc (.cells #[] e)) (.slice (some ⟨w.heap.size, 0, none⟩) 0 0) [] := OwnL.empty (Ext.refl w)
set_option maxRecDepth 100000 in
set_option maxHeartbeats 2000000 in
theorem sFileNames_c (A : Option Addr) (ds : List (List DRule)) (c : Nat) (L : Option Addr) (l : List UInt8) (e : Nat) (s : Int) (w : World) (h : RdA w A ds c L l e) (hl : l.length ≤ 1048576) :
    Calls Try.prog 30 #[varch (.slice A ds.length c) (.slice L l.length e) s] w fun e' w' => ∃ v, e' = .returned v ∧ OwnL vstr 9 w w' v (nmsF (filesA l s)) ∧ Ext w w' := by
  have CF := Lib.hid (fun w h => sListFiles_c A ds c L l e s w h hl)
  have hfl := filesA_len l s
  generalize filesA l s = R at *
  have eb := Ext_alloc (.cells #[.slice A ds.length c, .slice L l.length e, .int .i64 s] 53) (Ext.refl w)
  have B0 := fun w' (e' : Ext (w.alloc (.cells #[.slice A ds.length c, .slice L l.length e, .int .i64 s] 53)) w') => boxed e'
  obtain ⟨W1, hW1⟩ : ∃ W1, W1 = w.alloc (.cells #[.slice A ds.length c, .slice L l.length e, .int .i64 s] 53) := ⟨_, rfl⟩
  have hs1 : W1.heap.size = w.heap.size + 1 := by rw [hW1]; simp
  have HW1 := Lib.hid hW1
  rw [← hW1] at eb B0
  clear hW1
  have ey := Ext_alloc (.cells #[] 9) (Ext.refl W1)
  have HO : Hid (OwnL vstr 9 W1 (W1.alloc (.cells #[] 9)) (.slice (some ⟨w.heap.size + 1, 0, none⟩) 0 0) []) := by
    have := OwnL.base (f := vstr) (e := 9) (w := W1)
    rw [hs1] at this
    exact this
  unfold varch at *
  go_enter Try.func30, Try.ntmps30
  go_wp2_with fail
  rw [← HW1.out]
  refine (CF.out _ (h.ext (eb.trans ey))).mono ?_; rintro _ w2 ⟨A2, c2, fs, rfl, r2, n2, hf, s2⟩
  have hrl : fs.length = R.length := by rw [← hf, List.length_map]
  have hfs : fs.length ≤ 1048576 := by omega
  have HF := Lib.hid hf; clear hf hrl
  have HT : Hid (∀ k (hk : k < fs.length), nmsF ((fs.take (k + 1)).map Prod.fst) = nmsF ((fs.take k).map Prod.fst) ++ [fs[k].1.nm]) := fun k hk => by
    unfold nmsF; rw [List.take_succ_eq_append_getElem hk, List.map_append, List.map_append]; rfl
  have O2 := Lib.hid (OwnL.ext HO.out s2)
  have e2 := ey.trans s2
  have hblk : Hid (∀ b, 0 < fs.length → A2 = some ⟨b, 0, none⟩ → w.heap.size + 2 ≤ b ∧ b < w2.heap.size) := fun b hp hA => by
    have h1 := n2 b 0 hA
    rw [World.size_alloc] at h1
    obtain ⟨b', h2, h3, _⟩ := r2.2.2.2 hp
    rw [hA] at h2; injection h2 with h2; injection h2 with h2
    omega
  have hnm : Hid (∀ b, A2 = some ⟨b, 0, none⟩ → ∀ i (hi : i < fs.length), w2.cell? ⟨b, i * 3, none⟩ = some (.string fs[i].1.nm)) := fun b hA i hi => by
    obtain ⟨b', h2, _, h4⟩ := r2.2.2.2 (by omega)
    rw [hA] at h2; injection h2 with h2; injection h2 with h2
    subst h2
    exact (h4 w2 (Ext.refl _) i hi).1
  have hA2 : Hid (0 < fs.length → ∃ b, A2 = some ⟨b, 0, none⟩) := fun hp => let ⟨b, h1, _⟩ := r2.2.2.2 hp; ⟨b, h1⟩
  clear HO n2 r2 CF B0 ey
  go_wp2
  go_loopw [3, 5] (fun t i wr => ∃ (k : Nat) (ys : List ByteArray), k ≤ fs.length ∧ ys.length ≤ k ∧ i = .int .i64 k ∧ Hid (ys = nmsF ((fs.take k).map Prod.fst)) ∧ Hid (OwnL vstr 9 W1 wr t ys) ∧ Ext W1 wr ∧ Hid (w2.heap.size ≤ wr.heap.size ∧ ∀ b, A2 = some ⟨b, 0, none⟩ → 0 < fs.length → t.ownBlock ≠ some b ∧ ∀ i (hi : i < fs.length), wr.cell? ⟨b, i * 3, none⟩ = some (.string fs[i].1.nm))) (fun _ i _ => fs.length - (intOf i).toNat)
  case atStart =>
    refine ⟨0, [], by omega, by simp, rfl, by simp [Hid, nmsF], O2, e2, ⟨Nat.le_refl _, fun b hA hp => ⟨fun hh => ?_, hnm.out b hA⟩⟩⟩
    have h1 : some (w.heap.size + 1) = some b := hh
    injection h1 with h1
    have := (hblk.out b hp hA).1
    omega
  case round =>
    clear O2 hnm
    obtain ⟨k, ys, hk, hyk, rfl, hys, ho, he, hx⟩ := hrel
    by_cases hlt : k < fs.length
    · obtain ⟨b, hb⟩ := hA2.out (by omega)
      have hbl := (hblk.out b (by omega) hb).2
      subst hb
      have hx2 := hx.out.2 b rfl (by omega)
      have hck := hx2.2 k hlt
      have HQ : Hid (ys ++ [fs[k].1.nm] = nmsF ((fs.take (k + 1)).map Prod.fst)) := by show _ = _; rw [HT.out k hlt, hys.out]
      clear hys HT
      obtain ⟨nq, hnq⟩ : ∃ nq, fs[k].1.nm = nq := ⟨_, rfl⟩
      rw [hnq] at hck HQ
      have HB : Hid ((ys.length + [nq].length) * 16 ≤ 140737488355328) := by show _ ≤ _; simp; omega
      have HX := Lib.hid hx2
      clear hnq hx2
      go_wp2_with (at_builtin; refine wpList_appNB rfl (.tmp 15) (.tmp 21) _ rfl E_str (by omega) W1 _ vstr (fun _ => rfl) _ rfl _ _ _ rfl (by simp) ys [nq] _ rfl ho.out he rfl HB.out ?_; intro v4 w4 ho4 he4 hb4 hg4)
      have HO4 := Lib.hid ho4
      have hx4 : Hid (w2.heap.size ≤ w4.heap.size ∧ ∀ b', (some (⟨b, 0, none⟩ : Addr)) = some ⟨b', 0, none⟩ → 0 < fs.length → v4.ownBlock ≠ some b' ∧ ∀ i (hi : i < fs.length), w4.cell? ⟨b', i * 3, none⟩ = some (.string fs[i].1.nm)) := by
        have hwr := hx.out.1
        refine ⟨by have := hg4.size; rw [World.size_alloc] at this; omega, fun b' hA _ => ?_⟩
        injection hA with hA; injection hA with hA; subst hA
        refine ⟨fun hh => ?_, fun i hi => ?_⟩
        · rcases hb4 with hb4 | hb4
          · exact HX.out.1 (hb4.symm.trans hh)
          · rw [hb4, World.size_alloc] at hh; injection hh with hh; omega
        · have h1 := HX.out.2 i hi
          refine hg4.cell (a := ⟨b, i * 3, none⟩) ((Ext_alloc _ (Ext.refl _)).cell (p := ⟨b, i * 3, none⟩) (by show b < _; omega) |>.trans h1) ?_
          exact fun hh => HX.out.1 hh.symm
      clear ho4 hb4 hg4 hx HX
      go_wp2
      go_roundw
      case rel => exact ⟨k + 1, ys ++ [nq], by omega, by simp; omega, by go_num, HQ, HO4, he4, hx4⟩
      case measure => simp [intOf]; omega
    · obtain rfl : k = fs.length := by omega
      have hys := hys.out
      rw [List.take_length, HF.out] at hys
      have HY := Lib.hid hys; clear hys
      have hof := Lib.hid (OwnL.lower ho.out eb)
      go_wp2
      go_ret
      exact ⟨_, rfl, by rw [← HY.out]; exact hof.out, eb.trans he⟩
end Go.Proofs.Ytlaejcacembjiaa
