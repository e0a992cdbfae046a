/- IsValidLog of the program: the scan that panics, and the deferred closure that recovers. -/
import Derived.Test.YtlaejcacembjiaaZAr4
import Derived.Defers
import Derived.Recover
import Derived.Laws.Pointers
import Derived.Deep.RegionHeld3
namespace Go.Proofs.Ytlaejcacembjiaa
open Go.RowKit Go.Sort

/-- how the scan of a log ends -/
def mustEnd : Bool → Ending
  | true => .returned (.tuple #[])
  | false => .panicked [{ v := .iface 140 (.agg #[]), recovered := false }]
set_option maxRecDepth 100000 in
set_option maxHeartbeats 4000000 in
theorem iMustBeLog_c (A : Option Addr) (l : List UInt8) (c : Nat) (s : Int) (w : World) (h : Bs w A l c) (hL : l.length ≤ 1099511627776) :
    Calls Try.prog 128 #[vlog (.slice A l.length c) s] w fun e w' => e = mustEnd (validLog l s) ∧ Ext w w' := by
  have hl := h.len
  have eb := Ext_alloc (.cells #[.slice A l.length c, .int .i64 s] 51) (Ext.refl w)
  have B := fun w' (e : Ext (w.alloc (.cells #[.slice A l.length c, .int .i64 s] 51)) w') => boxed e
  have H := Lib.hid h; clear h
  by_cases hs : s < 0 ∨ (l.length : Int) < s
  · have HI : Hid ((decide (0 ≤ s) && decide (s ≤ (l.length : Int))) = false) := by
      show _ = _; rw [Bool.and_eq_false_iff]; simp; omega
    have HV : Hid (validLog l s = false) := validLog_out hs
    rw [HV.out]
    clear hs
    unfold vlog
    go_enter Try.func128, Try.ntmps128
    go_wp2_with (go_at_call 109; refine (iInRange_c _ _ _ _).mono ?_; rintro _ w1 ⟨rfl, he1⟩; rw [HI.out])
    exact ⟨rfl, rfl, eb.trans he1⟩
  · obtain ⟨n, rfl⟩ := Int.eq_ofNat_of_zero_le (show 0 ≤ s by omega)
    have hn : n ≤ l.length := by omega
    clear hs
    have HI : Hid ((decide ((0 : Int) ≤ (n : Int)) && decide ((n : Int) ≤ (l.length : Int))) = true) := by
      show _ = _; simp; omega
    have HV : Hid (validLog l (n : Int) = ((stop l 0 == l.length) && endsAt l n)) := validLog_eq hn
    have H0 : Hid (((n : Int) == 0) = (n == 0)) := by show _ = _; rw [Bool.eq_iff_iff]; simp
    unfold vlog
    go_enter Try.func128, Try.ntmps128
    go_wp2_with (go_at_call 109; refine (iInRange_c _ _ _ _).mono ?_; rintro _ w1 ⟨rfl, he1⟩; rw [HI.out])
    go_loopw [2, 3] (fun e i wr => ∃ (a : Nat) (b : Bool), a ≤ l.length ∧ i = .int .i64 a ∧ e = .bool b ∧ Hid (Scan l n a b) ∧ Hid (stop l a = stop l 0) ∧ Ext (w.alloc (.cells #[.slice A l.length c, .int .i64 (n : Int)] 51)) wr) (fun _ i _ => l.length - (intOf i).toNat)
    case atStart => exact ⟨0, _, by omega, rfl, rfl, by have := Scan.start l n; rw [← H0.out] at this; exact this, rfl, he1⟩
    case round =>
      clear he1
      obtain ⟨a, b, ha, rfl, rfl, hsc, hst, he⟩ := hrel
      have hwf : (Lit.int .i64 (a : Int)).wf = true := WalkArith.wf_i64 (by omega)
      have CD := Lib.hid (fun w h => iDecodeRecord_c A l c a w h hwf)
      unfold DecOut at CD
      by_cases hlt : a < l.length
      · cases hd : decN l a with
        | none =>
          obtain ⟨q1, q2⟩ := dec_no hd
          rw [q1, q2] at CD
          have HE : Hid (validLog l (n : Int) = false) := by
            show _ = _; rw [HV.out, ← hst.out, (read_none hd).2]
            have : (a == l.length) = false := by simp; omega
            rw [this]; rfl
          clear q1 q2 hd hst hsc
          unfold vrec DRec.zero at CD
          go_wp2_with (go_at_call 157; refine (CD.out _ (H.out.ext (eb.trans he))).mono ?_; rintro _ w2 ⟨v2, rfl, ho2, he2⟩; obtain ⟨A2, c2, hv2, _⟩ := OwnL.rd ho2 (by simp); subst hv2)
          exact ⟨rfl, by rw [HE.out]; rfl, Ext_alloc _ ((eb.trans he).trans he2)⟩
        | some r =>
          obtain ⟨q1, q2⟩ := dec_yes hd
          have hf := decN_fits hd
          have hrl : r.l.length ≤ 400 := by have := validRec_facts (decN_some hd).2.1; omega
          rw [q1, q2] at CD
          have hsc2 := Scan.step hn hd hsc.out
          have hst2 : stop l (a + sizeAt l a) = stop l 0 := (read_some hd).2.symm.trans hst.out
          obtain ⟨a', ha'⟩ : ∃ a', a + sizeAt l a = a' := ⟨_, rfl⟩
          rw [ha'] at hsc2 hst2
          rw [show a + nmAt l a + 6 + szAt l a = a' by rw [← ha']; unfold sizeAt; omega] at CD
          have ha2 : a' ≤ l.length := by omega
          have ha3 : a < a' := by omega
          obtain ⟨k, nm, ver, d⟩ := r
          dsimp only [Option.getD_some] at CD hrl
          have H1 : Hid (((a' : Int) == (n : Int)) = (a' == n)) := by show _ = _; rw [Bool.eq_iff_iff]; simp; omega
          have HS := Lib.hid hsc2; have HT := Lib.hid hst2
          clear q1 q2 hd hst hsc hsc2 hst2 ha' hf
          unfold vrec at CD
          cases b
          all_goals
            go_wp2_with (go_at_call 157; refine (CD.out _ (H.out.ext (eb.trans he))).mono ?_; rintro _ w2 ⟨v2, rfl, ho2, he2⟩; obtain ⟨A2, c2, hv2, _⟩ := OwnL.rd ho2 (by omega); subst hv2; have he12 := he.trans he2)
            go_roundw
            case rel => exact ⟨a', _, by omega, by go_num, rfl, by first | exact HS | (rw [H1.out]; exact HS), HT, Ext_alloc _ he12⟩
            case measure => simp [intOf]; omega
      · obtain rfl : a = l.length := by omega
        have HE : Hid (validLog l (n : Int) = b) := by
          show _ = _
          rw [HV.out, ← hst.out, (read_none (decN_out (by omega))).2, Scan.done hn hsc.out]
          simp
        clear hst hsc
        cases b
        · go_wp2
          exact ⟨rfl, by rw [HE.out]; rfl, eb.trans he⟩
        · go_wp2
          go_end0
          exact ⟨by rw [HE.out]; rfl, eb.trans he⟩

section
variable {P : Program}
theorem run_ta_hit (w : World) (t xT : TypeId) (fs : Array Field) (v : Value) (h : P.underlying t = some (.struct fs)) : (Instr.typeAssert (.iface t v) xT t true).run P w = .ok (.tuple #[v, .bool true]) w := by
  simp [Instr.typeAssert, run_underlying h, go_sem, Result.andThen]
theorem run_ta_nil (w : World) (t xT : TypeId) (fs : Array Field) (z : Value) (h : P.underlying t = some (.struct fs)) (hz : (P.info? t).map (·.zero) = some (some z)) : (Instr.typeAssert .nilIface xT t true).run P w = .ok (.tuple #[z, .bool false]) w := by
  obtain ⟨j, hj, hz'⟩ := Option.map_eq_some_iff.1 hz
  simp [Instr.typeAssert, run_underlying h, zeroValue, typeInfo, hj, hz']
end
set_option maxRecDepth 100000 in
theorem catch_panicking (p : Addr) (x : Bool) (older : List PanicEntry) (w : World) (hc : w.cell? p = some (.bool x)) (hz : w.frozen? p = false) :
    CallsD Try.prog 127 #[.pointer (some p)] (.panicking ({ v := .iface 140 (.agg #[]), recovered := false } :: older)) w fun e u' w' =>
      e = .returned (.tuple #[]) ∧ u' = .panicking ({ v := .iface 140 (.agg #[]), recovered := true } :: older) ∧ ∃ o, w' = (w.alloc o).setCell p (.bool false) := by
  have hta := fun w => run_ta_hit (P := Try.prog) w 140 20 _ (.agg #[]) Try.underlying140
  refine callsD_of_wpS Try.func127 rfl fun c₀ cs hu => ?_
  apply wpS_seq
  apply wpS_region
  simp [wpOpsS, go_sem, recoverD, hu, Try.ntmps127, Exit.thenS, hta]
  apply wpS_seq
  apply wpS_region
  simp [wpOpsS, go_sem, Exit.thenS]
  refine wpS_cond (t := true) (by simp [Act.eval, Array.replicate]) ?_
  simp only [if_true]
  apply wpS_region
  have hlt := block_lt_of_cell hc
  have hne : ¬ p.block = w.heap.size := by omega
  have hc2 : (w.alloc (.cells #[] 140)).cell? p = some (.bool x) := (Ext_alloc _ (Ext.refl w)).cell hlt |>.trans hc
  have hz2 : (w.alloc (.cells #[] 140)).frozen? p = false := ((Ext_alloc _ (Ext.refl w)).frozen hlt).trans hz
  simp [wpOpsS, go_sem, hc2, hz2, bodyPostS, results, Try.results127]
  exact ⟨_, rfl⟩
set_option maxRecDepth 100000 in
theorem catch_idle (p : Addr) (w : World) :
    CallsD Try.prog 127 #[.pointer (some p)] .returning w fun e u' w' => e = .returned (.tuple #[]) ∧ u' = .returning ∧ ∃ o, w' = w.alloc o := by
  have hta := fun w => run_ta_nil (P := Try.prog) w 140 20 _ (.agg #[]) Try.underlying140 (by kernel_rfl)
  refine callsD_of_wpS Try.func127 rfl fun c₀ cs hu => ?_
  apply wpS_seq
  apply wpS_region
  simp [wpOpsS, go_sem, recoverD, hu, Try.ntmps127, Exit.thenS, hta]
  apply wpS_seq
  apply wpS_region
  simp [wpOpsS, go_sem, Exit.thenS]
  refine wpS_cond (t := false) (by simp [Act.eval, Array.replicate]) ?_
  simp only [Bool.false_eq_true, if_false]
  refine wpS_of_wp (wp_skip ?_)
  cases c₀
  simp_all [bodyPostS, results, Try.results127]
  exact ⟨_, rfl⟩

set_option maxRecDepth 100000 in
set_option maxHeartbeats 1000000 in
theorem iIsValidLog_c (A : Option Addr) (l : List UInt8) (c : Nat) (s : Int) (w : World) (h : Bs w A l c) (hL : l.length ≤ 1099511627776) :
    Gives Try.prog 86 #[vlog (.slice A l.length c) s] w (.bool (validLog l s)) := by
  have hmf : ∀ (fn : Fn) (first cap : Array Value) (w : World), (Instr.makeFunc fn first cap).run Try.prog w = .ok (.func fn first cap) w := fun _ _ _ _ => rfl
  have eb := Ext_alloc (.cells #[.bool false] 4) (Ext_alloc (.cells #[.slice A l.length c, .int .i64 s] 51) (Ext.refl w))
  have BX := fun w' (e : Ext ((w.alloc (.cells #[.slice A l.length c, .int .i64 s] 51)).alloc (.cells #[.bool false] 4)) w') => boxed2 e
  have B1 := fun w' e => (BX w' e).2.1 0
  have F1 := fun w' e => (BX w' e).2.2.2.1 0
  have C := Lib.hid (fun w h => iMustBeLog_c A l c s w h hL)
  clear BX
  cases hv : validLog l s
  · rw [hv] at C
    unfold vlog mustEnd at C
    unfold vlog
    go_enter_defers Try.func86, Try.ntmps86
    go_wp2_with (go_at_call 128; refine (C.out _ (h.ext eb)).mono ?_; rintro _ w1 ⟨rfl, he1⟩)
    refine leaves_cons (f := 127) (args := #[.pointer (some ⟨w.heap.size + 1, 0, none⟩)]) (by simp) (by simp [go_sem]) ?_
    refine (catch_panicking ⟨w.heap.size + 1, 0, none⟩ false [] _ (B1 _ he1) (F1 _ he1)).mono ?_
    rintro e u' w'' ⟨rfl, rfl, o, rfl⟩
    have hs : w.heap.size + 1 < w1.heap.size := by have := he1.size; simp at this; omega
    have hc : (w1.alloc o).cell? ⟨w.heap.size + 1, 0, none⟩ = some (.bool false) := B1 _ (he1.trans (Ext_alloc _ (Ext.refl _)))
    have hs0 : ((w1.alloc o).setCell ⟨w.heap.size + 1, 0, none⟩ (.bool false)).cell? ⟨w.heap.size + 1, 0, none⟩ = some (.bool false) := World.cell?_setCell_same _ _ _ hc
    have hfin : Ext w ((w1.alloc o).setCell ⟨w.heap.size + 1, 0, none⟩ (.bool false)) := (Ext_alloc _ (eb.trans he1)).setCell (by simp) _
    simp [Leaves, settle, results, Try.results86, go_sem, hs0]
    exact hfin
  · rw [hv] at C
    unfold vlog mustEnd at C
    unfold vlog
    go_enter_defers Try.func86, Try.ntmps86
    go_wp2_with (go_at_call 128; refine (C.out _ (h.ext eb)).mono ?_; rintro _ w1 ⟨rfl, he1⟩)
    have hc1 : (w1.setCell ⟨w.heap.size + 1, 0, none⟩ (.bool true)).cell? ⟨w.heap.size + 1, 0, none⟩ = some (.bool true) := World.cell?_setCell_same _ _ _ (B1 _ he1)
    have e2 : Ext w (w1.setCell ⟨w.heap.size + 1, 0, none⟩ (.bool true)) := (eb.trans he1).setCell (by simp) _
    have hs : w.heap.size + 1 < (w1.setCell ⟨w.heap.size + 1, 0, none⟩ (.bool true)).heap.size := block_lt_of_cell hc1
    generalize w1.setCell ⟨w.heap.size + 1, 0, none⟩ (.bool true) = w2 at *
    refine leaves_cons (f := 127) (args := #[.pointer (some ⟨w.heap.size + 1, 0, none⟩)]) (by simp) (by simp [go_sem]) ?_
    refine (catch_idle ⟨w.heap.size + 1, 0, none⟩ _).mono ?_
    rintro e u' w'' ⟨rfl, rfl, o, rfl⟩
    have hs0 : (w2.alloc o).cell? ⟨w.heap.size + 1, 0, none⟩ = some (.bool true) := ((Ext_alloc o (Ext.refl w2)).cell hs).trans hc1
    have hfin : Ext w (w2.alloc o) := Ext_alloc _ e2
    simp [Leaves, settle, results, Try.results86, go_sem, hs0]
    exact hfin
end Go.Proofs.Ytlaejcacembjiaa

/- StoreLog, CrashLog and AppendRecord of the program and of the reference. -/
namespace Go.Proofs.Ytlaejcacembjiaa
open Go.RowKit Go.Sort

theorem grown_setCell (w : World) (a : Addr) (u : Value) : w.grownBy (w.setCell a u) (some a.block) :=
  ⟨rfl, rfl, rfl, by simp, fun k _ hk => heap_setCell_other w a k u (fun e => hk (by rw [e]))⟩
/-- a row of the call's own stays where another block is written -/
theorem OwnL.set {α : Type} {f : α → Value} {e : TypeId} {w0 w : World} {v : Value} {l : List α} (h : OwnL f e w0 w v l) (p : Addr) (u : Value) (hne : v.ownBlock ≠ some p.block) : OwnL f e w0 (w.setCell p u) v l := by
  refine World.ownsRow.kept h (grown_setCell w p u) ?_
  cases hb : v.ownBlock with
  | none => exact .inl rfl
  | some g => right; rw [hb] at hne; exact fun he => hne he
theorem OwnL.lt_ne {α : Type} {f : α → Value} {e : TypeId} {w0 w : World} {v : Value} {l : List α} (h : OwnL f e w0 w v l) {b : Nat} (hb : b < w0.heap.size ∨ w.heap.size ≤ b) : v.ownBlock ≠ some b := by
  intro hv
  have h1 := World.ownsRow.lt h b hv
  omega
theorem OwnL.take {α : Type} {f : α → Value} {e : TypeId} {w0 w : World} {A : Option Addr} {n c : Nat} {l : List α} (h : OwnL f e w0 w (.slice A l.length c) l) (hn : n ≤ l.length) : OwnL f e w0 w (.slice A n c) (l.take n) := by
  have hl : (l.take n).length = n := by simp; omega
  unfold OwnL
  rw [hl]
  refine ⟨by simpa using hl, ?_⟩
  rcases h.2 with ⟨hv, h0⟩ | ⟨g, cap, cur, hv, hb, hg, hnc, hcm, hcs, htake⟩
  · injection hv with h1 _ h3
    subst h1; subst h3
    exact .inl ⟨by rw [show n = 0 by omega], by omega⟩
  · injection hv with h1 _ h3
    subst h1; subst h3
    refine .inr ⟨g, c, cur, rfl, hb, hg, by omega, hcm, hcs, ?_⟩
    have : (cur.toList.take (l.length * 1)).take n = (l.map f).take n := by rw [htake]
    rw [List.take_take, Nat.min_eq_left (by omega)] at this
    rw [Nat.mul_one, this, List.map_take]
/-- what is stored behind StoreLog -/
def storeAt (l : List UInt8) (s : Int) : Int := if validLog l s then l.length else s
set_option maxRecDepth 100000 in
set_option maxHeartbeats 2000000 in
theorem iStoreLog_c (A : Option Addr) (l : List UInt8) (c : Nat) (s : Int) (w : World) (h : Bs w A l c) (hL : l.length ≤ 1099511627776) :
    Calls Try.prog 74 #[vlog (.slice A l.length c) s] w fun e w' => ∃ v, e = .returned (vlog v (storeAt l s)) ∧ OwnL vu8 5 w w' v l ∧ Ext w w' := by
  have hl := h.len
  have eb := Ext_alloc (.cells #[.slice none 0 0, .int .i64 0] 51) (Ext_alloc (.cells #[.slice A l.length c, .int .i64 s] 51) (Ext.refl w))
  have BX := fun w' (e : Ext ((w.alloc (.cells #[.slice A l.length c, .int .i64 s] 51)).alloc (.cells #[.slice none 0 0, .int .i64 0] 51)) w') => boxed2 e
  have B0 := fun w' e => (BX w' e).1
  have B1 := fun w' e => (BX w' e).2.1
  have F1 := fun w' e => (BX w' e).2.2.2.1
  clear BX
  have C1 := Lib.hid (fun w h => iCopyLog_c A l c s w h)
  have C2 := Lib.hid (fun w h => iIsValidLog_c A l c s w h hL)
  unfold storeAt
  unfold vlog at *
  cases hv : validLog l s
  all_goals
    rw [hv] at C2
    go_enter Try.func74, Try.ntmps74
    go_wp2_with fail
    refine (C1.out _ (h.ext eb)).mono ?_; rintro _ w1 ⟨v1, rfl, ho1, he1⟩; obtain ⟨A1, c1, hv1, r1⟩ := OwnL.rd ho1 hl; subst hv1
    have ex := Ext_alloc (.cells #[.slice A1 l.length c1, .int .i64 s] 51) (Ext.refl w1)
    have B2 := fun w' (e : Ext (w1.alloc (.cells #[.slice A1 l.length c1, .int .i64 s] 51)) w') => boxed e
    have F2 := fun w' (e : Ext (w1.alloc (.cells #[.slice A1 l.length c1, .int .i64 s] 51)) w') => boxed_free e
    have e1x := he1.trans ex
    go_wp2_with fail
    refine (C2.out _ (h.ext (eb.trans e1x))).mono ?_; rintro _ w2 ⟨rfl, he2⟩
    have e12 := e1x.trans he2
    have hs1 : w.heap.size + 1 < w1.heap.size := by have := he1.size; simp at this; omega
    have hs2 : w1.heap.size < w2.heap.size := by have := he2.size; simp at this; omega
    have o2 := (OwnL.ext ho1 ex).ext he2
    have HN : Hid ((Value.slice A1 l.length c1).ownBlock ≠ some w1.heap.size) := OwnL.lt_ne ho1 (.inr (Nat.le_refl _))
    have hB0 := B0 _ e12; have hB1 := B1 _ e12; have hF1 := F1 _ e12; have hB2 := B2 _ he2; have hF2 := F2 _ he2
    have hz0 := hB1 0; have hz1 := hB1 1; have hy0 := hB2 0; have hy1 := hB2 1
    simp at hz0 hz1 hy0 hy1
    go_wp2
    first
      | (obtain ⟨s0, s1⟩ := stored2 hB1
         refine bodyPost_ret (v := .agg #[.slice A1 l.length c1, .int .i64 s]) (by simp [results, Try.results74, go_sem, s0, s1]) rfl ⟨_, rfl, ?_, ?_⟩
         · exact OwnL.lower (ownsRow_setCell_below (ownsRow_setCell_below o2 (by simp) _) (by simp) _) eb
         · exact ((eb.trans e12).setCell (by simp) _).setCell (by simp) _)
      | (have hB1' : ∀ u i, (w2.setCell ⟨w1.heap.size, 1, none⟩ u).cell? ⟨w.heap.size + 1, i, none⟩ = #[Value.slice none 0 0, Value.int .i64 0][i]? := by
           intro u i
           have hoth : (w2.setCell ⟨w1.heap.size, 1, none⟩ u).cell? ⟨w.heap.size + 1, i, none⟩ = w2.cell? ⟨w.heap.size + 1, i, none⟩ := by
             apply World.cell?_setCell_other
             intro hh; injection hh with hh; omega
           exact hoth.trans (hB1 i)
         obtain ⟨s0, s1⟩ := stored2 (hB1' (.int .i64 l.length))
         refine bodyPost_ret (v := .agg #[.slice A1 l.length c1, .int .i64 l.length]) (by simp [results, Try.results74, go_sem, s0, s1]) rfl ⟨_, rfl, ?_, ?_⟩
         · exact OwnL.lower (ownsRow_setCell_below (ownsRow_setCell_below (OwnL.set o2 _ _ HN.out) (by simp) _) (by simp) _) eb
         · exact (((eb.trans e12).setCell (by simp; omega) _).setCell (by simp) _).setCell (by simp) _)

set_option maxRecDepth 100000 in
set_option maxHeartbeats 2000000 in
theorem sStoreLog_c (A : Option Addr) (l : List UInt8) (c : Nat) (s : Int) (w : World) (h : Bs w A l c) (hL : l.length ≤ 1099511627776) :
    Calls Try.prog 71 #[vlog (.slice A l.length c) s] w fun e w' => ∃ v, e = .returned (vlog v (storeAt l s)) ∧ OwnL vu8 5 w w' v l ∧ Ext w w' := by
  have hl := h.len
  have eb := Ext_alloc (.cells #[.slice none 0 0, .int .i64 0] 51) (Ext_alloc (.cells #[.slice A l.length c, .int .i64 s] 51) (Ext.refl w))
  have BX := fun w' (e : Ext ((w.alloc (.cells #[.slice A l.length c, .int .i64 s] 51)).alloc (.cells #[.slice none 0 0, .int .i64 0] 51)) w') => boxed2 e
  have B0 := fun w' e => (BX w' e).1
  have B1 := fun w' e => (BX w' e).2.1
  have F1 := fun w' e => (BX w' e).2.2.2.1
  clear BX
  have C1 := Lib.hid (fun w h => sCopyLog_c A l c s w h)
  have C2 := Lib.hid (fun w h => sIsValidLog_c A l c s w h hL)
  unfold storeAt
  unfold vlog at *
  cases hv : validLog l s
  all_goals
    rw [hv] at C2
    go_enter Try.func71, Try.ntmps71
    go_wp2_with fail
    refine (C1.out _ (h.ext eb)).mono ?_; rintro _ w1 ⟨v1, rfl, ho1, he1⟩; obtain ⟨A1, c1, hv1, r1⟩ := OwnL.rd ho1 hl; subst hv1
    have ex := Ext_alloc (.cells #[.slice A1 l.length c1, .int .i64 s] 51) (Ext.refl w1)
    have B2 := fun w' (e : Ext (w1.alloc (.cells #[.slice A1 l.length c1, .int .i64 s] 51)) w') => boxed e
    have F2 := fun w' (e : Ext (w1.alloc (.cells #[.slice A1 l.length c1, .int .i64 s] 51)) w') => boxed_free e
    have e1x := he1.trans ex
    go_wp2_with fail
    refine (C2.out _ (h.ext (eb.trans e1x))).mono ?_; rintro _ w2 ⟨rfl, he2⟩
    have e12 := e1x.trans he2
    have hs1 : w.heap.size + 1 < w1.heap.size := by have := he1.size; simp at this; omega
    have hs2 : w1.heap.size < w2.heap.size := by have := he2.size; simp at this; omega
    have o2 := (OwnL.ext ho1 ex).ext he2
    have HN : Hid ((Value.slice A1 l.length c1).ownBlock ≠ some w1.heap.size) := OwnL.lt_ne ho1 (.inr (Nat.le_refl _))
    have hB0 := B0 _ e12; have hB1 := B1 _ e12; have hF1 := F1 _ e12; have hB2 := B2 _ he2; have hF2 := F2 _ he2
    have hz0 := hB1 0; have hz1 := hB1 1; have hy0 := hB2 0; have hy1 := hB2 1
    simp at hz0 hz1 hy0 hy1
    go_wp2
    first
      | (obtain ⟨s0, s1⟩ := stored2 hB1
         refine bodyPost_ret (v := .agg #[.slice A1 l.length c1, .int .i64 s]) (by simp [results, Try.results71, go_sem, s0, s1]) rfl ⟨_, rfl, ?_, ?_⟩
         · exact OwnL.lower (ownsRow_setCell_below (ownsRow_setCell_below o2 (by simp) _) (by simp) _) eb
         · exact ((eb.trans e12).setCell (by simp) _).setCell (by simp) _)
      | (have hB1' : ∀ u i, (w2.setCell ⟨w1.heap.size, 1, none⟩ u).cell? ⟨w.heap.size + 1, i, none⟩ = #[Value.slice none 0 0, Value.int .i64 0][i]? := by
           intro u i
           have hoth : (w2.setCell ⟨w1.heap.size, 1, none⟩ u).cell? ⟨w.heap.size + 1, i, none⟩ = w2.cell? ⟨w.heap.size + 1, i, none⟩ := by
             apply World.cell?_setCell_other
             intro hh; injection hh with hh; omega
           exact hoth.trans (hB1 i)
         obtain ⟨s0, s1⟩ := stored2 (hB1' (.int .i64 l.length))
         refine bodyPost_ret (v := .agg #[.slice A1 l.length c1, .int .i64 l.length]) (by simp [results, Try.results71, go_sem, s0, s1]) rfl ⟨_, rfl, ?_, ?_⟩
         · exact OwnL.lower (ownsRow_setCell_below (ownsRow_setCell_below (OwnL.set o2 _ _ HN.out) (by simp) _) (by simp) _) eb
         · exact (((eb.trans e12).setCell (by simp; omega) _).setCell (by simp) _).setCell (by simp) _)

/-- where a crashed log is cut, what is stored of it -/
def keptOf (l : List UInt8) (s k : Int) : Nat := (min (max k s) (l.length : Int)).toNat
def crashEnd (l : List UInt8) (s k : Int) : Nat := if validLog l s then stop (l.take (keptOf l s k)) 0 else l.length
def crashAt (l : List UInt8) (s k : Int) : Int := if validLog l s then stop (l.take (keptOf l s k)) 0 else s
theorem keptOf_facts {l : List UInt8} {s k : Int} (h : validLog l s = true) : keptOf l s k ≤ l.length ∧ (if (l.length : Int) < (if k < s then s else k) then (l.length : Int) else (if k < s then s else k)) = (keptOf l s k : Int) ∧
    (if s < (if (l.length : Int) < k then (l.length : Int) else k) then (if (l.length : Int) < k then (l.length : Int) else k) else s) = (keptOf l s k : Int) := by
  have hf := validLog_facts h
  unfold keptOf
  refine ⟨by omega, ?_, ?_⟩
  · split <;> split <;> omega
  · split <;> split <;> omega
theorem crashEnd_le {l : List UInt8} {s k : Int} (h : validLog l s = true) : stop (l.take (keptOf l s k)) 0 ≤ l.length := by
  have h1 := (stop_le (b := l.take (keptOf l s k)) (a := 0) (by omega)).1
  rw [List.length_take] at h1; omega


set_option maxRecDepth 100000 in
set_option maxHeartbeats 4000000 in
theorem iCrashLog_c (A : Option Addr) (l : List UInt8) (c : Nat) (s k : Int) (w : World) (hA : Bs w A l c) (hL : l.length ≤ 1099511627776) :
    Calls Try.prog 79 #[vlog (.slice A l.length c) s, .int .i64 k] w fun e w' => ∃ v, e = .returned (vlog v (crashAt l s k)) ∧ OwnL vu8 5 w w' v (l.take (crashEnd l s k)) ∧ Ext w w' := by
  have hl := hA.len
  have hcap := hA.cap
  have eb := Ext_alloc (.cells #[.slice none 0 0, .int .i64 0] 51) (Ext_alloc (.cells #[.slice A l.length c, .int .i64 s] 51) (Ext.refl w))
  have BX := fun w' (e : Ext ((w.alloc (.cells #[.slice A l.length c, .int .i64 s] 51)).alloc (.cells #[.slice none 0 0, .int .i64 0] 51)) w') => boxed2 e
  have B0 := fun w' e => (BX w' e).1
  have B1 := fun w' e => (BX w' e).2.1
  have F1 := fun w' e => (BX w' e).2.2.2.1
  clear BX
  have C1 := Lib.hid (fun w h => iCopyLog_c A l c s w h)
  have C2 := Lib.hid (fun w h => iIsValidLog_c A l c s w h hL)
  unfold vlog at *
  cases hv : validLog l s
  · have HV : Hid (crashAt l s k = s ∧ l.take (crashEnd l s k) = l) := by
      show _ ∧ _; unfold crashAt crashEnd; rw [hv]; simp
    rw [hv] at C2
    rw [HV.out.1, HV.out.2]
    go_enter Try.func79, Try.ntmps79
    go_wp2_with fail
    refine (C1.out _ (hA.ext eb)).mono ?_; rintro _ w1 ⟨v1, rfl, ho1, he1⟩; obtain ⟨A1, c1, hv1, r1⟩ := OwnL.rd ho1 hl; subst hv1
    have ex := Ext_alloc (.cells #[.slice A1 l.length c1, .int .i64 s] 51) (Ext.refl w1)
    have B2 := fun w' (e : Ext (w1.alloc (.cells #[.slice A1 l.length c1, .int .i64 s] 51)) w') => boxed e
    have e1x := he1.trans ex
    go_wp2_with fail
    refine (C2.out _ (hA.ext (eb.trans e1x))).mono ?_; rintro _ w2 ⟨rfl, he2⟩
    have e12 := e1x.trans he2
    have o2 := (OwnL.ext ho1 ex).ext he2
    have hB1 := B1 _ e12
    go_wp2
    obtain ⟨s0, s1⟩ := stored2 hB1
    refine bodyPost_ret (v := .agg #[.slice A1 l.length c1, .int .i64 s]) (by simp [results, Try.results79, go_sem, s0, s1]) rfl ⟨_, rfl, ?_, ?_⟩
    · exact OwnL.lower (ownsRow_setCell_below (ownsRow_setCell_below o2 (by simp) _) (by simp) _) eb
    · exact ((eb.trans e12).setCell (by simp) _).setCell (by simp) _
  · obtain ⟨m, hm⟩ : ∃ m, keptOf l s k = m := ⟨_, rfl⟩
    obtain ⟨k1, k2, _⟩ := keptOf_facts (k := k) hv
    have k3 := crashEnd_le (k := k) hv
    rw [hm] at k1 k2 k3
    obtain ⟨E, hE⟩ : ∃ E, stop (l.take m) 0 = E := ⟨_, rfl⟩
    rw [hE] at k3
    have HV : Hid (crashAt l s k = E ∧ crashEnd l s k = E) := by
      show _ ∧ _; unfold crashAt crashEnd; rw [hv, hm, hE]; simp
    have CM1 := Lib.hid (fun w => iMax_c k s w)
    obtain ⟨M, hM⟩ : ∃ M, (if k < s then s else k) = M := ⟨_, rfl⟩
    rw [hM] at CM1 k2
    have CM2 := Lib.hid (fun w => iMin_c M (l.length : Int) w)
    rw [k2] at CM2
    clear k2 hM
    have C3 : Hid (∀ A' c' w', Bs w' A' (l.take m) c' → Calls Try.prog 125 #[.slice A' m c'] w' fun e w'' => ∃ v ps, e = .returned (.tuple #[v, .int .i64 (E : Nat)]) ∧ ps.map Prod.fst = recs (l.take m) 0 ∧ OwnR w' w'' v ps ∧ Ext w' w'') := by
      intro A' c' w' h'
      have := iReadRecords_c A' (l.take m) c' w' h' (by simp; omega)
      rw [show (l.take m).length = m by simp; omega, hE] at this
      exact this
    rw [hv] at C2
    rw [HV.out.1, HV.out.2]
    clear hm hE
    go_enter Try.func79, Try.ntmps79
    go_wp2_with fail
    refine (C1.out _ (hA.ext eb)).mono ?_; rintro _ w1 ⟨v1, rfl, ho1, he1⟩; obtain ⟨A1, c1, hv1, r1⟩ := OwnL.rd ho1 hl; subst hv1
    have hc1 := r1.cap
    have ex := Ext_alloc (.cells #[.slice A1 l.length c1, .int .i64 s] 51) (Ext.refl w1)
    have B2 := fun w' (e : Ext (w1.alloc (.cells #[.slice A1 l.length c1, .int .i64 s] 51)) w') => boxed e
    have e1x := he1.trans ex
    go_wp2_with fail
    refine (C2.out _ (hA.ext (eb.trans e1x))).mono ?_; rintro _ w2 ⟨rfl, he2⟩
    have e12 := e1x.trans he2
    go_wp2_with fail
    refine wp_region_quiet_below (by kernel_rfl) (by kernel_rfl) ?_
    repeat (go_big_quiet_step ((first | (go_at_call 124; exact Calls.regrown_of (CM1.out _)) | (go_at_call 123; exact Calls.regrown_of (CM2.out _)))))
    refine wpQuiet_nil ?_
    rintro w3 ⟨⟨nq, osq⟩, hq⟩
    have ew3 := ext_of_q hq
    clear hq nq osq
    have e13 := e12.trans ew3
    have e23 := he2.trans ew3
    go_wp2_with fail
    refine (C3.out _ _ _ ((hA.ext (eb.trans e13)).take m)).mono ?_; rintro _ w4 ⟨v4, p4, rfl, _, _, he4⟩
    have e14 := e13.trans he4
    have e24 := e23.trans he4
    have o4 := OwnL.ext (OwnL.take ho1 k3) (ex.trans e24)
    have hB1 := B1 _ e14
    go_wp2
    obtain ⟨s0, s1⟩ := stored2 hB1
    refine bodyPost_ret (v := .agg #[.slice A1 E c1, .int .i64 E]) (by simp [results, Try.results79, go_sem, s0, s1]) rfl ⟨_, rfl, ?_, ?_⟩
    · exact OwnL.lower (ownsRow_setCell_below (ownsRow_setCell_below o4 (by simp) _) (by simp) _) eb
    · exact ((eb.trans e14).setCell (by simp) _).setCell (by simp) _
end Go.Proofs.Ytlaejcacembjiaa

/- CrashLog of the reference; AppendRecord of both. -/
namespace Go.Proofs.Ytlaejcacembjiaa
open Go.RowKit Go.Sort

set_option maxRecDepth 100000 in
set_option maxHeartbeats 4000000 in
theorem sCrashLog_c (A : Option Addr) (l : List UInt8) (c : Nat) (s k : Int) (w : World) (hA : Bs w A l c) (hL : l.length ≤ 1099511627776) :
    Calls Try.prog 78 #[vlog (.slice A l.length c) s, .int .i64 k] w fun e w' => ∃ v, e = .returned (vlog v (crashAt l s k)) ∧ OwnL vu8 5 w w' v (l.take (crashEnd l s k)) ∧ Ext w w' := by
  have hl := hA.len
  have hcap := hA.cap
  have eb := Ext_alloc (.cells #[.slice none 0 0, .int .i64 0] 51) (Ext_alloc (.cells #[.slice A l.length c, .int .i64 s] 51) (Ext.refl w))
  have BX := fun w' (e : Ext ((w.alloc (.cells #[.slice A l.length c, .int .i64 s] 51)).alloc (.cells #[.slice none 0 0, .int .i64 0] 51)) w') => boxed2 e
  have B0 := fun w' e => (BX w' e).1
  have B1 := fun w' e => (BX w' e).2.1
  have F1 := fun w' e => (BX w' e).2.2.2.1
  clear BX
  have C1 := Lib.hid (fun w h => sCopyLog_c A l c s w h)
  have C2 := Lib.hid (fun w h => sIsValidLog_c A l c s w h hL)
  unfold vlog at *
  cases hv : validLog l s
  · have HV : Hid (crashAt l s k = s ∧ l.take (crashEnd l s k) = l) := by
      show _ ∧ _; unfold crashAt crashEnd; rw [hv]; simp
    rw [hv] at C2
    rw [HV.out.1, HV.out.2]
    go_enter Try.func78, Try.ntmps78
    go_wp2_with fail
    refine (C2.out _ (hA.ext eb)).mono ?_; rintro _ w2 ⟨rfl, he2⟩
    go_wp2_with fail
    refine (C1.out _ (hA.ext (eb.trans he2))).mono ?_; rintro _ w1 ⟨v1, rfl, ho1, he1⟩; obtain ⟨A1, c1, hv1, r1⟩ := OwnL.rd ho1 hl; subst hv1
    have e12 := he2.trans he1
    have hs1 : w.heap.size + 1 < w2.heap.size := by have := he2.size; simp at this; omega
    have hB1 := B1 _ e12
    go_wp2
    obtain ⟨s0, s1⟩ := stored2 hB1
    refine bodyPost_ret (v := .agg #[.slice A1 l.length c1, .int .i64 s]) (by simp [results, Try.results78, go_sem, s0, s1]) rfl ⟨_, rfl, ?_, ?_⟩
    · exact OwnL.lower (ownsRow_setCell_below (ownsRow_setCell_below ho1 (by omega) _) (by omega) _) (eb.trans he2)
    · exact ((eb.trans e12).setCell (by simp) _).setCell (by simp) _
  · obtain ⟨m, hm⟩ : ∃ m, keptOf l s k = m := ⟨_, rfl⟩
    obtain ⟨k1, _, k2⟩ := keptOf_facts (k := k) hv
    have k3 := crashEnd_le (k := k) hv
    rw [hm] at k1 k2 k3
    obtain ⟨E, hE⟩ : ∃ E, stop (l.take m) 0 = E := ⟨_, rfl⟩
    rw [hE] at k3
    have HV : Hid (crashAt l s k = E ∧ crashEnd l s k = E) := by
      show _ ∧ _; unfold crashAt crashEnd; rw [hv, hm, hE]; simp
    have CM1 := Lib.hid (fun w => sMin_c k (l.length : Int) w)
    obtain ⟨M, hM⟩ : ∃ M, (if (l.length : Int) < k then (l.length : Int) else k) = M := ⟨_, rfl⟩
    rw [hM] at CM1 k2
    have CM2 := Lib.hid (fun w => sMax_c s M w)
    rw [k2] at CM2
    clear k2 hM
    have C3 : Hid (∀ A' c' w', Bs w' A' (l.take m) c' → Calls Try.prog 120 #[.slice A' m c'] w' fun e w'' => ∃ v ps, e = .returned (.tuple #[v, .int .i64 (E : Nat)]) ∧ ps.map Prod.fst = recs (l.take m) 0 ∧ OwnR w' w'' v ps ∧ Ext w' w'') := by
      intro A' c' w' h'
      have := sReadRecords_c A' (l.take m) c' w' h' (by simp; omega)
      rw [show (l.take m).length = m by simp; omega, hE] at this
      exact this
    rw [hv] at C2
    rw [HV.out.1, HV.out.2]
    have HEL : Hid (E = (l.take E).length) := by show _ = _; simp; omega
    have HB2 : Hid ((([] : List UInt8).length + (l.take E).length) * 1 ≤ 140737488355328) := by show _ ≤ _; simp; omega
    have g1 : (m : Int) ≤ (c : Int) := by omega
    have g1' : m ≤ c := by omega
    clear hm hE
    go_enter Try.func78, Try.ntmps78
    go_wp2_with fail
    refine (C2.out _ (hA.ext eb)).mono ?_; rintro _ w2 ⟨rfl, he2⟩
    have B0' := fun w' (e : Ext w2 w') => B0 w' (he2.trans e)
    go_wp2_with fail
    go_region_held3 (fun w' => Ext w2 w') (first | assumption | exact Ext_drew (Ext.refl _) | exact Ext.trans (by assumption) (by assumption)) (first
      | (go_at_call 122; refine (CM1.out _).mono ?_; rintro _ w3 ⟨rfl, he3⟩)
      | (go_at_call 121; refine (CM2.out _).mono ?_; rintro _ w4 ⟨rfl, he4⟩)
      | (go_at_call 120; refine (C3.out _ _ _ ((hA.ext ((eb.trans he2).trans (by assumption))).take m)).mono ?_; rintro _ w5 ⟨v5, p5, rfl, _, _, he5⟩))
    have e25 : Ext w2 w5 := by assumption
    have e15 := he2.trans e25
    clear he3 he4 he5 B0'
    have HS : Hid (w.heap.size + 1 < w5.heap.size) := by have := e15.size; simp at this; show _ < _; omega
    go_wp2_with (first
      | (at_builtin; refine wpList_appL rfl (.tmp 27) (.tmp 31) _ rfl E_u8 (by omega) w5 _ vu8 (fun _ => rfl) _ rfl _ _ _ rfl [] (l.take E) (OwnL.empty (Ext.refl _)) (Ext_alloc _ (Ext.refl _)) HEL.out (((hA.ext (eb.trans e15)).take E).src (Ext_alloc _ (Ext.refl _))) HB2.out ?_; intro v6 w6 ho6 he6 _ _; have e16 := e15.trans he6; rw [List.nil_append] at ho6; obtain ⟨A6, c6, hv6, r6⟩ := OwnL.rd ho6 (by rw [← HEL.out]; omega); rw [← HEL.out] at hv6; subst hv6))
    have hB1 := B1 _ e16
    obtain ⟨s0, s1⟩ := stored2 hB1
    refine bodyPost_ret (v := .agg #[.slice A6 E c6, .int .i64 E]) (by simp [results, Try.results78, go_sem, s0, s1]) rfl ⟨_, rfl, ?_, ?_⟩
    · exact OwnL.lower (ownsRow_setCell_below (ownsRow_setCell_below ho6 HS.out _) HS.out _) (eb.trans e15)
    · exact ((eb.trans e16).setCell (by simp) _).setCell (by simp) _
end Go.Proofs.Ytlaejcacembjiaa

/- Copies of archives; SyncArchive and CrashArchive: the walks. -/
namespace Go.Proofs.Ytlaejcacembjiaa
open Go.RowKit Go.Sort

theorem grown_set3 (W : World) (g : Nat) (x y z : Value) : W.grownBy (((W.setCell ⟨g, 0, none⟩ x).setCell ⟨g, 1, none⟩ y).setCell ⟨g, 2, none⟩ z) (some g) := ((grown_set W ⟨g, 0, none⟩ x).trans (grown_set _ ⟨g, 1, none⟩ y)).trans (grown_set _ ⟨g, 2, none⟩ z)
theorem grown_set12 (W : World) (g : Nat) (x y : Value) : W.grownBy ((W.setCell ⟨g, 1, none⟩ x).setCell ⟨g, 2, none⟩ y) (some g) := (grown_set W ⟨g, 1, none⟩ x).trans (grown_set _ ⟨g, 2, none⟩ y)
theorem Box.cells3 {w : World} {g : Nat} {x y z : Value} {T : TypeId} (h : Box w g #[x, y, z] T) : w.cell? ⟨g, 0, none⟩ = some x ∧ w.cell? ⟨g, 1, none⟩ = some y ∧ w.cell? ⟨g, 2, none⟩ = some z := ⟨h.cell 0, h.cell 1, h.cell 2⟩
theorem Box.set12 {w : World} {g : Nat} {x y z : Value} {T : TypeId} (h : Box w g #[x, y, z] T) (u v : Value) : Box ((w.setCell ⟨g, 1, none⟩ u).setCell ⟨g, 2, none⟩ v) g #[x, u, v] T := (h.set 1 u).set 2 v
theorem Box.set3 {w : World} {g : Nat} {x y z : Value} {T : TypeId} (h : Box w g #[x, y, z] T) (t u v : Value) : Box (((w.setCell ⟨g, 0, none⟩ t).setCell ⟨g, 1, none⟩ u).setCell ⟨g, 2, none⟩ v) g #[t, u, v] T := ((h.set 0 t).set 1 u).set 2 v
set_option maxRecDepth 100000 in
set_option maxHeartbeats 8000000 in
theorem sCopyA_c (A : Option Addr) (ds : List (List DRule)) (c : Nat) (L : Option Addr) (l : List UInt8) (e : Nat) (s : Int) (w : World) (h : RdA w A ds c L l e) (hz : szG ds ≤ 1048576) (hl : l.length ≤ 1048576) :
    Calls Try.prog 70 #[varch (.slice A ds.length c) (.slice L l.length e) s] w fun e' w' => ∃ v ps Au cu, e' = .returned (varch v (.slice Au l.length cu) s) ∧ descsOf ps = ds ∧ OwnG w w' v ps ∧ Ext w w' := by
  obtain ⟨W0, HW0, HP, HR, e0, hsA⟩ := boxes2' w #[.slice A ds.length c, .slice L l.length e, .int .i64 s] #[.slice none 0 0, .slice none 0 0, .int .i64 0] 53 53
  have hrb : W0.heap.size = w.heap.size + 2 := hsA
  have hpb : w.heap.size ≤ w.heap.size := Nat.le_refl _
  have HG := Lib.hid h.g
  have HL : Hid (Bs w L l e) := ⟨h.l, by omega⟩
  have HRB := Lib.hid hrb
  have C1 := Lib.hid (fun w h => sCopyG_c A ds c w h hz)
  have C2 := Lib.hid (fun w h => sCopyLog_c L l e s w h)
  have hd := Ext_drew (Ext.refl W0)
  have P := fun w' (e : Ext W0 w') => (HP.ext e).cell
  have R := Lib.hid (fun w' (e : Ext W0 w') => HR.ext e)
  have E0 := Lib.hid e0
  have hl2 : l.length ≤ 140737488351232 := by omega
  clear h HP HR hz e0 hl
  unfold vdesc at C1
  unfold vlog at C2
  unfold varch
  go_enter Try.func70, Try.ntmps70
  go_wp2_with fail
  rw [← HW0.out]
  go_region_law (first
    | (go_simp; go_at_call 55; refine (C1.out _ (HG.out.ext (E0.out.trans hd))).mono ?_; rintro _ w2 ⟨v, ps, rfl, hps, ho, s2⟩; obtain ⟨A1, c1, hv⟩ := ho.shape; subst hv; have x2 := hd.trans s2; have hps := Lib.hid hps; have ho := Lib.hid ho)
    | (go_simp; go_at_call 116; refine (C2.out _ (HL.out.ext (E0.out.trans x2))).mono ?_; rintro _ w3 ⟨u, rfl, hu, s3⟩; obtain ⟨A2, c2, rfl, _⟩ := OwnL.rd hu hl2; have x3 := x2.trans s3; have RR := R.out _ x3; obtain ⟨r0, r1, r2⟩ := RR.cells3; have f0 := RR.free))
  all_goals
    have hW := HRB.out
    have HN := Lib.hid hps.out
    have OG : Hid (OwnG w (((w3.setCell ⟨w.heap.size + 1, 0, none⟩ (.slice A1 ps.length c1)).setCell ⟨w.heap.size + 1, 1, none⟩ (.slice A2 l.length c2)).setCell ⟨w.heap.size + 1, 2, none⟩ (.int .i64 s)) (.slice A1 ps.length c1) ps) := ((ho.out.ext s3).keep (grown_set3 w3 (w.heap.size + 1) _ _ _) (fun x hx g hg hh => by have h1 := (ho.out.block x hx g hg).1; rw [size_drew] at h1; injection hh with hh; omega)).down (by rw [size_drew]; omega)
    have OE : Hid (Ext w (((w3.setCell ⟨w.heap.size + 1, 0, none⟩ (.slice A1 ps.length c1)).setCell ⟨w.heap.size + 1, 1, none⟩ (.slice A2 l.length c2)).setCell ⟨w.heap.size + 1, 2, none⟩ (.int .i64 s))) := (E0.out.trans x3).grown (grown_set3 w3 (w.heap.size + 1) _ _ _) (fun g hg => by injection hg with hg; omega)
    have RR3 := RR.set3 (.slice A1 ps.length c1) (.slice A2 l.length c2) (.int .i64 s)
    obtain ⟨z0, z1, z2⟩ := RR3.cells3
    clear P r0 r1 r2 f0 RR RR3 hW
    go_wp2
    exact bodyPost_ret (v := .agg #[.slice A1 ps.length c1, .slice A2 l.length c2, .int .i64 s]) (by simp [results, Try.results70, go_sem, z0, z1, z2]) rfl ⟨_, ps, A2, c2, rfl, HN.out, OG.out, OE.out⟩
set_option maxRecDepth 100000 in
set_option maxHeartbeats 8000000 in
theorem iCopyA_c (A : Option Addr) (ds : List (List DRule)) (c : Nat) (L : Option Addr) (l : List UInt8) (e : Nat) (s : Int) (b : Nat) (w : World) (hB : Box w b #[.slice A ds.length c, .slice L l.length e, .int .i64 s] 53) (h : RdA w A ds c L l e) (hz : szG ds ≤ 1048576) (hl : l.length ≤ 1048576) :
    Calls Try.prog 73 #[.pointer (some ⟨b, 0, none⟩)] w fun e' w' => ∃ v ps Au cu, e' = .returned (varch v (.slice Au l.length cu) s) ∧ descsOf ps = ds ∧ OwnG w w' v ps ∧ Ext w w' := by
  obtain ⟨W0, HW0⟩ : ∃ W0, Hid (W0 = w.alloc (.cells #[.slice none 0 0, .slice none 0 0, .int .i64 0] 53)) := ⟨_, rfl⟩
  have HR : Box W0 w.heap.size #[.slice none 0 0, .slice none 0 0, .int .i64 0] 53 := by rw [HW0.out]; exact Box.new w _ _
  have e0 : Ext w W0 := by rw [HW0.out]; exact Ext_alloc _ (Ext.refl w)
  have HP := hB.ext e0
  have hrb : W0.heap.size = w.heap.size + 1 := by rw [HW0.out]; simp
  have HG := Lib.hid h.g
  have HL : Hid (Bs w L l e) := ⟨h.l, by omega⟩
  have HRB := Lib.hid hrb
  have C1 := Lib.hid (fun w h => iCopyG_c A ds c w h hz)
  have C2 := Lib.hid (fun w h => iCopyLog_c L l e s w h)
  have hd := Ext_drew (Ext.refl W0)
  have P := fun w' (e : Ext W0 w') => (HP.ext e).cell
  have R := Lib.hid (fun w' (e : Ext W0 w') => HR.ext e)
  have E0 := Lib.hid e0
  have hl2 : l.length ≤ 140737488351232 := by omega
  clear h HP HR hz e0 hl hB
  unfold vdesc at C1
  unfold vlog at C2
  unfold varch
  go_enter Try.func73, Try.ntmps73
  go_wp2_with fail
  rw [← HW0.out]
  go_region_law (first
    | (go_simp; go_at_call 60; refine (C1.out _ (HG.out.ext (E0.out.trans hd))).mono ?_; rintro _ w2 ⟨v, ps, rfl, hps, ho, s2⟩; obtain ⟨A1, c1, hv⟩ := ho.shape; subst hv; have x2 := hd.trans s2; have hps := Lib.hid hps; have ho := Lib.hid ho)
    | (go_simp; go_at_call 118; refine (C2.out _ (HL.out.ext (E0.out.trans x2))).mono ?_; rintro _ w3 ⟨u, rfl, hu, s3⟩; obtain ⟨A2, c2, rfl, _⟩ := OwnL.rd hu hl2; have x3 := x2.trans s3; have RR := R.out _ x3; obtain ⟨r0, r1, r2⟩ := RR.cells3; have f0 := RR.free))
  all_goals
    have hW := HRB.out
    have HN := Lib.hid hps.out
    have OG : Hid (OwnG w (((w3.setCell ⟨w.heap.size, 0, none⟩ (.slice A1 ps.length c1)).setCell ⟨w.heap.size, 1, none⟩ (.slice A2 l.length c2)).setCell ⟨w.heap.size, 2, none⟩ (.int .i64 s)) (.slice A1 ps.length c1) ps) := ((ho.out.ext s3).keep (grown_set3 w3 (w.heap.size) _ _ _) (fun x hx g hg hh => by have h1 := (ho.out.block x hx g hg).1; rw [size_drew] at h1; injection hh with hh; omega)).down (by rw [size_drew]; omega)
    have OE : Hid (Ext w (((w3.setCell ⟨w.heap.size, 0, none⟩ (.slice A1 ps.length c1)).setCell ⟨w.heap.size, 1, none⟩ (.slice A2 l.length c2)).setCell ⟨w.heap.size, 2, none⟩ (.int .i64 s))) := (E0.out.trans x3).grown (grown_set3 w3 (w.heap.size) _ _ _) (fun g hg => by injection hg with hg; omega)
    have RR3 := RR.set3 (.slice A1 ps.length c1) (.slice A2 l.length c2) (.int .i64 s)
    obtain ⟨z0, z1, z2⟩ := RR3.cells3
    clear P r0 r1 r2 f0 RR RR3 hW
    go_wp2
    exact bodyPost_ret (v := .agg #[.slice A1 ps.length c1, .slice A2 l.length c2, .int .i64 s]) (by simp [results, Try.results73, go_sem, z0, z1, z2]) rfl ⟨_, ps, A2, c2, rfl, HN.out, OG.out, OE.out⟩
set_option maxRecDepth 100000 in
set_option maxHeartbeats 8000000 in
theorem sSyncArchive_c (A : Option Addr) (ds : List (List DRule)) (c : Nat) (L : Option Addr) (l : List UInt8) (e : Nat) (s : Int) (w : World) (h : RdA w A ds c L l e) (hz : szA ds l ≤ 1048576) :
    Calls Try.prog 22 #[varch (.slice A ds.length c) (.slice L l.length e) s] w fun e' w' => ∃ A1 c1 A2 c2 ps, e' = .returned (varch (.slice A1 ds.length c1) (.slice A2 l.length c2) (storeAt l s)) ∧ RdA w' A1 ds c1 A2 l c2 ∧ descsOf ps = ds ∧ AMade w.heap.size w'.heap.size w' (.slice A1 ds.length c1) ps (.slice A2 l.length c2) l ∧ Ext w w' := by
  have hg : szG ds ≤ 1048576 := by unfold szA at hz; omega
  have hl : l.length ≤ 1048576 := by unfold szA at hz; omega
  obtain ⟨W0, HW0, HP, HR, e0, hsA⟩ := boxes2' w #[.slice A ds.length c, .slice L l.length e, .int .i64 s] #[.slice none 0 0, .slice none 0 0, .int .i64 0] 53 53
  have HSA := Lib.hid hsA
  have HG := Lib.hid h
  have HL : Hid (Bs w L l e) := ⟨h.l, by omega⟩
  have CC := Lib.hid (fun w h => sCopyA_c A ds c L l e s w h hg hl)
  have CL := Lib.hid (fun w h => sStoreLog_c L l e s w h (by omega))
  obtain ⟨R, hR⟩ : ∃ R, R = l := ⟨_, rfl⟩
  obtain ⟨q, hq⟩ : ∃ q, q = (storeAt l s) := ⟨_, rfl⟩
  have hRl : R.length ≤ l.length := by rw [hR]; first | exact Nat.le_refl _ | exact List.length_take_le' _ _
  rw [← hq] at CL ⊢
  have CL : Hid (∀ (w : World), Bs w L l e → Calls Try.prog 71 #[vlog (.slice L l.length e) s] w fun e w' => ∃ v, e = .returned (vlog v q) ∧ OwnL vu8 5 w w' v R ∧ Ext w w') := by rw [hR]; exact CL.out
  
  have HSZ := Lib.hid hg
  have hRl2 : R.length ≤ 140737488351232 := by omega
  have HRE := Lib.hid hR
  clear hR hq h hz hg hsA
  unfold vlog at CL
  unfold varch at *
  go_enter Try.func22, Try.ntmps22
  go_wp2_with fail
  rw [← HW0.out]
  have p0 := HP.cells3
  obtain ⟨p0, p1, p2⟩ := p0
  refine (CC.out _ (HG.out.ext e0)).mono ?_; rintro _ w2 ⟨v, ps, A2, c2, rfl, hps, ho, s2⟩
  obtain ⟨A1, c1, hv⟩ := ho.shape; subst hv
  have x2 := Ext_alloc (.cells #[.slice A1 ps.length c1, .slice A2 l.length c2, .int .i64 s] 53) (Ext.refl w2)
  have HO := Box.new w2 #[.slice A1 ps.length c1, .slice A2 l.length c2, .int .i64 s] 53
  have hs2 := s2.size
  have hw2 : (w2.alloc (.cells #[.slice A1 ps.length c1, .slice A2 l.length c2, .int .i64 s] 53)).heap.size = w2.heap.size + 1 := by simp
  have HB := Lib.hid ho.block
  have HO2 := Lib.hid (ho.ext x2)
  have e2 := (e0.trans s2).trans x2
  replace HP := (HP.ext s2).ext x2; replace HR := (HR.ext s2).ext x2
  have HN := Lib.hid hps
  have HX := Lib.hid hw2
  clear ho hps p0 p1 p2 s2 x2 hw2
  obtain ⟨p0, p1, p2⟩ := HP.cells3
  go_wp2_with fail
  refine (CL.out _ (HL.out.ext e2)).mono ?_; rintro _ w3 ⟨u, rfl, hu, s3⟩
  obtain ⟨A3, c3, hv, _⟩ := OwnL.rd hu hRl2; subst hv
  have hs3 := s3.size
  have HO3 := HO.ext s3
  have f3 := HO3.free
  have O5 := HO3.set12 (.slice A3 R.length c3) (.int .i64 q)
  have R5 := Box.moved (HR.ext s3) (grown_set12 w3 w2.heap.size (.slice A3 R.length c3) (.int .i64 q)) (by have := HSA.out; intro hh; injection hh with hh; omega)
  have G5 := Lib.hid ((HO2.out.ext s3).keep (grown_set12 w3 w2.heap.size (.slice A3 R.length c3) (.int .i64 q)) (fun x hx g hg hh => by have := (HB.out x hx g hg).2; injection hh with hh; omega))
  have L5 := Lib.hid (OwnL.keep hu (grown_set12 w3 w2.heap.size (.slice A3 R.length c3) (.int .i64 q)) (fun g hg hh => by have := (World.ownsRow.lt hu g hg).1; have := HX.out; injection hh with hh; omega))
  have e5 := (e2.trans s3).grown (grown_set12 w3 w2.heap.size (.slice A3 R.length c3) (.int .i64 q)) (fun g hg => by have := HSA.out; injection hg with hg; omega)
  have S5 : Hid (w2.heap.size + 1 ≤ ((w3.setCell ⟨w2.heap.size, 1, none⟩ (.slice A3 R.length c3)).setCell ⟨w2.heap.size, 2, none⟩ (.int .i64 q)).heap.size) := by show _ ≤ _; have := HX.out; simp only [World.size_setCell]; omega
  have U5 := Lib.hid (fun g hg => (World.ownsRow.lt hu g hg).1)
  obtain ⟨o0, o1, o2⟩ := HO3.cells3
  obtain ⟨z0, z1, z2⟩ := O5.cells3
  obtain ⟨r0, r1, r2⟩ := R5.cells3
  have f5 := R5.free
  have E2 := Lib.hid e2
  clear HO2 HO HP HR e2 hu p0 p1 p2 HO3 O5
  have HS3 := Lib.hid s3; clear s3
  have R7 := R5.set3 (.slice A1 ps.length c1) (.slice A3 R.length c3) (.int .i64 q)
  obtain ⟨t0, t1, t2⟩ := R7.cells3
  have G7 := Lib.hid ((G5.out.keep (grown_set3 _ (w.heap.size + 1) (.slice A1 ps.length c1) (.slice A3 R.length c3) (.int .i64 q)) (fun x hx g hg hh => by have := (HB.out x hx g hg).1; have := HSA.out; injection hh with hh; omega)).down (w0 := w) (by have := HSA.out; omega))
  have L7 := Lib.hid (OwnL.keep L5.out (grown_set3 _ (w.heap.size + 1) (.slice A1 ps.length c1) (.slice A3 R.length c3) (.int .i64 q)) (fun g hg hh => by have := (World.ownsRow.lt L5.out g hg).1; have := HX.out; have := HSA.out; injection hh with hh; omega))
  have E7 := Lib.hid (e5.grown (grown_set3 _ (w.heap.size + 1) (.slice A1 ps.length c1) (.slice A3 R.length c3) (.int .i64 q)) (fun g hg => by injection hg with hg; omega))
  have S7 : Hid ((w2.alloc (.cells #[.slice A1 ps.length c1, .slice A2 l.length c2, .int .i64 s] 53)).heap.size ≤ w3.heap.size) := hs3
  have hpl : ps.length = ds.length := by rw [← HN.out]; simp [descsOf]
  have HPL := Lib.hid hpl
  clear R7 R5 hs3 hs2 e5 hpl
  go_wp2
  obtain ⟨B1, B2⟩ := szG_lens (R := ds) (by have := HSZ.out; omega)
  refine bodyPost_ret (v := .agg #[.slice A1 ps.length c1, .slice A3 R.length c3, .int .i64 q]) (by simp [results, Try.results22, go_sem, t0, t1, t2]) rfl ⟨A1, c1, A3, c3, ps, by rw [HPL.out, HRE.out], ⟨G7.out.rd' HN.out HPL.out (by omega) (fun d hd => by have := B2 d hd; omega) (shortG_of HSZ.out), ?_⟩, HN.out, ?_, E7.out⟩
  · obtain ⟨A4, c4, hv4, R4⟩ := OwnL.rd L7.out hRl2
    injection hv4 with i1 _ i2
    subst i1; subst i2
    exact by have := HRE.out; subst this; exact R4.1
  · rw [← HPL.out]
    exact by have := HRE.out; subst this; exact AMade.of (w := w) E2.out G7.out (fun x hx b hb => by have := (HB.out x hx b hb).2; have := HX.out; omega) L7.out (by simp only [World.size_setCell]; exact S7.out)
set_option maxRecDepth 100000 in
set_option maxHeartbeats 8000000 in
theorem iSyncArchive_c (A : Option Addr) (ds : List (List DRule)) (c : Nat) (L : Option Addr) (l : List UInt8) (e : Nat) (s : Int) (w : World) (h : RdA w A ds c L l e) (hz : szA ds l ≤ 1048576) :
    Calls Try.prog 24 #[varch (.slice A ds.length c) (.slice L l.length e) s] w fun e' w' => ∃ A1 c1 A2 c2 ps, e' = .returned (varch (.slice A1 ds.length c1) (.slice A2 l.length c2) (storeAt l s)) ∧ RdA w' A1 ds c1 A2 l c2 ∧ descsOf ps = ds ∧ AMade w.heap.size w'.heap.size w' (.slice A1 ds.length c1) ps (.slice A2 l.length c2) l ∧ Ext w w' := by
  have hg : szG ds ≤ 1048576 := by unfold szA at hz; omega
  have hl : l.length ≤ 1048576 := by unfold szA at hz; omega
  obtain ⟨W0, HW0, HP, HR, e0, hsA⟩ := boxes2' w #[.slice A ds.length c, .slice L l.length e, .int .i64 s] #[.slice none 0 0, .slice none 0 0, .int .i64 0] 53 53
  have HSA := Lib.hid hsA
  have HG := Lib.hid h
  have HL : Hid (Bs w L l e) := ⟨h.l, by omega⟩
  have CC := Lib.hid (fun b w hB h => iCopyA_c A ds c L l e s b w hB h hg hl)
  have CL := Lib.hid (fun w h => iStoreLog_c L l e s w h (by omega))
  obtain ⟨R, hR⟩ : ∃ R, R = l := ⟨_, rfl⟩
  obtain ⟨q, hq⟩ : ∃ q, q = (storeAt l s) := ⟨_, rfl⟩
  have hRl : R.length ≤ l.length := by rw [hR]; first | exact Nat.le_refl _ | exact List.length_take_le' _ _
  rw [← hq] at CL ⊢
  have CL : Hid (∀ (w : World), Bs w L l e → Calls Try.prog 74 #[vlog (.slice L l.length e) s] w fun e w' => ∃ v, e = .returned (vlog v q) ∧ OwnL vu8 5 w w' v R ∧ Ext w w') := by rw [hR]; exact CL.out
  
  have HSZ := Lib.hid hg
  have hRl2 : R.length ≤ 140737488351232 := by omega
  have HRE := Lib.hid hR
  clear hR hq h hz hg hsA
  unfold vlog at CL
  unfold varch at *
  go_enter Try.func24, Try.ntmps24
  go_wp2_with fail
  rw [← HW0.out]
  have p0 := HP.cells3
  obtain ⟨p0, p1, p2⟩ := p0
  refine (CC.out _ _ HP (HG.out.ext e0)).mono ?_; rintro _ w2 ⟨v, ps, A2, c2, rfl, hps, ho, s2⟩
  obtain ⟨A1, c1, hv⟩ := ho.shape; subst hv
  have x2 := Ext_alloc (.cells #[.slice A1 ps.length c1, .slice A2 l.length c2, .int .i64 s] 53) (Ext.refl w2)
  have HO := Box.new w2 #[.slice A1 ps.length c1, .slice A2 l.length c2, .int .i64 s] 53
  have hs2 := s2.size
  have hw2 : (w2.alloc (.cells #[.slice A1 ps.length c1, .slice A2 l.length c2, .int .i64 s] 53)).heap.size = w2.heap.size + 1 := by simp
  have HB := Lib.hid ho.block
  have HO2 := Lib.hid (ho.ext x2)
  have e2 := (e0.trans s2).trans x2
  replace HP := (HP.ext s2).ext x2; replace HR := (HR.ext s2).ext x2
  have HN := Lib.hid hps
  have HX := Lib.hid hw2
  clear ho hps p0 p1 p2 s2 x2 hw2
  obtain ⟨p0, p1, p2⟩ := HP.cells3
  go_wp2_with fail
  refine (CL.out _ (HL.out.ext e2)).mono ?_; rintro _ w3 ⟨u, rfl, hu, s3⟩
  obtain ⟨A3, c3, hv, _⟩ := OwnL.rd hu hRl2; subst hv
  have hs3 := s3.size
  have HO3 := HO.ext s3
  have f3 := HO3.free
  have O5 := HO3.set12 (.slice A3 R.length c3) (.int .i64 q)
  have R5 := Box.moved (HR.ext s3) (grown_set12 w3 w2.heap.size (.slice A3 R.length c3) (.int .i64 q)) (by have := HSA.out; intro hh; injection hh with hh; omega)
  have G5 := Lib.hid ((HO2.out.ext s3).keep (grown_set12 w3 w2.heap.size (.slice A3 R.length c3) (.int .i64 q)) (fun x hx g hg hh => by have := (HB.out x hx g hg).2; injection hh with hh; omega))
  have L5 := Lib.hid (OwnL.keep hu (grown_set12 w3 w2.heap.size (.slice A3 R.length c3) (.int .i64 q)) (fun g hg hh => by have := (World.ownsRow.lt hu g hg).1; have := HX.out; injection hh with hh; omega))
  have e5 := (e2.trans s3).grown (grown_set12 w3 w2.heap.size (.slice A3 R.length c3) (.int .i64 q)) (fun g hg => by have := HSA.out; injection hg with hg; omega)
  have S5 : Hid (w2.heap.size + 1 ≤ ((w3.setCell ⟨w2.heap.size, 1, none⟩ (.slice A3 R.length c3)).setCell ⟨w2.heap.size, 2, none⟩ (.int .i64 q)).heap.size) := by show _ ≤ _; have := HX.out; simp only [World.size_setCell]; omega
  have U5 := Lib.hid (fun g hg => (World.ownsRow.lt hu g hg).1)
  obtain ⟨o0, o1, o2⟩ := HO3.cells3
  obtain ⟨z0, z1, z2⟩ := O5.cells3
  obtain ⟨r0, r1, r2⟩ := R5.cells3
  have f5 := R5.free
  have E2 := Lib.hid e2
  clear HO2 HO HP HR e2 hu p0 p1 p2 HO3 O5
  have HS3 := Lib.hid s3; clear s3
  have R7 := R5.set3 (.slice A1 ps.length c1) (.slice A3 R.length c3) (.int .i64 q)
  obtain ⟨t0, t1, t2⟩ := R7.cells3
  have G7 := Lib.hid ((G5.out.keep (grown_set3 _ (w.heap.size + 1) (.slice A1 ps.length c1) (.slice A3 R.length c3) (.int .i64 q)) (fun x hx g hg hh => by have := (HB.out x hx g hg).1; have := HSA.out; injection hh with hh; omega)).down (w0 := w) (by have := HSA.out; omega))
  have L7 := Lib.hid (OwnL.keep L5.out (grown_set3 _ (w.heap.size + 1) (.slice A1 ps.length c1) (.slice A3 R.length c3) (.int .i64 q)) (fun g hg hh => by have := (World.ownsRow.lt L5.out g hg).1; have := HX.out; have := HSA.out; injection hh with hh; omega))
  have E7 := Lib.hid (e5.grown (grown_set3 _ (w.heap.size + 1) (.slice A1 ps.length c1) (.slice A3 R.length c3) (.int .i64 q)) (fun g hg => by injection hg with hg; omega))
  have S7 : Hid ((w2.alloc (.cells #[.slice A1 ps.length c1, .slice A2 l.length c2, .int .i64 s] 53)).heap.size ≤ w3.heap.size) := hs3
  have hpl : ps.length = ds.length := by rw [← HN.out]; simp [descsOf]
  have HPL := Lib.hid hpl
  clear R7 R5 hs3 hs2 e5 hpl
  go_wp2
  obtain ⟨B1, B2⟩ := szG_lens (R := ds) (by have := HSZ.out; omega)
  refine bodyPost_ret (v := .agg #[.slice A1 ps.length c1, .slice A3 R.length c3, .int .i64 q]) (by simp [results, Try.results24, go_sem, t0, t1, t2]) rfl ⟨A1, c1, A3, c3, ps, by rw [HPL.out, HRE.out], ⟨G7.out.rd' HN.out HPL.out (by omega) (fun d hd => by have := B2 d hd; omega) (shortG_of HSZ.out), ?_⟩, HN.out, ?_, E7.out⟩
  · obtain ⟨A4, c4, hv4, R4⟩ := OwnL.rd L7.out hRl2
    injection hv4 with i1 _ i2
    subst i1; subst i2
    exact by have := HRE.out; subst this; exact R4.1
  · rw [← HPL.out]
    exact by have := HRE.out; subst this; exact AMade.of (w := w) E2.out G7.out (fun x hx b hb => by have := (HB.out x hx b hb).2; have := HX.out; omega) L7.out (by simp only [World.size_setCell]; exact S7.out)
set_option maxRecDepth 100000 in
set_option maxHeartbeats 8000000 in
theorem sCrashArchive_c (A : Option Addr) (ds : List (List DRule)) (c : Nat) (L : Option Addr) (l : List UInt8) (e : Nat) (s : Int) (k : Int) (w : World) (h : RdA w A ds c L l e) (hz : szA ds l ≤ 1048576) :
    Calls Try.prog 28 #[varch (.slice A ds.length c) (.slice L l.length e) s, .int .i64 k] w fun e' w' => ∃ A1 c1 A2 c2 ps, e' = .returned (varch (.slice A1 ds.length c1) (.slice A2 (l.take (crashEnd l s k)).length c2) (crashAt l s k)) ∧ RdA w' A1 ds c1 A2 (l.take (crashEnd l s k)) c2 ∧ descsOf ps = ds ∧ AMade w.heap.size w'.heap.size w' (.slice A1 ds.length c1) ps (.slice A2 (l.take (crashEnd l s k)).length c2) (l.take (crashEnd l s k)) ∧ Ext w w' := by
  have hg : szG ds ≤ 1048576 := by unfold szA at hz; omega
  have hl : l.length ≤ 1048576 := by unfold szA at hz; omega
  obtain ⟨W0, HW0, HP, HR, e0, hsA⟩ := boxes2' w #[.slice A ds.length c, .slice L l.length e, .int .i64 s] #[.slice none 0 0, .slice none 0 0, .int .i64 0] 53 53
  have HSA := Lib.hid hsA
  have HG := Lib.hid h
  have HL : Hid (Bs w L l e) := ⟨h.l, by omega⟩
  have CC := Lib.hid (fun w h => sCopyA_c A ds c L l e s w h hg hl)
  have CL := Lib.hid (fun w h => sCrashLog_c L l e s k w h (by omega))
  obtain ⟨R, hR⟩ : ∃ R, R = (l.take (crashEnd l s k)) := ⟨_, rfl⟩
  obtain ⟨q, hq⟩ : ∃ q, q = (crashAt l s k) := ⟨_, rfl⟩
  have hRl : R.length ≤ l.length := by rw [hR]; first | exact Nat.le_refl _ | exact List.length_take_le' _ _
  rw [← hq] at CL ⊢
  rw [← hR] at CL ⊢
  
  have HSZ := Lib.hid hg
  have hRl2 : R.length ≤ 140737488351232 := by omega
  have HRE := Lib.hid hR
  clear hR hq h hz hg hsA
  unfold vlog at CL
  unfold varch at *
  go_enter Try.func28, Try.ntmps28
  go_wp2_with fail
  rw [← HW0.out]
  have p0 := HP.cells3
  obtain ⟨p0, p1, p2⟩ := p0
  refine (CC.out _ (HG.out.ext e0)).mono ?_; rintro _ w2 ⟨v, ps, A2, c2, rfl, hps, ho, s2⟩
  obtain ⟨A1, c1, hv⟩ := ho.shape; subst hv
  have x2 := Ext_alloc (.cells #[.slice A1 ps.length c1, .slice A2 l.length c2, .int .i64 s] 53) (Ext.refl w2)
  have HO := Box.new w2 #[.slice A1 ps.length c1, .slice A2 l.length c2, .int .i64 s] 53
  have hs2 := s2.size
  have hw2 : (w2.alloc (.cells #[.slice A1 ps.length c1, .slice A2 l.length c2, .int .i64 s] 53)).heap.size = w2.heap.size + 1 := by simp
  have HB := Lib.hid ho.block
  have HO2 := Lib.hid (ho.ext x2)
  have e2 := (e0.trans s2).trans x2
  replace HP := (HP.ext s2).ext x2; replace HR := (HR.ext s2).ext x2
  have HN := Lib.hid hps
  have HX := Lib.hid hw2
  clear ho hps p0 p1 p2 s2 x2 hw2
  obtain ⟨p0, p1, p2⟩ := HP.cells3
  go_wp2_with fail
  refine (CL.out _ (HL.out.ext e2)).mono ?_; rintro _ w3 ⟨u, rfl, hu, s3⟩
  obtain ⟨A3, c3, hv, _⟩ := OwnL.rd hu hRl2; subst hv
  have hs3 := s3.size
  have HO3 := HO.ext s3
  have f3 := HO3.free
  have O5 := HO3.set12 (.slice A3 R.length c3) (.int .i64 q)
  have R5 := Box.moved (HR.ext s3) (grown_set12 w3 w2.heap.size (.slice A3 R.length c3) (.int .i64 q)) (by have := HSA.out; intro hh; injection hh with hh; omega)
  have G5 := Lib.hid ((HO2.out.ext s3).keep (grown_set12 w3 w2.heap.size (.slice A3 R.length c3) (.int .i64 q)) (fun x hx g hg hh => by have := (HB.out x hx g hg).2; injection hh with hh; omega))
  have L5 := Lib.hid (OwnL.keep hu (grown_set12 w3 w2.heap.size (.slice A3 R.length c3) (.int .i64 q)) (fun g hg hh => by have := (World.ownsRow.lt hu g hg).1; have := HX.out; injection hh with hh; omega))
  have e5 := (e2.trans s3).grown (grown_set12 w3 w2.heap.size (.slice A3 R.length c3) (.int .i64 q)) (fun g hg => by have := HSA.out; injection hg with hg; omega)
  have S5 : Hid (w2.heap.size + 1 ≤ ((w3.setCell ⟨w2.heap.size, 1, none⟩ (.slice A3 R.length c3)).setCell ⟨w2.heap.size, 2, none⟩ (.int .i64 q)).heap.size) := by show _ ≤ _; have := HX.out; simp only [World.size_setCell]; omega
  have U5 := Lib.hid (fun g hg => (World.ownsRow.lt hu g hg).1)
  obtain ⟨o0, o1, o2⟩ := HO3.cells3
  obtain ⟨z0, z1, z2⟩ := O5.cells3
  obtain ⟨r0, r1, r2⟩ := R5.cells3
  have f5 := R5.free
  have E2 := Lib.hid e2
  clear HO2 HO HP HR e2 hu p0 p1 p2 HO3 O5
  have HS3 := Lib.hid s3; clear s3
  have R7 := R5.set3 (.slice A1 ps.length c1) (.slice A3 R.length c3) (.int .i64 q)
  obtain ⟨t0, t1, t2⟩ := R7.cells3
  have G7 := Lib.hid ((G5.out.keep (grown_set3 _ (w.heap.size + 1) (.slice A1 ps.length c1) (.slice A3 R.length c3) (.int .i64 q)) (fun x hx g hg hh => by have := (HB.out x hx g hg).1; have := HSA.out; injection hh with hh; omega)).down (w0 := w) (by have := HSA.out; omega))
  have L7 := Lib.hid (OwnL.keep L5.out (grown_set3 _ (w.heap.size + 1) (.slice A1 ps.length c1) (.slice A3 R.length c3) (.int .i64 q)) (fun g hg hh => by have := (World.ownsRow.lt L5.out g hg).1; have := HX.out; have := HSA.out; injection hh with hh; omega))
  have E7 := Lib.hid (e5.grown (grown_set3 _ (w.heap.size + 1) (.slice A1 ps.length c1) (.slice A3 R.length c3) (.int .i64 q)) (fun g hg => by injection hg with hg; omega))
  have S7 : Hid ((w2.alloc (.cells #[.slice A1 ps.length c1, .slice A2 l.length c2, .int .i64 s] 53)).heap.size ≤ w3.heap.size) := hs3
  have hpl : ps.length = ds.length := by rw [← HN.out]; simp [descsOf]
  have HPL := Lib.hid hpl
  clear R7 R5 hs3 hs2 e5 hpl
  go_wp2
  obtain ⟨B1, B2⟩ := szG_lens (R := ds) (by have := HSZ.out; omega)
  refine bodyPost_ret (v := .agg #[.slice A1 ps.length c1, .slice A3 R.length c3, .int .i64 q]) (by simp [results, Try.results28, go_sem, t0, t1, t2]) rfl ⟨A1, c1, A3, c3, ps, by rw [HPL.out], ⟨G7.out.rd' HN.out HPL.out (by omega) (fun d hd => by have := B2 d hd; omega) (shortG_of HSZ.out), ?_⟩, HN.out, ?_, E7.out⟩
  · obtain ⟨A4, c4, hv4, R4⟩ := OwnL.rd L7.out hRl2
    injection hv4 with i1 _ i2
    subst i1; subst i2
    exact R4.1
  · rw [← HPL.out]
    exact AMade.of (w := w) E2.out G7.out (fun x hx b hb => by have := (HB.out x hx b hb).2; have := HX.out; omega) L7.out (by simp only [World.size_setCell]; exact S7.out)
set_option maxRecDepth 100000 in
set_option maxHeartbeats 8000000 in
theorem iCrashArchive_c (A : Option Addr) (ds : List (List DRule)) (c : Nat) (L : Option Addr) (l : List UInt8) (e : Nat) (s : Int) (k : Int) (w : World) (h : RdA w A ds c L l e) (hz : szA ds l ≤ 1048576) :
    Calls Try.prog 29 #[varch (.slice A ds.length c) (.slice L l.length e) s, .int .i64 k] w fun e' w' => ∃ A1 c1 A2 c2 ps, e' = .returned (varch (.slice A1 ds.length c1) (.slice A2 (l.take (crashEnd l s k)).length c2) (crashAt l s k)) ∧ RdA w' A1 ds c1 A2 (l.take (crashEnd l s k)) c2 ∧ descsOf ps = ds ∧ AMade w.heap.size w'.heap.size w' (.slice A1 ds.length c1) ps (.slice A2 (l.take (crashEnd l s k)).length c2) (l.take (crashEnd l s k)) ∧ Ext w w' := by
  have hg : szG ds ≤ 1048576 := by unfold szA at hz; omega
  have hl : l.length ≤ 1048576 := by unfold szA at hz; omega
  obtain ⟨W0, HW0, HP, HR, e0, hsA⟩ := boxes2' w #[.slice A ds.length c, .slice L l.length e, .int .i64 s] #[.slice none 0 0, .slice none 0 0, .int .i64 0] 53 53
  have HSA := Lib.hid hsA
  have HG := Lib.hid h
  have HL : Hid (Bs w L l e) := ⟨h.l, by omega⟩
  have CC := Lib.hid (fun b w hB h => iCopyA_c A ds c L l e s b w hB h hg hl)
  have CL := Lib.hid (fun w h => iCrashLog_c L l e s k w h (by omega))
  obtain ⟨R, hR⟩ : ∃ R, R = (l.take (crashEnd l s k)) := ⟨_, rfl⟩
  obtain ⟨q, hq⟩ : ∃ q, q = (crashAt l s k) := ⟨_, rfl⟩
  have hRl : R.length ≤ l.length := by rw [hR]; first | exact Nat.le_refl _ | exact List.length_take_le' _ _
  rw [← hq] at CL ⊢
  rw [← hR] at CL ⊢
  
  have HSZ := Lib.hid hg
  have hRl2 : R.length ≤ 140737488351232 := by omega
  have HRE := Lib.hid hR
  clear hR hq h hz hg hsA
  unfold vlog at CL
  unfold varch at *
  go_enter Try.func29, Try.ntmps29
  go_wp2_with fail
  rw [← HW0.out]
  have p0 := HP.cells3
  obtain ⟨p0, p1, p2⟩ := p0
  refine (CC.out _ _ HP (HG.out.ext e0)).mono ?_; rintro _ w2 ⟨v, ps, A2, c2, rfl, hps, ho, s2⟩
  obtain ⟨A1, c1, hv⟩ := ho.shape; subst hv
  have x2 := Ext_alloc (.cells #[.slice A1 ps.length c1, .slice A2 l.length c2, .int .i64 s] 53) (Ext.refl w2)
  have HO := Box.new w2 #[.slice A1 ps.length c1, .slice A2 l.length c2, .int .i64 s] 53
  have hs2 := s2.size
  have hw2 : (w2.alloc (.cells #[.slice A1 ps.length c1, .slice A2 l.length c2, .int .i64 s] 53)).heap.size = w2.heap.size + 1 := by simp
  have HB := Lib.hid ho.block
  have HO2 := Lib.hid (ho.ext x2)
  have e2 := (e0.trans s2).trans x2
  replace HP := (HP.ext s2).ext x2; replace HR := (HR.ext s2).ext x2
  have HN := Lib.hid hps
  have HX := Lib.hid hw2
  clear ho hps p0 p1 p2 s2 x2 hw2
  obtain ⟨p0, p1, p2⟩ := HP.cells3
  go_wp2_with fail
  refine (CL.out _ (HL.out.ext e2)).mono ?_; rintro _ w3 ⟨u, rfl, hu, s3⟩
  obtain ⟨A3, c3, hv, _⟩ := OwnL.rd hu hRl2; subst hv
  have hs3 := s3.size
  have HO3 := HO.ext s3
  have f3 := HO3.free
  have O5 := HO3.set12 (.slice A3 R.length c3) (.int .i64 q)
  have R5 := Box.moved (HR.ext s3) (grown_set12 w3 w2.heap.size (.slice A3 R.length c3) (.int .i64 q)) (by have := HSA.out; intro hh; injection hh with hh; omega)
  have G5 := Lib.hid ((HO2.out.ext s3).keep (grown_set12 w3 w2.heap.size (.slice A3 R.length c3) (.int .i64 q)) (fun x hx g hg hh => by have := (HB.out x hx g hg).2; injection hh with hh; omega))
  have L5 := Lib.hid (OwnL.keep hu (grown_set12 w3 w2.heap.size (.slice A3 R.length c3) (.int .i64 q)) (fun g hg hh => by have := (World.ownsRow.lt hu g hg).1; have := HX.out; injection hh with hh; omega))
  have e5 := (e2.trans s3).grown (grown_set12 w3 w2.heap.size (.slice A3 R.length c3) (.int .i64 q)) (fun g hg => by have := HSA.out; injection hg with hg; omega)
  have S5 : Hid (w2.heap.size + 1 ≤ ((w3.setCell ⟨w2.heap.size, 1, none⟩ (.slice A3 R.length c3)).setCell ⟨w2.heap.size, 2, none⟩ (.int .i64 q)).heap.size) := by show _ ≤ _; have := HX.out; simp only [World.size_setCell]; omega
  have U5 := Lib.hid (fun g hg => (World.ownsRow.lt hu g hg).1)
  obtain ⟨o0, o1, o2⟩ := HO3.cells3
  obtain ⟨z0, z1, z2⟩ := O5.cells3
  obtain ⟨r0, r1, r2⟩ := R5.cells3
  have f5 := R5.free
  have E2 := Lib.hid e2
  clear HO2 HO HP HR e2 hu p0 p1 p2 HO3 O5
  have HS3 := Lib.hid s3; clear s3
  have R7 := R5.set3 (.slice A1 ps.length c1) (.slice A3 R.length c3) (.int .i64 q)
  obtain ⟨t0, t1, t2⟩ := R7.cells3
  have G7 := Lib.hid ((G5.out.keep (grown_set3 _ (w.heap.size + 1) (.slice A1 ps.length c1) (.slice A3 R.length c3) (.int .i64 q)) (fun x hx g hg hh => by have := (HB.out x hx g hg).1; have := HSA.out; injection hh with hh; omega)).down (w0 := w) (by have := HSA.out; omega))
  have L7 := Lib.hid (OwnL.keep L5.out (grown_set3 _ (w.heap.size + 1) (.slice A1 ps.length c1) (.slice A3 R.length c3) (.int .i64 q)) (fun g hg hh => by have := (World.ownsRow.lt L5.out g hg).1; have := HX.out; have := HSA.out; injection hh with hh; omega))
  have E7 := Lib.hid (e5.grown (grown_set3 _ (w.heap.size + 1) (.slice A1 ps.length c1) (.slice A3 R.length c3) (.int .i64 q)) (fun g hg => by injection hg with hg; omega))
  have S7 : Hid ((w2.alloc (.cells #[.slice A1 ps.length c1, .slice A2 l.length c2, .int .i64 s] 53)).heap.size ≤ w3.heap.size) := hs3
  have hpl : ps.length = ds.length := by rw [← HN.out]; simp [descsOf]
  have HPL := Lib.hid hpl
  clear R7 R5 hs3 hs2 e5 hpl
  go_wp2
  obtain ⟨B1, B2⟩ := szG_lens (R := ds) (by have := HSZ.out; omega)
  refine bodyPost_ret (v := .agg #[.slice A1 ps.length c1, .slice A3 R.length c3, .int .i64 q]) (by simp [results, Try.results29, go_sem, t0, t1, t2]) rfl ⟨A1, c1, A3, c3, ps, by rw [HPL.out], ⟨G7.out.rd' HN.out HPL.out (by omega) (fun d hd => by have := B2 d hd; omega) (shortG_of HSZ.out), ?_⟩, HN.out, ?_, E7.out⟩
  · obtain ⟨A4, c4, hv4, R4⟩ := OwnL.rd L7.out hRl2
    injection hv4 with i1 _ i2
    subst i1; subst i2
    exact R4.1
  · rw [← HPL.out]
    exact AMade.of (w := w) E2.out G7.out (fun x hx b hb => by have := (HB.out x hx b hb).2; have := HX.out; omega) L7.out (by simp only [World.size_setCell]; exact S7.out)
end Go.Proofs.Ytlaejcacembjiaa

/- The walks of the laws on SyncArchive and CrashArchive. -/
namespace Go.Proofs.Ytlaejcacembjiaa
open Go.RowKit Go.Sort

set_option maxRecDepth 100000 in
set_option maxHeartbeats 8000000 in
theorem lawSyncArchive_c (A0 : Option Addr) (ds0 : List (List DRule)) (c0 : Nat) (L0 : Option Addr) (l0 : List UInt8) (e0 : Nat) (s0 : Int) (w : World) (h0 : RdA w A0 ds0 c0 L0 l0 e0) (hw0 : WfG ds0) :
    Gives Try.prog 4 #[varch (.slice A0 ds0.length c0) (.slice L0 l0.length e0) s0] w (.bool true) := by
  have eb := (Ext_alloc (.cells #[.slice A0 ds0.length c0, .slice L0 l0.length e0, .int .i64 s0] 49) (Ext.refl w))
  have B0 := fun w' (e : Ext (w.alloc (.cells #[.slice A0 ds0.length c0, .slice L0 l0.length e0, .int .i64 s0] 49)) w') => boxed e
  have Z0 := Lib.hid (fun left w h h0 h1 => szArchive_c A0 ds0 c0 L0 l0 e0 s0 left w h hw0 h0 h1)
  have T0 := Lib.hid (fun w h hz => toArch_r A0 ds0 c0 L0 l0 e0 s0 w h hz); have TO0 := Lib.hid (fun w h hz => toArch_o A0 ds0 c0 L0 l0 e0 s0 w h hz)
  have hz0 := szN_lo (szA ds0 l0) (1048576)
  have hx0 : ¬ szN (szA ds0 l0) (1048576) < 0 → (1048576 : Int) ≤ 1048576 → (szA ds0 l0) ≤ 1048576 := fun a b => szN_small a b
  generalize hzz0 : szN (szA ds0 l0) (1048576) = z0 at *
  have HZ0 := Lib.hid hzz0; clear hzz0
  unfold varch at *
  go_enter Try.func4, Try.ntmps4
  go_wp2_with fail
  refine (Z0.out _ _ (h0.ext eb) (by omega) (by omega)).mono ?_; rintro _ wz0 ⟨rfl, sz0⟩
  rw [HZ0.out]
  replace B0 := fun w' (e : Ext _ w') => B0 w' (Ext.trans sz0 e)
  replace eb := eb.trans sz0; clear sz0
  by_cases d0 : z0 < 0
  · go_wp2
    go_ret
    exact ⟨rfl, eb⟩
  have hl0 := hx0 (by omega) (by omega)
  have U0 := Lib.hid (fun w h => T0.out w h hl0); clear T0; have UO0 := Lib.hid (fun w h => TO0.out w h hl0); clear TO0; have SH0 := Lib.hid hl0; have SD0 := Lib.hid (shortA_of hl0)
  obtain ⟨R, hR⟩ : ∃ R, R = ds0 := ⟨_, rfl⟩
  obtain ⟨Rl, hRl⟩ : ∃ Rl, Rl = l0 := ⟨_, rfl⟩
  obtain ⟨Rs, hRs⟩ : ∃ Rs, Rs = storeAt l0 s0 := ⟨_, rfl⟩
  have CS : Hid (∀ A C L E w, RdA w A ds0 C L l0 E → Calls Try.prog 22 #[.agg #[.slice A ds0.length C, .slice L l0.length E, .int .i64 s0]] w fun e' w' => ∃ A1 c1 A2 c2 ps, e' = .returned (.agg #[.slice A1 R.length c1, .slice A2 Rl.length c2, .int .i64 Rs]) ∧ RdA w' A1 R c1 A2 Rl c2 ∧ descsOf ps = R ∧ AMade w.heap.size w'.heap.size w' (.slice A1 R.length c1) ps (.slice A2 Rl.length c2) Rl ∧ Ext w w') := by
    rw [hR, hRl, hRs]; exact fun A C L E w r => sSyncArchive_c A ds0 C L l0 E s0 w r SH0.out
  have CI : Hid (∀ A C L E w, RdA w A ds0 C L l0 E → Calls Try.prog 24 #[.agg #[.slice A ds0.length C, .slice L l0.length E, .int .i64 s0]] w fun e' w' => ∃ A1 c1 A2 c2 ps, e' = .returned (.agg #[.slice A1 R.length c1, .slice A2 Rl.length c2, .int .i64 Rs]) ∧ RdA w' A1 R c1 A2 Rl c2 ∧ descsOf ps = R ∧ AMade w.heap.size w'.heap.size w' (.slice A1 R.length c1) ps (.slice A2 Rl.length c2) Rl ∧ Ext w w') := by
    rw [hR, hRl, hRs]; exact fun A C L E w r => iSyncArchive_c A ds0 C L l0 E s0 w r SH0.out
  have hzR : szA R Rl ≤ 1048576 := by
    rw [hR]; have h2 := SH0.out; unfold szA at *
    have h1 : Rl.length ≤ l0.length := by rw [hRl]; first | exact Nat.le_refl _ | exact List.length_take_le' _ _
    omega
  have SR := Lib.hid (shortA_of hzR); have SRg := Lib.hid (shortA_of hzR).g
  have HSZ : Hid (szA R Rl ≤ 1048577) := by show _ ≤ _; omega
  have HLR : Hid (Rl.length ≤ 1048577) := by show _ ≤ _; unfold szA at hzR; omega
  have HMK : Hid (∀ psg, descsOf psg = R → szG (descsOf psg) ≤ 1048577) := fun psg h => by rw [h]; unfold szA at hzR; omega
  have HRR : Hid (eqA R Rl Rs R Rl Rs = true) := eqA_refl _ _ _
  clear hR hRl hRs hzR

  clear hz0 hx0 hl0
  go_wp2_with fail
  refine (U0.out _ (h0.ext eb)).mono ?_; rintro _ wsa ⟨AXs0, CXs0, LXs0, EXs0, rfl, r0, ssa⟩
  replace B0 := fun w' (e : Ext _ w') => B0 w' (Ext.trans ssa e)
  replace eb := eb.trans ssa; clear ssa
  go_wp2_with fail
  refine (CS.out _ _ _ _ _ r0).mono ?_; rintro _ ws ⟨As, Cs, Ls, Es, pss, rfl, qs, hps, ds, ts⟩
  clear r0 hps ds
  replace B0 := fun w' (e : Ext _ w') => B0 w' (Ext.trans ts e)
  replace eb := eb.trans ts; clear ts
  have Bws := fun w' (e : Ext (ws.alloc (.cells #[.slice As R.length Cs, .slice Ls Rl.length Es, .int .i64 Rs] 53)) w') => boxed e
  have tws := Ext_alloc (.cells #[.slice As R.length Cs, .slice Ls Rl.length Es, .int .i64 Rs] 53) (Ext.refl ws)
  have bws := Box.new ws #[.slice As R.length Cs, .slice Ls Rl.length Es, .int .i64 Rs] 53
  have halws : (ws.alloc (.cells #[.slice As R.length Cs, .slice Ls Rl.length Es, .int .i64 Rs] 53)).heap.size = ws.heap.size + 1 := by simp
  have halws := Lib.hid halws
  replace B0 := fun w' (e : Ext _ w') => B0 w' (Ext.trans tws e)
  replace qs := qs.ext tws
  replace eb := eb.trans tws; clear tws
  clear bws halws
  have EB := Lib.hid eb; have QS := Lib.hid qs; have CB0 := Lib.hid B0; have CBws := Lib.hid Bws
  have E0 := Ext.refl (ws.alloc (.cells #[.slice As R.length Cs, .slice Ls Rl.length Es, .int .i64 Rs] 53))
  go_wp2_with fail
  refine (UO0.out _ (h0.ext eb)).mono ?_; rintro _ wx0 ⟨AP0, CP0, LP0, EP0, ps0, rfl, rx0, hp0, dm0, sx0⟩
  have hlo0 := Lib.hid E0.size; have hhi0 := Lib.hid sx0.size; have hp0 := Lib.hid hp0
  replace B0 := fun w' (e : Ext _ w') => B0 w' (Ext.trans sx0 e)
  replace Bws := fun w' (e : Ext _ w') => Bws w' (Ext.trans sx0 e)
  replace qs := qs.ext sx0
  replace eb := eb.trans sx0; replace E0 := E0.trans sx0; clear sx0
  have Bx0 := fun w' (e : Ext (wx0.alloc (.cells #[.slice AP0 ds0.length CP0, .slice LP0 l0.length EP0, .int .i64 s0] 53)) w') => boxed e
  have tx0 := Ext_alloc (.cells #[.slice AP0 ds0.length CP0, .slice LP0 l0.length EP0, .int .i64 s0] 53) (Ext.refl wx0)
  have bx0 := Box.new wx0 #[.slice AP0 ds0.length CP0, .slice LP0 l0.length EP0, .int .i64 s0] 53
  have halx0 : (wx0.alloc (.cells #[.slice AP0 ds0.length CP0, .slice LP0 l0.length EP0, .int .i64 s0] 53)).heap.size = wx0.heap.size + 1 := by simp
  have halx0 := Lib.hid halx0
  replace B0 := fun w' (e : Ext _ w') => B0 w' (Ext.trans tx0 e)
  replace Bws := fun w' (e : Ext _ w') => Bws w' (Ext.trans tx0 e)
  replace qs := qs.ext tx0
  replace rx0 := rx0.ext tx0
  replace dm0 := dm0.ext tx0
  replace eb := eb.trans tx0; replace E0 := E0.trans tx0; clear tx0
  have hgl : (wx0.alloc (.cells #[.slice AP0 ds0.length CP0, .slice LP0 l0.length EP0, .int .i64 s0] 53)).heap.size ≤ (wx0.alloc (.cells #[.slice AP0 ds0.length CP0, .slice LP0 l0.length EP0, .int .i64 s0] 53)).heap.size := Nat.le_refl _
  have hgl := Lib.hid hgl
  go_wp2_with fail
  refine (CI.out _ _ _ _ _ rx0).mono ?_; rintro _ wg ⟨Ag, Cg, Lg, Eg, psg, rfl, qg, hpg, dg, sg⟩
  have hlog := Lib.hid E0.size; have hhig := Lib.hid sg.size; have hpg := Lib.hid hpg
  replace B0 := fun w' (e : Ext _ w') => B0 w' (Ext.trans sg e)
  replace Bws := fun w' (e : Ext _ w') => Bws w' (Ext.trans sg e)
  replace Bx0 := fun w' (e : Ext _ w') => Bx0 w' (Ext.trans sg e)
  replace qs := qs.ext sg
  replace rx0 := rx0.ext sg
  replace dm0 := dm0.ext sg
  replace bx0 := bx0.ext sg
  replace eb := eb.trans sg; replace E0 := E0.trans sg; clear sg
  have Bg := fun w' (e : Ext (wg.alloc (.cells #[.slice Ag R.length Cg, .slice Lg Rl.length Eg, .int .i64 Rs] 53)) w') => boxed e
  have tg := Ext_alloc (.cells #[.slice Ag R.length Cg, .slice Lg Rl.length Eg, .int .i64 Rs] 53) (Ext.refl wg)
  have bg := Box.new wg #[.slice Ag R.length Cg, .slice Lg Rl.length Eg, .int .i64 Rs] 53
  have halg : (wg.alloc (.cells #[.slice Ag R.length Cg, .slice Lg Rl.length Eg, .int .i64 Rs] 53)).heap.size = wg.heap.size + 1 := by simp
  have halg := Lib.hid halg
  replace B0 := fun w' (e : Ext _ w') => B0 w' (Ext.trans tg e)
  replace Bws := fun w' (e : Ext _ w') => Bws w' (Ext.trans tg e)
  replace Bx0 := fun w' (e : Ext _ w') => Bx0 w' (Ext.trans tg e)
  replace qs := qs.ext tg
  replace rx0 := rx0.ext tg
  replace qg := qg.ext tg
  replace dm0 := dm0.ext tg
  replace bx0 := bx0.ext tg
  replace dg := dg.ext tg
  replace eb := eb.trans tg; replace E0 := E0.trans tg; clear tg
  go_wp2_with fail
  refine (eqArchive_c _ _ _ _ _ _ _ _ _ _ _ _ _ _ _ qg qs SR.out SR.out).mono ?_; rintro _ we ⟨rfl, se⟩; rw [HRR.out]
  replace B0 := fun w' (e : Ext _ w') => B0 w' (Ext.trans se e)
  replace Bws := fun w' (e : Ext _ w') => Bws w' (Ext.trans se e)
  replace Bx0 := fun w' (e : Ext _ w') => Bx0 w' (Ext.trans se e)
  replace Bg := fun w' (e : Ext _ w') => Bg w' (Ext.trans se e)
  replace qs := qs.ext se
  replace rx0 := rx0.ext se
  replace qg := qg.ext se
  replace dm0 := dm0.ext se
  replace bx0 := bx0.ext se
  replace dg := dg.ext se
  replace bg := bg.ext se
  replace eb := eb.trans se; replace E0 := E0.trans se; clear se
  have HE0 : Hid (eqA ds0 l0 s0 ds0 l0 s0 = true) := eqA_refl ds0 l0 s0
  go_wp2_with fail
  go_region_held3 (fun w' => Ext we w') (first | assumption | exact Ext_drew (Ext.refl _) | exact Ext.trans (by assumption) (by assumption)) (first
    | (go_at_call 23; refine (U0.out _ (h0.ext (eb.trans (by assumption)))).mono ?_; rintro _ w10 ⟨AX0, CX0, LX0, EX0, rfl, r0, s10⟩)
    | (go_at_call 25; refine (eqArchive_c _ _ _ _ _ _ _ _ _ _ _ _ _ _ _ (rx0.ext (by assumption)) r0 SD0.out SD0.out).mono ?_; rintro _ wf0 ⟨rfl, s20⟩; rw [HE0.out]))
  have sf0 : Ext we wf0 := by assumption
  clear r0 s10 s20
  replace B0 := fun w' (e : Ext _ w') => B0 w' (Ext.trans sf0 e)
  replace Bws := fun w' (e : Ext _ w') => Bws w' (Ext.trans sf0 e)
  replace Bx0 := fun w' (e : Ext _ w') => Bx0 w' (Ext.trans sf0 e)
  replace Bg := fun w' (e : Ext _ w') => Bg w' (Ext.trans sf0 e)
  replace qs := qs.ext sf0
  replace rx0 := rx0.ext sf0
  replace qg := qg.ext sf0
  replace dm0 := dm0.ext sf0
  replace bx0 := bx0.ext sf0
  replace dg := dg.ext sf0
  replace bg := bg.ext sf0
  replace eb := eb.trans sf0; replace E0 := E0.trans sf0; clear sf0
  clear B0 Bws Bx0 Bg qs qg rx0 eb
  have z00 := (bx0.cell 0)
  have z01 := (bx0.cell 1)
  have z02 := (bx0.cell 2)
  simp only [List.getElem?_toArray, List.getElem?_cons_zero, List.getElem?_cons_succ] at z00 z01 z02
  have hql0 : ds0.length = ps0.length := by rw [← hp0.out]; simp [descsOf]
  have HQL0 := Lib.hid hql0; clear hql0
  go_wp2_with fail
  refine (markArch_c _ _ _ ps0 _ _ _ _ 1 _ _ _ HQL0.out rfl dm0 (by rw [hp0.out]; have := SH0.out; unfold szA at this; omega) (by have := SH0.out; unfold szA at this; omega) (by omega) (by omega)).mono ?_; rintro _ wm0 ⟨k0, hk0a, hk0b, rfl, hm0⟩
  replace dg := dg.wrote hm0 (.inr (by have := hlo0.out; have := hhi0.out; have := halx0.out; have := hgl.out; have := hlog.out; have := hhig.out; have := halg.out; omega))
  replace bg := Box.wrote bg hm0 (by have := hlo0.out; have := hhi0.out; have := halx0.out; have := hgl.out; have := hlog.out; have := hhig.out; have := halg.out; omega)
  replace E0 := hm0.below E0 (by have := hlo0.out; have := hhi0.out; have := halx0.out; have := hgl.out; have := hlog.out; have := hhig.out; have := halg.out; omega)
  clear z00 z01 z02 hm0 dm0 bx0
  have qg := amade_rd dg hpg.out HSZ.out SR.out
  have qs := QS.out.ext E0; have eb := EB.out.trans E0
  have B0 := fun w' (e : Ext wm0 w') => CB0.out w' (Ext.trans E0 e); have Bws := fun w' (e : Ext wm0 w') => CBws.out w' (Ext.trans E0 e); have Bg := fun w' (e : Ext wm0 w') => (bg.ext e).cell
  go_wp2_with fail
  refine (eqArchive_c _ _ _ _ _ _ _ _ _ _ _ _ _ _ _ qg qs SR.out SR.out).mono ?_; rintro _ wn ⟨rfl, sn⟩; rw [HRR.out]
  replace B0 := fun w' (e : Ext _ w') => B0 w' (Ext.trans sn e)
  replace Bws := fun w' (e : Ext _ w') => Bws w' (Ext.trans sn e)
  replace Bg := fun w' (e : Ext _ w') => Bg w' (Ext.trans sn e)
  replace qs := qs.ext sn
  replace qg := qg.ext sn
  replace dg := dg.ext sn
  replace bg := bg.ext sn
  replace eb := eb.trans sn; replace E0 := E0.trans sn; clear sn
  clear B0 Bws Bg qs qg eb
  have zg0 := (bg.cell 0)
  have zg1 := (bg.cell 1)
  have zg2 := (bg.cell 2)
  simp only [List.getElem?_toArray, List.getElem?_cons_zero, List.getElem?_cons_succ] at zg0 zg1 zg2
  have hgn : R.length = psg.length := by rw [← hpg.out]; simp [descsOf]
  have HGN := Lib.hid hgn; clear hgn
  have hgs : ∀ q ∈ psg, ∀ p ∈ q.2, ShortR p.r := fun q hq p hp => SRg.out (rulesOf q.2) (by rw [← hpg.out]; exact List.mem_map_of_mem (f := fun q : Value × List RV => rulesOf q.2) hq) p.r (List.mem_map_of_mem hp)
  have HGS := Lib.hid hgs; clear hgs
  go_wp2_with fail
  refine (markArchK_c _ _ _ psg _ _ _ _ 1 _ _ _ HGN.out rfl dg (HMK.out psg hpg.out) HLR.out (by omega) (by omega)).mono ?_; rintro _ wr ⟨rfl, dk, hmg⟩
  have bg' := Box.wrote bg hmg (by have := hlo0.out; have := hhi0.out; have := halx0.out; have := hgl.out; have := hlog.out; have := hhig.out; have := halg.out; omega)
  replace E0 := hmg.below E0 (by have := hlo0.out; have := hhi0.out; have := halx0.out; have := hgl.out; have := hlog.out; have := hhig.out; have := halg.out; omega)
  clear zg0 zg1 zg2 hmg dg bg
  have qs := QS.out.ext E0; have eb := EB.out.trans E0
  have B0 := fun w' (e : Ext wr w') => CB0.out w' (Ext.trans E0 e); have Bws := fun w' (e : Ext wr w') => CBws.out w' (Ext.trans E0 e); have Bg := fun w' (e : Ext wr w') => (bg'.ext e).cell
  clear E0 QS EB CB0 CBws
  have hke : kEndG 1 psg ≤ 200000000 := by have := kEndG_le 1 psg; have := HMK.out psg hpg.out; unfold szG at this; omega
  have hkn : psg.length ≤ 1048577 := by have := HMK.out psg hpg.out; unfold szG at this; simp only [descsOf, List.length_map] at this; omega
  have hkl : Rl.length ≤ 1048577 := HLR.out
  have HD := Lib.hid (fun (lo hi : Nat) w' (h : AMarked lo hi w' (.slice Ag R.length Cg) psg (.slice Lg Rl.length Eg) Rl.length 1) => heldArch_c Ag R.length Cg psg Lg Rl.length Eg Rs 1 lo hi w' HGN.out h HGS.out (by omega) hke hkn hkl)
  clear hke hkn
  generalize hKK : kEndG 1 psg + Rl.length = K at *
  have HKK := Lib.hid hKK; clear hKK
  unfold varch at HD
  go_wp2_with fail
  refine (HD.out _ _ _ dk).mono ?_; rintro _ wh ⟨rfl, sh⟩
  replace B0 := fun w' (e : Ext _ w') => B0 w' (Ext.trans sh e)
  replace Bws := fun w' (e : Ext _ w') => Bws w' (Ext.trans sh e)
  replace Bg := fun w' (e : Ext _ w') => Bg w' (Ext.trans sh e)
  replace qs := qs.ext sh
  replace dk := dk.ext sh
  replace eb := eb.trans sh; clear sh
  go_wp2_with fail
  refine (U0.out _ (h0.ext eb)).mono ?_; rintro _ wla ⟨AXl0, CXl0, LXl0, EXl0, rfl, r0, sla⟩
  replace B0 := fun w' (e : Ext _ w') => B0 w' (Ext.trans sla e)
  replace Bws := fun w' (e : Ext _ w') => Bws w' (Ext.trans sla e)
  replace Bg := fun w' (e : Ext _ w') => Bg w' (Ext.trans sla e)
  replace qs := qs.ext sla
  replace dk := dk.ext sla
  replace eb := eb.trans sla; clear sla
  go_wp2_with fail
  refine (CI.out _ _ _ _ _ r0).mono ?_; rintro _ wl ⟨Al, Cl, Ll, El, psl, rfl, ql, hpl, dl, tl⟩
  clear r0 hpl dl
  replace B0 := fun w' (e : Ext _ w') => B0 w' (Ext.trans tl e)
  replace Bws := fun w' (e : Ext _ w') => Bws w' (Ext.trans tl e)
  replace Bg := fun w' (e : Ext _ w') => Bg w' (Ext.trans tl e)
  replace qs := qs.ext tl
  replace dk := dk.ext tl
  replace eb := eb.trans tl; clear tl
  have Bl := fun w' (e : Ext (wl.alloc (.cells #[.slice Al R.length Cl, .slice Ll Rl.length El, .int .i64 Rs] 53)) w') => boxed e
  have tl := Ext_alloc (.cells #[.slice Al R.length Cl, .slice Ll Rl.length El, .int .i64 Rs] 53) (Ext.refl wl)
  have bl := Box.new wl #[.slice Al R.length Cl, .slice Ll Rl.length El, .int .i64 Rs] 53
  have hall : (wl.alloc (.cells #[.slice Al R.length Cl, .slice Ll Rl.length El, .int .i64 Rs] 53)).heap.size = wl.heap.size + 1 := by simp
  have hall := Lib.hid hall
  replace B0 := fun w' (e : Ext _ w') => B0 w' (Ext.trans tl e)
  replace Bws := fun w' (e : Ext _ w') => Bws w' (Ext.trans tl e)
  replace Bg := fun w' (e : Ext _ w') => Bg w' (Ext.trans tl e)
  replace qs := qs.ext tl
  replace ql := ql.ext tl
  replace dk := dk.ext tl
  replace eb := eb.trans tl; clear tl
  clear bl hall
  go_wp2_with fail
  refine (eqArchive_c _ _ _ _ _ _ _ _ _ _ _ _ _ _ _ ql qs SR.out SR.out).mono ?_; rintro _ wp ⟨rfl, sp⟩; rw [HRR.out]
  replace B0 := fun w' (e : Ext _ w') => B0 w' (Ext.trans sp e)
  replace Bws := fun w' (e : Ext _ w') => Bws w' (Ext.trans sp e)
  replace Bg := fun w' (e : Ext _ w') => Bg w' (Ext.trans sp e)
  replace Bl := fun w' (e : Ext _ w') => Bl w' (Ext.trans sp e)
  replace qs := qs.ext sp
  replace ql := ql.ext sp
  replace dk := dk.ext sp
  replace eb := eb.trans sp; clear sp
  go_wp2_with fail
  refine (HD.out _ _ _ dk).mono ?_; rintro _ wq ⟨rfl, sq⟩
  go_wp2
  go_ret
  exact ⟨rfl, eb.trans sq⟩
set_option maxRecDepth 100000 in
set_option maxHeartbeats 8000000 in
theorem lawCrashArchive_c (A0 : Option Addr) (ds0 : List (List DRule)) (c0 : Nat) (L0 : Option Addr) (l0 : List UInt8) (e0 : Nat) (s0 : Int) (n1 : Int) (w : World) (h0 : RdA w A0 ds0 c0 L0 l0 e0) (hw0 : WfG ds0) (hn1 : (Lit.int .i64 n1).wf = true) :
    Gives Try.prog 5 #[varch (.slice A0 ds0.length c0) (.slice L0 l0.length e0) s0, .int .i64 n1] w (.bool true) := by
  have eb := (Ext_alloc (.cells #[.slice A0 ds0.length c0, .slice L0 l0.length e0, .int .i64 s0] 49) (Ext.refl w))
  have B0 := fun w' (e : Ext (w.alloc (.cells #[.slice A0 ds0.length c0, .slice L0 l0.length e0, .int .i64 s0] 49)) w') => boxed e
  have Z0 := Lib.hid (fun left w h h0 h1 => szArchive_c A0 ds0 c0 L0 l0 e0 s0 left w h hw0 h0 h1)
  have T0 := Lib.hid (fun w h hz => toArch_r A0 ds0 c0 L0 l0 e0 s0 w h hz); have TO0 := Lib.hid (fun w h hz => toArch_o A0 ds0 c0 L0 l0 e0 s0 w h hz)
  have hz0 := szN_lo (szA ds0 l0) (1048576)
  have hx0 : ¬ szN (szA ds0 l0) (1048576) < 0 → (1048576 : Int) ≤ 1048576 → (szA ds0 l0) ≤ 1048576 := fun a b => szN_small a b
  generalize hzz0 : szN (szA ds0 l0) (1048576) = z0 at *
  have HZ0 := Lib.hid hzz0; clear hzz0
  unfold varch at *
  go_enter Try.func5, Try.ntmps5
  go_wp2_with fail
  refine (Z0.out _ _ (h0.ext eb) (by omega) (by omega)).mono ?_; rintro _ wz0 ⟨rfl, sz0⟩
  rw [HZ0.out]
  replace B0 := fun w' (e : Ext _ w') => B0 w' (Ext.trans sz0 e)
  replace eb := eb.trans sz0; clear sz0
  by_cases d0 : z0 < 0
  · go_wp2
    go_ret
    exact ⟨rfl, eb⟩
  have hl0 := hx0 (by omega) (by omega)
  have U0 := Lib.hid (fun w h => T0.out w h hl0); clear T0; have UO0 := Lib.hid (fun w h => TO0.out w h hl0); clear TO0; have SH0 := Lib.hid hl0; have SD0 := Lib.hid (shortA_of hl0)
  obtain ⟨R, hR⟩ : ∃ R, R = ds0 := ⟨_, rfl⟩
  obtain ⟨Rl, hRl⟩ : ∃ Rl, Rl = l0.take (crashEnd l0 s0 n1) := ⟨_, rfl⟩
  obtain ⟨Rs, hRs⟩ : ∃ Rs, Rs = crashAt l0 s0 n1 := ⟨_, rfl⟩
  have CS : Hid (∀ A C L E w, RdA w A ds0 C L l0 E → Calls Try.prog 28 #[.agg #[.slice A ds0.length C, .slice L l0.length E, .int .i64 s0], .int .i64 n1] w fun e' w' => ∃ A1 c1 A2 c2 ps, e' = .returned (.agg #[.slice A1 R.length c1, .slice A2 Rl.length c2, .int .i64 Rs]) ∧ RdA w' A1 R c1 A2 Rl c2 ∧ descsOf ps = R ∧ AMade w.heap.size w'.heap.size w' (.slice A1 R.length c1) ps (.slice A2 Rl.length c2) Rl ∧ Ext w w') := by
    rw [hR, hRl, hRs]; exact fun A C L E w r => sCrashArchive_c A ds0 C L l0 E s0 n1 w r SH0.out
  have CI : Hid (∀ A C L E w, RdA w A ds0 C L l0 E → Calls Try.prog 29 #[.agg #[.slice A ds0.length C, .slice L l0.length E, .int .i64 s0], .int .i64 n1] w fun e' w' => ∃ A1 c1 A2 c2 ps, e' = .returned (.agg #[.slice A1 R.length c1, .slice A2 Rl.length c2, .int .i64 Rs]) ∧ RdA w' A1 R c1 A2 Rl c2 ∧ descsOf ps = R ∧ AMade w.heap.size w'.heap.size w' (.slice A1 R.length c1) ps (.slice A2 Rl.length c2) Rl ∧ Ext w w') := by
    rw [hR, hRl, hRs]; exact fun A C L E w r => iCrashArchive_c A ds0 C L l0 E s0 n1 w r SH0.out
  have hzR : szA R Rl ≤ 1048576 := by
    rw [hR]; have h2 := SH0.out; unfold szA at *
    have h1 : Rl.length ≤ l0.length := by rw [hRl]; first | exact Nat.le_refl _ | exact List.length_take_le' _ _
    omega
  have SR := Lib.hid (shortA_of hzR); have SRg := Lib.hid (shortA_of hzR).g
  have HSZ : Hid (szA R Rl ≤ 1048577) := by show _ ≤ _; omega
  have HLR : Hid (Rl.length ≤ 1048577) := by show _ ≤ _; unfold szA at hzR; omega
  have HMK : Hid (∀ psg, descsOf psg = R → szG (descsOf psg) ≤ 1048577) := fun psg h => by rw [h]; unfold szA at hzR; omega
  have HRR : Hid (eqA R Rl Rs R Rl Rs = true) := eqA_refl _ _ _
  clear hR hRl hRs hzR

  clear hz0 hx0 hl0
  go_wp2_with fail
  refine (U0.out _ (h0.ext eb)).mono ?_; rintro _ wsa ⟨AXs0, CXs0, LXs0, EXs0, rfl, r0, ssa⟩
  replace B0 := fun w' (e : Ext _ w') => B0 w' (Ext.trans ssa e)
  replace eb := eb.trans ssa; clear ssa
  go_wp2_with fail
  refine (CS.out _ _ _ _ _ r0).mono ?_; rintro _ ws ⟨As, Cs, Ls, Es, pss, rfl, qs, hps, ds, ts⟩
  clear r0 hps ds
  replace B0 := fun w' (e : Ext _ w') => B0 w' (Ext.trans ts e)
  replace eb := eb.trans ts; clear ts
  have Bws := fun w' (e : Ext (ws.alloc (.cells #[.slice As R.length Cs, .slice Ls Rl.length Es, .int .i64 Rs] 53)) w') => boxed e
  have tws := Ext_alloc (.cells #[.slice As R.length Cs, .slice Ls Rl.length Es, .int .i64 Rs] 53) (Ext.refl ws)
  have bws := Box.new ws #[.slice As R.length Cs, .slice Ls Rl.length Es, .int .i64 Rs] 53
  have halws : (ws.alloc (.cells #[.slice As R.length Cs, .slice Ls Rl.length Es, .int .i64 Rs] 53)).heap.size = ws.heap.size + 1 := by simp
  have halws := Lib.hid halws
  replace B0 := fun w' (e : Ext _ w') => B0 w' (Ext.trans tws e)
  replace qs := qs.ext tws
  replace eb := eb.trans tws; clear tws
  clear bws halws
  have EB := Lib.hid eb; have QS := Lib.hid qs; have CB0 := Lib.hid B0; have CBws := Lib.hid Bws
  have E0 := Ext.refl (ws.alloc (.cells #[.slice As R.length Cs, .slice Ls Rl.length Es, .int .i64 Rs] 53))
  go_wp2_with fail
  refine (UO0.out _ (h0.ext eb)).mono ?_; rintro _ wx0 ⟨AP0, CP0, LP0, EP0, ps0, rfl, rx0, hp0, dm0, sx0⟩
  have hlo0 := Lib.hid E0.size; have hhi0 := Lib.hid sx0.size; have hp0 := Lib.hid hp0
  replace B0 := fun w' (e : Ext _ w') => B0 w' (Ext.trans sx0 e)
  replace Bws := fun w' (e : Ext _ w') => Bws w' (Ext.trans sx0 e)
  replace qs := qs.ext sx0
  replace eb := eb.trans sx0; replace E0 := E0.trans sx0; clear sx0
  have Bx0 := fun w' (e : Ext (wx0.alloc (.cells #[.slice AP0 ds0.length CP0, .slice LP0 l0.length EP0, .int .i64 s0] 53)) w') => boxed e
  have tx0 := Ext_alloc (.cells #[.slice AP0 ds0.length CP0, .slice LP0 l0.length EP0, .int .i64 s0] 53) (Ext.refl wx0)
  have bx0 := Box.new wx0 #[.slice AP0 ds0.length CP0, .slice LP0 l0.length EP0, .int .i64 s0] 53
  have halx0 : (wx0.alloc (.cells #[.slice AP0 ds0.length CP0, .slice LP0 l0.length EP0, .int .i64 s0] 53)).heap.size = wx0.heap.size + 1 := by simp
  have halx0 := Lib.hid halx0
  replace B0 := fun w' (e : Ext _ w') => B0 w' (Ext.trans tx0 e)
  replace Bws := fun w' (e : Ext _ w') => Bws w' (Ext.trans tx0 e)
  replace qs := qs.ext tx0
  replace rx0 := rx0.ext tx0
  replace dm0 := dm0.ext tx0
  replace eb := eb.trans tx0; replace E0 := E0.trans tx0; clear tx0
  have hgl : (wx0.alloc (.cells #[.slice AP0 ds0.length CP0, .slice LP0 l0.length EP0, .int .i64 s0] 53)).heap.size ≤ (wx0.alloc (.cells #[.slice AP0 ds0.length CP0, .slice LP0 l0.length EP0, .int .i64 s0] 53)).heap.size := Nat.le_refl _
  have hgl := Lib.hid hgl
  go_wp2_with fail
  refine (CI.out _ _ _ _ _ rx0).mono ?_; rintro _ wg ⟨Ag, Cg, Lg, Eg, psg, rfl, qg, hpg, dg, sg⟩
  have hlog := Lib.hid E0.size; have hhig := Lib.hid sg.size; have hpg := Lib.hid hpg
  replace B0 := fun w' (e : Ext _ w') => B0 w' (Ext.trans sg e)
  replace Bws := fun w' (e : Ext _ w') => Bws w' (Ext.trans sg e)
  replace Bx0 := fun w' (e : Ext _ w') => Bx0 w' (Ext.trans sg e)
  replace qs := qs.ext sg
  replace rx0 := rx0.ext sg
  replace dm0 := dm0.ext sg
  replace bx0 := bx0.ext sg
  replace eb := eb.trans sg; replace E0 := E0.trans sg; clear sg
  have Bg := fun w' (e : Ext (wg.alloc (.cells #[.slice Ag R.length Cg, .slice Lg Rl.length Eg, .int .i64 Rs] 53)) w') => boxed e
  have tg := Ext_alloc (.cells #[.slice Ag R.length Cg, .slice Lg Rl.length Eg, .int .i64 Rs] 53) (Ext.refl wg)
  have bg := Box.new wg #[.slice Ag R.length Cg, .slice Lg Rl.length Eg, .int .i64 Rs] 53
  have halg : (wg.alloc (.cells #[.slice Ag R.length Cg, .slice Lg Rl.length Eg, .int .i64 Rs] 53)).heap.size = wg.heap.size + 1 := by simp
  have halg := Lib.hid halg
  replace B0 := fun w' (e : Ext _ w') => B0 w' (Ext.trans tg e)
  replace Bws := fun w' (e : Ext _ w') => Bws w' (Ext.trans tg e)
  replace Bx0 := fun w' (e : Ext _ w') => Bx0 w' (Ext.trans tg e)
  replace qs := qs.ext tg
  replace rx0 := rx0.ext tg
  replace qg := qg.ext tg
  replace dm0 := dm0.ext tg
  replace bx0 := bx0.ext tg
  replace dg := dg.ext tg
  replace eb := eb.trans tg; replace E0 := E0.trans tg; clear tg
  go_wp2_with fail
  refine (eqArchive_c _ _ _ _ _ _ _ _ _ _ _ _ _ _ _ qg qs SR.out SR.out).mono ?_; rintro _ we ⟨rfl, se⟩; rw [HRR.out]
  replace B0 := fun w' (e : Ext _ w') => B0 w' (Ext.trans se e)
  replace Bws := fun w' (e : Ext _ w') => Bws w' (Ext.trans se e)
  replace Bx0 := fun w' (e : Ext _ w') => Bx0 w' (Ext.trans se e)
  replace Bg := fun w' (e : Ext _ w') => Bg w' (Ext.trans se e)
  replace qs := qs.ext se
  replace rx0 := rx0.ext se
  replace qg := qg.ext se
  replace dm0 := dm0.ext se
  replace bx0 := bx0.ext se
  replace dg := dg.ext se
  replace bg := bg.ext se
  replace eb := eb.trans se; replace E0 := E0.trans se; clear se
  have HE0 : Hid (eqA ds0 l0 s0 ds0 l0 s0 = true) := eqA_refl ds0 l0 s0
  go_wp2_with fail
  go_region_held3 (fun w' => Ext we w') (first | assumption | exact Ext_drew (Ext.refl _) | exact Ext.trans (by assumption) (by assumption)) (first
    | (go_at_call 23; refine (U0.out _ (h0.ext (eb.trans (by assumption)))).mono ?_; rintro _ w10 ⟨AX0, CX0, LX0, EX0, rfl, r0, s10⟩)
    | (go_at_call 25; refine (eqArchive_c _ _ _ _ _ _ _ _ _ _ _ _ _ _ _ (rx0.ext (by assumption)) r0 SD0.out SD0.out).mono ?_; rintro _ wf0 ⟨rfl, s20⟩; rw [HE0.out]))
  have sf0 : Ext we wf0 := by assumption
  clear r0 s10 s20
  replace B0 := fun w' (e : Ext _ w') => B0 w' (Ext.trans sf0 e)
  replace Bws := fun w' (e : Ext _ w') => Bws w' (Ext.trans sf0 e)
  replace Bx0 := fun w' (e : Ext _ w') => Bx0 w' (Ext.trans sf0 e)
  replace Bg := fun w' (e : Ext _ w') => Bg w' (Ext.trans sf0 e)
  replace qs := qs.ext sf0
  replace rx0 := rx0.ext sf0
  replace qg := qg.ext sf0
  replace dm0 := dm0.ext sf0
  replace bx0 := bx0.ext sf0
  replace dg := dg.ext sf0
  replace bg := bg.ext sf0
  replace eb := eb.trans sf0; replace E0 := E0.trans sf0; clear sf0
  clear B0 Bws Bx0 Bg qs qg rx0 eb
  have z00 := (bx0.cell 0)
  have z01 := (bx0.cell 1)
  have z02 := (bx0.cell 2)
  simp only [List.getElem?_toArray, List.getElem?_cons_zero, List.getElem?_cons_succ] at z00 z01 z02
  have hql0 : ds0.length = ps0.length := by rw [← hp0.out]; simp [descsOf]
  have HQL0 := Lib.hid hql0; clear hql0
  go_wp2_with fail
  refine (markArch_c _ _ _ ps0 _ _ _ _ 1 _ _ _ HQL0.out rfl dm0 (by rw [hp0.out]; have := SH0.out; unfold szA at this; omega) (by have := SH0.out; unfold szA at this; omega) (by omega) (by omega)).mono ?_; rintro _ wm0 ⟨k0, hk0a, hk0b, rfl, hm0⟩
  replace dg := dg.wrote hm0 (.inr (by have := hlo0.out; have := hhi0.out; have := halx0.out; have := hgl.out; have := hlog.out; have := hhig.out; have := halg.out; omega))
  replace bg := Box.wrote bg hm0 (by have := hlo0.out; have := hhi0.out; have := halx0.out; have := hgl.out; have := hlog.out; have := hhig.out; have := halg.out; omega)
  replace E0 := hm0.below E0 (by have := hlo0.out; have := hhi0.out; have := halx0.out; have := hgl.out; have := hlog.out; have := hhig.out; have := halg.out; omega)
  clear z00 z01 z02 hm0 dm0 bx0
  have qg := amade_rd dg hpg.out HSZ.out SR.out
  have qs := QS.out.ext E0; have eb := EB.out.trans E0
  have B0 := fun w' (e : Ext wm0 w') => CB0.out w' (Ext.trans E0 e); have Bws := fun w' (e : Ext wm0 w') => CBws.out w' (Ext.trans E0 e); have Bg := fun w' (e : Ext wm0 w') => (bg.ext e).cell
  go_wp2_with fail
  refine (eqArchive_c _ _ _ _ _ _ _ _ _ _ _ _ _ _ _ qg qs SR.out SR.out).mono ?_; rintro _ wn ⟨rfl, sn⟩; rw [HRR.out]
  replace B0 := fun w' (e : Ext _ w') => B0 w' (Ext.trans sn e)
  replace Bws := fun w' (e : Ext _ w') => Bws w' (Ext.trans sn e)
  replace Bg := fun w' (e : Ext _ w') => Bg w' (Ext.trans sn e)
  replace qs := qs.ext sn
  replace qg := qg.ext sn
  replace dg := dg.ext sn
  replace bg := bg.ext sn
  replace eb := eb.trans sn; replace E0 := E0.trans sn; clear sn
  clear B0 Bws Bg qs qg eb
  have zg0 := (bg.cell 0)
  have zg1 := (bg.cell 1)
  have zg2 := (bg.cell 2)
  simp only [List.getElem?_toArray, List.getElem?_cons_zero, List.getElem?_cons_succ] at zg0 zg1 zg2
  have hgn : R.length = psg.length := by rw [← hpg.out]; simp [descsOf]
  have HGN := Lib.hid hgn; clear hgn
  have hgs : ∀ q ∈ psg, ∀ p ∈ q.2, ShortR p.r := fun q hq p hp => SRg.out (rulesOf q.2) (by rw [← hpg.out]; exact List.mem_map_of_mem (f := fun q : Value × List RV => rulesOf q.2) hq) p.r (List.mem_map_of_mem hp)
  have HGS := Lib.hid hgs; clear hgs
  go_wp2_with fail
  refine (markArchK_c _ _ _ psg _ _ _ _ 1 _ _ _ HGN.out rfl dg (HMK.out psg hpg.out) HLR.out (by omega) (by omega)).mono ?_; rintro _ wr ⟨rfl, dk, hmg⟩
  have bg' := Box.wrote bg hmg (by have := hlo0.out; have := hhi0.out; have := halx0.out; have := hgl.out; have := hlog.out; have := hhig.out; have := halg.out; omega)
  replace E0 := hmg.below E0 (by have := hlo0.out; have := hhi0.out; have := halx0.out; have := hgl.out; have := hlog.out; have := hhig.out; have := halg.out; omega)
  clear zg0 zg1 zg2 hmg dg bg
  have qs := QS.out.ext E0; have eb := EB.out.trans E0
  have B0 := fun w' (e : Ext wr w') => CB0.out w' (Ext.trans E0 e); have Bws := fun w' (e : Ext wr w') => CBws.out w' (Ext.trans E0 e); have Bg := fun w' (e : Ext wr w') => (bg'.ext e).cell
  clear E0 QS EB CB0 CBws
  have hke : kEndG 1 psg ≤ 200000000 := by have := kEndG_le 1 psg; have := HMK.out psg hpg.out; unfold szG at this; omega
  have hkn : psg.length ≤ 1048577 := by have := HMK.out psg hpg.out; unfold szG at this; simp only [descsOf, List.length_map] at this; omega
  have hkl : Rl.length ≤ 1048577 := HLR.out
  have HD := Lib.hid (fun (lo hi : Nat) w' (h : AMarked lo hi w' (.slice Ag R.length Cg) psg (.slice Lg Rl.length Eg) Rl.length 1) => heldArch_c Ag R.length Cg psg Lg Rl.length Eg Rs 1 lo hi w' HGN.out h HGS.out (by omega) hke hkn hkl)
  clear hke hkn
  generalize hKK : kEndG 1 psg + Rl.length = K at *
  have HKK := Lib.hid hKK; clear hKK
  unfold varch at HD
  go_wp2_with fail
  refine (HD.out _ _ _ dk).mono ?_; rintro _ wh ⟨rfl, sh⟩
  replace B0 := fun w' (e : Ext _ w') => B0 w' (Ext.trans sh e)
  replace Bws := fun w' (e : Ext _ w') => Bws w' (Ext.trans sh e)
  replace Bg := fun w' (e : Ext _ w') => Bg w' (Ext.trans sh e)
  replace qs := qs.ext sh
  replace dk := dk.ext sh
  replace eb := eb.trans sh; clear sh
  go_wp2_with fail
  refine (U0.out _ (h0.ext eb)).mono ?_; rintro _ wla ⟨AXl0, CXl0, LXl0, EXl0, rfl, r0, sla⟩
  replace B0 := fun w' (e : Ext _ w') => B0 w' (Ext.trans sla e)
  replace Bws := fun w' (e : Ext _ w') => Bws w' (Ext.trans sla e)
  replace Bg := fun w' (e : Ext _ w') => Bg w' (Ext.trans sla e)
  replace qs := qs.ext sla
  replace dk := dk.ext sla
  replace eb := eb.trans sla; clear sla
  go_wp2_with fail
  refine (CI.out _ _ _ _ _ r0).mono ?_; rintro _ wl ⟨Al, Cl, Ll, El, psl, rfl, ql, hpl, dl, tl⟩
  clear r0 hpl dl
  replace B0 := fun w' (e : Ext _ w') => B0 w' (Ext.trans tl e)
  replace Bws := fun w' (e : Ext _ w') => Bws w' (Ext.trans tl e)
  replace Bg := fun w' (e : Ext _ w') => Bg w' (Ext.trans tl e)
  replace qs := qs.ext tl
  replace dk := dk.ext tl
  replace eb := eb.trans tl; clear tl
  have Bl := fun w' (e : Ext (wl.alloc (.cells #[.slice Al R.length Cl, .slice Ll Rl.length El, .int .i64 Rs] 53)) w') => boxed e
  have tl := Ext_alloc (.cells #[.slice Al R.length Cl, .slice Ll Rl.length El, .int .i64 Rs] 53) (Ext.refl wl)
  have bl := Box.new wl #[.slice Al R.length Cl, .slice Ll Rl.length El, .int .i64 Rs] 53
  have hall : (wl.alloc (.cells #[.slice Al R.length Cl, .slice Ll Rl.length El, .int .i64 Rs] 53)).heap.size = wl.heap.size + 1 := by simp
  have hall := Lib.hid hall
  replace B0 := fun w' (e : Ext _ w') => B0 w' (Ext.trans tl e)
  replace Bws := fun w' (e : Ext _ w') => Bws w' (Ext.trans tl e)
  replace Bg := fun w' (e : Ext _ w') => Bg w' (Ext.trans tl e)
  replace qs := qs.ext tl
  replace ql := ql.ext tl
  replace dk := dk.ext tl
  replace eb := eb.trans tl; clear tl
  clear bl hall
  go_wp2_with fail
  refine (eqArchive_c _ _ _ _ _ _ _ _ _ _ _ _ _ _ _ ql qs SR.out SR.out).mono ?_; rintro _ wp ⟨rfl, sp⟩; rw [HRR.out]
  replace B0 := fun w' (e : Ext _ w') => B0 w' (Ext.trans sp e)
  replace Bws := fun w' (e : Ext _ w') => Bws w' (Ext.trans sp e)
  replace Bg := fun w' (e : Ext _ w') => Bg w' (Ext.trans sp e)
  replace Bl := fun w' (e : Ext _ w') => Bl w' (Ext.trans sp e)
  replace qs := qs.ext sp
  replace ql := ql.ext sp
  replace dk := dk.ext sp
  replace eb := eb.trans sp; clear sp
  go_wp2_with fail
  refine (HD.out _ _ _ dk).mono ?_; rintro _ wq ⟨rfl, sq⟩
  go_wp2
  go_ret
  exact ⟨rfl, eb.trans sq⟩
end Go.Proofs.Ytlaejcacembjiaa
