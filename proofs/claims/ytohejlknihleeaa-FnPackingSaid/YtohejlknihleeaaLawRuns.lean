/- The law on runs: the runs tile the drawn bytes, and their count is CountRuns. -/
import Derived.Test.YtohejlknihleeaaDraw32
import Derived.Test.YtohejlknihleeaaRun
import Derived.Test.YtohejlknihleeaaBytes
namespace Go.Proofs.Ytohejlknihleeaa
open Go.RowKit Go.Sort

set_option maxHeartbeats 400000 in
theorem big_c (A : Option Addr) (l : List UInt8) (c : Nat) (w : World) (h : Rd0 vu8 w A l c) :
    Gives Try.prog 16 #[.slice A l.length c] w (.bool (decide ((1048576 : Int) < (l.length : Int)))) := by
  have hl := h.len
  go_enter Try.func16, Try.ntmps16
  go_wp2
  go_ret
  exact ⟨rfl, Ext.refl _⟩
set_option maxHeartbeats 400000 in
theorem drawPack_c (A : Option Addr) (l : List UInt8) (c : Nat) (w : World) (hA : Bs w A l c) :
    Calls Try.prog 28 #[.slice A l.length c] w fun e w' => ∃ v q, q.length ≤ 790 ∧ e = .returned v ∧ OwnL vu8 5 w w' v q ∧ Ext w w' := by
  go_enter Try.func28, Try.ntmps28
  go_wp2_with fail
  refine (l1New_c A l c w hA).mono ?_; rintro _ w1 ⟨p, rfl, hC⟩
  go_wp2_with fail
  refine (l32Bytes_c w w1 p A l c hA hC).mono ?_; rintro _ w2 ⟨v, q, hq, rfl, ho, _, hC2⟩
  go_wp2
  go_ret
  exact ⟨v, q, hq, rfl, ho, hC2.2.1⟩
set_option maxHeartbeats 400000 in
theorem drawRuns_c (A : Option Addr) (l : List UInt8) (c : Nat) (w : World) (hA : Bs w A l c) :
    Calls Try.prog 17 #[.slice A l.length c] w fun e w' => ∃ v q, q.length ≤ 790 ∧ e = .returned v ∧ OwnL vu8 5 w w' v q ∧ Ext w w' := by
  go_enter Try.func17, Try.ntmps17
  go_wp2_with fail
  refine (drawPack_c A l c w hA).mono ?_; rintro _ w2 ⟨v, q, hq, rfl, ho, he⟩
  go_wp2
  go_ret
  exact ⟨v, q, hq, rfl, ho, he⟩
set_option maxRecDepth 100000 in
set_option maxHeartbeats 2000000 in
theorem lawRuns_c (A : Option Addr) (l : List UInt8) (c : Nat) (w : World) (h : Rd0 vu8 w A l c) :
    Gives Try.prog 3 #[.slice A l.length c] w (.bool true) := by
  have hl := h.len
  go_enter Try.func3, Try.ntmps3
  go_wp2_with fail
  refine (big_c _ _ _ _ h).mono ?_; rintro _ w1 ⟨rfl, he1⟩
  by_cases hL : l.length ≤ 1048576
  · have hd : decide ((1048576 : Int) < (l.length : Int)) = false := by simp; omega
    rw [hd]
    go_wp2_with fail
    refine (drawRuns_c A l c w1 ⟨h.ext he1, by omega⟩).mono ?_; rintro _ w2 ⟨v, q, hq, rfl, ho, he2⟩
    obtain ⟨A1, c1, rfl, r⟩ := ho.rd (by omega); clear ho
    have he := he1.trans he2; clear he1 he2 h
    go_wp2_with fail
    go_loopw [4, 5] (fun n i wr => ∃ a k : Nat, a ≤ q.length ∧ i = .int .i64 a ∧ n = .int .i64 k ∧ Hid (k + countFrom q q.length a = countRuns q) ∧ k ≤ a ∧ Ext w2 wr) (fun _ i _ => q.length - (intOf i).toNat)
    case atStart => exact ⟨0, 0, by omega, rfl, rfl, by simp [Hid, countRuns], by omega, Ext.refl _⟩
    case round =>
      obtain ⟨a, k, ha, rfl, rfl, hs, hka, her⟩ := hrel
      by_cases hlt : a < q.length
      · obtain ⟨r1, r2, r3, r4⟩ := runAt_spec q a hlt
        have hstep := Lib.hid (countFrom_step q a hlt)
        obtain ⟨b, off, rfl, hb, hcs⟩ := r.base (by omega)
        go_wp2_with fail
        refine (iRunAt_c _ _ _ _ _ (r.ext her)).mono ?_; rintro _ w3 ⟨rfl, he3⟩
        have he23 := her.trans he3; clear her he3
        generalize runAt q a = m at *
        by_cases hm : a + m < q.length
        · have KC1 : ∀ w', Ext w3 w' → w'.cell? ⟨b, off + a, none⟩ = some (.int .u8 (q[a].toNat : Int)) := fun w' e => by
            have := hcs w' (he23.trans e) a hlt; simpa [vu8] using this
          have KC2 : ∀ w', Ext w3 w' → w'.cell? ⟨b, off + (a + m), none⟩ = some (.int .u8 (q[a+m].toNat : Int)) := fun w' e => by
            have := hcs w' (he23.trans e) (a + m) hm; simpa [vu8] using this
          have hne : ((q[a+m].toNat : Int) == (q[a].toNat : Int)) = false := beq_eq_false_iff_ne.2 (by
            intro hh
            refine r4 ?_
            rw [List.getElem?_eq_getElem hm, List.getElem?_eq_getElem hlt]
            exact congrArg some (UInt8.toNat_inj.1 (by omega)))
          have t1 : (a : Int) + (m : Int) < (q.length : Int) := by omega
          have t2 : ¬ (q.length : Int) < (a : Int) + (m : Int) := by omega
          have t3 : ¬ (m : Int) < 1 := by omega
          have t3 := decide_eq_false t3
          have t2 := decide_eq_false t2
          have t1 := decide_eq_true t1
          clear hcs r3 r4
          go_wp2_with fail
          refine wp_region_quiet_below (by kernel_rfl) (by kernel_rfl) ?_
          repeat (go_big_quiet_step (fail))
          refine wpQuiet_nil ?_
          rintro w4 ⟨⟨nq, osq⟩, hq⟩
          have ew4 := ext_of_q hq
          clear hq nq osq
          have he24 := he23.trans ew4
          go_wp2_with fail
          go_roundw
          case rel => exact ⟨a + m, k+1, by omega, by go_num, by go_num, (by have := hs.out; rw [hstep.out] at this; show _ = _; omega), by omega, he24⟩
          case measure => simp [intOf]; omega
        · have t1 : ¬ (a : Int) + (m : Int) < (q.length : Int) := by omega
          have t2 : ¬ (q.length : Int) < (a : Int) + (m : Int) := by omega
          have t3 : ¬ (m : Int) < 1 := by omega
          have t3 := decide_eq_false t3
          have t2 := decide_eq_false t2
          have t1 := decide_eq_false t1
          clear hcs r3 r4
          go_wp2_with fail
          refine wp_region_quiet_below (by kernel_rfl) (by kernel_rfl) ?_
          repeat (go_big_quiet_step (fail))
          refine wpQuiet_nil ?_
          rintro w4 ⟨⟨nq, osq⟩, hq⟩
          have ew4 := ext_of_q hq
          clear hq nq osq
          have he24 := he23.trans ew4
          go_wp2_with fail
          go_roundw
          case rel => exact ⟨a + m, k+1, by omega, by go_num, by go_num, (by have := hs.out; rw [hstep.out] at this; show _ = _; omega), by omega, he24⟩
          case measure => simp [intOf]; omega
      · have hk : countRuns q = k := by have := hs.out; rw [countFrom_end q a (by omega)] at this; omega
        have hr1 : runAt q (q.length : Int) = 0 := runAt_out (by omega)
        have hr2 : runAt q (-1) = 0 := runAt_out (by omega)
        go_wp2_with fail
        refine (iCountRuns_c _ _ _ _ (r.ext her)).mono ?_; rintro _ w3 ⟨rfl, he3⟩
        have he23 := her.trans he3; clear her he3
        rw [hk]
        go_wp2_with fail
        refine (iRunAt_c _ _ _ _ _ (r.ext he23)).mono ?_; rintro _ w4 ⟨rfl, he4⟩
        have he24 := he23.trans he4; clear he23 he4
        rw [hr1]
        go_wp2_with fail
        refine (iRunAt_c _ _ _ _ _ (r.ext he24)).mono ?_; rintro _ w5 ⟨rfl, he5⟩
        rw [hr2]
        go_wp2
        go_ret
        exact ⟨by simp, he.trans (he24.trans he5)⟩
  · have hd : decide ((1048576 : Int) < (l.length : Int)) = true := by simp; omega
    rw [hd]
    go_wp2
    go_ret
    exact ⟨rfl, he1⟩
end Go.Proofs.Ytohejlknihleeaa
