/- RunAt and CountRuns of the program and of the reference. -/
import Derived.Test.YtalnekcmfagjoaaCopy
import Derived.Test.YtalnekcmfagjoaaRunPure
namespace Go.Proofs.Ytalnekcmfagjoaa
open Go.RowKit Go.Sort

set_option maxHeartbeats 400000 in
theorem l1In_c (n a b : Int) (w : World) : Gives Try.prog 64 #[.int .i64 n, .int .i64 a, .int .i64 b] w (.bool (decide (a ≤ n) && decide (n ≤ b))) := by
  by_cases h : a ≤ n
  · go_enter Try.func64, Try.ntmps64
    go_wp2
    go_ret
    exact ⟨ret_bool (by simp [h]), Ext.refl _⟩
  · go_enter Try.func64, Try.ntmps64
    go_wp2
    go_ret
    exact ⟨ret_bool (by simp; omega), Ext.refl _⟩

theorem runs_step {l : List UInt8} {a k : Nat} (hlt : a + k < l.length) (ha : a < l.length) (hs : ∀ j, j < k → l[a+j]? = l[a]?) (e : l[a+k] = l[a]) : ∀ j, j < k + 1 → l[a+j]? = l[a]? := by
  intro j hj
  by_cases h : j < k
  · exact hs j h
  · obtain rfl : j = k := by omega
    rw [List.getElem?_eq_getElem hlt, List.getElem?_eq_getElem ha, e]

set_option maxHeartbeats 400000 in
theorem iRunAt_c (A : Option Addr) (l : List UInt8) (c : Nat) (i : Int) (w : World) (h : Bs w A l c) :
    Gives Try.prog 136 #[.slice A l.length c, .int .i64 i] w (.int .i64 (runAt l i)) := by
  have hl := h.len
  by_cases hi : 0 ≤ i ∧ i < l.length
  · obtain ⟨h0, h1⟩ := hi
    obtain ⟨a, rfl⟩ := Int.eq_ofNat_of_zero_le h0
    have ha : a < l.length := by omega
    have hd1 : decide ((a : Int) < 0) = false := by simp
    have hd2 : decide ((l.length : Int) ≤ (a : Int)) = false := by simp; omega
    have hd3 : decide (l.length ≤ a) = false := by simp; omega
    go_enter Try.func136, Try.ntmps136
    go_wp2
    go_loopw [5] (fun n wr => ∃ k : Nat, 1 ≤ k ∧ a + k ≤ l.length ∧ n = .int .i64 k ∧ Hid (∀ j, j < k → l[a+j]? = l[a]?) ∧ Ext w wr) (fun n _ => l.length - (intOf n).toNat)
    case atStart => exact ⟨1, by omega, by omega, rfl, (fun j hj => by rw [show j = 0 by omega]; rfl), Ext.refl _⟩
    case round =>
      obtain ⟨k, hk1, hk, rfl, hs, he⟩ := hrel
      by_cases hlt : a + k < l.length
      · obtain ⟨b, off, rfl, hb, hc⟩ := h.at a ha
        obtain ⟨b', off', e', hb', hc'⟩ := h.at (a+k) hlt
        injection e' with e'; injection e' with e1 e2; subst e1; subst e2
        have hg : decide ((a : Int) + (k : Int) < (l.length : Int)) = true := by simp; omega
        clear h
        go_wp2
        refine wp_region_quiet_below (by kernel_rfl) (by kernel_rfl) ?_
        repeat (go_big_quiet_step (fail))
        refine wpQuiet_nil ?_
        rintro _ ⟨⟨nq, osq⟩, rfl⟩
        go_wp2
        · have hne : ((l[a+k].toNat : Int) == (l[a].toNat : Int)) = true := by assumption
          go_roundw
          case rel => exact ⟨k+1, by omega, by omega, by go_num, runs_step hlt ha hs (u8_inj (by simpa using hne)), Ext_regrown _ _ he⟩
          case measure => simp [intOf]; omega
        · have hne : ((l[a+k].toNat : Int) == (l[a].toNat : Int)) = false := by assumption
          go_ret
          refine ⟨ret_i64 ?_, Ext_regrown _ _ he⟩
          rw [runAt_eq hk1 hs ha (by rw [List.getElem?_eq_getElem hlt, List.getElem?_eq_getElem ha]; simp; intro e; simp [e] at hne)]
      · have hg : decide ((a : Int) + (k : Int) < (l.length : Int)) = false := by simp; omega
        clear h
        go_wp2
        refine wp_region_quiet_below (by kernel_rfl) (by kernel_rfl) ?_
        repeat (go_big_quiet_step (fail))
        refine wpQuiet_nil ?_
        rintro _ ⟨⟨nq, osq⟩, rfl⟩
        go_wp2
        go_ret
        refine ⟨ret_i64 ?_, Ext_regrown _ _ he⟩
        rw [runAt_eq hk1 hs ha (by rw [List.getElem?_eq_none (by omega)]; simp; omega)]
  · by_cases h0 : i < 0
    · go_enter Try.func136, Try.ntmps136
      go_wp2
      go_ret
      exact ⟨ret_i64 (by rw [runAt_out hi]; rfl), Ext.refl _⟩
    · have h1 : (l.length : Int) ≤ i := by omega
      go_enter Try.func136, Try.ntmps136
      go_wp2
      go_ret
      exact ⟨ret_i64 (by rw [runAt_out hi]; rfl), Ext.refl _⟩

set_option maxHeartbeats 400000 in
theorem sRunAt_c (A : Option Addr) (l : List UInt8) (c : Nat) (i : Int) (w : World) (h : Bs w A l c) (hi : (Lit.int .i64 i).wf = true) :
    Gives Try.prog 134 #[.slice A l.length c, .int .i64 i] w (.int .i64 (runAt l i)) := by
  have hl := h.len
  by_cases hi : 0 ≤ i ∧ i < l.length
  · obtain ⟨h0, h1⟩ := hi
    obtain ⟨a, rfl⟩ := Int.eq_ofNat_of_zero_le h0
    have ha : a < l.length := by omega
    have hq : (decide ((0 : Int) ≤ (a : Int)) && decide ((a : Int) ≤ (l.length : Int) - 1)) = true := by simp; omega
    have HQ := Lib.hid hq; clear hq
    go_enter Try.func134, Try.ntmps134
    go_wp2_with (go_at_call 64; refine (l1In_c _ _ _ _).mono ?_; rintro e w1 ⟨rfl, he⟩; rw [HQ.out])
    go_loopw [5] (fun n wr => ∃ k : Nat, a + k ≤ l.length ∧ n = .int .i64 k ∧ Hid (∀ j, j < k → l[a+j]? = l[a]?) ∧ Ext w wr) (fun n _ => l.length - (intOf n).toNat)
    case atStart => exact ⟨0, by omega, rfl, (fun j hj => by omega), he⟩
    case round =>
      clear he
      obtain ⟨k, hk, rfl, hs, he⟩ := hrel
      by_cases hlt : a + k < l.length
      · obtain ⟨b, off, rfl, hb, hc⟩ := h.at a ha
        obtain ⟨b', off', e', hb', hc'⟩ := h.at (a+k) hlt
        injection e' with e'; injection e' with e1 e2; subst e1; subst e2
        have hg : decide ((a : Int) + (k : Int) < (l.length : Int)) = true := by simp; omega
        clear h
        go_wp2
        refine wp_region_quiet_below (by kernel_rfl) (by kernel_rfl) ?_
        repeat (go_big_quiet_step (fail))
        refine wpQuiet_nil ?_
        rintro _ ⟨⟨nq, osq⟩, rfl⟩
        go_wp2
        · have hne : ((l[a+k].toNat : Int) == (l[a].toNat : Int)) = true := by assumption
          go_roundw
          case rel => exact ⟨k+1, by omega, by go_num, runs_step hlt ha hs (u8_inj (by simpa using hne)), Ext_regrown _ _ he⟩
          case measure => simp [intOf]; omega
        · have hne : ((l[a+k].toNat : Int) == (l[a].toNat : Int)) = false := by assumption
          go_ret
          refine ⟨ret_i64 ?_, Ext_regrown _ _ he⟩
          rcases Nat.eq_zero_or_pos k with rfl | hk1
          · simp at hne
          rw [runAt_eq hk1 hs ha (by rw [List.getElem?_eq_getElem hlt, List.getElem?_eq_getElem ha]; simp; intro e; simp [e] at hne)]
      · have hg : decide ((a : Int) + (k : Int) < (l.length : Int)) = false := by simp; omega
        clear h
        go_wp2
        refine wp_region_quiet_below (by kernel_rfl) (by kernel_rfl) ?_
        repeat (go_big_quiet_step (fail))
        refine wpQuiet_nil ?_
        rintro _ ⟨⟨nq, osq⟩, rfl⟩
        go_wp2
        go_ret
        refine ⟨ret_i64 ?_, Ext_regrown _ _ he⟩
        rw [runAt_eq (by omega) hs ha (by rw [List.getElem?_eq_none (by omega)]; simp; omega)]
  · have hq : (decide ((0 : Int) ≤ i) && decide (i ≤ (l.length : Int) - 1)) = false := by simp; omega
    have HQ := Lib.hid hq; clear hq
    go_enter Try.func134, Try.ntmps134
    go_wp2_with (go_at_call 64; refine (l1In_c _ _ _ _).mono ?_; rintro e w1 ⟨rfl, he⟩; rw [HQ.out])
    go_ret
    exact ⟨ret_i64 (by rw [runAt_out hi]; rfl), he⟩

end Go.Proofs.Ytalnekcmfagjoaa
