/- Min, Max, InRange. -/
import Derived.Test.YtalnekcmfagjoaaCopy
namespace Go.Proofs.Ytalnekcmfagjoaa
open Go.RowKit Go.Sort

set_option maxHeartbeats 400000 in
theorem iMinLess_c (a b : Int) (w : World) : Gives Try.prog 105 #[.int .i64 a, .int .i64 b] w (.bool (decide (a < b))) := by
  go_enter Try.func105, Try.ntmps105
  go_wp2
  go_ret
  exact ⟨rfl, Ext.refl _⟩

set_option maxHeartbeats 400000 in
theorem iMaxMore_c (a b : Int) (w : World) : Gives Try.prog 106 #[.int .i64 a, .int .i64 b] w (.bool (decide (b < a))) := by
  go_enter Try.func106, Try.ntmps106
  go_wp2
  go_ret
  exact ⟨rfl, Ext.refl _⟩
set_option maxHeartbeats 400000 in
theorem iInRange_c (n a b : Int) (w : World) : Gives Try.prog 67 #[.int .i64 n, .int .i64 a, .int .i64 b] w (.bool (decide (a ≤ n) && decide (n ≤ b))) := by
  by_cases h : a ≤ n
  · go_enter Try.func67, Try.ntmps67
    go_wp2
    go_ret
    exact ⟨ret_bool (by simp [h]), Ext.refl _⟩
  · go_enter Try.func67, Try.ntmps67
    go_wp2
    go_ret
    exact ⟨ret_bool (by simp; omega), Ext.refl _⟩
set_option maxHeartbeats 400000 in
theorem sMin_c (a b : Int) (w : World) : Gives Try.prog 86 #[.int .i64 a, .int .i64 b] w (.int .i64 (if b < a then b else a)) := by
  by_cases h : b < a
  · have H : Hid ((if b < a then b else a) = b) := if_pos h
    rw [H.out]
    go_enter Try.func86, Try.ntmps86
    go_wp2
    go_ret
    exact ⟨rfl, Ext.refl _⟩
  · have H : Hid ((if b < a then b else a) = a) := if_neg h
    rw [H.out]
    go_enter Try.func86, Try.ntmps86
    go_wp2
    go_ret
    exact ⟨rfl, Ext.refl _⟩

set_option maxHeartbeats 400000 in
theorem sMax_c (a b : Int) (w : World) : Gives Try.prog 85 #[.int .i64 a, .int .i64 b] w (.int .i64 (if a < b then b else a)) := by
  by_cases h : a < b
  · have H : Hid ((if a < b then b else a) = b) := if_pos h
    rw [H.out]
    go_enter Try.func85, Try.ntmps85
    go_wp2
    go_ret
    exact ⟨rfl, Ext.refl _⟩
  · have H : Hid ((if a < b then b else a) = a) := if_neg h
    rw [H.out]
    go_enter Try.func85, Try.ntmps85
    go_wp2
    go_ret
    exact ⟨rfl, Ext.refl _⟩
set_option maxHeartbeats 1000000 in
theorem pickMin_c (a b : Int) (g : Nat) (w : World) (hc : ∀ w', Ext w w' → w'.cell? ⟨g, 0, none⟩ = some (.int .i64 b)) :
    Gives Try.prog 104 #[.func (.func 105) #[] #[], .int .i64 a, .slice (some ⟨g, 0, none⟩) 1 1] w (.int .i64 (if b < a then b else a)) := by
  go_enter Try.func104, Try.ntmps104
  go_wp2_with fail
  go_loopw [1, 11] (fun t i wr => ∃ k : Nat, k ≤ 1 ∧ i = .int .i64 k ∧ t = .int .i64 (if k = 0 then a else if b < a then b else a) ∧ Ext w wr) (fun _ i _ => 1 - (intOf i).toNat)
  case atStart => exact ⟨0, by omega, rfl, rfl, Ext.refl _⟩
  case round =>
    obtain ⟨k, hk, rfl, rfl, he⟩ := hrel
    rcases (by omega : k = 0 ∨ k = 1) with rfl | rfl
    · by_cases h : b < a
      · have H : Hid ((if b < a then b else a) = b) := if_pos h
        have hd : decide (b < a) = true := decide_eq_true h
        rw [H.out]
        go_wp2_with (go_at_call 105; refine (iMinLess_c _ _ _).mono ?_; rintro _ w1 ⟨rfl, he1⟩; rw [hd])
        go_roundw
        case rel => exact ⟨1, by omega, by go_num, rfl, he.trans he1⟩
        case measure => simp [intOf]
      · have H : Hid ((if b < a then b else a) = a) := if_neg h
        have hd : decide (b < a) = false := decide_eq_false h
        rw [H.out]
        go_wp2_with (go_at_call 105; refine (iMinLess_c _ _ _).mono ?_; rintro _ w1 ⟨rfl, he1⟩; rw [hd])
        go_roundw
        case rel => exact ⟨1, by omega, by go_num, rfl, he.trans he1⟩
        case measure => simp [intOf]
    · by_cases h : b < a
      · have H : Hid ((if b < a then b else a) = b) := if_pos h
        rw [H.out]
        go_wp2
        go_ret
        exact ⟨rfl, he⟩
      · have H : Hid ((if b < a then b else a) = a) := if_neg h
        rw [H.out]
        go_wp2
        go_ret
        exact ⟨rfl, he⟩

set_option maxHeartbeats 1000000 in
theorem pickMax_c (a b : Int) (g : Nat) (w : World) (hc : ∀ w', Ext w w' → w'.cell? ⟨g, 0, none⟩ = some (.int .i64 b)) :
    Gives Try.prog 104 #[.func (.func 106) #[] #[], .int .i64 a, .slice (some ⟨g, 0, none⟩) 1 1] w (.int .i64 (if a < b then b else a)) := by
  go_enter Try.func104, Try.ntmps104
  go_wp2_with fail
  go_loopw [1, 11] (fun t i wr => ∃ k : Nat, k ≤ 1 ∧ i = .int .i64 k ∧ t = .int .i64 (if k = 0 then a else if a < b then b else a) ∧ Ext w wr) (fun _ i _ => 1 - (intOf i).toNat)
  case atStart => exact ⟨0, by omega, rfl, rfl, Ext.refl _⟩
  case round =>
    obtain ⟨k, hk, rfl, rfl, he⟩ := hrel
    rcases (by omega : k = 0 ∨ k = 1) with rfl | rfl
    · by_cases h : a < b
      · have H : Hid ((if a < b then b else a) = b) := if_pos h
        have hd : decide (a < b) = true := decide_eq_true h
        rw [H.out]
        go_wp2_with (go_at_call 106; refine (iMaxMore_c _ _ _).mono ?_; rintro _ w1 ⟨rfl, he1⟩; rw [hd])
        go_roundw
        case rel => exact ⟨1, by omega, by go_num, rfl, he.trans he1⟩
        case measure => simp [intOf]
      · have H : Hid ((if a < b then b else a) = a) := if_neg h
        have hd : decide (a < b) = false := decide_eq_false h
        rw [H.out]
        go_wp2_with (go_at_call 106; refine (iMaxMore_c _ _ _).mono ?_; rintro _ w1 ⟨rfl, he1⟩; rw [hd])
        go_roundw
        case rel => exact ⟨1, by omega, by go_num, rfl, he.trans he1⟩
        case measure => simp [intOf]
    · by_cases h : a < b
      · have H : Hid ((if a < b then b else a) = b) := if_pos h
        rw [H.out]
        go_wp2
        go_ret
        exact ⟨rfl, he⟩
      · have H : Hid ((if a < b then b else a) = a) := if_neg h
        rw [H.out]
        go_wp2
        go_ret
        exact ⟨rfl, he⟩
set_option maxHeartbeats 1000000 in
theorem iMin_c (a b : Int) (w : World) : Gives Try.prog 87 #[.int .i64 a, .int .i64 b] w (.int .i64 (if b < a then b else a)) := by
  have C := Lib.hid (fun g w hc => pickMin_c a b g w hc)
  generalize (if b < a then b else a) = r at *
  go_enter Try.func87, Try.ntmps87
  go_wp2_with fail
  refine (C.out _ _ (fun w' e => boxed e 0)).mono ?_
  rintro _ w1 ⟨rfl, he⟩
  go_wp2
  go_ret
  exact ⟨rfl, (Ext_alloc _ (Ext.refl w)).trans he⟩

set_option maxHeartbeats 1000000 in
theorem iMax_c (a b : Int) (w : World) : Gives Try.prog 88 #[.int .i64 a, .int .i64 b] w (.int .i64 (if a < b then b else a)) := by
  have C := Lib.hid (fun g w hc => pickMax_c a b g w hc)
  generalize (if a < b then b else a) = r at *
  go_enter Try.func88, Try.ntmps88
  go_wp2_with fail
  refine (C.out _ _ (fun w' e => boxed e 0)).mono ?_
  rintro _ w1 ⟨rfl, he⟩
  go_wp2
  go_ret
  exact ⟨rfl, (Ext_alloc _ (Ext.refl w)).trans he⟩
end Go.Proofs.Ytalnekcmfagjoaa
