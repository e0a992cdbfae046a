/- Texts, laid into one. -/
import Derived.Test.YtpmcofmdjckijaaGreatZPb4
set_option linter.unusedVariables false
set_option linter.unusedSimpArgs false
set_option maxRecDepth 100000
set_option maxHeartbeats 16000000
namespace Go.Proofs.YtpmcofmdjckijaaGreat
open Go.RowKit Go.Sort
theorem iMinLess_c (a b : Int) (w : World) : Gives Tryz.prog 56 #[.int .i64 a, .int .i64 b] w (.bool (decide (a < b))) := by
 go_enter Tryz.func56, Tryz.ntmps56
 go_wp2
 go_ret
 exact ⟨rfl, Ext.refl _⟩
theorem iMaxMore_c (a b : Int) (w : World) : Gives Tryz.prog 57 #[.int .i64 a, .int .i64 b] w (.bool (decide (b < a))) := by
 go_enter Tryz.func57, Tryz.ntmps57
 go_wp2
 go_ret
 exact ⟨rfl, Ext.refl _⟩
theorem iInRange_c (n a b : Int) (w : World) : Gives Tryz.prog 97 #[.int .i64 n, .int .i64 a, .int .i64 b] w (.bool (decide (a ≤ n) && decide (n ≤ b))) := by
 by_cases h : a ≤ n
 ·go_enter Tryz.func97, Tryz.ntmps97
  go_wp2
  go_ret
  exact ⟨ret_bool (by simp [h]), Ext.refl _⟩
 ·go_enter Tryz.func97, Tryz.ntmps97
  go_wp2
  go_ret
  exact ⟨ret_bool (by simp; omega), Ext.refl _⟩
theorem sMin_c (a b : Int) (w : World) : Gives Tryz.prog 26 #[.int .i64 a, .int .i64 b] w (.int .i64 (if b < a then b else a)) := by
 by_cases h : b < a
 ·have H : Hid ((if b < a then b else a) = b) := if_pos h
  rw [H.out]
  go_enter Tryz.func26, Tryz.ntmps26
  go_wp2
  go_ret
  exact ⟨rfl, Ext.refl _⟩
 ·have H : Hid ((if b < a then b else a) = a) := if_neg h
  rw [H.out]
  go_enter Tryz.func26, Tryz.ntmps26
  go_wp2
  go_ret
  exact ⟨rfl, Ext.refl _⟩
theorem sMax_c (a b : Int) (w : World) : Gives Tryz.prog 25 #[.int .i64 a, .int .i64 b] w (.int .i64 (if a < b then b else a)) := by
 by_cases h : a < b
 ·have H : Hid ((if a < b then b else a) = b) := if_pos h
  rw [H.out]
  go_enter Tryz.func25, Tryz.ntmps25
  go_wp2
  go_ret
  exact ⟨rfl, Ext.refl _⟩
 ·have H : Hid ((if a < b then b else a) = a) := if_neg h
  rw [H.out]
  go_enter Tryz.func25, Tryz.ntmps25
  go_wp2
  go_ret
  exact ⟨rfl, Ext.refl _⟩
theorem pickMin_c (a b : Int) (g : Nat) (w : World) (hc : ∀ w', Ext w w' → w'.cell? ⟨g, 0, none⟩ = some (.int .i64 b)) :
 Gives Tryz.prog 55 #[.func (.func 56) #[] #[], .int .i64 a, .slice (some ⟨g, 0, none⟩) 1 1] w (.int .i64 (if b < a then b else a)) := by
 go_enter Tryz.func55, Tryz.ntmps55
 go_wp2_with fail
 go_loopw [1, 11] (fun t i wr => ∃ k : Nat, k ≤ 1 ∧ i = .int .i64 k ∧ t = .int .i64 (if k = 0 then a else if b < a then b else a) ∧ Ext w wr) (fun _ i _ => 1 - (intOf i).toNat)
 case atStart => exact ⟨0, by omega, rfl, rfl, Ext.refl _⟩
 case round =>
  obtain ⟨k, hk, rfl, rfl, he⟩ := hrel
  rcases (by omega : k = 0 ∨ k = 1) with rfl | rfl
  ·by_cases h : b < a
   ·have H : Hid ((if b < a then b else a) = b) := if_pos h
    have hd : decide (b < a) = true := decide_eq_true h
    rw [H.out]
    go_wp2_with (go_at_call 56; refine (iMinLess_c _ _ _).mono ?_; rintro _ w1 ⟨rfl, he1⟩; rw [hd])
    go_roundw
    case rel => exact ⟨1, by omega, by go_num, rfl, he.trans he1⟩
    case measure => simp [intOf]
   ·have H : Hid ((if b < a then b else a) = a) := if_neg h
    have hd : decide (b < a) = false := decide_eq_false h
    rw [H.out]
    go_wp2_with (go_at_call 56; refine (iMinLess_c _ _ _).mono ?_; rintro _ w1 ⟨rfl, he1⟩; rw [hd])
    go_roundw
    case rel => exact ⟨1, by omega, by go_num, rfl, he.trans he1⟩
    case measure => simp [intOf]
  ·by_cases h : b < a
   ·have H : Hid ((if b < a then b else a) = b) := if_pos h
    rw [H.out]
    go_wp2
    go_ret
    exact ⟨rfl, he⟩
   ·have H : Hid ((if b < a then b else a) = a) := if_neg h
    rw [H.out]
    go_wp2
    go_ret
    exact ⟨rfl, he⟩
theorem pickMax_c (a b : Int) (g : Nat) (w : World) (hc : ∀ w', Ext w w' → w'.cell? ⟨g, 0, none⟩ = some (.int .i64 b)) :
 Gives Tryz.prog 55 #[.func (.func 57) #[] #[], .int .i64 a, .slice (some ⟨g, 0, none⟩) 1 1] w (.int .i64 (if a < b then b else a)) := by
 go_enter Tryz.func55, Tryz.ntmps55
 go_wp2_with fail
 go_loopw [1, 11] (fun t i wr => ∃ k : Nat, k ≤ 1 ∧ i = .int .i64 k ∧ t = .int .i64 (if k = 0 then a else if a < b then b else a) ∧ Ext w wr) (fun _ i _ => 1 - (intOf i).toNat)
 case atStart => exact ⟨0, by omega, rfl, rfl, Ext.refl _⟩
 case round =>
  obtain ⟨k, hk, rfl, rfl, he⟩ := hrel
  rcases (by omega : k = 0 ∨ k = 1) with rfl | rfl
  ·by_cases h : a < b
   ·have H : Hid ((if a < b then b else a) = b) := if_pos h
    have hd : decide (a < b) = true := decide_eq_true h
    rw [H.out]
    go_wp2_with (go_at_call 57; refine (iMaxMore_c _ _ _).mono ?_; rintro _ w1 ⟨rfl, he1⟩; rw [hd])
    go_roundw
    case rel => exact ⟨1, by omega, by go_num, rfl, he.trans he1⟩
    case measure => simp [intOf]
   ·have H : Hid ((if a < b then b else a) = a) := if_neg h
    have hd : decide (a < b) = false := decide_eq_false h
    rw [H.out]
    go_wp2_with (go_at_call 57; refine (iMaxMore_c _ _ _).mono ?_; rintro _ w1 ⟨rfl, he1⟩; rw [hd])
    go_roundw
    case rel => exact ⟨1, by omega, by go_num, rfl, he.trans he1⟩
    case measure => simp [intOf]
  ·by_cases h : a < b
   ·have H : Hid ((if a < b then b else a) = b) := if_pos h
    rw [H.out]
    go_wp2
    go_ret
    exact ⟨rfl, he⟩
   ·have H : Hid ((if a < b then b else a) = a) := if_neg h
    rw [H.out]
    go_wp2
    go_ret
    exact ⟨rfl, he⟩
theorem iMin_c (a b : Int) (w : World) : Gives Tryz.prog 31 #[.int .i64 a, .int .i64 b] w (.int .i64 (if b < a then b else a)) := by
 have C := Lib.hid (fun g w hc => pickMin_c a b g w hc)
 generalize (if b < a then b else a) = r at *
 go_enter Tryz.func31, Tryz.ntmps31
 go_wp2_with fail
 refine (C.out _ _ (fun w' e => boxed e 0)).mono ?_
 rintro _ w1 ⟨rfl, he⟩
 go_wp2
 go_ret
 exact ⟨rfl, (Ext_alloc _ (Ext.refl w)).trans he⟩
theorem iMax_c (a b : Int) (w : World) : Gives Tryz.prog 32 #[.int .i64 a, .int .i64 b] w (.int .i64 (if a < b then b else a)) := by
 have C := Lib.hid (fun g w hc => pickMax_c a b g w hc)
 generalize (if a < b then b else a) = r at *
 go_enter Tryz.func32, Tryz.ntmps32
 go_wp2_with fail
 refine (C.out _ _ (fun w' e => boxed e 0)).mono ?_
 rintro _ w1 ⟨rfl, he⟩
 go_wp2
 go_ret
 exact ⟨rfl, (Ext_alloc _ (Ext.refl w)).trans he⟩
end Go.Proofs.YtpmcofmdjckijaaGreat
namespace Go.Proofs.YtpmcofmdjckijaaGreat
def runLen : List UInt8 → Nat
 | [] => 0
 | x :: t => 1 + (t.takeWhile (· == x)).length
def runAt (l : List UInt8) (i : Int) : Nat := if 0 ≤ i ∧ i < l.length then runLen (l.drop i.toNat) else 0
def countFrom (l : List UInt8) : Nat → Nat → Nat
 | 0, _ => 0
 | f + 1, a => if a < l.length then 1 + countFrom l f (a + runAt l a) else 0
def countRuns (l : List UInt8) : Nat := countFrom l l.length 0
end Go.Proofs.YtpmcofmdjckijaaGreat
namespace Go.Proofs.YtpmcofmdjckijaaGreat
open Go.RowKit Go.Sort
theorem l1In_c (n a b : Int) (w : World) : Gives Tryz.prog 71 #[.int .i64 n, .int .i64 a, .int .i64 b] w (.bool (decide (a ≤ n) && decide (n ≤ b))) := by
 by_cases h : a ≤ n
 ·go_enter Tryz.func71, Tryz.ntmps71
  go_wp2
  go_ret
  exact ⟨ret_bool (by simp [h]), Ext.refl _⟩
 ·go_enter Tryz.func71, Tryz.ntmps71
  go_wp2
  go_ret
  exact ⟨ret_bool (by simp; omega), Ext.refl _⟩
end Go.Proofs.YtpmcofmdjckijaaGreat
