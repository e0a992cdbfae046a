/- Texts, laid into one. -/
import Derived.Test.YtpmcofmdjckijaaGreatZPb1
import Derived.Laws.BytesArg
set_option linter.unusedVariables false
set_option linter.unusedSimpArgs false
set_option maxRecDepth 100000
set_option maxHeartbeats 16000000
namespace Go.Proofs.YtpmcofmdjckijaaGreat
open Go.RowKit Go.Sort
theorem eqByteS_c (A A' : Option Addr) (l l' : List UInt8) (c c' : Nat) (w : World) (h : Bs w A l c) (h' : Bs w A' l' c') :
 Gives Tryz.prog 16 #[.slice A l.length c, .slice A' l'.length c'] w (.bool (l == l')) := by
 have hl := h.len; have hl' := h'.len
 by_cases hn : l.length = l'.length
 ·have hb1 : ((l.length : Int) != (l'.length : Int)) = false := by simp [hn]
  have H := Lib.hid hn; clear hn
  go_enter Tryz.func16, Tryz.ntmps16
  go_wp2
  go_loopw [5, 4] (fun i v wr => ∃ k : Nat, k ≤ l.length ∧ i = .int .i64 k ∧ Hid (l.take k = l'.take k) ∧ Ext w wr) (fun i _ _ => l.length - (intOf i).toNat)
  case atStart => exact ⟨0, by omega, rfl, by simp [Hid], Ext.refl _⟩
  case round =>
   obtain ⟨k, hk, rfl, ht, he⟩ := hrel
   by_cases hlt : k < l.length
   ·have hlt' : k < l'.length := by have := H.out; omega
    obtain ⟨b, off, rfl, hb, hc⟩ := h.at k hlt
    obtain ⟨b', off', rfl, hb', hc'⟩ := h'.at k hlt'
    clear h h'
    go_wp2
    refine wp_region_quiet_below (by kernel_rfl) (by kernel_rfl) ?_
    repeat (go_big_quiet_step (fail))
    refine wpQuiet_nil ?_
    rintro _ ⟨⟨nq, osq⟩, rfl⟩
    go_wp2
    ·have hne : ((l[k].toNat : Int) != (l'[k].toNat : Int)) = true := by assumption
     go_ret
     refine ⟨ret_bool ?_, Ext_regrown _ _ he⟩
     symm; rw [beq_eq_false_iff_ne]; rintro rfl; simp at hne
    ·have hne : ((l[k].toNat : Int) != (l'[k].toNat : Int)) = false := by assumption
     go_roundw
     case rel => exact ⟨k+1, by omega, by go_num, take_eq_succ hlt hlt' ht (u8_inj (by simpa using hne)), Ext_regrown _ _ he⟩
     case measure => simp [intOf]; omega
   ·go_wp2
    go_ret
    refine ⟨ret_bool ?_, he⟩
    have ht := ht.out; have H := H.out
    rw [List.take_of_length_le (by omega), List.take_of_length_le (by omega)] at ht
    simp [ht]
 ·have hb1 : ((l.length : Int) != (l'.length : Int)) = true := by simp; omega
  go_enter Tryz.func16, Tryz.ntmps16
  go_wp2
  go_ret
  refine ⟨ret_bool ?_, Ext.refl _⟩
  symm; rw [beq_eq_false_iff_ne]; rintro rfl; exact hn rfl
def strOf (l : List UInt8) : ByteArray := ⟨l.toArray⟩
end Go.Proofs.YtpmcofmdjckijaaGreat
