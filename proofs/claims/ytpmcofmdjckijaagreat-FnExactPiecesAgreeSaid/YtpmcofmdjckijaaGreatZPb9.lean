/- Texts, laid into one. -/
import Derived.Test.YtpmcofmdjckijaaGreatZPb8
import Derived.Test.YtpmcofmdjckijaaGreatZPb7
set_option linter.unusedVariables false
set_option linter.unusedSimpArgs false
set_option maxRecDepth 100000
set_option maxHeartbeats 16000000
namespace Go.Proofs.YtpmcofmdjckijaaGreat
open Go.RowKit Go.Sort
theorem sContains_c (A : Option Addr) (l : List ByteArray) (c : Nat) (s : ByteArray) (w : World) (h : Rd0 vstr w A l c) :
 Gives Tryz.prog 192 #[.slice A l.length c, .string s] w (.bool (hasNm l s)) := by
 have hl := h.len
 go_enter Tryz.func192, Tryz.ntmps192
 go_wp2
 go_loopw [5] (fun i wr => ∃ k : Nat, k ≤ l.length ∧ i = .int .i64 k ∧ Hid (∀ j (hj : j < l.length), j < k → (l[j].toList == s.toList) = false) ∧ Ext w wr) (fun i _ => l.length - (intOf i).toNat)
 case atStart => exact ⟨0, by omega, rfl, (fun j _ hj => by omega), Ext.refl _⟩
 case round =>
  obtain ⟨k, hk, rfl, ht, he⟩ := hrel
  by_cases hlt : k < l.length
  ·obtain ⟨b, off, rfl, hb, hc⟩ := h.at k hlt
   have YES : Hid ((l[k].toList == s.toList) = true → hasNm l s = true) := hasNm_at hlt
   have NO : Hid ((l[k].toList == s.toList) = false → ∀ j (hj : j < l.length), j < k + 1 → (l[j].toList == s.toList) = false) := by
    intro hy j hj hjk
    rcases (by omega : j < k ∨ j = k) with hjk | rfl
    ·exact ht.out j hj hjk
    ·exact hy
   clear h
   generalize l[k] = x at *
   cases hq : (x.toList == s.toList)
   ·have NO' := Lib.hid (NO.out hq)
    go_wp2
    go_roundw
    case rel => exact ⟨k+1, by omega, by go_num, NO'.out, he⟩
    case measure => simp [intOf]; omega
   ·have YES' := Lib.hid (YES.out hq)
    go_wp2
    go_ret
    exact ⟨ret_bool YES'.out.symm, he⟩
  ·have HE : Hid (hasNm l s = false) := hasNm_none (fun j hj => ht.out j hj (by omega))
   go_wp2
   go_ret
   exact ⟨ret_bool HE.out.symm, he⟩
theorem iContains_c (A : Option Addr) (l : List ByteArray) (c : Nat) (s : ByteArray) (w : World) (h : Rd0 vstr w A l c) :
 Gives Tryz.prog 193 #[.slice A l.length c, .string s] w (.bool (hasNm l s)) := by
 have hl := h.len
 go_enter Tryz.func193, Tryz.ntmps193
 go_wp2
 go_loopw [9] (fun i wr => ∃ k : Nat, k ≤ l.length ∧ i = .int .i64 k ∧ Hid (∀ j (hj : j < l.length), j < k → (l[j].toList == s.toList) = false) ∧ Ext w wr) (fun i _ => l.length - (intOf i).toNat)
 case atStart => exact ⟨0, by omega, rfl, (fun j _ hj => by omega), Ext.refl _⟩
 case round =>
  obtain ⟨k, hk, rfl, ht, he⟩ := hrel
  by_cases hlt : k < l.length
  ·obtain ⟨b, off, rfl, hb, hc⟩ := h.at k hlt
   have YES : Hid ((l[k].toList == s.toList) = true → hasNm l s = true) := hasNm_at hlt
   have NO : Hid ((l[k].toList == s.toList) = false → ∀ j (hj : j < l.length), j < k + 1 → (l[j].toList == s.toList) = false) := by
    intro hy j hj hjk
    rcases (by omega : j < k ∨ j = k) with hjk | rfl
    ·exact ht.out j hj hjk
    ·exact hy
   clear h
   generalize l[k] = x at *
   cases hq : (x.toList == s.toList)
   ·have NO' := Lib.hid (NO.out hq)
    go_wp2
    go_roundw
    case rel => exact ⟨k+1, by omega, by go_num, NO'.out, he⟩
    case measure => simp [intOf]; omega
   ·have YES' := Lib.hid (YES.out hq)
    go_wp2
    go_ret
    exact ⟨ret_bool YES'.out.symm, he⟩
  ·have HE : Hid (hasNm l s = false) := hasNm_none (fun j hj => ht.out j hj (by omega))
   go_wp2
   go_ret
   exact ⟨ret_bool HE.out.symm, he⟩
theorem hasRule_c (A : Option Addr) (n c : Nat) (i : Int) (w : World) (hn : n ≤ 9223372036854775807) :
 Gives Tryz.prog 135 #[vdesc (.slice A n c), .int .i64 i] w (.bool (decide (0 ≤ i) && decide (i < n))) := by
 unfold vdesc
 by_cases h0 : 0 ≤ i
 ·by_cases h1 : i < n
  all_goals
   go_enter Tryz.func135, Tryz.ntmps135
   go_wp2
   go_ret
   exact ⟨ret_bool (by simp [*]), Ext_alloc _ (Ext.refl w)⟩
 ·go_enter Tryz.func135, Tryz.ntmps135
  go_wp2
  go_ret
  exact ⟨ret_bool (by simp; omega), Ext_alloc _ (Ext.refl w)⟩
end Go.Proofs.YtpmcofmdjckijaaGreat
