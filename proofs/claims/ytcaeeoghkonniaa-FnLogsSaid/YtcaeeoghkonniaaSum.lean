/- SumOfBytes, BigEndian, ReadInteger. -/
import Derived.Test.YtcaeeoghkonniaaRun
namespace Go.Proofs.Ytcaeeoghkonniaa
open Go.RowKit Go.Sort

/-- the sum of bytes -/
def sumB : List UInt8 → Nat
  | [] => 0
  | x :: t => x.toNat + sumB t
theorem sumB_append (a b : List UInt8) : sumB (a ++ b) = sumB a + sumB b := by
  induction a with
  | nil => simp [sumB]
  | cons x t ih => simp [sumB, ih]; omega
theorem sumB_take {l : List UInt8} {k : Nat} (h : k < l.length) : sumB (l.take (k+1)) = sumB (l.take k) + l[k].toNat := by
  rw [List.take_succ_eq_append_getElem h, sumB_append]; simp [sumB]
theorem sumB_le (l : List UInt8) : sumB l ≤ 255 * l.length := by
  induction l with
  | nil => simp [sumB]
  | cons x t ih => have := x.toNat_lt; simp only [sumB, List.length_cons]; omega

set_option maxHeartbeats 400000 in
theorem iSumOfBytes_c (A : Option Addr) (l : List UInt8) (c : Nat) (w : World) (h : Bs w A l c) (hL : l.length ≤ 1099511627776) :
    Gives Try.prog 53 #[.slice A l.length c] w (.int .i64 (sumB l % 256 : Nat)) := by
  have hsz := sumB_le l
  go_enter Try.func53, Try.ntmps53
  go_wp2
  go_loopw [3, 8] (fun s i wr => ∃ k : Nat, k ≤ l.length ∧ i = .int .i64 k ∧ s = .int .i64 (sumB (l.take k) : Nat) ∧ Ext w wr) (fun _ i _ => l.length - (intOf i).toNat)
  case atStart => exact ⟨0, by omega, rfl, by simp [sumB], Ext.refl _⟩
  case round =>
    obtain ⟨k, hk, rfl, rfl, he⟩ := hrel
    by_cases hlt : k < l.length
    · obtain ⟨b, off, rfl, hb, hc⟩ := h.at k hlt
      have hst := Lib.hid (sumB_take hlt)
      have h1 := sumB_le (l.take k)
      have h2 : (l.take k).length ≤ k := List.length_take_le _ _
      have h3 := l[k].toNat_lt
      generalize hs : sumB (l.take k) = s at *
      clear hs
      go_wp2
      go_roundw
      case rel => exact ⟨k+1, by omega, by go_num, by rw [hst.out]; go_num, he⟩
      case measure => simp [intOf]; omega
    · obtain rfl : k = l.length := by omega
      have ht : sumB (l.take l.length) = sumB l := by rw [List.take_of_length_le (by omega)]
      rw [ht]
      have hq : ∃ s, s = sumB l := ⟨_, rfl⟩
      obtain ⟨s, hs⟩ := hq
      have hb : s ≤ 255 * l.length := by rw [hs]; exact hsz
      rw [← hs]
      have HQ := Lib.hid hs; clear hs ht hsz
      go_wp2
      go_ret
      exact ⟨ret_i64 (by rw [← HQ.out]; omega), he⟩
set_option maxHeartbeats 400000 in
theorem sSumOfBytes_c (A : Option Addr) (l : List UInt8) (c : Nat) (w : World) (h : Bs w A l c) :
    Gives Try.prog 59 #[.slice A l.length c] w (.int .i64 (sumB l % 256 : Nat)) := by
  have hl := h.len
  go_enter Try.func59, Try.ntmps59
  go_wp2
  go_loopw [3, 4] (fun s i wr => ∃ k m : Nat, k ≤ l.length ∧ i = .int .i64 k ∧ s = .int .i64 m ∧ m < 256 ∧ Hid (m = sumB (l.take k) % 256) ∧ Ext w wr) (fun _ i _ => l.length - (intOf i).toNat)
  case atStart => exact ⟨0, 0, by omega, rfl, rfl, by omega, by simp [Hid, sumB], Ext.refl _⟩
  case round =>
    obtain ⟨k, m, hk, rfl, rfl, hm, hs, he⟩ := hrel
    by_cases hlt : k < l.length
    · obtain ⟨b, off, rfl, hb, hc⟩ := h.at k hlt
      have hst := Lib.hid (sumB_take hlt)
      have h3 := l[k].toNat_lt
      go_wp2
      go_roundw
      case rel => exact ⟨k+1, (m + l[k].toNat) % 256, by omega, by go_num, by congr 1, by omega, (by show _ = _; rw [hst.out, hs.out]; omega), he⟩
      case measure => simp [intOf]; omega
    · obtain rfl : k = l.length := by omega
      have ht : sumB (l.take l.length) = sumB l := by rw [List.take_of_length_le (by omega)]
      have hq := hs.out; rw [ht] at hq
      have HQ := Lib.hid hq; clear hq ht hs
      go_wp2
      go_ret
      exact ⟨ret_i64 (by rw [HQ.out]), he⟩
end Go.Proofs.Ytcaeeoghkonniaa
