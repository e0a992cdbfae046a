/- The laws' marks as text. -/
import Derived.Test.YtalnekcmfagjoaaCopy
import Derived.Laws.BytesArg
namespace Go.Proofs.Ytalnekcmfagjoaa
open Go.RowKit Go.Sort

/-- a digit's byte -/
def dig8 (k : Nat) : UInt8 := UInt8.ofNat (48 + k % 10)
def mtF : Nat → Nat → ByteArray → ByteArray
  | 0, _, s => s
  | f + 1, k, s => if k = 0 then s else mtF f (k / 10) (⟨#[dig8 k]⟩ ++ s)
theorem mtF_fuel : ∀ f g k s, k ≤ f → k ≤ g → mtF f k s = mtF g k s := by
  intro f
  induction f with
  | zero =>
    intro g k s h _
    obtain rfl : k = 0 := by omega
    cases g with
    | zero => rfl
    | succ g => rw [mtF, mtF, if_pos rfl]
  | succ f ih =>
    intro g k s h1 h2
    cases g with
    | zero =>
      obtain rfl : k = 0 := by omega
      rw [mtF, mtF, if_pos rfl]
    | succ g =>
      rw [mtF, mtF]
      by_cases hk : k = 0
      · rw [if_pos hk, if_pos hk]
      · rw [if_neg hk, if_neg hk, ih g (k / 10) _ (by omega) (by omega)]
def mt (k : Nat) (s : ByteArray) : ByteArray := mtF k k s
theorem mt_zero (s : ByteArray) : mt 0 s = s := rfl
theorem mt_step {k : Nat} (h : 0 < k) (s : ByteArray) : mt k s = mt (k / 10) (⟨#[dig8 k]⟩ ++ s) := by
  unfold mt
  obtain ⟨f, rfl⟩ : ∃ f, k = f + 1 := ⟨k - 1, by omega⟩
  rw [mtF, if_neg (by omega)]
  exact mtF_fuel _ _ _ _ (by omega) (by omega)
/-- the text of a mark -/
def markT (k : Nat) : ByteArray := ⟨#[109]⟩ ++ mt k ⟨#[]⟩
/-- string([]byte{x}) -/
theorem run_one_byte (w : World) (n : Nat) :
    (convert 48 9 (.slice (some ⟨w.heap.size, 0, none⟩) 1 1)).run Try.prog (w.alloc (.cells #[.int .u8 (n : Int)] 5)) = .ok (.string ⟨#[UInt8.ofNat n]⟩) (w.alloc (.cells #[.int .u8 (n : Int)] 5)) := by
  have h1 := run_convert_bytes_arg (P := Try.prog) (w.alloc (.cells #[.int .u8 (n : Int)] 5)) 48 5 Try.underlying48 Try.underlying5 w.heap.size 0 1 1 [(n : Int)] rfl (fun i hi => by
    obtain rfl : i = 0 := by omega
    simp) 9 Try.underlying9
  rw [h1]
  rfl
set_option maxRecDepth 100000 in
set_option maxHeartbeats 400000 in
theorem markText_c (k : Nat) (w : World) (hk : 0 < k) (hk2 : k ≤ 1099511627776) :
    Gives Try.prog 70 #[.int .i64 k] w (.string (markT k)) := by
  go_enter Try.func70, Try.ntmps70
  go_wp2
  go_loopw [0, 3] (fun kk t wr => ∃ (n : Nat) (s : ByteArray), s.size + n ≤ k ∧ kk = .int .i64 n ∧ t = .string s ∧ Hid (mt n s = mt k ⟨#[]⟩) ∧ Ext w wr) (fun kk _ _ => (intOf kk).toNat)
  case atStart => exact ⟨k, ⟨#[]⟩, Nat.le_of_eq (Nat.zero_add k), rfl, rfl, rfl, Ext.refl _⟩
  case round =>
    obtain ⟨n, s, hn, rfl, rfl, hs, he⟩ := hrel
    by_cases h0 : 0 < n
    · have hst := Lib.hid ((mt_step h0 s).symm.trans hs.out)
      have hcv : ∀ w' : World, (convert 48 9 (.slice (some ⟨w'.heap.size, 0, none⟩) 1 1)).run Try.prog (w'.alloc (.cells #[.int .u8 (48 + (n : Int) % 10)] 5)) = .ok (.string ⟨#[dig8 n]⟩) (w'.alloc (.cells #[.int .u8 (48 + (n : Int) % 10)] 5)) := by
        intro w'
        have := run_one_byte w' (48 + n % 10)
        rw [show ((48 + n % 10 : Nat) : Int) = 48 + (n : Int) % 10 by omega] at this
        exact this
      have hcvr := hcv wr
      clear hcv
      go_wp2
      go_roundw
      case rel => exact ⟨n / 10, _, by rw [ByteArray.size_append]; show 1 + s.size + n / 10 ≤ k; omega, by go_num, rfl, hst, Ext_alloc _ he⟩
      case measure => simp [intOf]; omega
    · obtain rfl : n = 0 := by omega
      have hs2 := Lib.hid ((mt_zero s).symm.trans hs.out)
      clear hs
      go_wp2
      go_ret
      exact ⟨by rw [hs2.out]; rfl, he⟩
end Go.Proofs.Ytalnekcmfagjoaa
