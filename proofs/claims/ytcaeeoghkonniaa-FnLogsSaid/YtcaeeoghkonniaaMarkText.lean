/- The laws' marks as text. -/
import Derived.Test.YtcaeeoghkonniaaCopy
import Derived.Laws.BytesArg
namespace Go.Proofs.Ytcaeeoghkonniaa
open Go.RowKit Go.Sort

/-- a digit's byte -/
def dig8 (k : Nat) : UInt8 := UInt8.ofNat (48 + k % 10)
def mtF : Nat → Nat → ByteArray → ByteArray
  | 0, _, s => s
  | f + 1, k, s => if k = 0 then s else mtF f (k / 10) (⟨#[dig8 k]⟩ ++ s)
theorem mtF_fuel : ∀ f g k s, k ≤ f → k ≤ g → mtF f k s = mtF g k s := by
  intro f
  induction f with
  | zero =>
    intro g k s h _
    obtain rfl : k = 0 := by omega
    cases g with
    | zero => rfl
    | succ g => rw [mtF, mtF, if_pos rfl]
  | succ f ih =>
    intro g k s h1 h2
    cases g with
    | zero =>
      obtain rfl : k = 0 := by omega
      rw [mtF, mtF, if_pos rfl]
    | succ g =>
      rw [mtF, mtF]
      by_cases hk : k = 0
      · rw [if_pos hk, if_pos hk]
      · rw [if_neg hk, if_neg hk, ih g (k / 10) _ (by omega) (by omega)]
def mt (k : Nat) (s : ByteArray) : ByteArray := mtF k k s
theorem mt_zero (s : ByteArray) : mt 0 s = s := rfl
theorem mt_step {k : Nat} (h : 0 < k) (s : ByteArray) : mt k s = mt (k / 10) (⟨#[dig8 k]⟩ ++ s) := by
  unfold mt
  obtain ⟨f, rfl⟩ : ∃ f, k = f + 1 := ⟨k - 1, by omega⟩
  rw [mtF, if_neg (by omega)]
  exact mtF_fuel _ _ _ _ (by omega) (by omega)
/-- the text of a mark -/
def markT (k : Nat) : ByteArray := ⟨#[109]⟩ ++ mt k ⟨#[]⟩
/-- string([]byte{x}) -/
theorem run_one_byte (w : World) (n : Nat) :
    (convert 22 9 (.slice (some ⟨w.heap.size, 0, none⟩) 1 1)).run Try.prog (w.alloc (.cells #[.int .u8 (n : Int)] 5)) = .ok (.string ⟨#[UInt8.ofNat n]⟩) (w.alloc (.cells #[.int .u8 (n : Int)] 5)) := by
  have h1 := run_convert_bytes_arg (P := Try.prog) (w.alloc (.cells #[.int .u8 (n : Int)] 5)) 22 5 Try.underlying22 Try.underlying5 w.heap.size 0 1 1 [(n : Int)] rfl (fun i hi => by
    obtain rfl : i = 0 := by omega
    simp) 9 Try.underlying9
  rw [h1]
  rfl
end Go.Proofs.Ytcaeeoghkonniaa
