/- bytes.Equal and EqualBytes of the program. -/
import Derived.Test.YtalnekcmfagjoaaBytes
import Derived.Laws.BytesArg
namespace Go.Proofs.Ytalnekcmfagjoaa
open Go.RowKit Go.Sort

/-- the string of bytes -/
def strOf (l : List UInt8) : ByteArray := ⟨l.toArray⟩
theorem strOf_inj {l l' : List UInt8} : strOf l = strOf l' ↔ l = l' := by
  constructor
  · intro h; have := congrArg (fun b => b.data.toList) h; simpa [strOf] using this
  · rintro rfl; rfl
theorem strOf_nums (l : List UInt8) : strOfNums (l.map fun x => (x.toNat : Int)) = strOf l := by
  unfold strOfNums strOf
  congr 1
  rw [List.map_map]
  congr 1
  conv => rhs; rw [← List.map_id l]
  apply List.map_congr_left
  intro x _
  simp
theorem conv_bytes {w w' : World} {A : Option Addr} {l : List UInt8} {c : Nat} (h : Bs w A l c) (he : Ext w w') :
    (convert 48 9 (.slice A l.length c)).run Try.prog w' = .ok (.string (strOf l)) w' := by
  rcases Nat.eq_zero_or_pos l.length with h0 | h0
  · obtain rfl : l = [] := List.eq_nil_of_length_eq_zero h0
    rw [List.length_nil, run_convert_bytes_string w' 48 9 5 _ 0 c Try.underlying48 Try.underlying5 Try.underlying9]
    cases A <;> simp [Conv.bytesToString, loadCells]
    all_goals rfl
  · obtain ⟨b, off, rfl, hb, hc⟩ := h.base h0
    rw [← strOf_nums]
    refine run_convert_bytes_arg w' 48 5 Try.underlying48 Try.underlying5 b off l.length c (l.map fun x => (x.toNat : Int)) (by simp) (fun i hi => ?_) 9 Try.underlying9
    rw [hc w' he i hi]
    simp [vu8, hi]
set_option maxHeartbeats 400000 in
theorem bytesEqual_c (A A' : Option Addr) (l l' : List UInt8) (c c' : Nat) (w : World) (h : Bs w A l c) (h' : Bs w A' l' c') :
    Gives Try.prog 131 #[.slice A l.length c, .slice A' l'.length c'] w (.bool (l == l')) := by
  have k1 := fun w' e => conv_bytes (w' := w') h e
  have k2 := fun w' e => conv_bytes (w' := w') h' e
  clear h h'
  go_enter Try.func131, Try.ntmps131
  go_wp2
  go_ret
  refine ⟨ret_bool ?_, Ext.refl _⟩
  rw [ByteArray.toList_eq, ByteArray.toList_eq]
  simp [strOf]
set_option maxHeartbeats 400000 in
theorem iEqualBytes_c (A A' : Option Addr) (l l' : List UInt8) (c c' : Nat) (w : World) (h : Bs w A l c) (h' : Bs w A' l' c') :
    Gives Try.prog 122 #[.slice A l.length c, .slice A' l'.length c'] w (.bool (l == l')) := by
  go_enter Try.func122, Try.ntmps122
  go_wp2_with fail
  refine (bytesEqual_c _ _ _ _ _ _ _ h h').mono ?_; rintro _ w1 ⟨rfl, he⟩
  go_wp2
  go_ret
  exact ⟨rfl, he⟩
end Go.Proofs.Ytalnekcmfagjoaa
