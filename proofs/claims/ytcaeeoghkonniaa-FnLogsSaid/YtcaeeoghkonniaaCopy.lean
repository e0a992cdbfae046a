/- Contracts of the laws' small functions over slices of bytes and ints: the copy, the comparison, the marks. -/
import Derived.Test.YtcaeeoghkonniaaBase
namespace Go.Proofs.Ytcaeeoghkonniaa
open Go.RowKit Go.Sort

theorem E_u8 : Elem Try.prog 22 5 1 1 (.int .u8 0) := ⟨Try.underlying22, by kernel_rfl, rfl, by omega⟩
theorem E_int : Elem Try.prog 49 3 1 8 (.int .i64 0) := ⟨Try.underlying49, by kernel_rfl, rfl, by omega⟩

theorem fill_step {α : Type} (f : α → Value) (l : List α) (z : Value) (k : Nat) (hk : k < l.length) :
    ((l.take k).map f ++ List.replicate (l.length - k) z).set k (f l[k]) = (l.take (k+1)).map f ++ List.replicate (l.length - (k+1)) z := by
  rw [List.take_succ_eq_append_getElem hk, List.map_append, List.set_append_right _ _ (by simp; omega)]
  have : l.length - k = (l.length - (k+1)) + 1 := by omega
  rw [this, List.replicate_succ]
  simp [Nat.min_eq_left (Nat.le_of_lt hk)]



/-- the values that a marker lays from k on -/
def mk8 (k : Int) (i : Nat) : Value := .int .u8 (IntKind.u8.wrap (k + i))
def mkI (k : Int) (i : Nat) : Value := .int .i64 (k + i)
theorem mark_step (f : Nat → Value) (xs : List Value) (j n : Nat) (hn : xs.length = n) (hj : j < n) :
    ((List.range j).map f ++ xs.drop j).set j (f j) = (List.range (j+1)).map f ++ xs.drop (j+1) := by
  rw [List.set_append_right _ _ (by simp), List.range_succ, List.map_append, List.append_assoc]
  congr 1
  have e : xs.drop j = xs[j] :: xs.drop (j+1) := List.drop_eq_getElem_cons (by omega)
  rw [e]
  simp only [List.length_map, List.length_range, Nat.sub_self, List.set_cons_zero, List.map_cons, List.map_nil, List.cons_append, List.nil_append]


end Go.Proofs.Ytcaeeoghkonniaa
