/- Comparison of descriptions: the laws' helpers, the program's and the reference's. -/
import Derived.Test.YtalnekcmfagjoaaDesc
import Derived.Test.YtalnekcmfagjoaaBytes
import Derived.Test.YtalnekcmfagjoaaMerge
namespace Go.Proofs.Ytalnekcmfagjoaa
open Go.RowKit Go.Sort

def eqNm (a b : ByteArray) : Bool := a.toList == b.toList
def eqNms (l l' : List ByteArray) : Bool := l.map ByteArray.toList == l'.map ByteArray.toList
def eqR (r q : DRule) : Bool := r.nm.toList == q.nm.toList && r.kind == q.kind && r.size == q.size && r.little == q.little && r.bytes == q.bytes && eqNms r.names q.names && r.tags == q.tags && r.kids == q.kids
def eqAll {α : Type} (f : α → α → Bool) : List α → List α → Bool
  | [], [] => true
  | a :: s, b :: t => f a b && eqAll f s t
  | _, _ => false
theorem eqAll_len {α : Type} (f : α → α → Bool) : ∀ (s t : List α), s.length ≠ t.length → eqAll f s t = false
  | [], [], h => absurd rfl h
  | [], _ :: _, _ => rfl
  | _ :: _, [], _ => rfl
  | a :: s, b :: t, h => by rw [eqAll, eqAll_len f s t (by simpa using h), Bool.and_false]
theorem eqAll_take {α : Type} (f : α → α → Bool) : ∀ (s t : List α) (k : Nat) (h1 : k < s.length) (h2 : k < t.length), f s[k] t[k] = false → eqAll f s t = false
  | a :: s, b :: t, 0, _, _, h => by rw [eqAll]; simp at h; rw [h]; rfl
  | a :: s, b :: t, k + 1, h1, h2, h => by rw [eqAll, eqAll_take f s t k (by simpa using h1) (by simpa using h2) (by simpa using h), Bool.and_false]
theorem eqAll_all {α : Type} (f : α → α → Bool) : ∀ (s t : List α), s.length = t.length → (∀ k (h1 : k < s.length) (h2 : k < t.length), f s[k] t[k] = true) → eqAll f s t = true
  | [], [], _, _ => rfl
  | a :: s, b :: t, hl, h => by
    rw [eqAll, eqAll_all f s t (by simpa using hl) (fun k h1 h2 => by have := h (k+1) (by simpa using h1) (by simpa using h2); simpa using this)]
    have := h 0 (by simp) (by simp); simp at this; rw [this]; rfl
  | [], _ :: _, h, _ => by simp at h
  | _ :: _, [], h, _ => by simp at h
theorem eqAll_refl {α : Type} (f : α → α → Bool) (s : List α) (h : ∀ a ∈ s, f a a = true) : eqAll f s s = true := eqAll_all f s s rfl (fun k h1 _ => h _ (List.getElem_mem h1))
def eqD (s t : List DRule) : Bool := eqAll eqR s t
def eqG (s t : List (List DRule)) : Bool := eqAll eqD s t
theorem eqNms_refl (l : List ByteArray) : eqNms l l = true := by simp [eqNms]
theorem eqR_refl (r : DRule) : eqR r r = true := by simp [eqR, eqNms_refl]
theorem eqD_refl (s : List DRule) : eqD s s = true := eqAll_refl _ _ (fun a _ => eqR_refl a)
theorem eqG_refl (s : List (List DRule)) : eqG s s = true := eqAll_refl _ _ (fun a _ => eqD_refl a)
end Go.Proofs.Ytalnekcmfagjoaa
