/- Plain laws of unpacking: no program in sight. -/
namespace Go.Proofs.Ytcaeeoghkonniaa

def unpackF : Nat → List UInt8 → List UInt8 → Option (List UInt8)
  | _, [], out => some out
  | 0, _ :: _, _ => none
  | f + 1, x :: t, out =>
    if x = 0 ∨ x = 128 ∨ t = [] then none
    else if x < 128 then
      if t.length < x.toNat then none
      else if 1000 < (out ++ t.take x.toNat).length then none
      else unpackF f (t.drop x.toNat) (out ++ t.take x.toNat)
    else
      if 1000 < (out ++ List.replicate (x.toNat - 128) (t.headD 0)).length then none
      else unpackF f t.tail (out ++ List.replicate (x.toNat - 128) (t.headD 0))
/-- what bytes are unpacked to, if they can be -/
def unpack (l : List UInt8) : Option (List UInt8) := unpackF l.length l []
theorem unpackF_fuel : ∀ f g b out, b.length ≤ f → b.length ≤ g → unpackF f b out = unpackF g b out := by
  intro f
  induction f with
  | zero =>
    intro g b out h _
    obtain rfl : b = [] := List.eq_nil_of_length_eq_zero (by omega)
    cases g <;> rfl
  | succ f ih =>
    intro g b out h1 h2
    cases b with
    | nil => cases g <;> rfl
    | cons x t =>
      cases g with
      | zero => simp at h2
      | succ g =>
        simp only [List.length_cons] at h1 h2
        simp only [unpackF]
        rw [ih g (t.drop x.toNat) _ (by rw [List.length_drop]; omega) (by rw [List.length_drop]; omega), ih g t.tail _ (by rw [List.length_tail]; omega) (by rw [List.length_tail]; omega)]
/-- what is left to do at an index -/
def unpackAt (l : List UInt8) (a : Nat) (out : List UInt8) : Option (List UInt8) := unpackF l.length (l.drop a) out
theorem unpackAt_end (l : List UInt8) (a : Nat) (out : List UInt8) (h : l.length ≤ a) : unpackAt l a out = some out := by
  unfold unpackAt; rw [List.drop_of_length_le h]; cases l.length <;> rfl
theorem unpackAt_step (l : List UInt8) (a : Nat) (out : List UInt8) (h : a < l.length) : unpackAt l a out =
    if l[a] = 0 ∨ l[a] = 128 ∨ l.length = a + 1 then none
    else if l[a] < 128 then
      if l.length < a + 1 + l[a].toNat then none
      else if 1000 < out.length + l[a].toNat then none
      else unpackAt l (a + 1 + l[a].toNat) (out ++ (l.drop (a+1)).take l[a].toNat)
    else
      if 1000 < out.length + (l[a].toNat - 128) then none
      else unpackAt l (a + 2) (out ++ List.replicate (l[a].toNat - 128) ((l.drop (a+1)).headD 0)) := by
  unfold unpackAt
  obtain ⟨n, hn⟩ : ∃ n, l.length = n + 1 := ⟨l.length - 1, by omega⟩
  have e0 : l.drop a = l[a] :: l.drop (a+1) := List.drop_eq_getElem_cons h
  have e1 : ((l.drop (a+1) = []) ↔ l.length = a + 1) := by rw [List.drop_eq_nil_iff]; omega
  have hl1 : (l.drop (a+1)).length = l.length - (a+1) := List.length_drop
  rw [e0]
  conv => lhs; rw [hn]
  simp only [unpackF, e1, List.drop_drop, List.tail_drop, List.length_append, List.length_replicate, List.length_take, hl1]
  by_cases c1 : l[a] = 0 ∨ l[a] = 128 ∨ l.length = a + 1
  · rw [if_pos c1, if_pos c1]
  · rw [if_neg c1, if_neg c1]
    by_cases c2 : l[a] < 128
    · rw [if_pos c2, if_pos c2]
      by_cases c3 : l.length < a + 1 + l[a].toNat
      · rw [if_pos (by omega), if_pos c3]
      · rw [if_neg (by omega), if_neg c3, Nat.min_eq_left (by omega)]
        by_cases c4 : 1000 < out.length + l[a].toNat
        · rw [if_pos c4, if_pos c4]
        · rw [if_neg c4, if_neg c4]
          exact unpackF_fuel _ _ _ _ (by rw [List.length_drop]; omega) (by rw [List.length_drop]; omega)
    · rw [if_neg c2, if_neg c2]
      by_cases c4 : 1000 < out.length + (l[a].toNat - 128)
      · rw [if_pos c4, if_pos c4]
      · rw [if_neg c4, if_neg c4]
        exact unpackF_fuel _ _ _ _ (by rw [List.length_drop]; omega) (by rw [List.length_drop]; omega)
end Go.Proofs.Ytcaeeoghkonniaa
