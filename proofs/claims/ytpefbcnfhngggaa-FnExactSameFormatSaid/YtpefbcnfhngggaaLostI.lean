/- LostNames of the program and of the reference: the walks. -/
import Derived.Test.YtpefbcnfhngggaaLost
namespace Go.Proofs.Ytpefbcnfhngggaa
open Go.RowKit Go.Sort

def lostN (p q : DRule) : List ByteArray := p.names.filter (fun s => !hasNm q.names s)
/-- the names of a's sequence ra that b's sequence rb lacks -/
def lost (a : List DRule) (ra : Int) (b : List DRule) (rb : Int) : List ByteArray :=
  if knownB a ra = true then if knownB b rb = true then (match a[ra.toNat]?, b[rb.toNat]? with | some p, some q => if p.kind = 6 then if q.kind = 6 then lostN p q else [] else [] | _, _ => []) else [] else []
theorem knownB_at {a : List DRule} {ra : Int} (h : knownB a ra = true) : ∃ i : Nat, ∃ _ : i < a.length, ra = (i : Int) := by
  unfold knownB at h; simp at h; exact ⟨ra.toNat, by omega, by omega⟩
theorem lost_at {a b : List DRule} {i j : Nat} (h : knownB a (i : Int) = true) (h' : knownB b (j : Int) = true) (hi : i < a.length) (hj : j < b.length) :
    lost a i b j = if a[i].kind = 6 then if b[j].kind = 6 then lostN a[i] b[j] else [] else [] := by
  unfold lost; rw [if_pos h, if_pos h']; simp [hi, hj]
theorem names_len {a : List DRule} {n : Nat} (h : szD a ≤ n) {p : DRule} (hp : p ∈ a) : p.names.length ≤ n := by
  have := szD_mem h hp; unfold szRl at this; omega
theorem lost_len {a b : List DRule} {ra rb : Int} {n : Nat} (h : szD a ≤ n) : (lost a ra b rb).length ≤ n := by
  by_cases h1 : knownB a ra = true
  · by_cases h2 : knownB b rb = true
    · obtain ⟨i, hi, rfl⟩ := knownB_at h1
      obtain ⟨j, hj, rfl⟩ := knownB_at h2
      rw [lost_at h1 h2 hi hj]
      have h3 := names_len h (List.getElem_mem hi)
      have h4 := List.length_filter_le (fun s => !hasNm b[j].names s) a[i].names
      unfold lostN
      split
      · split
        · omega
        · simp
      · simp
    · unfold lost; rw [if_pos h1, if_neg h2]; simp
  · unfold lost; rw [if_neg h1]; simp
end Go.Proofs.Ytpefbcnfhngggaa
