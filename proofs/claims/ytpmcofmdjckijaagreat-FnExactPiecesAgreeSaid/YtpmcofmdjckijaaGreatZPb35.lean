/- Texts, laid into one. -/
import Derived.Test.YtpmcofmdjckijaaGreatZPb34
set_option linter.unusedVariables false
set_option linter.unusedSimpArgs false
set_option maxRecDepth 100000
set_option maxHeartbeats 16000000
namespace Go.Proofs.YtpmcofmdjckijaaGreat
theorem blockN_spec {es : List Int} {x : Int} : ∀ M, M ≤ es.length → (∃ j, j < M ∧ es.getD j 0 ≤ x) → ∃ b : Nat, b < M ∧ blockN es x M = (b : Int) ∧ es.getD b 0 ≤ x ∧ ∀ j, b < j → j < M → x < es.getD j 0
 | 0, _, ⟨j, hj, _⟩ => by omega
 | M + 1, hM, ⟨j, hj, hjx⟩ => by
  by_cases h : es.getD M 0 ≤ x
  ·exact ⟨M, by omega, by rw [blockN, if_pos h], h, fun j' h1 h2 => by omega⟩
  ·have hj' : j < M := by
    rcases Nat.lt_or_ge j M with h' | h'
    ·exact h'
    ·rw [show j = M by omega] at hjx; exact absurd hjx h
   obtain ⟨b, h1, h2, h3, h4⟩ := blockN_spec M (by omega) ⟨j, hj', hjx⟩
   refine ⟨b, by omega, by rw [blockN, if_neg h, h2], h3, fun j' a1 a2 => ?_⟩
   rcases Nat.lt_or_ge j' M with h' | h'
   ·exact h4 j' a1 h'
   ·rw [show j' = M by omega]; omega
theorem blockOf_at {es : List Int} {x : Int} (h0 : 0 < es.length) (h2 : es.getD 0 0 = 2) (hx : 2 ≤ x) : ∃ b : Nat, b < es.length ∧ blockOf es x = (b : Int) ∧ es.getD b 0 ≤ x ∧ ∀ j, b < j → j < es.length → x < es.getD j 0 :=
 blockN_spec es.length (Nat.le_refl _) ⟨0, h0, by omega⟩
theorem rowOk_at {cs : List Ins} {es : List Int} {s f : Int} : ∀ {F : Nat} {k0 : Int}, rowOk cs es s f F k0 = true → ∀ k, k0 ≤ k → k < k0 + F → innerOk cs es k s f = true
 | 0, k0, _, k, h1, h2 => by omega
 | F + 1, k0, h, k, h1, h2 => by
  rw [rowOk, Bool.and_eq_true] at h
  rcases Int.lt_or_eq_of_le h1 with h3 | h3
  ·exact rowOk_at h.2 k (by omega) (by omega)
  ·rw [← h3]; exact h.1
theorem callOk_mem {es : List Int} {a s : Int} : ∀ {l : List Int}, callOk es a s l = true → a ∈ l
 | [], h => by cases h
 | e :: t, h => by
  rw [callOk] at h
  split at h
  ·split at h
   ·rename_i h1; rw [← h1]; exact List.mem_cons_self ..
   ·exact List.mem_cons_of_mem _ (callOk_mem h)
  ·cases h
theorem safe_parts {cs : List Ins} {es : List Int} (h : safeOk cs es = true) : headOk cs es = true ∧ (∀ i, i < es.length - 1 → ascOk cs es i = true) ∧ ∀ b, b < es.length → blockOk cs es b = true := by
 unfold safeOk at h
 simp only [Bool.and_eq_true] at h
 exact ⟨h.1.1.1, fun i hi => allFrom_at h.1.2 i (Nat.zero_le _) (by omega), fun b hb => by
  have := h.2; unfold blocksOk at this
  exact allFrom_at this b (Nat.zero_le _) (by omega)⟩
theorem safe_calls {cs : List Ins} {es : List Int} (h : safeOk cs es = true) (hel : es.length ≤ 1000000) (k : Nat) (hk : 2 ≤ k) (hkn : k < cs.length) (hop : (insAt cs (k : Int)).1 = 9) : 2 ≤ (insAt cs (k : Int)).2.1 := by
 obtain ⟨hh, ha, hb⟩ := safe_parts h
 obtain ⟨h0, h2, _, _⟩ := head_facts hh
 obtain ⟨_, h22⟩ := entIn_of hh hel ha
 obtain ⟨b, hbl, _, hb1, hb2⟩ := blockOf_at (x := (k : Int)) h0 h2 (by omega)
 have hB := hb b hbl
 unfold blockOk at hB
 rw [Bool.and_eq_true] at hB
 have hend : (k : Int) < endOf cs es b := by
  unfold endOf
  split
  ·rename_i h'; exact hb2 (b + 1) (by omega) h'
  ·omega
 have hI := rowOk_at hB.2 (k : Int) hb1 (by omega)
 unfold innerOk at hI
 rw [if_neg (by omega), if_pos hop] at hI
 obtain ⟨j, hj, hje⟩ := List.getElem_of_mem (callOk_mem hI)
 rw [← hje]; exact h22 j hj
def needS (cs : List Ins) (es : List Int) (k : Int) (l : List Int) : List Int :=
 if (insAt cs k).1 = 9 then l.set (blockOf es k).toNat (max (l.getD (blockOf es k).toNat 0) ((if isOp cs (k - 1) 7 then 2 else 1) + l.getD (blockOf es (insAt cs k).2.1).toNat 0)) else l
def needN (cs : List Ins) (es : List Int) : Nat → List Int
 | 0 => List.replicate es.length 0
 | k + 1 => needS cs es ((k : Int) + 2) (needN cs es k)
def stackN (cs : List Ins) (es : List Int) : Int := if safeOk cs es then 1 + (needN cs es (cs.length - 2)).getD (es.length - 1) 0 else -1
def fitsOk (cs : List Ins) (es : List Int) : Bool := safeOk cs es && decide (stackN cs es ≤ 60)
theorem needN_len (cs : List Ins) (es : List Int) : ∀ k, (needN cs es k).length = es.length
 | 0 => by simp [needN]
 | k + 1 => by rw [needN, needS]; split <;> simp [needN_len cs es k]
theorem needN_in (cs : List Ins) (es : List Int) : ∀ k i, 0 ≤ (needN cs es k).getD i 0 ∧ (needN cs es k).getD i 0 ≤ 2 * (k : Int)
 | 0, i => by
  simp only [needN, List.getD_eq_getElem?_getD, List.getElem?_replicate]
  split <;> simp
 | k + 1, i => by
  have ih := needN_in cs es k
  rw [needN, needS]
  split
  ·generalize (blockOf es ((k : Int) + 2)).toNat = b
   generalize (blockOf es (insAt cs ((k : Int) + 2)).2.1).toNat = b2
   have h1 := ih i; have h2 := ih b; have h3 := ih b2
   rw [List.getD_eq_getElem?_getD, List.getElem?_set]
   split
   ·split
    ·simp only [Option.getD_some]
     rw [Int.max_def]
     split <;> split <;> omega
    ·simp; omega
   ·rw [← List.getD_eq_getElem?_getD]; omega
  ·have := ih i; omega
end Go.Proofs.YtpmcofmdjckijaaGreat
