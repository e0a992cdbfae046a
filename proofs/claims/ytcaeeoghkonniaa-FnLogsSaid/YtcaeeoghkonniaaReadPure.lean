/- Plain laws of reading records one behind the other: no program in sight. -/
import Derived.Test.YtcaeeoghkonniaaEncPure
namespace Go.Proofs.Ytcaeeoghkonniaa

/-- the length of the encoding that begins at an index -/
def sizeAt (b : List UInt8) (a : Nat) : Nat := nmAt b a + 6 + szAt b a
def readF : Nat → List UInt8 → Nat → List DRec × Nat
  | 0, _, a => ([], a)
  | f + 1, b, a => match decN b a with
    | none => ([], a)
    | some r => (r :: (readF f b (a + sizeAt b a)).1, (readF f b (a + sizeAt b a)).2)
theorem decN_out {b : List UInt8} {a : Nat} (h : b.length < a + 6) : decN b a = none := by
  cases hd : decN b a with
  | none => rfl
  | some r => have := (decN_some hd).1; omega
theorem decN_fits {b : List UInt8} {a : Nat} {r : DRec} (h : decN b a = some r) : a + sizeAt b a ≤ b.length ∧ 6 ≤ sizeAt b a := by
  have := (decN_some h).1; unfold sizeAt; omega
theorem readF_fuel (b : List UInt8) : ∀ f g a, b.length - a ≤ f → b.length - a ≤ g → readF f b a = readF g b a := by
  intro f
  induction f with
  | zero =>
    intro g a h _
    cases g with
    | zero => rfl
    | succ g => rw [readF, readF, decN_out (by omega)]
  | succ f ih =>
    intro g a h1 h2
    cases g with
    | zero => rw [readF, readF, decN_out (by omega)]
    | succ g =>
      rw [readF, readF]
      cases hd : decN b a with
      | none => rfl
      | some r =>
        have := decN_fits hd
        simp only
        rw [ih g (a + sizeAt b a) (by omega) (by omega)]
/-- the records from an index on; where the reading stops -/
def recs (b : List UInt8) (a : Nat) : List DRec := (readF b.length b a).1
def stop (b : List UInt8) (a : Nat) : Nat := (readF b.length b a).2
theorem read_none {b : List UInt8} {a : Nat} (h : decN b a = none) : recs b a = [] ∧ stop b a = a := by
  unfold recs stop
  cases b.length with
  | zero => exact ⟨rfl, rfl⟩
  | succ n => rw [readF, h]; exact ⟨rfl, rfl⟩
theorem read_some {b : List UInt8} {a : Nat} {r : DRec} (h : decN b a = some r) : recs b a = r :: recs b (a + sizeAt b a) ∧ stop b a = stop b (a + sizeAt b a) := by
  have hf := decN_fits h
  unfold recs stop
  rw [readF_fuel b b.length (b.length + 1) a (by omega) (by omega), readF, h]
  exact ⟨rfl, rfl⟩
theorem readF_le (b : List UInt8) : ∀ f a, a ≤ b.length → (readF f b a).2 ≤ b.length ∧ a ≤ (readF f b a).2 ∧ 6 * (readF f b a).1.length + a ≤ (readF f b a).2 := by
  intro f
  induction f with
  | zero => intro a h; exact ⟨h, Nat.le_refl _, by simp [readF]⟩
  | succ f ih =>
    intro a h
    rw [readF]
    cases hd : decN b a with
    | none => exact ⟨h, Nat.le_refl _, by simp⟩
    | some r =>
      have hf := decN_fits hd
      have := ih (a + sizeAt b a) (by omega)
      simp only [List.length_cons]
      omega
theorem stop_le {b : List UInt8} {a : Nat} (h : a ≤ b.length) : stop b a ≤ b.length ∧ a ≤ stop b a := ⟨(readF_le b _ a h).1, (readF_le b _ a h).2.1⟩
theorem recs_le {b : List UInt8} {a : Nat} (h : a ≤ b.length) : 6 * (recs b a).length + a ≤ b.length := by
  have := readF_le b b.length a h; unfold recs; omega

theorem take_drop_take {α : Type} (b : List α) {s k m : Nat} (h : k + m ≤ s) : ((b.take s).drop k).take m = (b.drop k).take m := by
  rw [List.drop_take, List.take_take, Nat.min_eq_left (by omega)]
theorem getD_take {b : List UInt8} {s i : Nat} (h : i < s) : (b.take s).getD i 0 = b.getD i 0 := by
  simp [List.getD, List.getElem?_take, h]
theorem nmAt_take {b : List UInt8} {s a : Nat} (h : a + 1 < s) : nmAt (b.take s) a = nmAt b a := by unfold nmAt; rw [getD_take h]
theorem szAt_take {b : List UInt8} {s a : Nat} (h : a + nmAt b a + 4 < s) : szAt (b.take s) a = szAt b a := by
  unfold szAt; rw [nmAt_take (by omega), getD_take (by omega), getD_take (by omega)]
theorem decN_take_eq {b : List UInt8} {s a : Nat} (hs : s ≤ b.length) (h : a + sizeAt b a ≤ s) : decN (b.take s) a = decN b a := by
  unfold sizeAt at h
  have hl : (b.take s).length = s := by rw [List.length_take]; omega
  have e1 : nmAt (b.take s) a = nmAt b a := nmAt_take (by omega)
  have e2 : szAt (b.take s) a = szAt b a := szAt_take (by omega)
  have e3 : ∀ d, recAt (b.take s) a d = recAt b a d := by
    intro d; unfold recAt
    rw [e1, getD_take (by omega), getD_take (by omega), take_drop_take b (by omega)]
  unfold decN
  rw [e1, e2, hl, if_neg (by omega), if_neg (by omega), take_drop_take b (by omega), take_drop_take b (by omega)]
  simp only [e3]
theorem decN_take_some {b : List UInt8} {s a : Nat} {r : DRec} (hs : s ≤ b.length) (h : decN (b.take s) a = some r) : decN b a = some r ∧ a + sizeAt b a ≤ s := by
  have hf := (decN_some h).1
  have hl : (b.take s).length = s := by rw [List.length_take]; omega
  rw [hl] at hf
  have e1 : nmAt (b.take s) a = nmAt b a := nmAt_take (by omega)
  rw [e1] at hf
  have e2 : szAt (b.take s) a = szAt b a := szAt_take (by omega)
  rw [e2] at hf
  have hz : a + sizeAt b a ≤ s := by unfold sizeAt; omega
  exact ⟨(decN_take_eq hs hz).symm.trans h, hz⟩
theorem decN_take_none {b : List UInt8} {s a : Nat} (hs : s ≤ b.length) (h : decN b a = none ∨ s < a + sizeAt b a) : decN (b.take s) a = none := by
  cases hd : decN (b.take s) a with
  | none => rfl
  | some r =>
    obtain ⟨h1, h2⟩ := decN_take_some hs hd
    rcases h with h | h
    · rw [h] at h1; cases h1
    · omega

/-- a log is valid -/
def validLog (b : List UInt8) (s : Int) : Bool := decide (0 ≤ s) && decide (s ≤ b.length) && (stop b 0 == b.length) && (stop (b.take s.toNat) 0 == s.toNat)
/-- the bytes that are stored end with a record -/
def endsAt (b : List UInt8) (s : Nat) : Bool := stop (b.take s) 0 == s
/-- what the scan of a log knows at an index -/
def Scan (b : List UInt8) (s a : Nat) (e : Bool) : Prop :=
  (e = true ∧ endsAt b s = true) ∨ (e = false ∧ a < s ∧ stop (b.take s) a = stop (b.take s) 0) ∨ (e = false ∧ s < a ∧ endsAt b s = false)
theorem Scan.start (b : List UInt8) (s : Nat) : Scan b s 0 (s == 0) := by
  by_cases h : s = 0
  · subst h
    refine .inl ⟨rfl, ?_⟩
    unfold endsAt
    rw [List.take_zero, (read_none (decN_out (by simp))).2]; rfl
  · exact .inr (.inl ⟨by simpa using h, by omega, rfl⟩)
theorem Scan.step {b : List UInt8} {s a : Nat} {e : Bool} {r : DRec} (hs : s ≤ b.length) (hd : decN b a = some r) (h : Scan b s a e) : Scan b s (a + sizeAt b a) (e || (a + sizeAt b a == s)) := by
  have hf := decN_fits hd
  rcases h with ⟨rfl, h⟩ | ⟨rfl, h1, h2⟩ | ⟨rfl, h1, h2⟩
  · exact .inl ⟨rfl, h⟩
  · by_cases hle : a + sizeAt b a ≤ s
    · have hd' := (decN_take_eq hs hle).trans hd
      have hz : sizeAt (b.take s) a = sizeAt b a := by
        unfold sizeAt at hle ⊢
        rw [nmAt_take (by omega), szAt_take (by omega)]
      have h3 := (read_some hd').2
      rw [hz] at h3
      by_cases he : a + sizeAt b a = s
      · rw [he]
        refine .inl ⟨by simp, ?_⟩
        unfold endsAt
        rw [← h2, h3, he, (read_none (decN_out (by rw [List.length_take]; omega))).2]
        simp
      · exact .inr (.inl ⟨by simpa using he, by omega, by rw [← h3]; exact h2⟩)
    · refine .inr (.inr ⟨by simp; omega, by omega, ?_⟩)
      unfold endsAt
      rw [← h2, (read_none (decN_take_none hs (.inr (by omega)))).2]
      simp; omega
  · exact .inr (.inr ⟨by simp; omega, by omega, h2⟩)
theorem Scan.done {b : List UInt8} {s : Nat} {e : Bool} (hs : s ≤ b.length) (h : Scan b s b.length e) : e = endsAt b s := by
  rcases h with ⟨rfl, h⟩ | ⟨rfl, h1, _⟩ | ⟨rfl, _, h⟩
  · exact h.symm
  · omega
  · exact h.symm
theorem validLog_eq {b : List UInt8} {s : Nat} (hs : s ≤ b.length) : validLog b (s : Int) = ((stop b 0 == b.length) && endsAt b s) := by
  unfold validLog endsAt
  rw [Int.toNat_natCast]
  have h1 : decide ((0 : Int) ≤ (s : Int)) = true := by simp
  have h2 : decide ((s : Int) ≤ (b.length : Int)) = true := by simp; omega
  rw [h1, h2]; simp
theorem validLog_out {b : List UInt8} {s : Int} (h : s < 0 ∨ (b.length : Int) < s) : validLog b s = false := by
  unfold validLog
  rcases h with h | h
  · have h1 : decide ((0 : Int) ≤ s) = false := by simp; omega
    rw [h1]; rfl
  · have h1 : decide (s ≤ (b.length : Int)) = false := by simp; omega
    rw [h1]; simp
theorem validLog_facts {b : List UInt8} {s : Int} (h : validLog b s = true) : 0 ≤ s ∧ s ≤ b.length ∧ stop b 0 = b.length ∧ stop (b.take s.toNat) 0 = s.toNat := by
  unfold validLog at h
  simp only [Bool.and_eq_true, decide_eq_true_eq, beq_iff_eq] at h
  exact ⟨h.1.1.1, h.1.1.2, h.1.2, h.2⟩
end Go.Proofs.Ytcaeeoghkonniaa
