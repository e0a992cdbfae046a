/- Plain laws of packing: no program in sight. -/
import Derived.Test.YtcaeeoghkonniaaRunPure
namespace Go.Proofs.Ytcaeeoghkonniaa

/-- where the bytes that are laid as they are end -/
def litF (l : List UInt8) (a : Nat) : Nat → Nat → Nat
  | 0, k => k
  | f + 1, k => if k < l.length ∧ k - a < 127 ∧ runAt l k < 3 then litF l a f (k + 1) else k
def litEnd (l : List UInt8) (a k : Nat) : Nat := litF l a (l.length - k) k
theorem litEnd_step {l : List UInt8} {a k : Nat} (h : k < l.length ∧ k - a < 127 ∧ runAt l k < 3) : litEnd l a k = litEnd l a (k + 1) := by
  unfold litEnd
  obtain ⟨n, hn⟩ : ∃ n, l.length - k = n + 1 := ⟨l.length - k - 1, by omega⟩
  rw [hn, litF, if_pos h, show l.length - (k + 1) = n by omega]
theorem litEnd_stop {l : List UInt8} {a k : Nat} (h : ¬ (k < l.length ∧ k - a < 127 ∧ runAt l k < 3)) : litEnd l a k = k := by
  unfold litEnd
  cases l.length - k with
  | zero => rfl
  | succ n => rw [litF, if_neg h]
theorem litF_ge (l : List UInt8) (a : Nat) : ∀ f k, k ≤ litF l a f k := by
  intro f
  induction f with
  | zero => intro k; exact Nat.le_refl _
  | succ f ih => intro k; rw [litF]; split; exact Nat.le_trans (Nat.le_succ k) (ih (k+1)); exact Nat.le_refl _
theorem litF_le (l : List UInt8) (a : Nat) : ∀ f k, k ≤ l.length → k - a ≤ 127 → litF l a f k ≤ l.length ∧ litF l a f k - a ≤ 127 := by
  intro f
  induction f with
  | zero => intro k h1 h2; exact ⟨h1, h2⟩
  | succ f ih => intro k h1 h2; rw [litF]; split; exact ih (k+1) (by omega) (by omega); exact ⟨h1, h2⟩
theorem litEnd_ge (l : List UInt8) (a k : Nat) : k ≤ litEnd l a k := litF_ge l a _ k
theorem litEnd_le {l : List UInt8} {a k : Nat} (h1 : k ≤ l.length) (h2 : k - a ≤ 127) : litEnd l a k ≤ l.length ∧ litEnd l a k - a ≤ 127 := litF_le l a _ k h1 h2
theorem litEnd_gt {l : List UInt8} {a : Nat} (h : a < l.length) (hr : runAt l a < 3) : litEnd l a a = litEnd l a (a + 1) := litEnd_step ⟨h, by omega, hr⟩

/-- what stands for the bytes from an index on -/
def packF (l : List UInt8) : Nat → Nat → List UInt8
  | 0, _ => []
  | f + 1, a =>
    if h : a < l.length then
      if 3 ≤ runAt l a then UInt8.ofNat (128 + min (runAt l a) 127) :: l[a] :: packF l f (a + min (runAt l a) 127)
      else UInt8.ofNat (litEnd l a a - a) :: ((l.drop a).take (litEnd l a a - a) ++ packF l f (litEnd l a a))
    else []
theorem packF_fuel (l : List UInt8) : ∀ f g a, l.length - a ≤ f → l.length - a ≤ g → packF l f a = packF l g a := by
  intro f
  induction f with
  | zero =>
    intro g a h _
    cases g with
    | zero => rfl
    | succ g => rw [packF, packF, dif_neg (by omega)]
  | succ f ih =>
    intro g a h1 h2
    cases g with
    | zero => rw [packF, packF, dif_neg (by omega)]
    | succ g =>
      rw [packF, packF]
      by_cases ha : a < l.length
      · rw [dif_pos ha, dif_pos ha]
        by_cases hr : 3 ≤ runAt l a
        · rw [if_pos hr, if_pos hr, ih g _ (by omega) (by omega)]
        · have := litEnd_ge l a (a+1)
          rw [if_neg hr, if_neg hr, litEnd_gt ha (by omega), ih g _ (by omega) (by omega)]
      · rw [dif_neg ha, dif_neg ha]
def packAt (l : List UInt8) (a : Nat) : List UInt8 := packF l l.length a
def pack (l : List UInt8) : List UInt8 := packAt l 0
theorem packAt_end {l : List UInt8} {a : Nat} (h : l.length ≤ a) : packAt l a = [] := by
  unfold packAt; rw [packF_fuel l l.length 0 a (by omega) (by omega), packF]
theorem packAt_run {l : List UInt8} {a : Nat} (h : a < l.length) (hr : 3 ≤ runAt l a) : packAt l a = UInt8.ofNat (128 + min (runAt l a) 127) :: l[a] :: packAt l (a + min (runAt l a) 127) := by
  unfold packAt; rw [packF_fuel l l.length (l.length + 1) a (by omega) (by omega), packF, dif_pos h, if_pos hr]
theorem packAt_lit {l : List UInt8} {a : Nat} (h : a < l.length) (hr : ¬ 3 ≤ runAt l a) : packAt l a = UInt8.ofNat (litEnd l a a - a) :: ((l.drop a).take (litEnd l a a - a) ++ packAt l (litEnd l a a)) := by
  unfold packAt; rw [packF_fuel l l.length (l.length + 1) a (by omega) (by omega), packF, dif_pos h, if_neg hr]
/-- three equal bytes begin at an index -/
theorem run3 {l : List UInt8} {a : Nat} : (3 ≤ runAt l a) ↔ (a + 2 < l.length ∧ l[a]? = l[a+1]? ∧ l[a]? = l[a+2]?) := by
  by_cases ha : a < l.length
  · obtain ⟨h1, h2, h3, h4⟩ := runAt_spec l a ha
    constructor
    · intro h
      exact ⟨by omega, (h3 1 (by omega)).symm, (h3 2 (by omega)).symm⟩
    · rintro ⟨g1, g2, g3⟩
      rcases Nat.lt_or_ge (runAt l a) 3 with hlt | hge
      · rcases (by omega : runAt l a = 1 ∨ runAt l a = 2) with e | e
        · rw [e] at h4; exact absurd g2.symm h4
        · rw [e] at h4; exact absurd g3.symm h4
      · exact hge
  · rw [runAt_out (by omega)]; omega
theorem packF_le (l : List UInt8) : ∀ f a, a ≤ l.length → (packF l f a).length ≤ 2 * (l.length - a) := by
  intro f
  induction f with
  | zero => intro a _; simp [packF]
  | succ f ih =>
    intro a ha
    rw [packF]
    split
    · rename_i h
      split
      · rename_i hr
        have h2 := (runAt_spec l a h).2.1
        have := ih (a + min (runAt l a) 127) (by omega)
        simp only [List.length_cons]; omega
      · rename_i hr
        have h1 := litEnd_ge l a (a+1)
        rw [litEnd_gt h (by omega)]
        have h2 := (litEnd_le (l := l) (a := a) (k := a+1) (by omega) (by omega)).1
        have := ih (litEnd l a (a+1)) (by omega)
        simp only [List.length_cons, List.length_append, List.length_take, List.length_drop]; omega
    · simp
theorem packAt_le (l : List UInt8) (a : Nat) (h : a ≤ l.length) : (packAt l a).length ≤ 2 * (l.length - a) := packF_le l _ a h
theorem pack_le (l : List UInt8) : (pack l).length ≤ 2 * l.length := packAt_le l 0 (by omega)
end Go.Proofs.Ytcaeeoghkonniaa
