/- Plain laws of runs of equal bytes: no program in sight. -/
namespace Go.Proofs.Ytalnekcmfagjoaa

def runLen : List UInt8 → Nat
  | [] => 0
  | x :: t => 1 + (t.takeWhile (· == x)).length

/-- how many equal bytes begin at an index -/
def runAt (l : List UInt8) (i : Int) : Nat := if 0 ≤ i ∧ i < l.length then runLen (l.drop i.toNat) else 0

theorem takeWhile_len {t : List UInt8} {x : UInt8} : ∀ (k : Nat), (∀ j, j < k → t[j]? = some x) → (t[k]? ≠ some x) → (t.takeWhile (· == x)).length = k := by
  induction t with
  | nil => intro k h _; cases k with
    | zero => rfl
    | succ k => have := h 0 (by omega); simp at this
  | cons y t ih =>
    intro k h hn
    cases k with
    | zero =>
      have : y ≠ x := by simpa using hn
      simp [this]
    | succ k =>
      have hy : y = x := by simpa using h 0 (by omega)
      subst hy
      rw [List.takeWhile_cons]
      simp
      exact ih k (fun j hj => by simpa using h (j+1) (by omega)) (by simpa using hn)

theorem runLen_drop {l : List UInt8} {a k : Nat} (hk : 1 ≤ k) (h : ∀ j, j < k → l[a+j]? = l[a]?) (ha : a < l.length) (hn : l[a+k]? ≠ l[a]?) : runLen (l.drop a) = k := by
  rw [List.drop_eq_getElem_cons ha]
  have hx : l[a]? = some l[a] := by simp [ha]
  rw [hx] at h hn
  have := takeWhile_len (t := l.drop (a+1)) (x := l[a]) (k-1) (fun j hj => by rw [List.getElem?_drop]; have := h (j+1) (by omega); rwa [show a + (j+1) = a + 1 + j by omega] at this) (by rw [List.getElem?_drop]; rwa [show a + 1 + (k-1) = a + k by omega])
  simp only [runLen, this]; omega
theorem runAt_eq {l : List UInt8} {a k : Nat} (hk : 1 ≤ k) (h : ∀ j, j < k → l[a+j]? = l[a]?) (ha : a < l.length) (hn : l[a+k]? ≠ l[a]?) : runAt l a = k := by
  unfold runAt; rw [if_pos (by omega)]; simpa using runLen_drop hk h ha hn
theorem runAt_out {l : List UInt8} {i : Int} (h : ¬ (0 ≤ i ∧ i < l.length)) : runAt l i = 0 := by
  unfold runAt; rw [if_neg h]
theorem takeWhile_spec (t : List UInt8) (x : UInt8) : (t.takeWhile (· == x)).length ≤ t.length ∧ (∀ j, j < (t.takeWhile (· == x)).length → t[j]? = some x) ∧ t[(t.takeWhile (· == x)).length]? ≠ some x := by
  induction t with
  | nil => simp
  | cons y t ih =>
    by_cases hy : y = x
    · subst hy
      rw [List.takeWhile_cons]
      simp only [BEq.rfl, if_true, List.length_cons]
      refine ⟨by omega, fun j hj => ?_, by simp; exact ih.2.2⟩
      cases j with
      | zero => rfl
      | succ j => simpa using ih.2.1 j (by omega)
    · rw [List.takeWhile_cons]
      simp [hy]
/-- what a run is, at an index within the list -/
theorem runAt_spec (l : List UInt8) (a : Nat) (ha : a < l.length) : 1 ≤ runAt l a ∧ a + runAt l a ≤ l.length ∧ (∀ j, j < runAt l a → l[a+j]? = l[a]?) ∧ l[a + runAt l a]? ≠ l[a]? := by
  unfold runAt
  rw [if_pos (by omega), Int.toNat_natCast, List.drop_eq_getElem_cons ha]
  have hx : l[a]? = some l[a] := by simp [ha]
  obtain ⟨h1, h2, h3⟩ := takeWhile_spec (l.drop (a+1)) l[a]
  simp only [runLen]
  rw [hx]
  generalize (List.takeWhile (fun x => x == l[a]) (List.drop (a + 1) l)).length = m at *
  rw [List.length_drop] at h1
  refine ⟨by omega, by omega, fun j hj => ?_, ?_⟩
  · cases j with
    | zero => exact hx
    | succ j => have := h2 j (by omega); rw [List.getElem?_drop] at this; rwa [show a + (j+1) = a + 1 + j by omega]
  · rw [List.getElem?_drop] at h3; rwa [show a + (1 + m) = a + 1 + m by omega]

/-- the number of maximal runs from an index on -/
def countFrom (l : List UInt8) : Nat → Nat → Nat
  | 0, _ => 0
  | f + 1, a => if a < l.length then 1 + countFrom l f (a + runAt l a) else 0
def countRuns (l : List UInt8) : Nat := countFrom l l.length 0
theorem countFrom_fuel (l : List UInt8) : ∀ f g a, l.length - a ≤ f → l.length - a ≤ g → countFrom l f a = countFrom l g a := by
  intro f
  induction f with
  | zero =>
    intro g a h _
    cases g with
    | zero => rfl
    | succ g => rw [countFrom, countFrom, if_neg (by omega)]
  | succ f ih =>
    intro g a h1 h2
    cases g with
    | zero => rw [countFrom, countFrom, if_neg (by omega)]
    | succ g =>
      rw [countFrom, countFrom]
      by_cases ha : a < l.length
      · have := (runAt_spec l a ha).1
        rw [if_pos ha, if_pos ha, ih g _ (by omega) (by omega)]
      · rw [if_neg ha, if_neg ha]
theorem countFrom_step (l : List UInt8) (a : Nat) (ha : a < l.length) : countFrom l l.length a = 1 + countFrom l l.length (a + runAt l a) := by
  have := (runAt_spec l a ha).1
  rw [countFrom_fuel l l.length (l.length + 1) a (by omega) (by omega), countFrom, if_pos ha]
theorem countFrom_end (l : List UInt8) (a : Nat) (ha : l.length ≤ a) : countFrom l l.length a = 0 := by
  rw [countFrom_fuel l l.length 0 a (by omega) (by omega), countFrom]
theorem countFrom_le (l : List UInt8) : ∀ f a, countFrom l f a ≤ f := by
  intro f
  induction f with
  | zero => intro a; simp [countFrom]
  | succ f ih => intro a; rw [countFrom]; split; have := ih (a + runAt l a); omega; omega
theorem runAt_le (l : List UInt8) (i : Int) : runAt l i ≤ l.length := by
  unfold runAt
  split
  · rename_i h
    have := (runAt_spec l i.toNat (by omega)).2.1
    unfold runAt at this; rw [if_pos (by omega), Int.toNat_natCast] at this; omega
  · omega
end Go.Proofs.Ytalnekcmfagjoaa
