/- Extension of one description by another one, as a plain function of the rules. -/
import Derived.Test.YtpefbcnfhngggaaCover1
import Derived.Test.YtpefbcnfhngggaaDescEq
import Derived.Test.YtpefbcnfhngggaaLost
namespace Go.Proofs.Ytpefbcnfhngggaa

theorem allN_congr {n : Nat} {f g : Nat → Bool} (h : ∀ k, k < n → f k = g k) : allN n f = allN n g := by
  cases hg : allN n g
  · cases hf : allN n f
    · rfl
    · have : allN n g = true := allN_yes fun j hj => by rw [← h j hj]; exact allN_at hf hj
      rw [hg] at this; cases this
  · exact allN_yes fun j hj => by rw [h j hj]; exact allN_at hg hj
/-- what a valid rule has, by its kind -/
structure RuleFacts (r : DRule) : Prop where
  kind : 1 ≤ r.kind ∧ r.kind ≤ 10
  plain : r.kind = 1 ∨ r.kind = 2 ∨ r.kind = 3 ∨ r.kind = 10 → r.names = [] ∧ r.kids = []
  parts : r.kind = 4 ∨ r.kind = 5 ∨ r.kind = 6 ∨ r.kind = 7 ∨ r.kind = 8 ∨ r.kind = 9 → r.size = 0 ∧ r.little = false ∧ r.bytes = []
  cho : r.kind = 7 → r.kids.length = r.tags.length + 1 ∧ r.names = []
theorem plainB_facts {r : DRule} {s b n t : Bool} {k : Int} (h : plainB r s b n t k = true) : (s = false → r.size = 0) ∧ (b = false → r.bytes = []) ∧ (n = false → r.names = []) ∧ (0 ≤ k → (r.kids.length : Int) = k) := by
  unfold plainB at h
  simp only [Bool.and_eq_true, Bool.or_eq_true, beq_iff_eq, decide_eq_true_eq, List.length_eq_zero_iff] at h
  obtain ⟨⟨⟨⟨h1, h2⟩, h3⟩, h4⟩, h5⟩ := h
  refine ⟨fun e => ?_, fun e => ?_, fun e => ?_, fun e => by omega⟩
  · rw [e] at h1; simpa using h1
  · rw [e] at h2; simpa using h2
  · rw [e] at h3; simpa using h3
theorem ruleKind {ds : List DRule} (h : descOk ds = true) (i : Nat) (hi : i < ds.length) : kindOk ds ds[i] = true := by
  unfold descOk at h
  rw [Bool.and_eq_true] at h
  have h1 := allN_at h.2 hi
  unfold ruleOk at h1
  rw [List.getElem?_eq_getElem hi] at h1
  simp only [Bool.and_eq_true] at h1
  exact h1.2
theorem ruleFacts {ds : List DRule} (h : descOk ds = true) (i : Nat) (hi : i < ds.length) : RuleFacts ds[i] := by
  unfold descOk at h
  rw [Bool.and_eq_true] at h
  have h1 := allN_at h.2 hi
  unfold ruleOk at h1
  rw [List.getElem?_eq_getElem hi] at h1
  simp only [Bool.and_eq_true] at h1
  have hk := h1.2
  have hlit := h1.1.1.1.2
  generalize ds[i] = r at *
  have hl : r.kind ≠ 1 → r.little = false := by
    intro hne
    cases hq : r.little
    · rfl
    · rw [hq] at hlit; simp at hlit; exact absurd hlit hne
  unfold kindOk at hk
  have NO : ∀ {p : Prop} {k k' : Int}, k ≠ k' → r.kind = k → r.kind = k' → p := fun hne e1 e2 => absurd (e1.symm.trans e2) hne
  split at hk
  · rename_i e
    simp only [Bool.and_eq_true] at hk
    have f := plainB_facts hk.1.1
    exact ⟨by omega, fun _ => ⟨f.2.2.1 rfl, by have := f.2.2.2 (by omega); simpa using this⟩, fun h => by omega, fun h => by omega⟩
  split at hk
  · rename_i e
    simp only [Bool.and_eq_true] at hk
    have f := plainB_facts hk.1
    exact ⟨by omega, fun _ => ⟨f.2.2.1 rfl, by have := f.2.2.2 (by omega); simpa using this⟩, fun h => by omega, fun h => by omega⟩
  split at hk
  · rename_i e
    simp only [Bool.and_eq_true] at hk
    have f := plainB_facts hk.1
    exact ⟨by omega, fun _ => ⟨f.2.2.1 rfl, by have := f.2.2.2 (by omega); simpa using this⟩, fun h => by omega, fun h => by omega⟩
  split at hk
  · rename_i e
    simp only [Bool.and_eq_true] at hk
    have f := plainB_facts hk.1
    exact ⟨by omega, fun h => by omega, fun _ => ⟨f.1 rfl, hl (by omega), f.2.1 rfl⟩, fun h => by omega⟩
  split at hk
  · rename_i e
    simp only [Bool.and_eq_true] at hk
    have f := plainB_facts hk.1
    exact ⟨by omega, fun h => by omega, fun _ => ⟨f.1 rfl, hl (by omega), f.2.1 rfl⟩, fun h => by omega⟩
  split at hk
  · rename_i e
    unfold seqOk at hk
    simp only [Bool.and_eq_true] at hk
    have f := plainB_facts hk.1.1.1
    exact ⟨by omega, fun h => by omega, fun _ => ⟨f.1 rfl, hl (by omega), f.2.1 rfl⟩, fun h => by omega⟩
  split at hk
  · rename_i e
    unfold choOk at hk
    simp only [Bool.and_eq_true] at hk
    have f := plainB_facts hk.1.1
    exact ⟨by omega, fun h => by omega, fun _ => ⟨f.1 rfl, hl (by omega), f.2.1 rfl⟩, fun _ => ⟨by have := f.2.2.2 (by omega); omega, f.2.2.1 rfl⟩⟩
  split at hk
  · rename_i e
    have f := plainB_facts hk
    exact ⟨by omega, fun h => by omega, fun _ => ⟨f.1 rfl, hl (by omega), f.2.1 rfl⟩, fun h => by omega⟩
  split at hk
  · rename_i e
    have f := plainB_facts hk
    exact ⟨by omega, fun h => by omega, fun _ => ⟨f.1 rfl, hl (by omega), f.2.1 rfl⟩, fun h => by omega⟩
  split at hk
  · rename_i e
    simp only [Bool.and_eq_true] at hk
    have f := plainB_facts hk.1.1
    exact ⟨by omega, fun _ => ⟨f.2.2.1 rfl, by have := f.2.2.2 (by omega); simpa using this⟩, fun h => by omega, fun h => by omega⟩
  · cases hk

/-- the place of a tag; the length, where there is none -/
def tagN (l : List Int) (t : Int) : Nat := l.findIdx (· == t)
theorem tagN_at {l : List Int} {t : Int} {k : Nat} (hk : k < l.length) (h : l[k] = t) (hn : ∀ j (hj : j < l.length), j < k → l[j] ≠ t) : tagN l t = k := by
  unfold tagN
  rw [List.findIdx_eq hk]
  exact ⟨by simpa using h, fun j hj => by have := hn j (by omega) hj; simpa using this⟩
theorem tagN_none {l : List Int} {t : Int} (hn : ∀ j (hj : j < l.length), l[j] ≠ t) : tagN l t = l.length := by
  unfold tagN
  rw [List.findIdx_eq_length]
  intro x hx
  obtain ⟨k, hk, rfl⟩ := List.getElem_of_mem hx
  simpa using hn k hk
theorem tagN_le (l : List Int) (t : Int) : tagN l t ≤ l.length := List.findIdx_le_length
def kd (r : DRule) (t : Nat) : Nat := (r.kids.getD t 0).toNat
theorem kd_at {r : DRule} {t : Nat} (h : t < r.kids.length) : kd r t = r.kids[t].toNat := by unfold kd; simp [h]
theorem kd_lt {ds : List DRule} (h : descOk ds = true) (i : Nat) (hi : i < ds.length) (t : Nat) (ht : t < ds[i].kids.length) : kd ds[i] t < i := by
  rw [kd_at ht]; have := descOk_kid h i hi t ht; omega
theorem kd_int {ds : List DRule} (h : descOk ds = true) (i : Nat) (hi : i < ds.length) (t : Nat) (ht : t < ds[i].kids.length) : ds[i].kids[t] = (kd ds[i] t : Int) := by
  rw [kd_at ht]; have := descOk_kid h i hi t ht; omega
/-- what two rules say themselves -/
def extHead (x y : DRule) : Bool := x.kind == y.kind && x.size == y.size && x.little == y.little && x.bytes == y.bytes
/-- the alternative with tag number t of x -/
def extTag (e : Nat → Nat → Bool) (x y : DRule) (t : Nat) : Bool := decide (tagN y.tags (x.tags.getD t 0) < y.tags.length) && e (kd x (t + 1)) (kd y (tagN y.tags (x.tags.getD t 0) + 1))
/-- the parts -/
def extTail (e : Nat → Nat → Bool) (x y : DRule) : Bool :=
  if x.kind = 7 then e (kd x 0) (kd y 0) && allN x.tags.length (extTag e x y)
  else eqNms x.names y.names && x.kids.length == y.kids.length && allN x.kids.length (fun t => e (kd x t) (kd y t))
def extF (a b : List DRule) : Nat → Nat → Nat → Bool
  | 0, _, _ => false
  | n + 1, i, j => match a[i]?, b[j]? with
    | some x, some y => extHead x y && extTail (extF a b n) x y
    | _, _ => false
/-- rule j of b extends rule i of a -/
def ext (a b : List DRule) (i j : Nat) : Bool := extF a b (i + 1) i j
theorem extTail_congr {ds : List DRule} (h : descOk ds = true) (i : Nat) (hi : i < ds.length) (e e' : Nat → Nat → Bool) (y : DRule) (he : ∀ k, k < i → ∀ j, e k j = e' k j) : extTail e ds[i] y = extTail e' ds[i] y := by
  have hk := kd_lt h i hi
  have hf := ruleFacts h i hi
  unfold extTail
  split
  · rename_i h7
    have hc := (hf.cho h7).1
    rw [he _ (hk 0 (by omega))]
    rw [allN_congr (f := extTag e ds[i] y) (g := extTag e' ds[i] y) (fun t ht => by unfold extTag; rw [he _ (hk (t + 1) (by omega))])]
  · rw [allN_congr (fun t ht => he _ (hk t ht) _)]
theorem extF_fuel {a : List DRule} (h : descOk a = true) (b : List DRule) : ∀ n m i j, i < n → i < m → extF a b n i j = extF a b m i j := by
  intro n
  induction n with
  | zero => intro m i j hn; omega
  | succ n ih =>
    intro m i j hn hm
    obtain ⟨m', rfl⟩ : ∃ m', m = m' + 1 := ⟨m - 1, by omega⟩
    unfold extF
    rcases Nat.lt_or_ge i a.length with hi | hi
    · rw [List.getElem?_eq_getElem hi]
      rcases Nat.lt_or_ge j b.length with hj | hj
      · rw [List.getElem?_eq_getElem hj]
        show (_ && _) = (_ && _)
        rw [extTail_congr h i hi _ (extF a b m') _ (fun k hk j => ih m' k j (by omega) (by omega))]
      · rw [List.getElem?_eq_none hj]
    · rw [List.getElem?_eq_none hi]
theorem ext_step {a b : List DRule} (h : descOk a = true) (i j : Nat) (hi : i < a.length) (hj : j < b.length) : ext a b i j = (extHead a[i] b[j] && extTail (ext a b) a[i] b[j]) := by
  unfold ext
  rw [extF, List.getElem?_eq_getElem hi, List.getElem?_eq_getElem hj]
  show (_ && _) = (_ && _)
  rw [extTail_congr h i hi (extF a b i) (fun i j => extF a b (i + 1) i j) b[j] (fun k hk j => extF_fuel h b i (k + 1) k j hk (by omega))]
/-- ExtendsRule, Extends, SameFormat -/
def extRule (a b : List DRule) (i j : Int) : Bool := knownB a i && (knownB b j && ext a b i.toNat j.toNat)
def extD (a b : List DRule) : Bool := extRule a b ((a.length : Int) - 1) ((b.length : Int) - 1)
def sameF (a b : List DRule) : Bool := extD a b && extD b a
end Go.Proofs.Ytpefbcnfhngggaa
