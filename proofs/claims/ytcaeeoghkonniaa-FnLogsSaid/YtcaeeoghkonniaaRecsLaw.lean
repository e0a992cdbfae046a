/- The laws' helpers over slices of records: comparison, marks. -/
import Derived.Test.YtcaeeoghkonniaaRead
import Derived.Test.YtcaeeoghkonniaaMarkText
import Derived.Test.YtcaeeoghkonniaaBytes
namespace Go.Proofs.Ytcaeeoghkonniaa
open Go.RowKit Go.Sort

theorem rcells_get : ∀ (ps : List (DRec × Value)) (i j : Nat) (h : i < ps.length), j < 4 → (ps.flatMap rcells)[i * 4 + j]? = (rcells ps[i])[j]? := by
  intro ps
  induction ps with
  | nil => intro i j h; simp at h
  | cons p t ih =>
    intro i j h hj
    rw [List.flatMap_cons]
    cases i with
    | zero =>
      rw [List.getElem?_append_left (by simp [rcells]; omega)]
      simp
    | succ i =>
      rw [List.getElem?_append_right (by simp [rcells]; omega)]
      have : (i + 1) * 4 + j - (rcells p).length = i * 4 + j := by simp [rcells]; omega
      rw [this, ih i j (by simpa using h) hj]
      simp
/-- a slice of records that reads as ps -/
def RdR (w : World) (A : Option Addr) (ps : List (DRec × Value)) (c : Nat) : Prop :=
  ps.length ≤ c ∧ ps.length ≤ 1099511627776 ∧ (∀ p ∈ ps, ∃ A' c', p.2 = .slice A' p.1.l.length c' ∧ Bs w A' p.1.l c') ∧
  (0 < ps.length → ∃ b, A = some ⟨b, 0, none⟩ ∧ b < w.heap.size ∧ ∀ (w' : World), Ext w w' → ∀ i (h : i < ps.length), w'.cell? ⟨b, i * 4, none⟩ = some (.int .i64 ps[i].1.k) ∧ w'.cell? ⟨b, i * 4 + 1, none⟩ = some (.string ps[i].1.nm) ∧
    w'.cell? ⟨b, i * 4 + 2, none⟩ = some (.int .i64 ps[i].1.ver) ∧ w'.cell? ⟨b, i * 4 + 3, none⟩ = some ps[i].2)
theorem RdR.ext {w w1 : World} {A : Option Addr} {ps : List (DRec × Value)} {c : Nat} (h : RdR w A ps c) (e : Ext w w1) : RdR w1 A ps c :=
  ⟨h.1, h.2.1, fun p hp => let ⟨A', c', h1, h2⟩ := h.2.2.1 p hp; ⟨A', c', h1, h2.ext e⟩, fun hp => let ⟨b, h1, h2, h3⟩ := h.2.2.2 hp; ⟨b, h1, Nat.lt_of_lt_of_le h2 e.size, fun w' e' => h3 w' (e.trans e')⟩⟩
theorem OwnR.rd {w0 w : World} {v : Value} {ps : List (DRec × Value)} (h : OwnR w0 w v ps) (hl : ps.length ≤ 1099511627776) (hd : ∀ p ∈ ps, p.1.l.length ≤ 140737488351232) : ∃ A c, v = .slice A ps.length c ∧ RdR w A ps c := by
  have hdat : ∀ p ∈ ps, ∃ A' c', p.2 = .slice A' p.1.l.length c' ∧ Bs w A' p.1.l c' := fun p hp => OwnL.rd (h.2.1 p hp) (hd p hp)
  rcases h.1.2 with ⟨rfl, h0⟩ | ⟨g, cap, cur, rfl, hb, hg, hnc, hcm, hcs, htake⟩
  · exact ⟨none, 0, by rw [h0], by omega, hl, hdat, fun hp => by omega⟩
  · refine ⟨_, _, rfl, by omega, hl, hdat, fun hp => ⟨g, rfl, heap_lt hg, fun w' e i hi => ?_⟩⟩
    have hc : ∀ j, j < 4 → w'.cell? ⟨g, i * 4 + j, none⟩ = (rcells ps[i])[j]? := by
      intro j hj
      rw [boxed_at hg e, ← rcells_get ps i j hi hj, ← htake, List.getElem?_take, if_pos (by omega)]
      simp
    exact ⟨by have := hc 0 (by omega); simpa [rcells] using this, by have := hc 1 (by omega); simpa [rcells] using this, by have := hc 2 (by omega); simpa [rcells] using this, by have := hc 3 (by omega); simpa [rcells] using this⟩
theorem Own.set' {e : TypeId} {size : Nat} {w0 w : World} {v : Value} {n : Nat} {xs : List Value} (h : Own e size w0 w v n xs) (p : Addr) (u : Value) (hne : v.ownBlock ≠ some p.block) : Own e size w0 (w.setCell p u) v n xs := by
  refine World.ownsRow.kept h (⟨rfl, rfl, rfl, by simp, fun k _ hk => heap_setCell_other w p k u (fun e => hk (by rw [e]))⟩ : w.grownBy (w.setCell p u) (some p.block)) ?_
  cases hb : v.ownBlock with
  | none => exact .inl rfl
  | some g => right; rw [hb] at hne; exact fun he => hne he
theorem Own.kept' {e : TypeId} {size : Nat} {w0 w w' : World} {v : Value} {n : Nat} {xs : List Value} (h : Own e size w0 w v n xs) {row : Option Nat} (hg : w.grownBy w' row) (hne : ∀ g, v.ownBlock = some g → row ≠ some g) : Own e size w0 w' v n xs := by
  refine World.ownsRow.kept h hg ?_
  cases hb : v.ownBlock with
  | none => exact .inl rfl
  | some g => right; exact fun he => hne g hb he.symm
/-- where the marks of a record begin, how many bytes it has, its data's slice -/
def mcells (m : Nat × Nat × Value) : List Value := [.int .i64 (m.1 : Int), .string (markT (m.1 + 1)), .int .i64 ((m.1 : Int) + 2), m.2.2]
def msOf : Nat → List (DRec × Value) → List (Nat × Nat × Value)
  | _, [] => []
  | k, p :: t => (k, p.1.l.length, p.2) :: msOf (k + 3 + p.1.l.length) t
def kEnd : Nat → List (DRec × Value) → Nat
  | k, [] => k
  | k, p :: t => kEnd (k + 3 + p.1.l.length) t
theorem msOf_append (k : Nat) (a b : List (DRec × Value)) : msOf k (a ++ b) = msOf k a ++ msOf (kEnd k a) b := by
  induction a generalizing k with
  | nil => rfl
  | cons p t ih => simp [msOf, kEnd, ih]
theorem kEnd_append (k : Nat) (a b : List (DRec × Value)) : kEnd k (a ++ b) = kEnd (kEnd k a) b := by
  induction a generalizing k with
  | nil => rfl
  | cons p t ih => simp [kEnd, ih]
theorem msOf_length (k : Nat) (a : List (DRec × Value)) : (msOf k a).length = a.length := by
  induction a generalizing k with
  | nil => rfl
  | cons p t ih => simp [msOf, ih]
theorem mcells_len (ms : List (Nat × Nat × Value)) : (ms.flatMap mcells).length = ms.length * 4 := by
  induction ms with
  | nil => rfl
  | cons p t ih => rw [List.flatMap_cons, List.length_append, ih, List.length_cons]; simp [mcells]; omega
theorem kEnd_ge (k : Nat) (a : List (DRec × Value)) : k + 3 * a.length ≤ kEnd k a := by
  induction a generalizing k with
  | nil => simp [kEnd]
  | cons p t ih => have := ih (k + 3 + p.1.l.length); simp only [kEnd, List.length_cons]; omega
theorem kEnd_le (k D : Nat) (a : List (DRec × Value)) (h : ∀ p ∈ a, p.1.l.length ≤ D) : kEnd k a ≤ k + (3 + D) * a.length := by
  induction a generalizing k with
  | nil => simp [kEnd]
  | cons p t ih =>
    have h1 := ih (k + 3 + p.1.l.length) (fun q hq => h q (List.mem_cons_of_mem _ hq))
    have h2 := h p (List.mem_cons_self ..)
    simp only [kEnd, List.length_cons, Nat.mul_add] at *
    omega
theorem kEnd_mono (k : Nat) (a : List (DRec × Value)) (i : Nat) : kEnd k (a.take i) ≤ kEnd k a := by
  conv => rhs; rw [← List.take_append_drop i a, kEnd_append]
  have := kEnd_ge (kEnd k (a.take i)) (a.drop i)
  omega
/-- three cells of a record are laid -/
theorem mark_row (ms : List (Nat × Nat × Value)) (p : DRec × Value) (rest : List (DRec × Value)) (k i : Nat) (hi : ms.length = i) :
    (((ms.flatMap mcells ++ (p :: rest).flatMap rcells).set (i * 4) (.int .i64 (k : Int))).set (i * 4 + 1) (.string (markT (k + 1)))).set (i * 4 + 2) (.int .i64 ((k : Int) + 2)) = (ms ++ [(k, p.1.l.length, p.2)]).flatMap mcells ++ rest.flatMap rcells := by
  have hl : (ms.flatMap mcells).length = i * 4 := by rw [mcells_len, hi]
  rw [List.set_append_right _ _ (by omega), List.set_append_right _ _ (by omega), List.set_append_right _ _ (by omega), hl]
  rw [show i * 4 - i * 4 = 0 by omega, show i * 4 + 1 - i * 4 = 1 by omega, show i * 4 + 2 - i * 4 = 2 by omega]
  simp [rcells, mcells, List.flatMap_cons]
/-- marked records that the call since w0 made: the first i of them are marked -/
def Marking (w0 w : World) (g c : Nat) (ps : List (DRec × Value)) (k i : Nat) : Prop :=
  Own 36 4 w0 w (.slice (some ⟨g, 0, none⟩) ps.length c) ps.length ((msOf k (ps.take i)).flatMap mcells ++ (ps.drop i).flatMap rcells) ∧
  (∀ j (h : j < ps.length), j < i → Own 5 1 w0 w ps[j].2 ps[j].1.l.length ((List.range ps[j].1.l.length).map (mk8 ((kEnd k (ps.take j) : Nat) + 3 : Int)))) ∧
  (∀ j (h : j < ps.length), i ≤ j → OwnL vu8 5 w0 w ps[j].2 ps[j].1.l)
theorem OwnR.marking {w0 w : World} {g c : Nat} {ps : List (DRec × Value)} (h : OwnR w0 w (.slice (some ⟨g, 0, none⟩) ps.length c) ps) (k : Nat) : Marking w0 w g c ps k 0 :=
  ⟨by simpa [msOf] using h.1, fun j _ h0 => by omega, fun j hj _ => h.2.1 _ (List.getElem_mem hj)⟩
theorem Apart.at {v : Value} {ps : List (DRec × Value)} (h : Apart (v :: ps.map Prod.snd)) : (∀ j (hj : j < ps.length), ∀ g, v.ownBlock = some g → ps[j].2.ownBlock ≠ some g) ∧ (∀ i j (hi : i < ps.length) (hj : j < ps.length), i ≠ j → ∀ g, ps[i].2.ownBlock = some g → ps[j].2.ownBlock ≠ some g) := by
  unfold Apart at h
  rw [List.pairwise_cons] at h
  refine ⟨fun j hj g hg => h.1 _ (List.mem_map_of_mem (List.getElem_mem hj)) g hg, fun i j hi hj hne g hg hg' => ?_⟩
  have hp := List.pairwise_iff_getElem.1 h.2
  rcases Nat.lt_or_ge i j with hlt | hge
  · exact hp i j (by simpa using hi) (by simpa using hj) hlt g (by simpa using hg) (by simpa using hg')
  · exact hp j i (by simpa using hj) (by simpa using hi) (by omega) g (by simpa using hg') (by simpa using hg)

end Go.Proofs.Ytcaeeoghkonniaa
