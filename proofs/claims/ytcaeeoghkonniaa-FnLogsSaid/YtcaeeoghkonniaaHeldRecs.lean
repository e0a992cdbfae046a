/- The laws' test of marked records. -/
import Derived.Test.YtcaeeoghkonniaaRecsLaw
namespace Go.Proofs.Ytcaeeoghkonniaa
open Go.RowKit Go.Sort

theorem msOf_get (k : Nat) (ps : List (DRec × Value)) (i : Nat) (h : i < ps.length) : (msOf k ps)[i]? = some (kEnd k (ps.take i), ps[i].1.l.length, ps[i].2) := by
  induction ps generalizing k i with
  | nil => simp at h
  | cons p t ih =>
    cases i with
    | zero => rfl
    | succ i =>
      have := ih (k + 3 + p.1.l.length) i (by simpa using h)
      simpa [msOf, kEnd] using this
theorem mcells_get : ∀ (ms : List (Nat × Nat × Value)) (i j : Nat) (h : i < ms.length), j < 4 → (ms.flatMap mcells)[i * 4 + j]? = (mcells ms[i])[j]? := by
  intro ms
  induction ms with
  | nil => intro i j h; simp at h
  | cons p t ih =>
    intro i j h hj
    rw [List.flatMap_cons]
    cases i with
    | zero =>
      rw [List.getElem?_append_left (by simp [mcells]; omega)]
      simp
    | succ i =>
      rw [List.getElem?_append_right (by simp [mcells]; omega)]
      have : (i + 1) * 4 + j - (mcells p).length = i * 4 + j := by simp [mcells]; omega
      rw [this, ih i j (by simpa using h) hj]
      simp
/-- a slice of marked records -/
def RdM (w : World) (A : Option Addr) (ps : List (DRec × Value)) (k c : Nat) : Prop :=
  ps.length ≤ c ∧ (∀ i (h : i < ps.length), ∃ A' c', ps[i].2 = .slice A' ps[i].1.l.length c' ∧ Rd (mk8 ((kEnd k (ps.take i) : Nat) + 3 : Int)) w A' (List.range ps[i].1.l.length) c') ∧
  (0 < ps.length → ∃ b, A = some ⟨b, 0, none⟩ ∧ b < w.heap.size ∧ ∀ (w' : World), Ext w w' → ∀ i (h : i < ps.length), w'.cell? ⟨b, i * 4, none⟩ = some (.int .i64 (kEnd k (ps.take i) : Nat)) ∧ w'.cell? ⟨b, i * 4 + 1, none⟩ = some (.string (markT (kEnd k (ps.take i) + 1))) ∧
    w'.cell? ⟨b, i * 4 + 2, none⟩ = some (.int .i64 ((kEnd k (ps.take i) : Nat) + 2)) ∧ w'.cell? ⟨b, i * 4 + 3, none⟩ = some ps[i].2)
theorem RdM.ext {w w1 : World} {A : Option Addr} {ps : List (DRec × Value)} {k c : Nat} (h : RdM w A ps k c) (e : Ext w w1) : RdM w1 A ps k c :=
  ⟨h.1, fun i hi => let ⟨A', c', h1, h2⟩ := h.2.1 i hi; ⟨A', c', h1, h2.ext e⟩, fun hp => let ⟨b, h1, h2, h3⟩ := h.2.2 hp; ⟨b, h1, Nat.lt_of_lt_of_le h2 e.size, fun w' e' => h3 w' (e.trans e')⟩⟩
theorem Marking.rd {w0 w : World} {g c : Nat} {ps : List (DRec × Value)} {k : Nat} (h : Marking w0 w g c ps k ps.length) (hd : ∀ p ∈ ps, p.1.l.length ≤ 140737488351232) : RdM w (some ⟨g, 0, none⟩) ps k c := by
  obtain ⟨m1, m2, _⟩ := h
  rw [List.take_length, List.drop_length, List.flatMap_nil, List.append_nil] at m1
  refine ⟨?_, fun i hi => ?_, fun hp => ?_⟩
  · rcases m1.2 with ⟨hv, h0⟩ | ⟨g', cap, cur, hv, hb, hg, hnc, hcm, hcs, htake⟩
    · cases hv
    · injection hv with _ _ h3; omega
  · obtain ⟨A', c', hv, hr⟩ := Own.rd (m2 i hi hi) (by rw [List.length_range]; exact hd _ (List.getElem_mem hi))
    rw [List.length_range] at hv
    exact ⟨A', c', hv, hr⟩
  · have hlt := (World.ownsRow.lt m1 g rfl).2
    refine ⟨g, rfl, hlt, fun w' e i hi => ?_⟩
    have m1' := Own.ext m1 e
    have hi' : i < (msOf k ps).length := by rw [msOf_length]; exact hi
    have hget := msOf_get k ps i hi
    rw [List.getElem?_eq_getElem hi'] at hget
    injection hget with hget
    have hc : ∀ j, j < 4 → w'.cell? ⟨g, i * 4 + j, none⟩ = (mcells (kEnd k (ps.take i), ps[i].1.l.length, ps[i].2))[j]? := by
      intro j hj
      rw [m1'.cellAt (i * 4 + j) (by omega), mcells_get _ i j hi' hj, hget]
    exact ⟨by have := hc 0 (by omega); simpa [mcells] using this, by have := hc 1 (by omega); simpa [mcells] using this, by have := hc 2 (by omega); simpa [mcells] using this, by have := hc 3 (by omega); simpa [mcells] using this⟩
end Go.Proofs.Ytcaeeoghkonniaa
