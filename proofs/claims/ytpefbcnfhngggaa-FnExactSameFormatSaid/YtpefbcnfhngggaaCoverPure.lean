/- Which rules can have an entry, as plain functions. -/
import Derived.Test.YtpefbcnfhngggaaValidPure
import Derived.Test.YtpefbcnfhngggaaMerge
namespace Go.Proofs.Ytpefbcnfhngggaa

/-- the kids that count: without the first one at kinds 4, 5 and 7 -/
def kidsOf (r : DRule) : List Int := if r.kind = 4 ∨ r.kind = 5 ∨ r.kind = 7 then r.kids.drop 1 else r.kids
def setAll (c : List Bool) (l : List Int) : List Bool := l.foldl (fun c k => c.set k.toNat true) c
/-- rule number i hands on that it can have an entry -/
def possAt (ds : List DRule) (c : List Bool) (i : Nat) : List Bool := if c.getD i false then setAll c (kidsOf (ds.getD i ⟨⟨#[]⟩, 0, 0, false, [], [], [], []⟩)) else c
/-- from rule number i - 1 down -/
def possFrom (ds : List DRule) : Nat → List Bool → List Bool
  | 0, c => c
  | i + 1, c => possFrom ds i (possAt ds c i)
def possible (ds : List DRule) : List Bool := possFrom ds ds.length ((List.replicate ds.length false).set (ds.length - 1) true)
theorem setAll_len (c : List Bool) (l : List Int) : (setAll c l).length = c.length := by
  unfold setAll
  induction l generalizing c with
  | nil => rfl
  | cons a t ih => rw [List.foldl_cons, ih]; simp
theorem setAll_append (c : List Bool) (a b : List Int) : setAll c (a ++ b) = setAll (setAll c a) b := by unfold setAll; rw [List.foldl_append]
theorem possAt_len (ds : List DRule) (c : List Bool) (i : Nat) : (possAt ds c i).length = c.length := by
  unfold possAt; split
  · exact setAll_len _ _
  · rfl
theorem possFrom_len (ds : List DRule) (i : Nat) (c : List Bool) : (possFrom ds i c).length = c.length := by
  induction i generalizing c with
  | zero => rfl
  | succ i ih => rw [possFrom, ih, possAt_len]
theorem possible_len (ds : List DRule) : (possible ds).length = ds.length := by unfold possible; rw [possFrom_len]; simp
/-- a padding behind the list does not matter, while the kids lie within -/
theorem set_pad (c p : List Bool) (k : Nat) (h : k < c.length) : (c ++ p).set k true = c.set k true ++ p := by rw [List.set_append_left _ _ h]
theorem setAll_pad (c p : List Bool) (l : List Int) (h : ∀ k ∈ l, 0 ≤ k ∧ k < c.length) : setAll (c ++ p) l = setAll c l ++ p := by
  unfold setAll
  induction l generalizing c with
  | nil => rfl
  | cons a t ih =>
    have ha := h a (by simp)
    rw [List.foldl_cons, List.foldl_cons, set_pad c p _ (by omega)]
    exact ih _ (fun k hk => by have := h k (by simp [hk]); simpa using this)
/-- the rules that can have an entry -/
def entries (ds : List DRule) : List Nat := (List.range ds.length).filter fun i => (possible ds).getD i false
def entriesUpTo (c : List Bool) (n : Nat) : List Nat := (List.range n).filter fun i => c.getD i false
theorem entries_eq (ds : List DRule) : entries ds = entriesUpTo (possible ds) ds.length := rfl
theorem entriesUpTo_succ (c : List Bool) (n : Nat) : entriesUpTo c (n + 1) = if c.getD n false then entriesUpTo c n ++ [n] else entriesUpTo c n := by
  unfold entriesUpTo
  rw [List.range_succ, List.filter_append]
  by_cases h : c.getD n false
  · rw [if_pos h]; simp only [List.filter_cons, h, if_true, List.filter_nil]
  · rw [if_neg h]; simp only [List.filter_cons, h, List.filter_nil]; simp
/-- what a coverage says of an index -/
def covered (ds : List DRule) (cov : List Int) : Nat := ((entries ds).filter fun i => decide (0 < at0 cov i)).length
def percent (ds : List DRule) (cov : List Int) : Int := if descOk ds then (100 * covered ds cov : Nat) / (entries ds).length else 0
def uncovered (ds : List DRule) (cov : List Int) : List ByteArray := if descOk ds then ((entries ds).filter fun i => at0 cov i == 0).map (fun i => (ds.getD i ⟨⟨#[]⟩, 0, 0, false, [], [], [], []⟩).nm) else []
end Go.Proofs.Ytpefbcnfhngggaa
