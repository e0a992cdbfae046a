/- Which rules can have an entry: facts of a valid description, the kids that count, RootOf. -/
import Derived.Test.YtpefbcnfhngggaaCoverPure
import Derived.Test.YtpefbcnfhngggaaShared
namespace Go.Proofs.Ytpefbcnfhngggaa
open Go.RowKit Go.Sort

theorem allN_at {n k : Nat} {f : Nat → Bool} (h : allN n f = true) (hk : k < n) : f k = true := by
  cases h1 : f k
  · rw [allN_no hk h1] at h; cases h
  · rfl
theorem descOk_len {ds : List DRule} (h : descOk ds = true) : 0 < ds.length ∧ ds.length ≤ 24 := by
  unfold descOk between at h; simp at h; omega
theorem descOk_kid {ds : List DRule} (h : descOk ds = true) (i : Nat) (hi : i < ds.length) (j : Nat) (hj : j < ds[i].kids.length) : 0 ≤ ds[i].kids[j] ∧ ds[i].kids[j] < i := by
  unfold descOk at h
  rw [Bool.and_eq_true] at h
  have h1 := allN_at h.2 hi
  unfold ruleOk at h1
  rw [List.getElem?_eq_getElem hi] at h1
  simp only [Bool.and_eq_true] at h1
  have h2 := allN_at h1.1.2 hj
  unfold kidOk at h2
  rw [List.getElem?_eq_getElem hj] at h2
  unfold between at h2; simp at h2; omega
/-- the kids that count among the first k -/
def selK (r : DRule) (k : Nat) : List Int := if r.kind = 4 ∨ r.kind = 5 ∨ r.kind = 7 then (r.kids.take k).drop 1 else r.kids.take k
theorem selK_all (r : DRule) : selK r r.kids.length = kidsOf r := by unfold selK kidsOf; rw [List.take_length]
theorem selK_zero (r : DRule) : selK r 0 = [] := by unfold selK; simp
theorem selK_step (r : DRule) (k : Nat) (hk : k < r.kids.length) (h : 0 < k ∨ ¬ (r.kind = 4 ∨ r.kind = 5 ∨ r.kind = 7)) : selK r (k+1) = selK r k ++ [r.kids[k]] := by
  unfold selK
  rw [List.take_succ_eq_append_getElem hk]
  split
  · rename_i h1
    rw [List.drop_append_of_le_length (by rw [List.length_take]; rcases h with h | h; omega; exact absurd h1 h)]
  · rfl
theorem selK_skip (r : DRule) (h : r.kind = 4 ∨ r.kind = 5 ∨ r.kind = 7) : selK r 1 = selK r 0 := by
  unfold selK; rw [if_pos h, if_pos h, List.drop_eq_nil_of_le (by rw [List.length_take]; omega)]; simp
theorem setAll_snoc (c : List Bool) (l : List Int) (k : Int) : setAll c (l ++ [k]) = (setAll c l).set k.toNat true := by unfold setAll; rw [List.foldl_append]; rfl
theorem setAll_true (c : List Bool) (l : List Int) (i : Nat) (h : c[i]? = some true) : (setAll c l)[i]? = some true := by
  unfold setAll
  induction l generalizing c with
  | nil => exact h
  | cons a t ih =>
    rw [List.foldl_cons]
    refine ih _ ?_
    rw [List.getElem?_set]
    have hlt : i < c.length := by
      rcases Nat.lt_or_ge i c.length with h' | h'
      · exact h'
      · rw [List.getElem?_eq_none h'] at h; cases h
    split
    · simp; omega
    · exact h
theorem sRoot_c (A : Option Addr) (ds : List DRule) (c : Nat) (w : World) (hl : ds.length ≤ 9223372036854775807) :
    Gives Try.prog 32 #[vdesc (.slice A ds.length c)] w (.int .i64 ((ds.length : Int) - 1)) := by
  have eb := Ext_alloc (.cells #[.slice A ds.length c] 29) (Ext.refl w)
  have BX := fun w' (e : Ext (w.alloc (.cells #[.slice A ds.length c] 29)) w') => boxed e
  unfold vdesc
  go_enter Try.func32, Try.ntmps32
  go_wp2
  go_ret
  exact ⟨ret_i64 (by go_num), eb⟩

theorem iRoot_c (A : Option Addr) (ds : List DRule) (c : Nat) (w : World) (hl : ds.length ≤ 9223372036854775807) :
    Gives Try.prog 33 #[vdesc (.slice A ds.length c)] w (.int .i64 ((ds.length : Int) - 1)) := by
  have eb := Ext_alloc (.cells #[.slice A ds.length c] 29) (Ext.refl w)
  have BX := fun w' (e : Ext (w.alloc (.cells #[.slice A ds.length c] 29)) w') => boxed e
  unfold vdesc
  go_enter Try.func33, Try.ntmps33
  go_wp2
  go_ret
  exact ⟨ret_i64 (by go_num), eb⟩
end Go.Proofs.Ytpefbcnfhngggaa
