/- The laws' copies, as what they read as. -/
import Derived.Test.YtalnekcmfagjoaaDescTo2
import Derived.Test.YtalnekcmfagjoaaDescEq5
import Derived.Test.YtalnekcmfagjoaaDescSz
import Derived.Deep.RegionHeld3
namespace Go.Proofs.Ytalnekcmfagjoaa
open Go.RowKit Go.Sort

theorem rulesOf_len (ps : List RV) : (rulesOf ps).length = ps.length := by simp [rulesOf]
theorem OwnD.short {ps : List RV} (h : szD (rulesOf ps) ≤ 1048576) : ps.length ≤ 9223372036854775807 ∧ ∀ p ∈ ps, ShortR p.r := by
  refine ⟨by unfold szD at h; rw [rulesOf_len] at h; omega, fun p hp => ?_⟩
  exact shortD_of h p.r (List.mem_map_of_mem hp)
theorem toDesc_r (A : Option Addr) (ds : List DRule) (c : Nat) (w : World) (h : RdD w A ds c) (hz : szD ds ≤ 1048576) :
    Calls Try.prog 9 #[vdesc (.slice A ds.length c)] w fun e w' => ∃ A1 c1, e = .returned (vdesc (.slice A1 ds.length c1)) ∧ RdD w' A1 ds c1 ∧ Ext w w' := by
  refine (toDescription_c A ds c w h hz).mono ?_
  rintro e w' ⟨v, ps, he, rfl, ho, hx⟩
  obtain ⟨A1, c1, rfl, hr⟩ := ho.rd (OwnD.short hz).1 (OwnD.short hz).2
  exact ⟨A1, c1, he, hr, hx⟩
theorem toReg_r (A : Option Addr) (ds : List (List DRule)) (c : Nat) (w : World) (h : RdG w A ds c) (hz : szG ds ≤ 1048576) :
    Calls Try.prog 16 #[vdesc (.slice A ds.length c)] w fun e w' => ∃ A1 c1, e = .returned (vdesc (.slice A1 ds.length c1)) ∧ RdG w' A1 ds c1 ∧ Ext w w' := by
  refine (toRegistry_c A ds c w h hz).mono ?_
  rintro e w' ⟨v, qs, he, rfl, ho, hx⟩
  have hq : ∀ q ∈ qs, szD (rulesOf q.2) ≤ 1048576 := fun q hq => szG_mem hz (List.mem_map_of_mem (f := fun q : Value × List RV => rulesOf q.2) hq)
  obtain ⟨A1, c1, rfl, hr⟩ := ho.rd (by unfold szG at hz; simp only [descsOf, List.length_map] at hz; omega) (fun q h => (OwnD.short (hq q h)).1) (fun q h => (OwnD.short (hq q h)).2)
  exact ⟨A1, c1, he, hr, hx⟩
theorem szN_small {n : Nat} {left : Int} (h : ¬ szN n left < 0) (h1 : left ≤ 1048576) : n ≤ 1048576 := by have := (szN_ge h).1; omega
end Go.Proofs.Ytalnekcmfagjoaa
