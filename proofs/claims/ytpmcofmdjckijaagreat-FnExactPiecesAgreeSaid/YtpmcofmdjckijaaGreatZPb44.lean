/- Texts, laid into one. -/
import Derived.Test.YtpmcofmdjckijaaGreatZPb43
import Derived.Test.YtpmcofmdjckijaaGreatZPb39
import Derived.Deep.DeepCutAuto
set_option linter.unusedVariables false
set_option linter.unusedSimpArgs false
set_option maxRecDepth 100000
set_option maxHeartbeats 16000000
namespace Go.Proofs.YtpmcofmdjckijaaGreat
open Go.RowKit Go.Sort
theorem rd_part {α : Type} {f : α → Value} {w : World} {b off : Nat} {l : List α} {c : Nat} (h : Rd f w (some ⟨b, off, none⟩) l c) {i k : Nat} (hi : i ≤ k) (hk : k ≤ l.length) : Rd f w (some ⟨b, off + i, none⟩) ((l.drop i).take (k - i)) (c - i) := by
 have hl : ((l.drop i).take (k - i)).length = k - i := by rw [List.length_take, List.length_drop]; omega
 refine ⟨⟨by have := h.cap; omega, by have := h.1.2.1; omega, fun hp => ?_⟩, by have := h.len; omega⟩
 obtain ⟨b', off', h1, h2, h3⟩ := h.base (by omega)
 injection h1 with h1; injection h1 with h1 h4; subst h1; subst h4
 refine ⟨b, off + i, rfl, h2, fun w' e j hj => ?_⟩
 have h5 := h3 w' e (i + j) (by omega)
 rw [show off + (i + j) = off + i + j by omega] at h5
 rw [h5]
 simp
theorem mach0_ok : mach0.Ok := ⟨by simp [mach0], by simp [mach0]⟩
theorem OwnL.is {w0 w : World} {A : Option Addr} {n c : Nat} {l : List Int} (h : OwnL vint 3 w0 w (.slice A n c) l) (hl : l.length ≤ 1000) : Is w A l c := by
 obtain ⟨A', c', hv, h'⟩ := OwnL.rd h (by omega)
 injection hv with i1 i2 i3
 subst i1; subst i3
 exact h'
def s10 (w : World) (g : Nat) (q : Mach) (a b : Value) : World := ((((((((((w.setCell ⟨g, 0, none⟩ (.int .i64 q.pc)).setCell ⟨g, 1, none⟩ (.int .i64 q.reg)).setCell ⟨g, 2, none⟩ a).setCell ⟨g, 3, none⟩ b).setCell ⟨g, 4, none⟩ (.int .i64 q.left)).setCell ⟨g, 5, none⟩ (.bool q.started)).setCell ⟨g, 6, none⟩ (.bool q.escaped)).setCell ⟨g, 7, none⟩ (.int .i64 q.state)).setCell ⟨g, 8, none⟩ (.int .i64 q.code)).setCell ⟨g, 9, none⟩ (.int .i64 q.read))
def MRs (m : Mach) (w : World) (e : Ending) (w' : World) : Prop := ∃ S1 d1 S2 d2, e = .returned (mval m (.slice S1 m.stack.length d1) (.slice S2 m.sums.length d2)) ∧ OwnL vint 3 w w' (.slice S1 m.stack.length d1) m.stack ∧ OwnL vint 3 w w' (.slice S2 m.sums.length d2) m.sums ∧ Is w' S1 m.stack d1 ∧ Is w' S2 m.sums d2 ∧ Ext w w'
theorem MRes.rs {m : Mach} (hm : m.Ok) {w w' : World} {e : Ending} (h : MRes m w e w') : MRs m w e w' := by
 obtain ⟨vs, vq, rfl, o1, o2, _, e1⟩ := h
 obtain ⟨S1, d1, rfl⟩ := o1.len_shape
 obtain ⟨S2, d2, rfl⟩ := o2.len_shape
 exact ⟨S1, d1, S2, d2, rfl, o1, o2, o1.is (by have := hm.st; omega), o2.is (by have := hm.sm; omega), e1⟩
theorem MRs_C {f : FuncId} {m : Mach} (C : ∀ w, Calls Tryz.prog f #[] w (MRes m w)) (hm : m.Ok) (w : World) : Calls Tryz.prog f #[] w (MRs m w) := (C w).mono fun _ _ h => h.rs hm
theorem MRs_F {f : FuncId} {m : Mach} {args : Array Value} {w : World} (hm : m.Ok) (C : Calls Tryz.prog f args w (MRes m w)) : Calls Tryz.prog f args w (MRs m w) := C.mono fun _ _ h => h.rs hm
theorem compD_len (ds : List DRule) : (compD ds).1.length ≤ 1000000 ∧ (compD ds).2.length ≤ 1000000 := by
 unfold compD
 cases h : descOk ds
 ·simp
 ·have h1 := compN_len h ds.length (Nat.le_refl _)
  have h2 := compN_ents ds ds.length
  have h3 := descOk_24 h
  simp only [if_true, List.length_set]
  omega
theorem sCompE_c (A : Option Addr) (ds : List DRule) (c : Nat) (w : World) (hd : RdD w A ds c) (hs : ShortD ds) (hw : WfD ds) :
 Calls Tryz.prog 21 #[vdesc (.slice A ds.length c)] w fun e w' => ∃ vc ve, e = .returned (.agg #[vc, ve]) ∧ ∃ (cs : List Ins) (es : List Int), cs.length ≤ 1000000 ∧ OwnI w w' vc cs ∧ es.length ≤ 1000000 ∧ OwnL vint 3 w w' ve es ∧ Ext w w' :=
 (sComp_c A ds c w hd hs hw).mono fun _ _ ⟨vc, ve, h1, h2, h3, h4⟩ => ⟨vc, ve, h1, _, _, (compD_len ds).1, h2, (compD_len ds).2, h3, h4⟩
end Go.Proofs.YtpmcofmdjckijaaGreat
