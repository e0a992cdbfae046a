/- Texts, laid into one. -/
import Derived.Test.YtpmcofmdjckijaaGreatZPb19
set_option linter.unusedVariables false
set_option linter.unusedSimpArgs false
set_option maxRecDepth 100000
set_option maxHeartbeats 16000000
namespace Go.Proofs.YtpmcofmdjckijaaGreat
open Go.RowKit Go.Sort
def knownB (ds : List DRule) (i : Int) : Bool := descOk ds && (decide (0 ≤ i) && decide (i < ds.length))
theorem iKnown_c (A : Option Addr) (ds : List DRule) (c : Nat) (i : Int) (w : World) (hd : RdD w A ds c) (hs : ShortD ds) (hw : WfD ds) :
 Gives Tryz.prog 99 #[vdesc (.slice A ds.length c), .int .i64 i] w (.bool (knownB ds i)) := by
 have hl := hd.len
 have eb := Ext_alloc (.cells #[.slice A ds.length c] 26) (Ext.refl w)
 have BX := fun w' (e : Ext (w.alloc (.cells #[.slice A ds.length c] 26)) w') => boxed e
 have CV := Lib.hid (fun w h => iValidDesc_c A ds c w h hs hw)
 have CH := Lib.hid (fun w => hasRule_c A ds.length c i w hl)
 unfold knownB
 unfold vdesc at *
 generalize descOk ds = p at *
 generalize (decide (0 ≤ i) && decide (i < (ds.length : Int))) = q at *
 cases p
 ·go_enter Tryz.func99, Tryz.ntmps99
  go_wp2_with fail
  refine (CV.out _ (hd.ext eb)).mono ?_; rintro _ w1 ⟨rfl, e1⟩
  go_wp2
  go_ret
  exact ⟨ret_bool (by simp), eb.trans e1⟩
 ·go_enter Tryz.func99, Tryz.ntmps99
  go_wp2_with fail
  refine (CV.out _ (hd.ext eb)).mono ?_; rintro _ w1 ⟨rfl, e1⟩
  go_wp2_with fail
  refine (CH.out _).mono ?_; rintro _ w2 ⟨rfl, e2⟩
  go_wp2
  go_ret
  exact ⟨ret_bool (by simp), eb.trans (e1.trans e2)⟩
theorem sKnown_c (A : Option Addr) (ds : List DRule) (c : Nat) (i : Int) (w : World) (hd : RdD w A ds c) (hs : ShortD ds) (hw : WfD ds) :
 Gives Tryz.prog 70 #[vdesc (.slice A ds.length c), .int .i64 i] w (.bool (knownB ds i)) := by
 have hl := hd.len
 have eb := Ext_alloc (.cells #[.slice A ds.length c] 26) (Ext.refl w)
 have BX := fun w' (e : Ext (w.alloc (.cells #[.slice A ds.length c] 26)) w') => boxed e
 have CV := Lib.hid (fun w h => sValidDesc_c A ds c w h hs hw)
 have CH := Lib.hid (fun w => l1In_c i 0 ((ds.length : Int) - 1) w)
 have HQ : Hid ((decide (0 ≤ i) && decide (i < (ds.length : Int))) = (decide (0 ≤ i) && decide (i ≤ (ds.length : Int) - 1))) := by
  show _ = _; congr 1; rw [Bool.eq_iff_iff]; simp; omega
 unfold knownB
 rw [HQ.out]
 clear HQ
 unfold vdesc at *
 generalize descOk ds = p at *
 generalize (decide (0 ≤ i) && decide (i ≤ (ds.length : Int) - 1)) = q at *
 cases q
 ·go_enter Tryz.func70, Tryz.ntmps70
  go_wp2_with fail
  refine (CH.out _).mono ?_; rintro _ w1 ⟨rfl, e1⟩
  go_wp2
  go_ret
  exact ⟨ret_bool (by simp), eb.trans e1⟩
 ·go_enter Tryz.func70, Tryz.ntmps70
  go_wp2_with fail
  refine (CH.out _).mono ?_; rintro _ w1 ⟨rfl, e1⟩
  go_wp2_with fail
  refine (CV.out _ (hd.ext (eb.trans e1))).mono ?_; rintro _ w2 ⟨rfl, e2⟩
  go_wp2
  go_ret
  exact ⟨ret_bool (by simp), eb.trans (e1.trans e2)⟩
end Go.Proofs.YtpmcofmdjckijaaGreat
namespace Go.Proofs.YtpmcofmdjckijaaGreat
structure RuleFacts (r : DRule) : Prop where
 kind : 1 ≤ r.kind ∧ r.kind ≤ 10
 plain : r.kind = 1 ∨ r.kind = 2 ∨ r.kind = 3 ∨ r.kind = 10 → r.names = [] ∧ r.kids = []
 parts : r.kind = 4 ∨ r.kind = 5 ∨ r.kind = 6 ∨ r.kind = 7 ∨ r.kind = 8 ∨ r.kind = 9 → r.size = 0 ∧ r.little = false ∧ r.bytes = []
 cho : r.kind = 7 → r.kids.length = r.tags.length + 1 ∧ r.names = []
theorem plainB_facts {r : DRule} {s b n t : Bool} {k : Int} (h : plainB r s b n t k = true) : (s = false → r.size = 0) ∧ (b = false → r.bytes = []) ∧ (n = false → r.names = []) ∧ (0 ≤ k → (r.kids.length : Int) = k) := by
 unfold plainB at h
 simp only [Bool.and_eq_true, Bool.or_eq_true, beq_iff_eq, decide_eq_true_eq, List.length_eq_zero_iff] at h
 obtain ⟨⟨⟨⟨h1, h2⟩, h3⟩, h4⟩, h5⟩ := h
 refine ⟨fun e => ?_, fun e => ?_, fun e => ?_, fun e => by omega⟩
 ·rw [e] at h1; simpa using h1
 ·rw [e] at h2; simpa using h2
 ·rw [e] at h3; simpa using h3
theorem ruleKind {ds : List DRule} (h : descOk ds = true) (i : Nat) (hi : i < ds.length) : kindOk ds ds[i] = true := by
 unfold descOk at h
 rw [Bool.and_eq_true] at h
 have h1 := allN_at h.2 hi
 unfold ruleOk at h1
 rw [List.getElem?_eq_getElem hi] at h1
 simp only [Bool.and_eq_true] at h1
 exact h1.2
theorem ruleFacts {ds : List DRule} (h : descOk ds = true) (i : Nat) (hi : i < ds.length) : RuleFacts ds[i] := by
 unfold descOk at h
 rw [Bool.and_eq_true] at h
 have h1 := allN_at h.2 hi
 unfold ruleOk at h1
 rw [List.getElem?_eq_getElem hi] at h1
 simp only [Bool.and_eq_true] at h1
 have hk := h1.2
 have hlit := h1.1.1.1.2
 generalize ds[i] = r at *
 have hl : r.kind ≠ 1 → r.little = false := by
  intro hne
  cases hq : r.little
  ·rfl
  ·rw [hq] at hlit; simp at hlit; exact absurd hlit hne
 unfold kindOk at hk
 have NO : ∀ {p : Prop} {k k' : Int}, k ≠ k' → r.kind = k → r.kind = k' → p := fun hne e1 e2 => absurd (e1.symm.trans e2) hne
 split at hk
 ·rename_i e
  simp only [Bool.and_eq_true] at hk
  have f := plainB_facts hk.1.1
  exact ⟨by omega, fun _ => ⟨f.2.2.1 rfl, by have := f.2.2.2 (by omega); simpa using this⟩, fun h => by omega, fun h => by omega⟩
 split at hk
 ·rename_i e
  simp only [Bool.and_eq_true] at hk
  have f := plainB_facts hk.1
  exact ⟨by omega, fun _ => ⟨f.2.2.1 rfl, by have := f.2.2.2 (by omega); simpa using this⟩, fun h => by omega, fun h => by omega⟩
 split at hk
 ·rename_i e
  simp only [Bool.and_eq_true] at hk
  have f := plainB_facts hk.1
  exact ⟨by omega, fun _ => ⟨f.2.2.1 rfl, by have := f.2.2.2 (by omega); simpa using this⟩, fun h => by omega, fun h => by omega⟩
 split at hk
 ·rename_i e
  simp only [Bool.and_eq_true] at hk
  have f := plainB_facts hk.1
  exact ⟨by omega, fun h => by omega, fun _ => ⟨f.1 rfl, hl (by omega), f.2.1 rfl⟩, fun h => by omega⟩
 split at hk
 ·rename_i e
  simp only [Bool.and_eq_true] at hk
  have f := plainB_facts hk.1
  exact ⟨by omega, fun h => by omega, fun _ => ⟨f.1 rfl, hl (by omega), f.2.1 rfl⟩, fun h => by omega⟩
 split at hk
 ·rename_i e
  unfold seqOk at hk
  simp only [Bool.and_eq_true] at hk
  have f := plainB_facts hk.1.1.1
  exact ⟨by omega, fun h => by omega, fun _ => ⟨f.1 rfl, hl (by omega), f.2.1 rfl⟩, fun h => by omega⟩
 split at hk
 ·rename_i e
  unfold choOk at hk
  simp only [Bool.and_eq_true] at hk
  have f := plainB_facts hk.1.1
  exact ⟨by omega, fun h => by omega, fun _ => ⟨f.1 rfl, hl (by omega), f.2.1 rfl⟩, fun _ => ⟨by have := f.2.2.2 (by omega); omega, f.2.2.1 rfl⟩⟩
 split at hk
 ·rename_i e
  have f := plainB_facts hk
  exact ⟨by omega, fun h => by omega, fun _ => ⟨f.1 rfl, hl (by omega), f.2.1 rfl⟩, fun h => by omega⟩
 split at hk
 ·rename_i e
  have f := plainB_facts hk
  exact ⟨by omega, fun h => by omega, fun _ => ⟨f.1 rfl, hl (by omega), f.2.1 rfl⟩, fun h => by omega⟩
 split at hk
 ·rename_i e
  simp only [Bool.and_eq_true] at hk
  have f := plainB_facts hk.1.1
  exact ⟨by omega, fun _ => ⟨f.2.2.1 rfl, by have := f.2.2.2 (by omega); simpa using this⟩, fun h => by omega, fun h => by omega⟩
 ·cases hk
def tagN (l : List Int) (t : Int) : Nat := l.findIdx (· == t)
def kd (r : DRule) (t : Nat) : Nat := (r.kids.getD t 0).toNat
theorem kd_at {r : DRule} {t : Nat} (h : t < r.kids.length) : kd r t = r.kids[t].toNat := by unfold kd; simp [h]
theorem kd_lt {ds : List DRule} (h : descOk ds = true) (i : Nat) (hi : i < ds.length) (t : Nat) (ht : t < ds[i].kids.length) : kd ds[i] t < i := by
 rw [kd_at ht]; have := descOk_kid h i hi t ht; omega
theorem kd_int {ds : List DRule} (h : descOk ds = true) (i : Nat) (hi : i < ds.length) (t : Nat) (ht : t < ds[i].kids.length) : ds[i].kids[t] = (kd ds[i] t : Int) := by
 rw [kd_at ht]; have := descOk_kid h i hi t ht; omega
def extHead (x y : DRule) : Bool := x.kind == y.kind && x.size == y.size && x.little == y.little && x.bytes == y.bytes
def extTag (e : Nat → Nat → Bool) (x y : DRule) (t : Nat) : Bool := decide (tagN y.tags (x.tags.getD t 0) < y.tags.length) && e (kd x (t + 1)) (kd y (tagN y.tags (x.tags.getD t 0) + 1))
def extTail (e : Nat → Nat → Bool) (x y : DRule) : Bool :=
 if x.kind = 7 then e (kd x 0) (kd y 0) && allN x.tags.length (extTag e x y)
 else eqNms x.names y.names && x.kids.length == y.kids.length && allN x.kids.length (fun t => e (kd x t) (kd y t))
def extF (a b : List DRule) : Nat → Nat → Nat → Bool
 | 0, _, _ => false
 | n + 1, i, j => match a[i]?, b[j]? with
  | some x, some y => extHead x y && extTail (extF a b n) x y
  | _, _ => false
def ext (a b : List DRule) (i j : Nat) : Bool := extF a b (i + 1) i j
def extRule (a b : List DRule) (i j : Int) : Bool := knownB a i && (knownB b j && ext a b i.toNat j.toNat)
def extD (a b : List DRule) : Bool := extRule a b ((a.length : Int) - 1) ((b.length : Int) - 1)
def sameF (a b : List DRule) : Bool := extD a b && extD b a
end Go.Proofs.YtpmcofmdjckijaaGreat
