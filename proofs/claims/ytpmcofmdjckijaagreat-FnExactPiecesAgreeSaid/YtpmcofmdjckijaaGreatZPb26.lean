/- Texts, laid into one. -/
import Derived.Test.YtpmcofmdjckijaaGreatZPb24
set_option linter.unusedVariables false
set_option linter.unusedSimpArgs false
set_option maxRecDepth 100000
set_option maxHeartbeats 16000000
namespace Go.Proofs.YtpmcofmdjckijaaGreat
open Go.RowKit Go.Sort
def RdI (w : World) (A : Option Addr) (l : List Ins) (c : Nat) : Prop :=
 l.length ≤ c ∧ l.length ≤ 1000000 ∧ (0 < l.length → ∃ b off, A = some ⟨b, off, none⟩ ∧ b < w.heap.size ∧ ∀ (w' : World), Ext w w' → ∀ i (h : i < l.length),
  w'.cell? ⟨b, off + i * 3, none⟩ = some (.int .i64 l[i].1) ∧ w'.cell? ⟨b, off + i * 3 + 1, none⟩ = some (.int .i64 l[i].2.1) ∧ w'.cell? ⟨b, off + i * 3 + 2, none⟩ = some (.int .i64 l[i].2.2))
theorem RdI.ext {w w1 : World} {A : Option Addr} {l : List Ins} {c : Nat} (h : RdI w A l c) (e : Ext w w1) : RdI w1 A l c :=
 ⟨h.1, h.2.1, fun hp => let ⟨b, off, h1, h2, h3⟩ := h.2.2 hp; ⟨b, off, h1, Nat.lt_of_lt_of_le h2 e.size, fun w' e' => h3 w' (e.trans e')⟩⟩
theorem RdI.len {w : World} {A : Option Addr} {l : List Ins} {c : Nat} (h : RdI w A l c) : l.length ≤ 1000000 := h.2.1
theorem RdI.cap {w : World} {A : Option Addr} {l : List Ins} {c : Nat} (h : RdI w A l c) : l.length ≤ c := h.1
theorem RdI.at {w : World} {A : Option Addr} {l : List Ins} {c : Nat} (h : RdI w A l c) (k : Nat) (hk : k < l.length) :
 ∃ b off, A = some ⟨b, off, none⟩ ∧ b < w.heap.size ∧ ∀ (w' : World), Ext w w' → w'.cell? ⟨b, off + k * 3, none⟩ = some (.int .i64 l[k].1) ∧ w'.cell? ⟨b, off + k * 3 + 1, none⟩ = some (.int .i64 l[k].2.1) ∧ w'.cell? ⟨b, off + k * 3 + 2, none⟩ = some (.int .i64 l[k].2.2) :=
 let ⟨b, off, h1, h2, h3⟩ := h.2.2 (by omega)
 ⟨b, off, h1, h2, fun w' e => h3 w' e k hk⟩
theorem icells_get : ∀ (l : List Ins) (i j : Nat) (h : i < l.length), j < 3 → (l.flatMap icells)[i * 3 + j]? = (icells l[i])[j]? := by
 intro l
 induction l with
 | nil => intro i j h; simp at h
 | cons p t ih =>
  intro i j h hj
  rw [List.flatMap_cons]
  cases i with
  | zero => rw [List.getElem?_append_left (by simp [icells]; omega)]; simp
  | succ i =>
   rw [List.getElem?_append_right (by simp [icells]; omega)]
   have : (i + 1) * 3 + j - (icells p).length = i * 3 + j := by simp [icells]; omega
   rw [this, ih i j (by simpa using h) hj]
   simp
theorem row_cell {w w' : World} {g : Nat} {cur : Array Value} {T : TypeId} (h : w.heap[g]? = some (.cells cur T (0, 0))) (e : Ext w w') (j : Nat) : w'.cell? ⟨g, j, none⟩ = cur[j]? :=
 cell_of_row w' g j cur T (0, 0) (heap_ext' h e)
theorem OwnI.rd {w0 w : World} {v : Value} {l : List Ins} (h : OwnI w0 w v l) (hl : l.length ≤ 1000000) : ∃ A c, v = .slice A l.length c ∧ RdI w A l c := by
 rcases h.2 with ⟨rfl, h0⟩ | ⟨g, cap, cur, rfl, hb, hg, hnc, hcm, hcs, htake⟩
 ·exact ⟨none, 0, by rw [h0], by omega, hl, fun hp => by omega⟩
 ·refine ⟨_, _, rfl, hnc, hl, fun _ => ⟨g, 0, rfl, (Array.getElem?_eq_some_iff.1 hg).1, fun w' e i hi => ?_⟩⟩
  have hc : ∀ j, j < 3 → w'.cell? ⟨g, i * 3 + j, none⟩ = (icells l[i])[j]? := by
   intro j hj
   rw [row_cell hg e, ← icells_get l i j hi hj, ← htake, List.getElem?_take, if_pos (by omega)]
   simp
  rw [Nat.zero_add]
  exact ⟨by have := hc 0 (by omega); simpa [icells] using this, by have := hc 1 (by omega); simpa [icells] using this, by have := hc 2 (by omega); simpa [icells] using this⟩
theorem OwnI.src {w0 w w' : World} {A : Option Addr} {c : Nat} {l : List Ins} (h : OwnI w0 w (.slice A l.length c) l) (e : Ext w w') : 0 < l.length → ∃ ad, A = some ad ∧ ∀ j u, (l.flatMap icells)[j]? = some u → w'.cell? (ad.add j) = some u := by
 intro hp
 rcases h.2 with ⟨hv, h0⟩ | ⟨g, cap, cur, hv, hb, hg, hnc, hcm, hcs, htake⟩
 ·omega
 ·injection hv with h1 _ _
  refine ⟨_, h1, fun j u hu => ?_⟩
  have hadd : (⟨g, 0, none⟩ : Addr).add j = ⟨g, j, none⟩ := by unfold Addr.add; split <;> simp_all
  rw [hadd, row_cell hg e j, ← hu, ← htake, List.getElem?_take]
  have : j < l.length * 3 := by
   rcases Nat.lt_or_ge j (l.flatMap icells).length with h' | h'
   ·rwa [icells_len] at h'
   ·rw [List.getElem?_eq_none h'] at hu; cases hu
  rw [if_pos this]; simp
section
variable {P : Program} {ops : Array Oper} {o : Oper} {a : Act} {Q : Exit → Act → World → Prop} {K : Act → World → Prop} {EE : Prop}
theorem step_appR (hgd : o.guard = none) (s x : Operand) (t : TypeId) (ho : o.op = .call { callee := .builtin .append, args := #[s, x], argTypes := #[t, t] })
 {bytes : Nat} {z : Value} (hE : Elem P t 79 3 bytes z) (w0 wb w : World) (v : Value) (l ys : List Ins) (hs : a.eval s = v) (hown : OwnI w0 w v l)
 (he : Ext w0 w) (A : Option Addr) (c : Nat) (hx : a.eval x = .slice A ys.length c) (hy : OwnI wb w (.slice A ys.length c) ys) (hby : bytes = 24) (hb : l.length + ys.length ≤ 1000000)
 (h : ∀ v' w', OwnI w0 w' v' (l ++ ys) → Ext w0 w' → (v'.ownBlock = v.ownBlock ∨ v'.ownBlock = some w.heap.size) → w.grownBy w' v.ownBlock → K (a.put o.dst v') w') :
 if Region.wanted o (yielded ops a.tmps) = true then Oper.wp P o a w K Q else EE := by
 subst hby
 refine step_anyA hgd s x t ho hE w0 w v l.length (l.flatMap icells) hs hown he (ys.flatMap icells) A ys.length c hx (icells_len ys) (hy.src (Ext.refl _)) (icells_one ys) (by simp only [maxLen]; omega) (by omega) ?_
 intro v' w' h1 h2 h3 h4
 exact h v' w' (by unfold OwnI; rw [List.length_append, List.flatMap_append]; exact h1) h2 h3 h4
end
structure PSt (W0 w : World) (g : Nat) (vc ve : Value) (c : List Ins) (e : List Int) : Prop where
 lo : W0.heap.size ≤ g
 box : Box w g #[vc, ve] 55
 oc : OwnI W0 w vc c
 oe : OwnL vint 3 W0 w ve e
 n1 : vc.ownBlock ≠ some g
 n2 : ve.ownBlock ≠ some g
 far : ∀ b, vc.ownBlock = some b → ve.ownBlock ≠ some b
 ext : Ext W0 w
theorem PSt.next {W0 w w' : World} {g : Nat} {vc ve : Value} {c : List Ins} {e : List Int} (h : PSt W0 w g vc ve c e) (x : Ext w w') : PSt W0 w' g vc ve c e :=
 ⟨h.lo, h.box.ext x, h.oc.ext x, h.oe.ext x, h.n1, h.n2, h.far, h.ext.trans x⟩
theorem PSt.appC {W0 w w' : World} {g : Nat} {vc ve v' : Value} {c c' : List Ins} {e : List Int} (h : PSt W0 w g vc ve c e) (ho : OwnI W0 w' v' c') (he : Ext W0 w') (hv : v'.ownBlock = vc.ownBlock ∨ v'.ownBlock = some w.heap.size) (hg : w.grownBy w' vc.ownBlock) :
 PSt W0 (w'.setCell ⟨g, 0, none⟩ v') g v' ve c' e := by
 have hl := h.box.lt
 have n1' : v'.ownBlock ≠ some g := by
  rcases hv with hv | hv
  ·rw [hv]; exact h.n1
  ·rw [hv]; intro hh; injection hh with hh; omega
 have oe1 : OwnL vint 3 W0 w' ve e := h.oe.keep hg (fun b hb hr => h.far b hr hb)
 refine ⟨h.lo, ?_, Own.other ho _ _ n1', oe1.other _ _ h.n2, n1', h.n2, ?_, he.setCell (p := ⟨g, 0, none⟩) h.lo v'⟩
 ·have := (h.box.moved hg h.n1).set 0 v'; simpa using this
 ·intro b hb
  rcases hv with hv | hv
  ·exact h.far b (hv ▸ hb)
  ·rw [hv] at hb; injection hb with hb; subst hb
   intro hh
   have := (World.ownsRow.lt h.oe _ hh).2
   omega
theorem PSt.appE {W0 w w' : World} {g : Nat} {vc ve v' : Value} {c : List Ins} {e e' : List Int} (h : PSt W0 w g vc ve c e) (ho : OwnL vint 3 W0 w' v' e') (he : Ext W0 w') (hv : v'.ownBlock = ve.ownBlock ∨ v'.ownBlock = some w.heap.size) (hg : w.grownBy w' ve.ownBlock) :
 PSt W0 (w'.setCell ⟨g, 1, none⟩ v') g vc v' c e' := by
 have hl := h.box.lt
 have n2' : v'.ownBlock ≠ some g := by
  rcases hv with hv | hv
  ·rw [hv]; exact h.n2
  ·rw [hv]; intro hh; injection hh with hh; omega
 have oc1 : OwnI W0 w' vc c := Own.keep h.oc hg (fun b hb hr => h.far b hb hr)
 refine ⟨h.lo, ?_, Own.other oc1 _ _ h.n1, OwnL.other ho _ _ n2', h.n1, n2', ?_, he.setCell (p := ⟨g, 1, none⟩) h.lo v'⟩
 ·have := (h.box.moved hg h.n2).set 1 v'; simpa using this
 ·intro b hb
  rcases hv with hv | hv
  ·rw [hv]; exact h.far b hb
  ·rw [hv]; intro hh; injection hh with hh; subst hh
   have := (World.ownsRow.lt h.oc _ hb).2
   omega
theorem ruleC_60 {ds : List DRule} (h : descOk ds = true) (i : Nat) (hi : i < ds.length) (start : Int) (es : List Int) : (ruleC ds[i] start es).length ≤ 60 := by
 obtain ⟨h2, h6, h7, _⟩ := code_facts h i hi
 generalize ds[i] = r at *
 have t1 := tagsC_len r start r.tags.length
 have t2 := altsC_len r es r.tags.length
 unfold ruleC bodyC choC
 rw [List.length_append]
 repeat' split
 all_goals (simp only [List.length_cons, List.length_nil, List.length_map, List.length_range, List.length_append]; omega)
theorem compN_len {ds : List DRule} (h : descOk ds = true) : ∀ k, k ≤ ds.length → (compN ds k).1.length ≤ 2 + 60 * k
 | 0, _ => by simp [compN]
 | k + 1, hk => by
  have h1 := compN_len h k (by omega)
  have h2 := ruleC_60 h k (by omega) ((compN ds k).1.length : Int) (compN ds k).2
  rw [compN_succ ds k (by omega), List.length_append]
  omega
theorem descOk_24 {ds : List DRule} (h : descOk ds = true) : ds.length ≤ 24 := by
 unfold descOk between at h; simp at h; omega
end Go.Proofs.YtpmcofmdjckijaaGreat
