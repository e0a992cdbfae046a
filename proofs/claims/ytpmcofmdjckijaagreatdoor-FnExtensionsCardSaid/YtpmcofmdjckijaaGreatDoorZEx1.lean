/- Words of our own for memory: a world that extends another one, a slice that reads as a list. -/
import Derived.Test.YtpmcofmdjckijaaGreatDoorRows
import Derived.WalkKit
import Derived.WalkSpells
import Derived.WalkLawsBesides
import Derived.BigQuiet
import Derived.Deep.QuietTactic
import Derived.Lib.Hide
import Derived.Lib.QuietBelow
import Derived.Maps.AppendAt
import Derived.Deep.AppendLies
import Derived.Deep.RegionLaw
import Derived.JoinedOf
import Derived.KernelRfl
import Derived.ProofKit
import Derived.OpenShut
import Derived.ShutString
import Derived.ChangeOld
import Derived.Deep.Fields
import Derived.Laws.BytesArg
import Derived.Laws.RangeAny
import Derived.Lib.AppendStr
import Derived.Lib.ConvBytes
import Derived.Laws.BitsLemmas
import Derived.Laws.CopyOwn
import Derived.Laws.BitsAllLaws
import Derived.Deep.RegionHeld3
import Derived.StillTailTactics
import Derived.Defers
import Derived.Recover
import Derived.Laws.Pointers
set_option linter.unusedVariables false
set_option linter.unusedSimpArgs false
set_option maxRecDepth 100000
set_option maxHeartbeats 16000000
namespace Go.Proofs.YtpmcofmdjckijaaGreatDoor
open Go.RowKit Go.Sort
theorem lpz {α : Type} (a b : α) (l : List α) : (a :: l).set 0 b = b :: l := rfl
theorem lps {α : Type} (a b : α) (n : Nat) (l : List α) : (a :: l).set (n + 1) b = a :: l.set n b := rfl
theorem lpa {α : Type} (l : List α) (i : Nat) (a : α) : l.toArray.setIfInBounds i a = (l.set i a).toArray := by simp
def Ext (w w' : World) : Prop := Below w.heap.size w w'
theorem Ext.refl (w : World) : Ext w w := Below.refl _ _
theorem Ext.size {w w' : World} (h : Ext w w') : w.heap.size ≤ w'.heap.size := Below.size h
theorem Ext.trans {a b c : World} (h : Ext a b) (k : Ext b c) : Ext a c := Below.trans h (Below.mono k h.size)
@[go_sem] theorem Ext_self (w : World) : Ext w w := Below.refl _ _
@[go_sem] theorem Ext_drew {w w1 : World} (h : Ext w w1) : Ext w w1.drew := Below.drew h
@[go_sem] theorem Ext_drewN {w w1 : World} (n : Nat) (h : Ext w w1) : Ext w (w1.drewN n) := below_drewN h n
@[go_sem] theorem Ext_alloc {w w1 : World} (o : Obj) (h : Ext w w1) : Ext w (w1.alloc o) := Below.alloc h h.size o
@[go_sem] theorem Ext_regrown {w w1 : World} (d : Nat) (os : Array Obj) (h : Ext w w1) : Ext w (grow (redrawn w1 d) os) := Ext.trans h (below_regrown w1 d os)
theorem Ext.setCell {w w1 : World} (h : Ext w w1) {p : Addr} (hp : w.heap.size ≤ p.block) (u : Value) : Ext w (w1.setCell p u) := Below.setCell h hp u
theorem Ext.grown {w w1 w2 : World} {row : Option Nat} (h : Ext w w1) (hg : w1.grownBy w2 row) (hr : ∀ k, row = some k → w.heap.size ≤ k) : Ext w w2 := Below.grown h hg h.size hr
theorem ext_of_q {W w1 : World} {n : Nat} {os : Array Obj} (h : w1 = grow (redrawn W n) os) : Ext W w1 := by rw [h]; exact Ext_regrown _ _ (Ext.refl _)
theorem boxed {w : World} {cs : Array Value} {T : TypeId} {w' : World} (h : Ext (w.alloc (.cells cs T)) w') (i : Nat) : w'.cell? ⟨w.heap.size, i, none⟩ = cs[i]? := by
 have hb : w'.heap[w.heap.size]? = some (.cells cs T (0, 0)) := by
  rw [Below.block h w.heap.size (by simp)]
  exact heap_alloc_new w _
 exact cell_of_row w' w.heap.size i cs T (0, 0) hb
theorem boxed_free {w : World} {cs : Array Value} {T : TypeId} {w' : World} (h : Ext (w.alloc (.cells cs T)) w') (i : Nat) : w'.frozen? ⟨w.heap.size, i, none⟩ = false := by
 have hb : w'.heap[w.heap.size]? = some (.cells cs T (0, 0)) := by
  rw [Below.block h w.heap.size (by simp)]
  exact heap_alloc_new w _
 exact frozen_of_row w' w.heap.size i cs T hb
theorem boxed2 {w : World} {c0 c1 : Array Value} {T0 T1 : TypeId} {w' : World} (h : Ext ((w.alloc (.cells c0 T0)).alloc (.cells c1 T1)) w') :
 (∀ i, w'.cell? ⟨w.heap.size, i, none⟩ = c0[i]?) ∧ (∀ i, w'.cell? ⟨w.heap.size + 1, i, none⟩ = c1[i]?) ∧
 (∀ i, w'.frozen? ⟨w.heap.size, i, none⟩ = false) ∧ (∀ i, w'.frozen? ⟨w.heap.size + 1, i, none⟩ = false) ∧ w.heap.size + 2 ≤ w'.heap.size := by
 have h1 : Ext (w.alloc (.cells c0 T0)) w' := (Ext_alloc _ (Ext.refl _)).trans h
 have s1 : (w.alloc (.cells c0 T0)).heap.size = w.heap.size + 1 := by simp
 refine ⟨fun i => boxed h1 i, fun i => ?_, fun i => boxed_free h1 i, fun i => ?_, ?_⟩
 ·have := boxed h i; rwa [s1] at this
 ·have := boxed_free h i; rwa [s1] at this
 ·have := h.size; simpa using this
theorem boxed3 {w : World} {c0 c1 c2 : Array Value} {T0 T1 T2 : TypeId} {w' : World} (h : Ext (((w.alloc (.cells c0 T0)).alloc (.cells c1 T1)).alloc (.cells c2 T2)) w') :
 (∀ i, w'.cell? ⟨w.heap.size, i, none⟩ = c0[i]?) ∧ (∀ i, w'.cell? ⟨w.heap.size + 1, i, none⟩ = c1[i]?) ∧ (∀ i, w'.cell? ⟨w.heap.size + 1 + 1, i, none⟩ = c2[i]?) ∧
 (∀ i, w'.frozen? ⟨w.heap.size, i, none⟩ = false) ∧ (∀ i, w'.frozen? ⟨w.heap.size + 1, i, none⟩ = false) ∧ (∀ i, w'.frozen? ⟨w.heap.size + 1 + 1, i, none⟩ = false) ∧ w.heap.size + 3 ≤ w'.heap.size := by
 have h2 : Ext ((w.alloc (.cells c0 T0)).alloc (.cells c1 T1)) w' := (Ext_alloc _ (Ext.refl _)).trans h
 have h1 : Ext (w.alloc (.cells c0 T0)) w' := (Ext_alloc _ (Ext.refl _)).trans h2
 have s1 : (w.alloc (.cells c0 T0)).heap.size = w.heap.size + 1 := by simp
 have s2 : ((w.alloc (.cells c0 T0)).alloc (.cells c1 T1)).heap.size = w.heap.size + 1 + 1 := by simp
 refine ⟨fun i => boxed h1 i, fun i => ?_, fun i => ?_, fun i => boxed_free h1 i, fun i => ?_, fun i => ?_, ?_⟩
 ·have := boxed h2 i; rwa [s1] at this
 ·have := boxed h i; rwa [s2] at this
 ·have := boxed_free h2 i; rwa [s1] at this
 ·have := boxed_free h i; rwa [s2] at this
 ·have := h.size; simpa using this
theorem World.ownsRow.lower {w : World} {B B' : Nat} {e : TypeId} {size : Nat} {v : Value} {n : Nat} {xs : List Value} (h : w.ownsRow B e size v n xs) (hb : B' ≤ B) : w.ownsRow B' e size v n xs := by
 refine ⟨h.1, ?_⟩
 rcases h.2 with h0 | ⟨g, cap, cur, hv, hg, r⟩
 ·exact .inl h0
 ·exact .inr ⟨g, cap, cur, hv, by omega, r⟩
def Gives (P : Program) (f : FuncId) (args : Array Value) (w : World) (v : Value) : Prop := Calls P f args w fun e w' => e = .returned v ∧ Ext w w'
def Rd0 {α : Type} (f : α → Value) (w : World) (A : Option Addr) (l : List α) (c : Nat) : Prop :=
 l.length ≤ c ∧ l.length ≤ 9223372036854775807 ∧ (0 < l.length → ∃ b off, A = some ⟨b, off, none⟩ ∧ b < w.heap.size ∧ ∀ (w' : World), Ext w w' → ∀ i (h : i < l.length), w'.cell? ⟨b, off + i, none⟩ = some (f l[i]))
def Rd {α : Type} (f : α → Value) (w : World) (A : Option Addr) (l : List α) (c : Nat) : Prop := Rd0 f w A l c ∧ l.length ≤ 140737488351232
theorem Rd0.ext {α : Type} {f : α → Value} {w w1 : World} {A : Option Addr} {l : List α} {c : Nat} (h : Rd0 f w A l c) (e : Ext w w1) : Rd0 f w1 A l c :=
 ⟨h.1, h.2.1, fun hp => let ⟨b, off, h1, h2, h3⟩ := h.2.2 hp; ⟨b, off, h1, Nat.lt_of_lt_of_le h2 e.size, fun w' e' => h3 w' (e.trans e')⟩⟩
theorem Rd.ext {α : Type} {f : α → Value} {w w1 : World} {A : Option Addr} {l : List α} {c : Nat} (h : Rd f w A l c) (e : Ext w w1) : Rd f w1 A l c := ⟨h.1.ext e, h.2⟩
theorem Rd.len {α : Type} {f : α → Value} {w : World} {A : Option Addr} {l : List α} {c : Nat} (h : Rd f w A l c) : l.length ≤ 140737488351232 := h.2
theorem Rd0.len {α : Type} {f : α → Value} {w : World} {A : Option Addr} {l : List α} {c : Nat} (h : Rd0 f w A l c) : l.length ≤ 9223372036854775807 := h.2.1
theorem Rd0.cap {α : Type} {f : α → Value} {w : World} {A : Option Addr} {l : List α} {c : Nat} (h : Rd0 f w A l c) : l.length ≤ c := h.1
theorem Rd.cap {α : Type} {f : α → Value} {w : World} {A : Option Addr} {l : List α} {c : Nat} (h : Rd f w A l c) : l.length ≤ c := h.1.1
@[go_sem] def vu8 (x : UInt8) : Value := .int .u8 x.toNat
@[go_sem] def vint (x : Int) : Value := .int .i64 x
@[go_sem] def vstr (x : ByteArray) : Value := .string x
abbrev Bs (w : World) (A : Option Addr) (l : List UInt8) (c : Nat) : Prop := Rd vu8 w A l c
abbrev Is (w : World) (A : Option Addr) (l : List Int) (c : Nat) : Prop := Rd vint w A l c
abbrev Ss (w : World) (A : Option Addr) (l : List ByteArray) (c : Nat) : Prop := Rd vstr w A l c
theorem Rd0.at {α : Type} {f : α → Value} {w : World} {A : Option Addr} {l : List α} {c : Nat} (h : Rd0 f w A l c) (k : Nat) (hk : k < l.length) :
 ∃ b off, A = some ⟨b, off, none⟩ ∧ b < w.heap.size ∧ ∀ (w' : World), Ext w w' → w'.cell? ⟨b, off + k, none⟩ = some (f l[k]) :=
 let ⟨b, off, h1, h2, h3⟩ := h.2.2 (by omega)
 ⟨b, off, h1, h2, fun w' e => h3 w' e k hk⟩
theorem Rd.at {α : Type} {f : α → Value} {w : World} {A : Option Addr} {l : List α} {c : Nat} (h : Rd f w A l c) (k : Nat) (hk : k < l.length) :
 ∃ b off, A = some ⟨b, off, none⟩ ∧ b < w.heap.size ∧ ∀ (w' : World), Ext w w' → w'.cell? ⟨b, off + k, none⟩ = some (f l[k]) := h.1.at k hk
theorem World.cell?_alloc_at' (w : World) (news : List Value) (e : TypeId) (j : Nat) : (w.alloc (.cells news.toArray e)).cell? ((⟨w.heap.size, 0, none⟩ : Addr).add j) = news[j]? := by
 have hadd : (⟨w.heap.size, 0, none⟩ : Addr).add j = ⟨w.heap.size, j, none⟩ := by unfold Addr.add; split <;> simp_all
 rw [hadd, World.cell?_alloc_at _ _ _ _ rfl]; simp
structure Elem (P : Program) (t e : TypeId) (size bytes : Nat) (z : Value) : Prop where
 ht : P.underlying t = some (.slice e)
 hi : (P.info? e).map (fun i => (i.zero, i.size, i.bytes)) = some (some z, size, bytes)
 hz : z.cells.size = size
 hs : 0 < size
abbrev Own (e : TypeId) (size : Nat) (w0 w : World) (v : Value) (n : Nat) (xs : List Value) : Prop := w.ownsRow w0.heap.size e size v n xs
section
variable {P : Program} {ops : Array Oper} {rest : List Oper} {o : Oper} {a : Act} {Q : Exit → Act → World → Prop}
theorem run_app_nil (w : World) (base : Nat) (t ty e : TypeId) (i : TypeInfo) (size : Nat) (ht : P.underlying t = some (.slice e)) (hi : P.info? e = some i)
 (v : Value) (n : Nat) (xs : List Value) (hown : w.ownsRow base e size v n xs) (c : Nat) : (Builtin.append_ #[t, t] ty #[v, .slice none 0 c]).run P w = .ok v w := by
 rcases hown.2 with ⟨rfl, rfl⟩ | ⟨g, cap, cur, rfl, _, _, hnc, _⟩
 ·simp [Builtin.append_, run_underlying ht, sizeOf, typeInfo, hi, Builtin.lenOf, Builtin.firstCells]
 ·simp [Builtin.append_, run_underlying ht, sizeOf, typeInfo, hi, Builtin.lenOf, Builtin.firstCells, hnc, storeCells]
theorem wpList_app_any (hgd : o.guard = none) (s x : Operand) (t : TypeId) (ho : o.op = .call { callee := .builtin .append, args := #[s, x], argTypes := #[t, t] })
 {e : TypeId} {size bytes : Nat} {z : Value} (hE : Elem P t e size bytes z) (w0 w : World) (v : Value) (n : Nat) (xs : List Value) (hs : a.eval s = v) (hown : Own e size w0 w v n xs)
 (he : Ext w0 w) (news : List Value) (A : Option Addr) (m c : Nat) (hx : a.eval x = .slice A m c) (hl : news.length = m * size)
 (hA : 0 < m → ∃ ad, A = some ad ∧ ∀ j u, news[j]? = some u → w.cell? (ad.add j) = some u) (h1 : ∀ u ∈ news, u.oneCell' = true)
 (hm : n + m ≤ maxLen) (hb : (n + m) * bytes ≤ 140737488355328)
 (h : ∀ v' w', Own e size w0 w' v' (n + m) (xs ++ news) → Ext w0 w' → (v'.ownBlock = v.ownBlock ∨ v'.ownBlock = some w.heap.size) → w.grownBy w' v.ownBlock → wpList P ops Q rest (a.put o.dst v') w') :
 wpList P ops Q (o :: rest) a w := by
 obtain ⟨i0, hi0, hz0, hz1, hz2⟩ := info_parts hE.hi
 rcases A with _ | ad
 ·have hm0 : m = 0 := by
   rcases Nat.eq_zero_or_pos m with h0 | h0
   ·exact h0
   ·obtain ⟨ad, h, _⟩ := hA h0
    cases h
  subst hm0
  obtain rfl : news = [] := List.eq_nil_of_length_eq_zero (by simpa using hl)
  refine wpList_plain hgd fun K hK => ?_
  unfold Oper.wp execOp
  simp only [ho, resolve, invoke, builtin, Sem.run_bind, Sem.run_pure, Result.andThen_ok, List.map_toArray, List.map_cons, List.map_nil, hs, hx, run_app_nil w w0.heap.size t o.type e i0 size hE.ht hi0 v n xs hown c]
  exact hK _ _ (h v w (by simpa using hown) he (.inl rfl) (World.grownBy.refl w _))
 ·refine wpList_append_own_at _ hgd s x t ho w0.heap.size e i0 z size bytes hE.ht hi0 hz0 hz1 hz2 hE.hz hE.hs v n xs hs hown ad m c news hx hl ?_ h1 hm hb he.size ?_
  ·intro j u hu
   rcases Nat.eq_zero_or_pos m with h0 | h0
   ·subst h0
    obtain rfl : news = [] := List.eq_nil_of_length_eq_zero (by simpa using hl)
    simp at hu
   ·obtain ⟨ad', h', hc⟩ := hA h0
    injection h' with h'
    subst h'
    exact hc j u hu
  ·intro v' w' ho' hg _ hat
   exact h v' w' ho' (he.grown hg (fun k hk => (hown.lt k hk).1)) hat hg
end
theorem Own.rd {α : Type} {f : α → Value} {e : TypeId} {w0 w : World} {v : Value} {n : Nat} {l : List α} (h : Own e 1 w0 w v n (l.map f)) (hl : l.length ≤ 140737488351232) :
 ∃ A c, v = .slice A l.length c ∧ Rd f w A l c := by
 have hn : n = l.length := by have := h.1; simpa using this.symm
 subst hn
 rcases h.2 with ⟨rfl, h0⟩ | ⟨g, cap, cur, rfl, hb, hg, hnc, hcm, hcs, htake⟩
 ·exact ⟨none, 0, by rw [h0], ⟨by omega, by omega, fun hp => by omega⟩, hl⟩
 ·refine ⟨_, _, rfl, ⟨by omega, by omega, fun _ => ⟨g, 0, rfl, (Array.getElem?_eq_some_iff.1 hg).1, fun w' e' i hi => ?_⟩⟩, hl⟩
  have hg' : w'.heap[g]? = some (.cells cur _ (0, 0)) := (Below.block e' g (Array.getElem?_eq_some_iff.1 hg).1).trans hg
  rw [cell_of_row w' g (0 + i) cur _ (0, 0) hg']
  have h2 : (cur.toList.take (l.length * 1))[i]? = (l.map f)[i]? := by rw [htake]
  rw [List.getElem?_take, if_pos (by omega)] at h2
  simpa [hi] using h2
theorem Own.empty {e : TypeId} {size : Nat} {w0 w : World} (he : Ext w0 w) : Own e size w0 (w.alloc (.cells #[] e)) (.slice (some ⟨w.heap.size, 0, none⟩) 0 0) 0 [] :=
 ⟨by simp, .inr ⟨w.heap.size, 0, #[], rfl, he.size, heap_alloc_new w _, by omega, by simp [maxLen], by simp, by simp⟩⟩
theorem Own.ext {e : TypeId} {size : Nat} {w0 w w1 : World} {v : Value} {n : Nat} {xs : List Value} (h : Own e size w0 w v n xs) (k : Ext w w1) : Own e size w0 w1 v n xs := by
 refine ⟨h.1, ?_⟩
 rcases h.2 with h0 | ⟨g, cap, cur, rfl, hb, hg, r⟩
 ·exact .inl h0
 ·exact .inr ⟨g, cap, cur, rfl, hb, (Below.block k g (Array.getElem?_eq_some_iff.1 hg).1).trans hg, r⟩
theorem Own.slot {e : TypeId} {size : Nat} {w0 w : World} {g n cap : Nat} {xs : List Value} (h : Own e size w0 w (.slice (some ⟨g, 0, none⟩) n cap) n xs) (k : Nat) (hk : k < xs.length) :
 (∃ u, w.cell? ⟨g, k, none⟩ = some u) ∧ w.frozen? ⟨g, k, none⟩ = false :=
 ⟨⟨xs[k], by rw [h.cellAt k (by have := h.1; omega)]; simp [hk]⟩, h.frozenAt k⟩
theorem Own.store {e : TypeId} {size : Nat} {w0 w : World} {g n cap : Nat} {xs : List Value} (h : Own e size w0 w (.slice (some ⟨g, 0, none⟩) n cap) n xs) (he : Ext w0 w) (k : Nat) (u : Value) :
 Own e size w0 (w.setCell ⟨g, k, none⟩ u) (.slice (some ⟨g, 0, none⟩) n cap) n (xs.set k u) ∧ Ext w0 (w.setCell ⟨g, k, none⟩ u) :=
 ⟨(h.stored k u).1, he.setCell (h.lt g rfl).1 u⟩
theorem Rd.base {α : Type} {f : α → Value} {w : World} {A : Option Addr} {l : List α} {c : Nat} (h : Rd f w A l c) (hp : 0 < l.length) :
 ∃ b off, A = some ⟨b, off, none⟩ ∧ b < w.heap.size ∧ ∀ (w' : World), Ext w w' → ∀ i (h : i < l.length), w'.cell? ⟨b, off + i, none⟩ = some (f l[i]) := h.1.2.2 hp
theorem part_cells {α : Type} {f : α → Value} {w : World} {b off : Nat} {l : List α} (h : ∀ i (h : i < l.length), w.cell? ⟨b, off + i, none⟩ = some (f l[i])) (lo m : Nat) :
 ∀ j u, (((l.drop lo).take m).map f)[j]? = some u → w.cell? ((⟨b, off + lo, none⟩ : Addr).add j) = some u := by
 intro j u hu
 rw [List.getElem?_map, List.getElem?_take] at hu
 split at hu
 ·rw [List.getElem?_drop] at hu
  have hlt : lo + j < l.length := by
   rcases Nat.lt_or_ge (lo + j) l.length with h' | h'
   ·exact h'
   ·rw [List.getElem?_eq_none h'] at hu; simp at hu
  rw [List.getElem?_eq_getElem hlt] at hu
  have hadd : (⟨b, off + lo, none⟩ : Addr).add j = ⟨b, off + (lo + j), none⟩ := by unfold Addr.add; split <;> simp_all [Nat.add_assoc]
  rw [hadd, h _ hlt]
  simpa using hu
 ·simp at hu
def OwnL {α : Type} (f : α → Value) (e : TypeId) (w0 w : World) (v : Value) (l : List α) : Prop := Own e 1 w0 w v l.length (l.map f)
theorem OwnL.rd {α : Type} {f : α → Value} {e : TypeId} {w0 w : World} {v : Value} {l : List α} (h : OwnL f e w0 w v l) (hl : l.length ≤ 140737488351232) : ∃ A c, v = .slice A l.length c ∧ Rd f w A l c := Own.rd h hl
theorem OwnL.ext {α : Type} {f : α → Value} {e : TypeId} {w0 w w1 : World} {v : Value} {l : List α} (h : OwnL f e w0 w v l) (k : Ext w w1) : OwnL f e w0 w1 v l := Own.ext h k
theorem OwnL.empty {α : Type} {f : α → Value} {e : TypeId} {w0 w : World} (he : Ext w0 w) : OwnL f e w0 (w.alloc (.cells #[] e)) (.slice (some ⟨w.heap.size, 0, none⟩) 0 0) [] := Own.empty he
theorem OwnL.nil {α : Type} {f : α → Value} {e : TypeId} (w0 w : World) : OwnL f e w0 w (.slice none 0 0) [] := ⟨by simp, .inl ⟨rfl, rfl⟩⟩
section
variable {P : Program} {ops : Array Oper} {rest : List Oper} {o : Oper} {a : Act} {Q : Exit → Act → World → Prop}
theorem wpList_appL (hgd : o.guard = none) (s x : Operand) (t : TypeId) (ho : o.op = .call { callee := .builtin .append, args := #[s, x], argTypes := #[t, t] })
 {e : TypeId} {bytes : Nat} {z : Value} (hE : Elem P t e 1 bytes z) (hby : 1 ≤ bytes) (w0 w : World) {α : Type} (f : α → Value) (hf : ∀ x, (f x).oneCell' = true) (v : Value) (hs : a.eval s = v) (A : Option Addr) (m c : Nat) (hx : a.eval x = .slice A m c)
 (l ys : List α) (hown : OwnL f e w0 w v l) (he : Ext w0 w) (hm : m = ys.length)
 (hA : 0 < ys.length → ∃ ad, A = some ad ∧ ∀ j u, (ys.map f)[j]? = some u → w.cell? (ad.add j) = some u)
 (hb : (l.length + ys.length) * bytes ≤ 140737488355328)
 (h : ∀ v' w', OwnL f e w0 w' v' (l ++ ys) → Ext w0 w' → (v'.ownBlock = v.ownBlock ∨ v'.ownBlock = some w.heap.size) → w.grownBy w' v.ownBlock → wpList P ops Q rest (a.put o.dst v') w') :
 wpList P ops Q (o :: rest) a w := by
 subst hm
 refine wpList_app_any hgd s x t ho hE w0 w v l.length (l.map f) hs hown he (ys.map f) A ys.length c hx (by simp) hA (fun u hu => by obtain ⟨x, _, rfl⟩ := List.mem_map.1 hu; exact hf x)
  (by have := Nat.mul_le_mul_left (l.length + ys.length) hby; simp only [maxLen]; omega) hb ?_
 intro v' w' h1 h2 h3 h4
 exact h v' w' (by simpa [OwnL] using h1) h2 h3 h4
theorem wpList_appN (hgd : o.guard = none) (s x : Operand) (t : TypeId) (ho : o.op = .call { callee := .builtin .append, args := #[s, x], argTypes := #[t, t] })
 {e : TypeId} {bytes : Nat} {z : Value} (hE : Elem P t e 1 bytes z) (hby : 1 ≤ bytes) (w0 w : World) {α : Type} (f : α → Value) (hf : ∀ x, (f x).oneCell' = true) (v : Value) (hs : a.eval s = v) (m c : Nat) (hx : a.eval x = .slice (some ⟨w.heap.size, 0, none⟩) m c)
 (l ys : List α) (cs : Array Value) (hcs : cs = (ys.map f).toArray) (hown : OwnL f e w0 w v l) (he : Ext w0 w) (hm : m = ys.length)
 (hb : (l.length + ys.length) * bytes ≤ 140737488355328)
 (h : ∀ v' w', OwnL f e w0 w' v' (l ++ ys) → Ext w0 w' → wpList P ops Q rest (a.put o.dst v') w') :
 wpList P ops Q (o :: rest) a (w.alloc (.cells cs e)) := by
 subst hcs
 refine wpList_appL hgd s x t ho hE hby w0 _ f hf v hs (some ⟨w.heap.size, 0, none⟩) m c hx l ys (hown.ext (Ext_alloc _ (Ext.refl w))) (Ext_alloc _ he) hm (fun _ => ⟨_, rfl, fun j u hu => ?_⟩) hb (fun v' w' h1 h2 _ _ => h v' w' h1 h2)
 rw [World.cell?_alloc_at']; exact hu
end
section
variable {P : Program} {ops : Array Oper} {rest : List Oper} {o : Oper} {a : Act} {Q : Exit → Act → World → Prop} {K : Act → World → Prop} {E : Prop}
end
theorem OwnL.kept {α : Type} {f : α → Value} {e : TypeId} {w0 w w' : World} {v : Value} {l : List α} (h : OwnL f e w0 w v l) {row : Option Nat} (hg : w.grownBy w' row) (hr : ∀ g, row = some g → g < w0.heap.size) : OwnL f e w0 w' v l := by
 refine World.ownsRow.kept h hg ?_
 cases hv : v.ownBlock with
 | none => exact .inl rfl
 | some g =>
  right
  intro e
  have := hr g e.symm
  have := (h.lt g hv).1
  omega
theorem OwnL.block {α : Type} {f : α → Value} {e : TypeId} {w0 w : World} {v : Value} {l : List α} (h : OwnL f e w0 w v l) : ∀ g, v.ownBlock = some g → g < w.heap.size := fun g hg => (h.lt g hg).2
theorem u8_inj {x y : UInt8} (h : (x.toNat : Int) = (y.toNat : Int)) : x = y := UInt8.toNat_inj.1 (by omega)
theorem take_eq_succ {α : Type} {l l' : List α} {k : Nat} (h1 : k < l.length) (h2 : k < l'.length) (h : l.take k = l'.take k) (e : l[k] = l'[k]) : l.take (k+1) = l'.take (k+1) := by
 rw [List.take_succ_eq_append_getElem h1, List.take_succ_eq_append_getElem h2, h, e]
theorem ret_i64 {a b : Int} (h : a = b) : Ending.returned (.int .i64 a) = .returned (.int .i64 b) := by rw [h]
theorem ret_bool {a b : Bool} (h : a = b) : Ending.returned (.bool a) = .returned (.bool b) := by rw [h]
end Go.Proofs.YtpmcofmdjckijaaGreatDoor
namespace Go.Proofs.YtpmcofmdjckijaaGreatDoor
theorem and_ : ∀ {a b : Bool}, a = true → b = true → (a && b) = true
 | true, true, _, _ => rfl
def ioL : List Char := List.map Char.ofNat [104, 97, 114, 110, 101, 115, 115, 32, 49, 51, 97, 48, 97, 57, 51, 51, 49, 52, 57, 49, 53, 51, 100, 54, 99, 100, 57, 53, 56, 50, 49, 57, 101, 53, 55, 99, 97, 102, 48, 52, 54, 56, 57, 97, 48, 50, 48, 102, 48, 56, 97, 52, 53, 98, 102, 102, 48, 56, 48, 100, 49, 56, 99, 57, 101, 56, 56, 49, 50, 101, 101, 55, 32, 99, 117, 116, 32, 97, 116, 32, 108, 111, 111, 112, 46, 101, 120, 97, 109, 112, 108, 101, 47, 103, 48, 48, 53, 49, 56, 47, 108, 97, 119, 115, 46, 70, 110, 69, 120, 116, 101, 110, 115, 105, 111, 110, 115]
def cutW : List Char := List.map Char.ofNat [99, 117, 116]
theorem io_eq : Tryz.prog.initOrder = String.ofList ioL := by
 unfold Tryz.prog
 dsimp only [Tryz.progTables]
 kernel_rfl
theorem io_list : Tryz.prog.initOrder.toList = ioL := by rw [io_eq, String.toList_ofList]
theorem io_words : behindMainWord (wordsSigns ioL) = cutW :: (behindMainWord (wordsSigns ioL)).tail := by kernel_rfl
theorem io_strip (rest : List (List Char)) : stripLifts liftWords (cutW :: rest) = ([], cutW :: rest) := by kernel_rfl
theorem cut_gc : (cutW == "gc".toList || cutW == "spec".toList) = false := by kernel_rfl
theorem cut_carried : (cutW == "carried".toList) = false := by kernel_rfl
theorem cut_carried' : (some cutW == some "carried".toList) = false := by kernel_rfl
theorem cut_cut : (some cutW == some "cut".toList) = true := by kernel_rfl
theorem cut_cut' : (cutW == "cut".toList) = true := by kernel_rfl
theorem no_later : Tryz.prog.laysLater = false := by kernel_rfl
theorem no_reflect : Tryz.prog.bearsReflect = false := by kernel_rfl
theorem door_fits : Tryz.prog.doorFits [] = true := by kernel_rfl
section
variable {P : Program} {rest : List (List Char)} (h : behindMainWord (wordsSigns P.initOrder.toList) = cutW :: rest)
include h
theorem head_lifts_of : P.headLifts = [] := by
 unfold Program.headLifts
 rw [h, io_strip]
 simp only [List.head?_cons, cut_cut, if_true]
theorem enter_of (h1 : P.laysLater = false) (h2 : P.bearsReflect = false) (h3 : P.doorFits [] = true) : P.mayEnter = true := by
 unfold Program.mayEnter
 rw [h]
 simp only [io_strip, cut_gc, cut_carried, cut_cut, h1, h2, h3, List.head?_cons, Bool.false_and, Bool.false_or, Bool.not_false, Bool.and_true, Bool.or_true, List.contains_nil]
theorem final_of : P.liftsFinal = false := by
 unfold Program.liftsFinal
 rw [head_lifts_of h, h]
 simp only [List.head?_cons, cut_carried', Bool.false_and, Bool.false_or, List.contains_nil]
theorem make_of : P.make = some .cut := by
 unfold Program.make
 rw [h]
 simp only [cut_gc, cut_cut', Bool.true_or, if_true]
 rfl
end
theorem io_head : behindMainWord (wordsSigns Tryz.prog.initOrder.toList) = cutW :: (behindMainWord (wordsSigns ioL)).tail := by rw [io_list]; exact io_words
theorem fact_enter : Tryz.prog.mayEnter = true := enter_of io_head no_later no_reflect door_fits
theorem fact_final : Tryz.prog.liftsFinal = false := final_of io_head
theorem fact_make : Tryz.prog.make = some .cut := make_of io_head
theorem fact_final' : (false == Tryz.prog.liftsFinal) = true := by rw [fact_final]; rfl
theorem fact_make' : (Tryz.prog.make == some Make.cut) = true := by rw [fact_make]; kernel_rfl
theorem fact_laid : laidOutB Tryz.prog = true := by kernel_rfl
theorem fact_maps : mapsRowed Tryz.prog = true := by kernel_rfl
theorem fact_stops : (Tryz.prog.stops == []) = true := by kernel_rfl
theorem fact_knobs : (Tryz.prog.stopKnobs == []) = true := by kernel_rfl
theorem fact_heard : Tryz.prog.stopsHeard = true := by kernel_rfl
end Go.Proofs.YtpmcofmdjckijaaGreatDoor
namespace Go.Proofs.YtpmcofmdjckijaaGreatDoor
open Go.ChangeShapes Go.WideShapes Go.ChangeAt Go.RowKit Go.Deep
theorem own : ownKnob Tryz.prog.godebug = none := by kernel_rfl
theorem laidOut : laidOutB Tryz.prog = true := fact_laid
theorem rd0_of_cells {α : Type} {f : α → Value} {W : World} {x : Addr} {l : List α} {c : Nat} (hc0 : l.length ≤ c) (hl : l.length ≤ 9223372036854775807) (hc : ∀ i (h : i < l.length), W.cell? (x.add i) = some (f l[i])) : Rd0 f W (some x) l c := by
 refine ⟨hc0, hl, fun hp => ?_⟩
 obtain ⟨b, off, spot⟩ := x
 have h0 := hc 0 hp
 have hspot : spot = none := by simpa [Addr.add] using World.cell?_spot h0
 subst hspot
 refine ⟨b, off, rfl, ?_, fun w' e i hi => ?_⟩
 ·have := block_lt_of_cell h0; simpa [Addr.add] using this
 ·have h1 := hc i hi
  have hadd : (⟨b, off, none⟩ : Addr).add i = ⟨b, off + i, none⟩ := by unfold Addr.add; split <;> simp_all
  rw [hadd] at h1
  exact (Below.cell e (by simpa using block_lt_of_cell h1)).trans h1
section
variable {H : Type} {enc : TypeId × Value → H} {W : World} {base : Nat} {spare : Nat → Bool} {held : Bool}
theorem in_bytes {T E : TypeId} (hT : Tryz.prog.underlying T = some (.slice E)) (hE : Tryz.prog.underlying E = some (.int .u8)) (hC : Tryz.prog.cellsOf E = 1)
 {n : Nat} {v : Value} {y : DataW H × List MemPlace} (h : DataW.trod enc Tryz.prog W base spare held n T [v] = some y) :
 ∃ (A : Option Addr) (l : List UInt8) (c : Nat), v = .slice A l.length c ∧ Rd0 vu8 W A l c := by
 rcases open_ints hT hE hC h with ⟨hcs, _⟩ | ⟨x, len, c, zs, hcs, _, hl, hm, hz, _, hcell, hwz⟩
 ·obtain rfl : v = .slice none 0 0 := by simpa using hcs
  exact ⟨none, [], 0, rfl, by simp, by simp, fun h => by simp at h⟩
 ·obtain rfl : v = .slice (some x) len c := by simpa using hcs
  have hlz : len ≤ zs.length := by rw [hz]; split <;> omega
  refine ⟨some x, (zs.take len).map (fun z => UInt8.ofNat z.toNat), c, by simp; omega, rd0_of_cells (by simp; omega) (by simp [maxLen] at hm ⊢; omega) fun i hi => ?_⟩
  have hi' : i < len := by simp at hi; omega
  rw [hcell i (by omega)]
  have hb := bounds_u8 (hwz zs[i] (List.getElem_mem (by omega)))
  simp [vu8, List.getElem?_eq_getElem (show i < zs.length by omega)]
  omega
def RdI (W : World) (A : Option Addr) (l : List Int) (c : Nat) : Prop := Rd0 vint W A l c ∧ ∀ x ∈ l, (Lit.int .i64 x).wf = true
end
end Go.Proofs.YtpmcofmdjckijaaGreatDoor
namespace Go.Proofs.YtpmcofmdjckijaaGreatDoor
open Go.RowKit Go.Sort
theorem E_u8 : Elem Tryz.prog 22 5 1 1 (.int .u8 0) := ⟨Tryz.underlying22, by kernel_rfl, rfl, by omega⟩
theorem E_int : Elem Tryz.prog 49 3 1 8 (.int .i64 0) := ⟨Tryz.underlying49, by kernel_rfl, rfl, by omega⟩
def mk8 (k : Int) (i : Nat) : Value := .int .u8 (IntKind.u8.wrap (k + i))
def mkI (k : Int) (i : Nat) : Value := .int .i64 (k + i)
end Go.Proofs.YtpmcofmdjckijaaGreatDoor
namespace Go.Proofs.YtpmcofmdjckijaaGreatDoor
def runLen : List UInt8 → Nat
 | [] => 0
 | x :: t => 1 + (t.takeWhile (· == x)).length
def runAt (l : List UInt8) (i : Int) : Nat := if 0 ≤ i ∧ i < l.length then runLen (l.drop i.toNat) else 0
def countFrom (l : List UInt8) : Nat → Nat → Nat
 | 0, _ => 0
 | f + 1, a => if a < l.length then 1 + countFrom l f (a + runAt l a) else 0
def countRuns (l : List UInt8) : Nat := countFrom l l.length 0
end Go.Proofs.YtpmcofmdjckijaaGreatDoor
namespace Go.Proofs.YtpmcofmdjckijaaGreatDoor
open Go.RowKit Go.Sort
theorem l1In_c (n a b : Int) (w : World) : Gives Tryz.prog 51 #[.int .i64 n, .int .i64 a, .int .i64 b] w (.bool (decide (a ≤ n) && decide (n ≤ b))) := by
 by_cases h : a ≤ n
 ·go_enter Tryz.func51, Tryz.ntmps51
  go_wp2
  go_ret
  exact ⟨ret_bool (by simp [h]), Ext.refl _⟩
 ·go_enter Tryz.func51, Tryz.ntmps51
  go_wp2
  go_ret
  exact ⟨ret_bool (by simp; omega), Ext.refl _⟩
def sumB : List UInt8 → Nat
 | [] => 0
 | x :: t => x.toNat + sumB t
theorem sumB_append (a b : List UInt8) : sumB (a ++ b) = sumB a + sumB b := by
 induction a with
 | nil => simp [sumB]
 | cons x t ih => simp [sumB, ih]; omega
theorem sumB_take {l : List UInt8} {k : Nat} (h : k < l.length) : sumB (l.take (k+1)) = sumB (l.take k) + l[k].toNat := by
 rw [List.take_succ_eq_append_getElem h, sumB_append]; simp [sumB]
theorem sSumOfBytes_c (A : Option Addr) (l : List UInt8) (c : Nat) (w : World) (h : Bs w A l c) :
 Gives Tryz.prog 68 #[.slice A l.length c] w (.int .i64 (sumB l % 256 : Nat)) := by
 have hl := h.len
 go_enter Tryz.func68, Tryz.ntmps68
 go_wp2
 go_loopw [3, 4] (fun s i wr => ∃ k m : Nat, k ≤ l.length ∧ i = .int .i64 k ∧ s = .int .i64 m ∧ m < 256 ∧ Hid (m = sumB (l.take k) % 256) ∧ Ext w wr) (fun _ i _ => l.length - (intOf i).toNat)
 case atStart => exact ⟨0, 0, by omega, rfl, rfl, by omega, by simp [Hid, sumB], Ext.refl _⟩
 case round =>
  obtain ⟨k, m, hk, rfl, rfl, hm, hs, he⟩ := hrel
  by_cases hlt : k < l.length
  ·obtain ⟨b, off, rfl, hb, hc⟩ := h.at k hlt
   have hst := Lib.hid (sumB_take hlt)
   have h3 := l[k].toNat_lt
   go_wp2
   go_roundw
   case rel => exact ⟨k+1, (m + l[k].toNat) % 256, by omega, by go_num, by congr 1, by omega, (by show _ = _; rw [hst.out, hs.out]; omega), he⟩
   case measure => simp [intOf]; omega
  ·obtain rfl : k = l.length := by omega
   have ht : sumB (l.take l.length) = sumB l := by rw [List.take_of_length_le (by omega)]
   have hq := hs.out; rw [ht] at hq
   have HQ := Lib.hid hq; clear hq ht hs
   go_wp2
   go_ret
   exact ⟨ret_i64 (by rw [HQ.out]), he⟩
end Go.Proofs.YtpmcofmdjckijaaGreatDoor
namespace Go.Proofs.YtpmcofmdjckijaaGreatDoor
def litF (l : List UInt8) (a : Nat) : Nat → Nat → Nat
 | 0, k => k
 | f + 1, k => if k < l.length ∧ k - a < 127 ∧ runAt l k < 3 then litF l a f (k + 1) else k
def litEnd (l : List UInt8) (a k : Nat) : Nat := litF l a (l.length - k) k
def packF (l : List UInt8) : Nat → Nat → List UInt8
 | 0, _ => []
 | f + 1, a =>
  if h : a < l.length then
   if 3 ≤ runAt l a then UInt8.ofNat (128 + min (runAt l a) 127) :: l[a] :: packF l f (a + min (runAt l a) 127)
   else UInt8.ofNat (litEnd l a a - a) :: ((l.drop a).take (litEnd l a a - a) ++ packF l f (litEnd l a a))
  else []
def packAt (l : List UInt8) (a : Nat) : List UInt8 := packF l l.length a
def pack (l : List UInt8) : List UInt8 := packAt l 0
def unpackF : Nat → List UInt8 → List UInt8 → Option (List UInt8)
 | _, [], out => some out
 | 0, _ :: _, _ => none
 | f + 1, x :: t, out =>
  if x = 0 ∨ x = 128 ∨ t = [] then none
  else if x < 128 then
   if t.length < x.toNat then none
   else if 1000 < (out ++ t.take x.toNat).length then none
   else unpackF f (t.drop x.toNat) (out ++ t.take x.toNat)
  else
   if 1000 < (out ++ List.replicate (x.toNat - 128) (t.headD 0)).length then none
   else unpackF f t.tail (out ++ List.replicate (x.toNat - 128) (t.headD 0))
def unpack (l : List UInt8) : Option (List UInt8) := unpackF l.length l []
def unpackAt (l : List UInt8) (a : Nat) (out : List UInt8) : Option (List UInt8) := unpackF l.length (l.drop a) out
end Go.Proofs.YtpmcofmdjckijaaGreatDoor
namespace Go.Proofs.YtpmcofmdjckijaaGreatDoor
open Go.RowKit Go.Sort
theorem sEqualBytes_c (A A' : Option Addr) (l l' : List UInt8) (c c' : Nat) (w : World) (h : Bs w A l c) (h' : Bs w A' l' c') :
 Gives Tryz.prog 28 #[.slice A l.length c, .slice A' l'.length c'] w (.bool (l == l')) := by
 have hl := h.len; have hl' := h'.len
 by_cases hn : l.length = l'.length
 ·have hb1 : ((l.length : Int) != (l'.length : Int)) = false := by simp [hn]
  have H := Lib.hid hn; clear hn
  go_enter Tryz.func28, Tryz.ntmps28
  go_wp2
  go_loopw [5, 4] (fun i v wr => ∃ k : Nat, k ≤ l.length ∧ i = .int .i64 k ∧ Hid (l.take k = l'.take k) ∧ Ext w wr) (fun i _ _ => l.length - (intOf i).toNat)
  case atStart => exact ⟨0, by omega, rfl, by simp [Hid], Ext.refl _⟩
  case round =>
   obtain ⟨k, hk, rfl, ht, he⟩ := hrel
   by_cases hlt : k < l.length
   ·have hlt' : k < l'.length := by have := H.out; omega
    obtain ⟨b, off, rfl, hb, hc⟩ := h.at k hlt
    obtain ⟨b', off', rfl, hb', hc'⟩ := h'.at k hlt'
    clear h h'
    go_wp2
    refine wp_region_quiet_below (by kernel_rfl) (by kernel_rfl) ?_
    repeat (go_big_quiet_step (fail))
    refine wpQuiet_nil ?_
    rintro _ ⟨⟨nq, osq⟩, rfl⟩
    go_wp2
    ·have hne : ((l[k].toNat : Int) != (l'[k].toNat : Int)) = true := by assumption
     go_ret
     refine ⟨ret_bool ?_, Ext_regrown _ _ he⟩
     symm; rw [beq_eq_false_iff_ne]; rintro rfl; simp at hne
    ·have hne : ((l[k].toNat : Int) != (l'[k].toNat : Int)) = false := by assumption
     go_roundw
     case rel => exact ⟨k+1, by omega, by go_num, take_eq_succ hlt hlt' ht (u8_inj (by simpa using hne)), Ext_regrown _ _ he⟩
     case measure => simp [intOf]; omega
   ·go_wp2
    go_ret
    refine ⟨ret_bool ?_, he⟩
    have ht := ht.out; have H := H.out
    rw [List.take_of_length_le (by omega), List.take_of_length_le (by omega)] at ht
    simp [ht]
 ·have hb1 : ((l.length : Int) != (l'.length : Int)) = true := by simp; omega
  go_enter Tryz.func28, Tryz.ntmps28
  go_wp2
  go_ret
  refine ⟨ret_bool ?_, Ext.refl _⟩
  symm; rw [beq_eq_false_iff_ne]; rintro rfl; exact hn rfl
def strOf (l : List UInt8) : ByteArray := ⟨l.toArray⟩
theorem strOf_nums (l : List UInt8) : strOfNums (l.map fun x => (x.toNat : Int)) = strOf l := by
 unfold strOfNums strOf
 congr 1
 rw [List.map_map]
 congr 1
 conv => rhs; rw [← List.map_id l]
 apply List.map_congr_left
 intro x _
 simp
theorem conv_bytes {w w' : World} {A : Option Addr} {l : List UInt8} {c : Nat} (h : Bs w A l c) (he : Ext w w') :
 (convert 22 9 (.slice A l.length c)).run Tryz.prog w' = .ok (.string (strOf l)) w' := by
 rcases Nat.eq_zero_or_pos l.length with h0 | h0
 ·obtain rfl : l = [] := List.eq_nil_of_length_eq_zero h0
  rw [List.length_nil, run_convert_bytes_string w' 22 9 5 _ 0 c Tryz.underlying22 Tryz.underlying5 Tryz.underlying9]
  cases A <;> simp [Conv.bytesToString, loadCells]
  all_goals rfl
 ·obtain ⟨b, off, rfl, hb, hc⟩ := h.base h0
  rw [← strOf_nums]
  refine run_convert_bytes_arg w' 22 5 Tryz.underlying22 Tryz.underlying5 b off l.length c (l.map fun x => (x.toNat : Int)) (by simp) (fun i hi => ?_) 9 Tryz.underlying9
  rw [hc w' he i hi]
  simp [vu8, hi]
theorem bytesEqual_c (A A' : Option Addr) (l l' : List UInt8) (c c' : Nat) (w : World) (h : Bs w A l c) (h' : Bs w A' l' c') :
 Gives Tryz.prog 129 #[.slice A l.length c, .slice A' l'.length c'] w (.bool (l == l')) := by
 have k1 := fun w' e => conv_bytes (w' := w') h e
 have k2 := fun w' e => conv_bytes (w' := w') h' e
 clear h h'
 go_enter Tryz.func129, Tryz.ntmps129
 go_wp2
 go_ret
 refine ⟨ret_bool ?_, Ext.refl _⟩
 rw [ByteArray.toList_eq, ByteArray.toList_eq]
 simp [strOf]
theorem iEqualBytes_c (A A' : Option Addr) (l l' : List UInt8) (c c' : Nat) (w : World) (h : Bs w A l c) (h' : Bs w A' l' c') :
 Gives Tryz.prog 128 #[.slice A l.length c, .slice A' l'.length c'] w (.bool (l == l')) := by
 go_enter Tryz.func128, Tryz.ntmps128
 go_wp2_with fail
 refine (bytesEqual_c _ _ _ _ _ _ _ h h').mono ?_; rintro _ w1 ⟨rfl, he⟩
 go_wp2
 go_ret
 exact ⟨rfl, he⟩
def szN (n : Nat) (left : Int) : Int := if left - n < 0 then -1 else left - n
def vlog (v : Value) (s : Int) : Value := .agg #[v, .int .i64 s]
def vrec (k : Int) (nm : ByteArray) (ver : Int) (v : Value) : Value := .agg #[.int .i64 k, .string nm, .int .i64 ver, v]
def szR (n m : Nat) (left : Int) : Int := if szN n left < 0 then -1 else szN m (szN n left)
theorem iInRange_c (n a b : Int) (w : World) : Gives Tryz.prog 60 #[.int .i64 n, .int .i64 a, .int .i64 b] w (.bool (decide (a ≤ n) && decide (n ≤ b))) := by
 by_cases h : a ≤ n
 ·go_enter Tryz.func60, Tryz.ntmps60
  go_wp2
  go_ret
  exact ⟨ret_bool (by simp [h]), Ext.refl _⟩
 ·go_enter Tryz.func60, Tryz.ntmps60
  go_wp2
  go_ret
  exact ⟨ret_bool (by simp; omega), Ext.refl _⟩
theorem sMin_c (a b : Int) (w : World) : Gives Tryz.prog 47 #[.int .i64 a, .int .i64 b] w (.int .i64 (if b < a then b else a)) := by
 by_cases h : b < a
 ·have H : Hid ((if b < a then b else a) = b) := if_pos h
  rw [H.out]
  go_enter Tryz.func47, Tryz.ntmps47
  go_wp2
  go_ret
  exact ⟨rfl, Ext.refl _⟩
 ·have H : Hid ((if b < a then b else a) = a) := if_neg h
  rw [H.out]
  go_enter Tryz.func47, Tryz.ntmps47
  go_wp2
  go_ret
  exact ⟨rfl, Ext.refl _⟩
def nameCh (i : Nat) (x : UInt8) : Bool := decide (97 ≤ x.toNat ∧ x.toNat ≤ 122) || (decide (48 ≤ x.toNat ∧ x.toNat ≤ 57) && decide (i ≠ 0))
def okCh (s : ByteArray) (i : Nat) : Bool := if h : i < s.size then nameCh i s[i] else true
def isName (s : ByteArray) : Bool := decide (1 ≤ s.size ∧ s.size ≤ 12) && (List.range s.size).all (okCh s)
theorem isName_no {s : ByteArray} {k : Nat} (hk : k < s.size) (h : okCh s k = false) : isName s = false := by
 unfold isName
 rw [Bool.and_eq_false_iff]; right
 rw [Bool.eq_false_iff]
 intro hall
 have := List.all_eq_true.1 hall k (by simpa using hk)
 rw [h] at this; cases this
theorem isName_all {s : ByteArray} (h : ∀ j, j < s.size → okCh s j = true) : isName s = decide (1 ≤ s.size ∧ s.size ≤ 12) := by
 unfold isName
 rw [List.all_eq_true.2 (fun j hj => h j (by simpa using hj)), Bool.and_true]
theorem okCh_at {s : ByteArray} {k : Nat} (hk : k < s.size) : okCh s k = nameCh k s[k] := dif_pos hk
theorem sIsName_c (s : ByteArray) (w : World) (hs : s.size ≤ 9223372036854775807) : Gives Tryz.prog 86 #[.string s] w (.bool (isName s)) := by
 go_enter Tryz.func86, Tryz.ntmps86
 go_wp2
 go_loopw [3] (fun i wr => ∃ k : Nat, k ≤ s.size ∧ i = .int .i64 k ∧ Hid (∀ j, j < k → okCh s j = true) ∧ Ext w wr) (fun i _ => s.size - (intOf i).toNat)
 case atStart => exact ⟨0, by omega, rfl, (fun j hj => by omega), Ext.refl _⟩
 case round =>
  obtain ⟨k, hk, rfl, ho, he⟩ := hrel
  by_cases hlt : k < s.size
  ·have hb : (s[k].toNat : Int) ≤ 255 := by have := s[k].toNat_lt; omega
   have hok := Lib.hid (okCh_at hlt)
   rcases (by omega : (s[k].toNat : Int) < 48 ∨ ((48 : Int) ≤ s[k].toNat ∧ (s[k].toNat : Int) ≤ 57 ∧ k = 0) ∨ ((48 : Int) ≤ s[k].toNat ∧ (s[k].toNat : Int) ≤ 57 ∧ 0 < k) ∨ ((57 : Int) < s[k].toNat ∧ (s[k].toNat : Int) < 97) ∨ ((97 : Int) ≤ s[k].toNat ∧ (s[k].toNat : Int) ≤ 122) ∨ (122 : Int) < s[k].toNat) with c | ⟨c, c', rfl⟩ | ⟨c, c', c''⟩ | ⟨c, c'⟩ | ⟨c, c'⟩ | c
   all_goals
    go_wp2
    all_goals first
     | (exfalso
        have hq : (!decide ((s[k].toNat : Int) ≤ 122)) = false := by assumption
        simp at hq
        omega)
     | (go_ret
        refine ⟨ret_bool ?_, he⟩
        rw [isName_no hlt]
        rw [hok.out]; unfold nameCh; simp; omega)
     | (go_roundw
        case rel => exact ⟨k+1, by omega, by go_num, (fun j hj => by
         rcases (by omega : j < k ∨ j = k) with hj | rfl
         ·exact ho.out j hj
         ·rw [hok.out]; unfold nameCh; simp; omega), he⟩
        case measure => simp [intOf]; omega)
  ·obtain rfl : k = s.size := by omega
   have HE := Lib.hid (isName_all ho.out)
   go_wp2_with (go_at_call 51; refine (l1In_c _ _ _ _).mono ?_; rintro _ w1 ⟨rfl, he1⟩)
   go_ret
   refine ⟨ret_bool ?_, he.trans he1⟩
   rw [HE.out, Bool.eq_iff_iff]; simp; omega
theorem iIsName_c (s : ByteArray) (w : World) (hs : s.size ≤ 9223372036854775807) : Gives Tryz.prog 79 #[.string s] w (.bool (isName s)) := by
 by_cases hlen : 1 ≤ s.size ∧ s.size ≤ 12
 ·obtain ⟨hlo, hhi⟩ := hlen
  have d1 : decide ((s.size : Int) < 1) = false := by simp; omega
  have d2 : decide ((12 : Int) < (s.size : Int)) = false := by simp; omega
  go_enter Tryz.func79, Tryz.ntmps79
  go_wp2
  go_loopw [3, 4, 5, 6] (fun _ _ _ _ wr => ∃ k : Nat, k ≤ s.size ∧ Hid (∀ j, j < k → okCh s j = true) ∧ wr = w.iter s k) (fun _ _ _ _ wr => s.size - wr.iterPos w.heap.size)
  case atStart => exact ⟨0, by omega, (fun j hj => by omega), rfl⟩
  case round =>
   obtain ⟨k, hk, ho, rfl⟩ := hrel
   by_cases hlt : k < s.size
   ·have hok := Lib.hid (okCh_at hlt)
    by_cases ha : s[k].toNat < 128
    ·have hnx : ∀ ty, (Instr.next (.pointer (some ⟨w.heap.size, 0, none⟩)) true ty).run Tryz.prog (w.iter s k) = _ := fun ty => run_next_ascii w s k ty hlt ha
     rcases (by omega : (s[k].toNat : Int) < 48 ∨ ((48 : Int) ≤ s[k].toNat ∧ (s[k].toNat : Int) ≤ 57 ∧ k = 0) ∨ ((48 : Int) ≤ s[k].toNat ∧ (s[k].toNat : Int) ≤ 57 ∧ 0 < k) ∨ ((57 : Int) < s[k].toNat ∧ (s[k].toNat : Int) < 97) ∨ ((97 : Int) ≤ s[k].toNat ∧ (s[k].toNat : Int) ≤ 122) ∨ (122 : Int) < s[k].toNat) with c | ⟨c, c', rfl⟩ | ⟨c, c', c''⟩ | ⟨c, c'⟩ | ⟨c, c'⟩ | c
     all_goals
      go_wp2
      all_goals first
       | (exfalso
          have hq : (!decide ((s[k].toNat : Int) ≤ 122)) = false := by assumption
          simp at hq
          omega)
       | (go_ret
          refine ⟨ret_bool ?_, Ext_alloc _ (Ext.refl w)⟩
          rw [isName_no hlt]
          rw [hok.out]; unfold nameCh; simp; omega)
       | (go_roundw
          case rel => exact ⟨k+1, by omega, (fun j hj => by
           rcases (by omega : j < k ∨ j = k) with hj | rfl
           ·exact ho.out j hj
           ·rw [hok.out]; unfold nameCh; simp; omega), rfl⟩
          case measure => simp; omega)
    ·obtain ⟨hr1, hr2⟩ := decode_high s k hlt (by omega)
     have hr3 := decode_le s k
     have hnx : ∀ ty, (Instr.next (.pointer (some ⟨w.heap.size, 0, none⟩)) true ty).run Tryz.prog (w.iter s k) = _ := fun ty => run_next_any w s k ty hlt
     generalize (Utf8.decode s k).1 = rn at *
     generalize (Utf8.decode s k).2 = wd at *
     have d1 : decide ((rn : Int) ≤ 122) = false := by simp; omega
     have d2 : decide ((rn : Int) ≤ 57) = false := by simp; omega
     have hr1 : (128 : Int) ≤ (rn : Int) := by omega
     go_wp2
     go_ret
     refine ⟨ret_bool ?_, Ext_alloc _ (Ext.refl w)⟩
     rw [isName_no hlt]
     rw [hok.out]; unfold nameCh; simp; omega
   ·obtain rfl : k = s.size := by omega
    have HE := Lib.hid (isName_all ho.out)
    have hnx : ∀ ty, (Instr.next (.pointer (some ⟨w.heap.size, 0, none⟩)) true ty).run Tryz.prog (w.iter s s.size) = _ := fun ty => run_next_end w s s.size ty hlt
    go_wp2
    go_ret
    refine ⟨ret_bool ?_, Ext_alloc _ (Ext.refl w)⟩
    rw [HE.out]; simp; omega
 ·have hno : Hid (isName s = false) := by show _ = _; unfold isName; rw [decide_eq_false hlen]; rfl
  rcases (by omega : (s.size : Int) < 1 ∨ ((1 : Int) ≤ s.size ∧ (12 : Int) < s.size)) with c | ⟨c, c'⟩
  all_goals
   go_enter Tryz.func79, Tryz.ntmps79
   go_wp2
   go_ret
   exact ⟨ret_bool hno.out.symm, Ext.refl w⟩
def validRec (k : Int) (nm : ByteArray) (ver : Int) (n : Nat) : Bool :=
 isName nm && (decide (0 ≤ ver) && decide (ver ≤ 7)) && decide (n ≤ 400) && (k == 1 || (k == 2 && ver == 0 && (n : Int) == 0))
end Go.Proofs.YtpmcofmdjckijaaGreatDoor
namespace Go.Proofs.YtpmcofmdjckijaaGreatDoor
def be2 (n : Nat) : List UInt8 := [UInt8.ofNat (n / 256), UInt8.ofNat n]
def encBody (k : Int) (nm : ByteArray) (ver : Int) (l : List UInt8) : List UInt8 :=
 [UInt8.ofNat k.toNat, UInt8.ofNat nm.size] ++ nm.data.toList ++ [UInt8.ofNat ver.toNat] ++ be2 (pack l).length ++ pack l
def encRec (k : Int) (nm : ByteArray) (ver : Int) (l : List UInt8) : List UInt8 :=
 if validRec k nm ver l.length then encBody k nm ver l ++ [UInt8.ofNat (sumB (encBody k nm ver l))] else []
structure DRec where
 k : Int
 nm : ByteArray
 ver : Int
 l : List UInt8
def DRec.zero : DRec := ⟨0, ⟨#[]⟩, 0, []⟩
def DRec.enc (r : DRec) : List UInt8 := encRec r.k r.nm r.ver r.l
def DRec.ok (r : DRec) : Bool := validRec r.k r.nm r.ver r.l.length
def nmAt (b : List UInt8) (a : Nat) : Nat := (b.getD (a+1) 0).toNat
def szAt (b : List UInt8) (a : Nat) : Nat := 256 * (b.getD (a + nmAt b a + 3) 0).toNat + (b.getD (a + nmAt b a + 4) 0).toNat
def recAt (b : List UInt8) (a : Nat) (d : List UInt8) : DRec :=
 ⟨(b.getD a 0).toNat, ⟨((b.drop (a+2)).take (nmAt b a)).toArray⟩, (b.getD (a + nmAt b a + 2) 0).toNat, d⟩
def decN (b : List UInt8) (a : Nat) : Option DRec :=
 if b.length < a + 2 ∨ b.length < a + nmAt b a + 6 ∨ b.length < a + nmAt b a + 6 + szAt b a then none
 else match unpack ((b.drop (a + nmAt b a + 5)).take (szAt b a)) with
  | none => none
  | some d => if (recAt b a d).ok && ((recAt b a d).enc == (b.drop a).take (nmAt b a + 6 + szAt b a)) then some (recAt b a d) else none
def dec (b : List UInt8) (a : Int) : Option DRec := if a < 0 then none else decN b a.toNat
def decEnd (b : List UInt8) (a : Int) : Int := if (dec b a).isSome then a + nmAt b a.toNat + 6 + szAt b a.toNat else a
theorem decN_some {b : List UInt8} {a : Nat} {r : DRec} (h : decN b a = some r) : a + nmAt b a + 6 + szAt b a ≤ b.length ∧ r.ok = true ∧ r.enc = (b.drop a).take (nmAt b a + 6 + szAt b a) ∧ unpack ((b.drop (a + nmAt b a + 5)).take (szAt b a)) = some r.l ∧ r = recAt b a r.l := by
 unfold decN at h
 split at h
 ·cases h
 ·rename_i hc
  split at h
  ·cases h
  ·rename_i d hd
   split at h
   ·rename_i hb
    injection h with h
    subst h
    rw [Bool.and_eq_true, beq_iff_eq] at hb
    exact ⟨by omega, hb.1, hb.2, hd, rfl⟩
   ·cases h
end Go.Proofs.YtpmcofmdjckijaaGreatDoor
namespace Go.Proofs.YtpmcofmdjckijaaGreatDoor
open Go.RowKit Go.Sort
section
variable {P : Program} {ops : Array Oper} {rest : List Oper} {o : Oper} {a : Act} {Q : Exit → Act → World → Prop}
end
theorem Rd.src {α : Type} {f : α → Value} {w w' : World} {A : Option Addr} {l : List α} {c : Nat} (h : Rd f w A l c) (e : Ext w w') :
 0 < l.length → ∃ ad, A = some ad ∧ ∀ j u, (l.map f)[j]? = some u → w'.cell? (ad.add j) = some u := by
 intro hp
 obtain ⟨b, off, h1, _, h3⟩ := h.base hp
 refine ⟨_, h1, fun j u hu => ?_⟩
 have := part_cells (h3 w' e) 0 l.length j u (by simpa using hu)
 simpa using this
theorem OwnL.lower {α : Type} {f : α → Value} {e : TypeId} {w0 w1 w : World} {v : Value} {l : List α} (h : OwnL f e w1 w v l) (k : Ext w0 w1) : OwnL f e w0 w v l := World.ownsRow.lower h k.size
theorem heap_ext' {w w' : World} {g : Nat} {o : Obj} (h : w.heap[g]? = some o) (e : Ext w w') : w'.heap[g]? = some o := (Below.block e g (Array.getElem?_eq_some_iff.1 h).1).trans h
theorem grown_set (w : World) (a : Addr) (u : Value) : w.grownBy (w.setCell a u) (some a.block) :=
 ⟨rfl, rfl, rfl, by simp, fun k _ hk => heap_setCell_other w a k u (fun e => hk (by rw [e]))⟩
theorem grown_ext {w w' : World} (e : Ext w w') (row : Option Nat) : w.grownBy w' row := ⟨e.os, e.tape, e.output, e.size, fun i hi _ => Below.block e i hi⟩
def Box (w : World) (g : Nat) (cs : Array Value) (T : TypeId) : Prop := w.heap[g]? = some (.cells cs T (0, 0))
theorem Box.lt {w : World} {g : Nat} {cs : Array Value} {T : TypeId} (h : Box w g cs T) : g < w.heap.size := (Array.getElem?_eq_some_iff.1 h).1
theorem Box.new (w : World) (cs : Array Value) (T : TypeId) : Box (w.alloc (.cells cs T)) w.heap.size cs T := heap_alloc_new w _
theorem Box.cell {w : World} {g : Nat} {cs : Array Value} {T : TypeId} (h : Box w g cs T) (i : Nat) : w.cell? ⟨g, i, none⟩ = cs[i]? := cell_of_row w g i cs T (0, 0) h
theorem Box.free {w : World} {g : Nat} {cs : Array Value} {T : TypeId} (h : Box w g cs T) (i : Nat) : w.frozen? ⟨g, i, none⟩ = false := frozen_of_row w g i cs T h
theorem Box.ext {w w' : World} {g : Nat} {cs : Array Value} {T : TypeId} (h : Box w g cs T) (e : Ext w w') : Box w' g cs T := heap_ext' h e
theorem Box.moved {w w' : World} {g : Nat} {cs : Array Value} {T : TypeId} (h : Box w g cs T) {r : Option Nat} (hg : w.grownBy w' r) (hne : r ≠ some g) : Box w' g cs T := (hg.block g h.lt (fun hh => hne hh.symm)).trans h
theorem Box.set {w : World} {g : Nat} {cs : Array Value} {T : TypeId} (h : Box w g cs T) (i : Nat) (u : Value) : Box (w.setCell ⟨g, i, none⟩ u) g (cs.setIfInBounds i u) T := heap_setCell_same w g i cs T u h
theorem Box.other {w : World} {g g' : Nat} {cs : Array Value} {T : TypeId} (h : Box w g cs T) (hne : g ≠ g') (i : Nat) (u : Value) : Box (w.setCell ⟨g', i, none⟩ u) g cs T := (heap_setCell_other w ⟨g', i, none⟩ g u hne).trans h
theorem Box.at {w : World} {g : Nat} {cs : Array Value} {T : TypeId} (h : Box w g cs T) (i : Nat) : ∀ w', Ext w w' → w'.cell? ⟨g, i, none⟩ = cs[i]? := fun _ e => (h.ext e).cell i
theorem boxes3 (w : World) (c0 c1 c2 : Array Value) (T0 T1 T2 : TypeId) :
 Box (((w.alloc (.cells c0 T0)).alloc (.cells c1 T1)).alloc (.cells c2 T2)) w.heap.size c0 T0 ∧ Box (((w.alloc (.cells c0 T0)).alloc (.cells c1 T1)).alloc (.cells c2 T2)) (w.heap.size + 1) c1 T1 ∧
 Box (((w.alloc (.cells c0 T0)).alloc (.cells c1 T1)).alloc (.cells c2 T2)) (w.heap.size + 1 + 1) c2 T2 ∧ Ext w (((w.alloc (.cells c0 T0)).alloc (.cells c1 T1)).alloc (.cells c2 T2)) ∧
 (((w.alloc (.cells c0 T0)).alloc (.cells c1 T1)).alloc (.cells c2 T2)).heap.size = w.heap.size + 3 := by
 have s1 : (w.alloc (.cells c0 T0)).heap.size = w.heap.size + 1 := by simp
 have s2 : ((w.alloc (.cells c0 T0)).alloc (.cells c1 T1)).heap.size = w.heap.size + 1 + 1 := by simp
 have h1 := Box.new (w.alloc (.cells c0 T0)) c1 T1
 have h2 := Box.new ((w.alloc (.cells c0 T0)).alloc (.cells c1 T1)) c2 T2
 rw [s1] at h1; rw [s2] at h2
 exact ⟨((Box.new w c0 T0).ext (Ext_alloc _ (Ext.refl _))).ext (Ext_alloc _ (Ext.refl _)), h1.ext (Ext_alloc _ (Ext.refl _)), h2, Ext_alloc _ (Ext_alloc _ (Ext_alloc _ (Ext.refl w))), by simp⟩
theorem boxes3' (w : World) (c0 c1 c2 : Array Value) (T0 T1 T2 : TypeId) :
 ∃ W, Hid (W = (((w.alloc (.cells c0 T0)).alloc (.cells c1 T1)).alloc (.cells c2 T2))) ∧ Box W w.heap.size c0 T0 ∧ Box W (w.heap.size + 1) c1 T1 ∧ Box W (w.heap.size + 1 + 1) c2 T2 ∧ Ext w W ∧ W.heap.size = w.heap.size + 3 :=
 ⟨_, rfl, boxes3 w c0 c1 c2 T0 T1 T2⟩
theorem Own.other {e : TypeId} {size : Nat} {w0 w : World} {v : Value} {n : Nat} {xs : List Value} (h : Own e size w0 w v n xs) (p : Addr) (u : Value) (hne : v.ownBlock ≠ some p.block) : Own e size w0 (w.setCell p u) v n xs := by
 refine World.ownsRow.kept h (grown_set w p u) ?_
 cases hb : v.ownBlock with
 | none => exact .inl rfl
 | some g => right; rw [hb] at hne; exact fun he => hne he
theorem OwnL.other {α : Type} {f : α → Value} {e : TypeId} {w0 w : World} {v : Value} {l : List α} (h : OwnL f e w0 w v l) (p : Addr) (u : Value) (hne : v.ownBlock ≠ some p.block) : OwnL f e w0 (w.setCell p u) v l := Own.other h p u hne
theorem OwnL.far {α : Type} {f : α → Value} {e : TypeId} {w0 w : World} {v : Value} {l : List α} (h : OwnL f e w0 w v l) {b : Nat} (hb : b < w0.heap.size ∨ w.heap.size ≤ b) : v.ownBlock ≠ some b := by
 intro hv
 have h1 := World.ownsRow.lt h b hv
 omega
theorem OwnL.down {α : Type} {f : α → Value} {e : TypeId} {w0 w1 w : World} {v : Value} {l : List α} (h : OwnL f e w1 w v l) (hb : w0.heap.size ≤ w1.heap.size) : OwnL f e w0 w v l := World.ownsRow.lower h hb
theorem i64_and255 (n : Int) : bits .and .i64 n 255 = n % 256 := by
 have h255 : (BitVec.ofInt 64 255).toNat = 2 ^ 8 - 1 := by decide
 have key : (BitVec.ofInt 64 n &&& BitVec.ofInt 64 255).toNat = (n % ((2 ^ 64 : Nat) : Int)).toNat % 2 ^ 8 := by
  rw [BitVec.toNat_and, BitVec.toNat_ofInt, h255, Nat.and_two_pow_sub_one_eq_mod]
 show IntKind.i64.wrap ((BitVec.ofInt 64 n &&& BitVec.ofInt 64 255).toNat : Nat) = n % 256
 rw [key, IntKind.wrap_i64]
 omega
theorem i64_and30 (n : Int) : bits .and .i64 n 1073741823 = n % 1073741824 := by
 have h255 : (BitVec.ofInt 64 1073741823).toNat = 2 ^ 30 - 1 := by decide
 have key : (BitVec.ofInt 64 n &&& BitVec.ofInt 64 1073741823).toNat = (n % ((2 ^ 64 : Nat) : Int)).toNat % 2 ^ 30 := by
  rw [BitVec.toNat_and, BitVec.toNat_ofInt, h255, Nat.and_two_pow_sub_one_eq_mod]
 show IntKind.i64.wrap ((BitVec.ofInt 64 n &&& BitVec.ofInt 64 1073741823).toNat : Nat) = n % 1073741824
 rw [key, IntKind.wrap_i64]
 omega
def Cur (wb w : World) (p : Nat) (A : Option Addr) (l : List UInt8) (c : Nat) : Prop :=
 wb.heap.size ≤ p ∧ Ext wb w ∧ ∃ (i : Nat) (h : Int), i ≤ l.length ∧ w.heap[p]? = some (.cells #[.slice A l.length c, .int .i64 i, .int .i64 h] 74 (0, 0))
theorem l1New_c (A : Option Addr) (l : List UInt8) (c : Nat) (w : World) (hA : Bs w A l c) :
 Calls Tryz.prog 18 #[.slice A l.length c] w fun e w' => ∃ p, e = .returned (.pointer (some ⟨p, 0, none⟩)) ∧ Cur w w' p A l c := by
 have hl := hA.len
 have H30 : ∀ n : Int, bits .and .i64 n 1073741823 = n % 1073741824 := i64_and30
 go_enter Tryz.func18, Tryz.ntmps18
 go_wp2
 go_loopw [3, 4] (fun h i wr => ∃ (k : Nat) (x : Int), k ≤ l.length ∧ i = .int .i64 k ∧ h = .int .i64 x ∧ 0 ≤ x ∧ x ≤ 140737488551232 ∧ Ext w wr) (fun _ i _ => l.length - (intOf i).toNat)
 case atStart => exact ⟨0, _, by omega, rfl, rfl, by omega, by omega, Ext.refl _⟩
 case round =>
  obtain ⟨k, x, hk, rfl, rfl, hx1, hx2, he⟩ := hrel
  by_cases hlt : k < l.length ∧ k < 4000
  ·obtain ⟨hlt, h4⟩ := hlt
   obtain ⟨b, off, rfl, hb, hc⟩ := hA.at k hlt
   have h8 := l[k].toNat_lt
   clear hA
   go_wp2
   go_roundw
   case rel => exact ⟨k + 1, _, by omega, by go_num, rfl, Int.emod_nonneg _ (by omega), by have := Int.emod_lt_of_pos (x * 137 + (l[k].toNat : Int) + 11) (show (0 : Int) < 1073741824 by omega); omega, he⟩
   case measure => simp [intOf]; omega
  ·by_cases h1 : k < l.length
   all_goals
    go_wp2
    go_ret
    refine ⟨_, rfl, he.size, Ext_alloc _ he, 0, x, by omega, ?_⟩
    exact heap_alloc_new wr _
theorem l1Byte_c (wb w : World) (p : Nat) (A : Option Addr) (l : List UInt8) (c : Nat) (hA : Bs wb A l c) (hC : Cur wb w p A l c) :
 Calls Tryz.prog 54 #[.pointer (some ⟨p, 0, none⟩)] w fun e w' => ∃ x : Nat, x < 256 ∧ e = .returned (.int .i64 x) ∧ Cur wb w' p A l c ∧ w.grownBy w' (some p) := by
 have hl := hA.len
 obtain ⟨hp, he, i, h, hi, hh⟩ := hC
 have H255 : ∀ n : Int, bits .and .i64 n 255 = n % 256 := i64_and255
 have c0 := cell_of_row w p 0 _ _ (0, 0) hh
 have c1 := cell_of_row w p 1 _ _ (0, 0) hh
 have c2 := cell_of_row w p 2 _ _ (0, 0) hh
 have f2 := frozen_of_row w p 2 _ _ hh
 simp at c0 c1 c2
 have hu : ∀ u : Int, (w.setCell ⟨p, 2, none⟩ (.int .i64 u)).heap[p]? = some (.cells #[.slice A l.length c, .int .i64 i, .int .i64 u] 74 (0, 0)) := fun u => heap_setCell_same w p 2 _ _ (.int .i64 u) hh
 have HU := Lib.hid hu
 have HE : Hid (∀ u : Int, Ext wb (w.setCell ⟨p, 2, none⟩ (.int .i64 u))) := fun u => he.setCell hp _
 have HG : Hid (∀ u : Int, w.grownBy (w.setCell ⟨p, 2, none⟩ (.int .i64 u)) (some p)) := fun u => grown_set w ⟨p, 2, none⟩ _
 clear hu hh
 by_cases hlt : i < l.length
 ·obtain ⟨b, off, rfl, hb, hc⟩ := hA.at i hlt
  have h8 := l[i].toNat_lt
  have g1 : (i : Int) < (l.length : Int) := by omega
  have HC := Lib.hid hc
  clear hc hA
  go_enter Tryz.func54, Tryz.ntmps54
  go_wp2_with fail
  generalize wrap64 (wrap64 (h * 6364136223846793005) + 1442695040888963407) = U
  have hU := HU.out U; have hE := HE.out U; have hG := HG.out U
  generalize w.setCell ⟨p, 2, none⟩ (.int .i64 U) = W at *
  have K0 : ∀ w', Ext W w' → w'.cell? ⟨p, 0, none⟩ = some (.slice (some ⟨b, off, none⟩) l.length c) := fun w' e => by simpa using cell_of_row w' p 0 _ _ (0, 0) (heap_ext' hU e)
  have K1 : ∀ w', Ext W w' → w'.cell? ⟨p, 1, none⟩ = some (.int .i64 i) := fun w' e => by simpa using cell_of_row w' p 1 _ _ (0, 0) (heap_ext' hU e)
  have K2 : ∀ w', Ext W w' → w'.cell? ⟨p, 2, none⟩ = some (.int .i64 U) := fun w' e => by simpa using cell_of_row w' p 2 _ _ (0, 0) (heap_ext' hU e)
  have F1 : ∀ w', Ext W w' → w'.frozen? ⟨p, 1, none⟩ = false := fun w' e => frozen_of_row w' p 1 _ _ (heap_ext' hU e)
  have KC : ∀ w', Ext W w' → w'.cell? ⟨b, off + i, none⟩ = some (.int .u8 (l[i].toNat : Int)) := fun w' e => by
   have := HC.out w' (hE.trans e); simpa [vu8] using this
  have HUU := Lib.hid hU; have HEE := Lib.hid hE; have HGG := Lib.hid hG
  clear hU hE hG c0 c1 c2 f2
  refine wp_region_quiet_below (by kernel_rfl) (by kernel_rfl) ?_
  repeat (go_big_quiet_step (fail))
  refine wpQuiet_nil ?_
  rintro w1 ⟨⟨nq, osq⟩, hq⟩
  have ew1 := ext_of_q hq
  clear hq nq osq
  go_wp2_with fail
  refine wp_region_quiet_below (by kernel_rfl) (by kernel_rfl) ?_
  repeat (go_big_quiet_step (fail))
  refine wpQuiet_nil ?_
  rintro w2 ⟨⟨nq, osq⟩, hq⟩
  have ew2 := ext_of_q hq
  clear hq nq osq
  have e12 := ew1.trans ew2
  go_wp2_with fail
  refine wp_region_quiet_below (by kernel_rfl) (by kernel_rfl) ?_
  repeat (go_big_quiet_step (fail))
  refine wpQuiet_nil ?_
  rintro w3 ⟨⟨nq, osq⟩, hq⟩
  have ew3 := ext_of_q hq
  clear hq nq osq
  have e13 := e12.trans ew3
  go_wp2_with fail
  have hbd : ∀ n : Int, ∃ x : Nat, x < 256 ∧ n % 256 = (x : Int) := fun n => ⟨(n % 256).toNat, by have := Int.emod_nonneg n (show (256 : Int) ≠ 0 by omega); have := Int.emod_lt_of_pos n (show (0 : Int) < 256 by omega); omega, by have := Int.emod_nonneg n (show (256 : Int) ≠ 0 by omega); omega⟩
  obtain ⟨x, hx1, hx2⟩ := hbd (bits BinOp.xor IntKind.i64 (U / 8589934592) (U / 140737488355328) + ↑l[i].toNat)
  go_ret
  refine ⟨x, hx1, ret_i64 hx2, ⟨hp, (HEE.out.trans e13).setCell hp _, i + 1, U, by omega, ?_⟩, (HGG.out.trans (grown_ext e13 _)).trans (grown_set _ _ _)⟩
  have := heap_setCell_same w3 p 1 _ _ (.int .i64 ((i : Int) + 1)) (heap_ext' HUU.out e13)
  rw [this]
  rfl
 ·have g1 : ¬ (i : Int) < (l.length : Int) := by omega
  go_enter Tryz.func54, Tryz.ntmps54
  go_wp2_with fail
  generalize wrap64 (wrap64 (h * 6364136223846793005) + 1442695040888963407) = U
  have hU := HU.out U; have hE := HE.out U; have hG := HG.out U
  generalize w.setCell ⟨p, 2, none⟩ (.int .i64 U) = W at *
  have K0 : ∀ w', Ext W w' → w'.cell? ⟨p, 0, none⟩ = some (.slice A l.length c) := fun w' e => by simpa using cell_of_row w' p 0 _ _ (0, 0) (heap_ext' hU e)
  have K1 : ∀ w', Ext W w' → w'.cell? ⟨p, 1, none⟩ = some (.int .i64 i) := fun w' e => by simpa using cell_of_row w' p 1 _ _ (0, 0) (heap_ext' hU e)
  have K2 : ∀ w', Ext W w' → w'.cell? ⟨p, 2, none⟩ = some (.int .i64 U) := fun w' e => by simpa using cell_of_row w' p 2 _ _ (0, 0) (heap_ext' hU e)
  have HUU := Lib.hid hU; have HEE := Lib.hid hE; have HGG := Lib.hid hG
  clear hU hE hG c0 c1 c2 f2
  refine wp_region_quiet_below (by kernel_rfl) (by kernel_rfl) ?_
  repeat (go_big_quiet_step (fail))
  refine wpQuiet_nil ?_
  rintro w1 ⟨⟨nq, osq⟩, hq⟩
  have ew1 := ext_of_q hq
  clear hq nq osq
  go_wp2_with fail
  refine wp_region_quiet_below (by kernel_rfl) (by kernel_rfl) ?_
  repeat (go_big_quiet_step (fail))
  refine wpQuiet_nil ?_
  rintro w2 ⟨⟨nq, osq⟩, hq⟩
  have ew2 := ext_of_q hq
  clear hq nq osq
  have e12 := ew1.trans ew2
  go_wp2_with fail
  have hbd : ∀ n : Int, ∃ x : Nat, x < 256 ∧ n % 256 = (x : Int) := fun n => ⟨(n % 256).toNat, by have := Int.emod_nonneg n (show (256 : Int) ≠ 0 by omega); have := Int.emod_lt_of_pos n (show (0 : Int) < 256 by omega); omega, by have := Int.emod_nonneg n (show (256 : Int) ≠ 0 by omega); omega⟩
  obtain ⟨x, hx1, hx2⟩ := hbd (bits BinOp.xor IntKind.i64 (U / 8589934592) (U / 140737488355328))
  go_ret
  exact ⟨x, hx1, ret_i64 hx2, ⟨hp, HEE.out.trans e12, i, U, by omega, heap_ext' HUU.out e12⟩, HGG.out.trans (grown_ext e12 _)⟩
def below (n : Int) (x : Nat) : Prop := if n ≤ 0 then x = 0 else (x : Int) < n
theorem l1Below_c (n : Int) (wb w : World) (p : Nat) (A : Option Addr) (l : List UInt8) (c : Nat) (hA : Bs wb A l c) (hC : Cur wb w p A l c) (hn : n ≤ 16777216) :
 Calls Tryz.prog 30 #[.pointer (some ⟨p, 0, none⟩), .int .i64 n] w fun e w' => ∃ x : Nat, below n x ∧ e = .returned (.int .i64 x) ∧ Cur wb w' p A l c ∧ w.grownBy w' (some p) := by
 have CB := Lib.hid (fun w h => l1Byte_c wb w p A l c hA h)
 by_cases h0 : n ≤ 0
 ·go_enter Tryz.func30, Tryz.ntmps30
  go_wp2
  go_ret
  exact ⟨0, by unfold below; rw [if_pos h0], rfl, hC, World.grownBy.refl _ _⟩
 ·by_cases h1 : n ≤ 256
  ·go_enter Tryz.func30, Tryz.ntmps30
   go_wp2_with fail
   refine (CB.out _ hC).mono ?_; rintro _ w1 ⟨x, hx, rfl, hC1, hg1⟩
   go_wp2
   go_ret
   refine ⟨((x : Int) % n).toNat, ?_, ?_, hC1, hg1⟩
   ·unfold below; rw [if_neg (by omega)]; have := Int.emod_lt_of_pos (x : Int) (show 0 < n by omega); have := Int.emod_nonneg (x : Int) (show n ≠ 0 by omega); omega
   ·have := Int.emod_nonneg (x : Int) (show n ≠ 0 by omega)
    exact ret_i64 (Int.toNat_of_nonneg this).symm
  ·go_enter Tryz.func30, Tryz.ntmps30
   go_wp2_with fail
   refine (CB.out _ hC).mono ?_; rintro _ w1 ⟨x, hx, rfl, hC1, hg1⟩
   go_wp2_with fail
   refine (CB.out _ hC1).mono ?_; rintro _ w2 ⟨y, hy, rfl, hC2, hg2⟩
   go_wp2_with fail
   refine (CB.out _ hC2).mono ?_; rintro _ w3 ⟨z, hz, rfl, hC3, hg3⟩
   go_wp2
   go_ret
   have hq := Int.emod_nonneg ((x : Int) * 65536 + (y : Int) * 256 + (z : Int)) (show n ≠ 0 by omega)
   refine ⟨(((x : Int) * 65536 + (y : Int) * 256 + (z : Int)) % n).toNat, ?_, ?_, hC3, (hg1.trans hg2).trans hg3⟩
   ·unfold below; rw [if_neg (by omega)]; have := Int.emod_lt_of_pos ((x : Int) * 65536 + (y : Int) * 256 + (z : Int)) (show 0 < n by omega); omega
   ·exact ret_i64 (Int.toNat_of_nonneg hq).symm
theorem l1Once_c (n : Int) (wb w : World) (p : Nat) (A : Option Addr) (l : List UInt8) (c : Nat) (hA : Bs wb A l c) (hC : Cur wb w p A l c) (hn : n ≤ 16777216) :
 Calls Tryz.prog 20 #[.pointer (some ⟨p, 0, none⟩), .int .i64 n] w fun e w' => ∃ x : Bool, e = .returned (.bool x) ∧ Cur wb w' p A l c ∧ w.grownBy w' (some p) := by
 go_enter Tryz.func20, Tryz.ntmps20
 go_wp2_with fail
 refine (l1Below_c n wb w p A l c hA hC hn).mono ?_; rintro _ w1 ⟨x, hx, rfl, hC1, hg1⟩
 go_wp2
 go_ret
 exact ⟨_, rfl, hC1, hg1⟩
theorem l1Int_c (B : Option Addr) (ns : List Int) (cb : Nat) (hns : 0 < ns.length) (hns2 : ns.length ≤ 256) (wb w : World) (p : Nat) (A : Option Addr) (l : List UInt8) (c : Nat) (hA : Bs wb A l c) (hC : Cur wb w p A l c)
 (hk : ∀ w', w.grownBy w' (some p) → ∀ i (h : i < ns.length), ∃ b off, B = some ⟨b, off, none⟩ ∧ w'.cell? ⟨b, off + i, none⟩ = some (.int .i64 ns[i])) :
 Calls Tryz.prog 45 #[.pointer (some ⟨p, 0, none⟩), .slice B ns.length cb] w fun e w' => ∃ x ∈ ns, e = .returned (.int .i64 x) ∧ Cur wb w' p A l c ∧ w.grownBy w' (some p) := by
 have CB := Lib.hid (fun w h => l1Below_c ns.length wb w p A l c hA h (by omega))
 go_enter Tryz.func45, Tryz.ntmps45
 go_wp2_with fail
 refine (CB.out _ hC).mono ?_; rintro _ w1 ⟨x, hx, rfl, hC1, hg1⟩
 have hx' : x < ns.length := by unfold below at hx; rw [if_neg (by omega)] at hx; omega
 obtain ⟨b, off, rfl, hc⟩ := hk w1 hg1 x hx'
 go_wp2
 go_ret
 exact ⟨_, List.getElem_mem hx', rfl, hC1, hg1⟩
theorem Cur.kept {wb w w' : World} {p : Nat} {A : Option Addr} {l : List UInt8} {c : Nat} (h : Cur wb w p A l c) {row : Option Nat} (hg : w.grownBy w' row) (hne : row ≠ some p) (e : Ext wb w') : Cur wb w' p A l c := by
 obtain ⟨h1, _, i, x, h3, h4⟩ := h
 exact ⟨h1, e, i, x, h3, (hg.block p (Array.getElem?_eq_some_iff.1 h4).1 (fun he => hne he.symm)).trans h4⟩
theorem Cur.ext {wb w w' : World} {p : Nat} {A : Option Addr} {l : List UInt8} {c : Nat} (h : Cur wb w p A l c) (e : Ext w w') : Cur wb w' p A l c :=
 ⟨h.1, h.2.1.trans e, let ⟨i, x, h3, h4⟩ := h.2.2; ⟨i, x, h3, heap_ext' h4 e⟩⟩
theorem Cur.lt {wb w : World} {p : Nat} {A : Option Addr} {l : List UInt8} {c : Nat} (h : Cur wb w p A l c) : p < w.heap.size := let ⟨_, _, _, h4⟩ := h.2.2; (Array.getElem?_eq_some_iff.1 h4).1
theorem OwnL.moved {α : Type} {f : α → Value} {e : TypeId} {w0 w w' : World} {v : Value} {l : List α} (h : OwnL f e w0 w v l) {p : Nat} (hg : w.grownBy w' (some p)) (hne : v.ownBlock ≠ some p) : OwnL f e w0 w' v l := by
 refine World.ownsRow.kept h hg ?_
 cases hb : v.ownBlock with
 | none => exact .inl rfl
 | some g => right; rw [hb] at hne; exact fun he => hne he
section
variable {P : Program} {ops : Array Oper} {rest : List Oper} {o : Oper} {a : Act} {Q : Exit → Act → World → Prop}
theorem wpList_appC (hgd : o.guard = none) (s x : Operand) (t : TypeId) (ho : o.op = .call { callee := .builtin .append, args := #[s, x], argTypes := #[t, t] })
 {e : TypeId} {bytes : Nat} {z : Value} (hE : Elem P t e 1 bytes z) (hby : 1 ≤ bytes) (w0 w : World) {α : Type} (f : α → Value) (hf : ∀ x, (f x).oneCell' = true) (v : Value) (hs : a.eval s = v) (m c : Nat) (hx : a.eval x = .slice (some ⟨w.heap.size, 0, none⟩) m c)
 (l ys : List α) (cs : Array Value) (hcs : cs = (ys.map f).toArray) (hown : OwnL f e w0 w v l) (he : Ext w0 w) (hm : m = ys.length)
 (hb : (l.length + ys.length) * bytes ≤ 140737488355328) (p : Nat) (hp : p < w.heap.size) (hne : v.ownBlock ≠ some p)
 (h : ∀ v' w', OwnL f e w0 w' v' (l ++ ys) → Ext w0 w' → v'.ownBlock ≠ some p → w.grownBy w' v.ownBlock → (∀ B, B ≤ w.heap.size → (∀ g, v.ownBlock = some g → B ≤ g) → ∀ g, v'.ownBlock = some g → B ≤ g) → (v'.ownBlock = v.ownBlock ∨ v'.ownBlock = some (w.heap.size + 1)) → wpList P ops Q rest (a.put o.dst v') w') :
 wpList P ops Q (o :: rest) a (w.alloc (.cells cs e)) := by
 subst hcs
 refine wpList_appL hgd s x t ho hE hby w0 _ f hf v hs (some ⟨w.heap.size, 0, none⟩) m c hx l ys (hown.ext (Ext_alloc _ (Ext.refl w))) (Ext_alloc _ he) hm (fun _ => ⟨_, rfl, fun j u hu => ?_⟩) hb (fun v' w' h1 h2 h3 h4 => h v' w' h1 h2 ?_ ((World.grownBy_alloc w _ _).trans h4) ?_ (by simpa using h3))
 ·rw [World.cell?_alloc_at']; exact hu
 ·rcases h3 with h3 | h3
  ·rw [h3]; exact hne
  ·rw [h3]; intro hh; injection hh with hh; simp at hh; omega
 ·intro B hB hv g hg
  rcases h3 with h3 | h3
  ·exact hv g (h3 ▸ hg)
  ·rw [h3] at hg; injection hg with hg; simp at hg; omega
end
theorem nb {B p : Nat} {v : Value} (hp : p < B) (h : ∀ g, v.ownBlock = some g → B ≤ g) : v.ownBlock ≠ some p := fun hh => by have := h p hh; omega
theorem grown_own {w wr w4 : World} {p : Nat} {v : Value} (h : w.grownBy wr (some p)) (hv : ∀ g, v.ownBlock = some g → w.heap.size ≤ g) (hg : wr.grownBy w4 v.ownBlock) : w.grownBy w4 (some p) :=
 ⟨hg.os.trans h.os, hg.tape.trans h.tape, hg.output.trans h.output, Nat.le_trans h.size hg.size, fun k hk hne => (hg.block k (Nat.lt_of_lt_of_le hk h.size) (fun he => by have := hv k he.symm; omega)).trans (h.block k hk hne)⟩
theorem big_c (A : Option Addr) (l : List UInt8) (c : Nat) (w : World) (h : Rd0 vu8 w A l c) :
 Gives Tryz.prog 4 #[.slice A l.length c] w (.bool (decide ((1048576 : Int) < (l.length : Int)))) := by
 have hl := h.len
 go_enter Tryz.func4, Tryz.ntmps4
 go_wp2
 go_ret
 exact ⟨rfl, Ext.refl _⟩
theorem OwnL.lit {α : Type} {f : α → Value} {e : TypeId} {w0 w : World} (he : Ext w0 w) (ys : List α) (cs : Array Value) (hcs : cs = (ys.map f).toArray) (m : Nat) (hm : m = ys.length) (hl : m ≤ 1000) :
 OwnL f e w0 (w.alloc (.cells cs e)) (.slice (some ⟨w.heap.size, 0, none⟩) m m) ys := by
 subst hcs; subst hm
 exact ⟨by simp, .inr ⟨w.heap.size, ys.length, _, rfl, he.size, heap_alloc_new w _, by omega, by simp only [maxLen]; omega, by simp, by simp [List.take_of_length_le]⟩⟩
def DecOut (r : Option DRec) (j : Int) (w : World) (e : Ending) (w' : World) : Prop :=
 ∃ v, e = .returned (.tuple #[vrec (r.getD .zero).k (r.getD .zero).nm (r.getD .zero).ver v, .int .i64 j, .bool r.isSome]) ∧ OwnL vu8 5 w w' v (r.getD .zero).l ∧ Ext w w'
theorem DecOut.no {j : Int} {w w' : World} (he : Ext w w') : DecOut none j w (.returned (.tuple #[.agg #[.int .i64 0, .string ⟨#[]⟩, .int .i64 0, .slice none 0 0], .int .i64 j, .bool false])) w' := ⟨_, rfl, OwnL.nil _ _, he⟩
section
variable {P : Program} {ops : Array Oper} {rest : List Oper} {o : Oper} {a : Act} {Q : Exit → Act → World → Prop}
end
def beN (l : List UInt8) : Nat := l.foldl (fun n x => 256 * n + x.toNat) 0
end Go.Proofs.YtpmcofmdjckijaaGreatDoor
namespace Go.Proofs.YtpmcofmdjckijaaGreatDoor
def sizeAt (b : List UInt8) (a : Nat) : Nat := nmAt b a + 6 + szAt b a
def readF : Nat → List UInt8 → Nat → List DRec × Nat
 | 0, _, a => ([], a)
 | f + 1, b, a => match decN b a with
  | none => ([], a)
  | some r => (r :: (readF f b (a + sizeAt b a)).1, (readF f b (a + sizeAt b a)).2)
theorem decN_out {b : List UInt8} {a : Nat} (h : b.length < a + 6) : decN b a = none := by
 cases hd : decN b a with
 | none => rfl
 | some r => have := (decN_some hd).1; omega
theorem decN_fits {b : List UInt8} {a : Nat} {r : DRec} (h : decN b a = some r) : a + sizeAt b a ≤ b.length ∧ 6 ≤ sizeAt b a := by
 have := (decN_some h).1; unfold sizeAt; omega
theorem readF_fuel (b : List UInt8) : ∀ f g a, b.length - a ≤ f → b.length - a ≤ g → readF f b a = readF g b a := by
 intro f
 induction f with
 | zero =>
  intro g a h _
  cases g with
  | zero => rfl
  | succ g => rw [readF, readF, decN_out (by omega)]
 | succ f ih =>
  intro g a h1 h2
  cases g with
  | zero => rw [readF, readF, decN_out (by omega)]
  | succ g =>
   rw [readF, readF]
   cases hd : decN b a with
   | none => rfl
   | some r =>
    have := decN_fits hd
    simp only
    rw [ih g (a + sizeAt b a) (by omega) (by omega)]
def recs (b : List UInt8) (a : Nat) : List DRec := (readF b.length b a).1
def stop (b : List UInt8) (a : Nat) : Nat := (readF b.length b a).2
theorem read_none {b : List UInt8} {a : Nat} (h : decN b a = none) : recs b a = [] ∧ stop b a = a := by
 unfold recs stop
 cases b.length with
 | zero => exact ⟨rfl, rfl⟩
 | succ n => rw [readF, h]; exact ⟨rfl, rfl⟩
theorem read_some {b : List UInt8} {a : Nat} {r : DRec} (h : decN b a = some r) : recs b a = r :: recs b (a + sizeAt b a) ∧ stop b a = stop b (a + sizeAt b a) := by
 have hf := decN_fits h
 unfold recs stop
 rw [readF_fuel b b.length (b.length + 1) a (by omega) (by omega), readF, h]
 exact ⟨rfl, rfl⟩
theorem take_drop_take {α : Type} (b : List α) {s k m : Nat} (h : k + m ≤ s) : ((b.take s).drop k).take m = (b.drop k).take m := by
 rw [List.drop_take, List.take_take, Nat.min_eq_left (by omega)]
theorem getD_take {b : List UInt8} {s i : Nat} (h : i < s) : (b.take s).getD i 0 = b.getD i 0 := by
 simp [List.getD, List.getElem?_take, h]
theorem nmAt_take {b : List UInt8} {s a : Nat} (h : a + 1 < s) : nmAt (b.take s) a = nmAt b a := by unfold nmAt; rw [getD_take h]
theorem szAt_take {b : List UInt8} {s a : Nat} (h : a + nmAt b a + 4 < s) : szAt (b.take s) a = szAt b a := by
 unfold szAt; rw [nmAt_take (by omega), getD_take (by omega), getD_take (by omega)]
theorem decN_take_eq {b : List UInt8} {s a : Nat} (hs : s ≤ b.length) (h : a + sizeAt b a ≤ s) : decN (b.take s) a = decN b a := by
 unfold sizeAt at h
 have hl : (b.take s).length = s := by rw [List.length_take]; omega
 have e1 : nmAt (b.take s) a = nmAt b a := nmAt_take (by omega)
 have e2 : szAt (b.take s) a = szAt b a := szAt_take (by omega)
 have e3 : ∀ d, recAt (b.take s) a d = recAt b a d := by
  intro d; unfold recAt
  rw [e1, getD_take (by omega), getD_take (by omega), take_drop_take b (by omega)]
 unfold decN
 rw [e1, e2, hl, if_neg (by omega), if_neg (by omega), take_drop_take b (by omega), take_drop_take b (by omega)]
 simp only [e3]
theorem decN_take_some {b : List UInt8} {s a : Nat} {r : DRec} (hs : s ≤ b.length) (h : decN (b.take s) a = some r) : decN b a = some r ∧ a + sizeAt b a ≤ s := by
 have hf := (decN_some h).1
 have hl : (b.take s).length = s := by rw [List.length_take]; omega
 rw [hl] at hf
 have e1 : nmAt (b.take s) a = nmAt b a := nmAt_take (by omega)
 rw [e1] at hf
 have e2 : szAt (b.take s) a = szAt b a := szAt_take (by omega)
 rw [e2] at hf
 have hz : a + sizeAt b a ≤ s := by unfold sizeAt; omega
 exact ⟨(decN_take_eq hs hz).symm.trans h, hz⟩
theorem decN_take_none {b : List UInt8} {s a : Nat} (hs : s ≤ b.length) (h : decN b a = none ∨ s < a + sizeAt b a) : decN (b.take s) a = none := by
 cases hd : decN (b.take s) a with
 | none => rfl
 | some r =>
  obtain ⟨h1, h2⟩ := decN_take_some hs hd
  rcases h with h | h
  ·rw [h] at h1; cases h1
  ·omega
def validLog (b : List UInt8) (s : Int) : Bool := decide (0 ≤ s) && decide (s ≤ b.length) && (stop b 0 == b.length) && (stop (b.take s.toNat) 0 == s.toNat)
def endsAt (b : List UInt8) (s : Nat) : Bool := stop (b.take s) 0 == s
def Scan (b : List UInt8) (s a : Nat) (e : Bool) : Prop :=
 (e = true ∧ endsAt b s = true) ∨ (e = false ∧ a < s ∧ stop (b.take s) a = stop (b.take s) 0) ∨ (e = false ∧ s < a ∧ endsAt b s = false)
theorem Scan.start (b : List UInt8) (s : Nat) : Scan b s 0 (s == 0) := by
 by_cases h : s = 0
 ·subst h
  refine .inl ⟨rfl, ?_⟩
  unfold endsAt
  rw [List.take_zero, (read_none (decN_out (by simp))).2]; rfl
 ·exact .inr (.inl ⟨by simpa using h, by omega, rfl⟩)
theorem Scan.step {b : List UInt8} {s a : Nat} {e : Bool} {r : DRec} (hs : s ≤ b.length) (hd : decN b a = some r) (h : Scan b s a e) : Scan b s (a + sizeAt b a) (e || (a + sizeAt b a == s)) := by
 have hf := decN_fits hd
 rcases h with ⟨rfl, h⟩ | ⟨rfl, h1, h2⟩ | ⟨rfl, h1, h2⟩
 ·exact .inl ⟨rfl, h⟩
 ·by_cases hle : a + sizeAt b a ≤ s
  ·have hd' := (decN_take_eq hs hle).trans hd
   have hz : sizeAt (b.take s) a = sizeAt b a := by
    unfold sizeAt at hle ⊢
    rw [nmAt_take (by omega), szAt_take (by omega)]
   have h3 := (read_some hd').2
   rw [hz] at h3
   by_cases he : a + sizeAt b a = s
   ·rw [he]
    refine .inl ⟨by simp, ?_⟩
    unfold endsAt
    rw [← h2, h3, he, (read_none (decN_out (by rw [List.length_take]; omega))).2]
    simp
   ·exact .inr (.inl ⟨by simpa using he, by omega, by rw [← h3]; exact h2⟩)
  ·refine .inr (.inr ⟨by simp; omega, by omega, ?_⟩)
   unfold endsAt
   rw [← h2, (read_none (decN_take_none hs (.inr (by omega)))).2]
   simp; omega
 ·exact .inr (.inr ⟨by simp; omega, by omega, h2⟩)
theorem Scan.done {b : List UInt8} {s : Nat} {e : Bool} (hs : s ≤ b.length) (h : Scan b s b.length e) : e = endsAt b s := by
 rcases h with ⟨rfl, h⟩ | ⟨rfl, h1, _⟩ | ⟨rfl, _, h⟩
 ·exact h.symm
 ·omega
 ·exact h.symm
end Go.Proofs.YtpmcofmdjckijaaGreatDoor
namespace Go.Proofs.YtpmcofmdjckijaaGreatDoor
open Go.RowKit Go.Sort
theorem OwnL.ne {α : Type} {f : α → Value} {e : TypeId} {w0 w : World} {v : Value} {l : List α} (h : OwnL f e w0 w v l) {g : Nat} (hg : w.heap.size ≤ g) : some g ≠ v.ownBlock := by
 intro he; have := (World.ownsRow.lt h g he.symm).2; omega
def rcells (p : DRec × Value) : List Value := [.int .i64 p.1.k, .string p.1.nm, .int .i64 p.1.ver, p.2]
def Apart (vs : List Value) : Prop := vs.Pairwise fun a b => ∀ g, a.ownBlock = some g → b.ownBlock ≠ some g
section
variable {P : Program} {ops : Array Oper} {rest : List Oper} {o : Oper} {a : Act} {Q : Exit → Act → World → Prop}
end
theorem Rd.take {α : Type} {f : α → Value} {w : World} {A : Option Addr} {l : List α} {c : Nat} (h : Rd f w A l c) (n : Nat) : Rd f w A (l.take n) c := by
 have hn : (l.take n).length ≤ l.length := by simp; omega
 refine ⟨⟨by have := h.cap; omega, by have := h.1.2.1; omega, fun hp => ?_⟩, by have := h.len; omega⟩
 obtain ⟨b, off, h1, h2, h3⟩ := h.base (by omega)
 refine ⟨b, off, h1, h2, fun w' e i hi => ?_⟩
 rw [h3 w' e i (by omega)]
 simp
theorem Rd.none {α : Type} {f : α → Value} {l : List α} (hl : l.length = 0) (w : World) (A : Option Addr) (c : Nat) : Rd f w A l c := ⟨⟨by omega, by omega, fun h => by omega⟩, by omega⟩
section
variable {P : Program}
end
theorem grown_setCell (w : World) (a : Addr) (u : Value) : w.grownBy (w.setCell a u) (some a.block) :=
 ⟨rfl, rfl, rfl, by simp, fun k _ hk => heap_setCell_other w a k u (fun e => hk (by rw [e]))⟩
theorem OwnL.set {α : Type} {f : α → Value} {e : TypeId} {w0 w : World} {v : Value} {l : List α} (h : OwnL f e w0 w v l) (p : Addr) (u : Value) (hne : v.ownBlock ≠ some p.block) : OwnL f e w0 (w.setCell p u) v l := by
 refine World.ownsRow.kept h (grown_setCell w p u) ?_
 cases hb : v.ownBlock with
 | none => exact .inl rfl
 | some g => right; rw [hb] at hne; exact fun he => hne he
theorem OwnL.take {α : Type} {f : α → Value} {e : TypeId} {w0 w : World} {A : Option Addr} {n c : Nat} {l : List α} (h : OwnL f e w0 w (.slice A l.length c) l) (hn : n ≤ l.length) : OwnL f e w0 w (.slice A n c) (l.take n) := by
 have hl : (l.take n).length = n := by simp; omega
 unfold OwnL
 rw [hl]
 refine ⟨by simpa using hl, ?_⟩
 rcases h.2 with ⟨hv, h0⟩ | ⟨g, cap, cur, hv, hb, hg, hnc, hcm, hcs, htake⟩
 ·injection hv with h1 _ h3
  subst h1; subst h3
  exact .inl ⟨by rw [show n = 0 by omega], by omega⟩
 ·injection hv with h1 _ h3
  subst h1; subst h3
  refine .inr ⟨g, c, cur, rfl, hb, hg, by omega, hcm, hcs, ?_⟩
  have : (cur.toList.take (l.length * 1)).take n = (l.map f).take n := by rw [htake]
  rw [List.take_take, Nat.min_eq_left (by omega)] at this
  rw [Nat.mul_one, this, List.map_take]
def storeAt (l : List UInt8) (s : Int) : Int := if validLog l s then l.length else s
def keptOf (l : List UInt8) (s k : Int) : Nat := (min (max k s) (l.length : Int)).toNat
def crashEnd (l : List UInt8) (s k : Int) : Nat := if validLog l s then stop (l.take (keptOf l s k)) 0 else l.length
def crashAt (l : List UInt8) (s k : Int) : Int := if validLog l s then stop (l.take (keptOf l s k)) 0 else s
end Go.Proofs.YtpmcofmdjckijaaGreatDoor
namespace Go.Proofs.YtpmcofmdjckijaaGreatDoor
end Go.Proofs.YtpmcofmdjckijaaGreatDoor
namespace Go.Proofs.YtpmcofmdjckijaaGreatDoor
open Go.RowKit Go.Sort
theorem grown_new {w w1 : World} {p : Nat} (h : w.grownBy w1 (some p)) {a : Addr} (hb : w.heap.size ≤ a.block) (u : Value) : w.grownBy (w1.setCell a u) (some p) :=
 ⟨h.os, h.tape, h.output, by simpa using h.size, fun k hk hne => (heap_setCell_other w1 a k u (by omega)).trans (h.block k hk hne)⟩
theorem Cur.set {wb w : World} {p : Nat} {A : Option Addr} {l : List UInt8} {c : Nat} (h : Cur wb w p A l c) {a : Addr} (hne : a.block ≠ p) (hb : wb.heap.size ≤ a.block) (u : Value) : Cur wb (w.setCell a u) p A l c :=
 h.kept (grown_set w a u) (by intro hh; injection hh with hh; exact hne hh) (h.2.1.setCell hb u)
theorem l1IntLit_c (ns : List Int) (hns : 0 < ns.length) (hns2 : ns.length ≤ 256) (n : Nat) (hn : n = ns.length) (cs : Array Value) (hcs : cs = (ns.map vint).toArray) (wb w : World) (p : Nat) (A : Option Addr) (l : List UInt8) (c : Nat) (hA : Bs wb A l c) (hC : Cur wb w p A l c) :
 Calls Tryz.prog 45 #[.pointer (some ⟨p, 0, none⟩), .slice (some ⟨w.heap.size, 0, none⟩) n n] (w.alloc (.cells cs 3)) fun e w' => ∃ x ∈ ns, e = .returned (.int .i64 x) ∧ Cur wb w' p A l c ∧ w.grownBy w' (some p) := by
 subst hn; subst hcs
 have hC' := hC.ext (Ext_alloc (.cells (ns.map vint).toArray 3) (Ext.refl w))
 have hlt := hC.lt
 refine (l1Int_c (some ⟨w.heap.size, 0, none⟩) ns ns.length hns hns2 wb _ p A l c hA hC' ?_).mono ?_
 ·intro w' hg i hi
  refine ⟨w.heap.size, 0, rfl, ?_⟩
  have h0 := boxed (Ext.refl (w.alloc (.cells (ns.map vint).toArray 3))) (0 + i)
  refine hg.cell (a := ⟨w.heap.size, 0 + i, none⟩) (h0.trans ?_) (by intro hh; injection hh with hh; simp at hh; omega)
  rw [Nat.zero_add]
  simp [vint, hi]
 ·rintro e w' ⟨x, hx, he, hC1, hg⟩
  exact ⟨x, hx, he, hC1, (World.grownBy_alloc w _ _).trans hg⟩
theorem l1Str_c (B : Option Addr) (ns : List ByteArray) (cb : Nat) (hns : 0 < ns.length) (hns2 : ns.length ≤ 256) (wb w : World) (p : Nat) (A : Option Addr) (l : List UInt8) (c : Nat) (hA : Bs wb A l c) (hC : Cur wb w p A l c)
 (hk : ∀ w', w.grownBy w' (some p) → ∀ i (h : i < ns.length), ∃ b off, B = some ⟨b, off, none⟩ ∧ w'.cell? ⟨b, off + i, none⟩ = some (.string ns[i])) :
 Calls Tryz.prog 41 #[.pointer (some ⟨p, 0, none⟩), .slice B ns.length cb] w fun e w' => ∃ x ∈ ns, e = .returned (.string x) ∧ Cur wb w' p A l c ∧ w.grownBy w' (some p) := by
 have CB := Lib.hid (fun w h => l1Below_c ns.length wb w p A l c hA h (by omega))
 go_enter Tryz.func41, Tryz.ntmps41
 go_wp2_with fail
 refine (CB.out _ hC).mono ?_; rintro _ w1 ⟨x, hx, rfl, hC1, hg1⟩
 have hx' : x < ns.length := by unfold below at hx; rw [if_neg (by omega)] at hx; omega
 obtain ⟨b, off, rfl, hc⟩ := hk w1 hg1 x hx'
 go_wp2
 go_ret
 exact ⟨_, List.getElem_mem hx', rfl, hC1, hg1⟩
theorem l1StrLit_c (ns : List ByteArray) (hns : 0 < ns.length) (hns2 : ns.length ≤ 256) (n : Nat) (hn : n = ns.length) (cs : Array Value) (hcs : cs = (ns.map vstr).toArray) (wb w : World) (p : Nat) (A : Option Addr) (l : List UInt8) (c : Nat) (hA : Bs wb A l c) (hC : Cur wb w p A l c) :
 Calls Tryz.prog 41 #[.pointer (some ⟨p, 0, none⟩), .slice (some ⟨w.heap.size, 0, none⟩) n n] (w.alloc (.cells cs 9)) fun e w' => ∃ x ∈ ns, e = .returned (.string x) ∧ Cur wb w' p A l c ∧ w.grownBy w' (some p) := by
 subst hn; subst hcs
 have hC' := hC.ext (Ext_alloc (.cells (ns.map vstr).toArray 9) (Ext.refl w))
 have hlt := hC.lt
 refine (l1Str_c (some ⟨w.heap.size, 0, none⟩) ns ns.length hns hns2 wb _ p A l c hA hC' ?_).mono ?_
 ·intro w' hg i hi
  refine ⟨w.heap.size, 0, rfl, ?_⟩
  have h0 := boxed (Ext.refl (w.alloc (.cells (ns.map vstr).toArray 9))) (0 + i)
  refine hg.cell (a := ⟨w.heap.size, 0 + i, none⟩) (h0.trans ?_) (by intro hh; injection hh with hh; simp at hh; omega)
  rw [Nat.zero_add]
  simp [vstr, hi]
 ·rintro e w' ⟨x, hx, he, hC1, hg⟩
  exact ⟨x, hx, he, hC1, (World.grownBy_alloc w _ _).trans hg⟩
theorem Box.four {w : World} {g : Nat} {a b c d : Value} {T : TypeId} (h : Box w g #[a, b, c, d] T) :
 (∀ w', Ext w w' → w'.cell? ⟨g, 0, none⟩ = some a) ∧ (∀ w', Ext w w' → w'.cell? ⟨g, 1, none⟩ = some b) ∧ (∀ w', Ext w w' → w'.cell? ⟨g, 2, none⟩ = some c) ∧ (∀ w', Ext w w' → w'.cell? ⟨g, 3, none⟩ = some d) ∧
 (∀ w', Ext w w' → w'.frozen? ⟨g, 0, none⟩ = false) ∧ (∀ w', Ext w w' → w'.frozen? ⟨g, 1, none⟩ = false) ∧ (∀ w', Ext w w' → w'.frozen? ⟨g, 2, none⟩ = false) ∧ (∀ w', Ext w w' → w'.frozen? ⟨g, 3, none⟩ = false) :=
 ⟨fun _ e => (h.ext e).cell 0, fun _ e => (h.ext e).cell 1, fun _ e => (h.ext e).cell 2, fun _ e => (h.ext e).cell 3, fun _ e => (h.ext e).free 0, fun _ e => (h.ext e).free 1, fun _ e => (h.ext e).free 2, fun _ e => (h.ext e).free 3⟩
theorem some_ne {a b : Nat} (h : a ≠ b) : (some a : Option Nat) ≠ some b := fun e => h (Option.some.inj e)
theorem l1Bytes_c (m : Nat) (hm : m ≤ 64) (wb w : World) (p : Nat) (A : Option Addr) (l : List UInt8) (c : Nat) (hA : Bs wb A l c) (hC : Cur wb w p A l c) :
 Calls Tryz.prog 43 #[.pointer (some ⟨p, 0, none⟩), .int .i64 m] w fun e w' => ∃ v q, q.length = m ∧ e = .returned v ∧ OwnL vu8 5 wb w' v q ∧ (∀ g, v.ownBlock = some g → w.heap.size ≤ g) ∧ Cur wb w' p A l c ∧ w.grownBy w' (some p) := by
 have CB := Lib.hid (fun w h => l1Byte_c wb w p A l c hA h)
 have hplt := hC.lt
 have hw1 := (World.grownBy_alloc w (.cells #[] 5) (some p))
 have ho1 := Lib.hid (OwnL.empty (f := vu8) (e := 5) hC.2.1)
 have hC1 := hC.ext (Ext_alloc (.cells #[] 5) (Ext.refl w))
 have hn1 : Hid (∀ g, (Value.slice (some ⟨w.heap.size, 0, none⟩) 0 0).ownBlock = some g → w.heap.size ≤ g) := by
  intro g hh; injection hh with hh; simp at hh; omega
 go_enter Tryz.func43, Tryz.ntmps43
 go_wp2
 go_loopw [5, 6] (fun t i wr => ∃ (k : Nat) (q : List UInt8), k ≤ m ∧ i = .int .i64 k ∧ q.length = k ∧ Hid (∀ g, t.ownBlock = some g → w.heap.size ≤ g) ∧ w.grownBy wr (some p) ∧ Hid (OwnL vu8 5 wb wr t q) ∧ Cur wb wr p A l c) (fun _ i _ => m - (intOf i).toNat)
 case atStart => exact ⟨0, [], by omega, rfl, rfl, hn1, hw1, ho1, hC1⟩
 case round =>
  clear hn1 ho1 hC1 hw1
  obtain ⟨k, q, hk, rfl, hq, hn, hgr, ho, hCr⟩ := hrel
  by_cases hlt : k < m
  ·go_wp2_with fail
   refine (CB.out _ hCr).mono ?_; rintro _ w2 ⟨y, hy, rfl, hC2, hg2⟩
   have ho2 := Lib.hid (OwnL.moved ho.out hg2 (nb hplt hn.out))
   have hgb := hgr.trans hg2
   have HB : Hid ((q.length + [UInt8.ofNat y].length) * 1 ≤ 140737488355328) := by show _ ≤ _; simp; omega
   have HCS : Hid (#[Value.int .u8 (y : Int)] = ([UInt8.ofNat y].map vu8).toArray) := by
    show _ = _
    have : (UInt8.ofNat y).toNat = y := by rw [UInt8.toNat_ofNat']; omega
    simp [vu8, this]
   clear hCr hg2 ho hgr
   go_wp2_with (first
    | (at_builtin; refine wpList_appC rfl (.tmp 13) (.tmp 17) _ rfl E_u8 (by omega) wb _ vu8 (fun _ => rfl) _ rfl _ _ rfl q [UInt8.ofNat y] _ HCS.out ho2.out hC2.2.1 rfl HB.out p hC2.lt (nb hplt hn.out) ?_; intro v4 w4 ho4 he4 hn4 hg4 hb4 _))
   have hC4 := Cur.kept hC2 hg4 (nb hplt hn.out) he4
   have hg' := grown_own hgb hn.out hg4
   have hn' := Lib.hid (hb4 _ hgb.size hn.out)
   have HO4 := Lib.hid ho4
   clear ho2 hC2 hg4 hb4 hn4 ho4
   go_wp2
   go_roundw
   case rel => exact ⟨k + 1, q ++ [UInt8.ofNat y], by omega, by go_num, by simp; omega, hn', hg', HO4, hC4⟩
   case measure => simp [intOf]; omega
  ·obtain rfl : k = m := by omega
   go_wp2
   go_ret
   exact ⟨_, q, hq, rfl, ho.out, hn.out, hCr, hgr⟩
end Go.Proofs.YtpmcofmdjckijaaGreatDoor
