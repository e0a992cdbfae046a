/- Words of our own for memory: a world that extends another one, a slice that reads as a list. -/
import Derived.Test.YtjckcbfpejcpcaaGreatDoorRows
import Derived.WalkKit
import Derived.WalkSpells
import Derived.WalkLawsBesides
import Derived.BigQuiet
import Derived.Deep.QuietTactic
import Derived.Lib.Hide
import Derived.Lib.QuietBelow
import Derived.Maps.AppendAt
import Derived.Deep.AppendLies
import Derived.Deep.RegionLaw
import Derived.JoinedOf
import Derived.KernelRfl
import Derived.ProofKit
import Derived.OpenShut
import Derived.ShutString
import Derived.ChangeOld
import Derived.Deep.Fields
import Derived.Laws.BytesArg
import Derived.SliceStrings
set_option linter.unusedVariables false
set_option linter.unusedSimpArgs false
namespace Go.Proofs.YtjckcbfpejcpcaaGreatDoor
open Go.RowKit Go.Sort

/-- the world w' is w, with further blocks -/
def Ext (w w' : World) : Prop := Below w.heap.size w w'
theorem Ext.refl (w : World) : Ext w w := Below.refl _ _
theorem Ext.size {w w' : World} (h : Ext w w') : w.heap.size ≤ w'.heap.size := Below.size h
theorem Ext.trans {a b c : World} (h : Ext a b) (k : Ext b c) : Ext a c := Below.trans h (Below.mono k h.size)
@[go_sem] theorem Ext_self (w : World) : Ext w w := Below.refl _ _
@[go_sem] theorem Ext_drew {w w1 : World} (h : Ext w w1) : Ext w w1.drew := Below.drew h
@[go_sem] theorem Ext_drewN {w w1 : World} (n : Nat) (h : Ext w w1) : Ext w (w1.drewN n) := below_drewN h n
@[go_sem] theorem Ext_alloc {w w1 : World} (o : Obj) (h : Ext w w1) : Ext w (w1.alloc o) := Below.alloc h h.size o
@[go_sem] theorem Ext_regrown {w w1 : World} (d : Nat) (os : Array Obj) (h : Ext w w1) : Ext w (grow (redrawn w1 d) os) := Ext.trans h (below_regrown w1 d os)
theorem Ext.setCell {w w1 : World} (h : Ext w w1) {p : Addr} (hp : w.heap.size ≤ p.block) (u : Value) : Ext w (w1.setCell p u) := Below.setCell h hp u
theorem Ext.grown {w w1 w2 : World} {row : Option Nat} (h : Ext w w1) (hg : w1.grownBy w2 row) (hr : ∀ k, row = some k → w.heap.size ≤ k) : Ext w w2 := Below.grown h hg h.size hr

theorem ext_of_q {W w1 : World} {n : Nat} {os : Array Obj} (h : w1 = grow (redrawn W n) os) : Ext W w1 := by rw [h]; exact Ext_regrown _ _ (Ext.refl _)
/-- a block that was laid: its cells stay -/
theorem boxed {w : World} {cs : Array Value} {T : TypeId} {w' : World} (h : Ext (w.alloc (.cells cs T)) w') (i : Nat) : w'.cell? ⟨w.heap.size, i, none⟩ = cs[i]? := by
  have hb : w'.heap[w.heap.size]? = some (.cells cs T (0, 0)) := by
    rw [Below.block h w.heap.size (by simp)]
    exact heap_alloc_new w _
  exact cell_of_row w' w.heap.size i cs T (0, 0) hb
theorem boxed_free {w : World} {cs : Array Value} {T : TypeId} {w' : World} (h : Ext (w.alloc (.cells cs T)) w') (i : Nat) : w'.frozen? ⟨w.heap.size, i, none⟩ = false := by
  have hb : w'.heap[w.heap.size]? = some (.cells cs T (0, 0)) := by
    rw [Below.block h w.heap.size (by simp)]
    exact heap_alloc_new w _
  exact frozen_of_row w' w.heap.size i cs T hb

/-- two blocks that were laid one behind the other -/
theorem boxed2 {w : World} {c0 c1 : Array Value} {T0 T1 : TypeId} {w' : World} (h : Ext ((w.alloc (.cells c0 T0)).alloc (.cells c1 T1)) w') :
    (∀ i, w'.cell? ⟨w.heap.size, i, none⟩ = c0[i]?) ∧ (∀ i, w'.cell? ⟨w.heap.size + 1, i, none⟩ = c1[i]?) ∧
    (∀ i, w'.frozen? ⟨w.heap.size, i, none⟩ = false) ∧ (∀ i, w'.frozen? ⟨w.heap.size + 1, i, none⟩ = false) ∧ w.heap.size + 2 ≤ w'.heap.size := by
  have h1 : Ext (w.alloc (.cells c0 T0)) w' := (Ext_alloc _ (Ext.refl _)).trans h
  have s1 : (w.alloc (.cells c0 T0)).heap.size = w.heap.size + 1 := by simp
  refine ⟨fun i => boxed h1 i, fun i => ?_, fun i => boxed_free h1 i, fun i => ?_, ?_⟩
  · have := boxed h i; rwa [s1] at this
  · have := boxed_free h i; rwa [s1] at this
  · have := h.size; simpa using this
/-- three blocks that were laid one behind the other -/
theorem boxed3 {w : World} {c0 c1 c2 : Array Value} {T0 T1 T2 : TypeId} {w' : World} (h : Ext (((w.alloc (.cells c0 T0)).alloc (.cells c1 T1)).alloc (.cells c2 T2)) w') :
    (∀ i, w'.cell? ⟨w.heap.size, i, none⟩ = c0[i]?) ∧ (∀ i, w'.cell? ⟨w.heap.size + 1, i, none⟩ = c1[i]?) ∧ (∀ i, w'.cell? ⟨w.heap.size + 1 + 1, i, none⟩ = c2[i]?) ∧
    (∀ i, w'.frozen? ⟨w.heap.size, i, none⟩ = false) ∧ (∀ i, w'.frozen? ⟨w.heap.size + 1, i, none⟩ = false) ∧ (∀ i, w'.frozen? ⟨w.heap.size + 1 + 1, i, none⟩ = false) ∧ w.heap.size + 3 ≤ w'.heap.size := by
  have h2 : Ext ((w.alloc (.cells c0 T0)).alloc (.cells c1 T1)) w' := (Ext_alloc _ (Ext.refl _)).trans h
  have h1 : Ext (w.alloc (.cells c0 T0)) w' := (Ext_alloc _ (Ext.refl _)).trans h2
  have s1 : (w.alloc (.cells c0 T0)).heap.size = w.heap.size + 1 := by simp
  have s2 : ((w.alloc (.cells c0 T0)).alloc (.cells c1 T1)).heap.size = w.heap.size + 1 + 1 := by simp
  refine ⟨fun i => boxed h1 i, fun i => ?_, fun i => ?_, fun i => boxed_free h1 i, fun i => ?_, fun i => ?_, ?_⟩
  · have := boxed h2 i; rwa [s1] at this
  · have := boxed h i; rwa [s2] at this
  · have := boxed_free h2 i; rwa [s1] at this
  · have := boxed_free h i; rwa [s2] at this
  · have := h.size; simpa using this
theorem World.ownsRow.lower {w : World} {B B' : Nat} {e : TypeId} {size : Nat} {v : Value} {n : Nat} {xs : List Value} (h : w.ownsRow B e size v n xs) (hb : B' ≤ B) : w.ownsRow B' e size v n xs := by
  refine ⟨h.1, ?_⟩
  rcases h.2 with h0 | ⟨g, cap, cur, hv, hg, r⟩
  · exact .inl h0
  · exact .inr ⟨g, cap, cur, hv, by omega, r⟩

/-- the call hands back v, and the world has grown -/
def Gives (P : Program) (f : FuncId) (args : Array Value) (w : World) (v : Value) : Prop := Calls P f args w fun e w' => e = .returned v ∧ Ext w w'

/-- A slice whose elements take one cell each and read as l. -/
def Rd0 {α : Type} (f : α → Value) (w : World) (A : Option Addr) (l : List α) (c : Nat) : Prop :=
  l.length ≤ c ∧ l.length ≤ 9223372036854775807 ∧ (0 < l.length → ∃ b off, A = some ⟨b, off, none⟩ ∧ b < w.heap.size ∧ ∀ (w' : World), Ext w w' → ∀ i (h : i < l.length), w'.cell? ⟨b, off + i, none⟩ = some (f l[i]))
/-- .. of a bounded length -/
def Rd {α : Type} (f : α → Value) (w : World) (A : Option Addr) (l : List α) (c : Nat) : Prop := Rd0 f w A l c ∧ l.length ≤ 140737488351232
theorem Rd0.ext {α : Type} {f : α → Value} {w w1 : World} {A : Option Addr} {l : List α} {c : Nat} (h : Rd0 f w A l c) (e : Ext w w1) : Rd0 f w1 A l c :=
  ⟨h.1, h.2.1, fun hp => let ⟨b, off, h1, h2, h3⟩ := h.2.2 hp; ⟨b, off, h1, Nat.lt_of_lt_of_le h2 e.size, fun w' e' => h3 w' (e.trans e')⟩⟩
theorem Rd.ext {α : Type} {f : α → Value} {w w1 : World} {A : Option Addr} {l : List α} {c : Nat} (h : Rd f w A l c) (e : Ext w w1) : Rd f w1 A l c := ⟨h.1.ext e, h.2⟩
theorem Rd.len {α : Type} {f : α → Value} {w : World} {A : Option Addr} {l : List α} {c : Nat} (h : Rd f w A l c) : l.length ≤ 140737488351232 := h.2
theorem Rd0.len {α : Type} {f : α → Value} {w : World} {A : Option Addr} {l : List α} {c : Nat} (h : Rd0 f w A l c) : l.length ≤ 9223372036854775807 := h.2.1
theorem Rd0.cap {α : Type} {f : α → Value} {w : World} {A : Option Addr} {l : List α} {c : Nat} (h : Rd0 f w A l c) : l.length ≤ c := h.1
theorem Rd.cap {α : Type} {f : α → Value} {w : World} {A : Option Addr} {l : List α} {c : Nat} (h : Rd f w A l c) : l.length ≤ c := h.1.1
@[go_sem] def vu8 (x : UInt8) : Value := .int .u8 x.toNat
@[go_sem] def vint (x : Int) : Value := .int .i64 x
@[go_sem] def vstr (x : ByteArray) : Value := .string x
abbrev Bs (w : World) (A : Option Addr) (l : List UInt8) (c : Nat) : Prop := Rd vu8 w A l c
abbrev Is (w : World) (A : Option Addr) (l : List Int) (c : Nat) : Prop := Rd vint w A l c
abbrev Ss (w : World) (A : Option Addr) (l : List ByteArray) (c : Nat) : Prop := Rd vstr w A l c
theorem Rd0.at {α : Type} {f : α → Value} {w : World} {A : Option Addr} {l : List α} {c : Nat} (h : Rd0 f w A l c) (k : Nat) (hk : k < l.length) :
    ∃ b off, A = some ⟨b, off, none⟩ ∧ b < w.heap.size ∧ ∀ (w' : World), Ext w w' → w'.cell? ⟨b, off + k, none⟩ = some (f l[k]) :=
  let ⟨b, off, h1, h2, h3⟩ := h.2.2 (by omega)
  ⟨b, off, h1, h2, fun w' e => h3 w' e k hk⟩
theorem Rd.at {α : Type} {f : α → Value} {w : World} {A : Option Addr} {l : List α} {c : Nat} (h : Rd f w A l c) (k : Nat) (hk : k < l.length) :
    ∃ b off, A = some ⟨b, off, none⟩ ∧ b < w.heap.size ∧ ∀ (w' : World), Ext w w' → w'.cell? ⟨b, off + k, none⟩ = some (f l[k]) := h.1.at k hk

theorem World.cell?_alloc_at' (w : World) (news : List Value) (e : TypeId) (j : Nat) : (w.alloc (.cells news.toArray e)).cell? ((⟨w.heap.size, 0, none⟩ : Addr).add j) = news[j]? := by
  have hadd : (⟨w.heap.size, 0, none⟩ : Addr).add j = ⟨w.heap.size, j, none⟩ := by unfold Addr.add; split <;> simp_all
  rw [hadd, World.cell?_alloc_at _ _ _ _ rfl]; simp

/-- what a slice type's rows need: the element's type, its cells, its bytes, its zero -/
structure Elem (P : Program) (t e : TypeId) (size bytes : Nat) (z : Value) : Prop where
  ht : P.underlying t = some (.slice e)
  hi : (P.info? e).map (fun i => (i.zero, i.size, i.bytes)) = some (some z, size, bytes)
  hz : z.cells.size = size
  hs : 0 < size

/-- A row that the call since w0 made itself: n elements of type e, cells xs. -/
abbrev Own (e : TypeId) (size : Nat) (w0 w : World) (v : Value) (n : Nat) (xs : List Value) : Prop := w.ownsRow w0.heap.size e size v n xs

section
variable {P : Program} {ops : Array Oper} {rest : List Oper} {o : Oper} {a : Act} {Q : Exit → Act → World → Prop}

theorem run_app_nil (w : World) (base : Nat) (t ty e : TypeId) (i : TypeInfo) (size : Nat) (ht : P.underlying t = some (.slice e)) (hi : P.info? e = some i)
    (v : Value) (n : Nat) (xs : List Value) (hown : w.ownsRow base e size v n xs) (c : Nat) : (Builtin.append_ #[t, t] ty #[v, .slice none 0 c]).run P w = .ok v w := by
  rcases hown.2 with ⟨rfl, rfl⟩ | ⟨g, cap, cur, rfl, _, _, hnc, _⟩
  · simp [Builtin.append_, run_underlying ht, sizeOf, typeInfo, hi, Builtin.lenOf, Builtin.firstCells]
  · simp [Builtin.append_, run_underlying ht, sizeOf, typeInfo, hi, Builtin.lenOf, Builtin.firstCells, hnc, storeCells]

/-- append(s, x...): the cells of x, if there are any, lie where A says -/
theorem wpList_app_any (hgd : o.guard = none) (s x : Operand) (t : TypeId) (ho : o.op = .call { callee := .builtin .append, args := #[s, x], argTypes := #[t, t] })
    {e : TypeId} {size bytes : Nat} {z : Value} (hE : Elem P t e size bytes z) (w0 w : World) (v : Value) (n : Nat) (xs : List Value) (hs : a.eval s = v) (hown : Own e size w0 w v n xs)
    (he : Ext w0 w) (news : List Value) (A : Option Addr) (m c : Nat) (hx : a.eval x = .slice A m c) (hl : news.length = m * size)
    (hA : 0 < m → ∃ ad, A = some ad ∧ ∀ j u, news[j]? = some u → w.cell? (ad.add j) = some u) (h1 : ∀ u ∈ news, u.oneCell' = true)
    (hm : n + m ≤ maxLen) (hb : (n + m) * bytes ≤ 140737488355328)
    (h : ∀ v' w', Own e size w0 w' v' (n + m) (xs ++ news) → Ext w0 w' → (v'.ownBlock = v.ownBlock ∨ v'.ownBlock = some w.heap.size) → w.grownBy w' v.ownBlock → wpList P ops Q rest (a.put o.dst v') w') :
    wpList P ops Q (o :: rest) a w := by
  obtain ⟨i0, hi0, hz0, hz1, hz2⟩ := info_parts hE.hi
  rcases A with _ | ad
  · have hm0 : m = 0 := by
      rcases Nat.eq_zero_or_pos m with h0 | h0
      · exact h0
      · obtain ⟨ad, h, _⟩ := hA h0
        cases h
    subst hm0
    obtain rfl : news = [] := List.eq_nil_of_length_eq_zero (by simpa using hl)
    refine wpList_plain hgd fun K hK => ?_
    unfold Oper.wp execOp
    simp only [ho, resolve, invoke, builtin, Sem.run_bind, Sem.run_pure, Result.andThen_ok, List.map_toArray, List.map_cons, List.map_nil, hs, hx, run_app_nil w w0.heap.size t o.type e i0 size hE.ht hi0 v n xs hown c]
    exact hK _ _ (h v w (by simpa using hown) he (.inl rfl) (World.grownBy.refl w _))
  · refine wpList_append_own_at _ hgd s x t ho w0.heap.size e i0 z size bytes hE.ht hi0 hz0 hz1 hz2 hE.hz hE.hs v n xs hs hown ad m c news hx hl ?_ h1 hm hb he.size ?_
    · intro j u hu
      rcases Nat.eq_zero_or_pos m with h0 | h0
      · subst h0
        obtain rfl : news = [] := List.eq_nil_of_length_eq_zero (by simpa using hl)
        simp at hu
      · obtain ⟨ad', h', hc⟩ := hA h0
        injection h' with h'
        subst h'
        exact hc j u hu
    · intro v' w' ho' hg _ hat
      exact h v' w' ho' (he.grown hg (fun k hk => (hown.lt k hk).1)) hat hg

/-- make([]T, n) -/
theorem wpList_mk (hg : o.guard = none) (l c : Operand) (t : TypeId) (hop : o.op = Op.makeSlice t l c)
    {e : TypeId} {size bytes : Nat} {z : Value} (hE : Elem P t e size bytes z) (w0 w : World) (he : Ext w0 w)
    (n : Nat) (hl : a.eval l = .int .i64 n) (hc : a.eval c = .int .i64 n) (hb : bytes * n ≤ 281474976710656) (hn : n ≤ maxLen)
    (h : ∀ w', Own e size w0 w' (.slice (some ⟨w.heap.size, 0, none⟩) n n) n (madeCells z.cells (n * size)).toList → Ext w0 w' → Ext w w' → wpList P ops Q rest (a.put o.dst (.slice (some ⟨w.heap.size, 0, none⟩) n n)) w') :
    wpList P ops Q (o :: rest) a w := by
  obtain ⟨i0, hi0, hz0, hz1, hz2⟩ := info_parts hE.hi
  refine wpList_make_full w hg l c t hop w0.heap.size e i0 z size hE.ht hi0 hz0 hz1 .i64 .i64 n n n hl hc rfl rfl (by rw [hz2]; exact hb) hn he.size ?_
  intro w' ho' hg'
  exact h w' ho' (he.grown hg' (fun k hk => by cases hk)) ((Ext.refl w).grown hg' (fun k hk => by cases hk))
/-- make([]T, 0, n) -/
theorem wpList_mk0 (hg : o.guard = none) (l c : Operand) (t : TypeId) (hop : o.op = Op.makeSlice t l c)
    {e : TypeId} {size bytes : Nat} {z : Value} (hE : Elem P t e size bytes z) (w0 w : World) (he : Ext w0 w)
    (n : Nat) (hl : a.eval l = .int .i64 0) (hc : a.eval c = .int .i64 n) (hb : bytes * n ≤ 281474976710656) (hn : n ≤ maxLen)
    (h : ∀ w', Own e size w0 w' (.slice (some ⟨w.heap.size, 0, none⟩) 0 n) 0 [] → Ext w0 w' → wpList P ops Q rest (a.put o.dst (.slice (some ⟨w.heap.size, 0, none⟩) 0 n)) w') :
    wpList P ops Q (o :: rest) a w := by
  obtain ⟨i0, hi0, hz0, hz1, hz2⟩ := info_parts hE.hi
  refine wpList_make_own w hg l c t hop w0.heap.size e i0 z size hE.ht hi0 hz0 hz1 .i64 .i64 n n hl hc rfl (by rw [hz2]; exact hb) hn he.size ?_
  intro w' ho' hg'
  exact h w' ho' (he.grown hg' (fun k hk => by cases hk))

/-- append(s, x1, .., xm): the new elements lie in a block of their own, the newest -/
theorem wpList_app (hgd : o.guard = none) (s x : Operand) (t : TypeId) (ho : o.op = .call { callee := .builtin .append, args := #[s, x], argTypes := #[t, t] })
    {e : TypeId} {size bytes : Nat} {z : Value} (hE : Elem P t e size bytes z) (w0 w : World) (v : Value) (n : Nat) (xs : List Value) (hs : a.eval s = v) (hown : Own e size w0 w v n xs)
    (he : Ext w0 w) (news : List Value) (m c : Nat) (hx : a.eval x = .slice (some ⟨w.heap.size, 0, none⟩) m c) (hl : news.length = m * size) (h1 : ∀ u ∈ news, u.oneCell' = true)
    (hm : n + m ≤ maxLen) (hb : (n + m) * bytes ≤ 140737488355328)
    (h : ∀ v' w', Own e size w0 w' v' (n + m) (xs ++ news) → Ext w0 w' → wpList P ops Q rest (a.put o.dst v') w') :
    wpList P ops Q (o :: rest) a (w.alloc (.cells news.toArray e)) := by
  obtain ⟨i0, hi0, hz0, hz1, hz2⟩ := info_parts hE.hi
  refine wpList_append_own _ hgd s x t ho w0.heap.size e i0 z size bytes hE.ht hi0 hz0 hz1 hz2 hE.hz hE.hs v n xs hs (hown.alloc _) ⟨w.heap.size, 0, none⟩ m c news hx hl ?_ h1 hm hb (by have := he.size; simp; omega) ?_
  · intro j u hj
    rw [World.cell?_alloc_at' w news e j]; exact hj
  · intro v' w' ho' hg _
    exact h v' w' ho' ((Ext_alloc _ he).grown hg (fun k hk => (hown.lt k hk).1))
end

/-- an own row of one-cell elements reads as its list -/
theorem Own.rd {α : Type} {f : α → Value} {e : TypeId} {w0 w : World} {v : Value} {n : Nat} {l : List α} (h : Own e 1 w0 w v n (l.map f)) (hl : l.length ≤ 140737488351232) :
    ∃ A c, v = .slice A l.length c ∧ Rd f w A l c := by
  have hn : n = l.length := by have := h.1; simpa using this.symm
  subst hn
  rcases h.2 with ⟨rfl, h0⟩ | ⟨g, cap, cur, rfl, hb, hg, hnc, hcm, hcs, htake⟩
  · exact ⟨none, 0, by rw [h0], ⟨by omega, by omega, fun hp => by omega⟩, hl⟩
  · refine ⟨_, _, rfl, ⟨by omega, by omega, fun _ => ⟨g, 0, rfl, (Array.getElem?_eq_some_iff.1 hg).1, fun w' e' i hi => ?_⟩⟩, hl⟩
    have hg' : w'.heap[g]? = some (.cells cur _ (0, 0)) := (Below.block e' g (Array.getElem?_eq_some_iff.1 hg).1).trans hg
    rw [cell_of_row w' g (0 + i) cur _ (0, 0) hg']
    have h2 : (cur.toList.take (l.length * 1))[i]? = (l.map f)[i]? := by rw [htake]
    rw [List.getElem?_take, if_pos (by omega)] at h2
    simpa [hi] using h2
theorem Own.empty {e : TypeId} {size : Nat} {w0 w : World} (he : Ext w0 w) : Own e size w0 (w.alloc (.cells #[] e)) (.slice (some ⟨w.heap.size, 0, none⟩) 0 0) 0 [] :=
  ⟨by simp, .inr ⟨w.heap.size, 0, #[], rfl, he.size, heap_alloc_new w _, by omega, by simp [maxLen], by simp, by simp⟩⟩
theorem Own.ext {e : TypeId} {size : Nat} {w0 w w1 : World} {v : Value} {n : Nat} {xs : List Value} (h : Own e size w0 w v n xs) (k : Ext w w1) : Own e size w0 w1 v n xs := by
  refine ⟨h.1, ?_⟩
  rcases h.2 with h0 | ⟨g, cap, cur, rfl, hb, hg, r⟩
  · exact .inl h0
  · exact .inr ⟨g, cap, cur, rfl, hb, (Below.block k g (Array.getElem?_eq_some_iff.1 hg).1).trans hg, r⟩

theorem Own.slot {e : TypeId} {size : Nat} {w0 w : World} {g n cap : Nat} {xs : List Value} (h : Own e size w0 w (.slice (some ⟨g, 0, none⟩) n cap) n xs) (k : Nat) (hk : k < xs.length) :
    (∃ u, w.cell? ⟨g, k, none⟩ = some u) ∧ w.frozen? ⟨g, k, none⟩ = false :=
  ⟨⟨xs[k], by rw [h.cellAt k (by have := h.1; omega)]; simp [hk]⟩, h.frozenAt k⟩
theorem Own.store {e : TypeId} {size : Nat} {w0 w : World} {g n cap : Nat} {xs : List Value} (h : Own e size w0 w (.slice (some ⟨g, 0, none⟩) n cap) n xs) (he : Ext w0 w) (k : Nat) (u : Value) :
    Own e size w0 (w.setCell ⟨g, k, none⟩ u) (.slice (some ⟨g, 0, none⟩) n cap) n (xs.set k u) ∧ Ext w0 (w.setCell ⟨g, k, none⟩ u) :=
  ⟨(h.stored k u).1, he.setCell (h.lt g rfl).1 u⟩
/-- where a slice's cells lie, and what they hold in whatever later world -/
theorem Rd.base {α : Type} {f : α → Value} {w : World} {A : Option Addr} {l : List α} {c : Nat} (h : Rd f w A l c) (hp : 0 < l.length) :
    ∃ b off, A = some ⟨b, off, none⟩ ∧ b < w.heap.size ∧ ∀ (w' : World), Ext w w' → ∀ i (h : i < l.length), w'.cell? ⟨b, off + i, none⟩ = some (f l[i]) := h.1.2.2 hp
/-- the cells of a part, as the laws on append ask for them -/
theorem part_cells {α : Type} {f : α → Value} {w : World} {b off : Nat} {l : List α} (h : ∀ i (h : i < l.length), w.cell? ⟨b, off + i, none⟩ = some (f l[i])) (lo m : Nat) :
    ∀ j u, (((l.drop lo).take m).map f)[j]? = some u → w.cell? ((⟨b, off + lo, none⟩ : Addr).add j) = some u := by
  intro j u hu
  rw [List.getElem?_map, List.getElem?_take] at hu
  split at hu
  · rw [List.getElem?_drop] at hu
    have hlt : lo + j < l.length := by
      rcases Nat.lt_or_ge (lo + j) l.length with h' | h'
      · exact h'
      · rw [List.getElem?_eq_none h'] at hu; simp at hu
    rw [List.getElem?_eq_getElem hlt] at hu
    have hadd : (⟨b, off + lo, none⟩ : Addr).add j = ⟨b, off + (lo + j), none⟩ := by unfold Addr.add; split <;> simp_all [Nat.add_assoc]
    rw [hadd, h _ hlt]
    simpa using hu
  · simp at hu
theorem one_vu8 (l : List UInt8) : ∀ u ∈ l.map vu8, u.oneCell' = true := by
  intro u hu; obtain ⟨x, _, rfl⟩ := List.mem_map.1 hu; rfl
theorem one_vint (l : List Int) : ∀ u ∈ l.map vint, u.oneCell' = true := by
  intro u hu; obtain ⟨x, _, rfl⟩ := List.mem_map.1 hu; rfl
theorem one_vstr (l : List ByteArray) : ∀ u ∈ l.map vstr, u.oneCell' = true := by
  intro u hu; obtain ⟨x, _, rfl⟩ := List.mem_map.1 hu; rfl
theorem made_one (z : Value) (h : z.cells = #[z]) (n : Nat) : (madeCells z.cells (n * 1)).toList = List.replicate n z := by rw [h, Nat.mul_one, toList_madeCells_one]

/-- a row of one-cell elements that the call since w0 made itself, reading as l -/
def OwnL {α : Type} (f : α → Value) (e : TypeId) (w0 w : World) (v : Value) (l : List α) : Prop := Own e 1 w0 w v l.length (l.map f)
theorem OwnL.rd {α : Type} {f : α → Value} {e : TypeId} {w0 w : World} {v : Value} {l : List α} (h : OwnL f e w0 w v l) (hl : l.length ≤ 140737488351232) : ∃ A c, v = .slice A l.length c ∧ Rd f w A l c := Own.rd h hl
theorem OwnL.ext {α : Type} {f : α → Value} {e : TypeId} {w0 w w1 : World} {v : Value} {l : List α} (h : OwnL f e w0 w v l) (k : Ext w w1) : OwnL f e w0 w1 v l := Own.ext h k
theorem OwnL.empty {α : Type} {f : α → Value} {e : TypeId} {w0 w : World} (he : Ext w0 w) : OwnL f e w0 (w.alloc (.cells #[] e)) (.slice (some ⟨w.heap.size, 0, none⟩) 0 0) [] := Own.empty he
theorem OwnL.nil {α : Type} {f : α → Value} {e : TypeId} (w0 w : World) : OwnL f e w0 w (.slice none 0 0) [] := ⟨by simp, .inl ⟨rfl, rfl⟩⟩
section
variable {P : Program} {ops : Array Oper} {rest : List Oper} {o : Oper} {a : Act} {Q : Exit → Act → World → Prop}
/-- append(s, ys...) -/
theorem wpList_appL (hgd : o.guard = none) (s x : Operand) (t : TypeId) (ho : o.op = .call { callee := .builtin .append, args := #[s, x], argTypes := #[t, t] })
    {e : TypeId} {bytes : Nat} {z : Value} (hE : Elem P t e 1 bytes z) (hby : 1 ≤ bytes) (w0 w : World) {α : Type} (f : α → Value) (hf : ∀ x, (f x).oneCell' = true) (v : Value) (hs : a.eval s = v) (A : Option Addr) (m c : Nat) (hx : a.eval x = .slice A m c)
    (l ys : List α) (hown : OwnL f e w0 w v l) (he : Ext w0 w) (hm : m = ys.length)
    (hA : 0 < ys.length → ∃ ad, A = some ad ∧ ∀ j u, (ys.map f)[j]? = some u → w.cell? (ad.add j) = some u)
    (hb : (l.length + ys.length) * bytes ≤ 140737488355328)
    (h : ∀ v' w', OwnL f e w0 w' v' (l ++ ys) → Ext w0 w' → (v'.ownBlock = v.ownBlock ∨ v'.ownBlock = some w.heap.size) → w.grownBy w' v.ownBlock → wpList P ops Q rest (a.put o.dst v') w') :
    wpList P ops Q (o :: rest) a w := by
  subst hm
  refine wpList_app_any hgd s x t ho hE w0 w v l.length (l.map f) hs hown he (ys.map f) A ys.length c hx (by simp) hA (fun u hu => by obtain ⟨x, _, rfl⟩ := List.mem_map.1 hu; exact hf x)
    (by have := Nat.mul_le_mul_left (l.length + ys.length) hby; simp only [maxLen]; omega) hb ?_
  intro v' w' h1 h2 h3 h4
  exact h v' w' (by simpa [OwnL] using h1) h2 h3 h4
/-- append(s, y1, .., ym): the new elements lie in the newest block -/
theorem wpList_appN (hgd : o.guard = none) (s x : Operand) (t : TypeId) (ho : o.op = .call { callee := .builtin .append, args := #[s, x], argTypes := #[t, t] })
    {e : TypeId} {bytes : Nat} {z : Value} (hE : Elem P t e 1 bytes z) (hby : 1 ≤ bytes) (w0 w : World) {α : Type} (f : α → Value) (hf : ∀ x, (f x).oneCell' = true) (v : Value) (hs : a.eval s = v) (m c : Nat) (hx : a.eval x = .slice (some ⟨w.heap.size, 0, none⟩) m c)
    (l ys : List α) (cs : Array Value) (hcs : cs = (ys.map f).toArray) (hown : OwnL f e w0 w v l) (he : Ext w0 w) (hm : m = ys.length)
    (hb : (l.length + ys.length) * bytes ≤ 140737488355328)
    (h : ∀ v' w', OwnL f e w0 w' v' (l ++ ys) → Ext w0 w' → wpList P ops Q rest (a.put o.dst v') w') :
    wpList P ops Q (o :: rest) a (w.alloc (.cells cs e)) := by
  subst hcs
  refine wpList_appL hgd s x t ho hE hby w0 _ f hf v hs (some ⟨w.heap.size, 0, none⟩) m c hx l ys (hown.ext (Ext_alloc _ (Ext.refl w))) (Ext_alloc _ he) hm (fun _ => ⟨_, rfl, fun j u hu => ?_⟩) hb (fun v' w' h1 h2 _ _ => h v' w' h1 h2)
  rw [World.cell?_alloc_at']; exact hu
end

section
variable {P : Program} {ops : Array Oper} {rest : List Oper} {o : Oper} {a : Act} {Q : Exit → Act → World → Prop} {K : Act → World → Prop} {E : Prop}
theorem step_appL (hgd : o.guard = none) (s x : Operand) (t : TypeId) (ho : o.op = .call { callee := .builtin .append, args := #[s, x], argTypes := #[t, t] })
    {e : TypeId} {bytes : Nat} {z : Value} (hE : Elem P t e 1 bytes z) (hby : 1 ≤ bytes) (w0 w : World) {α : Type} (f : α → Value) (hf : ∀ x, (f x).oneCell' = true) (v : Value) (hs : a.eval s = v) (A : Option Addr) (m c : Nat) (hx : a.eval x = .slice A m c)
    (l ys : List α) (hown : OwnL f e w0 w v l) (he : Ext w0 w) (hm : m = ys.length)
    (hA : 0 < ys.length → ∃ ad, A = some ad ∧ ∀ j u, (ys.map f)[j]? = some u → w.cell? (ad.add j) = some u)
    (hb : (l.length + ys.length) * bytes ≤ 140737488355328)
    (h : ∀ v' w', OwnL f e w0 w' v' (l ++ ys) → Ext w0 w' → K (a.put o.dst v') w') :
    if Region.wanted o (yielded ops a.tmps) = true then Oper.wp P o a w K Q else E := by
  have hw : Region.wanted o (yielded ops a.tmps) = true := by simp [Region.wanted, hgd]
  rw [if_pos hw]
  obtain ⟨i0, hi0, hz0, hz1, hz2⟩ := info_parts hE.hi
  subst hm
  have hfin : ∀ v' w', Own e 1 w0 w' v' (l.length + ys.length) (l.map f ++ ys.map f) → Ext w0 w' → K (a.put o.dst v') w' := fun v' w' h1 h2 => h v' w' (by simpa [OwnL] using h1) h2
  rcases A with _ | ad
  · have hm0 : ys.length = 0 := by
      rcases Nat.eq_zero_or_pos ys.length with h0 | h0
      · exact h0
      · obtain ⟨ad, h, _⟩ := hA h0
        cases h
    obtain rfl : ys = [] := List.eq_nil_of_length_eq_zero hm0
    unfold Oper.wp execOp
    simp only [ho, resolve, invoke, builtin, Sem.run_bind, Sem.run_pure, Result.andThen_ok, List.map_toArray, List.map_cons, List.map_nil, List.length_nil, hs, hx, run_app_nil w w0.heap.size t o.type e i0 1 hE.ht hi0 v l.length (l.map f) hown c]
    exact hfin v w (by have h' := hown; unfold OwnL at h'; simpa using h') he
  · obtain ⟨v', w', hr, h2, h3, h4, h5⟩ := run_append_own_at (P := P) w w0.heap.size t o.type e i0 z 1 bytes hE.ht hi0 hz0 hz1 hz2 hE.hz hE.hs v l.length (l.map f) hown ad ys.length c (ys.map f) (by simp)
      (fun j u hu => by
        rcases Nat.eq_zero_or_pos ys.length with h0 | h0
        · obtain rfl : ys = [] := List.eq_nil_of_length_eq_zero h0
          simp at hu
        · obtain ⟨ad', h', hc⟩ := hA h0
          injection h' with h'
          subst h'
          exact hc j u hu)
      (fun u hu => by obtain ⟨x, _, rfl⟩ := List.mem_map.1 hu; exact hf x) (by have := Nat.mul_le_mul_left (l.length + ys.length) hby; simp only [maxLen]; omega) hb he.size
    unfold Oper.wp execOp
    simp only [ho, resolve, invoke, builtin, Sem.run_bind, Sem.run_pure, Result.andThen_ok, List.map_toArray, List.map_cons, List.map_nil, hs, hx, hr]
    exact hfin v' w' h2 (he.grown h3 (fun k hk => (hown.lt k hk).1))
theorem step_appN (hgd : o.guard = none) (s x : Operand) (t : TypeId) (ho : o.op = .call { callee := .builtin .append, args := #[s, x], argTypes := #[t, t] })
    {e : TypeId} {bytes : Nat} {z : Value} (hE : Elem P t e 1 bytes z) (hby : 1 ≤ bytes) (w0 w W : World) {α : Type} (f : α → Value) (hf : ∀ x, (f x).oneCell' = true) (v : Value) (hs : a.eval s = v) (m c : Nat) (hx : a.eval x = .slice (some ⟨w.heap.size, 0, none⟩) m c)
    (l ys : List α) (cs : Array Value) (hcs : cs = (ys.map f).toArray) (hW : W = w.alloc (.cells cs e)) (hown : OwnL f e w0 w v l) (he : Ext w0 w) (hm : m = ys.length)
    (hb : (l.length + ys.length) * bytes ≤ 140737488355328)
    (h : ∀ v' w', OwnL f e w0 w' v' (l ++ ys) → Ext w0 w' → K (a.put o.dst v') w') :
    if Region.wanted o (yielded ops a.tmps) = true then Oper.wp P o a W K Q else E := by
  subst hW
  subst hcs
  refine step_appL hgd s x t ho hE hby w0 _ f hf v hs (some ⟨w.heap.size, 0, none⟩) m c hx l ys (hown.ext (Ext_alloc _ (Ext.refl w))) (Ext_alloc _ he) hm (fun _ => ⟨_, rfl, fun j u hu => ?_⟩) hb h
  rw [World.cell?_alloc_at']; exact hu
end
/-- a row of the call's own stays, while an elder block is written -/
theorem OwnL.kept {α : Type} {f : α → Value} {e : TypeId} {w0 w w' : World} {v : Value} {l : List α} (h : OwnL f e w0 w v l) {row : Option Nat} (hg : w.grownBy w' row) (hr : ∀ g, row = some g → g < w0.heap.size) : OwnL f e w0 w' v l := by
  refine World.ownsRow.kept h hg ?_
  cases hv : v.ownBlock with
  | none => exact .inl rfl
  | some g =>
    right
    intro e
    have := hr g e.symm
    have := (h.lt g hv).1
    omega
theorem OwnL.block {α : Type} {f : α → Value} {e : TypeId} {w0 w : World} {v : Value} {l : List α} (h : OwnL f e w0 w v l) : ∀ g, v.ownBlock = some g → g < w.heap.size := fun g hg => (h.lt g hg).2
theorem Own.mk_rd {f : Nat → Value} {e : TypeId} {w0 w : World} {A : Option Addr} {n c : Nat} (h : Own e 1 w0 w (.slice A n c) n ((List.range n).map f)) (hn : n ≤ 140737488351232) : Rd f w A (List.range n) c := by
  obtain ⟨A', c', hv, hr⟩ := Own.rd h (by simpa using hn)
  injection hv with h1 _ h3
  subst h1; subst h3
  exact hr

theorem u8_inj {x y : UInt8} (h : (x.toNat : Int) = (y.toNat : Int)) : x = y := UInt8.toNat_inj.1 (by omega)
theorem take_eq_succ {α : Type} {l l' : List α} {k : Nat} (h1 : k < l.length) (h2 : k < l'.length) (h : l.take k = l'.take k) (e : l[k] = l'[k]) : l.take (k+1) = l'.take (k+1) := by
  rw [List.take_succ_eq_append_getElem h1, List.take_succ_eq_append_getElem h2, h, e]
theorem ret_i64 {a b : Int} (h : a = b) : Ending.returned (.int .i64 a) = .returned (.int .i64 b) := by rw [h]
theorem ret_bool {a b : Bool} (h : a = b) : Ending.returned (.bool a) = .returned (.bool b) := by rw [h]
end Go.Proofs.YtjckcbfpejcpcaaGreatDoor

/- Closed facts of the whole program, paid once: the signs of the dump's head are read once, as a list. -/
namespace Go.Proofs.YtjckcbfpejcpcaaGreatDoor

theorem and_ : ∀ {a b : Bool}, a = true → b = true → (a && b) = true
  | true, true, _, _ => rfl
/-- the signs of the dump's head -/
def ioL : List Char := List.map Char.ofNat [104, 97, 114, 110, 101, 115, 115, 32, 48, 50, 51, 98, 100, 54, 53, 101, 57, 54, 51, 56, 97, 57, 99, 100, 49, 56, 57, 99, 99, 57, 100, 102, 51, 53, 102, 49, 51, 101, 51, 98, 57, 97, 48, 100, 51, 50, 52, 102, 97, 50, 57, 48, 53, 97, 100, 50, 57, 52, 102, 55, 49, 52, 54, 52, 55, 101, 52, 98, 49, 98, 99, 99, 32, 99, 117, 116, 32, 97, 116, 32, 108, 111, 111, 112, 46, 101, 120, 97, 109, 112, 108, 101, 47, 103, 48, 48, 53, 49, 56, 47, 108, 97, 119, 115, 46, 70, 110, 69, 120, 97, 99, 116, 68, 105, 102, 102, 86, 97, 108, 117, 101, 115, 32, 108, 111, 111, 112, 46, 101, 120, 97, 109, 112, 108, 101, 47, 103, 48, 48, 53, 49, 56, 47, 108, 97, 119, 115, 46, 70, 110, 68, 105, 102, 102, 101, 114, 101, 110, 99, 101, 115]
def cutW : List Char := List.map Char.ofNat [99, 117, 116]
theorem io_eq : Tryz.prog.initOrder = String.ofList ioL := by
  unfold Tryz.prog
  dsimp only [Tryz.progTables]
  kernel_rfl
theorem io_list : Tryz.prog.initOrder.toList = ioL := by rw [io_eq, String.toList_ofList]
theorem io_words : behindMainWord (wordsSigns ioL) = cutW :: (behindMainWord (wordsSigns ioL)).tail := by kernel_rfl
theorem io_strip (rest : List (List Char)) : stripLifts liftWords (cutW :: rest) = ([], cutW :: rest) := by kernel_rfl
theorem cut_gc : (cutW == "gc".toList || cutW == "spec".toList) = false := by kernel_rfl
theorem cut_carried : (cutW == "carried".toList) = false := by kernel_rfl
theorem cut_carried' : (some cutW == some "carried".toList) = false := by kernel_rfl
theorem cut_cut : (some cutW == some "cut".toList) = true := by kernel_rfl
theorem cut_cut' : (cutW == "cut".toList) = true := by kernel_rfl
theorem no_later : Tryz.prog.laysLater = false := by kernel_rfl
theorem no_reflect : Tryz.prog.bearsReflect = false := by kernel_rfl
theorem door_fits : Tryz.prog.doorFits [] = true := by kernel_rfl
section
variable {P : Program} {rest : List (List Char)} (h : behindMainWord (wordsSigns P.initOrder.toList) = cutW :: rest)
include h
theorem head_lifts_of : P.headLifts = [] := by
  unfold Program.headLifts
  rw [h, io_strip]
  simp only [List.head?_cons, cut_cut, if_true]
theorem enter_of (h1 : P.laysLater = false) (h2 : P.bearsReflect = false) (h3 : P.doorFits [] = true) : P.mayEnter = true := by
  unfold Program.mayEnter
  rw [h]
  simp only [io_strip, cut_gc, cut_carried, cut_cut, h1, h2, h3, List.head?_cons, Bool.false_and, Bool.false_or, Bool.not_false, Bool.and_true, Bool.or_true, List.contains_nil]
theorem final_of : P.liftsFinal = false := by
  unfold Program.liftsFinal
  rw [head_lifts_of h, h]
  simp only [List.head?_cons, cut_carried', Bool.false_and, Bool.false_or, List.contains_nil]
theorem make_of : P.make = some .cut := by
  unfold Program.make
  rw [h]
  simp only [cut_gc, cut_cut', Bool.true_or, if_true]
  rfl
end
theorem io_head : behindMainWord (wordsSigns Tryz.prog.initOrder.toList) = cutW :: (behindMainWord (wordsSigns ioL)).tail := by rw [io_list]; exact io_words
theorem fact_enter : Tryz.prog.mayEnter = true := enter_of io_head no_later no_reflect door_fits
theorem fact_final : Tryz.prog.liftsFinal = false := final_of io_head
theorem fact_make : Tryz.prog.make = some .cut := make_of io_head
theorem fact_final' : (false == Tryz.prog.liftsFinal) = true := by rw [fact_final]; rfl
theorem fact_make' : (Tryz.prog.make == some Make.cut) = true := by rw [fact_make]; kernel_rfl
theorem fact_laid : laidOutB Tryz.prog = true := by kernel_rfl
theorem fact_maps : mapsRowed Tryz.prog = true := by kernel_rfl
theorem fact_stops : (Tryz.prog.stops == []) = true := by kernel_rfl
theorem fact_knobs : (Tryz.prog.stopKnobs == []) = true := by kernel_rfl
theorem fact_heard : Tryz.prog.stopsHeard = true := by kernel_rfl
end Go.Proofs.YtjckcbfpejcpcaaGreatDoor

/- What an argument that came in reads as. -/
namespace Go.Proofs.YtjckcbfpejcpcaaGreatDoor
open Go.ChangeShapes Go.WideShapes Go.ChangeAt Go.RowKit Go.Deep

theorem own : ownKnob Tryz.prog.godebug = none := by kernel_rfl
theorem laidOut : laidOutB Tryz.prog = true := fact_laid

/-- a row that came in, its cells known by a function of the index -/
theorem rd0_of_cells {α : Type} {f : α → Value} {W : World} {x : Addr} {l : List α} {c : Nat} (hc0 : l.length ≤ c) (hl : l.length ≤ 9223372036854775807) (hc : ∀ i (h : i < l.length), W.cell? (x.add i) = some (f l[i])) : Rd0 f W (some x) l c := by
  refine ⟨hc0, hl, fun hp => ?_⟩
  obtain ⟨b, off, spot⟩ := x
  have h0 := hc 0 hp
  have hspot : spot = none := by simpa [Addr.add] using World.cell?_spot h0
  subst hspot
  refine ⟨b, off, rfl, ?_, fun w' e i hi => ?_⟩
  · have := block_lt_of_cell h0; simpa [Addr.add] using this
  · have h1 := hc i hi
    have hadd : (⟨b, off, none⟩ : Addr).add i = ⟨b, off + i, none⟩ := by unfold Addr.add; split <;> simp_all
    rw [hadd] at h1
    exact (Below.cell e (by simpa using block_lt_of_cell h1)).trans h1

section
variable {H : Type} {enc : TypeId × Value → H} {W : World} {base : Nat} {spare : Nat → Bool} {held : Bool}
theorem in_bytes {T E : TypeId} (hT : Tryz.prog.underlying T = some (.slice E)) (hE : Tryz.prog.underlying E = some (.int .u8)) (hC : Tryz.prog.cellsOf E = 1)
    {n : Nat} {v : Value} {y : DataW H × List MemPlace} (h : DataW.trod enc Tryz.prog W base spare held n T [v] = some y) :
    ∃ (A : Option Addr) (l : List UInt8) (c : Nat), v = .slice A l.length c ∧ Rd0 vu8 W A l c := by
  rcases open_ints hT hE hC h with ⟨hcs, _⟩ | ⟨x, len, c, zs, hcs, _, hl, hm, hz, _, hcell, hwz⟩
  · obtain rfl : v = .slice none 0 0 := by simpa using hcs
    exact ⟨none, [], 0, rfl, by simp, by simp, fun h => by simp at h⟩
  · obtain rfl : v = .slice (some x) len c := by simpa using hcs
    have hlz : len ≤ zs.length := by rw [hz]; split <;> omega
    refine ⟨some x, (zs.take len).map (fun z => UInt8.ofNat z.toNat), c, by simp; omega, rd0_of_cells (by simp; omega) (by simp [maxLen] at hm ⊢; omega) fun i hi => ?_⟩
    have hi' : i < len := by simp at hi; omega
    rw [hcell i (by omega)]
    have hb := bounds_u8 (hwz zs[i] (List.getElem_mem (by omega)))
    simp [vu8, List.getElem?_eq_getElem (show i < zs.length by omega)]
    omega
/-- a slice of ints that came in -/
def RdI (W : World) (A : Option Addr) (l : List Int) (c : Nat) : Prop := Rd0 vint W A l c ∧ ∀ x ∈ l, (Lit.int .i64 x).wf = true
theorem in_ints {T E : TypeId} (hT : Tryz.prog.underlying T = some (.slice E)) (hE : Tryz.prog.underlying E = some (.int .i64)) (hC : Tryz.prog.cellsOf E = 1)
    {n : Nat} {v : Value} {y : DataW H × List MemPlace} (h : DataW.trod enc Tryz.prog W base spare held n T [v] = some y) :
    ∃ (A : Option Addr) (l : List Int) (c : Nat), v = .slice A l.length c ∧ RdI W A l c := by
  rcases open_ints hT hE hC h with ⟨hcs, _⟩ | ⟨x, len, c, zs, hcs, _, hl, hm, hz, _, hcell, hwz⟩
  · obtain rfl : v = .slice none 0 0 := by simpa using hcs
    exact ⟨none, [], 0, rfl, ⟨by simp, by simp, fun h => by simp at h⟩, by simp⟩
  · obtain rfl : v = .slice (some x) len c := by simpa using hcs
    have hlz : len ≤ zs.length := by rw [hz]; split <;> omega
    refine ⟨some x, zs.take len, c, by simp; omega, rd0_of_cells (by simp; omega) (by simp [maxLen] at hm ⊢; omega) (fun i hi => ?_), fun z hz => hwz z (List.mem_of_mem_take hz)⟩
    have hi' : i < len := by simp at hi; omega
    rw [hcell i (by omega)]
    simp [vint, List.getElem?_eq_getElem (show i < zs.length by omega)]
theorem open_agg_5 {P : Program} {r : Reach} {b0 : Nat} {t : TypeId} {f0 f1 f2 f3 f4 : Field} {v : Value} {d : DataW H} {p : List MemPlace} (hs : P.underlying t = some (.struct #[f0, f1, f2, f3, f4])) (hone : oneCellFields P #[f0, f1, f2, f3, f4] = true) (hC : P.cellsOf t = 5)
    (hv : Value.okWide P W r b0 t v) (h : DataW.Trod enc P W base spare held t v d p) :
    ∃ (v0 v1 v2 v3 v4 : Value) (y0 y1 y2 y3 y4 : DataW H × List MemPlace) (n : Nat), v = .agg #[v0, v1, v2, v3, v4] ∧ DataW.trod enc P W base spare held n f0.type [v0] = some y0 ∧ DataW.trod enc P W base spare held n f1.type [v1] = some y1 ∧ DataW.trod enc P W base spare held n f2.type [v2] = some y2 ∧ DataW.trod enc P W base spare held n f3.type [v3] = some y3 ∧ DataW.trod enc P W base spare held n f4.type [v4] = some y4 := by
  obtain ⟨cs, rfl, hsz⟩ := okWide_struct hs hv
  obtain ⟨l⟩ := cs
  match l, hsz.trans hC with
  | [c0, c1, c2, c3, c4], _ =>
    obtain ⟨fuel, hf⟩ := h
    obtain ⟨xs, n, _, hx, _, hlen, hg⟩ := DataW.trod_struct hs hf
    obtain ⟨o0, k0⟩ := Go.Deep.hone_of hone 0 f0 rfl
    obtain ⟨o1, k1⟩ := Go.Deep.hone_of hone 1 f1 rfl
    obtain ⟨o2, k2⟩ := Go.Deep.hone_of hone 2 f2 rfl
    obtain ⟨o3, k3⟩ := Go.Deep.hone_of hone 3 f3 rfl
    obtain ⟨o4, k4⟩ := Go.Deep.hone_of hone 4 f4 rfl
    match xs, hlen with
    | [y0, y1, y2, y3, y4], _ =>
      exact ⟨c0, c1, c2, c3, c4, y0, y1, y2, y3, y4, n, rfl, by simpa [Value.cells, o0, k0] using hg 0 f0 rfl, by simpa [Value.cells, o1, k1] using hg 1 f1 rfl, by simpa [Value.cells, o2, k2] using hg 2 f2 rfl, by simpa [Value.cells, o3, k3] using hg 3 f3 rfl, by simpa [Value.cells, o4, k4] using hg 4 f4 rfl⟩
theorem open_agg_2 {P : Program} {r : Reach} {b0 : Nat} {t : TypeId} {f0 f1 : Field} {v : Value} {d : DataW H} {p : List MemPlace} (hs : P.underlying t = some (.struct #[f0, f1])) (hone : oneCellFields P #[f0, f1] = true) (hC : P.cellsOf t = 2)
    (hv : Value.okWide P W r b0 t v) (h : DataW.Trod enc P W base spare held t v d p) :
    ∃ (v0 v1 : Value) (y0 y1 : DataW H × List MemPlace) (n : Nat), v = .agg #[v0, v1] ∧ DataW.trod enc P W base spare held n f0.type [v0] = some y0 ∧ DataW.trod enc P W base spare held n f1.type [v1] = some y1 := by
  obtain ⟨cs, rfl, hsz⟩ := okWide_struct hs hv
  obtain ⟨l⟩ := cs
  match l, hsz.trans hC with
  | [c0, c1], _ =>
    obtain ⟨fuel, hf⟩ := h
    obtain ⟨xs, n, _, hx, _, hlen, hg⟩ := DataW.trod_struct hs hf
    obtain ⟨o0, k0⟩ := Go.Deep.hone_of hone 0 f0 rfl
    obtain ⟨o1, k1⟩ := Go.Deep.hone_of hone 1 f1 rfl
    match xs, hlen with
    | [y0, y1], _ =>
      exact ⟨c0, c1, y0, y1, n, rfl, by simpa [Value.cells, o0, k0] using hg 0 f0 rfl, by simpa [Value.cells, o1, k1] using hg 1 f1 rfl⟩
theorem open_agg_4 {P : Program} {r : Reach} {b0 : Nat} {t : TypeId} {f0 f1 f2 f3 : Field} {v : Value} {d : DataW H} {p : List MemPlace} (hs : P.underlying t = some (.struct #[f0, f1, f2, f3])) (hone : oneCellFields P #[f0, f1, f2, f3] = true) (hC : P.cellsOf t = 4)
    (hv : Value.okWide P W r b0 t v) (h : DataW.Trod enc P W base spare held t v d p) :
    ∃ (v0 v1 v2 v3 : Value) (y0 y1 y2 y3 : DataW H × List MemPlace) (n : Nat), v = .agg #[v0, v1, v2, v3] ∧ DataW.trod enc P W base spare held n f0.type [v0] = some y0 ∧ DataW.trod enc P W base spare held n f1.type [v1] = some y1 ∧ DataW.trod enc P W base spare held n f2.type [v2] = some y2 ∧ DataW.trod enc P W base spare held n f3.type [v3] = some y3 := by
  obtain ⟨cs, rfl, hsz⟩ := okWide_struct hs hv
  obtain ⟨l⟩ := cs
  match l, hsz.trans hC with
  | [c0, c1, c2, c3], _ =>
    obtain ⟨fuel, hf⟩ := h
    obtain ⟨xs, n, _, hx, _, hlen, hg⟩ := DataW.trod_struct hs hf
    obtain ⟨o0, k0⟩ := Go.Deep.hone_of hone 0 f0 rfl
    obtain ⟨o1, k1⟩ := Go.Deep.hone_of hone 1 f1 rfl
    obtain ⟨o2, k2⟩ := Go.Deep.hone_of hone 2 f2 rfl
    obtain ⟨o3, k3⟩ := Go.Deep.hone_of hone 3 f3 rfl
    match xs, hlen with
    | [y0, y1, y2, y3], _ =>
      exact ⟨c0, c1, c2, c3, y0, y1, y2, y3, n, rfl, by simpa [Value.cells, o0, k0] using hg 0 f0 rfl, by simpa [Value.cells, o1, k1] using hg 1 f1 rfl, by simpa [Value.cells, o2, k2] using hg 2 f2 rfl, by simpa [Value.cells, o3, k3] using hg 3 f3 rfl⟩
end
end Go.Proofs.YtjckcbfpejcpcaaGreatDoor

/- Contracts of the laws' small functions over slices of bytes and ints: the copy, the comparison, the marks. -/
namespace Go.Proofs.YtjckcbfpejcpcaaGreatDoor
open Go.RowKit Go.Sort

theorem E_u8 : Elem Tryz.prog 25 5 1 1 (.int .u8 0) := ⟨Tryz.underlying25, by kernel_rfl, rfl, by omega⟩
theorem E_int : Elem Tryz.prog 95 3 1 8 (.int .i64 0) := ⟨Tryz.underlying95, by kernel_rfl, rfl, by omega⟩

theorem fill_step {α : Type} (f : α → Value) (l : List α) (z : Value) (k : Nat) (hk : k < l.length) :
    ((l.take k).map f ++ List.replicate (l.length - k) z).set k (f l[k]) = (l.take (k+1)).map f ++ List.replicate (l.length - (k+1)) z := by
  rw [List.take_succ_eq_append_getElem hk, List.map_append, List.set_append_right _ _ (by simp; omega)]
  have : l.length - k = (l.length - (k+1)) + 1 := by omega
  rw [this, List.replicate_succ]
  simp [Nat.min_eq_left (Nat.le_of_lt hk)]

set_option maxHeartbeats 400000 in
theorem toByteS_c (A : Option Addr) (l : List _) (c : Nat) (w : World) (h : Rd0 vu8 w A l c) (hL : l.length ≤ 1048576) :
    Calls Tryz.prog 33 #[.slice A l.length c] w fun e w' => ∃ v, e = .returned v ∧ Own 5 1 w w' v l.length (l.map vu8) ∧ Ext w w' := by
  go_enter Tryz.func33, Tryz.ntmps33
  go_wp2_with (first
    | (at_make; refine wpList_mk rfl _ _ _ rfl E_u8 w w (Ext.refl w) l.length rfl rfl (by omega) (by simp [maxLen]; omega) ?_; intro w1 ho he _))
  go_loopw [4] (fun i wr => ∃ k : Nat, k ≤ l.length ∧ i = .int .i64 k ∧ Own 5 1 w wr (.slice (some ⟨w.heap.size, 0, none⟩) l.length l.length) l.length ((l.take k).map vu8 ++ List.replicate (l.length - k) (.int .u8 0)) ∧ Ext w wr) (fun i _ => l.length - (intOf i).toNat)
  case atStart => exact ⟨0, by omega, rfl, by rw [made_one _ rfl] at ho; simpa using ho, he⟩
  case round =>
    clear ho he
    obtain ⟨k, hk, rfl, ho, he⟩ := hrel
    by_cases hlt : k < l.length
    · obtain ⟨b, off, rfl, hb, hc⟩ := h.at k hlt
      obtain ⟨⟨u0, hu⟩, hf⟩ := ho.slot k (by simp; omega)
      obtain ⟨ho', he'⟩ := ho.store he k (vu8 l[k])
      rw [fill_step vu8 l _ k hlt] at ho'
      clear h ho
      go_wp2
      go_roundw
      case rel => exact ⟨k+1, by omega, by go_num, ho', he'⟩
      case measure => simp [intOf]; omega
    · obtain rfl : k = l.length := by omega
      go_wp2
      go_ret
      exact ⟨_, rfl, by simpa using ho, he⟩

set_option maxHeartbeats 400000 in
theorem toIntS_c (A : Option Addr) (l : List _) (c : Nat) (w : World) (h : Rd0 vint w A l c) (hL : l.length ≤ 1048576) :
    Calls Tryz.prog 94 #[.slice A l.length c] w fun e w' => ∃ v, e = .returned v ∧ Own 3 1 w w' v l.length (l.map vint) ∧ Ext w w' := by
  go_enter Tryz.func94, Tryz.ntmps94
  go_wp2_with (first
    | (at_make; refine wpList_mk rfl _ _ _ rfl E_int w w (Ext.refl w) l.length rfl rfl (by omega) (by simp [maxLen]; omega) ?_; intro w1 ho he _))
  go_loopw [4] (fun i wr => ∃ k : Nat, k ≤ l.length ∧ i = .int .i64 k ∧ Own 3 1 w wr (.slice (some ⟨w.heap.size, 0, none⟩) l.length l.length) l.length ((l.take k).map vint ++ List.replicate (l.length - k) (.int .i64 0)) ∧ Ext w wr) (fun i _ => l.length - (intOf i).toNat)
  case atStart => exact ⟨0, by omega, rfl, by rw [made_one _ rfl] at ho; simpa using ho, he⟩
  case round =>
    clear ho he
    obtain ⟨k, hk, rfl, ho, he⟩ := hrel
    by_cases hlt : k < l.length
    · obtain ⟨b, off, rfl, hb, hc⟩ := h.at k hlt
      obtain ⟨⟨u0, hu⟩, hf⟩ := ho.slot k (by simp; omega)
      obtain ⟨ho', he'⟩ := ho.store he k (vint l[k])
      rw [fill_step vint l _ k hlt] at ho'
      clear h ho
      go_wp2
      go_roundw
      case rel => exact ⟨k+1, by omega, by go_num, ho', he'⟩
      case measure => simp [intOf]; omega
    · obtain rfl : k = l.length := by omega
      go_wp2
      go_ret
      exact ⟨_, rfl, by simpa using ho, he⟩

/-- the values that a marker lays from k on -/
def mk8 (k : Int) (i : Nat) : Value := .int .u8 (IntKind.u8.wrap (k + i))
def mkI (k : Int) (i : Nat) : Value := .int .i64 (k + i)
theorem mark_step (f : Nat → Value) (xs : List Value) (j n : Nat) (hn : xs.length = n) (hj : j < n) :
    ((List.range j).map f ++ xs.drop j).set j (f j) = (List.range (j+1)).map f ++ xs.drop (j+1) := by
  rw [List.set_append_right _ _ (by simp), List.range_succ, List.map_append, List.append_assoc]
  congr 1
  have e : xs.drop j = xs[j] :: xs.drop (j+1) := List.drop_eq_getElem_cons (by omega)
  rw [e]
  simp only [List.length_map, List.length_range, Nat.sub_self, List.set_cons_zero, List.map_cons, List.map_nil, List.cons_append, List.nil_append]
set_option maxHeartbeats 400000 in
theorem markByteS_c (A : Option Addr) (n c : Nat) (k : Int) (xs : List Value) (w0 w : World) (ho : Own 5 1 w0 w (.slice A n c) n xs) (hk : 0 ≤ k) (hk2 : k + n ≤ 1099511627776) :
    Calls Tryz.prog 43 #[.slice A n c, .int .i64 k] w fun e w' => e = .returned (.int .i64 (k + n)) ∧ Own 5 1 w0 w' (.slice A n c) n ((List.range n).map (mk8 k)) ∧ w.grownBy w' (Value.slice A n c).ownBlock := by
  have hxn : xs.length = n := by have := ho.1; omega
  go_enter Tryz.func43, Tryz.ntmps43
  go_wp2
  go_loopw [1, 5] (fun kk i wr => ∃ j : Nat, j ≤ n ∧ i = .int .i64 j ∧ kk = .int .i64 (k + j) ∧ Own 5 1 w0 wr (.slice A n c) n ((List.range j).map (mk8 k) ++ xs.drop j) ∧ w.grownBy wr (Value.slice A n c).ownBlock) (fun _ i _ => n - (intOf i).toNat)
  case atStart => exact ⟨0, by omega, rfl, by simp, by simpa using ho, World.grownBy.refl _ _⟩
  case round =>
    clear ho
    obtain ⟨j, hj, rfl, rfl, ho, hg⟩ := hrel
    by_cases hlt : j < n
    · obtain ⟨g, c', hv, hb, hs⟩ := World.ownsRow.form ho (by omega)
      injection hv with hA _ hc
      subst hA; subst hc
      obtain ⟨⟨u0, hu⟩, hf⟩ := ho.slot j (by simp; omega)
      have hg2 := hg.trans (ho.stored j (mk8 k j)).2
      have ho' := (ho.stored j (mk8 k j)).1
      rw [mark_step (mk8 k) xs j n hxn hlt] at ho'
      have H1 := Lib.hid ho'; have H3 := Lib.hid hg2
      clear ho ho' hg2 hg
      go_wp2
      go_roundw
      case rel => exact ⟨j+1, by omega, by go_num, by go_num, H1.out, H3.out⟩
      case measure => simp [intOf]; omega
    · obtain rfl : j = n := by omega
      have H1 := Lib.hid ho; have H3 := Lib.hid hg
      clear ho hg
      go_wp2
      go_ret
      exact ⟨rfl, by have := H1.out; rw [List.drop_of_length_le (by omega)] at this; simpa using this, H3.out⟩

set_option maxHeartbeats 400000 in
theorem markIntS_c (A : Option Addr) (n c : Nat) (k : Int) (xs : List Value) (w0 w : World) (ho : Own 3 1 w0 w (.slice A n c) n xs) (hk : 0 ≤ k) (hk2 : k + n ≤ 1099511627776) :
    Calls Tryz.prog 73 #[.slice A n c, .int .i64 k] w fun e w' => e = .returned (.int .i64 (k + n)) ∧ Own 3 1 w0 w' (.slice A n c) n ((List.range n).map (mkI k)) ∧ w.grownBy w' (Value.slice A n c).ownBlock := by
  have hxn : xs.length = n := by have := ho.1; omega
  go_enter Tryz.func73, Tryz.ntmps73
  go_wp2
  go_loopw [1, 5] (fun kk i wr => ∃ j : Nat, j ≤ n ∧ i = .int .i64 j ∧ kk = .int .i64 (k + j) ∧ Own 3 1 w0 wr (.slice A n c) n ((List.range j).map (mkI k) ++ xs.drop j) ∧ w.grownBy wr (Value.slice A n c).ownBlock) (fun _ i _ => n - (intOf i).toNat)
  case atStart => exact ⟨0, by omega, rfl, by simp, by simpa using ho, World.grownBy.refl _ _⟩
  case round =>
    clear ho
    obtain ⟨j, hj, rfl, rfl, ho, hg⟩ := hrel
    by_cases hlt : j < n
    · obtain ⟨g, c', hv, hb, hs⟩ := World.ownsRow.form ho (by omega)
      injection hv with hA _ hc
      subst hA; subst hc
      obtain ⟨⟨u0, hu⟩, hf⟩ := ho.slot j (by simp; omega)
      have hg2 := hg.trans (ho.stored j (mkI k j)).2
      have ho' := (ho.stored j (mkI k j)).1
      rw [mark_step (mkI k) xs j n hxn hlt] at ho'
      have H1 := Lib.hid ho'; have H3 := Lib.hid hg2
      clear ho ho' hg2 hg
      go_wp2
      go_roundw
      case rel => exact ⟨j+1, by omega, by go_num, by go_num, H1.out, H3.out⟩
      case measure => simp [intOf]; omega
    · obtain rfl : j = n := by omega
      have H1 := Lib.hid ho; have H3 := Lib.hid hg
      clear ho hg
      go_wp2
      go_ret
      exact ⟨rfl, by have := H1.out; rw [List.drop_of_length_le (by omega)] at this; simpa using this, H3.out⟩
set_option maxHeartbeats 400000 in
theorem heldByteS_c (A : Option Addr) (n c : Nat) (k : Int) (w : World) (h : Rd (mk8 k) w A (List.range n) c) (hk : 0 ≤ k) (hk2 : k + n ≤ 1099511627776) :
    Gives Tryz.prog 46 #[.slice A n c, .int .i64 k] w (.int .i64 (k + n)) := by
  go_enter Tryz.func46, Tryz.ntmps46
  go_wp2
  go_loopw [1, 5, 4] (fun kk i _ wr => ∃ j : Nat, j ≤ n ∧ i = .int .i64 j ∧ kk = .int .i64 (k + j) ∧ Ext w wr) (fun _ i _ _ => n - (intOf i).toNat)
  case atStart => exact ⟨0, by omega, rfl, by simp, Ext.refl _⟩
  case round =>
    obtain ⟨j, hj, rfl, rfl, he⟩ := hrel
    by_cases hlt : j < n
    · obtain ⟨b, off, rfl, hb, hc⟩ := h.at j (by simpa using hlt)
      simp only [List.getElem_range, mk8] at hc
      go_wp2
      go_roundw
      case rel => exact ⟨j+1, by omega, by go_num, by go_num, he⟩
      case measure => simp [intOf]; omega
    · obtain rfl : j = n := by omega
      go_wp2
      go_ret
      exact ⟨rfl, he⟩

end Go.Proofs.YtjckcbfpejcpcaaGreatDoor

/- Contracts of small functions over byte slices. -/
namespace Go.Proofs.YtjckcbfpejcpcaaGreatDoor
open Go.RowKit Go.Sort

set_option maxHeartbeats 400000 in
theorem eqByteS_c (A A' : Option Addr) (l l' : List UInt8) (c c' : Nat) (w : World) (h : Bs w A l c) (h' : Bs w A' l' c') :
    Gives Tryz.prog 40 #[.slice A l.length c, .slice A' l'.length c'] w (.bool (l == l')) := by
  have hl := h.len; have hl' := h'.len
  by_cases hn : l.length = l'.length
  · have hb1 : ((l.length : Int) != (l'.length : Int)) = false := by simp [hn]
    have H := Lib.hid hn; clear hn
    go_enter Tryz.func40, Tryz.ntmps40
    go_wp2
    go_loopw [5, 4] (fun i v wr => ∃ k : Nat, k ≤ l.length ∧ i = .int .i64 k ∧ Hid (l.take k = l'.take k) ∧ Ext w wr) (fun i _ _ => l.length - (intOf i).toNat)
    case atStart => exact ⟨0, by omega, rfl, by simp [Hid], Ext.refl _⟩
    case round =>
      obtain ⟨k, hk, rfl, ht, he⟩ := hrel
      by_cases hlt : k < l.length
      · have hlt' : k < l'.length := by have := H.out; omega
        obtain ⟨b, off, rfl, hb, hc⟩ := h.at k hlt
        obtain ⟨b', off', rfl, hb', hc'⟩ := h'.at k hlt'
        clear h h'
        go_wp2
        refine wp_region_quiet_below (by kernel_rfl) (by kernel_rfl) ?_
        repeat (go_big_quiet_step (fail))
        refine wpQuiet_nil ?_
        rintro _ ⟨⟨nq, osq⟩, rfl⟩
        go_wp2
        · have hne : ((l[k].toNat : Int) != (l'[k].toNat : Int)) = true := by assumption
          go_ret
          refine ⟨ret_bool ?_, Ext_regrown _ _ he⟩
          symm; rw [beq_eq_false_iff_ne]; rintro rfl; simp at hne
        · have hne : ((l[k].toNat : Int) != (l'[k].toNat : Int)) = false := by assumption
          go_roundw
          case rel => exact ⟨k+1, by omega, by go_num, take_eq_succ hlt hlt' ht (u8_inj (by simpa using hne)), Ext_regrown _ _ he⟩
          case measure => simp [intOf]; omega
      · go_wp2
        go_ret
        refine ⟨ret_bool ?_, he⟩
        have ht := ht.out; have H := H.out
        rw [List.take_of_length_le (by omega), List.take_of_length_le (by omega)] at ht
        simp [ht]
  · have hb1 : ((l.length : Int) != (l'.length : Int)) = true := by simp; omega
    go_enter Tryz.func40, Tryz.ntmps40
    go_wp2
    go_ret
    refine ⟨ret_bool ?_, Ext.refl _⟩
    symm; rw [beq_eq_false_iff_ne]; rintro rfl; exact hn rfl


set_option maxHeartbeats 400000 in
theorem sEqualBytes_c (A A' : Option Addr) (l l' : List UInt8) (c c' : Nat) (w : World) (h : Bs w A l c) (h' : Bs w A' l' c') :
    Gives Tryz.prog 59 #[.slice A l.length c, .slice A' l'.length c'] w (.bool (l == l')) := by
  have hl := h.len; have hl' := h'.len
  by_cases hn : l.length = l'.length
  · have hb1 : ((l.length : Int) != (l'.length : Int)) = false := by simp [hn]
    have H := Lib.hid hn; clear hn
    go_enter Tryz.func59, Tryz.ntmps59
    go_wp2
    go_loopw [5, 4] (fun i v wr => ∃ k : Nat, k ≤ l.length ∧ i = .int .i64 k ∧ Hid (l.take k = l'.take k) ∧ Ext w wr) (fun i _ _ => l.length - (intOf i).toNat)
    case atStart => exact ⟨0, by omega, rfl, by simp [Hid], Ext.refl _⟩
    case round =>
      obtain ⟨k, hk, rfl, ht, he⟩ := hrel
      by_cases hlt : k < l.length
      · have hlt' : k < l'.length := by have := H.out; omega
        obtain ⟨b, off, rfl, hb, hc⟩ := h.at k hlt
        obtain ⟨b', off', rfl, hb', hc'⟩ := h'.at k hlt'
        clear h h'
        go_wp2
        refine wp_region_quiet_below (by kernel_rfl) (by kernel_rfl) ?_
        repeat (go_big_quiet_step (fail))
        refine wpQuiet_nil ?_
        rintro _ ⟨⟨nq, osq⟩, rfl⟩
        go_wp2
        · have hne : ((l[k].toNat : Int) != (l'[k].toNat : Int)) = true := by assumption
          go_ret
          refine ⟨ret_bool ?_, Ext_regrown _ _ he⟩
          symm; rw [beq_eq_false_iff_ne]; rintro rfl; simp at hne
        · have hne : ((l[k].toNat : Int) != (l'[k].toNat : Int)) = false := by assumption
          go_roundw
          case rel => exact ⟨k+1, by omega, by go_num, take_eq_succ hlt hlt' ht (u8_inj (by simpa using hne)), Ext_regrown _ _ he⟩
          case measure => simp [intOf]; omega
      · go_wp2
        go_ret
        refine ⟨ret_bool ?_, he⟩
        have ht := ht.out; have H := H.out
        rw [List.take_of_length_le (by omega), List.take_of_length_le (by omega)] at ht
        simp [ht]
  · have hb1 : ((l.length : Int) != (l'.length : Int)) = true := by simp; omega
    go_enter Tryz.func59, Tryz.ntmps59
    go_wp2
    go_ret
    refine ⟨ret_bool ?_, Ext.refl _⟩
    symm; rw [beq_eq_false_iff_ne]; rintro rfl; exact hn rfl
end Go.Proofs.YtjckcbfpejcpcaaGreatDoor

/- bytes.Equal and EqualBytes of the program. -/
namespace Go.Proofs.YtjckcbfpejcpcaaGreatDoor
open Go.RowKit Go.Sort

/-- the string of bytes -/
def strOf (l : List UInt8) : ByteArray := ⟨l.toArray⟩
theorem strOf_inj {l l' : List UInt8} : strOf l = strOf l' ↔ l = l' := by
  constructor
  · intro h; have := congrArg (fun b => b.data.toList) h; simpa [strOf] using this
  · rintro rfl; rfl
theorem strOf_nums (l : List UInt8) : strOfNums (l.map fun x => (x.toNat : Int)) = strOf l := by
  unfold strOfNums strOf
  congr 1
  rw [List.map_map]
  congr 1
  conv => rhs; rw [← List.map_id l]
  apply List.map_congr_left
  intro x _
  simp
theorem conv_bytes {w w' : World} {A : Option Addr} {l : List UInt8} {c : Nat} (h : Bs w A l c) (he : Ext w w') :
    (convert 25 9 (.slice A l.length c)).run Tryz.prog w' = .ok (.string (strOf l)) w' := by
  rcases Nat.eq_zero_or_pos l.length with h0 | h0
  · obtain rfl : l = [] := List.eq_nil_of_length_eq_zero h0
    rw [List.length_nil, run_convert_bytes_string w' 25 9 5 _ 0 c Tryz.underlying25 Tryz.underlying5 Tryz.underlying9]
    cases A <;> simp [Conv.bytesToString, loadCells]
    all_goals rfl
  · obtain ⟨b, off, rfl, hb, hc⟩ := h.base h0
    rw [← strOf_nums]
    refine run_convert_bytes_arg w' 25 5 Tryz.underlying25 Tryz.underlying5 b off l.length c (l.map fun x => (x.toNat : Int)) (by simp) (fun i hi => ?_) 9 Tryz.underlying9
    rw [hc w' he i hi]
    simp [vu8, hi]
set_option maxHeartbeats 400000 in
theorem bytesEqual_c (A A' : Option Addr) (l l' : List UInt8) (c c' : Nat) (w : World) (h : Bs w A l c) (h' : Bs w A' l' c') :
    Gives Tryz.prog 98 #[.slice A l.length c, .slice A' l'.length c'] w (.bool (l == l')) := by
  have k1 := fun w' e => conv_bytes (w' := w') h e
  have k2 := fun w' e => conv_bytes (w' := w') h' e
  clear h h'
  go_enter Tryz.func98, Tryz.ntmps98
  go_wp2
  go_ret
  refine ⟨ret_bool ?_, Ext.refl _⟩
  rw [ByteArray.toList_eq, ByteArray.toList_eq]
  simp [strOf]
set_option maxHeartbeats 400000 in
theorem iEqualBytes_c (A A' : Option Addr) (l l' : List UInt8) (c c' : Nat) (w : World) (h : Bs w A l c) (h' : Bs w A' l' c') :
    Gives Tryz.prog 68 #[.slice A l.length c, .slice A' l'.length c'] w (.bool (l == l')) := by
  go_enter Tryz.func68, Tryz.ntmps68
  go_wp2_with fail
  refine (bytesEqual_c _ _ _ _ _ _ _ h h').mono ?_; rintro _ w1 ⟨rfl, he⟩
  go_wp2
  go_ret
  exact ⟨rfl, he⟩
end Go.Proofs.YtjckcbfpejcpcaaGreatDoor

/- Logs by value: the laws' helpers and EqualLogs. -/
namespace Go.Proofs.YtjckcbfpejcpcaaGreatDoor
open Go.RowKit Go.Sort

/-- what is left of a size, or -1 -/
def szN (n : Nat) (left : Int) : Int := if left - n < 0 then -1 else left - n
set_option maxHeartbeats 400000 in
theorem szByteS_c (A : Option Addr) (l : List _) (c : Nat) (left : Int) (w : World) (h : Rd0 vu8 w A l c) (h0 : 0 ≤ left) (h1 : left ≤ 1048576) :
    Gives Tryz.prog 28 #[.slice A l.length c, .int .i64 left] w (.int .i64 (szN l.length left)) := by
  have hl := h.len
  by_cases hd : left - (l.length : Int) < 0
  · have H : Hid (szN l.length left = -1) := if_pos hd
    rw [H.out]
    go_enter Tryz.func28, Tryz.ntmps28
    go_wp2
    go_ret
    exact ⟨rfl, Ext.refl _⟩
  · have H : Hid (szN l.length left = left - l.length) := if_neg hd
    rw [H.out]
    go_enter Tryz.func28, Tryz.ntmps28
    go_wp2
    go_ret
    exact ⟨rfl, Ext.refl _⟩

set_option maxHeartbeats 400000 in
theorem szIntS_c (A : Option Addr) (l : List _) (c : Nat) (left : Int) (w : World) (h : Rd0 vint w A l c) (h0 : 0 ≤ left) (h1 : left ≤ 1048576) :
    Gives Tryz.prog 91 #[.slice A l.length c, .int .i64 left] w (.int .i64 (szN l.length left)) := by
  have hl := h.len
  by_cases hd : left - (l.length : Int) < 0
  · have H : Hid (szN l.length left = -1) := if_pos hd
    rw [H.out]
    go_enter Tryz.func91, Tryz.ntmps91
    go_wp2
    go_ret
    exact ⟨rfl, Ext.refl _⟩
  · have H : Hid (szN l.length left = left - l.length) := if_neg hd
    rw [H.out]
    go_enter Tryz.func91, Tryz.ntmps91
    go_wp2
    go_ret
    exact ⟨rfl, Ext.refl _⟩
theorem szN_lo (n : Nat) (left : Int) (h : left ≤ 1048576) (h0 : 0 ≤ left) : -1 ≤ szN n left ∧ szN n left ≤ 1048576 := by unfold szN; split <;> omega
def vlog (v : Value) (s : Int) : Value := .agg #[v, .int .i64 s]
end Go.Proofs.YtjckcbfpejcpcaaGreatDoor

/- Descriptions as data: rules, how they lie in memory, what they read as. -/
namespace Go.Proofs.YtjckcbfpejcpcaaGreatDoor
open Go.RowKit Go.Sort

/-- a rule -/
structure DRule where
  nm : ByteArray
  kind : Int
  size : Int
  little : Bool
  bytes : List UInt8
  names : List ByteArray
  tags : List Int
  kids : List Int
/-- a rule's value; its four slices -/
def vrule (r : DRule) (vb vn vt vk : Value) : Value := .agg #[.string r.nm, .int .i64 r.kind, .int .i64 r.size, .bool r.little, vb, vn, vt, vk]
def vdesc (v : Value) : Value := .agg #[v]
/-- the four slices of a rule, each reading as its list -/
structure RdS (w : World) (r : DRule) (Ab : Option Addr) (cb : Nat) (An : Option Addr) (cn : Nat) (At : Option Addr) (ct : Nat) (Ak : Option Addr) (ck : Nat) : Prop where
  b : Rd0 vu8 w Ab r.bytes cb
  n : Rd0 vstr w An r.names cn
  t : Rd0 vint w At r.tags ct
  k : Rd0 vint w Ak r.kids ck
theorem RdS.ext {w w' : World} {r : DRule} {Ab : Option Addr} {cb : Nat} {An : Option Addr} {cn : Nat} {At : Option Addr} {ct : Nat} {Ak : Option Addr} {ck : Nat} (h : RdS w r Ab cb An cn At ct Ak ck) (e : Ext w w') : RdS w' r Ab cb An cn At ct Ak ck :=
  ⟨h.b.ext e, h.n.ext e, h.t.ext e, h.k.ext e⟩
/-- a rule's eight cells, in w and in every later world -/
structure RuleAt (w : World) (b o : Nat) (r : DRule) (vb vn vt vk : Value) : Prop where
  c0 : ∀ (w' : World), Ext w w' → w'.cell? ⟨b, o, none⟩ = some (.string r.nm)
  c1 : ∀ (w' : World), Ext w w' → w'.cell? ⟨b, o + 1, none⟩ = some (.int .i64 r.kind)
  c2 : ∀ (w' : World), Ext w w' → w'.cell? ⟨b, o + 2, none⟩ = some (.int .i64 r.size)
  c3 : ∀ (w' : World), Ext w w' → w'.cell? ⟨b, o + 3, none⟩ = some (.bool r.little)
  c4 : ∀ (w' : World), Ext w w' → w'.cell? ⟨b, o + 4, none⟩ = some vb
  c5 : ∀ (w' : World), Ext w w' → w'.cell? ⟨b, o + 5, none⟩ = some vn
  c6 : ∀ (w' : World), Ext w w' → w'.cell? ⟨b, o + 6, none⟩ = some vt
  c7 : ∀ (w' : World), Ext w w' → w'.cell? ⟨b, o + 7, none⟩ = some vk
theorem RuleAt.ext {w w' : World} {b o : Nat} {r : DRule} {vb vn vt vk : Value} (h : RuleAt w b o r vb vn vt vk) (e : Ext w w') : RuleAt w' b o r vb vn vt vk :=
  ⟨fun w1 e1 => h.c0 w1 (e.trans e1), fun w1 e1 => h.c1 w1 (e.trans e1), fun w1 e1 => h.c2 w1 (e.trans e1), fun w1 e1 => h.c3 w1 (e.trans e1), fun w1 e1 => h.c4 w1 (e.trans e1), fun w1 e1 => h.c5 w1 (e.trans e1), fun w1 e1 => h.c6 w1 (e.trans e1), fun w1 e1 => h.c7 w1 (e.trans e1)⟩
/-- a slice of rules that reads as ds -/
structure RdD (w : World) (A : Option Addr) (ds : List DRule) (c : Nat) : Prop where
  cap : ds.length ≤ c
  len : ds.length ≤ 9223372036854775807
  cells : 0 < ds.length → ∃ b off, A = some ⟨b, off, none⟩ ∧ b < w.heap.size ∧ ∀ i (h : i < ds.length), ∃ Ab cb An cn At ct Ak ck, RdS w ds[i] Ab cb An cn At ct Ak ck ∧
    RuleAt w b (off + i * 8) ds[i] (.slice Ab ds[i].bytes.length cb) (.slice An ds[i].names.length cn) (.slice At ds[i].tags.length ct) (.slice Ak ds[i].kids.length ck)
theorem RdD.ext {w w' : World} {A : Option Addr} {ds : List DRule} {c : Nat} (h : RdD w A ds c) (e : Ext w w') : RdD w' A ds c :=
  ⟨h.cap, h.len, fun hp => let ⟨b, off, h1, h2, h3⟩ := h.cells hp; ⟨b, off, h1, Nat.lt_of_lt_of_le h2 e.size, fun i hi => let ⟨Ab, cb, An, cn, At, ct, Ak, ck, h4, h5⟩ := h3 i hi; ⟨Ab, cb, An, cn, At, ct, Ak, ck, h4.ext e, h5.ext e⟩⟩⟩
theorem RdD.at {w : World} {A : Option Addr} {ds : List DRule} {c : Nat} (h : RdD w A ds c) (i : Nat) (hi : i < ds.length) :
    ∃ b off Ab cb An cn At ct Ak ck, A = some ⟨b, off, none⟩ ∧ b < w.heap.size ∧ RdS w ds[i] Ab cb An cn At ct Ak ck ∧
    RuleAt w b (off + i * 8) ds[i] (.slice Ab ds[i].bytes.length cb) (.slice An ds[i].names.length cn) (.slice At ds[i].tags.length ct) (.slice Ak ds[i].kids.length ck) := by
  obtain ⟨b, off, h1, h2, h3⟩ := h.cells (by omega)
  obtain ⟨Ab, cb, An, cn, At, ct, Ak, ck, h4, h5⟩ := h3 i hi
  exact ⟨b, off, Ab, cb, An, cn, At, ct, Ak, ck, h1, h2, h4, h5⟩
theorem RdD.nil (w : World) : RdD w none [] 0 := ⟨by simp, by simp, fun h => by simp at h⟩
/-- a slice of descriptions that reads as ds -/
structure RdG (w : World) (A : Option Addr) (ds : List (List DRule)) (c : Nat) : Prop where
  cap : ds.length ≤ c
  len : ds.length ≤ 9223372036854775807
  cells : 0 < ds.length → ∃ b off, A = some ⟨b, off, none⟩ ∧ b < w.heap.size ∧ ∀ i (h : i < ds.length), ∃ A' c', RdD w A' ds[i] c' ∧ ∀ (w' : World), Ext w w' → w'.cell? ⟨b, off + i, none⟩ = some (.slice A' ds[i].length c')
theorem RdG.ext {w w' : World} {A : Option Addr} {ds : List (List DRule)} {c : Nat} (h : RdG w A ds c) (e : Ext w w') : RdG w' A ds c :=
  ⟨h.cap, h.len, fun hp => let ⟨b, off, h1, h2, h3⟩ := h.cells hp; ⟨b, off, h1, Nat.lt_of_lt_of_le h2 e.size, fun i hi => let ⟨A', c', h4, h5⟩ := h3 i hi; ⟨A', c', h4.ext e, fun w1 e1 => h5 w1 (e.trans e1)⟩⟩⟩
theorem RdG.at {w : World} {A : Option Addr} {ds : List (List DRule)} {c : Nat} (h : RdG w A ds c) (i : Nat) (hi : i < ds.length) :
    ∃ b off A' c', A = some ⟨b, off, none⟩ ∧ b < w.heap.size ∧ RdD w A' ds[i] c' ∧ ∀ (w' : World), Ext w w' → w'.cell? ⟨b, off + i, none⟩ = some (.slice A' ds[i].length c') := by
  obtain ⟨b, off, h1, h2, h3⟩ := h.cells (by omega)
  obtain ⟨A', c', h4, h5⟩ := h3 i hi
  exact ⟨b, off, A', c', h1, h2, h4, h5⟩

/-- what a size counts -/
def szStrs (l : List ByteArray) : Nat := (l.map ByteArray.size).sum
def szRl (r : DRule) : Nat := r.nm.size + r.bytes.length + (r.names.length + szStrs r.names) + r.tags.length + r.kids.length
def szD (ds : List DRule) : Nat := ds.length + (ds.map szRl).sum
def szG (ds : List (List DRule)) : Nat := ds.length + (ds.map szD).sum
/-- what the machine bears of a rule that came in -/
structure WfR (r : DRule) : Prop where
  nm : r.nm.size ≤ 9223372036854775807
  names : ∀ s ∈ r.names, s.size ≤ 9223372036854775807
  kind : (Lit.int .i64 r.kind).wf = true
  size : (Lit.int .i64 r.size).wf = true
  tags : ∀ x ∈ r.tags, (Lit.int .i64 x).wf = true
  kids : ∀ x ∈ r.kids, (Lit.int .i64 x).wf = true
def WfD (ds : List DRule) : Prop := ∀ r ∈ ds, WfR r
def WfG (ds : List (List DRule)) : Prop := ∀ d ∈ ds, WfD d
theorem szN_neg {a b : Nat} {left : Int} (h : szN a left < 0) : szN (a + b) left = -1 := by
  unfold szN at *; split at h
  · rw [if_pos (by omega)]
  · rename_i h'; omega
theorem szN_add {a b : Nat} {left : Int} (h : ¬ szN a left < 0) : szN (a + b) left = szN b (szN a left) := by
  unfold szN at *; split at h
  · omega
  · rename_i h'
    rw [if_neg h']
    by_cases h2 : left - a - b < 0
    · rw [if_pos h2, if_pos (by omega)]
    · rw [if_neg h2, if_neg (by omega)]; omega
theorem szN_zero {left : Int} (h : 0 ≤ left) : szN 0 left = left := by unfold szN; rw [if_neg (by omega)]; omega
theorem szN_ge {n : Nat} {left : Int} (h : ¬ szN n left < 0) : (n : Int) ≤ left ∧ szN n left = left - n := by
  unfold szN at *; split at h
  · omega
  · rename_i h'; rw [if_neg h']; omega
theorem sum_take {α : Type} (f : α → Nat) (l : List α) (k : Nat) (hk : k < l.length) : ((l.take (k+1)).map f).sum = ((l.take k).map f).sum + f l[k] := by
  rw [List.take_succ_eq_append_getElem hk, List.map_append, List.sum_append, List.map_cons, List.map_nil, List.sum_cons, List.sum_nil, Nat.add_zero]
theorem sum_split {α : Type} (f : α → Nat) (l : List α) (k : Nat) : (l.map f).sum = ((l.take k).map f).sum + ((l.drop k).map f).sum := by
  rw [← List.sum_append, ← List.map_append, List.take_append_drop]
theorem szStrs_take (l : List ByteArray) (k : Nat) (hk : k < l.length) : szStrs (l.take (k+1)) = szStrs (l.take k) + l[k].size := sum_take _ l k hk
theorem szStrs_split (l : List ByteArray) (k : Nat) : szStrs l = szStrs (l.take k) + szStrs (l.drop k) := sum_split _ l k
theorem szStrs_le (l : List ByteArray) (k : Nat) : szStrs (l.take k) ≤ szStrs l := by rw [szStrs_split l k]; omega
end Go.Proofs.YtjckcbfpejcpcaaGreatDoor

/- Descriptions and registries that came in. -/
namespace Go.Proofs.YtjckcbfpejcpcaaGreatDoor
open Go.ChangeShapes Go.WideShapes Go.ChangeAt Go.RowKit Go.Deep

theorem exists_list {α : Type} (n : Nat) (P : Nat → α → Prop) (h : ∀ i, i < n → ∃ x, P i x) : ∃ l : List α, l.length = n ∧ ∀ i (hi : i < l.length), P i l[i] := by
  induction n with
  | zero => exact ⟨[], rfl, fun i hi => by simp at hi⟩
  | succ n ih =>
    obtain ⟨l, hl, hp⟩ := ih (fun i hi => h i (by omega))
    obtain ⟨x, hx⟩ := h n (by omega)
    refine ⟨l ++ [x], by simp [hl], fun i hi => ?_⟩
    by_cases hlt : i < l.length
    · rw [List.getElem_append_left hlt]; exact hp i hlt
    · have : i = n := by simp at hi; omega
      subst this
      rw [List.getElem_append_right (by omega)]
      simpa [hl] using hx
section
variable {H : Type} {enc : TypeId × Value → H} {W : World} {base : Nat} {spare : Nat → Bool} {held : Bool}
theorem in_strs {T E : TypeId} (hT : Tryz.prog.underlying T = some (.slice E)) (hE : Tryz.prog.underlying E = some .string) (hC : Tryz.prog.cellsOf E = 1)
    {n : Nat} {v : Value} {y : DataW H × List MemPlace} (h : DataW.trod enc Tryz.prog W base spare held n T [v] = some y) :
    ∃ (A : Option Addr) (l : List ByteArray) (c : Nat), v = .slice A l.length c ∧ Rd0 vstr W A l c ∧ ∀ s ∈ l, s.size ≤ 9223372036854775807 := by
  rcases open_strings hT hE hC h with ⟨hcs, _⟩ | ⟨x, len, c, zs, hcs, _, hl, hm, hz, _, hcell, hwz⟩
  · obtain rfl : v = .slice none 0 0 := by simpa using hcs
    exact ⟨none, [], 0, rfl, ⟨by simp, by simp, fun h => by simp at h⟩, by simp⟩
  · obtain rfl : v = .slice (some x) len c := by simpa using hcs
    have hlz : len ≤ zs.length := by rw [hz]; split <;> omega
    refine ⟨some x, zs.take len, c, by simp; omega, rd0_of_cells (by simp; omega) (by simp [maxLen] at hm ⊢; omega) (fun i hi => ?_), fun z hz => by have := hwz z (List.mem_of_mem_take hz); simpa [maxLen] using this⟩
    have hi' : i < len := by simp at hi; omega
    rw [hcell i (by omega)]
    simp [vstr, List.getElem?_eq_getElem (show i < zs.length by omega)]
/-- a struct of one field that is one cell -/
theorem trod_one {t : TypeId} {f0 : Field} {n : Nat} {v : Value} {y : DataW H × List MemPlace} (hs : Tryz.prog.underlying t = some (.struct #[f0])) (hone : oneCellFields Tryz.prog #[f0] = true)
    (h : DataW.trod enc Tryz.prog W base spare held n t [v] = some y) : ∃ n' y', DataW.trod enc Tryz.prog W base spare held n' f0.type [v] = some y' := by
  obtain ⟨xs, n', _, _, _, hlen, hg⟩ := DataW.trod_struct hs h
  obtain ⟨o0, k0⟩ := Go.Deep.hone_of hone 0 f0 rfl
  match xs, hlen with
  | [y0], _ => exact ⟨n', y0, by simpa [o0, k0] using hg 0 f0 rfl⟩
set_option maxRecDepth 100000 in
theorem trod_agg8 {t : TypeId} {f0 f1 f2 f3 f4 f5 f6 f7 : Field} {n : Nat} {cs : List Value} {y : DataW H × List MemPlace} (hs : Tryz.prog.underlying t = some (.struct #[f0, f1, f2, f3, f4, f5, f6, f7])) (hone : oneCellFields Tryz.prog #[f0, f1, f2, f3, f4, f5, f6, f7] = true) (hC : Tryz.prog.cellsOf t = 8)
    (h : DataW.trod enc Tryz.prog W base spare held n t cs = some y) : ∃ (v0 v1 v2 v3 v4 v5 v6 v7 : Value) (y0 y1 y2 y3 y4 y5 y6 y7 : DataW H × List MemPlace) (m : Nat), cs = [v0, v1, v2, v3, v4, v5, v6, v7] ∧ DataW.trod enc Tryz.prog W base spare held m f0.type [v0] = some y0 ∧ DataW.trod enc Tryz.prog W base spare held m f1.type [v1] = some y1 ∧ DataW.trod enc Tryz.prog W base spare held m f2.type [v2] = some y2 ∧ DataW.trod enc Tryz.prog W base spare held m f3.type [v3] = some y3 ∧ DataW.trod enc Tryz.prog W base spare held m f4.type [v4] = some y4 ∧ DataW.trod enc Tryz.prog W base spare held m f5.type [v5] = some y5 ∧ DataW.trod enc Tryz.prog W base spare held m f6.type [v6] = some y6 ∧ DataW.trod enc Tryz.prog W base spare held m f7.type [v7] = some y7 := by
  obtain ⟨xs, m, _, _, hcl, hlen, hg⟩ := DataW.trod_struct hs h
  rw [hC] at hcl
  match cs, hcl with
  | [c0, c1, c2, c3, c4, c5, c6, c7], _ =>
    obtain ⟨o0, k0⟩ := Go.Deep.hone_of hone 0 f0 rfl
    obtain ⟨o1, k1⟩ := Go.Deep.hone_of hone 1 f1 rfl
    obtain ⟨o2, k2⟩ := Go.Deep.hone_of hone 2 f2 rfl
    obtain ⟨o3, k3⟩ := Go.Deep.hone_of hone 3 f3 rfl
    obtain ⟨o4, k4⟩ := Go.Deep.hone_of hone 4 f4 rfl
    obtain ⟨o5, k5⟩ := Go.Deep.hone_of hone 5 f5 rfl
    obtain ⟨o6, k6⟩ := Go.Deep.hone_of hone 6 f6 rfl
    obtain ⟨o7, k7⟩ := Go.Deep.hone_of hone 7 f7 rfl
    match xs, hlen with
    | [y0, y1, y2, y3, y4, y5, y6, y7], _ =>
      exact ⟨c0, c1, c2, c3, c4, c5, c6, c7, y0, y1, y2, y3, y4, y5, y6, y7, m, rfl, by simpa [o0, k0] using hg 0 f0 rfl, by simpa [o1, k1] using hg 1 f1 rfl, by simpa [o2, k2] using hg 2 f2 rfl, by simpa [o3, k3] using hg 3 f3 rfl, by simpa [o4, k4] using hg 4 f4 rfl, by simpa [o5, k5] using hg 5 f5 rfl, by simpa [o6, k6] using hg 6 f6 rfl, by simpa [o7, k7] using hg 7 f7 rfl⟩
set_option maxRecDepth 100000 in
theorem trod_rule {n : Nat} {cs : List Value} {y : DataW H × List MemPlace} (h : DataW.trod enc Tryz.prog W base spare held n 101 cs = some y) :
    ∃ (r : DRule) (Ab : Option Addr) (cb : Nat) (An : Option Addr) (cn : Nat) (At : Option Addr) (ct : Nat) (Ak : Option Addr) (ck : Nat),
      cs = [.string r.nm, .int .i64 r.kind, .int .i64 r.size, .bool r.little, .slice Ab r.bytes.length cb, .slice An r.names.length cn, .slice At r.tags.length ct, .slice Ak r.kids.length ck] ∧ RdS W r Ab cb An cn At ct Ak ck ∧ WfR r := by
  obtain ⟨c0, c1, c2, c3, c4, c5, c6, c7, y0, y1, y2, y3, y4, y5, y6, y7, m, rfl, g0, g1, g2, g3, g4, g5, g6, g7⟩ := trod_agg8 Tryz.underlying101 (by kernel_rfl) (by kernel_rfl) h
  dsimp only at g0 g1 g2 g3 g4 g5 g6 g7
  obtain ⟨nm, e0, _, hn⟩ := DataW.trod_string Tryz.underlying9 g0
  obtain ⟨kind, e1, _, hk⟩ := DataW.trod_int Tryz.underlying3 g1
  obtain ⟨size, e2, _, hz⟩ := DataW.trod_int Tryz.underlying3 g2
  obtain ⟨little, e3, _⟩ := DataW.trod_bool Tryz.underlying4 g3
  obtain ⟨Ab, lb, cb, e4, r4⟩ := in_bytes Tryz.underlying25 Tryz.underlying5 (by kernel_rfl) g4
  obtain ⟨An, ln, cn, e5, r5, w5⟩ := in_strs Tryz.underlying90 Tryz.underlying9 (by kernel_rfl) g5
  obtain ⟨At, lt, ct, e6, r6, w6⟩ := in_ints Tryz.underlying95 Tryz.underlying3 (by kernel_rfl) g6
  obtain ⟨Ak, lk, ck, e7, r7, w7⟩ := in_ints Tryz.underlying95 Tryz.underlying3 (by kernel_rfl) g7
  simp at e0 e1 e2 e3 e4 e5 e6 e7
  subst e0 e1 e2 e3 e4 e5 e6 e7
  exact ⟨⟨nm, kind, size, little, lb, ln, lt, lk⟩, Ab, cb, An, cn, At, ct, Ak, ck, rfl, ⟨r4, r5, r6, r7⟩, ⟨by simpa [maxLen] using hn, w5, hk, hz, w6, w7⟩⟩
theorem add_at {b off : Nat} (i j : Nat) : ((⟨b, off, none⟩ : Addr).add i).add j = ⟨b, off + i + j, none⟩ := by
  have h1 : (⟨b, off, none⟩ : Addr).add i = ⟨b, off + i, none⟩ := by unfold Addr.add; split <;> simp_all
  rw [h1]; unfold Addr.add; split <;> simp_all
theorem in_rules {n : Nat} {v : Value} {y : DataW H × List MemPlace} (h : DataW.trod enc Tryz.prog W base spare held n 22 [v] = some y) :
    ∃ (A : Option Addr) (ds : List DRule) (c : Nat), v = .slice A ds.length c ∧ RdD W A ds c ∧ WfD ds := by
  rcases DataW.trod_slice Tryz.underlying22 h with ⟨hcs, _⟩ | ⟨x, len, c, elems, rest, m, _, hcs, _, hb, hl, hm, hlen, hel, _⟩
  · obtain rfl : v = .slice none 0 0 := by simpa using hcs
    exact ⟨none, [], 0, rfl, RdD.nil W, fun _ h => by cases h⟩
  · obtain rfl : v = .slice (some x) len c := by simpa using hcs
    have hC : Tryz.prog.cellsOf 101 = 8 := by kernel_rfl
    rw [hC] at hel
    have key : ∀ i, i < len → ∃ r : DRule, (∃ (Ab : Option Addr) (cb : Nat) (An : Option Addr) (cn : Nat) (At : Option Addr) (ct : Nat) (Ak : Option Addr) (ck : Nat), RdS W r Ab cb An cn At ct Ak ck ∧
        ∀ j, j < 8 → W.cell? ((x.add (i * 8)).add j) = ([.string r.nm, .int .i64 r.kind, .int .i64 r.size, .bool r.little, .slice Ab r.bytes.length cb, .slice An r.names.length cn, .slice At r.tags.length ct, .slice Ak r.kids.length ck] : List Value)[j]?) ∧ WfR r := by
      intro i hi
      have h1 := hel i hi
      rw [List.getElem?_eq_getElem (by omega), Option.bind_eq_some_iff] at h1
      obtain ⟨cs, h2, h3⟩ := h1
      obtain ⟨r, Ab, cb, An, cn, At, ct, Ak, ck, rfl, h4, h5⟩ := trod_rule h3
      exact ⟨r, ⟨Ab, cb, An, cn, At, ct, Ak, ck, h4, (World.cells?_some h2).2.2⟩, h5⟩
    obtain ⟨ds, hds, hp⟩ := exists_list len _ key
    subst hds
    refine ⟨some x, ds, c, rfl, ⟨hl, by simp [maxLen] at hm; omega, fun hpos => ?_⟩, fun r hr => ?_⟩
    · obtain ⟨b, off, spot⟩ := x
      have hspot : spot = none := by
        obtain ⟨⟨Ab, cb, An, cn, At, ct, Ak, ck, _, hc⟩, _⟩ := hp 0 hpos
        have := hc 0 (by omega)
        simpa [Addr.add] using World.cell?_spot this
      subst hspot
      have hblk : b < W.heap.size := by
        obtain ⟨⟨Ab, cb, An, cn, At, ct, Ak, ck, _, hc⟩, _⟩ := hp 0 hpos
        have := hc 0 (by omega)
        rw [add_at] at this
        simpa using block_lt_of_cell this
      refine ⟨b, off, rfl, hblk, fun i hi => ?_⟩
      obtain ⟨⟨Ab, cb, An, cn, At, ct, Ak, ck, hS, hc⟩, _⟩ := hp i hi
      have hc' : ∀ (w' : World), Ext W w' → ∀ j, j < 8 → w'.cell? ⟨b, off + i * 8 + j, none⟩ = ([.string ds[i].nm, .int .i64 ds[i].kind, .int .i64 ds[i].size, .bool ds[i].little, .slice Ab ds[i].bytes.length cb, .slice An ds[i].names.length cn, .slice At ds[i].tags.length ct, .slice Ak ds[i].kids.length ck] : List Value)[j]? := by
        intro w' e j hj
        have h1 := hc j hj
        rw [add_at] at h1
        rw [Below.cell e (p := ⟨b, off + i * 8 + j, none⟩) hblk]
        exact h1
      exact ⟨Ab, cb, An, cn, At, ct, Ak, ck, hS, ⟨fun w' e => by have := hc' w' e 0 (by omega); simpa using this, fun w' e => by have := hc' w' e 1 (by omega); simpa using this, fun w' e => by have := hc' w' e 2 (by omega); simpa using this, fun w' e => by have := hc' w' e 3 (by omega); simpa using this,
        fun w' e => by have := hc' w' e 4 (by omega); simpa using this, fun w' e => by have := hc' w' e 5 (by omega); simpa using this, fun w' e => by have := hc' w' e 6 (by omega); simpa using this, fun w' e => by have := hc' w' e 7 (by omega); simpa using this⟩⟩
    · obtain ⟨i, hi, rfl⟩ := List.getElem_of_mem hr
      exact (hp i hi).2
/-- a description in one cell -/
theorem in_desc1 {n : Nat} {v : Value} {y : DataW H × List MemPlace} (h : DataW.trod enc Tryz.prog W base spare held n 24 [v] = some y) :
    ∃ (A : Option Addr) (ds : List DRule) (c : Nat), v = .slice A ds.length c ∧ RdD W A ds c ∧ WfD ds := by
  obtain ⟨m, y', h'⟩ := trod_one Tryz.underlying24 (by kernel_rfl) h
  exact in_rules h'
theorem open_agg_1 {P : Program} {r : Reach} {b0 : Nat} {t : TypeId} {f0 : Field} {v : Value} {d : DataW H} {p : List MemPlace} (hs : P.underlying t = some (.struct #[f0])) (hone : oneCellFields P #[f0] = true) (hC : P.cellsOf t = 1)
    (hv : Value.okWide P W r b0 t v) (h : DataW.Trod enc P W base spare held t v d p) :
    ∃ (v0 : Value) (y0 : DataW H × List MemPlace) (n : Nat), v = .agg #[v0] ∧ DataW.trod enc P W base spare held n f0.type [v0] = some y0 := by
  obtain ⟨cs, rfl, hsz⟩ := okWide_struct hs hv
  obtain ⟨l⟩ := cs
  match l, hsz.trans hC with
  | [c0], _ =>
    obtain ⟨fuel, hf⟩ := h
    obtain ⟨xs, n, _, hx, _, hlen, hg⟩ := DataW.trod_struct hs hf
    obtain ⟨o0, k0⟩ := Go.Deep.hone_of hone 0 f0 rfl
    match xs, hlen with
    | [y0], _ =>
      exact ⟨c0, y0, n, rfl, by simpa [Value.cells, o0, k0] using hg 0 f0 rfl⟩
end
section
variable {H : Type} {enc : TypeId × Value → H} {W : World} {base : Nat} {spare : Nat → Bool} {held : Bool}
structure DescIn where
  A : Option Addr
  ds : List DRule
  c : Nat
def DescIn.val (x : DescIn) : Value := vdesc (.slice x.A x.ds.length x.c)
def DescIn.rd (x : DescIn) (W : World) : Prop := RdD W x.A x.ds x.c ∧ WfD x.ds
set_option maxRecDepth 100000 in
theorem in_desc {r : Reach} {b0 : Nat} {v : Value} {d : DataW H} {p : List MemPlace}
    (hv : Value.okWide Tryz.prog W r b0 24 v) (h : DataW.Trod enc Tryz.prog W base spare held 24 v d p) : ∃ x : DescIn, v = x.val ∧ x.rd W := by
  obtain ⟨v0, y0, n, rfl, h0⟩ := open_agg_1 Tryz.underlying24 (by kernel_rfl) (by kernel_rfl) hv h
  dsimp only at h0
  obtain ⟨A, ds, c, rfl, h1, h2⟩ := in_rules h0
  exact ⟨⟨A, ds, c⟩, rfl, h1, h2⟩
structure RegIn where
  A : Option Addr
  ds : List (List DRule)
  c : Nat
def RegIn.val (x : RegIn) : Value := vdesc (.slice x.A x.ds.length x.c)
def RegIn.rd (x : RegIn) (W : World) : Prop := RdG W x.A x.ds x.c ∧ WfG x.ds
end
end Go.Proofs.YtjckcbfpejcpcaaGreatDoor

/- A block of cells, known whole. -/
namespace Go.Proofs.YtjckcbfpejcpcaaGreatDoor
open Go.RowKit Go.Sort

theorem heap_ext' {w w' : World} {g : Nat} {o : Obj} (h : w.heap[g]? = some o) (e : Ext w w') : w'.heap[g]? = some o := (Below.block e g (Array.getElem?_eq_some_iff.1 h).1).trans h
theorem grown_set (w : World) (a : Addr) (u : Value) : w.grownBy (w.setCell a u) (some a.block) :=
  ⟨rfl, rfl, rfl, by simp, fun k _ hk => heap_setCell_other w a k u (fun e => hk (by rw [e]))⟩
theorem grown_ext {w w' : World} (e : Ext w w') (row : Option Nat) : w.grownBy w' row := ⟨e.os, e.tape, e.output, e.size, fun i hi _ => Below.block e i hi⟩
/-- a row of cells -/
def Box (w : World) (g : Nat) (cs : Array Value) (T : TypeId) : Prop := w.heap[g]? = some (.cells cs T (0, 0))
theorem Box.lt {w : World} {g : Nat} {cs : Array Value} {T : TypeId} (h : Box w g cs T) : g < w.heap.size := (Array.getElem?_eq_some_iff.1 h).1
theorem Box.new (w : World) (cs : Array Value) (T : TypeId) : Box (w.alloc (.cells cs T)) w.heap.size cs T := heap_alloc_new w _
theorem Box.cell {w : World} {g : Nat} {cs : Array Value} {T : TypeId} (h : Box w g cs T) (i : Nat) : w.cell? ⟨g, i, none⟩ = cs[i]? := cell_of_row w g i cs T (0, 0) h
theorem Box.free {w : World} {g : Nat} {cs : Array Value} {T : TypeId} (h : Box w g cs T) (i : Nat) : w.frozen? ⟨g, i, none⟩ = false := frozen_of_row w g i cs T h
theorem Box.ext {w w' : World} {g : Nat} {cs : Array Value} {T : TypeId} (h : Box w g cs T) (e : Ext w w') : Box w' g cs T := heap_ext' h e
theorem Box.moved {w w' : World} {g : Nat} {cs : Array Value} {T : TypeId} (h : Box w g cs T) {r : Option Nat} (hg : w.grownBy w' r) (hne : r ≠ some g) : Box w' g cs T := (hg.block g h.lt (fun hh => hne hh.symm)).trans h
theorem Box.set {w : World} {g : Nat} {cs : Array Value} {T : TypeId} (h : Box w g cs T) (i : Nat) (u : Value) : Box (w.setCell ⟨g, i, none⟩ u) g (cs.setIfInBounds i u) T := heap_setCell_same w g i cs T u h
theorem Box.other {w : World} {g g' : Nat} {cs : Array Value} {T : TypeId} (h : Box w g cs T) (hne : g ≠ g') (i : Nat) (u : Value) : Box (w.setCell ⟨g', i, none⟩ u) g cs T := (heap_setCell_other w ⟨g', i, none⟩ g u hne).trans h
theorem Box.at {w : World} {g : Nat} {cs : Array Value} {T : TypeId} (h : Box w g cs T) (i : Nat) : ∀ w', Ext w w' → w'.cell? ⟨g, i, none⟩ = cs[i]? := fun _ e => (h.ext e).cell i
theorem Box.frees {w : World} {g : Nat} {cs : Array Value} {T : TypeId} (h : Box w g cs T) (i : Nat) : ∀ w', Ext w w' → w'.frozen? ⟨g, i, none⟩ = false := fun _ e => (h.ext e).free i
/-- three blocks, one behind the other -/
theorem boxes3 (w : World) (c0 c1 c2 : Array Value) (T0 T1 T2 : TypeId) :
    Box (((w.alloc (.cells c0 T0)).alloc (.cells c1 T1)).alloc (.cells c2 T2)) w.heap.size c0 T0 ∧ Box (((w.alloc (.cells c0 T0)).alloc (.cells c1 T1)).alloc (.cells c2 T2)) (w.heap.size + 1) c1 T1 ∧
    Box (((w.alloc (.cells c0 T0)).alloc (.cells c1 T1)).alloc (.cells c2 T2)) (w.heap.size + 1 + 1) c2 T2 ∧ Ext w (((w.alloc (.cells c0 T0)).alloc (.cells c1 T1)).alloc (.cells c2 T2)) ∧
    (((w.alloc (.cells c0 T0)).alloc (.cells c1 T1)).alloc (.cells c2 T2)).heap.size = w.heap.size + 3 := by
  have s1 : (w.alloc (.cells c0 T0)).heap.size = w.heap.size + 1 := by simp
  have s2 : ((w.alloc (.cells c0 T0)).alloc (.cells c1 T1)).heap.size = w.heap.size + 1 + 1 := by simp
  have h1 := Box.new (w.alloc (.cells c0 T0)) c1 T1
  have h2 := Box.new ((w.alloc (.cells c0 T0)).alloc (.cells c1 T1)) c2 T2
  rw [s1] at h1; rw [s2] at h2
  exact ⟨((Box.new w c0 T0).ext (Ext_alloc _ (Ext.refl _))).ext (Ext_alloc _ (Ext.refl _)), h1.ext (Ext_alloc _ (Ext.refl _)), h2, Ext_alloc _ (Ext_alloc _ (Ext_alloc _ (Ext.refl w))), by simp⟩
theorem boxes3' (w : World) (c0 c1 c2 : Array Value) (T0 T1 T2 : TypeId) :
    ∃ W, Hid (W = (((w.alloc (.cells c0 T0)).alloc (.cells c1 T1)).alloc (.cells c2 T2))) ∧ Box W w.heap.size c0 T0 ∧ Box W (w.heap.size + 1) c1 T1 ∧ Box W (w.heap.size + 1 + 1) c2 T2 ∧ Ext w W ∧ W.heap.size = w.heap.size + 3 :=
  ⟨_, rfl, boxes3 w c0 c1 c2 T0 T1 T2⟩
/-- a row of the call's own stays where another block is written -/
theorem Own.other {e : TypeId} {size : Nat} {w0 w : World} {v : Value} {n : Nat} {xs : List Value} (h : Own e size w0 w v n xs) (p : Addr) (u : Value) (hne : v.ownBlock ≠ some p.block) : Own e size w0 (w.setCell p u) v n xs := by
  refine World.ownsRow.kept h (grown_set w p u) ?_
  cases hb : v.ownBlock with
  | none => exact .inl rfl
  | some g => right; rw [hb] at hne; exact fun he => hne he
theorem OwnL.other {α : Type} {f : α → Value} {e : TypeId} {w0 w : World} {v : Value} {l : List α} (h : OwnL f e w0 w v l) (p : Addr) (u : Value) (hne : v.ownBlock ≠ some p.block) : OwnL f e w0 (w.setCell p u) v l := Own.other h p u hne
theorem OwnL.far {α : Type} {f : α → Value} {e : TypeId} {w0 w : World} {v : Value} {l : List α} (h : OwnL f e w0 w v l) {b : Nat} (hb : b < w0.heap.size ∨ w.heap.size ≤ b) : v.ownBlock ≠ some b := by
  intro hv
  have h1 := World.ownsRow.lt h b hv
  omega
theorem OwnL.down {α : Type} {f : α → Value} {e : TypeId} {w0 w1 w : World} {v : Value} {l : List α} (h : OwnL f e w1 w v l) (hb : w0.heap.size ≤ w1.heap.size) : OwnL f e w0 w v l := World.ownsRow.lower h hb
end Go.Proofs.YtjckcbfpejcpcaaGreatDoor

/- Descriptions that a call made itself. -/
namespace Go.Proofs.YtjckcbfpejcpcaaGreatDoor
open Go.RowKit Go.Sort

theorem E_rule : Elem Tryz.prog 33 97 8 136 (.agg #[.string ⟨#[]⟩, .int .i64 0, .int .i64 0, .bool false, .slice none 0 0, .slice none 0 0, .slice none 0 0, .slice none 0 0]) := ⟨Tryz.underlying33, by kernel_rfl, rfl, by omega⟩
/-- no two of the values lie in one block -/
def Far (vs : List Value) : Prop := vs.Pairwise fun a b => ∀ g, a.ownBlock = some g → b.ownBlock ≠ some g
/-- a rule and its four slices -/
structure RV where
  r : DRule
  vb : Value
  vn : Value
  vt : Value
  vk : Value
def RV.cells (p : RV) : List Value := [.string p.r.nm, .int .i64 p.r.kind, .int .i64 p.r.size, .bool p.r.little, p.vb, p.vn, p.vt, p.vk]
def RV.vals (p : RV) : List Value := [p.vb, p.vn, p.vt, p.vk]
theorem RV.cells_one (p : RV) (hb : p.vb.oneCell' = true) (hn : p.vn.oneCell' = true) (ht : p.vt.oneCell' = true) (hk : p.vk.oneCell' = true) : ∀ u ∈ p.cells, u.oneCell' = true := by
  intro u hu; simp [RV.cells] at hu; rcases hu with rfl | rfl | rfl | rfl | rfl | rfl | rfl | rfl <;> first | rfl | assumption
structure RuleOwn (w0 w : World) (p : RV) : Prop where
  b : OwnL vu8 5 w0 w p.vb p.r.bytes
  n : OwnL vstr 9 w0 w p.vn p.r.names
  t : OwnL vint 3 w0 w p.vt p.r.tags
  k : OwnL vint 3 w0 w p.vk p.r.kids
theorem Own.keep {e : TypeId} {size : Nat} {w0 w w' : World} {v : Value} {n : Nat} {xs : List Value} (h : Own e size w0 w v n xs) {row : Option Nat} (hg : w.grownBy w' row) (hne : ∀ g, v.ownBlock = some g → row ≠ some g) : Own e size w0 w' v n xs := by
  refine World.ownsRow.kept h hg ?_
  cases hb : v.ownBlock with
  | none => exact .inl rfl
  | some g => right; exact fun he => hne g hb he.symm
theorem OwnL.keep {α : Type} {f : α → Value} {e : TypeId} {w0 w w' : World} {v : Value} {l : List α} (h : OwnL f e w0 w v l) {row : Option Nat} (hg : w.grownBy w' row) (hne : ∀ g, v.ownBlock = some g → row ≠ some g) : OwnL f e w0 w' v l := Own.keep h hg hne
theorem RuleOwn.ext {w0 w w' : World} {p : RV} (h : RuleOwn w0 w p) (e : Ext w w') : RuleOwn w0 w' p := ⟨h.b.ext e, h.n.ext e, h.t.ext e, h.k.ext e⟩
theorem RuleOwn.down {w0 w1 w : World} {p : RV} (h : RuleOwn w1 w p) (e : w0.heap.size ≤ w1.heap.size) : RuleOwn w0 w p := ⟨h.b.down e, h.n.down e, h.t.down e, h.k.down e⟩
theorem RuleOwn.keep {w0 w w' : World} {p : RV} (h : RuleOwn w0 w p) {row : Option Nat} (hg : w.grownBy w' row) (hne : ∀ v ∈ p.vals, ∀ g, v.ownBlock = some g → row ≠ some g) : RuleOwn w0 w' p :=
  ⟨h.b.keep hg (hne _ (by simp [RV.vals])), h.n.keep hg (hne _ (by simp [RV.vals])), h.t.keep hg (hne _ (by simp [RV.vals])), h.k.keep hg (hne _ (by simp [RV.vals]))⟩
/-- the blocks of a rule's slices: laid since w0, there in w -/
theorem RuleOwn.block {w0 w : World} {p : RV} (h : RuleOwn w0 w p) : ∀ v ∈ p.vals, ∀ g, v.ownBlock = some g → w0.heap.size ≤ g ∧ g < w.heap.size := by
  intro v hv
  simp [RV.vals] at hv
  rcases hv with rfl | rfl | rfl | rfl
  · exact fun g hg => World.ownsRow.lt h.b g hg
  · exact fun g hg => World.ownsRow.lt h.n g hg
  · exact fun g hg => World.ownsRow.lt h.t g hg
  · exact fun g hg => World.ownsRow.lt h.k g hg
/-- rules whose lists are short -/
def ShortR (r : DRule) : Prop := r.bytes.length ≤ 140737488351232 ∧ r.names.length ≤ 140737488351232 ∧ r.tags.length ≤ 140737488351232 ∧ r.kids.length ≤ 140737488351232
theorem szRl_short {r : DRule} (h : szRl r ≤ 1048576) : ShortR r ∧ r.bytes.length ≤ 1048576 ∧ r.names.length ≤ 1048576 ∧ r.tags.length ≤ 1048576 ∧ r.kids.length ≤ 1048576 := by
  unfold szRl at h; unfold ShortR; omega
theorem sum_mem {α : Type} (f : α → Nat) : ∀ (l : List α) (x : α), x ∈ l → f x ≤ (l.map f).sum
  | a :: t, x, hx => by
    rw [List.map_cons, List.sum_cons]
    rcases List.mem_cons.1 hx with rfl | h
    · omega
    · have := sum_mem f t x h; omega
theorem szD_mem {ds : List DRule} {n : Nat} (h : szD ds ≤ n) {r : DRule} (hr : r ∈ ds) : szRl r ≤ n := by
  unfold szD at h; have := sum_mem szRl ds r hr; omega
theorem szG_mem {ds : List (List DRule)} {n : Nat} (h : szG ds ≤ n) {r : List DRule} (hr : r ∈ ds) : szD r ≤ n := by
  unfold szG at h; have := sum_mem szD ds r hr; omega
theorem RuleOwn.rd {w0 w : World} {p : RV} (h : RuleOwn w0 w p) (hs : ShortR p.r) : ∃ Ab cb An cn At ct Ak ck, p.vb = .slice Ab p.r.bytes.length cb ∧ p.vn = .slice An p.r.names.length cn ∧ p.vt = .slice At p.r.tags.length ct ∧ p.vk = .slice Ak p.r.kids.length ck ∧ RdS w p.r Ab cb An cn At ct Ak ck := by
  obtain ⟨Ab, cb, h1, r1⟩ := OwnL.rd h.b hs.1
  obtain ⟨An, cn, h2, r2⟩ := OwnL.rd h.n hs.2.1
  obtain ⟨At, ct, h3, r3⟩ := OwnL.rd h.t hs.2.2.1
  obtain ⟨Ak, ck, h4, r4⟩ := OwnL.rd h.k hs.2.2.2
  exact ⟨Ab, cb, An, cn, At, ct, Ak, ck, h1, h2, h3, h4, r1.1, r2.1, r3.1, r4.1⟩
/-- rules that the call since w0 made, each with slices of its own -/
structure OwnD (w0 w : World) (v : Value) (ps : List RV) : Prop where
  row : Own 97 8 w0 w v ps.length (ps.flatMap RV.cells)
  each : ∀ p ∈ ps, RuleOwn w0 w p
  far : Far (v :: ps.flatMap RV.vals)
def rulesOf (ps : List RV) : List DRule := ps.map RV.r
theorem cells_len (ps : List RV) : (ps.flatMap RV.cells).length = ps.length * 8 := by
  induction ps with
  | nil => rfl
  | cons p t ih => rw [List.flatMap_cons, List.length_append, ih, List.length_cons]; simp [RV.cells]; omega
theorem cells_get : ∀ (ps : List RV) (i j : Nat) (h : i < ps.length), j < 8 → (ps.flatMap RV.cells)[i * 8 + j]? = ps[i].cells[j]? := by
  intro ps
  induction ps with
  | nil => intro i j h; simp at h
  | cons p t ih =>
    intro i j h hj
    rw [List.flatMap_cons]
    cases i with
    | zero =>
      rw [List.getElem?_append_left (by simp [RV.cells]; omega)]
      simp
    | succ i =>
      rw [List.getElem?_append_right (by simp [RV.cells]; omega)]
      have : (i + 1) * 8 + j - p.cells.length = i * 8 + j := by simp [RV.cells]; omega
      rw [this, ih i j (by simpa using h) hj]
      simp
theorem OwnD.ext {w0 w w' : World} {v : Value} {ps : List RV} (h : OwnD w0 w v ps) (e : Ext w w') : OwnD w0 w' v ps := ⟨h.row.ext e, fun p hp => (h.each p hp).ext e, h.far⟩
theorem OwnD.down {w0 w1 w : World} {v : Value} {ps : List RV} (h : OwnD w1 w v ps) (e : w0.heap.size ≤ w1.heap.size) : OwnD w0 w v ps := ⟨World.ownsRow.lower h.row e, fun p hp => (h.each p hp).down e, h.far⟩
theorem OwnD.keep {w0 w w' : World} {v : Value} {ps : List RV} (h : OwnD w0 w v ps) {row : Option Nat} (hg : w.grownBy w' row) (hne : ∀ u ∈ v :: ps.flatMap RV.vals, ∀ g, u.ownBlock = some g → row ≠ some g) : OwnD w0 w' v ps :=
  ⟨h.row.keep hg (hne _ (by simp)), fun p hp => (h.each p hp).keep hg (fun u hu => hne u (List.mem_cons_of_mem _ (List.mem_flatMap.2 ⟨p, hp, hu⟩))), h.far⟩
theorem OwnD.shape {w0 w : World} {v : Value} {ps : List RV} (h : OwnD w0 w v ps) : ∃ A c, v = .slice A ps.length c := by
  rcases h.row.2 with ⟨rfl, hn⟩ | ⟨g, cap, _, rfl, _⟩
  · exact ⟨none, 0, by rw [hn]⟩
  · exact ⟨_, _, rfl⟩
theorem OwnD.block {w0 w : World} {v : Value} {ps : List RV} (h : OwnD w0 w v ps) : ∀ u ∈ v :: ps.flatMap RV.vals, ∀ g, u.ownBlock = some g → w0.heap.size ≤ g ∧ g < w.heap.size := by
  intro u hu
  rcases List.mem_cons.1 hu with rfl | hu
  · exact fun g hg => World.ownsRow.lt h.row g hg
  · obtain ⟨p, hp, hu⟩ := List.mem_flatMap.1 hu
    exact (h.each p hp).block u hu
theorem heap_row {w : World} {g : Nat} {cur : Array Value} {T : TypeId} (hg : w.heap[g]? = some (.cells cur T (0, 0))) {w' : World} (e : Ext w w') (i : Nat) : w'.cell? ⟨g, i, none⟩ = cur[i]? :=
  cell_of_row w' g i cur T (0, 0) ((Below.block e g (Array.getElem?_eq_some_iff.1 hg).1).trans hg)
theorem OwnD.rd {w0 w : World} {v : Value} {ps : List RV} (h : OwnD w0 w v ps) (hl : ps.length ≤ 9223372036854775807) (hs : ∀ p ∈ ps, ShortR p.r) : ∃ A c, v = .slice A (rulesOf ps).length c ∧ RdD w A (rulesOf ps) c := by
  have hlen : (rulesOf ps).length = ps.length := by simp [rulesOf]
  rcases h.row.2 with ⟨rfl, h0⟩ | ⟨g, cap, cur, rfl, hb, hg, hnc, hcm, hcs, htake⟩
  · exact ⟨none, 0, by rw [hlen, h0], by omega, by omega, fun hp => by omega⟩
  · refine ⟨_, _, by rw [hlen], by omega, by omega, fun hp => ⟨g, 0, rfl, (Array.getElem?_eq_some_iff.1 hg).1, fun i hi => ?_⟩⟩
    have hi' : i < ps.length := by omega
    have hr : (rulesOf ps)[i] = ps[i].r := by simp [rulesOf]
    have hc : ∀ (w' : World), Ext w w' → ∀ j, j < 8 → w'.cell? ⟨g, i * 8 + j, none⟩ = ps[i].cells[j]? := by
      intro w' e j hj
      rw [heap_row hg e, ← cells_get ps i j hi' hj, ← htake, List.getElem?_take, if_pos (by omega)]
      simp
    obtain ⟨Ab, cb, An, cn, At, ct, Ak, ck, e1, e2, e3, e4, hS⟩ := (h.each _ (List.getElem_mem hi')).rd (hs _ (List.getElem_mem hi'))
    rw [hr]
    refine ⟨Ab, cb, An, cn, At, ct, Ak, ck, hS, ?_⟩
    rw [← e1, ← e2, ← e3, ← e4, Nat.zero_add]
    exact ⟨fun w' e => by have := hc w' e 0 (by omega); simpa [RV.cells] using this, fun w' e => by have := hc w' e 1 (by omega); simpa [RV.cells] using this, fun w' e => by have := hc w' e 2 (by omega); simpa [RV.cells] using this, fun w' e => by have := hc w' e 3 (by omega); simpa [RV.cells] using this,
      fun w' e => by have := hc w' e 4 (by omega); simpa [RV.cells] using this, fun w' e => by have := hc w' e 5 (by omega); simpa [RV.cells] using this, fun w' e => by have := hc w' e 6 (by omega); simpa [RV.cells] using this, fun w' e => by have := hc w' e 7 (by omega); simpa [RV.cells] using this⟩
/-- eight cells are laid into a row -/
theorem set8 (xs : List Value) (p : RV) (rest : List Value) (hr : 8 ≤ rest.length) (k : Nat) (hk : xs.length = k) :
    ((((((((xs ++ rest).set k (.string p.r.nm)).set (k + 1) (.int .i64 p.r.kind)).set (k + 2) (.int .i64 p.r.size)).set (k + 3) (.bool p.r.little)).set (k + 4) p.vb).set (k + 5) p.vn).set (k + 6) p.vt).set (k + 7) p.vk = (xs ++ p.cells) ++ rest.drop 8 := by
  match rest, hr with
  | a0 :: a1 :: a2 :: a3 :: a4 :: a5 :: a6 :: a7 :: t, _ =>
    subst hk
    rw [List.set_append_right _ _ (by omega), List.set_append_right _ _ (by omega), List.set_append_right _ _ (by omega), List.set_append_right _ _ (by omega), List.set_append_right _ _ (by omega), List.set_append_right _ _ (by omega), List.set_append_right _ _ (by omega), List.set_append_right _ _ (by omega)]
    rw [show xs.length - xs.length = 0 by omega, show xs.length + 1 - xs.length = 1 by omega, show xs.length + 2 - xs.length = 2 by omega, show xs.length + 3 - xs.length = 3 by omega, show xs.length + 4 - xs.length = 4 by omega, show xs.length + 5 - xs.length = 5 by omega, show xs.length + 6 - xs.length = 6 by omega, show xs.length + 7 - xs.length = 7 by omega]
    simp [RV.cells]
/-- the world behind eight stores -/
def put8 (w : World) (g k : Nat) (p : RV) : World :=
  (((((((w.setCell ⟨g, k, none⟩ (.string p.r.nm)).setCell ⟨g, k + 1, none⟩ (.int .i64 p.r.kind)).setCell ⟨g, k + 2, none⟩ (.int .i64 p.r.size)).setCell ⟨g, k + 3, none⟩ (.bool p.r.little)).setCell ⟨g, k + 4, none⟩ p.vb).setCell ⟨g, k + 5, none⟩ p.vn).setCell ⟨g, k + 6, none⟩ p.vt).setCell ⟨g, k + 7, none⟩ p.vk
theorem grown_put8 (w : World) (g k : Nat) (p : RV) : w.grownBy (put8 w g k p) (some g) := by
  unfold put8
  exact ((((((((grown_set w ⟨g, k, none⟩ _).trans (grown_set _ ⟨g, k + 1, none⟩ _)).trans (grown_set _ ⟨g, k + 2, none⟩ _)).trans (grown_set _ ⟨g, k + 3, none⟩ _)).trans (grown_set _ ⟨g, k + 4, none⟩ _)).trans (grown_set _ ⟨g, k + 5, none⟩ _)).trans (grown_set _ ⟨g, k + 6, none⟩ _)).trans (grown_set _ ⟨g, k + 7, none⟩ _))
theorem Own.put8 {e : TypeId} {w0 w : World} {g n cap : Nat} {xs rest : List Value} (h : Own e 8 w0 w (.slice (some ⟨g, 0, none⟩) n cap) n (xs ++ rest)) (he : Ext w0 w) (p : RV) (hr : 8 ≤ rest.length) (k : Nat) (hk : xs.length = k) :
    Own e 8 w0 (put8 w g k p) (.slice (some ⟨g, 0, none⟩) n cap) n ((xs ++ p.cells) ++ rest.drop 8) ∧ Ext w0 (put8 w g k p) := by
  rw [← set8 xs p rest hr k hk]
  obtain ⟨h0, e0⟩ := h.store he k (.string p.r.nm)
  obtain ⟨h1, e1⟩ := Own.store h0 e0 (k + 1) (.int .i64 p.r.kind)
  obtain ⟨h2, e2⟩ := Own.store h1 e1 (k + 2) (.int .i64 p.r.size)
  obtain ⟨h3, e3⟩ := Own.store h2 e2 (k + 3) (.bool p.r.little)
  obtain ⟨h4, e4⟩ := Own.store h3 e3 (k + 4) p.vb
  obtain ⟨h5, e5⟩ := Own.store h4 e4 (k + 5) p.vn
  obtain ⟨h6, e6⟩ := Own.store h5 e5 (k + 6) p.vt
  obtain ⟨h7, e7⟩ := Own.store h6 e6 (k + 7) p.vk
  exact ⟨h7, e7⟩
theorem Far.append {a b : List Value} (ha : Far a) (hb : Far b) (h : ∀ u ∈ a, ∀ v ∈ b, ∀ g, u.ownBlock = some g → v.ownBlock ≠ some g) : Far (a ++ b) := List.pairwise_append.2 ⟨ha, hb, h⟩
theorem Far.cons {u : Value} {b : List Value} (hb : Far b) (h : ∀ v ∈ b, ∀ g, u.ownBlock = some g → v.ownBlock ≠ some g) : Far (u :: b) := List.pairwise_cons.2 ⟨h, hb⟩
theorem Far.nil : Far [] := List.Pairwise.nil
theorem Far.one (v : Value) : Far [v] := List.pairwise_singleton _ v
/-- descriptions that the call since w0 made: a slice's value and its rules, each -/
structure OwnG (w0 w : World) (v : Value) (qs : List (Value × List RV)) : Prop where
  row : Own 35 1 w0 w v qs.length (qs.map Prod.fst)
  each : ∀ q ∈ qs, OwnD w0 w q.1 q.2
  far : Far (v :: qs.flatMap fun q => q.1 :: q.2.flatMap RV.vals)
def descsOf (qs : List (Value × List RV)) : List (List DRule) := qs.map fun q => rulesOf q.2
theorem OwnG.ext {w0 w w' : World} {v : Value} {qs : List (Value × List RV)} (h : OwnG w0 w v qs) (e : Ext w w') : OwnG w0 w' v qs := ⟨h.row.ext e, fun p hp => (h.each p hp).ext e, h.far⟩
theorem OwnG.down {w0 w1 w : World} {v : Value} {qs : List (Value × List RV)} (h : OwnG w1 w v qs) (e : w0.heap.size ≤ w1.heap.size) : OwnG w0 w v qs := ⟨World.ownsRow.lower h.row e, fun p hp => (h.each p hp).down e, h.far⟩
theorem OwnG.shape {w0 w : World} {v : Value} {qs : List (Value × List RV)} (h : OwnG w0 w v qs) : ∃ A c, v = .slice A qs.length c := by
  rcases h.row.2 with ⟨rfl, hn⟩ | ⟨g, cap, _, rfl, _⟩
  · exact ⟨none, 0, by rw [hn]⟩
  · exact ⟨_, _, rfl⟩
theorem OwnG.block {w0 w : World} {v : Value} {qs : List (Value × List RV)} (h : OwnG w0 w v qs) : ∀ u ∈ v :: (qs.flatMap fun q => q.1 :: q.2.flatMap RV.vals), ∀ g, u.ownBlock = some g → w0.heap.size ≤ g ∧ g < w.heap.size := by
  intro u hu
  rcases List.mem_cons.1 hu with rfl | hu
  · exact fun g hg => World.ownsRow.lt h.row g hg
  · obtain ⟨p, hp, hu⟩ := List.mem_flatMap.1 hu
    exact (h.each p hp).block u hu
theorem OwnG.keep {w0 w w' : World} {v : Value} {qs : List (Value × List RV)} (h : OwnG w0 w v qs) {row : Option Nat} (hg : w.grownBy w' row) (hne : ∀ u ∈ v :: (qs.flatMap fun q => q.1 :: q.2.flatMap RV.vals), ∀ g, u.ownBlock = some g → row ≠ some g) : OwnG w0 w' v qs :=
  ⟨h.row.keep hg (hne _ (by simp)), fun p hp => (h.each p hp).keep hg (fun u hu => hne u (List.mem_cons_of_mem _ (List.mem_flatMap.2 ⟨p, hp, hu⟩))), h.far⟩
theorem OwnG.rd {w0 w : World} {v : Value} {qs : List (Value × List RV)} (h : OwnG w0 w v qs) (hl : qs.length ≤ 9223372036854775807) (hl2 : ∀ q ∈ qs, q.2.length ≤ 9223372036854775807) (hs : ∀ q ∈ qs, ∀ p ∈ q.2, ShortR p.r) : ∃ A c, v = .slice A (descsOf qs).length c ∧ RdG w A (descsOf qs) c := by
  have hlen : (descsOf qs).length = qs.length := by simp [descsOf]
  rcases h.row.2 with ⟨rfl, h0⟩ | ⟨g, cap, cur, rfl, hb, hg, hnc, hcm, hcs, htake⟩
  · exact ⟨none, 0, by rw [hlen, h0], by omega, by omega, fun hp => by omega⟩
  · refine ⟨_, _, by rw [hlen], by omega, by omega, fun hp => ⟨g, 0, rfl, (Array.getElem?_eq_some_iff.1 hg).1, fun i hi => ?_⟩⟩
    have hi' : i < qs.length := by omega
    have hr : (descsOf qs)[i] = rulesOf qs[i].2 := by simp [descsOf]
    rw [hr]
    obtain ⟨A', c', hv, hR⟩ := (h.each _ (List.getElem_mem hi')).rd (hl2 _ (List.getElem_mem hi')) (hs _ (List.getElem_mem hi'))
    refine ⟨A', c', hR, fun w' e => ?_⟩
    rw [heap_row hg e, ← hv, Nat.zero_add]
    have h2 : (cur.toList.take (qs.length * 1))[i]? = (qs.map Prod.fst)[i]? := by rw [htake]
    rw [List.getElem?_take, if_pos (by omega)] at h2
    simpa [hi'] using h2
end Go.Proofs.YtjckcbfpejcpcaaGreatDoor

/- The laws' copies of descriptions and registries. -/
namespace Go.Proofs.YtjckcbfpejcpcaaGreatDoor
open Go.RowKit Go.Sort

theorem E_str : Elem Tryz.prog 90 9 1 16 (.string ⟨#[]⟩) := ⟨Tryz.underlying90, by kernel_rfl, rfl, by omega⟩
set_option maxHeartbeats 400000 in
theorem toStringS_c (A : Option Addr) (l : List ByteArray) (c : Nat) (w : World) (h : Rd0 vstr w A l c) (hL : l.length ≤ 1048576) :
    Calls Tryz.prog 93 #[.slice A l.length c] w fun e w' => ∃ v, e = .returned v ∧ OwnL vstr 9 w w' v l ∧ Ext w w' := by
  go_enter Tryz.func93, Tryz.ntmps93
  go_wp2_with (first
    | (at_make; refine wpList_mk rfl _ _ _ rfl E_str w w (Ext.refl w) l.length rfl rfl (by omega) (by simp [maxLen]; omega) ?_; intro w1 ho he _))
  go_loopw [4] (fun i wr => ∃ k : Nat, k ≤ l.length ∧ i = .int .i64 k ∧ Own 9 1 w wr (.slice (some ⟨w.heap.size, 0, none⟩) l.length l.length) l.length ((l.take k).map vstr ++ List.replicate (l.length - k) (.string ⟨#[]⟩)) ∧ Ext w wr) (fun i _ => l.length - (intOf i).toNat)
  case atStart => exact ⟨0, by omega, rfl, by rw [made_one _ rfl] at ho; simpa using ho, he⟩
  case round =>
    clear ho he
    obtain ⟨k, hk, rfl, ho, he⟩ := hrel
    by_cases hlt : k < l.length
    · obtain ⟨b, off, rfl, hb, hc⟩ := h.at k hlt
      obtain ⟨⟨u0, hu⟩, hf⟩ := ho.slot k (by simp; omega)
      obtain ⟨ho', he'⟩ := ho.store he k (vstr l[k])
      rw [fill_step vstr l _ k hlt] at ho'
      clear h ho
      go_wp2
      go_roundw
      case rel => exact ⟨k+1, by omega, by go_num, ho', he'⟩
      case measure => simp [intOf]; omega
    · obtain rfl : k = l.length := by omega
      go_wp2
      go_ret
      exact ⟨_, rfl, by simpa [OwnL] using ho, he⟩
set_option maxRecDepth 100000 in
set_option maxHeartbeats 4000000 in
theorem toRule_c (r : DRule) (Ab : Option Addr) (cb : Nat) (An : Option Addr) (cn : Nat) (At : Option Addr) (ct : Nat) (Ak : Option Addr) (ck : Nat) (w : World) (h : RdS w r Ab cb An cn At ct Ak ck) (hz : szRl r ≤ 1048576) :
    Calls Tryz.prog 64 #[vrule r (.slice Ab r.bytes.length cb) (.slice An r.names.length cn) (.slice At r.tags.length ct) (.slice Ak r.kids.length ck)] w fun e w' => ∃ vb vn vt vk, e = .returned (vrule r vb vn vt vk) ∧ RuleOwn w w' ⟨r, vb, vn, vt, vk⟩ ∧ Far [vb, vn, vt, vk] ∧ Ext w w' := by
  obtain ⟨hb, hn, ht, hk⟩ := h
  obtain ⟨⟨s1, s2, s3, s4⟩, z1, z2, z3, z4⟩ := szRl_short hz
  have C1 := Lib.hid (fun w h => toByteS_c Ab r.bytes cb w h z1)
  have C2 := Lib.hid (fun w h => toStringS_c An r.names cn w h z2)
  have C3 := Lib.hid (fun w h => toIntS_c At r.tags ct w h z3)
  have C4 := Lib.hid (fun w h => toIntS_c Ak r.kids ck w h z4)
  obtain ⟨nm, kind, size, little, bytes, names, tags, kids⟩ := r
  dsimp only at *
  obtain ⟨W0, HW0, HA, HR, HO, eA, hsA⟩ := boxes3' w #[.string nm, .int .i64 kind, .int .i64 size, .bool little, .slice Ab bytes.length cb, .slice An names.length cn, .slice At tags.length ct, .slice Ak kids.length ck] #[.string ⟨#[]⟩, .int .i64 0, .int .i64 0, .bool false, .slice none 0 0, .slice none 0 0, .slice none 0 0, .slice none 0 0] #[.string nm, .int .i64 kind, .int .i64 size, .bool little, .slice none 0 0, .slice none 0 0, .slice none 0 0, .slice none 0 0] 101 97 97
  have HSA := Lib.hid hsA; clear hsA
  have HA0 := Lib.hid HA; have HR0 := Lib.hid HR; have HO0 := Lib.hid HO; clear HA HR HO
  unfold vrule
  dsimp only
  go_enter Tryz.func64, Tryz.ntmps64
  go_wp2_with fail
  rw [← HW0.out]
  refine (C1.out _ (hb.ext eA)).mono ?_; rintro _ w1 ⟨v1, rfl, ho1, he1⟩
  obtain ⟨A1, c1, rfl, _⟩ := OwnL.rd ho1 s1
  have a1 := (HA0.out.ext he1).cell; have p1 := (HO0.out.ext he1).cell; have q1 := (HO0.out.ext he1).free
  have f1 : (Value.slice A1 bytes.length c1).ownBlock ≠ some (w.heap.size + 1 + 1) := OwnL.far ho1 (.inl (by have := HO0.out.lt; omega))
  have g1 : ∀ g, (Value.slice A1 bytes.length c1).ownBlock = some g → W0.heap.size ≤ g ∧ g < w1.heap.size := fun g hg => World.ownsRow.lt ho1 g hg
  have G1 := Lib.hid g1; have F1 := Lib.hid f1; have S1 := Lib.hid (by simp : w1.heap.size ≤ (w1.setCell ⟨w.heap.size + 1 + 1, 4, none⟩ (.slice A1 bytes.length c1)).heap.size); have T1 := Lib.hid he1.size
  have O11 := Lib.hid (OwnL.other ho1 ⟨w.heap.size + 1 + 1, 4, none⟩ (.slice A1 bytes.length c1) f1)
  have HA1 := Lib.hid ((HA0.out.ext he1).other (g' := w.heap.size + 1 + 1) (by omega) 4 (.slice A1 bytes.length c1)); have HR1 := Lib.hid ((HR0.out.ext he1).other (g' := w.heap.size + 1 + 1) (by omega) 4 (.slice A1 bytes.length c1)); have HO1 := Lib.hid ((HO0.out.ext he1).set 4 (.slice A1 bytes.length c1))
  have e1 := (eA.trans he1).setCell (p := ⟨w.heap.size + 1 + 1, 4, none⟩) (by show w.heap.size ≤ w.heap.size + 1 + 1; omega) (.slice A1 bytes.length c1)
  clear ho1 f1 g1 HA0 HR0 HO0 he1 eA
  go_wp2_with fail
  generalize w1.setCell ⟨w.heap.size + 1 + 1, 4, none⟩ (.slice A1 bytes.length c1) = W1 at *
  clear a1 p1 q1
  refine (C2.out _ (hn.ext e1)).mono ?_; rintro _ w2 ⟨v2, rfl, ho2, he2⟩
  obtain ⟨A2, c2, rfl, _⟩ := OwnL.rd ho2 s2
  have a2 := (HA1.out.ext he2).cell; have p2 := (HO1.out.ext he2).cell; have q2 := (HO1.out.ext he2).free
  have f2 : (Value.slice A2 names.length c2).ownBlock ≠ some (w.heap.size + 1 + 1) := OwnL.far ho2 (.inl (by have := HO1.out.lt; omega))
  have g2 : ∀ g, (Value.slice A2 names.length c2).ownBlock = some g → W1.heap.size ≤ g ∧ g < w2.heap.size := fun g hg => World.ownsRow.lt ho2 g hg
  have G2 := Lib.hid g2; have F2 := Lib.hid f2; have S2 := Lib.hid (by simp : w2.heap.size ≤ (w2.setCell ⟨w.heap.size + 1 + 1, 5, none⟩ (.slice A2 names.length c2)).heap.size); have T2 := Lib.hid he2.size
  have O22 := Lib.hid (OwnL.other ho2 ⟨w.heap.size + 1 + 1, 5, none⟩ (.slice A2 names.length c2) f2)
  have O12 := Lib.hid (OwnL.other (O11.out.ext he2) ⟨w.heap.size + 1 + 1, 5, none⟩ (.slice A2 names.length c2) F1.out)
  have HA2 := Lib.hid ((HA1.out.ext he2).other (g' := w.heap.size + 1 + 1) (by omega) 5 (.slice A2 names.length c2)); have HR2 := Lib.hid ((HR1.out.ext he2).other (g' := w.heap.size + 1 + 1) (by omega) 5 (.slice A2 names.length c2)); have HO2 := Lib.hid ((HO1.out.ext he2).set 5 (.slice A2 names.length c2))
  have e2 := (e1.trans he2).setCell (p := ⟨w.heap.size + 1 + 1, 5, none⟩) (by show w.heap.size ≤ w.heap.size + 1 + 1; omega) (.slice A2 names.length c2)
  clear ho2 f2 g2 HA1 HR1 HO1 he2 e1 O11
  go_wp2_with fail
  generalize w2.setCell ⟨w.heap.size + 1 + 1, 5, none⟩ (.slice A2 names.length c2) = W2 at *
  clear a2 p2 q2
  refine (C3.out _ (ht.ext e2)).mono ?_; rintro _ w3 ⟨v3, rfl, ho3, he3⟩
  obtain ⟨A3, c3, rfl, _⟩ := OwnL.rd ho3 s3
  have a3 := (HA2.out.ext he3).cell; have p3 := (HO2.out.ext he3).cell; have q3 := (HO2.out.ext he3).free
  have f3 : (Value.slice A3 tags.length c3).ownBlock ≠ some (w.heap.size + 1 + 1) := OwnL.far ho3 (.inl (by have := HO2.out.lt; omega))
  have g3 : ∀ g, (Value.slice A3 tags.length c3).ownBlock = some g → W2.heap.size ≤ g ∧ g < w3.heap.size := fun g hg => World.ownsRow.lt ho3 g hg
  have G3 := Lib.hid g3; have F3 := Lib.hid f3; have S3 := Lib.hid (by simp : w3.heap.size ≤ (w3.setCell ⟨w.heap.size + 1 + 1, 6, none⟩ (.slice A3 tags.length c3)).heap.size); have T3 := Lib.hid he3.size
  have O33 := Lib.hid (OwnL.other ho3 ⟨w.heap.size + 1 + 1, 6, none⟩ (.slice A3 tags.length c3) f3)
  have O13 := Lib.hid (OwnL.other (O12.out.ext he3) ⟨w.heap.size + 1 + 1, 6, none⟩ (.slice A3 tags.length c3) F1.out)
  have O23 := Lib.hid (OwnL.other (O22.out.ext he3) ⟨w.heap.size + 1 + 1, 6, none⟩ (.slice A3 tags.length c3) F2.out)
  have HA3 := Lib.hid ((HA2.out.ext he3).other (g' := w.heap.size + 1 + 1) (by omega) 6 (.slice A3 tags.length c3)); have HR3 := Lib.hid ((HR2.out.ext he3).other (g' := w.heap.size + 1 + 1) (by omega) 6 (.slice A3 tags.length c3)); have HO3 := Lib.hid ((HO2.out.ext he3).set 6 (.slice A3 tags.length c3))
  have e3 := (e2.trans he3).setCell (p := ⟨w.heap.size + 1 + 1, 6, none⟩) (by show w.heap.size ≤ w.heap.size + 1 + 1; omega) (.slice A3 tags.length c3)
  clear ho3 f3 g3 HA2 HR2 HO2 he3 e2 O12 O22
  go_wp2_with fail
  generalize w3.setCell ⟨w.heap.size + 1 + 1, 6, none⟩ (.slice A3 tags.length c3) = W3 at *
  clear a3 p3 q3
  refine (C4.out _ (hk.ext e3)).mono ?_; rintro _ w4 ⟨v4, rfl, ho4, he4⟩
  obtain ⟨A4, c4, rfl, _⟩ := OwnL.rd ho4 s4
  have a4 := (HA3.out.ext he4).cell; have p4 := (HO3.out.ext he4).cell; have q4 := (HO3.out.ext he4).free
  have r4 := (HR3.out.ext he4).cell; have t4 := (HR3.out.ext he4).free
  have f4 : (Value.slice A4 kids.length c4).ownBlock ≠ some (w.heap.size + 1 + 1) := OwnL.far ho4 (.inl (by have := HO3.out.lt; omega))
  have g4 : ∀ g, (Value.slice A4 kids.length c4).ownBlock = some g → W3.heap.size ≤ g ∧ g < w4.heap.size := fun g hg => World.ownsRow.lt ho4 g hg
  have G4 := Lib.hid g4; have F4 := Lib.hid f4; have S4 := Lib.hid (by simp : w4.heap.size ≤ (w4.setCell ⟨w.heap.size + 1 + 1, 7, none⟩ (.slice A4 kids.length c4)).heap.size); have T4 := Lib.hid he4.size
  have O44 := Lib.hid (OwnL.other ho4 ⟨w.heap.size + 1 + 1, 7, none⟩ (.slice A4 kids.length c4) f4)
  have O14 := Lib.hid (OwnL.other (O13.out.ext he4) ⟨w.heap.size + 1 + 1, 7, none⟩ (.slice A4 kids.length c4) F1.out)
  have O24 := Lib.hid (OwnL.other (O23.out.ext he4) ⟨w.heap.size + 1 + 1, 7, none⟩ (.slice A4 kids.length c4) F2.out)
  have O34 := Lib.hid (OwnL.other (O33.out.ext he4) ⟨w.heap.size + 1 + 1, 7, none⟩ (.slice A4 kids.length c4) F3.out)
  have HA4 := Lib.hid ((HA3.out.ext he4).other (g' := w.heap.size + 1 + 1) (by omega) 7 (.slice A4 kids.length c4)); have HR4 := Lib.hid ((HR3.out.ext he4).other (g' := w.heap.size + 1 + 1) (by omega) 7 (.slice A4 kids.length c4)); have HO4 := Lib.hid ((HO3.out.ext he4).set 7 (.slice A4 kids.length c4))
  have e4 := (e3.trans he4).setCell (p := ⟨w.heap.size + 1 + 1, 7, none⟩) (by show w.heap.size ≤ w.heap.size + 1 + 1; omega) (.slice A4 kids.length c4)
  clear ho4 f4 g4 HA3 HR3 HO3 he4 e3 O13 O23 O33
  go_wp2
  have z0 := HSA.out
  have S1 := S1.out; have S2 := S2.out; have S3 := S3.out; have S4 := S4.out; have T1 := T1.out; have T2 := T2.out; have T3 := T3.out; have T4 := T4.out
  have G := grown_put8 (w4.setCell ⟨w.heap.size + 1 + 1, 7, none⟩ (.slice A4 kids.length c4)) (w.heap.size + 1) 0 ⟨⟨nm, kind, size, little, bytes, names, tags, kids⟩, .slice A1 bytes.length c1, .slice A2 names.length c2, .slice A3 tags.length c3, .slice A4 kids.length c4⟩
  refine bodyPost_ret (v := .agg #[.string nm, .int .i64 kind, .int .i64 size, .bool little, .slice A1 bytes.length c1, .slice A2 names.length c2, .slice A3 tags.length c3, .slice A4 kids.length c4]) (by simp [results, Tryz.results64, go_sem, a4, p4, q4, r4, t4]) rfl ⟨_, _, _, _, rfl, ⟨?_, ?_, ?_, ?_⟩, ?_, ?_⟩
  · exact (OwnL.keep O14.out G (fun g hg he => by have := G1.out g hg; injection he with he; omega)).down (by omega)
  · exact (OwnL.keep O24.out G (fun g hg he => by have := G2.out g hg; injection he with he; omega)).down (by omega)
  · exact (OwnL.keep O34.out G (fun g hg he => by have := G3.out g hg; injection he with he; omega)).down (by omega)
  · exact (OwnL.keep O44.out G (fun g hg he => by have := G4.out g hg; injection he with he; omega)).down (by omega)
  · refine Far.cons (Far.cons (Far.cons (Far.one _) ?_) ?_) ?_
    · intro v hv g h1 h2
      have := G3.out g h1
      simp only [List.mem_cons, List.not_mem_nil, or_false] at hv
      rcases hv with rfl
      have := G4.out g h2; omega
    · intro v hv g h1 h2
      have := G2.out g h1
      simp only [List.mem_cons, List.not_mem_nil, or_false] at hv
      rcases hv with rfl | rfl
      · have := G3.out g h2; omega
      · have := G4.out g h2; omega
    · intro v hv g h1 h2
      have := G1.out g h1
      simp only [List.mem_cons, List.not_mem_nil, or_false] at hv
      rcases hv with rfl | rfl | rfl
      · have := G2.out g h2; omega
      · have := G3.out g h2; omega
      · have := G4.out g h2; omega
  · exact e4.grown G (fun g hg => by injection hg with hg; omega)
theorem rulesOf_append (a b : List RV) : rulesOf (a ++ b) = rulesOf a ++ rulesOf b := by simp [rulesOf]
theorem own_grown {e : TypeId} {size : Nat} {w0 w w' : World} {v : Value} {n : Nat} {xs : List Value} (h : Own e size w0 w v n xs) {g : Nat} (hg : w.grownBy w' (some g)) (hne : ∀ k, v.ownBlock = some k → k ≠ g) : Own e size w0 w' v n xs :=
  h.keep hg (fun k hk he => by injection he with he; exact hne k hk he.symm)
set_option maxRecDepth 100000 in
set_option maxHeartbeats 4000000 in
theorem toRuleS_c (A : Option Addr) (ds : List DRule) (c : Nat) (w : World) (h : RdD w A ds c) (hz : szD ds ≤ 1048576) :
    Calls Tryz.prog 32 #[.slice A ds.length c] w fun e w' => ∃ v ps, e = .returned v ∧ rulesOf ps = ds ∧ OwnD w w' v ps ∧ Ext w w' := by
  have hn : ds.length ≤ 1048576 := by unfold szD at hz; omega
  have HZ : Hid (∀ k (hk : k < ds.length), szRl ds[k] ≤ 1048576) := fun k hk => szD_mem hz (List.getElem_mem hk)
  go_enter Tryz.func32, Tryz.ntmps32
  go_wp2_with (first
    | (at_make; refine wpList_mk rfl _ _ _ rfl E_rule w w (Ext.refl w) ds.length rfl rfl (by omega) (by simp [maxLen]; omega) ?_; intro w1 ho he _))
  have hw1 : w.heap.size < w1.heap.size := (World.ownsRow.lt ho _ rfl).2
  obtain ⟨rest0, HR0, HO⟩ : ∃ rest0 : List Value, Hid (rest0.length = ds.length * 8) ∧ Hid (Own 97 8 w w1 (.slice (some ⟨w.heap.size, 0, none⟩) ds.length ds.length) ds.length rest0) := ⟨_, by show _ = _; rw [Array.length_toList, size_madeCells], ho⟩
  clear ho
  go_loopw [4] (fun i wr => ∃ (k : Nat) (ps : List RV) (rest : List Value), k ≤ ds.length ∧ i = .int .i64 k ∧ ps.length ≤ k ∧ k ≤ ps.length ∧ Hid (rulesOf ps = ds.take k) ∧ Hid (rest.length = (ds.length - k) * 8) ∧ Hid (Own 97 8 w wr (.slice (some ⟨w.heap.size, 0, none⟩) ds.length ds.length) ds.length (ps.flatMap RV.cells ++ rest)) ∧ Hid (∀ p ∈ ps, RuleOwn w1 wr p) ∧ Hid (Far (ps.flatMap RV.vals)) ∧ Ext w wr ∧ w1.heap.size ≤ wr.heap.size) (fun i _ => ds.length - (intOf i).toNat)
  case atStart => exact ⟨0, [], rest0, by omega, rfl, by simp, by simp, by simp [Hid, rulesOf], by simpa [Hid] using HR0.out, by simpa [Hid] using HO.out, by simp [Hid], Far.nil, he, Nat.le_refl _⟩
  case round =>
    clear HO HR0 rest0 he
    obtain ⟨k, ps, rest, hk, rfl, hl1, hl2, hps, hrest, ho, hq, hfar, he, hsz⟩ := hrel
    by_cases hlt : k < ds.length
    · obtain ⟨b, off, Ab, cb, An, cn, At, ct, Ak, ck, rfl, hb, hs, hr⟩ := h.at k hlt
      have hzk := HZ.out k hlt
      have HT : Hid (ds.take (k+1) = ds.take k ++ [ds[k]]) := List.take_succ_eq_append_getElem hlt
      generalize ds[k] = r at *
      have C := Lib.hid (fun w h => toRule_c r Ab cb An cn At ct Ak ck w h hzk)
      obtain ⟨k0, k1, k2, k3, k4, k5, k6, k7⟩ := hr
      unfold vrule at C
      clear h
      go_wp2_with fail
      refine (C.out _ (hs.ext he)).mono ?_; rintro _ w2 ⟨vb, vn, vt, vk, rfl, hro, hfr, he2⟩
      obtain ⟨Ab', cb', An', cn', At', ct', Ak', ck', e1, e2, e3, e4, _⟩ := hro.rd (szRl_short hzk).1
      dsimp only at e1 e2 e3 e4
      subst e1 e2 e3 e4
      have ho2 := Own.ext ho.out he2
      have hln : (ps.flatMap RV.cells ++ rest).length = ds.length * 8 := ho2.1
      obtain ⟨⟨u0, hu0⟩, hf0⟩ := ho2.slot (k * 8) (by rw [hln]; omega)
      obtain ⟨⟨u1, hu1⟩, hf1⟩ := ho2.slot (k * 8 + 1) (by rw [hln]; omega)
      obtain ⟨⟨u2, hu2⟩, hf2⟩ := ho2.slot (k * 8 + 2) (by rw [hln]; omega)
      obtain ⟨⟨u3, hu3⟩, hf3⟩ := ho2.slot (k * 8 + 3) (by rw [hln]; omega)
      obtain ⟨⟨u4, hu4⟩, hf4⟩ := ho2.slot (k * 8 + 4) (by rw [hln]; omega)
      obtain ⟨⟨u5, hu5⟩, hf5⟩ := ho2.slot (k * 8 + 5) (by rw [hln]; omega)
      obtain ⟨⟨u6, hu6⟩, hf6⟩ := ho2.slot (k * 8 + 6) (by rw [hln]; omega)
      obtain ⟨⟨u7, hu7⟩, hf7⟩ := ho2.slot (k * 8 + 7) (by rw [hln]; omega)
      have hlr := hrest.out
      have hpl : ps.length = k := by omega
      obtain ⟨hO, hE⟩ := Own.put8 ho2 (he.trans he2) ⟨r, .slice Ab' r.bytes.length cb', .slice An' r.names.length cn', .slice At' r.tags.length ct', .slice Ak' r.kids.length ck'⟩ (by omega) (k * 8) (by rw [cells_len]; omega)
      have hG := grown_put8 w2 w.heap.size (k * 8) ⟨r, .slice Ab' r.bytes.length cb', .slice An' r.names.length cn', .slice At' r.tags.length ct', .slice Ak' r.kids.length ck'⟩
      have HO := Lib.hid hO; have HE := Lib.hid hE; have HG := Lib.hid hG; have HRO := Lib.hid hro; have HF4 := Lib.hid hfr; have HPL := Lib.hid hpl; have HLR := Lib.hid hlr
      have hsz2 := he2.size
      clear ho2 hO hE hG hro hfr hpl hlr ho
      go_wp2
      go_roundw
      case rel =>
        refine ⟨k+1, ps ++ [⟨r, .slice Ab' r.bytes.length cb', .slice An' r.names.length cn', .slice At' r.tags.length ct', .slice Ak' r.kids.length ck'⟩], rest.drop 8, by omega, by go_num, by simp; omega, by simp; omega, ?_, ?_, ?_, ?_, ?_, HE.out, ?_⟩
        · show _ = _; rw [rulesOf_append, hps.out, HT.out]; rfl
        · show _ = _; rw [List.length_drop, HLR.out]; omega
        · show Own _ _ _ _ _ _ _; rw [List.flatMap_append, List.flatMap_cons, List.flatMap_nil, List.append_nil]; exact HO.out
        · intro p hp
          rcases List.mem_append.1 hp with hp | hp
          · exact ((hq.out p hp).ext he2).keep HG.out (fun v hv g hg he' => by have := (hq.out p hp).block v hv g hg; injection he' with he'; omega)
          · obtain rfl := List.mem_singleton.1 hp
            exact (HRO.out.keep HG.out (fun v hv g hg he' => by have := HRO.out.block v hv g hg; injection he' with he'; omega)).down hsz
        · show Far _
          rw [List.flatMap_append, List.flatMap_cons, List.flatMap_nil, List.append_nil]
          refine Far.append hfar.out HF4.out ?_
          intro u hu v hv g h1 h2
          obtain ⟨p, hp, hu⟩ := List.mem_flatMap.1 hu
          have := (hq.out p hp).block u hu g h1
          have := HRO.out.block v hv g h2
          omega
        · first | exact Nat.le_trans (Nat.le_trans hsz hsz2) HG.out.size | exact Nat.le_trans hsz hsz2
      case measure => simp [intOf]; omega
    · obtain rfl : k = ds.length := by omega
      go_wp2
      go_ret
      have hr0 : rest = [] := List.eq_nil_of_length_eq_zero (by have := hrest.out; omega)
      have hlen : ps.length = ds.length := by omega
      refine ⟨_, ps, rfl, ?_, ⟨?_, ?_, ?_⟩, he⟩
      · have := hps.out; rwa [List.take_length] at this
      · have := ho.out; rw [hr0, List.append_nil] at this; rw [hlen]; exact this
      · exact fun p hp => (hq.out p hp).down (by omega)
      · refine Far.cons hfar.out ?_
        intro u hu g h1 h2
        obtain ⟨p, hp, hu⟩ := List.mem_flatMap.1 hu
        have := (hq.out p hp).block u hu g h2
        have h1' : w.heap.size = g := by simpa [Value.ownBlock] using h1
        omega
set_option maxRecDepth 100000 in
set_option maxHeartbeats 1000000 in
theorem toDescription_c (A : Option Addr) (ds : List DRule) (c : Nat) (w : World) (h : RdD w A ds c) (hz : szD ds ≤ 1048576) :
    Calls Tryz.prog 8 #[vdesc (.slice A ds.length c)] w fun e w' => ∃ v ps, e = .returned (vdesc v) ∧ rulesOf ps = ds ∧ OwnD w w' v ps ∧ Ext w w' := by
  have C := Lib.hid (fun w h => toRuleS_c A ds c w h hz)
  obtain ⟨W0, HW0, HA, HR, HO, eA, hsA⟩ := boxes3' w #[.slice A ds.length c] #[.slice none 0 0] #[.slice none 0 0] 24 35 35
  have HSA := Lib.hid hsA; clear hsA
  have HA0 := Lib.hid HA; have HR0 := Lib.hid HR; have HO0 := Lib.hid HO; clear HA HR HO
  unfold vdesc
  go_enter Tryz.func8, Tryz.ntmps8
  go_wp2_with fail
  rw [← HW0.out]
  refine (C.out _ (h.ext eA)).mono ?_; rintro _ w1 ⟨v1, ps, rfl, hps, ho1, he1⟩
  obtain ⟨A1, c1, rfl⟩ := ho1.shape
  have p1 := (HO0.out.ext he1).cell; have q1 := (HO0.out.ext he1).free
  have r1 := (HR0.out.ext he1).cell; have t1 := (HR0.out.ext he1).free
  have HP := Lib.hid hps; have HO1 := Lib.hid ho1
  have hs1 := he1.size
  clear hps ho1
  go_wp2
  have z0 := HSA.out
  refine bodyPost_ret (v := .agg #[.slice A1 ps.length c1]) (by simp [results, Tryz.results8, go_sem, p1, q1, r1, t1]) rfl ⟨_, ps, rfl, HP.out, ?_, ?_⟩
  · refine ((HO1.out.keep (grown_set _ ⟨w.heap.size + 1 + 1, 0, none⟩ _) ?_).keep (grown_set _ ⟨w.heap.size + 1, 0, none⟩ _) ?_).down (by omega)
    · intro u hu g hg he'; have := HO1.out.block u hu g hg; injection he' with he'; simp only at he'; omega
    · intro u hu g hg he'; have := HO1.out.block u hu g hg; injection he' with he'; simp only at he'; omega
  · exact ((eA.trans he1).setCell (by simp; omega) _).setCell (by simp) _
end Go.Proofs.YtjckcbfpejcpcaaGreatDoor

/- The laws' copies of registries. -/
namespace Go.Proofs.YtjckcbfpejcpcaaGreatDoor
open Go.RowKit Go.Sort

theorem descsOf_append (a b : List (Value × List RV)) : descsOf (a ++ b) = descsOf a ++ descsOf b := by simp [descsOf]
end Go.Proofs.YtjckcbfpejcpcaaGreatDoor

/- Min, Max, InRange. -/
namespace Go.Proofs.YtjckcbfpejcpcaaGreatDoor
open Go.RowKit Go.Sort

set_option maxHeartbeats 400000 in
theorem iMinLess_c (a b : Int) (w : World) : Gives Tryz.prog 140 #[.int .i64 a, .int .i64 b] w (.bool (decide (a < b))) := by
  go_enter Tryz.func140, Tryz.ntmps140
  go_wp2
  go_ret
  exact ⟨rfl, Ext.refl _⟩

set_option maxHeartbeats 400000 in
theorem iInRange_c (n a b : Int) (w : World) : Gives Tryz.prog 125 #[.int .i64 n, .int .i64 a, .int .i64 b] w (.bool (decide (a ≤ n) && decide (n ≤ b))) := by
  by_cases h : a ≤ n
  · go_enter Tryz.func125, Tryz.ntmps125
    go_wp2
    go_ret
    exact ⟨ret_bool (by simp [h]), Ext.refl _⟩
  · go_enter Tryz.func125, Tryz.ntmps125
    go_wp2
    go_ret
    exact ⟨ret_bool (by simp; omega), Ext.refl _⟩
set_option maxHeartbeats 400000 in
theorem sMin_c (a b : Int) (w : World) : Gives Tryz.prog 107 #[.int .i64 a, .int .i64 b] w (.int .i64 (if b < a then b else a)) := by
  by_cases h : b < a
  · have H : Hid ((if b < a then b else a) = b) := if_pos h
    rw [H.out]
    go_enter Tryz.func107, Tryz.ntmps107
    go_wp2
    go_ret
    exact ⟨rfl, Ext.refl _⟩
  · have H : Hid ((if b < a then b else a) = a) := if_neg h
    rw [H.out]
    go_enter Tryz.func107, Tryz.ntmps107
    go_wp2
    go_ret
    exact ⟨rfl, Ext.refl _⟩

set_option maxHeartbeats 1000000 in
theorem pickMin_c (a b : Int) (g : Nat) (w : World) (hc : ∀ w', Ext w w' → w'.cell? ⟨g, 0, none⟩ = some (.int .i64 b)) :
    Gives Tryz.prog 139 #[.func (.func 140) #[] #[], .int .i64 a, .slice (some ⟨g, 0, none⟩) 1 1] w (.int .i64 (if b < a then b else a)) := by
  go_enter Tryz.func139, Tryz.ntmps139
  go_wp2_with fail
  go_loopw [1, 11] (fun t i wr => ∃ k : Nat, k ≤ 1 ∧ i = .int .i64 k ∧ t = .int .i64 (if k = 0 then a else if b < a then b else a) ∧ Ext w wr) (fun _ i _ => 1 - (intOf i).toNat)
  case atStart => exact ⟨0, by omega, rfl, rfl, Ext.refl _⟩
  case round =>
    obtain ⟨k, hk, rfl, rfl, he⟩ := hrel
    rcases (by omega : k = 0 ∨ k = 1) with rfl | rfl
    · by_cases h : b < a
      · have H : Hid ((if b < a then b else a) = b) := if_pos h
        have hd : decide (b < a) = true := decide_eq_true h
        rw [H.out]
        go_wp2_with (go_at_call 140; refine (iMinLess_c _ _ _).mono ?_; rintro _ w1 ⟨rfl, he1⟩; rw [hd])
        go_roundw
        case rel => exact ⟨1, by omega, by go_num, rfl, he.trans he1⟩
        case measure => simp [intOf]
      · have H : Hid ((if b < a then b else a) = a) := if_neg h
        have hd : decide (b < a) = false := decide_eq_false h
        rw [H.out]
        go_wp2_with (go_at_call 140; refine (iMinLess_c _ _ _).mono ?_; rintro _ w1 ⟨rfl, he1⟩; rw [hd])
        go_roundw
        case rel => exact ⟨1, by omega, by go_num, rfl, he.trans he1⟩
        case measure => simp [intOf]
    · by_cases h : b < a
      · have H : Hid ((if b < a then b else a) = b) := if_pos h
        rw [H.out]
        go_wp2
        go_ret
        exact ⟨rfl, he⟩
      · have H : Hid ((if b < a then b else a) = a) := if_neg h
        rw [H.out]
        go_wp2
        go_ret
        exact ⟨rfl, he⟩

set_option maxHeartbeats 1000000 in
theorem iMin_c (a b : Int) (w : World) : Gives Tryz.prog 128 #[.int .i64 a, .int .i64 b] w (.int .i64 (if b < a then b else a)) := by
  have C := Lib.hid (fun g w hc => pickMin_c a b g w hc)
  generalize (if b < a then b else a) = r at *
  go_enter Tryz.func128, Tryz.ntmps128
  go_wp2_with fail
  refine (C.out _ _ (fun w' e => boxed e 0)).mono ?_
  rintro _ w1 ⟨rfl, he⟩
  go_wp2
  go_ret
  exact ⟨rfl, (Ext_alloc _ (Ext.refl w)).trans he⟩

end Go.Proofs.YtjckcbfpejcpcaaGreatDoor

/- MergeCoverage of the program and of the reference. -/
namespace Go.Proofs.YtjckcbfpejcpcaaGreatDoor
open Go.RowKit Go.Sort

set_option maxHeartbeats 400000 in
theorem eqIntS_c (A A' : Option Addr) (l l' : List Int) (c c' : Nat) (w : World) (h : Is w A l c) (h' : Is w A' l' c') :
    Gives Tryz.prog 101 #[.slice A l.length c, .slice A' l'.length c'] w (.bool (l == l')) := by
  have hl := h.len; have hl' := h'.len
  by_cases hn : l.length = l'.length
  · have hb1 : ((l.length : Int) != (l'.length : Int)) = false := by simp [hn]
    have H := Lib.hid hn; clear hn
    go_enter Tryz.func101, Tryz.ntmps101
    go_wp2
    go_loopw [5, 4] (fun i v wr => ∃ k : Nat, k ≤ l.length ∧ i = .int .i64 k ∧ Hid (l.take k = l'.take k) ∧ Ext w wr) (fun i _ _ => l.length - (intOf i).toNat)
    case atStart => exact ⟨0, by omega, rfl, by simp [Hid], Ext.refl _⟩
    case round =>
      obtain ⟨k, hk, rfl, ht, he⟩ := hrel
      by_cases hlt : k < l.length
      · have hlt' : k < l'.length := by have := H.out; omega
        obtain ⟨b, off, rfl, hb, hc⟩ := h.at k hlt
        obtain ⟨b', off', rfl, hb', hc'⟩ := h'.at k hlt'
        clear h h'
        go_wp2
        refine wp_region_quiet_below (by kernel_rfl) (by kernel_rfl) ?_
        repeat (go_big_quiet_step (fail))
        refine wpQuiet_nil ?_
        rintro _ ⟨⟨nq, osq⟩, rfl⟩
        go_wp2
        · have hne : (l[k] != l'[k]) = true := by assumption
          go_ret
          refine ⟨ret_bool ?_, Ext_regrown _ _ he⟩
          symm; rw [beq_eq_false_iff_ne]; rintro rfl; simp at hne
        · have hne : (l[k] != l'[k]) = false := by assumption
          go_roundw
          case rel => exact ⟨k+1, by omega, by go_num, take_eq_succ hlt hlt' ht (by simpa using hne), Ext_regrown _ _ he⟩
          case measure => simp [intOf]; omega
      · go_wp2
        go_ret
        refine ⟨ret_bool ?_, he⟩
        have ht := ht.out; have H := H.out
        rw [List.take_of_length_le (by omega), List.take_of_length_le (by omega)] at ht
        simp [ht]
  · have hb1 : ((l.length : Int) != (l'.length : Int)) = true := by simp; omega
    go_enter Tryz.func101, Tryz.ntmps101
    go_wp2
    go_ret
    refine ⟨ret_bool ?_, Ext.refl _⟩
    symm; rw [beq_eq_false_iff_ne]; rintro rfl; exact hn rfl

def at0 (l : List Int) (i : Nat) : Int := l.getD i 0
theorem at0_in {l : List Int} {i : Nat} (h : i < l.length) : at0 l i = l[i] := by unfold at0; simp [h]
theorem at0_out {l : List Int} {i : Nat} (h : ¬ i < l.length) : at0 l i = 0 := by unfold at0; simp [List.getElem?_eq_none (Nat.le_of_not_lt h)]
def merged (a b : List Int) : List Int := (List.range (max a.length b.length)).map fun i => wrap64 (at0 a i + at0 b i)
theorem merged_len (l l' : List Int) : (merged l l').length = max l.length l'.length := by simp [merged]
theorem merged_take {l l' : List Int} {k : Nat} (hk : k < max l.length l'.length) : (merged l l').take k ++ [wrap64 (at0 l k + at0 l' k)] = (merged l l').take (k+1) := by
  have hk' : k < (merged l l').length := by rw [merged_len]; exact hk
  rw [List.take_succ_eq_append_getElem hk']
  simp [merged]
end Go.Proofs.YtjckcbfpejcpcaaGreatDoor

/- Comparison of descriptions: the laws' helpers, the program's and the reference's. -/
namespace Go.Proofs.YtjckcbfpejcpcaaGreatDoor
open Go.RowKit Go.Sort

def eqNm (a b : ByteArray) : Bool := a.toList == b.toList
def eqNms (l l' : List ByteArray) : Bool := l.map ByteArray.toList == l'.map ByteArray.toList
def eqR (r q : DRule) : Bool := r.nm.toList == q.nm.toList && r.kind == q.kind && r.size == q.size && r.little == q.little && r.bytes == q.bytes && eqNms r.names q.names && r.tags == q.tags && r.kids == q.kids
def eqAll {α : Type} (f : α → α → Bool) : List α → List α → Bool
  | [], [] => true
  | a :: s, b :: t => f a b && eqAll f s t
  | _, _ => false
theorem eqAll_len {α : Type} (f : α → α → Bool) : ∀ (s t : List α), s.length ≠ t.length → eqAll f s t = false
  | [], [], h => absurd rfl h
  | [], _ :: _, _ => rfl
  | _ :: _, [], _ => rfl
  | a :: s, b :: t, h => by rw [eqAll, eqAll_len f s t (by simpa using h), Bool.and_false]
theorem eqAll_take {α : Type} (f : α → α → Bool) : ∀ (s t : List α) (k : Nat) (h1 : k < s.length) (h2 : k < t.length), f s[k] t[k] = false → eqAll f s t = false
  | a :: s, b :: t, 0, _, _, h => by rw [eqAll]; simp at h; rw [h]; rfl
  | a :: s, b :: t, k + 1, h1, h2, h => by rw [eqAll, eqAll_take f s t k (by simpa using h1) (by simpa using h2) (by simpa using h), Bool.and_false]
theorem eqAll_all {α : Type} (f : α → α → Bool) : ∀ (s t : List α), s.length = t.length → (∀ k (h1 : k < s.length) (h2 : k < t.length), f s[k] t[k] = true) → eqAll f s t = true
  | [], [], _, _ => rfl
  | a :: s, b :: t, hl, h => by
    rw [eqAll, eqAll_all f s t (by simpa using hl) (fun k h1 h2 => by have := h (k+1) (by simpa using h1) (by simpa using h2); simpa using this)]
    have := h 0 (by simp) (by simp); simp at this; rw [this]; rfl
  | [], _ :: _, h, _ => by simp at h
  | _ :: _, [], h, _ => by simp at h
theorem eqAll_refl {α : Type} (f : α → α → Bool) (s : List α) (h : ∀ a ∈ s, f a a = true) : eqAll f s s = true := eqAll_all f s s rfl (fun k h1 _ => h _ (List.getElem_mem h1))
def eqD (s t : List DRule) : Bool := eqAll eqR s t
def eqG (s t : List (List DRule)) : Bool := eqAll eqD s t
theorem eqNms_refl (l : List ByteArray) : eqNms l l = true := by simp [eqNms]
theorem eqR_refl (r : DRule) : eqR r r = true := by simp [eqR, eqNms_refl]
theorem eqD_refl (s : List DRule) : eqD s s = true := eqAll_refl _ _ (fun a _ => eqR_refl a)
theorem eqG_refl (s : List (List DRule)) : eqG s s = true := eqAll_refl _ _ (fun a _ => eqD_refl a)
end Go.Proofs.YtjckcbfpejcpcaaGreatDoor

/- Comparison of descriptions: the laws' helpers, the program's and the reference's. -/
namespace Go.Proofs.YtjckcbfpejcpcaaGreatDoor
open Go.RowKit Go.Sort

theorem eqNms_take {l l' : List ByteArray} {k : Nat} (h1 : k < l.length) (h2 : k < l'.length) (h : (l.take k).map ByteArray.toList = (l'.take k).map ByteArray.toList) (e : (l[k].toList == l'[k].toList) = true) : (l.take (k+1)).map ByteArray.toList = (l'.take (k+1)).map ByteArray.toList := by
  rw [List.take_succ_eq_append_getElem h1, List.take_succ_eq_append_getElem h2, List.map_append, List.map_append, h]
  simp at e
  simp [e]
theorem eqNms_no {l l' : List ByteArray} {k : Nat} (h1 : k < l.length) (h2 : k < l'.length) (e : (l[k].toList == l'[k].toList) = false) : eqNms l l' = false := by
  unfold eqNms
  rw [beq_eq_false_iff_ne]
  intro h
  have h3 : (l.map ByteArray.toList)[k]? = (l'.map ByteArray.toList)[k]? := by rw [h]
  simp [h1, h2] at h3
  simp [h3] at e
set_option maxHeartbeats 400000 in
theorem eqStringS_c (A A' : Option Addr) (l l' : List ByteArray) (c c' : Nat) (w : World) (h : Rd0 vstr w A l c) (h' : Rd0 vstr w A' l' c') :
    Gives Tryz.prog 100 #[.slice A l.length c, .slice A' l'.length c'] w (.bool (eqNms l l')) := by
  have hl := h.len; have hl' := h'.len
  by_cases hn : l.length = l'.length
  · have hb1 : ((l.length : Int) != (l'.length : Int)) = false := by simp [hn]
    have H := Lib.hid hn; clear hn
    go_enter Tryz.func100, Tryz.ntmps100
    go_wp2
    go_loopw [5, 4] (fun i v wr => ∃ k : Nat, k ≤ l.length ∧ i = .int .i64 k ∧ Hid ((l.take k).map ByteArray.toList = (l'.take k).map ByteArray.toList) ∧ Ext w wr) (fun i _ _ => l.length - (intOf i).toNat)
    case atStart => exact ⟨0, by omega, rfl, by simp [Hid], Ext.refl _⟩
    case round =>
      obtain ⟨k, hk, rfl, ht, he⟩ := hrel
      by_cases hlt : k < l.length
      · have hlt' : k < l'.length := by have := H.out; omega
        obtain ⟨b, off, rfl, hb, hc⟩ := h.at k hlt
        obtain ⟨b', off', rfl, hb', hc'⟩ := h'.at k hlt'
        clear h h'
        go_wp2
        refine wp_region_quiet_below (by kernel_rfl) (by kernel_rfl) ?_
        repeat (go_big_quiet_step (fail))
        refine wpQuiet_nil ?_
        rintro _ ⟨⟨nq, osq⟩, rfl⟩
        go_wp2
        · have hne : (l[k].toList != l'[k].toList) = true := by assumption
          go_ret
          refine ⟨ret_bool ?_, Ext_regrown _ _ he⟩
          exact (eqNms_no hlt hlt' (by simpa using hne)).symm
        · have hne : (l[k].toList != l'[k].toList) = false := by assumption
          go_roundw
          case rel => exact ⟨k+1, by omega, by go_num, eqNms_take hlt hlt' ht.out (by simpa using hne), Ext_regrown _ _ he⟩
          case measure => simp [intOf]; omega
      · go_wp2
        go_ret
        refine ⟨ret_bool ?_, he⟩
        have ht := ht.out; have H := H.out
        rw [List.take_of_length_le (by omega), List.take_of_length_le (by omega)] at ht
        simp [eqNms, ht]
  · have hb1 : ((l.length : Int) != (l'.length : Int)) = true := by simp; omega
    go_enter Tryz.func100, Tryz.ntmps100
    go_wp2
    go_ret
    refine ⟨ret_bool ?_, Ext.refl _⟩
    symm; unfold eqNms; rw [beq_eq_false_iff_ne]; intro h2; exact hn (by have := congrArg List.length h2; simpa using this)


set_option maxRecDepth 100000 in
set_option maxHeartbeats 4000000 in
theorem eqRule_c (r q : DRule) (Ab : Option Addr) (cb : Nat) (An : Option Addr) (cn : Nat) (At : Option Addr) (ct : Nat) (Ak : Option Addr) (ck : Nat) (Ab' : Option Addr) (cb' : Nat) (An' : Option Addr) (cn' : Nat) (At' : Option Addr) (ct' : Nat) (Ak' : Option Addr) (ck' : Nat) (w : World) (h : RdS w r Ab cb An cn At ct Ak ck) (h' : RdS w q Ab' cb' An' cn' At' ct' Ak' ck') (hs : ShortR r) (hs' : ShortR q) :
    Gives Tryz.prog 71 #[vrule r (.slice Ab r.bytes.length cb) (.slice An r.names.length cn) (.slice At r.tags.length ct) (.slice Ak r.kids.length ck), vrule q (.slice Ab' q.bytes.length cb') (.slice An' q.names.length cn') (.slice At' q.tags.length ct') (.slice Ak' q.kids.length ck')] w (.bool (eqR r q)) := by
  have eb := Ext_alloc (.cells #[.string q.nm, .int .i64 q.kind, .int .i64 q.size, .bool q.little, .slice Ab' q.bytes.length cb', .slice An' q.names.length cn', .slice At' q.tags.length ct', .slice Ak' q.kids.length ck'] 97) (Ext_alloc (.cells #[.string r.nm, .int .i64 r.kind, .int .i64 r.size, .bool r.little, .slice Ab r.bytes.length cb, .slice An r.names.length cn, .slice At r.tags.length ct, .slice Ak r.kids.length ck] 97) (Ext.refl w))
  have BX := fun w' (e : Ext ((w.alloc (.cells #[.string r.nm, .int .i64 r.kind, .int .i64 r.size, .bool r.little, .slice Ab r.bytes.length cb, .slice An r.names.length cn, .slice At r.tags.length ct, .slice Ak r.kids.length ck] 97)).alloc (.cells #[.string q.nm, .int .i64 q.kind, .int .i64 q.size, .bool q.little, .slice Ab' q.bytes.length cb', .slice An' q.names.length cn', .slice At' q.tags.length ct', .slice Ak' q.kids.length ck'] 97)) w') => boxed2 e
  have B0 := fun w' e => (BX w' e).1
  have B1 := fun w' e => (BX w' e).2.1
  clear BX
  have C5 := Lib.hid (fun w h h' => eqByteS_c Ab Ab' r.bytes q.bytes cb cb' w h h')
  have C6 := Lib.hid (fun w h h' => eqStringS_c An An' r.names q.names cn cn' w h h')
  have C7 := Lib.hid (fun w h h' => eqIntS_c At At' r.tags q.tags ct ct' w h h')
  have C8 := Lib.hid (fun w h h' => eqIntS_c Ak Ak' r.kids q.kids ck ck' w h h')
  have K5 := Lib.hid (fun w' (e : Ext w w') => C5.out w' (⟨h.b.ext e, hs.1⟩) (⟨h'.b.ext e, hs'.1⟩))
  have K6 := Lib.hid (fun w' (e : Ext w w') => C6.out w' (h.n.ext e) (h'.n.ext e))
  have K7 := Lib.hid (fun w' (e : Ext w w') => C7.out w' ⟨h.t.ext e, hs.2.2.1⟩ ⟨h'.t.ext e, hs'.2.2.1⟩)
  have K8 := Lib.hid (fun w' (e : Ext w w') => C8.out w' ⟨h.k.ext e, hs.2.2.2⟩ ⟨h'.k.ext e, hs'.2.2.2⟩)
  clear C5 C6 C7 C8 h h' hs hs'
  unfold eqR
  generalize (r.bytes == q.bytes) = q5 at *
  generalize eqNms r.names q.names = q6 at *
  generalize (r.tags == q.tags) = q7 at *
  generalize (r.kids == q.kids) = q8 at *
  obtain ⟨nm, kind, size, little, bytes, names, tags, kids⟩ := r
  obtain ⟨nm', kind', size', little', bytes', names', tags', kids'⟩ := q
  unfold vrule
  dsimp only at *
  have HB0 := Lib.hid B0; have HB1 := Lib.hid B1; have b00 := B0 _ (Ext.refl _); have b10 := B1 _ (Ext.refl _); clear B0 B1
  cases g1 : (nm.toList == nm'.toList)
  · have h1 : (nm.toList != nm'.toList) = true := by rw [bne, g1]; rfl
    go_enter Tryz.func71, Tryz.ntmps71
    go_wp2
    go_ret
    exact ⟨ret_bool (by simp), eb⟩
  have h1 : (nm.toList != nm'.toList) = false := by rw [bne, g1]; rfl
  cases g2 : (kind == kind')
  · have h2 : (kind != kind') = true := by rw [bne, g2]; rfl
    go_enter Tryz.func71, Tryz.ntmps71
    go_wp2
    go_ret
    exact ⟨ret_bool (by simp), eb⟩
  have h2 : (kind != kind') = false := by rw [bne, g2]; rfl
  cases g3 : (size == size')
  · have h3 : (size != size') = true := by rw [bne, g3]; rfl
    go_enter Tryz.func71, Tryz.ntmps71
    go_wp2
    go_ret
    exact ⟨ret_bool (by simp), eb⟩
  have h3 : (size != size') = false := by rw [bne, g3]; rfl
  cases g4 : (little == little')
  · have h4 : (little != little') = true := by rw [bne, g4]; rfl
    go_enter Tryz.func71, Tryz.ntmps71
    go_wp2
    go_ret
    exact ⟨ret_bool (by simp), eb⟩
  have h4 : (little != little') = false := by rw [bne, g4]; rfl
  go_enter Tryz.func71, Tryz.ntmps71
  go_wp2_with fail
  refine (K5.out _ eb).mono ?_; rintro _ w5 ⟨rfl, he5⟩
  have e5 := he5
  have b05 := HB0.out _ e5; have b15 := HB1.out _ e5; clear he5 b00 b10 h1 h2 h3 h4 g1 g2 g3 g4
  cases q5
  · go_wp2
    go_ret
    exact ⟨ret_bool (by simp), eb.trans e5⟩
  go_wp2_with fail
  refine (K6.out _ (eb.trans e5)).mono ?_; rintro _ w6 ⟨rfl, he6⟩
  have e6 := e5.trans he6
  have b06 := HB0.out _ e6; have b16 := HB1.out _ e6; clear he6 b05 b15 e5
  cases q6
  · go_wp2
    go_ret
    exact ⟨ret_bool (by simp), eb.trans e6⟩
  go_wp2_with fail
  refine (K7.out _ (eb.trans e6)).mono ?_; rintro _ w7 ⟨rfl, he7⟩
  have e7 := e6.trans he7
  have b07 := HB0.out _ e7; have b17 := HB1.out _ e7; clear he7 b06 b16 e6
  cases q7
  · go_wp2
    go_ret
    exact ⟨ret_bool (by simp), eb.trans e7⟩
  go_wp2_with fail
  refine (K8.out _ (eb.trans e7)).mono ?_; rintro _ w8 ⟨rfl, he8⟩
  have e8 := e7.trans he8
  have b08 := HB0.out _ e8; have b18 := HB1.out _ e8; clear he8 b07 b17 e7
  cases q8
  · go_wp2
    go_ret
    exact ⟨ret_bool (by simp), eb.trans e8⟩
  go_wp2
  go_ret
  exact ⟨ret_bool (by simp), eb.trans e8⟩
end Go.Proofs.YtjckcbfpejcpcaaGreatDoor

/- Comparison of rules: the reference's and the program's. -/
namespace Go.Proofs.YtjckcbfpejcpcaaGreatDoor
open Go.RowKit Go.Sort

/-- rules, all short -/
def ShortD (ds : List DRule) : Prop := ∀ r ∈ ds, ShortR r
def ShortG (gs : List (List DRule)) : Prop := ∀ d ∈ gs, ShortD d
theorem shortD_of {ds : List DRule} (h : szD ds ≤ 1048576) : ShortD ds := fun _ hr => (szRl_short (szD_mem h hr)).1
theorem shortG_of {gs : List (List DRule)} (h : szG gs ≤ 1048576) : ShortG gs := fun _ hd => shortD_of (szG_mem h hd)
set_option maxRecDepth 100000 in
set_option maxHeartbeats 4000000 in
theorem eqRuleS_c (A A' : Option Addr) (ds es : List DRule) (c c' : Nat) (w : World) (h : RdD w A ds c) (h' : RdD w A' es c') (hs : ShortD ds) (hs' : ShortD es) :
    Gives Tryz.prog 39 #[.slice A ds.length c, .slice A' es.length c'] w (.bool (eqD ds es)) := by
  have hl := h.len; have hl' := h'.len
  have eb := Ext.refl w
  by_cases hn : ds.length = es.length
  · have hb1 : ((ds.length : Int) != (es.length : Int)) = false := by simp [hn]
    have H := Lib.hid hn; clear hn
    go_enter Tryz.func39, Tryz.ntmps39
    go_wp2
    go_loopw [5] (fun i wr => ∃ k : Nat, k ≤ ds.length ∧ i = .int .i64 k ∧ Hid (∀ j (h1 : j < ds.length) (h2 : j < es.length), j < k → eqR ds[j] es[j] = true) ∧ Ext w wr) (fun i _ => ds.length - (intOf i).toNat)
    case atStart => exact ⟨0, by omega, rfl, (fun j _ _ hj => by omega), Ext.refl _⟩
    case round =>
      obtain ⟨k, hk, rfl, ht, he⟩ := hrel
      by_cases hlt : k < ds.length
      · have hlt' : k < es.length := by have := H.out; omega
        obtain ⟨b, off, Ab, cb, An, cn, At, ct, Ak, ck, rfl, hb, hS, hR⟩ := h.at k hlt
        obtain ⟨b', off', Ab', cb', An', cn', At', ct', Ak', ck', rfl, hb', hS', hR'⟩ := h'.at k hlt'
        have s1 := hs _ (List.getElem_mem hlt); have s2 := hs' _ (List.getElem_mem hlt')
        have NO : Hid (eqR ds[k] es[k] = false → eqD ds es = false) := eqAll_take _ ds es k hlt hlt'
        have YES : Hid (eqR ds[k] es[k] = true → ∀ j (h1 : j < ds.length) (h2 : j < es.length), j < k + 1 → eqR ds[j] es[j] = true) := by
          intro hy j h1 h2 hj
          rcases (by omega : j < k ∨ j = k) with hj | rfl
          · exact ht.out j h1 h2 hj
          · exact hy
        generalize ds[k] = r at *
        generalize es[k] = q at *
        have CE := Lib.hid (fun w h h' => eqRule_c r q Ab cb An cn At ct Ak ck Ab' cb' An' cn' At' ct' Ak' ck' w h h' s1 s2)
        generalize eqR r q = z at *
        replace hR := hR.ext eb
        replace hR' := hR'.ext eb
        obtain ⟨k0, k1, k2, k3, k4, k5, k6, k7⟩ := hR
        obtain ⟨j0, j1, j2, j3, j4, j5, j6, j7⟩ := hR'
        unfold vrule at CE
        have H1 := Lib.hid (fun w' (e : Ext _ w') => hS.ext (eb.trans e)); have H2 := Lib.hid (fun w' (e : Ext _ w') => hS'.ext (eb.trans e))
        clear h h' s1 s2 hS hS' hs hs'
        have HT := ht; clear ht
        go_wp2_with fail
        refine wp_region_quiet_below (by kernel_rfl) (by kernel_rfl) ?_
        repeat (go_big_quiet_step ((go_at_call 71; exact Calls.regrown_of (CE.out _ (H1.out _ (by first | assumption | exact Ext_regrown _ _ he)) (H2.out _ (by first | assumption | exact Ext_regrown _ _ he))))))
        refine wpQuiet_nil ?_
        rintro w1 ⟨⟨nq, osq⟩, hq⟩
        have ew1 := ext_of_q hq
        clear hq nq osq
        have he1 := he.trans ew1
        cases z
        · have NO' := Lib.hid (NO.out rfl); clear NO YES
          go_wp2
          go_ret
          exact ⟨ret_bool NO'.out.symm, eb.trans he1⟩
        · have YES' := Lib.hid (YES.out rfl); clear NO YES
          go_wp2
          go_roundw
          case rel => exact ⟨k+1, by omega, by go_num, YES'.out, he1⟩
          case measure => simp [intOf]; omega
      · have hk' : k = ds.length := by omega
        have HE : Hid (eqD ds es = true) := eqAll_all _ _ _ H.out (fun j h1 h2 => ht.out j h1 h2 (by omega))
        go_wp2
        go_ret
        exact ⟨ret_bool HE.out.symm, eb.trans he⟩
  · have hb1 : ((ds.length : Int) != (es.length : Int)) = true := by simp; omega
    have HE : Hid (eqD ds es = false) := eqAll_len _ _ _ hn
    go_enter Tryz.func39, Tryz.ntmps39
    go_wp2
    go_ret
    exact ⟨ret_bool HE.out.symm, eb⟩
end Go.Proofs.YtjckcbfpejcpcaaGreatDoor

/- Comparison of descriptions and registries. -/
namespace Go.Proofs.YtjckcbfpejcpcaaGreatDoor
open Go.RowKit Go.Sort

end Go.Proofs.YtjckcbfpejcpcaaGreatDoor

/- Comparison of registries. -/
namespace Go.Proofs.YtjckcbfpejcpcaaGreatDoor
open Go.RowKit Go.Sort

set_option maxHeartbeats 400000 in
theorem eqDescription_c (A A' : Option Addr) (ds es : List DRule) (c c' : Nat) (w : World) (h : RdD w A ds c) (h' : RdD w A' es c') (hs : ShortD ds) (hs' : ShortD es) :
    Gives Tryz.prog 12 #[vdesc (.slice A ds.length c), vdesc (.slice A' es.length c')] w (.bool (eqD ds es)) := by
  have C := Lib.hid (fun w h h' => eqRuleS_c A A' ds es c c' w h h' hs hs')
  have eb := Ext_alloc (.cells #[.slice A' es.length c'] 35) (Ext_alloc (.cells #[.slice A ds.length c] 35) (Ext.refl w))
  unfold vdesc
  generalize eqD ds es = z at *
  cases z
  all_goals
    go_enter Tryz.func12, Tryz.ntmps12
    go_wp2_with fail
    refine (C.out _ (h.ext eb) (h'.ext eb)).mono ?_; rintro _ w1 ⟨rfl, he1⟩
    go_wp2
    go_ret
    exact ⟨rfl, eb.trans he1⟩
end Go.Proofs.YtjckcbfpejcpcaaGreatDoor
