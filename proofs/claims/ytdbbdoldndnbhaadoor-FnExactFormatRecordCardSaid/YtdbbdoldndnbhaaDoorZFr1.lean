/- Words of our own for memory: a world that extends another one, a slice that reads as a list. -/
import Derived.Test.YtdbbdoldndnbhaaDoorRows
import Derived.WalkKit
import Derived.WalkSpells
import Derived.WalkLawsBesides
import Derived.BigQuiet
import Derived.Deep.QuietTactic
import Derived.Lib.Hide
import Derived.Lib.QuietBelow
import Derived.Maps.AppendAt
import Derived.Deep.AppendLies
import Derived.Deep.RegionLaw
import Derived.JoinedOf
import Derived.KernelRfl
import Derived.ProofKit
import Derived.OpenShut
import Derived.ShutString
import Derived.ChangeOld
import Derived.Deep.Fields
import Derived.Laws.BytesArg
import Derived.Shelf.Strings.OnBuilder
import Derived.Shelf.LaysM
import Derived.Shelf.Strconv.Itoa3
import Derived.Test.YtdbbdoldndnbhaaDoorProg
import Derived.Lib.LaidTab
import Derived.Lib.ItoaNum
import Derived.Lib.AppendIntMem
import Derived.Deep.RegionHeld3
import Derived.Stop.LaidErr
import Derived.LaidLaws
namespace Go.Proofs.YtdbbdoldndnbhaaDoor
open Go.RowKit Go.Sort

/-- the world w' is w, with further blocks -/
def Ext (w w' : World) : Prop := Below w.heap.size w w'
theorem Ext.refl (w : World) : Ext w w := Below.refl _ _
theorem Ext.size {w w' : World} (h : Ext w w') : w.heap.size ≤ w'.heap.size := Below.size h
theorem Ext.trans {a b c : World} (h : Ext a b) (k : Ext b c) : Ext a c := Below.trans h (Below.mono k h.size)
@[go_sem] theorem Ext_self (w : World) : Ext w w := Below.refl _ _
@[go_sem] theorem Ext_drew {w w1 : World} (h : Ext w w1) : Ext w w1.drew := Below.drew h
@[go_sem] theorem Ext_drewN {w w1 : World} (n : Nat) (h : Ext w w1) : Ext w (w1.drewN n) := below_drewN h n
@[go_sem] theorem Ext_alloc {w w1 : World} (o : Obj) (h : Ext w w1) : Ext w (w1.alloc o) := Below.alloc h h.size o
@[go_sem] theorem Ext_regrown {w w1 : World} (d : Nat) (os : Array Obj) (h : Ext w w1) : Ext w (grow (redrawn w1 d) os) := Ext.trans h (below_regrown w1 d os)
theorem Ext.setCell {w w1 : World} (h : Ext w w1) {p : Addr} (hp : w.heap.size ≤ p.block) (u : Value) : Ext w (w1.setCell p u) := Below.setCell h hp u
theorem Ext.grown {w w1 w2 : World} {row : Option Nat} (h : Ext w w1) (hg : w1.grownBy w2 row) (hr : ∀ k, row = some k → w.heap.size ≤ k) : Ext w w2 := Below.grown h hg h.size hr

theorem ext_of_q {W w1 : World} {n : Nat} {os : Array Obj} (h : w1 = grow (redrawn W n) os) : Ext W w1 := by rw [h]; exact Ext_regrown _ _ (Ext.refl _)
/-- a block that was laid: its cells stay -/
theorem boxed {w : World} {cs : Array Value} {T : TypeId} {w' : World} (h : Ext (w.alloc (.cells cs T)) w') (i : Nat) : w'.cell? ⟨w.heap.size, i, none⟩ = cs[i]? := by
  have hb : w'.heap[w.heap.size]? = some (.cells cs T (0, 0)) := by
    rw [Below.block h w.heap.size (by simp)]
    exact heap_alloc_new w _
  exact cell_of_row w' w.heap.size i cs T (0, 0) hb
theorem boxed_free {w : World} {cs : Array Value} {T : TypeId} {w' : World} (h : Ext (w.alloc (.cells cs T)) w') (i : Nat) : w'.frozen? ⟨w.heap.size, i, none⟩ = false := by
  have hb : w'.heap[w.heap.size]? = some (.cells cs T (0, 0)) := by
    rw [Below.block h w.heap.size (by simp)]
    exact heap_alloc_new w _
  exact frozen_of_row w' w.heap.size i cs T hb

/-- two blocks that were laid one behind the other -/
theorem boxed2 {w : World} {c0 c1 : Array Value} {T0 T1 : TypeId} {w' : World} (h : Ext ((w.alloc (.cells c0 T0)).alloc (.cells c1 T1)) w') :
    (∀ i, w'.cell? ⟨w.heap.size, i, none⟩ = c0[i]?) ∧ (∀ i, w'.cell? ⟨w.heap.size + 1, i, none⟩ = c1[i]?) ∧
    (∀ i, w'.frozen? ⟨w.heap.size, i, none⟩ = false) ∧ (∀ i, w'.frozen? ⟨w.heap.size + 1, i, none⟩ = false) ∧ w.heap.size + 2 ≤ w'.heap.size := by
  have h1 : Ext (w.alloc (.cells c0 T0)) w' := (Ext_alloc _ (Ext.refl _)).trans h
  have s1 : (w.alloc (.cells c0 T0)).heap.size = w.heap.size + 1 := by simp
  refine ⟨fun i => boxed h1 i, fun i => ?_, fun i => boxed_free h1 i, fun i => ?_, ?_⟩
  · have := boxed h i; rwa [s1] at this
  · have := boxed_free h i; rwa [s1] at this
  · have := h.size; simpa using this
/-- three blocks that were laid one behind the other -/
theorem boxed3 {w : World} {c0 c1 c2 : Array Value} {T0 T1 T2 : TypeId} {w' : World} (h : Ext (((w.alloc (.cells c0 T0)).alloc (.cells c1 T1)).alloc (.cells c2 T2)) w') :
    (∀ i, w'.cell? ⟨w.heap.size, i, none⟩ = c0[i]?) ∧ (∀ i, w'.cell? ⟨w.heap.size + 1, i, none⟩ = c1[i]?) ∧ (∀ i, w'.cell? ⟨w.heap.size + 1 + 1, i, none⟩ = c2[i]?) ∧
    (∀ i, w'.frozen? ⟨w.heap.size, i, none⟩ = false) ∧ (∀ i, w'.frozen? ⟨w.heap.size + 1, i, none⟩ = false) ∧ (∀ i, w'.frozen? ⟨w.heap.size + 1 + 1, i, none⟩ = false) ∧ w.heap.size + 3 ≤ w'.heap.size := by
  have h2 : Ext ((w.alloc (.cells c0 T0)).alloc (.cells c1 T1)) w' := (Ext_alloc _ (Ext.refl _)).trans h
  have h1 : Ext (w.alloc (.cells c0 T0)) w' := (Ext_alloc _ (Ext.refl _)).trans h2
  have s1 : (w.alloc (.cells c0 T0)).heap.size = w.heap.size + 1 := by simp
  have s2 : ((w.alloc (.cells c0 T0)).alloc (.cells c1 T1)).heap.size = w.heap.size + 1 + 1 := by simp
  refine ⟨fun i => boxed h1 i, fun i => ?_, fun i => ?_, fun i => boxed_free h1 i, fun i => ?_, fun i => ?_, ?_⟩
  · have := boxed h2 i; rwa [s1] at this
  · have := boxed h i; rwa [s2] at this
  · have := boxed_free h2 i; rwa [s1] at this
  · have := boxed_free h i; rwa [s2] at this
  · have := h.size; simpa using this
theorem World.ownsRow.lower {w : World} {B B' : Nat} {e : TypeId} {size : Nat} {v : Value} {n : Nat} {xs : List Value} (h : w.ownsRow B e size v n xs) (hb : B' ≤ B) : w.ownsRow B' e size v n xs := by
  refine ⟨h.1, ?_⟩
  rcases h.2 with h0 | ⟨g, cap, cur, hv, hg, r⟩
  · exact .inl h0
  · exact .inr ⟨g, cap, cur, hv, by omega, r⟩

/-- the call hands back v, and the world has grown -/
def Gives (P : Program) (f : FuncId) (args : Array Value) (w : World) (v : Value) : Prop := Calls P f args w fun e w' => e = .returned v ∧ Ext w w'

/-- A slice whose elements take one cell each and read as l. -/
def Rd0 {α : Type} (f : α → Value) (w : World) (A : Option Addr) (l : List α) (c : Nat) : Prop :=
  l.length ≤ c ∧ l.length ≤ 9223372036854775807 ∧ (0 < l.length → ∃ b off, A = some ⟨b, off, none⟩ ∧ b < w.heap.size ∧ ∀ (w' : World), Ext w w' → ∀ i (h : i < l.length), w'.cell? ⟨b, off + i, none⟩ = some (f l[i]))
/-- .. of a bounded length -/
def Rd {α : Type} (f : α → Value) (w : World) (A : Option Addr) (l : List α) (c : Nat) : Prop := Rd0 f w A l c ∧ l.length ≤ 140737488351232
theorem Rd0.ext {α : Type} {f : α → Value} {w w1 : World} {A : Option Addr} {l : List α} {c : Nat} (h : Rd0 f w A l c) (e : Ext w w1) : Rd0 f w1 A l c :=
  ⟨h.1, h.2.1, fun hp => let ⟨b, off, h1, h2, h3⟩ := h.2.2 hp; ⟨b, off, h1, Nat.lt_of_lt_of_le h2 e.size, fun w' e' => h3 w' (e.trans e')⟩⟩
theorem Rd.ext {α : Type} {f : α → Value} {w w1 : World} {A : Option Addr} {l : List α} {c : Nat} (h : Rd f w A l c) (e : Ext w w1) : Rd f w1 A l c := ⟨h.1.ext e, h.2⟩
theorem Rd.len {α : Type} {f : α → Value} {w : World} {A : Option Addr} {l : List α} {c : Nat} (h : Rd f w A l c) : l.length ≤ 140737488351232 := h.2
theorem Rd0.len {α : Type} {f : α → Value} {w : World} {A : Option Addr} {l : List α} {c : Nat} (h : Rd0 f w A l c) : l.length ≤ 9223372036854775807 := h.2.1
theorem Rd0.cap {α : Type} {f : α → Value} {w : World} {A : Option Addr} {l : List α} {c : Nat} (h : Rd0 f w A l c) : l.length ≤ c := h.1
theorem Rd.cap {α : Type} {f : α → Value} {w : World} {A : Option Addr} {l : List α} {c : Nat} (h : Rd f w A l c) : l.length ≤ c := h.1.1
@[go_sem] def vu8 (x : UInt8) : Value := .int .u8 x.toNat
@[go_sem] def vint (x : Int) : Value := .int .i64 x
@[go_sem] def vstr (x : ByteArray) : Value := .string x
abbrev Bs (w : World) (A : Option Addr) (l : List UInt8) (c : Nat) : Prop := Rd vu8 w A l c
abbrev Is (w : World) (A : Option Addr) (l : List Int) (c : Nat) : Prop := Rd vint w A l c
abbrev Ss (w : World) (A : Option Addr) (l : List ByteArray) (c : Nat) : Prop := Rd vstr w A l c
theorem Rd0.at {α : Type} {f : α → Value} {w : World} {A : Option Addr} {l : List α} {c : Nat} (h : Rd0 f w A l c) (k : Nat) (hk : k < l.length) :
    ∃ b off, A = some ⟨b, off, none⟩ ∧ b < w.heap.size ∧ ∀ (w' : World), Ext w w' → w'.cell? ⟨b, off + k, none⟩ = some (f l[k]) :=
  let ⟨b, off, h1, h2, h3⟩ := h.2.2 (by omega)
  ⟨b, off, h1, h2, fun w' e => h3 w' e k hk⟩
theorem Rd.at {α : Type} {f : α → Value} {w : World} {A : Option Addr} {l : List α} {c : Nat} (h : Rd f w A l c) (k : Nat) (hk : k < l.length) :
    ∃ b off, A = some ⟨b, off, none⟩ ∧ b < w.heap.size ∧ ∀ (w' : World), Ext w w' → w'.cell? ⟨b, off + k, none⟩ = some (f l[k]) := h.1.at k hk

theorem World.cell?_alloc_at' (w : World) (news : List Value) (e : TypeId) (j : Nat) : (w.alloc (.cells news.toArray e)).cell? ((⟨w.heap.size, 0, none⟩ : Addr).add j) = news[j]? := by
  have hadd : (⟨w.heap.size, 0, none⟩ : Addr).add j = ⟨w.heap.size, j, none⟩ := by unfold Addr.add; split <;> simp_all
  rw [hadd, World.cell?_alloc_at _ _ _ _ rfl]; simp

/-- what a slice type's rows need: the element's type, its cells, its bytes, its zero -/
structure Elem (P : Program) (t e : TypeId) (size bytes : Nat) (z : Value) : Prop where
  ht : P.underlying t = some (.slice e)
  hi : (P.info? e).map (fun i => (i.zero, i.size, i.bytes)) = some (some z, size, bytes)
  hz : z.cells.size = size
  hs : 0 < size

/-- A row that the call since w0 made itself: n elements of type e, cells xs. -/
abbrev Own (e : TypeId) (size : Nat) (w0 w : World) (v : Value) (n : Nat) (xs : List Value) : Prop := w.ownsRow w0.heap.size e size v n xs

section
variable {P : Program} {ops : Array Oper} {rest : List Oper} {o : Oper} {a : Act} {Q : Exit → Act → World → Prop}

theorem run_app_nil (w : World) (base : Nat) (t ty e : TypeId) (i : TypeInfo) (size : Nat) (ht : P.underlying t = some (.slice e)) (hi : P.info? e = some i)
    (v : Value) (n : Nat) (xs : List Value) (hown : w.ownsRow base e size v n xs) (c : Nat) : (Builtin.append_ #[t, t] ty #[v, .slice none 0 c]).run P w = .ok v w := by
  rcases hown.2 with ⟨rfl, rfl⟩ | ⟨g, cap, cur, rfl, _, _, hnc, _⟩
  · simp [Builtin.append_, run_underlying ht, sizeOf, typeInfo, hi, Builtin.lenOf, Builtin.firstCells]
  · simp [Builtin.append_, run_underlying ht, sizeOf, typeInfo, hi, Builtin.lenOf, Builtin.firstCells, hnc, storeCells]

/-- append(s, x...): the cells of x, if there are any, lie where A says -/
theorem wpList_app_any (hgd : o.guard = none) (s x : Operand) (t : TypeId) (ho : o.op = .call { callee := .builtin .append, args := #[s, x], argTypes := #[t, t] })
    {e : TypeId} {size bytes : Nat} {z : Value} (hE : Elem P t e size bytes z) (w0 w : World) (v : Value) (n : Nat) (xs : List Value) (hs : a.eval s = v) (hown : Own e size w0 w v n xs)
    (he : Ext w0 w) (news : List Value) (A : Option Addr) (m c : Nat) (hx : a.eval x = .slice A m c) (hl : news.length = m * size)
    (hA : 0 < m → ∃ ad, A = some ad ∧ ∀ j u, news[j]? = some u → w.cell? (ad.add j) = some u) (h1 : ∀ u ∈ news, u.oneCell' = true)
    (hm : n + m ≤ maxLen) (hb : (n + m) * bytes ≤ 140737488355328)
    (h : ∀ v' w', Own e size w0 w' v' (n + m) (xs ++ news) → Ext w0 w' → (v'.ownBlock = v.ownBlock ∨ v'.ownBlock = some w.heap.size) → w.grownBy w' v.ownBlock → wpList P ops Q rest (a.put o.dst v') w') :
    wpList P ops Q (o :: rest) a w := by
  obtain ⟨i0, hi0, hz0, hz1, hz2⟩ := info_parts hE.hi
  rcases A with _ | ad
  · have hm0 : m = 0 := by
      rcases Nat.eq_zero_or_pos m with h0 | h0
      · exact h0
      · obtain ⟨ad, h, _⟩ := hA h0
        cases h
    subst hm0
    obtain rfl : news = [] := List.eq_nil_of_length_eq_zero (by simpa using hl)
    refine wpList_plain hgd fun K hK => ?_
    unfold Oper.wp execOp
    simp only [ho, resolve, invoke, builtin, Sem.run_bind, Sem.run_pure, Result.andThen_ok, List.map_toArray, List.map_cons, List.map_nil, hs, hx, run_app_nil w w0.heap.size t o.type e i0 size hE.ht hi0 v n xs hown c]
    exact hK _ _ (h v w (by simpa using hown) he (.inl rfl) (World.grownBy.refl w _))
  · refine wpList_append_own_at _ hgd s x t ho w0.heap.size e i0 z size bytes hE.ht hi0 hz0 hz1 hz2 hE.hz hE.hs v n xs hs hown ad m c news hx hl ?_ h1 hm hb he.size ?_
    · intro j u hu
      rcases Nat.eq_zero_or_pos m with h0 | h0
      · subst h0
        obtain rfl : news = [] := List.eq_nil_of_length_eq_zero (by simpa using hl)
        simp at hu
      · obtain ⟨ad', h', hc⟩ := hA h0
        injection h' with h'
        subst h'
        exact hc j u hu
    · intro v' w' ho' hg _ hat
      exact h v' w' ho' (he.grown hg (fun k hk => (hown.lt k hk).1)) hat hg

/-- make([]T, n) -/
theorem wpList_mk (hg : o.guard = none) (l c : Operand) (t : TypeId) (hop : o.op = Op.makeSlice t l c)
    {e : TypeId} {size bytes : Nat} {z : Value} (hE : Elem P t e size bytes z) (w0 w : World) (he : Ext w0 w)
    (n : Nat) (hl : a.eval l = .int .i64 n) (hc : a.eval c = .int .i64 n) (hb : bytes * n ≤ 281474976710656) (hn : n ≤ maxLen)
    (h : ∀ w', Own e size w0 w' (.slice (some ⟨w.heap.size, 0, none⟩) n n) n (madeCells z.cells (n * size)).toList → Ext w0 w' → Ext w w' → wpList P ops Q rest (a.put o.dst (.slice (some ⟨w.heap.size, 0, none⟩) n n)) w') :
    wpList P ops Q (o :: rest) a w := by
  obtain ⟨i0, hi0, hz0, hz1, hz2⟩ := info_parts hE.hi
  refine wpList_make_full w hg l c t hop w0.heap.size e i0 z size hE.ht hi0 hz0 hz1 .i64 .i64 n n n hl hc rfl rfl (by rw [hz2]; exact hb) hn he.size ?_
  intro w' ho' hg'
  exact h w' ho' (he.grown hg' (fun k hk => by cases hk)) ((Ext.refl w).grown hg' (fun k hk => by cases hk))
/-- make([]T, 0, n) -/
theorem wpList_mk0 (hg : o.guard = none) (l c : Operand) (t : TypeId) (hop : o.op = Op.makeSlice t l c)
    {e : TypeId} {size bytes : Nat} {z : Value} (hE : Elem P t e size bytes z) (w0 w : World) (he : Ext w0 w)
    (n : Nat) (hl : a.eval l = .int .i64 0) (hc : a.eval c = .int .i64 n) (hb : bytes * n ≤ 281474976710656) (hn : n ≤ maxLen)
    (h : ∀ w', Own e size w0 w' (.slice (some ⟨w.heap.size, 0, none⟩) 0 n) 0 [] → Ext w0 w' → wpList P ops Q rest (a.put o.dst (.slice (some ⟨w.heap.size, 0, none⟩) 0 n)) w') :
    wpList P ops Q (o :: rest) a w := by
  obtain ⟨i0, hi0, hz0, hz1, hz2⟩ := info_parts hE.hi
  refine wpList_make_own w hg l c t hop w0.heap.size e i0 z size hE.ht hi0 hz0 hz1 .i64 .i64 n n hl hc rfl (by rw [hz2]; exact hb) hn he.size ?_
  intro w' ho' hg'
  exact h w' ho' (he.grown hg' (fun k hk => by cases hk))

/-- append(s, x1, .., xm): the new elements lie in a block of their own, the newest -/
theorem wpList_app (hgd : o.guard = none) (s x : Operand) (t : TypeId) (ho : o.op = .call { callee := .builtin .append, args := #[s, x], argTypes := #[t, t] })
    {e : TypeId} {size bytes : Nat} {z : Value} (hE : Elem P t e size bytes z) (w0 w : World) (v : Value) (n : Nat) (xs : List Value) (hs : a.eval s = v) (hown : Own e size w0 w v n xs)
    (he : Ext w0 w) (news : List Value) (m c : Nat) (hx : a.eval x = .slice (some ⟨w.heap.size, 0, none⟩) m c) (hl : news.length = m * size) (h1 : ∀ u ∈ news, u.oneCell' = true)
    (hm : n + m ≤ maxLen) (hb : (n + m) * bytes ≤ 140737488355328)
    (h : ∀ v' w', Own e size w0 w' v' (n + m) (xs ++ news) → Ext w0 w' → wpList P ops Q rest (a.put o.dst v') w') :
    wpList P ops Q (o :: rest) a (w.alloc (.cells news.toArray e)) := by
  obtain ⟨i0, hi0, hz0, hz1, hz2⟩ := info_parts hE.hi
  refine wpList_append_own _ hgd s x t ho w0.heap.size e i0 z size bytes hE.ht hi0 hz0 hz1 hz2 hE.hz hE.hs v n xs hs (hown.alloc _) ⟨w.heap.size, 0, none⟩ m c news hx hl ?_ h1 hm hb (by have := he.size; simp; omega) ?_
  · intro j u hj
    rw [World.cell?_alloc_at' w news e j]; exact hj
  · intro v' w' ho' hg _
    exact h v' w' ho' ((Ext_alloc _ he).grown hg (fun k hk => (hown.lt k hk).1))
end

/-- an own row of one-cell elements reads as its list -/
theorem Own.rd {α : Type} {f : α → Value} {e : TypeId} {w0 w : World} {v : Value} {n : Nat} {l : List α} (h : Own e 1 w0 w v n (l.map f)) (hl : l.length ≤ 140737488351232) :
    ∃ A c, v = .slice A l.length c ∧ Rd f w A l c := by
  have hn : n = l.length := by have := h.1; simpa using this.symm
  subst hn
  rcases h.2 with ⟨rfl, h0⟩ | ⟨g, cap, cur, rfl, hb, hg, hnc, hcm, hcs, htake⟩
  · exact ⟨none, 0, by rw [h0], ⟨by omega, by omega, fun hp => by omega⟩, hl⟩
  · refine ⟨_, _, rfl, ⟨by omega, by omega, fun _ => ⟨g, 0, rfl, (Array.getElem?_eq_some_iff.1 hg).1, fun w' e' i hi => ?_⟩⟩, hl⟩
    have hg' : w'.heap[g]? = some (.cells cur _ (0, 0)) := (Below.block e' g (Array.getElem?_eq_some_iff.1 hg).1).trans hg
    rw [cell_of_row w' g (0 + i) cur _ (0, 0) hg']
    have h2 : (cur.toList.take (l.length * 1))[i]? = (l.map f)[i]? := by rw [htake]
    rw [List.getElem?_take, if_pos (by omega)] at h2
    simpa [hi] using h2
theorem Own.empty {e : TypeId} {size : Nat} {w0 w : World} (he : Ext w0 w) : Own e size w0 (w.alloc (.cells #[] e)) (.slice (some ⟨w.heap.size, 0, none⟩) 0 0) 0 [] :=
  ⟨by simp, .inr ⟨w.heap.size, 0, #[], rfl, he.size, heap_alloc_new w _, by omega, by simp [maxLen], by simp, by simp⟩⟩
theorem Own.ext {e : TypeId} {size : Nat} {w0 w w1 : World} {v : Value} {n : Nat} {xs : List Value} (h : Own e size w0 w v n xs) (k : Ext w w1) : Own e size w0 w1 v n xs := by
  refine ⟨h.1, ?_⟩
  rcases h.2 with h0 | ⟨g, cap, cur, rfl, hb, hg, r⟩
  · exact .inl h0
  · exact .inr ⟨g, cap, cur, rfl, hb, (Below.block k g (Array.getElem?_eq_some_iff.1 hg).1).trans hg, r⟩

theorem Own.slot {e : TypeId} {size : Nat} {w0 w : World} {g n cap : Nat} {xs : List Value} (h : Own e size w0 w (.slice (some ⟨g, 0, none⟩) n cap) n xs) (k : Nat) (hk : k < xs.length) :
    (∃ u, w.cell? ⟨g, k, none⟩ = some u) ∧ w.frozen? ⟨g, k, none⟩ = false :=
  ⟨⟨xs[k], by rw [h.cellAt k (by have := h.1; omega)]; simp [hk]⟩, h.frozenAt k⟩
theorem Own.store {e : TypeId} {size : Nat} {w0 w : World} {g n cap : Nat} {xs : List Value} (h : Own e size w0 w (.slice (some ⟨g, 0, none⟩) n cap) n xs) (he : Ext w0 w) (k : Nat) (u : Value) :
    Own e size w0 (w.setCell ⟨g, k, none⟩ u) (.slice (some ⟨g, 0, none⟩) n cap) n (xs.set k u) ∧ Ext w0 (w.setCell ⟨g, k, none⟩ u) :=
  ⟨(h.stored k u).1, he.setCell (h.lt g rfl).1 u⟩
/-- where a slice's cells lie, and what they hold in whatever later world -/
theorem Rd.base {α : Type} {f : α → Value} {w : World} {A : Option Addr} {l : List α} {c : Nat} (h : Rd f w A l c) (hp : 0 < l.length) :
    ∃ b off, A = some ⟨b, off, none⟩ ∧ b < w.heap.size ∧ ∀ (w' : World), Ext w w' → ∀ i (h : i < l.length), w'.cell? ⟨b, off + i, none⟩ = some (f l[i]) := h.1.2.2 hp
/-- the cells of a part, as the laws on append ask for them -/
theorem part_cells {α : Type} {f : α → Value} {w : World} {b off : Nat} {l : List α} (h : ∀ i (h : i < l.length), w.cell? ⟨b, off + i, none⟩ = some (f l[i])) (lo m : Nat) :
    ∀ j u, (((l.drop lo).take m).map f)[j]? = some u → w.cell? ((⟨b, off + lo, none⟩ : Addr).add j) = some u := by
  intro j u hu
  rw [List.getElem?_map, List.getElem?_take] at hu
  split at hu
  · rw [List.getElem?_drop] at hu
    have hlt : lo + j < l.length := by
      rcases Nat.lt_or_ge (lo + j) l.length with h' | h'
      · exact h'
      · rw [List.getElem?_eq_none h'] at hu; simp at hu
    rw [List.getElem?_eq_getElem hlt] at hu
    have hadd : (⟨b, off + lo, none⟩ : Addr).add j = ⟨b, off + (lo + j), none⟩ := by unfold Addr.add; split <;> simp_all [Nat.add_assoc]
    rw [hadd, h _ hlt]
    simpa using hu
  · simp at hu
theorem one_vu8 (l : List UInt8) : ∀ u ∈ l.map vu8, u.oneCell' = true := by
  intro u hu; obtain ⟨x, _, rfl⟩ := List.mem_map.1 hu; rfl
theorem one_vint (l : List Int) : ∀ u ∈ l.map vint, u.oneCell' = true := by
  intro u hu; obtain ⟨x, _, rfl⟩ := List.mem_map.1 hu; rfl
theorem one_vstr (l : List ByteArray) : ∀ u ∈ l.map vstr, u.oneCell' = true := by
  intro u hu; obtain ⟨x, _, rfl⟩ := List.mem_map.1 hu; rfl
theorem made_one (z : Value) (h : z.cells = #[z]) (n : Nat) : (madeCells z.cells (n * 1)).toList = List.replicate n z := by rw [h, Nat.mul_one, toList_madeCells_one]

/-- a row of one-cell elements that the call since w0 made itself, reading as l -/
def OwnL {α : Type} (f : α → Value) (e : TypeId) (w0 w : World) (v : Value) (l : List α) : Prop := Own e 1 w0 w v l.length (l.map f)
theorem OwnL.rd {α : Type} {f : α → Value} {e : TypeId} {w0 w : World} {v : Value} {l : List α} (h : OwnL f e w0 w v l) (hl : l.length ≤ 140737488351232) : ∃ A c, v = .slice A l.length c ∧ Rd f w A l c := Own.rd h hl
theorem OwnL.ext {α : Type} {f : α → Value} {e : TypeId} {w0 w w1 : World} {v : Value} {l : List α} (h : OwnL f e w0 w v l) (k : Ext w w1) : OwnL f e w0 w1 v l := Own.ext h k
theorem OwnL.empty {α : Type} {f : α → Value} {e : TypeId} {w0 w : World} (he : Ext w0 w) : OwnL f e w0 (w.alloc (.cells #[] e)) (.slice (some ⟨w.heap.size, 0, none⟩) 0 0) [] := Own.empty he
theorem OwnL.nil {α : Type} {f : α → Value} {e : TypeId} (w0 w : World) : OwnL f e w0 w (.slice none 0 0) [] := ⟨by simp, .inl ⟨rfl, rfl⟩⟩
section
variable {P : Program} {ops : Array Oper} {rest : List Oper} {o : Oper} {a : Act} {Q : Exit → Act → World → Prop}
/-- append(s, ys...) -/
theorem wpList_appL (hgd : o.guard = none) (s x : Operand) (t : TypeId) (ho : o.op = .call { callee := .builtin .append, args := #[s, x], argTypes := #[t, t] })
    {e : TypeId} {bytes : Nat} {z : Value} (hE : Elem P t e 1 bytes z) (hby : 1 ≤ bytes) (w0 w : World) {α : Type} (f : α → Value) (hf : ∀ x, (f x).oneCell' = true) (v : Value) (hs : a.eval s = v) (A : Option Addr) (m c : Nat) (hx : a.eval x = .slice A m c)
    (l ys : List α) (hown : OwnL f e w0 w v l) (he : Ext w0 w) (hm : m = ys.length)
    (hA : 0 < ys.length → ∃ ad, A = some ad ∧ ∀ j u, (ys.map f)[j]? = some u → w.cell? (ad.add j) = some u)
    (hb : (l.length + ys.length) * bytes ≤ 140737488355328)
    (h : ∀ v' w', OwnL f e w0 w' v' (l ++ ys) → Ext w0 w' → (v'.ownBlock = v.ownBlock ∨ v'.ownBlock = some w.heap.size) → w.grownBy w' v.ownBlock → wpList P ops Q rest (a.put o.dst v') w') :
    wpList P ops Q (o :: rest) a w := by
  subst hm
  refine wpList_app_any hgd s x t ho hE w0 w v l.length (l.map f) hs hown he (ys.map f) A ys.length c hx (by simp) hA (fun u hu => by obtain ⟨x, _, rfl⟩ := List.mem_map.1 hu; exact hf x)
    (by have := Nat.mul_le_mul_left (l.length + ys.length) hby; simp only [maxLen]; omega) hb ?_
  intro v' w' h1 h2 h3 h4
  exact h v' w' (by simpa [OwnL] using h1) h2 h3 h4
/-- append(s, y1, .., ym): the new elements lie in the newest block -/
theorem wpList_appN (hgd : o.guard = none) (s x : Operand) (t : TypeId) (ho : o.op = .call { callee := .builtin .append, args := #[s, x], argTypes := #[t, t] })
    {e : TypeId} {bytes : Nat} {z : Value} (hE : Elem P t e 1 bytes z) (hby : 1 ≤ bytes) (w0 w : World) {α : Type} (f : α → Value) (hf : ∀ x, (f x).oneCell' = true) (v : Value) (hs : a.eval s = v) (m c : Nat) (hx : a.eval x = .slice (some ⟨w.heap.size, 0, none⟩) m c)
    (l ys : List α) (cs : Array Value) (hcs : cs = (ys.map f).toArray) (hown : OwnL f e w0 w v l) (he : Ext w0 w) (hm : m = ys.length)
    (hb : (l.length + ys.length) * bytes ≤ 140737488355328)
    (h : ∀ v' w', OwnL f e w0 w' v' (l ++ ys) → Ext w0 w' → wpList P ops Q rest (a.put o.dst v') w') :
    wpList P ops Q (o :: rest) a (w.alloc (.cells cs e)) := by
  subst hcs
  refine wpList_appL hgd s x t ho hE hby w0 _ f hf v hs (some ⟨w.heap.size, 0, none⟩) m c hx l ys (hown.ext (Ext_alloc _ (Ext.refl w))) (Ext_alloc _ he) hm (fun _ => ⟨_, rfl, fun j u hu => ?_⟩) hb (fun v' w' h1 h2 _ _ => h v' w' h1 h2)
  rw [World.cell?_alloc_at']; exact hu
end

section
variable {P : Program} {ops : Array Oper} {rest : List Oper} {o : Oper} {a : Act} {Q : Exit → Act → World → Prop} {K : Act → World → Prop} {E : Prop}
theorem step_appL (hgd : o.guard = none) (s x : Operand) (t : TypeId) (ho : o.op = .call { callee := .builtin .append, args := #[s, x], argTypes := #[t, t] })
    {e : TypeId} {bytes : Nat} {z : Value} (hE : Elem P t e 1 bytes z) (hby : 1 ≤ bytes) (w0 w : World) {α : Type} (f : α → Value) (hf : ∀ x, (f x).oneCell' = true) (v : Value) (hs : a.eval s = v) (A : Option Addr) (m c : Nat) (hx : a.eval x = .slice A m c)
    (l ys : List α) (hown : OwnL f e w0 w v l) (he : Ext w0 w) (hm : m = ys.length)
    (hA : 0 < ys.length → ∃ ad, A = some ad ∧ ∀ j u, (ys.map f)[j]? = some u → w.cell? (ad.add j) = some u)
    (hb : (l.length + ys.length) * bytes ≤ 140737488355328)
    (h : ∀ v' w', OwnL f e w0 w' v' (l ++ ys) → Ext w0 w' → K (a.put o.dst v') w') :
    if Region.wanted o (yielded ops a.tmps) = true then Oper.wp P o a w K Q else E := by
  have hw : Region.wanted o (yielded ops a.tmps) = true := by simp [Region.wanted, hgd]
  rw [if_pos hw]
  obtain ⟨i0, hi0, hz0, hz1, hz2⟩ := info_parts hE.hi
  subst hm
  have hfin : ∀ v' w', Own e 1 w0 w' v' (l.length + ys.length) (l.map f ++ ys.map f) → Ext w0 w' → K (a.put o.dst v') w' := fun v' w' h1 h2 => h v' w' (by simpa [OwnL] using h1) h2
  rcases A with _ | ad
  · have hm0 : ys.length = 0 := by
      rcases Nat.eq_zero_or_pos ys.length with h0 | h0
      · exact h0
      · obtain ⟨ad, h, _⟩ := hA h0
        cases h
    obtain rfl : ys = [] := List.eq_nil_of_length_eq_zero hm0
    unfold Oper.wp execOp
    simp only [ho, resolve, invoke, builtin, Sem.run_bind, Sem.run_pure, Result.andThen_ok, List.map_toArray, List.map_cons, List.map_nil, List.length_nil, hs, hx, run_app_nil w w0.heap.size t o.type e i0 1 hE.ht hi0 v l.length (l.map f) hown c]
    exact hfin v w (by have h' := hown; unfold OwnL at h'; simpa using h') he
  · obtain ⟨v', w', hr, h2, h3, h4, h5⟩ := run_append_own_at (P := P) w w0.heap.size t o.type e i0 z 1 bytes hE.ht hi0 hz0 hz1 hz2 hE.hz hE.hs v l.length (l.map f) hown ad ys.length c (ys.map f) (by simp)
      (fun j u hu => by
        rcases Nat.eq_zero_or_pos ys.length with h0 | h0
        · obtain rfl : ys = [] := List.eq_nil_of_length_eq_zero h0
          simp at hu
        · obtain ⟨ad', h', hc⟩ := hA h0
          injection h' with h'
          subst h'
          exact hc j u hu)
      (fun u hu => by obtain ⟨x, _, rfl⟩ := List.mem_map.1 hu; exact hf x) (by have := Nat.mul_le_mul_left (l.length + ys.length) hby; simp only [maxLen]; omega) hb he.size
    unfold Oper.wp execOp
    simp only [ho, resolve, invoke, builtin, Sem.run_bind, Sem.run_pure, Result.andThen_ok, List.map_toArray, List.map_cons, List.map_nil, hs, hx, hr]
    exact hfin v' w' h2 (he.grown h3 (fun k hk => (hown.lt k hk).1))
theorem step_appN (hgd : o.guard = none) (s x : Operand) (t : TypeId) (ho : o.op = .call { callee := .builtin .append, args := #[s, x], argTypes := #[t, t] })
    {e : TypeId} {bytes : Nat} {z : Value} (hE : Elem P t e 1 bytes z) (hby : 1 ≤ bytes) (w0 w W : World) {α : Type} (f : α → Value) (hf : ∀ x, (f x).oneCell' = true) (v : Value) (hs : a.eval s = v) (m c : Nat) (hx : a.eval x = .slice (some ⟨w.heap.size, 0, none⟩) m c)
    (l ys : List α) (cs : Array Value) (hcs : cs = (ys.map f).toArray) (hW : W = w.alloc (.cells cs e)) (hown : OwnL f e w0 w v l) (he : Ext w0 w) (hm : m = ys.length)
    (hb : (l.length + ys.length) * bytes ≤ 140737488355328)
    (h : ∀ v' w', OwnL f e w0 w' v' (l ++ ys) → Ext w0 w' → K (a.put o.dst v') w') :
    if Region.wanted o (yielded ops a.tmps) = true then Oper.wp P o a W K Q else E := by
  subst hW
  subst hcs
  refine step_appL hgd s x t ho hE hby w0 _ f hf v hs (some ⟨w.heap.size, 0, none⟩) m c hx l ys (hown.ext (Ext_alloc _ (Ext.refl w))) (Ext_alloc _ he) hm (fun _ => ⟨_, rfl, fun j u hu => ?_⟩) hb h
  rw [World.cell?_alloc_at']; exact hu
end
/-- a row of the call's own stays, while an elder block is written -/
theorem OwnL.kept {α : Type} {f : α → Value} {e : TypeId} {w0 w w' : World} {v : Value} {l : List α} (h : OwnL f e w0 w v l) {row : Option Nat} (hg : w.grownBy w' row) (hr : ∀ g, row = some g → g < w0.heap.size) : OwnL f e w0 w' v l := by
  refine World.ownsRow.kept h hg ?_
  cases hv : v.ownBlock with
  | none => exact .inl rfl
  | some g =>
    right
    intro e
    have := hr g e.symm
    have := (h.lt g hv).1
    omega
theorem OwnL.block {α : Type} {f : α → Value} {e : TypeId} {w0 w : World} {v : Value} {l : List α} (h : OwnL f e w0 w v l) : ∀ g, v.ownBlock = some g → g < w.heap.size := fun g hg => (h.lt g hg).2
theorem Own.mk_rd {f : Nat → Value} {e : TypeId} {w0 w : World} {A : Option Addr} {n c : Nat} (h : Own e 1 w0 w (.slice A n c) n ((List.range n).map f)) (hn : n ≤ 140737488351232) : Rd f w A (List.range n) c := by
  obtain ⟨A', c', hv, hr⟩ := Own.rd h (by simpa using hn)
  injection hv with h1 _ h3
  subst h1; subst h3
  exact hr

theorem u8_inj {x y : UInt8} (h : (x.toNat : Int) = (y.toNat : Int)) : x = y := UInt8.toNat_inj.1 (by omega)
theorem take_eq_succ {α : Type} {l l' : List α} {k : Nat} (h1 : k < l.length) (h2 : k < l'.length) (h : l.take k = l'.take k) (e : l[k] = l'[k]) : l.take (k+1) = l'.take (k+1) := by
  rw [List.take_succ_eq_append_getElem h1, List.take_succ_eq_append_getElem h2, h, e]
theorem ret_i64 {a b : Int} (h : a = b) : Ending.returned (.int .i64 a) = .returned (.int .i64 b) := by rw [h]
theorem ret_bool {a b : Bool} (h : a = b) : Ending.returned (.bool a) = .returned (.bool b) := by rw [h]
end Go.Proofs.YtdbbdoldndnbhaaDoor

/- Closed facts of the whole program, paid once: the signs of the dump's head are read once, as a list. -/
namespace Go.Proofs.YtdbbdoldndnbhaaDoor

theorem and_ : ∀ {a b : Bool}, a = true → b = true → (a && b) = true
  | true, true, _, _ => rfl
/-- the signs of the dump's head -/
def ioL : List Char := List.map Char.ofNat [104, 97, 114, 110, 101, 115, 115, 32, 100, 50, 57, 54, 56, 97, 100, 100, 51, 99, 101, 98, 97, 97, 56, 52, 99, 56, 52, 50, 54, 100, 50, 97, 53, 51, 51, 100, 53, 49, 55, 56, 102, 53, 56, 48, 52, 99, 101, 56, 102, 48, 99, 50, 55, 49, 55, 99, 101, 50, 53, 54, 100, 51, 99, 100, 56, 99, 55, 99, 50, 49, 98, 54, 32, 99, 117, 116, 32, 97, 116, 32, 108, 111, 111, 112, 46, 101, 120, 97, 109, 112, 108, 101, 47, 103, 48, 48, 53, 49, 56, 47, 108, 97, 119, 115, 46, 70, 110, 69, 120, 97, 99, 116, 65, 100, 100, 101, 100, 84, 97, 103, 115, 32, 108, 111, 111, 112, 46, 101, 120, 97, 109, 112, 108, 101, 47, 103, 48, 48, 53, 49, 56, 47, 108, 97, 119, 115, 46, 70, 110, 69, 120, 97, 99, 116, 69, 120, 112, 101, 99, 116, 101, 100, 84, 101, 120, 116, 32, 108, 111, 111, 112, 46, 101, 120, 97, 109, 112, 108, 101, 47, 103, 48, 48, 53, 49, 56, 47, 108, 97, 119, 115, 46, 70, 110, 69, 120, 97, 99, 116, 70, 111, 114, 109, 97, 116, 82, 101, 99, 111, 114, 100, 32, 108, 111, 111, 112, 46, 101, 120, 97, 109, 112, 108, 101, 47, 103, 48, 48, 53, 49, 56, 47, 108, 97, 119, 115, 46, 70, 110, 69, 120, 97, 99, 116, 72, 101, 120, 76, 105, 110, 101, 115, 32, 108, 111, 111, 112, 46, 101, 120, 97, 109, 112, 108, 101, 47, 103, 48, 48, 53, 49, 56, 47, 108, 97, 119, 115, 46, 70, 110, 82, 101, 99, 111, 114, 100, 115]
def cutW : List Char := List.map Char.ofNat [99, 117, 116]
theorem io_eq : Tryd.prog.initOrder = String.ofList ioL := by
  unfold Tryd.prog
  dsimp only [Tryd.progTables]
  kernel_rfl
theorem io_list : Tryd.prog.initOrder.toList = ioL := by rw [io_eq, String.toList_ofList]
theorem io_words : behindMainWord (wordsSigns ioL) = cutW :: (behindMainWord (wordsSigns ioL)).tail := by kernel_rfl
theorem io_strip (rest : List (List Char)) : stripLifts liftWords (cutW :: rest) = ([], cutW :: rest) := by kernel_rfl
theorem cut_gc : (cutW == "gc".toList || cutW == "spec".toList) = false := by kernel_rfl
theorem cut_carried : (cutW == "carried".toList) = false := by kernel_rfl
theorem cut_carried' : (some cutW == some "carried".toList) = false := by kernel_rfl
theorem cut_cut : (some cutW == some "cut".toList) = true := by kernel_rfl
theorem cut_cut' : (cutW == "cut".toList) = true := by kernel_rfl
theorem no_later : Tryd.prog.laysLater = false := by kernel_rfl
theorem no_reflect : Tryd.prog.bearsReflect = false := by kernel_rfl
theorem door_fits : Tryd.prog.doorFits [] = true := by kernel_rfl
section
variable {P : Program} {rest : List (List Char)} (h : behindMainWord (wordsSigns P.initOrder.toList) = cutW :: rest)
include h
theorem head_lifts_of : P.headLifts = [] := by
  unfold Program.headLifts
  rw [h, io_strip]
  simp only [List.head?_cons, cut_cut, if_true]
theorem enter_of (h1 : P.laysLater = false) (h2 : P.bearsReflect = false) (h3 : P.doorFits [] = true) : P.mayEnter = true := by
  unfold Program.mayEnter
  rw [h]
  simp only [io_strip, cut_gc, cut_carried, cut_cut, h1, h2, h3, List.head?_cons, Bool.false_and, Bool.false_or, Bool.not_false, Bool.and_true, Bool.or_true, List.contains_nil]
theorem final_of : P.liftsFinal = false := by
  unfold Program.liftsFinal
  rw [head_lifts_of h, h]
  simp only [List.head?_cons, cut_carried', Bool.false_and, Bool.false_or, List.contains_nil]
theorem make_of : P.make = some .cut := by
  unfold Program.make
  rw [h]
  simp only [cut_gc, cut_cut', Bool.true_or, if_true]
  rfl
end
theorem io_head : behindMainWord (wordsSigns Tryd.prog.initOrder.toList) = cutW :: (behindMainWord (wordsSigns ioL)).tail := by rw [io_list]; exact io_words
theorem fact_enter : Tryd.prog.mayEnter = true := enter_of io_head no_later no_reflect door_fits
theorem fact_final : Tryd.prog.liftsFinal = false := final_of io_head
theorem fact_make : Tryd.prog.make = some .cut := make_of io_head
theorem fact_final' : (false == Tryd.prog.liftsFinal) = true := by rw [fact_final]; rfl
theorem fact_make' : (Tryd.prog.make == some Make.cut) = true := by rw [fact_make]; kernel_rfl
theorem fact_laid : laidOutB Tryd.prog = true := by kernel_rfl
theorem fact_maps : mapsRowed Tryd.prog = true := by kernel_rfl
theorem fact_stops : (Tryd.prog.stops == []) = true := by kernel_rfl
theorem fact_knobs : (Tryd.prog.stopKnobs == []) = true := by kernel_rfl
theorem fact_heard : Tryd.prog.stopsHeard = true := by kernel_rfl
end Go.Proofs.YtdbbdoldndnbhaaDoor

/- What an argument that came in reads as. -/
namespace Go.Proofs.YtdbbdoldndnbhaaDoor
open Go.ChangeShapes Go.WideShapes Go.ChangeAt Go.RowKit Go.Deep

theorem own : ownKnob Tryd.prog.godebug = none := by kernel_rfl
theorem laidOut : laidOutB Tryd.prog = true := fact_laid

/-- a row that came in, its cells known by a function of the index -/
theorem rd0_of_cells {α : Type} {f : α → Value} {W : World} {x : Addr} {l : List α} {c : Nat} (hc0 : l.length ≤ c) (hl : l.length ≤ 9223372036854775807) (hc : ∀ i (h : i < l.length), W.cell? (x.add i) = some (f l[i])) : Rd0 f W (some x) l c := by
  refine ⟨hc0, hl, fun hp => ?_⟩
  obtain ⟨b, off, spot⟩ := x
  have h0 := hc 0 hp
  have hspot : spot = none := by simpa [Addr.add] using World.cell?_spot h0
  subst hspot
  refine ⟨b, off, rfl, ?_, fun w' e i hi => ?_⟩
  · have := block_lt_of_cell h0; simpa [Addr.add] using this
  · have h1 := hc i hi
    have hadd : (⟨b, off, none⟩ : Addr).add i = ⟨b, off + i, none⟩ := by unfold Addr.add; split <;> simp_all
    rw [hadd] at h1
    exact (Below.cell e (by simpa using block_lt_of_cell h1)).trans h1

section
variable {H : Type} {enc : TypeId × Value → H} {W : World} {base : Nat} {spare : Nat → Bool} {held : Bool}
theorem in_bytes {T E : TypeId} (hT : Tryd.prog.underlying T = some (.slice E)) (hE : Tryd.prog.underlying E = some (.int .u8)) (hC : Tryd.prog.cellsOf E = 1)
    {n : Nat} {v : Value} {y : DataW H × List MemPlace} (h : DataW.trod enc Tryd.prog W base spare held n T [v] = some y) :
    ∃ (A : Option Addr) (l : List UInt8) (c : Nat), v = .slice A l.length c ∧ Rd0 vu8 W A l c := by
  rcases open_ints hT hE hC h with ⟨hcs, _⟩ | ⟨x, len, c, zs, hcs, _, hl, hm, hz, _, hcell, hwz⟩
  · obtain rfl : v = .slice none 0 0 := by simpa using hcs
    exact ⟨none, [], 0, rfl, by simp, by simp, fun h => by simp at h⟩
  · obtain rfl : v = .slice (some x) len c := by simpa using hcs
    have hlz : len ≤ zs.length := by rw [hz]; split <;> omega
    refine ⟨some x, (zs.take len).map (fun z => UInt8.ofNat z.toNat), c, by simp; omega, rd0_of_cells (by simp; omega) (by simp [maxLen] at hm ⊢; omega) fun i hi => ?_⟩
    have hi' : i < len := by simp at hi; omega
    rw [hcell i (by omega)]
    have hb := bounds_u8 (hwz zs[i] (List.getElem_mem (by omega)))
    simp [vu8, List.getElem?_eq_getElem (show i < zs.length by omega)]
    omega
/-- a slice of ints that came in -/
def RdI (W : World) (A : Option Addr) (l : List Int) (c : Nat) : Prop := Rd0 vint W A l c ∧ ∀ x ∈ l, (Lit.int .i64 x).wf = true
theorem in_ints {T E : TypeId} (hT : Tryd.prog.underlying T = some (.slice E)) (hE : Tryd.prog.underlying E = some (.int .i64)) (hC : Tryd.prog.cellsOf E = 1)
    {n : Nat} {v : Value} {y : DataW H × List MemPlace} (h : DataW.trod enc Tryd.prog W base spare held n T [v] = some y) :
    ∃ (A : Option Addr) (l : List Int) (c : Nat), v = .slice A l.length c ∧ RdI W A l c := by
  rcases open_ints hT hE hC h with ⟨hcs, _⟩ | ⟨x, len, c, zs, hcs, _, hl, hm, hz, _, hcell, hwz⟩
  · obtain rfl : v = .slice none 0 0 := by simpa using hcs
    exact ⟨none, [], 0, rfl, ⟨by simp, by simp, fun h => by simp at h⟩, by simp⟩
  · obtain rfl : v = .slice (some x) len c := by simpa using hcs
    have hlz : len ≤ zs.length := by rw [hz]; split <;> omega
    refine ⟨some x, zs.take len, c, by simp; omega, rd0_of_cells (by simp; omega) (by simp [maxLen] at hm ⊢; omega) (fun i hi => ?_), fun z hz => hwz z (List.mem_of_mem_take hz)⟩
    have hi' : i < len := by simp at hi; omega
    rw [hcell i (by omega)]
    simp [vint, List.getElem?_eq_getElem (show i < zs.length by omega)]
theorem open_agg_5 {P : Program} {r : Reach} {b0 : Nat} {t : TypeId} {f0 f1 f2 f3 f4 : Field} {v : Value} {d : DataW H} {p : List MemPlace} (hs : P.underlying t = some (.struct #[f0, f1, f2, f3, f4])) (hone : oneCellFields P #[f0, f1, f2, f3, f4] = true) (hC : P.cellsOf t = 5)
    (hv : Value.okWide P W r b0 t v) (h : DataW.Trod enc P W base spare held t v d p) :
    ∃ (v0 v1 v2 v3 v4 : Value) (y0 y1 y2 y3 y4 : DataW H × List MemPlace) (n : Nat), v = .agg #[v0, v1, v2, v3, v4] ∧ DataW.trod enc P W base spare held n f0.type [v0] = some y0 ∧ DataW.trod enc P W base spare held n f1.type [v1] = some y1 ∧ DataW.trod enc P W base spare held n f2.type [v2] = some y2 ∧ DataW.trod enc P W base spare held n f3.type [v3] = some y3 ∧ DataW.trod enc P W base spare held n f4.type [v4] = some y4 := by
  obtain ⟨cs, rfl, hsz⟩ := okWide_struct hs hv
  obtain ⟨l⟩ := cs
  match l, hsz.trans hC with
  | [c0, c1, c2, c3, c4], _ =>
    obtain ⟨fuel, hf⟩ := h
    obtain ⟨xs, n, _, hx, _, hlen, hg⟩ := DataW.trod_struct hs hf
    obtain ⟨o0, k0⟩ := Go.Deep.hone_of hone 0 f0 rfl
    obtain ⟨o1, k1⟩ := Go.Deep.hone_of hone 1 f1 rfl
    obtain ⟨o2, k2⟩ := Go.Deep.hone_of hone 2 f2 rfl
    obtain ⟨o3, k3⟩ := Go.Deep.hone_of hone 3 f3 rfl
    obtain ⟨o4, k4⟩ := Go.Deep.hone_of hone 4 f4 rfl
    match xs, hlen with
    | [y0, y1, y2, y3, y4], _ =>
      exact ⟨c0, c1, c2, c3, c4, y0, y1, y2, y3, y4, n, rfl, by simpa [Value.cells, o0, k0] using hg 0 f0 rfl, by simpa [Value.cells, o1, k1] using hg 1 f1 rfl, by simpa [Value.cells, o2, k2] using hg 2 f2 rfl, by simpa [Value.cells, o3, k3] using hg 3 f3 rfl, by simpa [Value.cells, o4, k4] using hg 4 f4 rfl⟩
theorem open_agg_2 {P : Program} {r : Reach} {b0 : Nat} {t : TypeId} {f0 f1 : Field} {v : Value} {d : DataW H} {p : List MemPlace} (hs : P.underlying t = some (.struct #[f0, f1])) (hone : oneCellFields P #[f0, f1] = true) (hC : P.cellsOf t = 2)
    (hv : Value.okWide P W r b0 t v) (h : DataW.Trod enc P W base spare held t v d p) :
    ∃ (v0 v1 : Value) (y0 y1 : DataW H × List MemPlace) (n : Nat), v = .agg #[v0, v1] ∧ DataW.trod enc P W base spare held n f0.type [v0] = some y0 ∧ DataW.trod enc P W base spare held n f1.type [v1] = some y1 := by
  obtain ⟨cs, rfl, hsz⟩ := okWide_struct hs hv
  obtain ⟨l⟩ := cs
  match l, hsz.trans hC with
  | [c0, c1], _ =>
    obtain ⟨fuel, hf⟩ := h
    obtain ⟨xs, n, _, hx, _, hlen, hg⟩ := DataW.trod_struct hs hf
    obtain ⟨o0, k0⟩ := Go.Deep.hone_of hone 0 f0 rfl
    obtain ⟨o1, k1⟩ := Go.Deep.hone_of hone 1 f1 rfl
    match xs, hlen with
    | [y0, y1], _ =>
      exact ⟨c0, c1, y0, y1, n, rfl, by simpa [Value.cells, o0, k0] using hg 0 f0 rfl, by simpa [Value.cells, o1, k1] using hg 1 f1 rfl⟩
theorem open_agg_4 {P : Program} {r : Reach} {b0 : Nat} {t : TypeId} {f0 f1 f2 f3 : Field} {v : Value} {d : DataW H} {p : List MemPlace} (hs : P.underlying t = some (.struct #[f0, f1, f2, f3])) (hone : oneCellFields P #[f0, f1, f2, f3] = true) (hC : P.cellsOf t = 4)
    (hv : Value.okWide P W r b0 t v) (h : DataW.Trod enc P W base spare held t v d p) :
    ∃ (v0 v1 v2 v3 : Value) (y0 y1 y2 y3 : DataW H × List MemPlace) (n : Nat), v = .agg #[v0, v1, v2, v3] ∧ DataW.trod enc P W base spare held n f0.type [v0] = some y0 ∧ DataW.trod enc P W base spare held n f1.type [v1] = some y1 ∧ DataW.trod enc P W base spare held n f2.type [v2] = some y2 ∧ DataW.trod enc P W base spare held n f3.type [v3] = some y3 := by
  obtain ⟨cs, rfl, hsz⟩ := okWide_struct hs hv
  obtain ⟨l⟩ := cs
  match l, hsz.trans hC with
  | [c0, c1, c2, c3], _ =>
    obtain ⟨fuel, hf⟩ := h
    obtain ⟨xs, n, _, hx, _, hlen, hg⟩ := DataW.trod_struct hs hf
    obtain ⟨o0, k0⟩ := Go.Deep.hone_of hone 0 f0 rfl
    obtain ⟨o1, k1⟩ := Go.Deep.hone_of hone 1 f1 rfl
    obtain ⟨o2, k2⟩ := Go.Deep.hone_of hone 2 f2 rfl
    obtain ⟨o3, k3⟩ := Go.Deep.hone_of hone 3 f3 rfl
    match xs, hlen with
    | [y0, y1, y2, y3], _ =>
      exact ⟨c0, c1, c2, c3, y0, y1, y2, y3, n, rfl, by simpa [Value.cells, o0, k0] using hg 0 f0 rfl, by simpa [Value.cells, o1, k1] using hg 1 f1 rfl, by simpa [Value.cells, o2, k2] using hg 2 f2 rfl, by simpa [Value.cells, o3, k3] using hg 3 f3 rfl⟩
end
end Go.Proofs.YtdbbdoldndnbhaaDoor

/- Contracts of the laws' small functions over slices of bytes and ints: the copy, the comparison, the marks. -/
namespace Go.Proofs.YtdbbdoldndnbhaaDoor
open Go.RowKit Go.Sort

theorem E_u8 : Elem Tryd.prog 44 5 1 1 (.int .u8 0) := ⟨Tryd.underlying44, by kernel_rfl, rfl, by omega⟩
theorem E_int : Elem Tryd.prog 67 3 1 8 (.int .i64 0) := ⟨Tryd.underlying67, by kernel_rfl, rfl, by omega⟩

theorem fill_step {α : Type} (f : α → Value) (l : List α) (z : Value) (k : Nat) (hk : k < l.length) :
    ((l.take k).map f ++ List.replicate (l.length - k) z).set k (f l[k]) = (l.take (k+1)).map f ++ List.replicate (l.length - (k+1)) z := by
  rw [List.take_succ_eq_append_getElem hk, List.map_append, List.set_append_right _ _ (by simp; omega)]
  have : l.length - k = (l.length - (k+1)) + 1 := by omega
  rw [this, List.replicate_succ]
  simp [Nat.min_eq_left (Nat.le_of_lt hk)]

set_option maxHeartbeats 400000 in
theorem toByteS_c (A : Option Addr) (l : List _) (c : Nat) (w : World) (h : Rd0 vu8 w A l c) (hL : l.length ≤ 1048576) :
    Calls Tryd.prog 27 #[.slice A l.length c] w fun e w' => ∃ v, e = .returned v ∧ Own 5 1 w w' v l.length (l.map vu8) ∧ Ext w w' := by
  go_enter Tryd.func27, Tryd.ntmps27
  go_wp2_with (first
    | (at_make; refine wpList_mk rfl _ _ _ rfl E_u8 w w (Ext.refl w) l.length rfl rfl (by omega) (by simp [maxLen]; omega) ?_; intro w1 ho he _))
  go_loopw [4] (fun i wr => ∃ k : Nat, k ≤ l.length ∧ i = .int .i64 k ∧ Own 5 1 w wr (.slice (some ⟨w.heap.size, 0, none⟩) l.length l.length) l.length ((l.take k).map vu8 ++ List.replicate (l.length - k) (.int .u8 0)) ∧ Ext w wr) (fun i _ => l.length - (intOf i).toNat)
  case atStart => exact ⟨0, by omega, rfl, by rw [made_one _ rfl] at ho; simpa using ho, he⟩
  case round =>
    clear ho he
    obtain ⟨k, hk, rfl, ho, he⟩ := hrel
    by_cases hlt : k < l.length
    · obtain ⟨b, off, rfl, hb, hc⟩ := h.at k hlt
      obtain ⟨⟨u0, hu⟩, hf⟩ := ho.slot k (by simp; omega)
      obtain ⟨ho', he'⟩ := ho.store he k (vu8 l[k])
      rw [fill_step vu8 l _ k hlt] at ho'
      clear h ho
      go_wp2
      go_roundw
      case rel => exact ⟨k+1, by omega, by go_num, ho', he'⟩
      case measure => simp [intOf]; omega
    · obtain rfl : k = l.length := by omega
      go_wp2
      go_ret
      exact ⟨_, rfl, by simpa using ho, he⟩

set_option maxHeartbeats 400000 in
theorem toIntS_c (A : Option Addr) (l : List _) (c : Nat) (w : World) (h : Rd0 vint w A l c) (hL : l.length ≤ 1048576) :
    Calls Tryd.prog 99 #[.slice A l.length c] w fun e w' => ∃ v, e = .returned v ∧ Own 3 1 w w' v l.length (l.map vint) ∧ Ext w w' := by
  go_enter Tryd.func99, Tryd.ntmps99
  go_wp2_with (first
    | (at_make; refine wpList_mk rfl _ _ _ rfl E_int w w (Ext.refl w) l.length rfl rfl (by omega) (by simp [maxLen]; omega) ?_; intro w1 ho he _))
  go_loopw [4] (fun i wr => ∃ k : Nat, k ≤ l.length ∧ i = .int .i64 k ∧ Own 3 1 w wr (.slice (some ⟨w.heap.size, 0, none⟩) l.length l.length) l.length ((l.take k).map vint ++ List.replicate (l.length - k) (.int .i64 0)) ∧ Ext w wr) (fun i _ => l.length - (intOf i).toNat)
  case atStart => exact ⟨0, by omega, rfl, by rw [made_one _ rfl] at ho; simpa using ho, he⟩
  case round =>
    clear ho he
    obtain ⟨k, hk, rfl, ho, he⟩ := hrel
    by_cases hlt : k < l.length
    · obtain ⟨b, off, rfl, hb, hc⟩ := h.at k hlt
      obtain ⟨⟨u0, hu⟩, hf⟩ := ho.slot k (by simp; omega)
      obtain ⟨ho', he'⟩ := ho.store he k (vint l[k])
      rw [fill_step vint l _ k hlt] at ho'
      clear h ho
      go_wp2
      go_roundw
      case rel => exact ⟨k+1, by omega, by go_num, ho', he'⟩
      case measure => simp [intOf]; omega
    · obtain rfl : k = l.length := by omega
      go_wp2
      go_ret
      exact ⟨_, rfl, by simpa using ho, he⟩

/-- the values that a marker lays from k on -/
def mk8 (k : Int) (i : Nat) : Value := .int .u8 (IntKind.u8.wrap (k + i))
def mkI (k : Int) (i : Nat) : Value := .int .i64 (k + i)
theorem mark_step (f : Nat → Value) (xs : List Value) (j n : Nat) (hn : xs.length = n) (hj : j < n) :
    ((List.range j).map f ++ xs.drop j).set j (f j) = (List.range (j+1)).map f ++ xs.drop (j+1) := by
  rw [List.set_append_right _ _ (by simp), List.range_succ, List.map_append, List.append_assoc]
  congr 1
  have e : xs.drop j = xs[j] :: xs.drop (j+1) := List.drop_eq_getElem_cons (by omega)
  rw [e]
  simp only [List.length_map, List.length_range, Nat.sub_self, List.set_cons_zero, List.map_cons, List.map_nil, List.cons_append, List.nil_append]
set_option maxHeartbeats 400000 in
theorem markByteS_c (A : Option Addr) (n c : Nat) (k : Int) (xs : List Value) (w0 w : World) (ho : Own 5 1 w0 w (.slice A n c) n xs) (hk : 0 ≤ k) (hk2 : k + n ≤ 1099511627776) :
    Calls Tryd.prog 30 #[.slice A n c, .int .i64 k] w fun e w' => e = .returned (.int .i64 (k + n)) ∧ Own 5 1 w0 w' (.slice A n c) n ((List.range n).map (mk8 k)) ∧ w.grownBy w' (Value.slice A n c).ownBlock := by
  have hxn : xs.length = n := by have := ho.1; omega
  go_enter Tryd.func30, Tryd.ntmps30
  go_wp2
  go_loopw [1, 5] (fun kk i wr => ∃ j : Nat, j ≤ n ∧ i = .int .i64 j ∧ kk = .int .i64 (k + j) ∧ Own 5 1 w0 wr (.slice A n c) n ((List.range j).map (mk8 k) ++ xs.drop j) ∧ w.grownBy wr (Value.slice A n c).ownBlock) (fun _ i _ => n - (intOf i).toNat)
  case atStart => exact ⟨0, by omega, rfl, by simp, by simpa using ho, World.grownBy.refl _ _⟩
  case round =>
    clear ho
    obtain ⟨j, hj, rfl, rfl, ho, hg⟩ := hrel
    by_cases hlt : j < n
    · obtain ⟨g, c', hv, hb, hs⟩ := World.ownsRow.form ho (by omega)
      injection hv with hA _ hc
      subst hA; subst hc
      obtain ⟨⟨u0, hu⟩, hf⟩ := ho.slot j (by simp; omega)
      have hg2 := hg.trans (ho.stored j (mk8 k j)).2
      have ho' := (ho.stored j (mk8 k j)).1
      rw [mark_step (mk8 k) xs j n hxn hlt] at ho'
      have H1 := Lib.hid ho'; have H3 := Lib.hid hg2
      clear ho ho' hg2 hg
      go_wp2
      go_roundw
      case rel => exact ⟨j+1, by omega, by go_num, by go_num, H1.out, H3.out⟩
      case measure => simp [intOf]; omega
    · obtain rfl : j = n := by omega
      have H1 := Lib.hid ho; have H3 := Lib.hid hg
      clear ho hg
      go_wp2
      go_ret
      exact ⟨rfl, by have := H1.out; rw [List.drop_of_length_le (by omega)] at this; simpa using this, H3.out⟩

set_option maxHeartbeats 400000 in
theorem markIntS_c (A : Option Addr) (n c : Nat) (k : Int) (xs : List Value) (w0 w : World) (ho : Own 3 1 w0 w (.slice A n c) n xs) (hk : 0 ≤ k) (hk2 : k + n ≤ 1099511627776) :
    Calls Tryd.prog 82 #[.slice A n c, .int .i64 k] w fun e w' => e = .returned (.int .i64 (k + n)) ∧ Own 3 1 w0 w' (.slice A n c) n ((List.range n).map (mkI k)) ∧ w.grownBy w' (Value.slice A n c).ownBlock := by
  have hxn : xs.length = n := by have := ho.1; omega
  go_enter Tryd.func82, Tryd.ntmps82
  go_wp2
  go_loopw [1, 5] (fun kk i wr => ∃ j : Nat, j ≤ n ∧ i = .int .i64 j ∧ kk = .int .i64 (k + j) ∧ Own 3 1 w0 wr (.slice A n c) n ((List.range j).map (mkI k) ++ xs.drop j) ∧ w.grownBy wr (Value.slice A n c).ownBlock) (fun _ i _ => n - (intOf i).toNat)
  case atStart => exact ⟨0, by omega, rfl, by simp, by simpa using ho, World.grownBy.refl _ _⟩
  case round =>
    clear ho
    obtain ⟨j, hj, rfl, rfl, ho, hg⟩ := hrel
    by_cases hlt : j < n
    · obtain ⟨g, c', hv, hb, hs⟩ := World.ownsRow.form ho (by omega)
      injection hv with hA _ hc
      subst hA; subst hc
      obtain ⟨⟨u0, hu⟩, hf⟩ := ho.slot j (by simp; omega)
      have hg2 := hg.trans (ho.stored j (mkI k j)).2
      have ho' := (ho.stored j (mkI k j)).1
      rw [mark_step (mkI k) xs j n hxn hlt] at ho'
      have H1 := Lib.hid ho'; have H3 := Lib.hid hg2
      clear ho ho' hg2 hg
      go_wp2
      go_roundw
      case rel => exact ⟨j+1, by omega, by go_num, by go_num, H1.out, H3.out⟩
      case measure => simp [intOf]; omega
    · obtain rfl : j = n := by omega
      have H1 := Lib.hid ho; have H3 := Lib.hid hg
      clear ho hg
      go_wp2
      go_ret
      exact ⟨rfl, by have := H1.out; rw [List.drop_of_length_le (by omega)] at this; simpa using this, H3.out⟩

end Go.Proofs.YtdbbdoldndnbhaaDoor

/- Contracts of small functions over byte slices. -/
namespace Go.Proofs.YtdbbdoldndnbhaaDoor
open Go.RowKit Go.Sort

set_option maxHeartbeats 400000 in
theorem eqByteS_c (A A' : Option Addr) (l l' : List UInt8) (c c' : Nat) (w : World) (h : Bs w A l c) (h' : Bs w A' l' c') :
    Gives Tryd.prog 29 #[.slice A l.length c, .slice A' l'.length c'] w (.bool (l == l')) := by
  have hl := h.len; have hl' := h'.len
  by_cases hn : l.length = l'.length
  · have hb1 : ((l.length : Int) != (l'.length : Int)) = false := by simp [hn]
    have H := Lib.hid hn; clear hn
    go_enter Tryd.func29, Tryd.ntmps29
    go_wp2
    go_loopw [5, 4] (fun i v wr => ∃ k : Nat, k ≤ l.length ∧ i = .int .i64 k ∧ Hid (l.take k = l'.take k) ∧ Ext w wr) (fun i _ _ => l.length - (intOf i).toNat)
    case atStart => exact ⟨0, by omega, rfl, by simp [Hid], Ext.refl _⟩
    case round =>
      obtain ⟨k, hk, rfl, ht, he⟩ := hrel
      by_cases hlt : k < l.length
      · have hlt' : k < l'.length := by have := H.out; omega
        obtain ⟨b, off, rfl, hb, hc⟩ := h.at k hlt
        obtain ⟨b', off', rfl, hb', hc'⟩ := h'.at k hlt'
        clear h h'
        go_wp2
        refine wp_region_quiet_below (by kernel_rfl) (by kernel_rfl) ?_
        repeat (go_big_quiet_step (fail))
        refine wpQuiet_nil ?_
        rintro _ ⟨⟨nq, osq⟩, rfl⟩
        go_wp2
        · have hne : ((l[k].toNat : Int) != (l'[k].toNat : Int)) = true := by assumption
          go_ret
          refine ⟨ret_bool ?_, Ext_regrown _ _ he⟩
          symm; rw [beq_eq_false_iff_ne]; rintro rfl; simp at hne
        · have hne : ((l[k].toNat : Int) != (l'[k].toNat : Int)) = false := by assumption
          go_roundw
          case rel => exact ⟨k+1, by omega, by go_num, take_eq_succ hlt hlt' ht (u8_inj (by simpa using hne)), Ext_regrown _ _ he⟩
          case measure => simp [intOf]; omega
      · go_wp2
        go_ret
        refine ⟨ret_bool ?_, he⟩
        have ht := ht.out; have H := H.out
        rw [List.take_of_length_le (by omega), List.take_of_length_le (by omega)] at ht
        simp [ht]
  · have hb1 : ((l.length : Int) != (l'.length : Int)) = true := by simp; omega
    go_enter Tryd.func29, Tryd.ntmps29
    go_wp2
    go_ret
    refine ⟨ret_bool ?_, Ext.refl _⟩
    symm; rw [beq_eq_false_iff_ne]; rintro rfl; exact hn rfl


set_option maxHeartbeats 400000 in
theorem sEqualBytes_c (A A' : Option Addr) (l l' : List UInt8) (c c' : Nat) (w : World) (h : Bs w A l c) (h' : Bs w A' l' c') :
    Gives Tryd.prog 94 #[.slice A l.length c, .slice A' l'.length c'] w (.bool (l == l')) := by
  have hl := h.len; have hl' := h'.len
  by_cases hn : l.length = l'.length
  · have hb1 : ((l.length : Int) != (l'.length : Int)) = false := by simp [hn]
    have H := Lib.hid hn; clear hn
    go_enter Tryd.func94, Tryd.ntmps94
    go_wp2
    go_loopw [5, 4] (fun i v wr => ∃ k : Nat, k ≤ l.length ∧ i = .int .i64 k ∧ Hid (l.take k = l'.take k) ∧ Ext w wr) (fun i _ _ => l.length - (intOf i).toNat)
    case atStart => exact ⟨0, by omega, rfl, by simp [Hid], Ext.refl _⟩
    case round =>
      obtain ⟨k, hk, rfl, ht, he⟩ := hrel
      by_cases hlt : k < l.length
      · have hlt' : k < l'.length := by have := H.out; omega
        obtain ⟨b, off, rfl, hb, hc⟩ := h.at k hlt
        obtain ⟨b', off', rfl, hb', hc'⟩ := h'.at k hlt'
        clear h h'
        go_wp2
        refine wp_region_quiet_below (by kernel_rfl) (by kernel_rfl) ?_
        repeat (go_big_quiet_step (fail))
        refine wpQuiet_nil ?_
        rintro _ ⟨⟨nq, osq⟩, rfl⟩
        go_wp2
        · have hne : ((l[k].toNat : Int) != (l'[k].toNat : Int)) = true := by assumption
          go_ret
          refine ⟨ret_bool ?_, Ext_regrown _ _ he⟩
          symm; rw [beq_eq_false_iff_ne]; rintro rfl; simp at hne
        · have hne : ((l[k].toNat : Int) != (l'[k].toNat : Int)) = false := by assumption
          go_roundw
          case rel => exact ⟨k+1, by omega, by go_num, take_eq_succ hlt hlt' ht (u8_inj (by simpa using hne)), Ext_regrown _ _ he⟩
          case measure => simp [intOf]; omega
      · go_wp2
        go_ret
        refine ⟨ret_bool ?_, he⟩
        have ht := ht.out; have H := H.out
        rw [List.take_of_length_le (by omega), List.take_of_length_le (by omega)] at ht
        simp [ht]
  · have hb1 : ((l.length : Int) != (l'.length : Int)) = true := by simp; omega
    go_enter Tryd.func94, Tryd.ntmps94
    go_wp2
    go_ret
    refine ⟨ret_bool ?_, Ext.refl _⟩
    symm; rw [beq_eq_false_iff_ne]; rintro rfl; exact hn rfl
end Go.Proofs.YtdbbdoldndnbhaaDoor

/- bytes.Equal and EqualBytes of the program. -/
namespace Go.Proofs.YtdbbdoldndnbhaaDoor
open Go.RowKit Go.Sort

/-- the string of bytes -/
def strOf (l : List UInt8) : ByteArray := ⟨l.toArray⟩
theorem strOf_inj {l l' : List UInt8} : strOf l = strOf l' ↔ l = l' := by
  constructor
  · intro h; have := congrArg (fun b => b.data.toList) h; simpa [strOf] using this
  · rintro rfl; rfl
theorem strOf_nums (l : List UInt8) : strOfNums (l.map fun x => (x.toNat : Int)) = strOf l := by
  unfold strOfNums strOf
  congr 1
  rw [List.map_map]
  congr 1
  conv => rhs; rw [← List.map_id l]
  apply List.map_congr_left
  intro x _
  simp
theorem conv_bytes {w w' : World} {A : Option Addr} {l : List UInt8} {c : Nat} (h : Bs w A l c) (he : Ext w w') :
    (convert 44 9 (.slice A l.length c)).run Tryd.prog w' = .ok (.string (strOf l)) w' := by
  rcases Nat.eq_zero_or_pos l.length with h0 | h0
  · obtain rfl : l = [] := List.eq_nil_of_length_eq_zero h0
    rw [List.length_nil, run_convert_bytes_string w' 44 9 5 _ 0 c Tryd.underlying44 Tryd.underlying5 Tryd.underlying9]
    cases A <;> simp [Conv.bytesToString, loadCells]
    all_goals rfl
  · obtain ⟨b, off, rfl, hb, hc⟩ := h.base h0
    rw [← strOf_nums]
    refine run_convert_bytes_arg w' 44 5 Tryd.underlying44 Tryd.underlying5 b off l.length c (l.map fun x => (x.toNat : Int)) (by simp) (fun i hi => ?_) 9 Tryd.underlying9
    rw [hc w' he i hi]
    simp [vu8, hi]
set_option maxHeartbeats 400000 in
theorem bytesEqual_c (A A' : Option Addr) (l l' : List UInt8) (c c' : Nat) (w : World) (h : Bs w A l c) (h' : Bs w A' l' c') :
    Gives Tryd.prog 90 #[.slice A l.length c, .slice A' l'.length c'] w (.bool (l == l')) := by
  have k1 := fun w' e => conv_bytes (w' := w') h e
  have k2 := fun w' e => conv_bytes (w' := w') h' e
  clear h h'
  go_enter Tryd.func90, Tryd.ntmps90
  go_wp2
  go_ret
  refine ⟨ret_bool ?_, Ext.refl _⟩
  rw [ByteArray.toList_eq, ByteArray.toList_eq]
  simp [strOf]
set_option maxHeartbeats 400000 in
theorem iEqualBytes_c (A A' : Option Addr) (l l' : List UInt8) (c c' : Nat) (w : World) (h : Bs w A l c) (h' : Bs w A' l' c') :
    Gives Tryd.prog 72 #[.slice A l.length c, .slice A' l'.length c'] w (.bool (l == l')) := by
  go_enter Tryd.func72, Tryd.ntmps72
  go_wp2_with fail
  refine (bytesEqual_c _ _ _ _ _ _ _ h h').mono ?_; rintro _ w1 ⟨rfl, he⟩
  go_wp2
  go_ret
  exact ⟨rfl, he⟩
end Go.Proofs.YtdbbdoldndnbhaaDoor

/- Logs by value: the laws' helpers and EqualLogs. -/
namespace Go.Proofs.YtdbbdoldndnbhaaDoor
open Go.RowKit Go.Sort

/-- what is left of a size, or -1 -/
def szN (n : Nat) (left : Int) : Int := if left - n < 0 then -1 else left - n
set_option maxHeartbeats 400000 in
theorem szByteS_c (A : Option Addr) (l : List _) (c : Nat) (left : Int) (w : World) (h : Rd0 vu8 w A l c) (h0 : 0 ≤ left) (h1 : left ≤ 1048576) :
    Gives Tryd.prog 60 #[.slice A l.length c, .int .i64 left] w (.int .i64 (szN l.length left)) := by
  have hl := h.len
  by_cases hd : left - (l.length : Int) < 0
  · have H : Hid (szN l.length left = -1) := if_pos hd
    rw [H.out]
    go_enter Tryd.func60, Tryd.ntmps60
    go_wp2
    go_ret
    exact ⟨rfl, Ext.refl _⟩
  · have H : Hid (szN l.length left = left - l.length) := if_neg hd
    rw [H.out]
    go_enter Tryd.func60, Tryd.ntmps60
    go_wp2
    go_ret
    exact ⟨rfl, Ext.refl _⟩

set_option maxHeartbeats 400000 in
theorem szIntS_c (A : Option Addr) (l : List _) (c : Nat) (left : Int) (w : World) (h : Rd0 vint w A l c) (h0 : 0 ≤ left) (h1 : left ≤ 1048576) :
    Gives Tryd.prog 96 #[.slice A l.length c, .int .i64 left] w (.int .i64 (szN l.length left)) := by
  have hl := h.len
  by_cases hd : left - (l.length : Int) < 0
  · have H : Hid (szN l.length left = -1) := if_pos hd
    rw [H.out]
    go_enter Tryd.func96, Tryd.ntmps96
    go_wp2
    go_ret
    exact ⟨rfl, Ext.refl _⟩
  · have H : Hid (szN l.length left = left - l.length) := if_neg hd
    rw [H.out]
    go_enter Tryd.func96, Tryd.ntmps96
    go_wp2
    go_ret
    exact ⟨rfl, Ext.refl _⟩
theorem szN_lo (n : Nat) (left : Int) (h : left ≤ 1048576) (h0 : 0 ≤ left) : -1 ≤ szN n left ∧ szN n left ≤ 1048576 := by unfold szN; split <;> omega
def vlog (v : Value) (s : Int) : Value := .agg #[v, .int .i64 s]
end Go.Proofs.YtdbbdoldndnbhaaDoor

/- Records by value: the laws' helpers and EqualRecords. -/
namespace Go.Proofs.YtdbbdoldndnbhaaDoor
open Go.RowKit Go.Sort

def vrec (k : Int) (nm : ByteArray) (ver : Int) (v : Value) : Value := .agg #[.int .i64 k, .string nm, .int .i64 ver, v]
/-- what is left of the size of a record -/
def szR (n m : Nat) (left : Int) : Int := if szN n left < 0 then -1 else szN m (szN n left)
set_option maxHeartbeats 400000 in
theorem szRecord_c (k : Int) (nm : ByteArray) (ver : Int) (A : Option Addr) (l : List UInt8) (c : Nat) (left : Int) (w : World) (h : Rd0 vu8 w A l c) (hn : nm.size ≤ 9223372036854775807) (h0 : 0 ≤ left) (h1 : left ≤ 1048576) :
    Gives Tryd.prog 21 #[vrec k nm ver (.slice A l.length c), .int .i64 left] w (.int .i64 (szR nm.size l.length left)) := by
  have C := Lib.hid (fun left w h h0 h1 => szByteS_c A l c left w h h0 h1)
  by_cases hd : left - (nm.size : Int) < 0
  · have HR : Hid (szR nm.size l.length left = -1) := by show _ = _; unfold szR szN; rw [if_pos hd]; rfl
    rw [HR.out]
    unfold vrec
    go_enter Tryd.func21, Tryd.ntmps21
    go_wp2
    go_ret
    exact ⟨rfl, Ext_alloc _ (Ext.refl w)⟩
  · have HR : Hid (szR nm.size l.length left = szN l.length (left - nm.size)) := by show _ = _; unfold szR; rw [show szN nm.size left = left - nm.size from if_neg hd, if_neg hd]
    rw [HR.out]
    have hz := szN_lo l.length (left - nm.size) (by omega) (by omega)
    have HZ : Hid (szN l.length (left - nm.size) = szN l.length (left - nm.size)) := rfl
    generalize hzz : szN l.length (left - nm.size) = z at *
    have HY := Lib.hid hzz; clear hzz HZ
    unfold vrec
    by_cases hz0 : z < 0
    · obtain rfl : z = -1 := by omega
      go_enter Tryd.func21, Tryd.ntmps21
      go_wp2_with fail
      refine (C.out _ _ (h.ext (Ext_alloc _ (Ext.refl _))) (by omega) (by omega)).mono ?_; rintro _ w1 ⟨rfl, he⟩
      rw [HY.out]
      go_wp2
      go_ret
      exact ⟨rfl, (Ext_alloc _ (Ext.refl w)).trans he⟩
    · go_enter Tryd.func21, Tryd.ntmps21
      go_wp2_with fail
      refine (C.out _ _ (h.ext (Ext_alloc _ (Ext.refl _))) (by omega) (by omega)).mono ?_; rintro _ w1 ⟨rfl, he⟩
      rw [HY.out]
      go_wp2
      go_ret
      exact ⟨rfl, (Ext_alloc _ (Ext.refl w)).trans he⟩
set_option maxRecDepth 100000 in
set_option maxHeartbeats 1000000 in
theorem toRecord_c (k : Int) (nm : ByteArray) (ver : Int) (A : Option Addr) (l : List UInt8) (c : Nat) (w : World) (h : Rd0 vu8 w A l c) (hL : l.length ≤ 1048576) :
    Calls Tryd.prog 23 #[vrec k nm ver (.slice A l.length c)] w fun e w' => ∃ v, e = .returned (vrec k nm ver v) ∧ OwnL vu8 5 w w' v l ∧ Ext w w' := by
  have C := Lib.hid (fun w h => toByteS_c A l c w h hL)
  unfold vrec
  go_enter Tryd.func23, Tryd.ntmps23
  go_wp2_with fail
  refine (C.out _ (h.ext (Ext_alloc _ (Ext_alloc _ (Ext_alloc _ (Ext.refl w)))))).mono ?_; rintro _ w1 ⟨v1, rfl, ho, he⟩
  obtain ⟨b0, b1, b2, f0, f1, f2, hs⟩ := boxed3 he
  obtain ⟨A1, c1, rfl, _⟩ := OwnL.rd ho (by omega)
  have hB : w.heap.size + 3 = _ := (show w.heap.size + 3 = ((((w.alloc (.cells #[.int .i64 k, .string nm, .int .i64 ver, .slice A l.length c] 46)).alloc (.cells #[.int .i64 0, .string ⟨#[]⟩, .int .i64 0, .slice none 0 0] 49)).alloc (.cells #[.int .i64 k, .string nm, .int .i64 ver, .slice none 0 0] 49))).heap.size by simp)
  have HB := Lib.hid hB; clear hB
  go_wp2
  refine bodyPost_ret (v := .agg #[.int .i64 k, .string nm, .int .i64 ver, .slice A1 l.length c1]) (by simp [results, Tryd.results23, go_sem, b1, f1]) rfl ⟨_, rfl, ?_, ?_⟩
  · exact World.ownsRow.lower (B := w.heap.size + 3) (ownsRow_setCell_below (ownsRow_setCell_below (ownsRow_setCell_below (ownsRow_setCell_below (ownsRow_setCell_below (World.ownsRow.lower ho (Nat.le_of_eq HB.out)) (by simp) _) (by simp) _) (by simp) _) (by simp) _) (by simp) _) (by omega)
  · have e1 := (Ext_alloc _ (Ext_alloc _ (Ext_alloc _ (Ext.refl w)))).trans he
    exact ((((e1.setCell (by simp; omega) _).setCell (by simp) _).setCell (by simp) _).setCell (by simp) _).setCell (by simp) _
set_option maxHeartbeats 2000000 in
theorem iEqualRecords_c (k : Int) (nm : ByteArray) (ver : Int) (A : Option Addr) (l : List UInt8) (c : Nat) (k' : Int) (nm' : ByteArray) (ver' : Int) (A' : Option Addr) (l' : List UInt8) (c' : Nat) (w : World) (h : Bs w A l c) (h' : Bs w A' l' c') :
    Gives Tryd.prog 38 #[vrec k nm ver (.slice A l.length c), vrec k' nm' ver' (.slice A' l'.length c')] w (.bool (k == k' && nm.toList == nm'.toList && ver == ver' && l == l')) := by
  have C := Lib.hid (fun w h h' => iEqualBytes_c A A' l l' c c' w h h')
  generalize (l == l') = r at *
  unfold vrec
  cases h1 : (k == k') <;> cases h2 : (nm.toList == nm'.toList) <;> cases h3 : (ver == ver')
  all_goals
    go_enter Tryd.func38, Tryd.ntmps38
    go_wp2_with (go_at_call 72; refine (C.out _ (h.ext (Ext_alloc _ (Ext_alloc _ (Ext.refl w)))) (h'.ext (Ext_alloc _ (Ext_alloc _ (Ext.refl w))))).mono ?_; rintro _ w1 ⟨rfl, he⟩)
    go_ret
    first
      | exact ⟨ret_bool (by simp), Ext_alloc _ (Ext_alloc _ (Ext.refl w))⟩
      | exact ⟨ret_bool (by simp), (Ext_alloc _ (Ext_alloc _ (Ext.refl w))).trans he⟩

set_option maxHeartbeats 2000000 in
theorem eqRecord_c (k : Int) (nm : ByteArray) (ver : Int) (A : Option Addr) (l : List UInt8) (c : Nat) (k' : Int) (nm' : ByteArray) (ver' : Int) (A' : Option Addr) (l' : List UInt8) (c' : Nat) (w : World) (h : Bs w A l c) (h' : Bs w A' l' c') :
    Gives Tryd.prog 25 #[vrec k nm ver (.slice A l.length c), vrec k' nm' ver' (.slice A' l'.length c')] w (.bool (k == k' && nm.toList == nm'.toList && ver == ver' && l == l')) := by
  have C := Lib.hid (fun w h h' => eqByteS_c A A' l l' c c' w h h')
  generalize (l == l') = r at *
  unfold vrec
  cases h1 : (k == k') <;> cases h2 : (nm.toList == nm'.toList) <;> cases h3 : (ver == ver') <;> cases r
  all_goals
    have g1 := congrArg Bool.not h1
    have g2 := congrArg Bool.not h2
    have g3 := congrArg Bool.not h3
    rw [← bne] at g1 g2 g3
    simp only [Bool.not_true, Bool.not_false] at g1 g2 g3
    go_enter Tryd.func25, Tryd.ntmps25
    go_wp2_with (go_at_call 29; refine (C.out _ (h.ext (Ext_alloc _ (Ext_alloc _ (Ext.refl w)))) (h'.ext (Ext_alloc _ (Ext_alloc _ (Ext.refl w))))).mono ?_; rintro _ w1 ⟨rfl, he⟩)
    go_ret
    first
      | exact ⟨ret_bool (by simp), Ext_alloc _ (Ext_alloc _ (Ext.refl w))⟩
      | exact ⟨ret_bool (by simp), (Ext_alloc _ (Ext_alloc _ (Ext.refl w))).trans he⟩
end Go.Proofs.YtdbbdoldndnbhaaDoor

/- A record that came in. -/
namespace Go.Proofs.YtdbbdoldndnbhaaDoor
open Go.ChangeShapes Go.WideShapes Go.ChangeAt Go.RowKit Go.Deep

structure RecordIn where
  k : Int
  nm : ByteArray
  ver : Int
  A : Option Addr
  l : List UInt8
  c : Nat
def RecordIn.val (x : RecordIn) : Value := vrec x.k x.nm x.ver (.slice x.A x.l.length x.c)
def RecordIn.rd (x : RecordIn) (W : World) : Prop := Rd0 vu8 W x.A x.l x.c ∧ x.nm.size ≤ 9223372036854775807 ∧ (Lit.int .i64 x.k).wf = true ∧ (Lit.int .i64 x.ver).wf = true
set_option maxRecDepth 100000 in
theorem in_record {H : Type} {enc : TypeId × Value → H} {W : World} {base : Nat} {spare : Nat → Bool} {held : Bool} {r : Reach} {b0 : Nat} {v : Value} {d : DataW H} {p : List MemPlace}
    (hv : Value.okWide Tryd.prog W r b0 46 v) (h : DataW.Trod enc Tryd.prog W base spare held 46 v d p) : ∃ x : RecordIn, v = x.val ∧ x.rd W := by
  obtain ⟨v0, v1, v2, v3, y0, y1, y2, y3, n, rfl, h0, h1, h2, h3⟩ := open_agg_4 Tryd.underlying46 (by kernel_rfl) (by kernel_rfl) hv h
  dsimp only at h0 h1 h2 h3
  obtain ⟨k, e0, _, hk⟩ := DataW.trod_int Tryd.underlying3 h0
  obtain ⟨nm, e1, _, hn⟩ := DataW.trod_string Tryd.underlying9 h1
  obtain ⟨ver, e2, _, hw⟩ := DataW.trod_int Tryd.underlying3 h2
  obtain ⟨A, l, c, rfl, hr⟩ := in_bytes Tryd.underlying44 Tryd.underlying5 (by kernel_rfl) h3
  simp at e0 e1 e2
  subst e0 e1 e2
  exact ⟨⟨k, nm, ver, A, l, c⟩, rfl, hr, by simpa [maxLen] using hn, hk, hw⟩
end Go.Proofs.YtdbbdoldndnbhaaDoor

/-
  strconv.Itoa's and strings.Join's contracts at this seat: printed by the kit's tools lay-shelf.mjs and lay-plain.mjs out of the shelf (its numbers are this seat's).
-/
namespace Go.Proofs
open Go.Shelf Go.RowKit Go.Sort
def Tryd.laysM171_ren : Go.Shelf.Ren := ⟨fun | 171 => 80 | 243 => 101 | 246 => 121 | 283 => 131 | 284 => 132 | 285 => 133 | 286 => 134 | 129 => 138 | 317 => 137 | 318 => 139 | 319 => 140 | 320 => 141 | 337 => 142 | 338 => 143 | n => n, fun | 3 => 3 | 9 => 9 | 2 => 2 | 4 => 4 | 171 => 132 | 0 => 0 | 53 => 133 | 37 => 44 | 5 => 5 | 173 => 136 | 212 => 142 | 51 => 143 | 20 => 20 | 213 => 144 | 46 => 85 | 232 => 147 | 233 => 148 | n => n, fun | 17 => 0 | 18 => 2 | 19 => 3 | n => n⟩
theorem Tryd.laysM171 : Go.Proofs.LaysM.n171 Tryd.prog Tryd.laysM171_ren := {
  mixed := by kernel_rfl
  f129 := Tryd.func138.trans (congrArg some (by kernel_rfl))
  f171 := Tryd.func80.trans (congrArg some (by kernel_rfl))
  f243 := Tryd.func101.trans (congrArg some (by kernel_rfl))
  f246 := Tryd.func121.trans (congrArg some (by kernel_rfl))
  f283 := Tryd.func131.trans (congrArg some (by kernel_rfl))
  f284 := Tryd.func132.trans (congrArg some (by kernel_rfl))
  f285 := Tryd.func133.trans (congrArg some (by kernel_rfl))
  f286 := Tryd.func134.trans (congrArg some (by kernel_rfl))
  f317 := Tryd.func137.trans (congrArg some (by kernel_rfl))
  f318 := Tryd.func139.trans (congrArg some (by kernel_rfl))
  f319 := Tryd.func140.trans (congrArg some (by kernel_rfl))
  f320 := Tryd.func141.trans (congrArg some (by kernel_rfl))
  f337 := Tryd.func142.trans (congrArg some (by kernel_rfl))
  f338 := Tryd.func143.trans (congrArg some (by kernel_rfl))
  t0 := Tryd.underlying0
  a0 := Tryd.isAgg0
  z0 := Tryd.sizeOf0
  v0 := Tryd.zeroValue0
  t2 := Tryd.underlying2
  a2 := Tryd.isAgg2
  z2 := Tryd.sizeOf2
  v2 := Tryd.zeroValue2
  t3 := Tryd.underlying3
  a3 := Tryd.isAgg3
  z3 := Tryd.sizeOf3
  v3 := Tryd.zeroValue3
  t4 := Tryd.underlying4
  a4 := Tryd.isAgg4
  z4 := Tryd.sizeOf4
  v4 := Tryd.zeroValue4
  t5 := Tryd.underlying5
  a5 := Tryd.isAgg5
  z5 := Tryd.sizeOf5
  v5 := Tryd.zeroValue5
  t9 := Tryd.underlying9
  a9 := Tryd.isAgg9
  z9 := Tryd.sizeOf9
  v9 := Tryd.zeroValue9
  t20 := Tryd.underlying20
  a20 := Tryd.isAgg20
  z20 := Tryd.sizeOf20
  v20 := Tryd.zeroValue20
  t37 := Tryd.underlying44
  a37 := Tryd.isAgg44
  z37 := Tryd.sizeOf44
  v37 := Tryd.zeroValue44
  t46 := Tryd.underlying85
  a46 := Tryd.isAgg85
  z46 := Tryd.sizeOf85
  v46 := Tryd.zeroValue85
  t51 := Tryd.underlying143
  a51 := Tryd.isAgg143
  z51 := Tryd.sizeOf143
  v51 := Tryd.zeroValue143
  t53 := Tryd.underlying133
  a53 := Tryd.isAgg133
  z53 := Tryd.sizeOf133
  v53 := Tryd.zeroValue133
  t171 := Tryd.underlying132
  a171 := Tryd.isAgg132
  z171 := Tryd.sizeOf132
  v171 := Tryd.zeroValue132
  t173 := Tryd.underlying136
  a173 := Tryd.isAgg136
  z173 := Tryd.sizeOf136
  v173 := Tryd.zeroValue136
  t212 := Tryd.underlying142
  a212 := Tryd.isAgg142
  z212 := Tryd.sizeOf142
  v212 := Tryd.zeroValue142
  t213 := Tryd.underlying144
  a213 := Tryd.isAgg144
  z213 := Tryd.sizeOf144
  t232 := Tryd.underlying147
  a232 := Tryd.isAgg147
  z232 := Tryd.sizeOf147
  v232 := Tryd.zeroValue147
  t233 := Tryd.underlying148
  a233 := Tryd.isAgg148
  z233 := Tryd.sizeOf148
  v233 := Tryd.zeroValue148
  g17 := by kernel_rfl
  g18 := by kernel_rfl
  g19 := by kernel_rfl
  i0 := by kernel_rfl
  i2 := by kernel_rfl
  i3 := by kernel_rfl
  i4 := by kernel_rfl
  i5 := by kernel_rfl
  i9 := by kernel_rfl
  i20 := by kernel_rfl
  i37 := by kernel_rfl
  i46 := by kernel_rfl
  i51 := by kernel_rfl
  i53 := by kernel_rfl
  i171 := by kernel_rfl
  i173 := by kernel_rfl
  i212 := by kernel_rfl
  i232 := by kernel_rfl
  i233 := by kernel_rfl
  m17 := by kernel_rfl
  m18 := by kernel_rfl
  m19 := by kernel_rfl }
theorem Tryd.strconv_Itoa (n : Int) (h0 : -9223372036854775808 ≤ n) (h1 : n ≤ 9223372036854775807) (w : World) (htab : Lib.TabIs Tryd.prog w "internal/strconv.uint64pow10" .u64 Lib.pow10Tab) :
    Calls Tryd.prog 80 #[.int .i64 n] w fun e w' => e = .returned (.string ⟨(Lib.itoa n).toArray⟩) ∧ ∃ k os, w' = grow (w.drewN k) os := Any.strconv_Itoa Tryd.laysM171 n h0 h1 w htab
def Tryd.lays156_ren : Go.Shelf.Ren := ⟨fun | 156 => 83 | 165 => 103 | 166 => 104 | 169 => 105 | 240 => 122 | 241 => 123 | 276 => 135 | 277 => 136 | n => n, fun | 31 => 26 | 9 => 9 | 3 => 3 | 4 => 4 | 0 => 0 | 20 => 20 | 72 => 109 | 76 => 113 | 70 => 107 | 37 => 44 | 75 => 112 | 127 => 126 | 164 => 138 | 5 => 5 | 80 => 115 | n => n, fun | n => n⟩
theorem Tryd.lays156 : Go.Proofs.Lays.n156 Tryd.prog Tryd.lays156_ren := {
  mixed := by kernel_rfl
  f156 := Tryd.func83.trans (congrArg some (by kernel_rfl))
  f165 := Tryd.func103.trans (congrArg some (by kernel_rfl))
  f166 := Tryd.func104.trans (congrArg some (by kernel_rfl))
  f169 := Tryd.func105.trans (congrArg some (by kernel_rfl))
  f240 := Tryd.func122.trans (congrArg some (by kernel_rfl))
  f241 := Tryd.func123.trans (congrArg some (by kernel_rfl))
  f276 := Tryd.func135.trans (congrArg some (by kernel_rfl))
  f277 := Tryd.func136.trans (congrArg some (by kernel_rfl))
  t0 := Tryd.underlying0
  a0 := Tryd.isAgg0
  z0 := Tryd.sizeOf0
  v0 := Tryd.zeroValue0
  t3 := Tryd.underlying3
  a3 := Tryd.isAgg3
  z3 := Tryd.sizeOf3
  v3 := Tryd.zeroValue3
  t4 := Tryd.underlying4
  a4 := Tryd.isAgg4
  z4 := Tryd.sizeOf4
  v4 := Tryd.zeroValue4
  t9 := Tryd.underlying9
  a9 := Tryd.isAgg9
  z9 := Tryd.sizeOf9
  v9 := Tryd.zeroValue9
  t20 := Tryd.underlying20
  a20 := Tryd.isAgg20
  z20 := Tryd.sizeOf20
  v20 := Tryd.zeroValue20
  t31 := Tryd.underlying26
  a31 := Tryd.isAgg26
  z31 := Tryd.sizeOf26
  v31 := Tryd.zeroValue26
  t37 := Tryd.underlying44
  a37 := Tryd.isAgg44
  z37 := Tryd.sizeOf44
  v37 := Tryd.zeroValue44
  t70 := Tryd.underlying107
  a70 := Tryd.isAgg107
  z70 := Tryd.sizeOf107
  v70 := Tryd.zeroValue107
  t72 := Tryd.underlying109
  a72 := Tryd.isAgg109
  z72 := Tryd.sizeOf109
  v72 := Tryd.zeroValue109
  t75 := Tryd.underlying112
  a75 := Tryd.isAgg112
  z75 := Tryd.sizeOf112
  v75 := Tryd.zeroValue112
  t76 := Tryd.underlying113
  a76 := Tryd.isAgg113
  z76 := Tryd.sizeOf113
  v76 := Tryd.zeroValue113
  t127 := Tryd.underlying126
  a127 := Tryd.isAgg126
  z127 := Tryd.sizeOf126
  v127 := Tryd.zeroValue126
  t164 := Tryd.underlying138
  a164 := Tryd.isAgg138
  z164 := Tryd.sizeOf138
  v164 := Tryd.zeroValue138 }
theorem Tryd.Builder_Extra_156 : Builder.Extra Tryd.prog Tryd.lays156_ren := {
  sizeBuilder := by kernel_rfl
  liesBuilder := by kernel_rfl
  t5 := Tryd.underlying5
  a5 := Tryd.isAgg5
  z5 := Tryd.sizeOf5
  v5 := Tryd.zeroValue5
  infoByte := by kernel_rfl
  cellsByte := by kernel_rfl
  sizeByte := by kernel_rfl
  neB5 := by decide }
theorem Tryd.strings_Join_none (a : Option Addr) (c : Nat) (sep : ByteArray) (w : World) :
    Calls Tryd.prog 83 #[.slice a 0 c, .string sep] w fun e w' => e = .returned (.string ⟨#[]⟩) ∧ w' = w := Any.strings_Join_none Tryd.lays156 Tryd.Builder_Extra_156 a c sep w
theorem Tryd.strings_Join (bk o c : Nat) (xs : List ByteArray) (sep : ByteArray) (w : World) (hcells : ∀ (j : Nat) x, xs[j]? = some x → w.cell? ⟨bk, o + j, none⟩ = some (.string x)) (hbk : bk < w.heap.size) (hN : xs.length ≤ 140737488355328) (hcap : xs.length ≤ c) (hlen : (Lib.join (xs.map (·.data.toList)) sep.data.toList).length ≤ 140737488355328) :
    Calls Tryd.prog 83 #[.slice (some ⟨bk, o, none⟩) xs.length c, .string sep] w fun e w' => e = .returned (.string ⟨(Lib.join (xs.map (·.data.toList)) sep.data.toList).toArray⟩) ∧ Below w.heap.size w w' := Any.strings_Join Tryd.lays156 Tryd.Builder_Extra_156 bk o c xs sep w hcells hbk hN hcap hlen
end Go.Proofs

/- The laws' marks as text. -/
namespace Go.Proofs.YtdbbdoldndnbhaaDoor
open Go.RowKit Go.Sort

/-- a digit's byte -/
def dig8 (k : Nat) : UInt8 := UInt8.ofNat (48 + k % 10)
def mtF : Nat → Nat → ByteArray → ByteArray
  | 0, _, s => s
  | f + 1, k, s => if k = 0 then s else mtF f (k / 10) (⟨#[dig8 k]⟩ ++ s)
theorem mtF_fuel : ∀ f g k s, k ≤ f → k ≤ g → mtF f k s = mtF g k s := by
  intro f
  induction f with
  | zero =>
    intro g k s h _
    obtain rfl : k = 0 := by omega
    cases g with
    | zero => rfl
    | succ g => rw [mtF, mtF, if_pos rfl]
  | succ f ih =>
    intro g k s h1 h2
    cases g with
    | zero =>
      obtain rfl : k = 0 := by omega
      rw [mtF, mtF, if_pos rfl]
    | succ g =>
      rw [mtF, mtF]
      by_cases hk : k = 0
      · rw [if_pos hk, if_pos hk]
      · rw [if_neg hk, if_neg hk, ih g (k / 10) _ (by omega) (by omega)]
def mt (k : Nat) (s : ByteArray) : ByteArray := mtF k k s
theorem mt_zero (s : ByteArray) : mt 0 s = s := rfl
theorem mt_step {k : Nat} (h : 0 < k) (s : ByteArray) : mt k s = mt (k / 10) (⟨#[dig8 k]⟩ ++ s) := by
  unfold mt
  obtain ⟨f, rfl⟩ : ∃ f, k = f + 1 := ⟨k - 1, by omega⟩
  rw [mtF, if_neg (by omega)]
  exact mtF_fuel _ _ _ _ (by omega) (by omega)
/-- the text of a mark -/
def markT (k : Nat) : ByteArray := ⟨#[109]⟩ ++ mt k ⟨#[]⟩
/-- string([]byte{x}) -/
theorem run_one_byte (w : World) (n : Nat) :
    (convert 44 9 (.slice (some ⟨w.heap.size, 0, none⟩) 1 1)).run Tryd.prog (w.alloc (.cells #[.int .u8 (n : Int)] 5)) = .ok (.string ⟨#[UInt8.ofNat n]⟩) (w.alloc (.cells #[.int .u8 (n : Int)] 5)) := by
  have h1 := run_convert_bytes_arg (P := Tryd.prog) (w.alloc (.cells #[.int .u8 (n : Int)] 5)) 44 5 Tryd.underlying44 Tryd.underlying5 w.heap.size 0 1 1 [(n : Int)] rfl (fun i hi => by
    obtain rfl : i = 0 := by omega
    simp) 9 Tryd.underlying9
  rw [h1]
  rfl
set_option maxRecDepth 100000 in
set_option maxHeartbeats 400000 in
theorem markText_c (k : Nat) (w : World) (hk : 0 < k) (hk2 : k ≤ 1099511627776) :
    Gives Tryd.prog 53 #[.int .i64 k] w (.string (markT k)) := by
  go_enter Tryd.func53, Tryd.ntmps53
  go_wp2
  go_loopw [0, 3] (fun kk t wr => ∃ (n : Nat) (s : ByteArray), s.size + n ≤ k ∧ kk = .int .i64 n ∧ t = .string s ∧ Hid (mt n s = mt k ⟨#[]⟩) ∧ Ext w wr) (fun kk _ _ => (intOf kk).toNat)
  case atStart => exact ⟨k, ⟨#[]⟩, Nat.le_of_eq (Nat.zero_add k), rfl, rfl, rfl, Ext.refl _⟩
  case round =>
    obtain ⟨n, s, hn, rfl, rfl, hs, he⟩ := hrel
    by_cases h0 : 0 < n
    · have hst := Lib.hid ((mt_step h0 s).symm.trans hs.out)
      have hcv : ∀ w' : World, (convert 44 9 (.slice (some ⟨w'.heap.size, 0, none⟩) 1 1)).run Tryd.prog (w'.alloc (.cells #[.int .u8 (48 + (n : Int) % 10)] 5)) = .ok (.string ⟨#[dig8 n]⟩) (w'.alloc (.cells #[.int .u8 (48 + (n : Int) % 10)] 5)) := by
        intro w'
        have := run_one_byte w' (48 + n % 10)
        rw [show ((48 + n % 10 : Nat) : Int) = 48 + (n : Int) % 10 by omega] at this
        exact this
      have hcvr := hcv wr
      clear hcv
      go_wp2
      go_roundw
      case rel => exact ⟨n / 10, _, by rw [ByteArray.size_append]; show 1 + s.size + n / 10 ≤ k; omega, by go_num, rfl, hst, Ext_alloc _ he⟩
      case measure => simp [intOf]; omega
    · obtain rfl : n = 0 := by omega
      have hs2 := Lib.hid ((mt_zero s).symm.trans hs.out)
      clear hs
      go_wp2
      go_ret
      exact ⟨by rw [hs2.out]; rfl, he⟩
end Go.Proofs.YtdbbdoldndnbhaaDoor

/- The decimal numeral: FormatInt of both sides. -/
namespace Go.Proofs.YtdbbdoldndnbhaaDoor
open Go.RowKit Go.Sort

/-- the table that strconv reads lies where the program's start lays it -/
def Tab (w : World) : Prop := Lib.TabIs Tryd.prog w "internal/strconv.uint64pow10" .u64 Lib.pow10Tab
theorem Tab.ext {w w' : World} (h : Tab w) (e : Ext w w') : Tab w' := by
  unfold Tab Lib.TabIs World.var? at *
  rw [Option.bind_eq_some_iff] at *
  obtain ⟨g, hg, hc⟩ := h
  refine ⟨g, hg, ?_⟩
  rcases Nat.lt_or_ge g w.heap.size with hlt | hge
  · rw [Below.block e g hlt]; exact hc
  · rw [Array.getElem?_eq_none hge] at hc; simp at hc
theorem i64_of_wf {n : Int} (h : (Lit.int .i64 n).wf = true) : -9223372036854775808 ≤ n ∧ n ≤ 9223372036854775807 := by
  have h' : (decide (IntKind.i64.min ≤ n) && decide (n ≤ IntKind.i64.max)) = true := h
  rw [Bool.and_eq_true, decide_eq_true_eq, decide_eq_true_eq] at h'
  have e1 : IntKind.i64.min = -9223372036854775808 := by decide
  have e2 : IntKind.i64.max = 9223372036854775807 := by decide
  omega
def itoaB (n : Int) : ByteArray := ⟨(Lib.itoa n).toArray⟩
theorem nDigits_le {u : Nat} {k : Nat} (hk : 1 ≤ k) (h : u < 10 ^ k) : Lib.nDigits u ≤ k := by
  rcases Nat.lt_or_ge u 10 with hu | hu
  · rw [Lib.nDigits_small hu]; exact hk
  · obtain ⟨j, hj⟩ : ∃ j, Lib.nDigits u = j + 1 := ⟨Lib.nDigits u - 1, by have := Lib.nDigits_pos u; omega⟩
    rw [hj]
    refine Nat.le_of_not_lt fun hlt => ?_
    have h1 : 10 ^ j ≤ u := by
      have := Lib.lt_pow_nDigits (u / 10)
      rw [Lib.nDigits_big (by omega)] at hj
      have hj' : Lib.nDigits (u / 10) = j := by omega
      clear this hlt h hk
      have hmin : ∀ (m v : Nat), Lib.nDigits v = m → 1 ≤ v → 10 ^ (m - 1) ≤ v := by
        intro m
        induction m with
        | zero => intro v hv h1; have := Lib.nDigits_pos v; omega
        | succ m ih =>
          intro v hv h1
          rcases Nat.lt_or_ge v 10 with hv10 | hv10
          · rw [Lib.nDigits_small hv10] at hv; obtain rfl : m = 0 := by omega
            simpa using h1
          · rw [Lib.nDigits_big (by omega)] at hv
            have h2 := ih (v / 10) (by omega) (by omega)
            obtain ⟨m', rfl⟩ : ∃ m', m = m' + 1 := ⟨m - 1, by have := Lib.nDigits_pos (v/10); omega⟩
            simp only [Nat.add_sub_cancel] at h2 ⊢
            rw [Nat.pow_succ]; omega
      have := hmin (j + 1) u (by rw [Lib.nDigits_big (by omega)]; omega) (by omega)
      simpa using this
    have : 10 ^ k ≤ 10 ^ j := Nat.pow_le_pow_right (by omega) (by omega)
    omega
theorem itoa_size (n : Int) (h0 : -9223372036854775808 ≤ n) (h1 : n ≤ 9223372036854775807) : (itoaB n).size ≤ 20 := by
  show (Lib.itoa n).toArray.size ≤ 20
  rw [List.size_toArray]
  unfold Lib.itoa
  split
  · simp only [List.length_cons, Lib.decDigits_length]
    have := nDigits_le (u := n.natAbs) (k := 19) (by omega) (by omega)
    omega
  · rw [Lib.decDigits_length]
    have := nDigits_le (u := n.toNat) (k := 19) (by omega) (by omega)
    omega
theorem iFormatInt_c (n : Int) (w : World) (hT : Tab w) (h0 : -9223372036854775808 ≤ n) (h1 : n ≤ 9223372036854775807) :
    Gives Tryd.prog 50 #[.int .i64 n] w (.string (itoaB n)) := by
  have C := Lib.hid (Tryd.strconv_Itoa n h0 h1 w hT)
  unfold itoaB
  generalize (Lib.itoa n) = l at *
  go_enter Tryd.func50, Tryd.ntmps50
  go_wp2_with fail
  refine C.out.mono ?_; rintro _ w1 ⟨rfl, k, os, hw⟩
  have he : Ext w w1 := by rw [hw]; exact Lib.below_grow _ w (Nat.le_refl _) k os
  clear hw
  go_wp2
  go_ret
  exact ⟨rfl, he⟩
theorem mt_dec {n : Nat} (h : 0 < n) (s : ByteArray) : mt n s = ⟨(Lib.decDigits n).toArray⟩ ++ s := by
  induction n using Nat.strongRecOn generalizing s with
  | _ n ih =>
    rw [mt_step h]
    by_cases h10 : n < 10
    · rw [show n / 10 = 0 by omega, mt_zero, Lib.decDigits_one h10]
      show _ = (⟨#[UInt8.ofNat (48 + n)]⟩ : ByteArray) ++ s
      rw [dig8, Nat.mod_eq_of_lt h10]
    · rw [ih (n / 10) (by omega) (by omega)]
      conv => rhs; rw [Lib.decDigits, dif_neg h10]
      apply ByteArray.ext
      simp [ByteArray.data_append, dig8]
theorem itoaB_pos {n : Nat} (h : 0 < n) : itoaB n = mt n ⟨#[]⟩ := by
  rw [mt_dec h]; unfold itoaB Lib.itoa
  rw [if_neg (by omega)]
  apply ByteArray.ext
  simp [ByteArray.data_append]
theorem itoaB_neg {n : Nat} (h : 0 < n) : itoaB (-(n : Int)) = ⟨#[45]⟩ ++ mt n ⟨#[]⟩ := by
  rw [mt_dec h]; unfold itoaB Lib.itoa
  rw [if_pos (by omega)]
  apply ByteArray.ext
  simp [ByteArray.data_append]
theorem itoaB_zero : itoaB 0 = ⟨#[48]⟩ := by
  unfold itoaB Lib.itoa
  rw [if_neg (by omega), show (0 : Int).toNat = 0 from rfl, Lib.decDigits_one (by omega)]; rfl
set_option maxRecDepth 100000 in
set_option maxHeartbeats 400000 in
theorem sFormatInt_pos (k : Nat) (w : World) (hk : 0 < k) (hk2 : k ≤ 9223372036854775807) :
    Gives Tryd.prog 45 #[.int .i64 k] w (.string (mt k ⟨#[]⟩)) := by
  have dk : decide ((k : Int) < 0) = false := decide_eq_false (by omega)
  go_enter Tryd.func45, Tryd.ntmps45
  go_wp2
  go_loopw [4, 3] (fun kk t wr => ∃ (n : Nat) (s : ByteArray), s.size + n ≤ k ∧ kk = .int .i64 n ∧ t = .string s ∧ Hid (mt n s = mt k ⟨#[]⟩) ∧ Ext w wr) (fun kk _ _ => (intOf kk).toNat)
  case atStart => exact ⟨k, ⟨#[]⟩, Nat.le_of_eq (Nat.zero_add k), rfl, rfl, rfl, Ext.refl _⟩
  case round =>
    obtain ⟨n, s, hn, rfl, rfl, hs, he⟩ := hrel
    by_cases h0 : 0 < n
    · have hst := Lib.hid ((mt_step h0 s).symm.trans hs.out)
      have hcv : ∀ w' : World, (convert 44 9 (.slice (some ⟨w'.heap.size, 0, none⟩) 1 1)).run Tryd.prog (w'.alloc (.cells #[.int .u8 (48 + (n : Int) % 10)] 5)) = .ok (.string ⟨#[dig8 n]⟩) (w'.alloc (.cells #[.int .u8 (48 + (n : Int) % 10)] 5)) := by
        intro w'
        have := run_one_byte w' (48 + n % 10)
        rw [show ((48 + n % 10 : Nat) : Int) = 48 + (n : Int) % 10 by omega] at this
        exact this
      have hcvr := hcv wr
      clear hcv
      go_wp2
      go_roundw
      case rel => exact ⟨n / 10, _, by rw [ByteArray.size_append]; show 1 + s.size + n / 10 ≤ k; omega, by go_num, rfl, hst, Ext_alloc _ he⟩
      case measure => simp [intOf]; omega
    · obtain rfl : n = 0 := by omega
      have hs2 := Lib.hid ((mt_zero s).symm.trans hs.out)
      clear hs
      go_wp2
      go_ret
      exact ⟨by rw [hs2.out]; rfl, he⟩
set_option maxRecDepth 100000 in
set_option maxHeartbeats 400000 in
theorem sFormatInt_neg (k : Nat) (w : World) (hk : 0 < k) (hk2 : k ≤ 9223372036854775808) :
    Gives Tryd.prog 45 #[.int .i64 (-(k : Int))] w (.string (⟨#[45]⟩ ++ mt k ⟨#[]⟩)) := by
  have dk : decide (-(k : Int) < 0) = true := decide_eq_true (by omega)
  go_enter Tryd.func45, Tryd.ntmps45
  go_wp2
  go_loopw [4, 3] (fun kk t wr => ∃ (n : Nat) (s : ByteArray), 2 * s.size + n ≤ k + 1 ∧ (0 < n → 2 * s.size + n ≤ k) ∧ kk = .int .i64 (-(n : Int)) ∧ t = .string s ∧ Hid (mt n s = mt k ⟨#[]⟩) ∧ Ext w wr) (fun kk _ _ => (-(intOf kk)).toNat)
  case atStart => exact ⟨k, ⟨#[]⟩, by show 2 * 0 + k ≤ k + 1; omega, fun _ => Nat.le_of_eq (Nat.zero_add k), rfl, rfl, rfl, Ext.refl _⟩
  case round =>
    obtain ⟨n, s, hn, hn2, rfl, rfl, hs, he⟩ := hrel
    by_cases h0 : 0 < n
    · have hn3 := hn2 h0
      have hst := Lib.hid ((mt_step h0 s).symm.trans hs.out)
      have hcv : ∀ w' : World, (convert 44 9 (.slice (some ⟨w'.heap.size, 0, none⟩) 1 1)).run Tryd.prog (w'.alloc (.cells #[.int .u8 (48 + (n : Int) % 10)] 5)) = .ok (.string ⟨#[dig8 n]⟩) (w'.alloc (.cells #[.int .u8 (48 + (n : Int) % 10)] 5)) := by
        intro w'
        have := run_one_byte w' (48 + n % 10)
        rw [show ((48 + n % 10 : Nat) : Int) = 48 + (n : Int) % 10 by omega] at this
        exact this
      have hcvr := hcv wr
      have hmod : (-(n : Int)).tmod 10 = -((n : Int) % 10) := by rw [Int.neg_tmod, Int.tmod_eq_emod_of_nonneg (by omega)]
      have hdiv : (-(n : Int)).tdiv 10 = -((n : Int) / 10) := by rw [Int.neg_tdiv, Int.tdiv_eq_ediv_of_nonneg (by omega)]
      clear hcv
      by_cases hm : (n : Int) % 10 = 0
      · rw [hm, Int.add_zero] at hcvr
        go_wp2
        go_roundw
        case rel => exact ⟨n / 10, _, by rw [ByteArray.size_append]; show 2 * (1 + s.size) + n / 10 ≤ k + 1; omega, fun h => by rw [ByteArray.size_append]; show 2 * (1 + s.size) + n / 10 ≤ k; omega, by go_num, rfl, hst, Ext_alloc _ he⟩
        case measure => simp [intOf]; omega
      · go_wp2
        go_roundw
        case rel => exact ⟨n / 10, _, by rw [ByteArray.size_append]; show 2 * (1 + s.size) + n / 10 ≤ k + 1; omega, fun h => by rw [ByteArray.size_append]; show 2 * (1 + s.size) + n / 10 ≤ k; omega, by go_num, rfl, hst, Ext_alloc _ he⟩
        case measure => simp [intOf]; omega
    · obtain rfl : n = 0 := by omega
      have hsz : s.size ≤ 4611686018427387904 := by omega
      have z0 : (-((0 : Nat) : Int) != 0) = false := by simp
      have hs2 := Lib.hid ((mt_zero s).symm.trans hs.out)
      clear hs
      go_wp2
      all_goals go_ret
      all_goals exact ⟨by rw [hs2.out]; rfl, he⟩
theorem sFormatInt_c (n : Int) (w : World) (h0 : -9223372036854775808 ≤ n) (h1 : n ≤ 9223372036854775807) :
    Gives Tryd.prog 45 #[.int .i64 n] w (.string (itoaB n)) := by
  rcases Int.lt_trichotomy n 0 with h | rfl | h
  · obtain ⟨k, rfl⟩ : ∃ k : Nat, n = -(k : Int) := ⟨n.natAbs, by omega⟩
    rw [itoaB_neg (by omega)]
    exact sFormatInt_neg k w (by omega) (by omega)
  · rw [itoaB_zero]
    go_enter Tryd.func45, Tryd.ntmps45
    go_wp2
    go_ret
    exact ⟨rfl, Ext.refl _⟩
  · obtain ⟨k, rfl⟩ : ∃ k : Nat, n = (k : Int) := ⟨n.toNat, by omega⟩
    rw [itoaB_pos (by omega)]
    exact sFormatInt_pos k w (by omega) (by omega)
end Go.Proofs.YtdbbdoldndnbhaaDoor

/- The walk of the law on EqualRecords. -/
namespace Go.Proofs.YtdbbdoldndnbhaaDoor
open Go.RowKit Go.Sort

theorem szR_lo (n m : Nat) (left : Int) (h : left ≤ 1048576) (h0 : 0 ≤ left) : -1 ≤ szR n m left ∧ szR n m left ≤ 1048576 := by
  unfold szR szN; split
  · omega
  · split <;> omega
theorem szR_len {n m : Nat} {left : Int} (h : left ≤ 1048576) (h0 : 0 ≤ left) : 0 ≤ szR n m left → m ≤ 1048576 := by
  unfold szR szN
  intro hh
  split at hh
  · omega
  · split at hh
    · omega
    · omega
end Go.Proofs.YtdbbdoldndnbhaaDoor

/- FormatRecord of the program and of the reference; the walk of the law. -/
namespace Go.Proofs.YtdbbdoldndnbhaaDoor
open Go.RowKit Go.Sort

def fmtRec (k : Int) (nm : ByteArray) (ver : Int) (n : Nat) : ByteArray :=
  if k = 1 then ⟨#[115, 116, 111, 114, 101, 32]⟩ ++ nm ++ ⟨#[32, 118]⟩ ++ itoaB ver ++ ⟨#[32]⟩ ++ itoaB n else if k = 2 then ⟨#[100, 101, 108, 101, 116, 101, 32]⟩ ++ nm else ⟨#[63]⟩
set_option maxRecDepth 100000 in
set_option maxHeartbeats 2000000 in
theorem sFmtRec_c (k : Int) (nm : ByteArray) (ver : Int) (A : Option Addr) (l : List UInt8) (c : Nat) (w : World)  (hn : nm.size ≤ 1048576) (hl : l.length ≤ 1048576) (hv : -9223372036854775808 ≤ ver ∧ ver ≤ 9223372036854775807) :
    Gives Tryd.prog 22 #[vrec k nm ver (.slice A l.length c)] w (.string (fmtRec k nm ver l.length)) := by
  have eb := Ext_alloc (.cells #[.int .i64 k, .string nm, .int .i64 ver, .slice A l.length c] 49) (Ext.refl w)
  have K0 : ∀ w', Ext (w.alloc (.cells #[.int .i64 k, .string nm, .int .i64 ver, .slice A l.length c] 49)) w' → w'.cell? ⟨w.heap.size, 0, none⟩ = some (.int .i64 k) := fun w' e => boxed e 0
  have K1 : ∀ w', Ext (w.alloc (.cells #[.int .i64 k, .string nm, .int .i64 ver, .slice A l.length c] 49)) w' → w'.cell? ⟨w.heap.size, 1, none⟩ = some (.string nm) := fun w' e => boxed e 1
  have K2 : ∀ w', Ext (w.alloc (.cells #[.int .i64 k, .string nm, .int .i64 ver, .slice A l.length c] 49)) w' → w'.cell? ⟨w.heap.size, 2, none⟩ = some (.int .i64 ver) := fun w' e => boxed e 2
  have K3 : ∀ w', Ext (w.alloc (.cells #[.int .i64 k, .string nm, .int .i64 ver, .slice A l.length c] 49)) w' → w'.cell? ⟨w.heap.size, 3, none⟩ = some (.slice A l.length c) := fun w' e => boxed e 3
  unfold vrec
  by_cases h1 : k = 1
  · subst h1
    have hs1 := itoa_size ver hv.1 hv.2
    have hs2 := itoa_size (l.length : Int) (by omega) (by omega)
    have CI : Hid (∀ w', Ext w w' → ∀ n : Int, n = ver ∨ n = (l.length : Int) → Gives Tryd.prog 45 #[.int .i64 n] w' (.string (itoaB n))) := fun w' _ n h => sFormatInt_c n w'  (by omega) (by omega)
    unfold fmtRec
    rw [if_pos rfl]
    clear hv
    generalize itoaB = it at *
    have z6 : (⟨#[115, 116, 111, 114, 101, 32]⟩ : ByteArray).size ≤ 6 := by decide
    have z2 : (⟨#[32, 118]⟩ : ByteArray).size ≤ 2 := by decide
    have z1 : (⟨#[32]⟩ : ByteArray).size ≤ 1 := by decide
    have n1 : ¬ 9223372036854775807 < 6 + nm.size := by omega
    have n2 : ¬ 9223372036854775807 < 6 + nm.size + 2 := by omega
    have n3 : ¬ 9223372036854775807 < 6 + nm.size + 2 + (it ver).size := by omega
    have n4 : ¬ 9223372036854775807 < 6 + nm.size + 2 + (it ver).size + 1 := by omega
    have n5 : ¬ 9223372036854775807 < 6 + nm.size + 2 + (it ver).size + 1 + (it (l.length : Int)).size := by omega
    go_enter Tryd.func22, Tryd.ntmps22
    go_wp2_with fail
    refine wp_region_quiet_below (by kernel_rfl) (by kernel_rfl) ?_
    repeat (go_big_quiet_step (first | (go_at_call 45; exact Calls.regrown_of (CI.out _ (by first | assumption | exact Ext_regrown _ _ eb) _ (by first | exact .inl rfl | exact .inr rfl)))))
    refine wpQuiet_nil ?_
    rintro w1 ⟨⟨nq, osq⟩, hq⟩
    have ew1 := ext_of_q hq
    clear hq nq osq
    go_wp2
    go_ret
    exact ⟨rfl, eb.trans ew1⟩
  · have b1 : (k == 1) = false := by simpa using h1
    by_cases h2 : k = 2
    · subst h2
      unfold fmtRec
      rw [if_neg (by omega), if_pos rfl]
      have n1 : ¬ 9223372036854775807 < 7 + nm.size := by omega
      go_enter Tryd.func22, Tryd.ntmps22
      go_wp2
      go_ret
      exact ⟨rfl, eb⟩
    · have b2 : (k == 2) = false := by simpa using h2
      unfold fmtRec
      rw [if_neg h1, if_neg h2]
      go_enter Tryd.func22, Tryd.ntmps22
      go_wp2
      go_ret
      exact ⟨rfl, eb⟩

set_option maxRecDepth 100000 in
set_option maxHeartbeats 2000000 in
theorem iFmtRec_c (k : Int) (nm : ByteArray) (ver : Int) (A : Option Addr) (l : List UInt8) (c : Nat) (w : World) (hT : Tab w) (hn : nm.size ≤ 1048576) (hl : l.length ≤ 1048576) (hv : -9223372036854775808 ≤ ver ∧ ver ≤ 9223372036854775807) :
    Gives Tryd.prog 24 #[vrec k nm ver (.slice A l.length c)] w (.string (fmtRec k nm ver l.length)) := by
  have eb := Ext_alloc (.cells #[.int .i64 k, .string nm, .int .i64 ver, .slice A l.length c] 49) (Ext.refl w)
  have K0 : ∀ w', Ext (w.alloc (.cells #[.int .i64 k, .string nm, .int .i64 ver, .slice A l.length c] 49)) w' → w'.cell? ⟨w.heap.size, 0, none⟩ = some (.int .i64 k) := fun w' e => boxed e 0
  have K1 : ∀ w', Ext (w.alloc (.cells #[.int .i64 k, .string nm, .int .i64 ver, .slice A l.length c] 49)) w' → w'.cell? ⟨w.heap.size, 1, none⟩ = some (.string nm) := fun w' e => boxed e 1
  have K2 : ∀ w', Ext (w.alloc (.cells #[.int .i64 k, .string nm, .int .i64 ver, .slice A l.length c] 49)) w' → w'.cell? ⟨w.heap.size, 2, none⟩ = some (.int .i64 ver) := fun w' e => boxed e 2
  have K3 : ∀ w', Ext (w.alloc (.cells #[.int .i64 k, .string nm, .int .i64 ver, .slice A l.length c] 49)) w' → w'.cell? ⟨w.heap.size, 3, none⟩ = some (.slice A l.length c) := fun w' e => boxed e 3
  unfold vrec
  by_cases h1 : k = 1
  · subst h1
    have hs1 := itoa_size ver hv.1 hv.2
    have hs2 := itoa_size (l.length : Int) (by omega) (by omega)
    have CI : Hid (∀ w', Ext w w' → ∀ n : Int, n = ver ∨ n = (l.length : Int) → Gives Tryd.prog 50 #[.int .i64 n] w' (.string (itoaB n))) := fun w' _ n h => iFormatInt_c n w' (hT.ext (by assumption)) (by omega) (by omega)
    unfold fmtRec
    rw [if_pos rfl]
    clear hv
    generalize itoaB = it at *
    have z6 : (⟨#[115, 116, 111, 114, 101, 32]⟩ : ByteArray).size ≤ 6 := by decide
    have z2 : (⟨#[32, 118]⟩ : ByteArray).size ≤ 2 := by decide
    have z1 : (⟨#[32]⟩ : ByteArray).size ≤ 1 := by decide
    have n1 : ¬ 9223372036854775807 < 6 + nm.size := by omega
    have n2 : ¬ 9223372036854775807 < 6 + nm.size + 2 := by omega
    have n3 : ¬ 9223372036854775807 < 6 + nm.size + 2 + (it ver).size := by omega
    have n4 : ¬ 9223372036854775807 < 6 + nm.size + 2 + (it ver).size + 1 := by omega
    have n5 : ¬ 9223372036854775807 < 6 + nm.size + 2 + (it ver).size + 1 + (it (l.length : Int)).size := by omega
    go_enter Tryd.func24, Tryd.ntmps24
    go_wp2_with fail
    refine wp_region_quiet_below (by kernel_rfl) (by kernel_rfl) ?_
    repeat (go_big_quiet_step (first | (go_at_call 50; exact Calls.regrown_of (CI.out _ (by first | assumption | exact Ext_regrown _ _ eb) _ (by first | exact .inl rfl | exact .inr rfl)))))
    refine wpQuiet_nil ?_
    rintro w1 ⟨⟨nq, osq⟩, hq⟩
    have ew1 := ext_of_q hq
    clear hq nq osq
    go_wp2
    go_ret
    exact ⟨rfl, eb.trans ew1⟩
  · have b1 : (k == 1) = false := by simpa using h1
    by_cases h2 : k = 2
    · subst h2
      unfold fmtRec
      rw [if_neg (by omega), if_pos rfl]
      have n1 : ¬ 9223372036854775807 < 7 + nm.size := by omega
      go_enter Tryd.func24, Tryd.ntmps24
      go_wp2
      go_ret
      exact ⟨rfl, eb⟩
    · have b2 : (k == 2) = false := by simpa using h2
      unfold fmtRec
      rw [if_neg h1, if_neg h2]
      go_enter Tryd.func24, Tryd.ntmps24
      go_wp2
      go_ret
      exact ⟨rfl, eb⟩
end Go.Proofs.YtdbbdoldndnbhaaDoor

/- The walk of the law on FormatRecord. -/
namespace Go.Proofs.YtdbbdoldndnbhaaDoor
open Go.RowKit Go.Sort

set_option maxRecDepth 100000 in
set_option maxHeartbeats 2000000 in
theorem lawFormatRecord_c (k : Int) (nm : ByteArray) (ver : Int) (A : Option Addr) (l : List UInt8) (c : Nat) (w : World) (h : Rd0 vu8 w A l c) (hn : nm.size ≤ 9223372036854775807) (hv : -9223372036854775808 ≤ ver ∧ ver ≤ 9223372036854775807) (hT : Tab w) :
    Gives Tryd.prog 5 #[vrec k nm ver (.slice A l.length c)] w (.bool true) := by
  have Z1 := Lib.hid (fun left w h h0 h1 => szRecord_c k nm ver A l c left w h hn h0 h1)
  have T1 := Lib.hid (fun w h hL => toRecord_c k nm ver A l c w h hL)
  have V1 := Lib.hid (fun A c w hn hl => sFmtRec_c k nm ver A l c w hn hl hv)
  have V2 := Lib.hid (fun A c w hT hn hl => iFmtRec_c k nm ver A l c w hT hn hl hv)
  have HT := Lib.hid hT; clear hT hv
  have hz := szR_lo nm.size l.length 1048576 (by omega) (by omega)
  have hz2 : 0 ≤ szR nm.size l.length 1048576 → nm.size ≤ 1048576 := fun h => by unfold szR szN at h; split at h <;> (try split at h) <;> omega
  have hz1 : 0 ≤ szR nm.size l.length 1048576 → l.length ≤ 1048576 := szR_len (by omega) (by omega)
  generalize hzz : szR nm.size l.length 1048576 = z at *
  have HZ := Lib.hid hzz; clear hzz
  generalize fmtRec k nm ver l.length = q at *
  have eb := Ext_alloc (.cells #[.int .i64 k, .string nm, .int .i64 ver, .slice A l.length c] 46) (Ext.refl w)
  have B := fun w' (e : Ext (w.alloc (.cells #[.int .i64 k, .string nm, .int .i64 ver, .slice A l.length c] 46)) w') => boxed e
  unfold vrec at *
  go_enter Tryd.func5, Tryd.ntmps5
  go_wp2_with fail
  refine (Z1.out _ _ (h.ext eb) (by omega) (by omega)).mono ?_; rintro _ w1 ⟨rfl, he1⟩
  rw [HZ.out]
  by_cases c1 : z < 0
  · go_wp2
    go_ret
    exact ⟨rfl, eb.trans he1⟩
  have hL := hz1 (by omega)
  have hN := hz2 (by omega)
  have hl : l.length ≤ 140737488351232 := by omega
  go_wp2_with fail
  refine (T1.out _ (h.ext (eb.trans he1)) hL).mono ?_; rintro _ w2 ⟨v2, rfl, ho2, he2⟩; obtain ⟨A2, c2, rfl, r2⟩ := OwnL.rd ho2 hl
  go_wp2_with fail
  refine (V1.out A2 c2 _ hN hL).mono ?_; rintro _ w3 ⟨rfl, he3⟩
  have e3 := (he1.trans he2).trans he3; clear he1 he2 he3 ho2 r2
  go_wp2_with fail
  refine (T1.out _ (h.ext (eb.trans e3)) hL).mono ?_; rintro _ w4 ⟨v4, rfl, ho4, he4⟩; obtain ⟨A4, c4, rfl, r4⟩ := OwnL.rd ho4 hl
  have e4 := e3.trans he4; clear e3 he4 ho4
  have f4 := Ext_alloc (.cells #[.int .i64 k, .string nm, .int .i64 ver, .slice A4 l.length c4] 49) (Ext.refl w4)
  go_wp2_with fail
  refine (V2.out A4 c4 _ (HT.out.ext (eb.trans (e4.trans f4))) hN hL).mono ?_; rintro _ w5 ⟨rfl, he5⟩
  have e5 := (e4.trans f4).trans he5
  have r5 := (r4.ext f4).ext he5
  have D0 := fun w' (e : Ext w5 w') => B w' (e5.trans e)
  have D4 := fun w' (e : Ext w5 w') => boxed (he5.trans e)
  have e5' := eb.trans e5
  clear B e4 f4 he5 e5 r4
  have hE : (q.toList != q.toList) = false := by simp
  have HE1 : Hid ((k == k && nm.toList == nm.toList && ver == ver && l == l) = true) := by simp [Hid]
  go_wp2_with fail
  go_region_held3 (fun w' => Ext w5 w') (first | assumption | exact Ext_drew (Ext.refl _) | exact Ext.trans (by assumption) (by assumption)) (first
    | (go_at_call 23; (with_reducible refine (T1.out _ ?_ hL).mono ?_); (exact h.ext (e5'.trans (by assumption))); rintro _ w9 ⟨v9, rfl, ho9, he9⟩; obtain ⟨A9, c9, rfl, r9⟩ := OwnL.rd ho9 hl)
    | (go_at_call 25; refine (eqRecord_c _ _ _ _ _ _ _ _ _ _ _ _ _ (r5.ext (by assumption)) r9).mono ?_; rintro _ w10 ⟨rfl, he10⟩; rw [HE1.out]))
  have e10 : Ext w5 w10 := by assumption
  go_wp2
  go_ret
  exact ⟨rfl, e5'.trans e10⟩
end Go.Proofs.YtdbbdoldndnbhaaDoor

/- The tables that the rows of this seat list, as a call finds them. -/
namespace Go.Proofs.YtdbbdoldndnbhaaDoor
open Go.RowKit

noncomputable def laidWorld (os : Os) : World :=
  { World.holding Tryd.prog os ⟨#[], #[], []⟩ with heap := ((((World.holding Tryd.prog os ⟨#[], #[], []⟩).heap.modify 2 fun
      | .cells _ t frozen => .cells #[.int .u8 0, .int .u8 1, .int .u8 28, .int .u8 2, .int .u8 29, .int .u8 14, .int .u8 24, .int .u8 3, .int .u8 30, .int .u8 22, .int .u8 20, .int .u8 15, .int .u8 25, .int .u8 17, .int .u8 4, .int .u8 8, .int .u8 31, .int .u8 27, .int .u8 13, .int .u8 23, .int .u8 21, .int .u8 19, .int .u8 16, .int .u8 7, .int .u8 26, .int .u8 12, .int .u8 18, .int .u8 6, .int .u8 11, .int .u8 5, .int .u8 10, .int .u8 9] t frozen
      | o => o).modify 3 fun
      | .cells _ t frozen => .cells #[.int .u8 0, .int .u8 1, .int .u8 56, .int .u8 2, .int .u8 57, .int .u8 49, .int .u8 28, .int .u8 3, .int .u8 61, .int .u8 58, .int .u8 42, .int .u8 50, .int .u8 38, .int .u8 29, .int .u8 17, .int .u8 4, .int .u8 62, .int .u8 47, .int .u8 59, .int .u8 36, .int .u8 45, .int .u8 43, .int .u8 51, .int .u8 22, .int .u8 53, .int .u8 39, .int .u8 33, .int .u8 30, .int .u8 24, .int .u8 18, .int .u8 12, .int .u8 5, .int .u8 63, .int .u8 55, .int .u8 48, .int .u8 27, .int .u8 60, .int .u8 41, .int .u8 37, .int .u8 16, .int .u8 46, .int .u8 35, .int .u8 44, .int .u8 21, .int .u8 52, .int .u8 32, .int .u8 23, .int .u8 11, .int .u8 54, .int .u8 26, .int .u8 40, .int .u8 15, .int .u8 34, .int .u8 20, .int .u8 31, .int .u8 10, .int .u8 25, .int .u8 14, .int .u8 19, .int .u8 9, .int .u8 13, .int .u8 8, .int .u8 7, .int .u8 6] t frozen
      | o => o).modify 0 fun
      | .cells _ t frozen => .cells #[.int .u64 1, .int .u64 10, .int .u64 100, .int .u64 1000, .int .u64 10000, .int .u64 100000, .int .u64 1000000, .int .u64 10000000, .int .u64 100000000, .int .u64 1000000000, .int .u64 10000000000, .int .u64 100000000000, .int .u64 1000000000000, .int .u64 10000000000000, .int .u64 100000000000000, .int .u64 1000000000000000, .int .u64 10000000000000000, .int .u64 100000000000000000, .int .u64 1000000000000000000, .int .u64 10000000000000000000] t frozen
      | o => o) }
def doorList : List (String × DataW Unit) := [("math/bits.deBruijn32tab", Rows.laid_math_bits_deBruijn32tab), ("math/bits.deBruijn64tab", Rows.laid_math_bits_deBruijn64tab), ("internal/strconv.uint64pow10", Rows.laid_internal_strconv_uint64pow10)]
theorem gTab : Tryd.prog.globalNamed "internal/strconv.uint64pow10" = some 0 := by kernel_rfl
theorem gTabType : (Tryd.prog.globals[0]?).map (·.type) = some 142 := by kernel_rfl
theorem cellsTab : Tryd.prog.cellsOf 142 = 20 := by kernel_rfl
theorem cellsU64 : Tryd.prog.cellsOf 133 = 1 := by kernel_rfl
theorem tab_of_laid {W : World} (h : laidMetH Tryd.prog doorList W) : Tab W := by
  have h0 : laidMet Tryd.prog doorList W := h
  have h1 : laidMet Tryd.prog [("internal/strconv.uint64pow10", Lib.tabData .u64 Lib.pow10Tab)] W := h0.tail.tail
  exact Lib.tabIs_of_head (rest := []) gTab gTabType Tryd.underlying142 Tryd.underlying133 cellsU64 cellsTab h1
end Go.Proofs.YtdbbdoldndnbhaaDoor
