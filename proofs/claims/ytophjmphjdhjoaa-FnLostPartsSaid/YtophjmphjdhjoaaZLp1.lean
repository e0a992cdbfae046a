/- Words of our own for memory: a world that extends another one, a slice that reads as a list. -/
import Derived.Test.YtophjmphjdhjoaaRows
import Derived.WalkKit
import Derived.WalkSpells
import Derived.WalkLawsBesides
import Derived.BigQuiet
import Derived.Deep.QuietTactic
import Derived.Lib.Hide
import Derived.Lib.QuietBelow
import Derived.Maps.AppendAt
import Derived.Deep.AppendLies
import Derived.Deep.RegionLaw
import Derived.JoinedOf
import Derived.KernelRfl
import Derived.ProofKit
import Derived.OpenShut
import Derived.ShutString
import Derived.ChangeOld
import Derived.Deep.Fields
import Derived.Laws.BytesArg
import Derived.Laws.RangeAny
import Derived.Lib.AppendStr
import Derived.Lib.ConvBytes
import Derived.Laws.BitsLemmas
import Derived.Laws.CopyOwn
import Derived.Laws.BitsAllLaws
import Derived.Deep.RegionHeld3
import Derived.StillTailTactics
import Derived.Defers
import Derived.Recover
import Derived.Laws.Pointers
set_option linter.unusedVariables false
set_option linter.unusedSimpArgs false
namespace Go.Proofs.Ytophjmphjdhjoaa
open Go.RowKit Go.Sort

/-- the world w' is w, with further blocks -/
def Ext (w w' : World) : Prop := Below w.heap.size w w'
theorem Ext.refl (w : World) : Ext w w := Below.refl _ _
theorem Ext.size {w w' : World} (h : Ext w w') : w.heap.size ≤ w'.heap.size := Below.size h
theorem Ext.trans {a b c : World} (h : Ext a b) (k : Ext b c) : Ext a c := Below.trans h (Below.mono k h.size)
@[go_sem] theorem Ext_self (w : World) : Ext w w := Below.refl _ _
@[go_sem] theorem Ext_drew {w w1 : World} (h : Ext w w1) : Ext w w1.drew := Below.drew h
@[go_sem] theorem Ext_drewN {w w1 : World} (n : Nat) (h : Ext w w1) : Ext w (w1.drewN n) := below_drewN h n
@[go_sem] theorem Ext_alloc {w w1 : World} (o : Obj) (h : Ext w w1) : Ext w (w1.alloc o) := Below.alloc h h.size o
@[go_sem] theorem Ext_regrown {w w1 : World} (d : Nat) (os : Array Obj) (h : Ext w w1) : Ext w (grow (redrawn w1 d) os) := Ext.trans h (below_regrown w1 d os)
theorem Ext.setCell {w w1 : World} (h : Ext w w1) {p : Addr} (hp : w.heap.size ≤ p.block) (u : Value) : Ext w (w1.setCell p u) := Below.setCell h hp u
theorem Ext.grown {w w1 w2 : World} {row : Option Nat} (h : Ext w w1) (hg : w1.grownBy w2 row) (hr : ∀ k, row = some k → w.heap.size ≤ k) : Ext w w2 := Below.grown h hg h.size hr

theorem ext_of_q {W w1 : World} {n : Nat} {os : Array Obj} (h : w1 = grow (redrawn W n) os) : Ext W w1 := by rw [h]; exact Ext_regrown _ _ (Ext.refl _)
/-- a block that was laid: its cells stay -/
theorem boxed {w : World} {cs : Array Value} {T : TypeId} {w' : World} (h : Ext (w.alloc (.cells cs T)) w') (i : Nat) : w'.cell? ⟨w.heap.size, i, none⟩ = cs[i]? := by
  have hb : w'.heap[w.heap.size]? = some (.cells cs T (0, 0)) := by
    rw [Below.block h w.heap.size (by simp)]
    exact heap_alloc_new w _
  exact cell_of_row w' w.heap.size i cs T (0, 0) hb
theorem boxed_free {w : World} {cs : Array Value} {T : TypeId} {w' : World} (h : Ext (w.alloc (.cells cs T)) w') (i : Nat) : w'.frozen? ⟨w.heap.size, i, none⟩ = false := by
  have hb : w'.heap[w.heap.size]? = some (.cells cs T (0, 0)) := by
    rw [Below.block h w.heap.size (by simp)]
    exact heap_alloc_new w _
  exact frozen_of_row w' w.heap.size i cs T hb

/-- two blocks that were laid one behind the other -/
theorem boxed2 {w : World} {c0 c1 : Array Value} {T0 T1 : TypeId} {w' : World} (h : Ext ((w.alloc (.cells c0 T0)).alloc (.cells c1 T1)) w') :
    (∀ i, w'.cell? ⟨w.heap.size, i, none⟩ = c0[i]?) ∧ (∀ i, w'.cell? ⟨w.heap.size + 1, i, none⟩ = c1[i]?) ∧
    (∀ i, w'.frozen? ⟨w.heap.size, i, none⟩ = false) ∧ (∀ i, w'.frozen? ⟨w.heap.size + 1, i, none⟩ = false) ∧ w.heap.size + 2 ≤ w'.heap.size := by
  have h1 : Ext (w.alloc (.cells c0 T0)) w' := (Ext_alloc _ (Ext.refl _)).trans h
  have s1 : (w.alloc (.cells c0 T0)).heap.size = w.heap.size + 1 := by simp
  refine ⟨fun i => boxed h1 i, fun i => ?_, fun i => boxed_free h1 i, fun i => ?_, ?_⟩
  · have := boxed h i; rwa [s1] at this
  · have := boxed_free h i; rwa [s1] at this
  · have := h.size; simpa using this
/-- three blocks that were laid one behind the other -/
theorem boxed3 {w : World} {c0 c1 c2 : Array Value} {T0 T1 T2 : TypeId} {w' : World} (h : Ext (((w.alloc (.cells c0 T0)).alloc (.cells c1 T1)).alloc (.cells c2 T2)) w') :
    (∀ i, w'.cell? ⟨w.heap.size, i, none⟩ = c0[i]?) ∧ (∀ i, w'.cell? ⟨w.heap.size + 1, i, none⟩ = c1[i]?) ∧ (∀ i, w'.cell? ⟨w.heap.size + 1 + 1, i, none⟩ = c2[i]?) ∧
    (∀ i, w'.frozen? ⟨w.heap.size, i, none⟩ = false) ∧ (∀ i, w'.frozen? ⟨w.heap.size + 1, i, none⟩ = false) ∧ (∀ i, w'.frozen? ⟨w.heap.size + 1 + 1, i, none⟩ = false) ∧ w.heap.size + 3 ≤ w'.heap.size := by
  have h2 : Ext ((w.alloc (.cells c0 T0)).alloc (.cells c1 T1)) w' := (Ext_alloc _ (Ext.refl _)).trans h
  have h1 : Ext (w.alloc (.cells c0 T0)) w' := (Ext_alloc _ (Ext.refl _)).trans h2
  have s1 : (w.alloc (.cells c0 T0)).heap.size = w.heap.size + 1 := by simp
  have s2 : ((w.alloc (.cells c0 T0)).alloc (.cells c1 T1)).heap.size = w.heap.size + 1 + 1 := by simp
  refine ⟨fun i => boxed h1 i, fun i => ?_, fun i => ?_, fun i => boxed_free h1 i, fun i => ?_, fun i => ?_, ?_⟩
  · have := boxed h2 i; rwa [s1] at this
  · have := boxed h i; rwa [s2] at this
  · have := boxed_free h2 i; rwa [s1] at this
  · have := boxed_free h i; rwa [s2] at this
  · have := h.size; simpa using this
theorem World.ownsRow.lower {w : World} {B B' : Nat} {e : TypeId} {size : Nat} {v : Value} {n : Nat} {xs : List Value} (h : w.ownsRow B e size v n xs) (hb : B' ≤ B) : w.ownsRow B' e size v n xs := by
  refine ⟨h.1, ?_⟩
  rcases h.2 with h0 | ⟨g, cap, cur, hv, hg, r⟩
  · exact .inl h0
  · exact .inr ⟨g, cap, cur, hv, by omega, r⟩

/-- the call hands back v, and the world has grown -/
def Gives (P : Program) (f : FuncId) (args : Array Value) (w : World) (v : Value) : Prop := Calls P f args w fun e w' => e = .returned v ∧ Ext w w'

/-- A slice whose elements take one cell each and read as l. -/
def Rd0 {α : Type} (f : α → Value) (w : World) (A : Option Addr) (l : List α) (c : Nat) : Prop :=
  l.length ≤ c ∧ l.length ≤ 9223372036854775807 ∧ (0 < l.length → ∃ b off, A = some ⟨b, off, none⟩ ∧ b < w.heap.size ∧ ∀ (w' : World), Ext w w' → ∀ i (h : i < l.length), w'.cell? ⟨b, off + i, none⟩ = some (f l[i]))
/-- .. of a bounded length -/
def Rd {α : Type} (f : α → Value) (w : World) (A : Option Addr) (l : List α) (c : Nat) : Prop := Rd0 f w A l c ∧ l.length ≤ 140737488351232
theorem Rd0.ext {α : Type} {f : α → Value} {w w1 : World} {A : Option Addr} {l : List α} {c : Nat} (h : Rd0 f w A l c) (e : Ext w w1) : Rd0 f w1 A l c :=
  ⟨h.1, h.2.1, fun hp => let ⟨b, off, h1, h2, h3⟩ := h.2.2 hp; ⟨b, off, h1, Nat.lt_of_lt_of_le h2 e.size, fun w' e' => h3 w' (e.trans e')⟩⟩
theorem Rd.ext {α : Type} {f : α → Value} {w w1 : World} {A : Option Addr} {l : List α} {c : Nat} (h : Rd f w A l c) (e : Ext w w1) : Rd f w1 A l c := ⟨h.1.ext e, h.2⟩
theorem Rd.len {α : Type} {f : α → Value} {w : World} {A : Option Addr} {l : List α} {c : Nat} (h : Rd f w A l c) : l.length ≤ 140737488351232 := h.2
theorem Rd0.len {α : Type} {f : α → Value} {w : World} {A : Option Addr} {l : List α} {c : Nat} (h : Rd0 f w A l c) : l.length ≤ 9223372036854775807 := h.2.1
theorem Rd0.cap {α : Type} {f : α → Value} {w : World} {A : Option Addr} {l : List α} {c : Nat} (h : Rd0 f w A l c) : l.length ≤ c := h.1
theorem Rd.cap {α : Type} {f : α → Value} {w : World} {A : Option Addr} {l : List α} {c : Nat} (h : Rd f w A l c) : l.length ≤ c := h.1.1
@[go_sem] def vu8 (x : UInt8) : Value := .int .u8 x.toNat
@[go_sem] def vint (x : Int) : Value := .int .i64 x
@[go_sem] def vstr (x : ByteArray) : Value := .string x
abbrev Bs (w : World) (A : Option Addr) (l : List UInt8) (c : Nat) : Prop := Rd vu8 w A l c
abbrev Is (w : World) (A : Option Addr) (l : List Int) (c : Nat) : Prop := Rd vint w A l c
abbrev Ss (w : World) (A : Option Addr) (l : List ByteArray) (c : Nat) : Prop := Rd vstr w A l c
theorem Rd0.at {α : Type} {f : α → Value} {w : World} {A : Option Addr} {l : List α} {c : Nat} (h : Rd0 f w A l c) (k : Nat) (hk : k < l.length) :
    ∃ b off, A = some ⟨b, off, none⟩ ∧ b < w.heap.size ∧ ∀ (w' : World), Ext w w' → w'.cell? ⟨b, off + k, none⟩ = some (f l[k]) :=
  let ⟨b, off, h1, h2, h3⟩ := h.2.2 (by omega)
  ⟨b, off, h1, h2, fun w' e => h3 w' e k hk⟩
theorem Rd.at {α : Type} {f : α → Value} {w : World} {A : Option Addr} {l : List α} {c : Nat} (h : Rd f w A l c) (k : Nat) (hk : k < l.length) :
    ∃ b off, A = some ⟨b, off, none⟩ ∧ b < w.heap.size ∧ ∀ (w' : World), Ext w w' → w'.cell? ⟨b, off + k, none⟩ = some (f l[k]) := h.1.at k hk

theorem World.cell?_alloc_at' (w : World) (news : List Value) (e : TypeId) (j : Nat) : (w.alloc (.cells news.toArray e)).cell? ((⟨w.heap.size, 0, none⟩ : Addr).add j) = news[j]? := by
  have hadd : (⟨w.heap.size, 0, none⟩ : Addr).add j = ⟨w.heap.size, j, none⟩ := by unfold Addr.add; split <;> simp_all
  rw [hadd, World.cell?_alloc_at _ _ _ _ rfl]; simp

/-- what a slice type's rows need: the element's type, its cells, its bytes, its zero -/
structure Elem (P : Program) (t e : TypeId) (size bytes : Nat) (z : Value) : Prop where
  ht : P.underlying t = some (.slice e)
  hi : (P.info? e).map (fun i => (i.zero, i.size, i.bytes)) = some (some z, size, bytes)
  hz : z.cells.size = size
  hs : 0 < size

/-- A row that the call since w0 made itself: n elements of type e, cells xs. -/
abbrev Own (e : TypeId) (size : Nat) (w0 w : World) (v : Value) (n : Nat) (xs : List Value) : Prop := w.ownsRow w0.heap.size e size v n xs

section
variable {P : Program} {ops : Array Oper} {rest : List Oper} {o : Oper} {a : Act} {Q : Exit → Act → World → Prop}

theorem run_app_nil (w : World) (base : Nat) (t ty e : TypeId) (i : TypeInfo) (size : Nat) (ht : P.underlying t = some (.slice e)) (hi : P.info? e = some i)
    (v : Value) (n : Nat) (xs : List Value) (hown : w.ownsRow base e size v n xs) (c : Nat) : (Builtin.append_ #[t, t] ty #[v, .slice none 0 c]).run P w = .ok v w := by
  rcases hown.2 with ⟨rfl, rfl⟩ | ⟨g, cap, cur, rfl, _, _, hnc, _⟩
  · simp [Builtin.append_, run_underlying ht, sizeOf, typeInfo, hi, Builtin.lenOf, Builtin.firstCells]
  · simp [Builtin.append_, run_underlying ht, sizeOf, typeInfo, hi, Builtin.lenOf, Builtin.firstCells, hnc, storeCells]

/-- append(s, x...): the cells of x, if there are any, lie where A says -/
theorem wpList_app_any (hgd : o.guard = none) (s x : Operand) (t : TypeId) (ho : o.op = .call { callee := .builtin .append, args := #[s, x], argTypes := #[t, t] })
    {e : TypeId} {size bytes : Nat} {z : Value} (hE : Elem P t e size bytes z) (w0 w : World) (v : Value) (n : Nat) (xs : List Value) (hs : a.eval s = v) (hown : Own e size w0 w v n xs)
    (he : Ext w0 w) (news : List Value) (A : Option Addr) (m c : Nat) (hx : a.eval x = .slice A m c) (hl : news.length = m * size)
    (hA : 0 < m → ∃ ad, A = some ad ∧ ∀ j u, news[j]? = some u → w.cell? (ad.add j) = some u) (h1 : ∀ u ∈ news, u.oneCell' = true)
    (hm : n + m ≤ maxLen) (hb : (n + m) * bytes ≤ 140737488355328)
    (h : ∀ v' w', Own e size w0 w' v' (n + m) (xs ++ news) → Ext w0 w' → (v'.ownBlock = v.ownBlock ∨ v'.ownBlock = some w.heap.size) → w.grownBy w' v.ownBlock → wpList P ops Q rest (a.put o.dst v') w') :
    wpList P ops Q (o :: rest) a w := by
  obtain ⟨i0, hi0, hz0, hz1, hz2⟩ := info_parts hE.hi
  rcases A with _ | ad
  · have hm0 : m = 0 := by
      rcases Nat.eq_zero_or_pos m with h0 | h0
      · exact h0
      · obtain ⟨ad, h, _⟩ := hA h0
        cases h
    subst hm0
    obtain rfl : news = [] := List.eq_nil_of_length_eq_zero (by simpa using hl)
    refine wpList_plain hgd fun K hK => ?_
    unfold Oper.wp execOp
    simp only [ho, resolve, invoke, builtin, Sem.run_bind, Sem.run_pure, Result.andThen_ok, List.map_toArray, List.map_cons, List.map_nil, hs, hx, run_app_nil w w0.heap.size t o.type e i0 size hE.ht hi0 v n xs hown c]
    exact hK _ _ (h v w (by simpa using hown) he (.inl rfl) (World.grownBy.refl w _))
  · refine wpList_append_own_at _ hgd s x t ho w0.heap.size e i0 z size bytes hE.ht hi0 hz0 hz1 hz2 hE.hz hE.hs v n xs hs hown ad m c news hx hl ?_ h1 hm hb he.size ?_
    · intro j u hu
      rcases Nat.eq_zero_or_pos m with h0 | h0
      · subst h0
        obtain rfl : news = [] := List.eq_nil_of_length_eq_zero (by simpa using hl)
        simp at hu
      · obtain ⟨ad', h', hc⟩ := hA h0
        injection h' with h'
        subst h'
        exact hc j u hu
    · intro v' w' ho' hg _ hat
      exact h v' w' ho' (he.grown hg (fun k hk => (hown.lt k hk).1)) hat hg

/-- make([]T, n) -/
theorem wpList_mk (hg : o.guard = none) (l c : Operand) (t : TypeId) (hop : o.op = Op.makeSlice t l c)
    {e : TypeId} {size bytes : Nat} {z : Value} (hE : Elem P t e size bytes z) (w0 w : World) (he : Ext w0 w)
    (n : Nat) (hl : a.eval l = .int .i64 n) (hc : a.eval c = .int .i64 n) (hb : bytes * n ≤ 281474976710656) (hn : n ≤ maxLen)
    (h : ∀ w', Own e size w0 w' (.slice (some ⟨w.heap.size, 0, none⟩) n n) n (madeCells z.cells (n * size)).toList → Ext w0 w' → Ext w w' → wpList P ops Q rest (a.put o.dst (.slice (some ⟨w.heap.size, 0, none⟩) n n)) w') :
    wpList P ops Q (o :: rest) a w := by
  obtain ⟨i0, hi0, hz0, hz1, hz2⟩ := info_parts hE.hi
  refine wpList_make_full w hg l c t hop w0.heap.size e i0 z size hE.ht hi0 hz0 hz1 .i64 .i64 n n n hl hc rfl rfl (by rw [hz2]; exact hb) hn he.size ?_
  intro w' ho' hg'
  exact h w' ho' (he.grown hg' (fun k hk => by cases hk)) ((Ext.refl w).grown hg' (fun k hk => by cases hk))
/-- make([]T, 0, n) -/
theorem wpList_mk0 (hg : o.guard = none) (l c : Operand) (t : TypeId) (hop : o.op = Op.makeSlice t l c)
    {e : TypeId} {size bytes : Nat} {z : Value} (hE : Elem P t e size bytes z) (w0 w : World) (he : Ext w0 w)
    (n : Nat) (hl : a.eval l = .int .i64 0) (hc : a.eval c = .int .i64 n) (hb : bytes * n ≤ 281474976710656) (hn : n ≤ maxLen)
    (h : ∀ w', Own e size w0 w' (.slice (some ⟨w.heap.size, 0, none⟩) 0 n) 0 [] → Ext w0 w' → wpList P ops Q rest (a.put o.dst (.slice (some ⟨w.heap.size, 0, none⟩) 0 n)) w') :
    wpList P ops Q (o :: rest) a w := by
  obtain ⟨i0, hi0, hz0, hz1, hz2⟩ := info_parts hE.hi
  refine wpList_make_own w hg l c t hop w0.heap.size e i0 z size hE.ht hi0 hz0 hz1 .i64 .i64 n n hl hc rfl (by rw [hz2]; exact hb) hn he.size ?_
  intro w' ho' hg'
  exact h w' ho' (he.grown hg' (fun k hk => by cases hk))

/-- append(s, x1, .., xm): the new elements lie in a block of their own, the newest -/
theorem wpList_app (hgd : o.guard = none) (s x : Operand) (t : TypeId) (ho : o.op = .call { callee := .builtin .append, args := #[s, x], argTypes := #[t, t] })
    {e : TypeId} {size bytes : Nat} {z : Value} (hE : Elem P t e size bytes z) (w0 w : World) (v : Value) (n : Nat) (xs : List Value) (hs : a.eval s = v) (hown : Own e size w0 w v n xs)
    (he : Ext w0 w) (news : List Value) (m c : Nat) (hx : a.eval x = .slice (some ⟨w.heap.size, 0, none⟩) m c) (hl : news.length = m * size) (h1 : ∀ u ∈ news, u.oneCell' = true)
    (hm : n + m ≤ maxLen) (hb : (n + m) * bytes ≤ 140737488355328)
    (h : ∀ v' w', Own e size w0 w' v' (n + m) (xs ++ news) → Ext w0 w' → wpList P ops Q rest (a.put o.dst v') w') :
    wpList P ops Q (o :: rest) a (w.alloc (.cells news.toArray e)) := by
  obtain ⟨i0, hi0, hz0, hz1, hz2⟩ := info_parts hE.hi
  refine wpList_append_own _ hgd s x t ho w0.heap.size e i0 z size bytes hE.ht hi0 hz0 hz1 hz2 hE.hz hE.hs v n xs hs (hown.alloc _) ⟨w.heap.size, 0, none⟩ m c news hx hl ?_ h1 hm hb (by have := he.size; simp; omega) ?_
  · intro j u hj
    rw [World.cell?_alloc_at' w news e j]; exact hj
  · intro v' w' ho' hg _
    exact h v' w' ho' ((Ext_alloc _ he).grown hg (fun k hk => (hown.lt k hk).1))
end

/-- an own row of one-cell elements reads as its list -/
theorem Own.rd {α : Type} {f : α → Value} {e : TypeId} {w0 w : World} {v : Value} {n : Nat} {l : List α} (h : Own e 1 w0 w v n (l.map f)) (hl : l.length ≤ 140737488351232) :
    ∃ A c, v = .slice A l.length c ∧ Rd f w A l c := by
  have hn : n = l.length := by have := h.1; simpa using this.symm
  subst hn
  rcases h.2 with ⟨rfl, h0⟩ | ⟨g, cap, cur, rfl, hb, hg, hnc, hcm, hcs, htake⟩
  · exact ⟨none, 0, by rw [h0], ⟨by omega, by omega, fun hp => by omega⟩, hl⟩
  · refine ⟨_, _, rfl, ⟨by omega, by omega, fun _ => ⟨g, 0, rfl, (Array.getElem?_eq_some_iff.1 hg).1, fun w' e' i hi => ?_⟩⟩, hl⟩
    have hg' : w'.heap[g]? = some (.cells cur _ (0, 0)) := (Below.block e' g (Array.getElem?_eq_some_iff.1 hg).1).trans hg
    rw [cell_of_row w' g (0 + i) cur _ (0, 0) hg']
    have h2 : (cur.toList.take (l.length * 1))[i]? = (l.map f)[i]? := by rw [htake]
    rw [List.getElem?_take, if_pos (by omega)] at h2
    simpa [hi] using h2
theorem Own.empty {e : TypeId} {size : Nat} {w0 w : World} (he : Ext w0 w) : Own e size w0 (w.alloc (.cells #[] e)) (.slice (some ⟨w.heap.size, 0, none⟩) 0 0) 0 [] :=
  ⟨by simp, .inr ⟨w.heap.size, 0, #[], rfl, he.size, heap_alloc_new w _, by omega, by simp [maxLen], by simp, by simp⟩⟩
theorem Own.ext {e : TypeId} {size : Nat} {w0 w w1 : World} {v : Value} {n : Nat} {xs : List Value} (h : Own e size w0 w v n xs) (k : Ext w w1) : Own e size w0 w1 v n xs := by
  refine ⟨h.1, ?_⟩
  rcases h.2 with h0 | ⟨g, cap, cur, rfl, hb, hg, r⟩
  · exact .inl h0
  · exact .inr ⟨g, cap, cur, rfl, hb, (Below.block k g (Array.getElem?_eq_some_iff.1 hg).1).trans hg, r⟩

theorem Own.slot {e : TypeId} {size : Nat} {w0 w : World} {g n cap : Nat} {xs : List Value} (h : Own e size w0 w (.slice (some ⟨g, 0, none⟩) n cap) n xs) (k : Nat) (hk : k < xs.length) :
    (∃ u, w.cell? ⟨g, k, none⟩ = some u) ∧ w.frozen? ⟨g, k, none⟩ = false :=
  ⟨⟨xs[k], by rw [h.cellAt k (by have := h.1; omega)]; simp [hk]⟩, h.frozenAt k⟩
theorem Own.store {e : TypeId} {size : Nat} {w0 w : World} {g n cap : Nat} {xs : List Value} (h : Own e size w0 w (.slice (some ⟨g, 0, none⟩) n cap) n xs) (he : Ext w0 w) (k : Nat) (u : Value) :
    Own e size w0 (w.setCell ⟨g, k, none⟩ u) (.slice (some ⟨g, 0, none⟩) n cap) n (xs.set k u) ∧ Ext w0 (w.setCell ⟨g, k, none⟩ u) :=
  ⟨(h.stored k u).1, he.setCell (h.lt g rfl).1 u⟩
/-- where a slice's cells lie, and what they hold in whatever later world -/
theorem Rd.base {α : Type} {f : α → Value} {w : World} {A : Option Addr} {l : List α} {c : Nat} (h : Rd f w A l c) (hp : 0 < l.length) :
    ∃ b off, A = some ⟨b, off, none⟩ ∧ b < w.heap.size ∧ ∀ (w' : World), Ext w w' → ∀ i (h : i < l.length), w'.cell? ⟨b, off + i, none⟩ = some (f l[i]) := h.1.2.2 hp
/-- the cells of a part, as the laws on append ask for them -/
theorem part_cells {α : Type} {f : α → Value} {w : World} {b off : Nat} {l : List α} (h : ∀ i (h : i < l.length), w.cell? ⟨b, off + i, none⟩ = some (f l[i])) (lo m : Nat) :
    ∀ j u, (((l.drop lo).take m).map f)[j]? = some u → w.cell? ((⟨b, off + lo, none⟩ : Addr).add j) = some u := by
  intro j u hu
  rw [List.getElem?_map, List.getElem?_take] at hu
  split at hu
  · rw [List.getElem?_drop] at hu
    have hlt : lo + j < l.length := by
      rcases Nat.lt_or_ge (lo + j) l.length with h' | h'
      · exact h'
      · rw [List.getElem?_eq_none h'] at hu; simp at hu
    rw [List.getElem?_eq_getElem hlt] at hu
    have hadd : (⟨b, off + lo, none⟩ : Addr).add j = ⟨b, off + (lo + j), none⟩ := by unfold Addr.add; split <;> simp_all [Nat.add_assoc]
    rw [hadd, h _ hlt]
    simpa using hu
  · simp at hu
theorem one_vu8 (l : List UInt8) : ∀ u ∈ l.map vu8, u.oneCell' = true := by
  intro u hu; obtain ⟨x, _, rfl⟩ := List.mem_map.1 hu; rfl
theorem one_vint (l : List Int) : ∀ u ∈ l.map vint, u.oneCell' = true := by
  intro u hu; obtain ⟨x, _, rfl⟩ := List.mem_map.1 hu; rfl
theorem one_vstr (l : List ByteArray) : ∀ u ∈ l.map vstr, u.oneCell' = true := by
  intro u hu; obtain ⟨x, _, rfl⟩ := List.mem_map.1 hu; rfl
theorem made_one (z : Value) (h : z.cells = #[z]) (n : Nat) : (madeCells z.cells (n * 1)).toList = List.replicate n z := by rw [h, Nat.mul_one, toList_madeCells_one]

/-- a row of one-cell elements that the call since w0 made itself, reading as l -/
def OwnL {α : Type} (f : α → Value) (e : TypeId) (w0 w : World) (v : Value) (l : List α) : Prop := Own e 1 w0 w v l.length (l.map f)
theorem OwnL.rd {α : Type} {f : α → Value} {e : TypeId} {w0 w : World} {v : Value} {l : List α} (h : OwnL f e w0 w v l) (hl : l.length ≤ 140737488351232) : ∃ A c, v = .slice A l.length c ∧ Rd f w A l c := Own.rd h hl
theorem OwnL.ext {α : Type} {f : α → Value} {e : TypeId} {w0 w w1 : World} {v : Value} {l : List α} (h : OwnL f e w0 w v l) (k : Ext w w1) : OwnL f e w0 w1 v l := Own.ext h k
theorem OwnL.empty {α : Type} {f : α → Value} {e : TypeId} {w0 w : World} (he : Ext w0 w) : OwnL f e w0 (w.alloc (.cells #[] e)) (.slice (some ⟨w.heap.size, 0, none⟩) 0 0) [] := Own.empty he
theorem OwnL.nil {α : Type} {f : α → Value} {e : TypeId} (w0 w : World) : OwnL f e w0 w (.slice none 0 0) [] := ⟨by simp, .inl ⟨rfl, rfl⟩⟩
section
variable {P : Program} {ops : Array Oper} {rest : List Oper} {o : Oper} {a : Act} {Q : Exit → Act → World → Prop}
/-- append(s, ys...) -/
theorem wpList_appL (hgd : o.guard = none) (s x : Operand) (t : TypeId) (ho : o.op = .call { callee := .builtin .append, args := #[s, x], argTypes := #[t, t] })
    {e : TypeId} {bytes : Nat} {z : Value} (hE : Elem P t e 1 bytes z) (hby : 1 ≤ bytes) (w0 w : World) {α : Type} (f : α → Value) (hf : ∀ x, (f x).oneCell' = true) (v : Value) (hs : a.eval s = v) (A : Option Addr) (m c : Nat) (hx : a.eval x = .slice A m c)
    (l ys : List α) (hown : OwnL f e w0 w v l) (he : Ext w0 w) (hm : m = ys.length)
    (hA : 0 < ys.length → ∃ ad, A = some ad ∧ ∀ j u, (ys.map f)[j]? = some u → w.cell? (ad.add j) = some u)
    (hb : (l.length + ys.length) * bytes ≤ 140737488355328)
    (h : ∀ v' w', OwnL f e w0 w' v' (l ++ ys) → Ext w0 w' → (v'.ownBlock = v.ownBlock ∨ v'.ownBlock = some w.heap.size) → w.grownBy w' v.ownBlock → wpList P ops Q rest (a.put o.dst v') w') :
    wpList P ops Q (o :: rest) a w := by
  subst hm
  refine wpList_app_any hgd s x t ho hE w0 w v l.length (l.map f) hs hown he (ys.map f) A ys.length c hx (by simp) hA (fun u hu => by obtain ⟨x, _, rfl⟩ := List.mem_map.1 hu; exact hf x)
    (by have := Nat.mul_le_mul_left (l.length + ys.length) hby; simp only [maxLen]; omega) hb ?_
  intro v' w' h1 h2 h3 h4
  exact h v' w' (by simpa [OwnL] using h1) h2 h3 h4
/-- append(s, y1, .., ym): the new elements lie in the newest block -/
theorem wpList_appN (hgd : o.guard = none) (s x : Operand) (t : TypeId) (ho : o.op = .call { callee := .builtin .append, args := #[s, x], argTypes := #[t, t] })
    {e : TypeId} {bytes : Nat} {z : Value} (hE : Elem P t e 1 bytes z) (hby : 1 ≤ bytes) (w0 w : World) {α : Type} (f : α → Value) (hf : ∀ x, (f x).oneCell' = true) (v : Value) (hs : a.eval s = v) (m c : Nat) (hx : a.eval x = .slice (some ⟨w.heap.size, 0, none⟩) m c)
    (l ys : List α) (cs : Array Value) (hcs : cs = (ys.map f).toArray) (hown : OwnL f e w0 w v l) (he : Ext w0 w) (hm : m = ys.length)
    (hb : (l.length + ys.length) * bytes ≤ 140737488355328)
    (h : ∀ v' w', OwnL f e w0 w' v' (l ++ ys) → Ext w0 w' → wpList P ops Q rest (a.put o.dst v') w') :
    wpList P ops Q (o :: rest) a (w.alloc (.cells cs e)) := by
  subst hcs
  refine wpList_appL hgd s x t ho hE hby w0 _ f hf v hs (some ⟨w.heap.size, 0, none⟩) m c hx l ys (hown.ext (Ext_alloc _ (Ext.refl w))) (Ext_alloc _ he) hm (fun _ => ⟨_, rfl, fun j u hu => ?_⟩) hb (fun v' w' h1 h2 _ _ => h v' w' h1 h2)
  rw [World.cell?_alloc_at']; exact hu
end

section
variable {P : Program} {ops : Array Oper} {rest : List Oper} {o : Oper} {a : Act} {Q : Exit → Act → World → Prop} {K : Act → World → Prop} {E : Prop}
theorem step_appL (hgd : o.guard = none) (s x : Operand) (t : TypeId) (ho : o.op = .call { callee := .builtin .append, args := #[s, x], argTypes := #[t, t] })
    {e : TypeId} {bytes : Nat} {z : Value} (hE : Elem P t e 1 bytes z) (hby : 1 ≤ bytes) (w0 w : World) {α : Type} (f : α → Value) (hf : ∀ x, (f x).oneCell' = true) (v : Value) (hs : a.eval s = v) (A : Option Addr) (m c : Nat) (hx : a.eval x = .slice A m c)
    (l ys : List α) (hown : OwnL f e w0 w v l) (he : Ext w0 w) (hm : m = ys.length)
    (hA : 0 < ys.length → ∃ ad, A = some ad ∧ ∀ j u, (ys.map f)[j]? = some u → w.cell? (ad.add j) = some u)
    (hb : (l.length + ys.length) * bytes ≤ 140737488355328)
    (h : ∀ v' w', OwnL f e w0 w' v' (l ++ ys) → Ext w0 w' → K (a.put o.dst v') w') :
    if Region.wanted o (yielded ops a.tmps) = true then Oper.wp P o a w K Q else E := by
  have hw : Region.wanted o (yielded ops a.tmps) = true := by simp [Region.wanted, hgd]
  rw [if_pos hw]
  obtain ⟨i0, hi0, hz0, hz1, hz2⟩ := info_parts hE.hi
  subst hm
  have hfin : ∀ v' w', Own e 1 w0 w' v' (l.length + ys.length) (l.map f ++ ys.map f) → Ext w0 w' → K (a.put o.dst v') w' := fun v' w' h1 h2 => h v' w' (by simpa [OwnL] using h1) h2
  rcases A with _ | ad
  · have hm0 : ys.length = 0 := by
      rcases Nat.eq_zero_or_pos ys.length with h0 | h0
      · exact h0
      · obtain ⟨ad, h, _⟩ := hA h0
        cases h
    obtain rfl : ys = [] := List.eq_nil_of_length_eq_zero hm0
    unfold Oper.wp execOp
    simp only [ho, resolve, invoke, builtin, Sem.run_bind, Sem.run_pure, Result.andThen_ok, List.map_toArray, List.map_cons, List.map_nil, List.length_nil, hs, hx, run_app_nil w w0.heap.size t o.type e i0 1 hE.ht hi0 v l.length (l.map f) hown c]
    exact hfin v w (by have h' := hown; unfold OwnL at h'; simpa using h') he
  · obtain ⟨v', w', hr, h2, h3, h4, h5⟩ := run_append_own_at (P := P) w w0.heap.size t o.type e i0 z 1 bytes hE.ht hi0 hz0 hz1 hz2 hE.hz hE.hs v l.length (l.map f) hown ad ys.length c (ys.map f) (by simp)
      (fun j u hu => by
        rcases Nat.eq_zero_or_pos ys.length with h0 | h0
        · obtain rfl : ys = [] := List.eq_nil_of_length_eq_zero h0
          simp at hu
        · obtain ⟨ad', h', hc⟩ := hA h0
          injection h' with h'
          subst h'
          exact hc j u hu)
      (fun u hu => by obtain ⟨x, _, rfl⟩ := List.mem_map.1 hu; exact hf x) (by have := Nat.mul_le_mul_left (l.length + ys.length) hby; simp only [maxLen]; omega) hb he.size
    unfold Oper.wp execOp
    simp only [ho, resolve, invoke, builtin, Sem.run_bind, Sem.run_pure, Result.andThen_ok, List.map_toArray, List.map_cons, List.map_nil, hs, hx, hr]
    exact hfin v' w' h2 (he.grown h3 (fun k hk => (hown.lt k hk).1))
theorem step_appN (hgd : o.guard = none) (s x : Operand) (t : TypeId) (ho : o.op = .call { callee := .builtin .append, args := #[s, x], argTypes := #[t, t] })
    {e : TypeId} {bytes : Nat} {z : Value} (hE : Elem P t e 1 bytes z) (hby : 1 ≤ bytes) (w0 w W : World) {α : Type} (f : α → Value) (hf : ∀ x, (f x).oneCell' = true) (v : Value) (hs : a.eval s = v) (m c : Nat) (hx : a.eval x = .slice (some ⟨w.heap.size, 0, none⟩) m c)
    (l ys : List α) (cs : Array Value) (hcs : cs = (ys.map f).toArray) (hW : W = w.alloc (.cells cs e)) (hown : OwnL f e w0 w v l) (he : Ext w0 w) (hm : m = ys.length)
    (hb : (l.length + ys.length) * bytes ≤ 140737488355328)
    (h : ∀ v' w', OwnL f e w0 w' v' (l ++ ys) → Ext w0 w' → K (a.put o.dst v') w') :
    if Region.wanted o (yielded ops a.tmps) = true then Oper.wp P o a W K Q else E := by
  subst hW
  subst hcs
  refine step_appL hgd s x t ho hE hby w0 _ f hf v hs (some ⟨w.heap.size, 0, none⟩) m c hx l ys (hown.ext (Ext_alloc _ (Ext.refl w))) (Ext_alloc _ he) hm (fun _ => ⟨_, rfl, fun j u hu => ?_⟩) hb h
  rw [World.cell?_alloc_at']; exact hu
end
/-- a row of the call's own stays, while an elder block is written -/
theorem OwnL.kept {α : Type} {f : α → Value} {e : TypeId} {w0 w w' : World} {v : Value} {l : List α} (h : OwnL f e w0 w v l) {row : Option Nat} (hg : w.grownBy w' row) (hr : ∀ g, row = some g → g < w0.heap.size) : OwnL f e w0 w' v l := by
  refine World.ownsRow.kept h hg ?_
  cases hv : v.ownBlock with
  | none => exact .inl rfl
  | some g =>
    right
    intro e
    have := hr g e.symm
    have := (h.lt g hv).1
    omega
theorem OwnL.block {α : Type} {f : α → Value} {e : TypeId} {w0 w : World} {v : Value} {l : List α} (h : OwnL f e w0 w v l) : ∀ g, v.ownBlock = some g → g < w.heap.size := fun g hg => (h.lt g hg).2
theorem Own.mk_rd {f : Nat → Value} {e : TypeId} {w0 w : World} {A : Option Addr} {n c : Nat} (h : Own e 1 w0 w (.slice A n c) n ((List.range n).map f)) (hn : n ≤ 140737488351232) : Rd f w A (List.range n) c := by
  obtain ⟨A', c', hv, hr⟩ := Own.rd h (by simpa using hn)
  injection hv with h1 _ h3
  subst h1; subst h3
  exact hr

theorem u8_inj {x y : UInt8} (h : (x.toNat : Int) = (y.toNat : Int)) : x = y := UInt8.toNat_inj.1 (by omega)
theorem take_eq_succ {α : Type} {l l' : List α} {k : Nat} (h1 : k < l.length) (h2 : k < l'.length) (h : l.take k = l'.take k) (e : l[k] = l'[k]) : l.take (k+1) = l'.take (k+1) := by
  rw [List.take_succ_eq_append_getElem h1, List.take_succ_eq_append_getElem h2, h, e]
theorem ret_i64 {a b : Int} (h : a = b) : Ending.returned (.int .i64 a) = .returned (.int .i64 b) := by rw [h]
theorem ret_bool {a b : Bool} (h : a = b) : Ending.returned (.bool a) = .returned (.bool b) := by rw [h]
end Go.Proofs.Ytophjmphjdhjoaa

/- Closed facts of the whole program, paid once: the signs of the dump's head are read once, as a list. -/
namespace Go.Proofs.Ytophjmphjdhjoaa

theorem and_ : ∀ {a b : Bool}, a = true → b = true → (a && b) = true
  | true, true, _, _ => rfl
/-- the signs of the dump's head -/
def ioL : List Char := List.map Char.ofNat [104, 97, 114, 110, 101, 115, 115, 32, 101, 98, 52, 54, 53, 50, 98, 52, 49, 56, 55, 57, 56, 50, 100, 50, 101, 99, 56, 49, 50, 54, 54, 55, 50, 101, 99, 99, 50, 101, 97, 52, 50, 98, 98, 54, 101, 98, 97, 52, 57, 97, 57, 100, 100, 53, 55, 52, 50, 102, 55, 48, 49, 98, 54, 53, 54, 100, 48, 98, 99, 51, 102, 51, 32, 99, 117, 116, 32, 97, 116, 32, 108, 111, 111, 112, 46, 101, 120, 97, 109, 112, 108, 101, 47, 103, 48, 48, 53, 49, 56, 47, 108, 97, 119, 115, 46, 70, 110, 76, 111, 115, 116, 80, 97, 114, 116, 115, 32, 108, 111, 111, 112, 46, 101, 120, 97, 109, 112, 108, 101, 47, 103, 48, 48, 53, 49, 56, 47, 108, 97, 119, 115, 46, 70, 110, 82, 101, 110, 97, 109, 105, 110, 103]
def cutW : List Char := List.map Char.ofNat [99, 117, 116]
theorem io_eq : Try.prog.initOrder = String.ofList ioL := by
  unfold Try.prog
  dsimp only [Try.progTables]
  kernel_rfl
theorem io_list : Try.prog.initOrder.toList = ioL := by rw [io_eq, String.toList_ofList]
theorem io_words : behindMainWord (wordsSigns ioL) = cutW :: (behindMainWord (wordsSigns ioL)).tail := by kernel_rfl
theorem io_strip (rest : List (List Char)) : stripLifts liftWords (cutW :: rest) = ([], cutW :: rest) := by kernel_rfl
theorem cut_gc : (cutW == "gc".toList || cutW == "spec".toList) = false := by kernel_rfl
theorem cut_carried : (cutW == "carried".toList) = false := by kernel_rfl
theorem cut_carried' : (some cutW == some "carried".toList) = false := by kernel_rfl
theorem cut_cut : (some cutW == some "cut".toList) = true := by kernel_rfl
theorem cut_cut' : (cutW == "cut".toList) = true := by kernel_rfl
theorem no_later : Try.prog.laysLater = false := by kernel_rfl
theorem no_reflect : Try.prog.bearsReflect = false := by kernel_rfl
theorem door_fits : Try.prog.doorFits [] = true := by kernel_rfl
section
variable {P : Program} {rest : List (List Char)} (h : behindMainWord (wordsSigns P.initOrder.toList) = cutW :: rest)
include h
theorem head_lifts_of : P.headLifts = [] := by
  unfold Program.headLifts
  rw [h, io_strip]
  simp only [List.head?_cons, cut_cut, if_true]
theorem enter_of (h1 : P.laysLater = false) (h2 : P.bearsReflect = false) (h3 : P.doorFits [] = true) : P.mayEnter = true := by
  unfold Program.mayEnter
  rw [h]
  simp only [io_strip, cut_gc, cut_carried, cut_cut, h1, h2, h3, List.head?_cons, Bool.false_and, Bool.false_or, Bool.not_false, Bool.and_true, Bool.or_true, List.contains_nil]
theorem final_of : P.liftsFinal = false := by
  unfold Program.liftsFinal
  rw [head_lifts_of h, h]
  simp only [List.head?_cons, cut_carried', Bool.false_and, Bool.false_or, List.contains_nil]
theorem make_of : P.make = some .cut := by
  unfold Program.make
  rw [h]
  simp only [cut_gc, cut_cut', Bool.true_or, if_true]
  rfl
end
theorem io_head : behindMainWord (wordsSigns Try.prog.initOrder.toList) = cutW :: (behindMainWord (wordsSigns ioL)).tail := by rw [io_list]; exact io_words
theorem fact_enter : Try.prog.mayEnter = true := enter_of io_head no_later no_reflect door_fits
theorem fact_final : Try.prog.liftsFinal = false := final_of io_head
theorem fact_make : Try.prog.make = some .cut := make_of io_head
theorem fact_final' : (false == Try.prog.liftsFinal) = true := by rw [fact_final]; rfl
theorem fact_make' : (Try.prog.make == some Make.cut) = true := by rw [fact_make]; kernel_rfl
theorem fact_laid : laidOutB Try.prog = true := by kernel_rfl
theorem fact_maps : mapsRowed Try.prog = true := by kernel_rfl
theorem fact_stops : (Try.prog.stops == []) = true := by kernel_rfl
theorem fact_knobs : (Try.prog.stopKnobs == []) = true := by kernel_rfl
theorem fact_heard : Try.prog.stopsHeard = true := by kernel_rfl
end Go.Proofs.Ytophjmphjdhjoaa

/- What an argument that came in reads as. -/
namespace Go.Proofs.Ytophjmphjdhjoaa
open Go.ChangeShapes Go.WideShapes Go.ChangeAt Go.RowKit Go.Deep

theorem own : ownKnob Try.prog.godebug = none := by kernel_rfl
theorem laidOut : laidOutB Try.prog = true := fact_laid

/-- a row that came in, its cells known by a function of the index -/
theorem rd0_of_cells {α : Type} {f : α → Value} {W : World} {x : Addr} {l : List α} {c : Nat} (hc0 : l.length ≤ c) (hl : l.length ≤ 9223372036854775807) (hc : ∀ i (h : i < l.length), W.cell? (x.add i) = some (f l[i])) : Rd0 f W (some x) l c := by
  refine ⟨hc0, hl, fun hp => ?_⟩
  obtain ⟨b, off, spot⟩ := x
  have h0 := hc 0 hp
  have hspot : spot = none := by simpa [Addr.add] using World.cell?_spot h0
  subst hspot
  refine ⟨b, off, rfl, ?_, fun w' e i hi => ?_⟩
  · have := block_lt_of_cell h0; simpa [Addr.add] using this
  · have h1 := hc i hi
    have hadd : (⟨b, off, none⟩ : Addr).add i = ⟨b, off + i, none⟩ := by unfold Addr.add; split <;> simp_all
    rw [hadd] at h1
    exact (Below.cell e (by simpa using block_lt_of_cell h1)).trans h1

section
variable {H : Type} {enc : TypeId × Value → H} {W : World} {base : Nat} {spare : Nat → Bool} {held : Bool}
theorem in_bytes {T E : TypeId} (hT : Try.prog.underlying T = some (.slice E)) (hE : Try.prog.underlying E = some (.int .u8)) (hC : Try.prog.cellsOf E = 1)
    {n : Nat} {v : Value} {y : DataW H × List MemPlace} (h : DataW.trod enc Try.prog W base spare held n T [v] = some y) :
    ∃ (A : Option Addr) (l : List UInt8) (c : Nat), v = .slice A l.length c ∧ Rd0 vu8 W A l c := by
  rcases open_ints hT hE hC h with ⟨hcs, _⟩ | ⟨x, len, c, zs, hcs, _, hl, hm, hz, _, hcell, hwz⟩
  · obtain rfl : v = .slice none 0 0 := by simpa using hcs
    exact ⟨none, [], 0, rfl, by simp, by simp, fun h => by simp at h⟩
  · obtain rfl : v = .slice (some x) len c := by simpa using hcs
    have hlz : len ≤ zs.length := by rw [hz]; split <;> omega
    refine ⟨some x, (zs.take len).map (fun z => UInt8.ofNat z.toNat), c, by simp; omega, rd0_of_cells (by simp; omega) (by simp [maxLen] at hm ⊢; omega) fun i hi => ?_⟩
    have hi' : i < len := by simp at hi; omega
    rw [hcell i (by omega)]
    have hb := bounds_u8 (hwz zs[i] (List.getElem_mem (by omega)))
    simp [vu8, List.getElem?_eq_getElem (show i < zs.length by omega)]
    omega
/-- a slice of ints that came in -/
def RdI (W : World) (A : Option Addr) (l : List Int) (c : Nat) : Prop := Rd0 vint W A l c ∧ ∀ x ∈ l, (Lit.int .i64 x).wf = true
theorem in_ints {T E : TypeId} (hT : Try.prog.underlying T = some (.slice E)) (hE : Try.prog.underlying E = some (.int .i64)) (hC : Try.prog.cellsOf E = 1)
    {n : Nat} {v : Value} {y : DataW H × List MemPlace} (h : DataW.trod enc Try.prog W base spare held n T [v] = some y) :
    ∃ (A : Option Addr) (l : List Int) (c : Nat), v = .slice A l.length c ∧ RdI W A l c := by
  rcases open_ints hT hE hC h with ⟨hcs, _⟩ | ⟨x, len, c, zs, hcs, _, hl, hm, hz, _, hcell, hwz⟩
  · obtain rfl : v = .slice none 0 0 := by simpa using hcs
    exact ⟨none, [], 0, rfl, ⟨by simp, by simp, fun h => by simp at h⟩, by simp⟩
  · obtain rfl : v = .slice (some x) len c := by simpa using hcs
    have hlz : len ≤ zs.length := by rw [hz]; split <;> omega
    refine ⟨some x, zs.take len, c, by simp; omega, rd0_of_cells (by simp; omega) (by simp [maxLen] at hm ⊢; omega) (fun i hi => ?_), fun z hz => hwz z (List.mem_of_mem_take hz)⟩
    have hi' : i < len := by simp at hi; omega
    rw [hcell i (by omega)]
    simp [vint, List.getElem?_eq_getElem (show i < zs.length by omega)]
theorem open_agg_5 {P : Program} {r : Reach} {b0 : Nat} {t : TypeId} {f0 f1 f2 f3 f4 : Field} {v : Value} {d : DataW H} {p : List MemPlace} (hs : P.underlying t = some (.struct #[f0, f1, f2, f3, f4])) (hone : oneCellFields P #[f0, f1, f2, f3, f4] = true) (hC : P.cellsOf t = 5)
    (hv : Value.okWide P W r b0 t v) (h : DataW.Trod enc P W base spare held t v d p) :
    ∃ (v0 v1 v2 v3 v4 : Value) (y0 y1 y2 y3 y4 : DataW H × List MemPlace) (n : Nat), v = .agg #[v0, v1, v2, v3, v4] ∧ DataW.trod enc P W base spare held n f0.type [v0] = some y0 ∧ DataW.trod enc P W base spare held n f1.type [v1] = some y1 ∧ DataW.trod enc P W base spare held n f2.type [v2] = some y2 ∧ DataW.trod enc P W base spare held n f3.type [v3] = some y3 ∧ DataW.trod enc P W base spare held n f4.type [v4] = some y4 := by
  obtain ⟨cs, rfl, hsz⟩ := okWide_struct hs hv
  obtain ⟨l⟩ := cs
  match l, hsz.trans hC with
  | [c0, c1, c2, c3, c4], _ =>
    obtain ⟨fuel, hf⟩ := h
    obtain ⟨xs, n, _, hx, _, hlen, hg⟩ := DataW.trod_struct hs hf
    obtain ⟨o0, k0⟩ := Go.Deep.hone_of hone 0 f0 rfl
    obtain ⟨o1, k1⟩ := Go.Deep.hone_of hone 1 f1 rfl
    obtain ⟨o2, k2⟩ := Go.Deep.hone_of hone 2 f2 rfl
    obtain ⟨o3, k3⟩ := Go.Deep.hone_of hone 3 f3 rfl
    obtain ⟨o4, k4⟩ := Go.Deep.hone_of hone 4 f4 rfl
    match xs, hlen with
    | [y0, y1, y2, y3, y4], _ =>
      exact ⟨c0, c1, c2, c3, c4, y0, y1, y2, y3, y4, n, rfl, by simpa [Value.cells, o0, k0] using hg 0 f0 rfl, by simpa [Value.cells, o1, k1] using hg 1 f1 rfl, by simpa [Value.cells, o2, k2] using hg 2 f2 rfl, by simpa [Value.cells, o3, k3] using hg 3 f3 rfl, by simpa [Value.cells, o4, k4] using hg 4 f4 rfl⟩
theorem open_agg_2 {P : Program} {r : Reach} {b0 : Nat} {t : TypeId} {f0 f1 : Field} {v : Value} {d : DataW H} {p : List MemPlace} (hs : P.underlying t = some (.struct #[f0, f1])) (hone : oneCellFields P #[f0, f1] = true) (hC : P.cellsOf t = 2)
    (hv : Value.okWide P W r b0 t v) (h : DataW.Trod enc P W base spare held t v d p) :
    ∃ (v0 v1 : Value) (y0 y1 : DataW H × List MemPlace) (n : Nat), v = .agg #[v0, v1] ∧ DataW.trod enc P W base spare held n f0.type [v0] = some y0 ∧ DataW.trod enc P W base spare held n f1.type [v1] = some y1 := by
  obtain ⟨cs, rfl, hsz⟩ := okWide_struct hs hv
  obtain ⟨l⟩ := cs
  match l, hsz.trans hC with
  | [c0, c1], _ =>
    obtain ⟨fuel, hf⟩ := h
    obtain ⟨xs, n, _, hx, _, hlen, hg⟩ := DataW.trod_struct hs hf
    obtain ⟨o0, k0⟩ := Go.Deep.hone_of hone 0 f0 rfl
    obtain ⟨o1, k1⟩ := Go.Deep.hone_of hone 1 f1 rfl
    match xs, hlen with
    | [y0, y1], _ =>
      exact ⟨c0, c1, y0, y1, n, rfl, by simpa [Value.cells, o0, k0] using hg 0 f0 rfl, by simpa [Value.cells, o1, k1] using hg 1 f1 rfl⟩
theorem open_agg_4 {P : Program} {r : Reach} {b0 : Nat} {t : TypeId} {f0 f1 f2 f3 : Field} {v : Value} {d : DataW H} {p : List MemPlace} (hs : P.underlying t = some (.struct #[f0, f1, f2, f3])) (hone : oneCellFields P #[f0, f1, f2, f3] = true) (hC : P.cellsOf t = 4)
    (hv : Value.okWide P W r b0 t v) (h : DataW.Trod enc P W base spare held t v d p) :
    ∃ (v0 v1 v2 v3 : Value) (y0 y1 y2 y3 : DataW H × List MemPlace) (n : Nat), v = .agg #[v0, v1, v2, v3] ∧ DataW.trod enc P W base spare held n f0.type [v0] = some y0 ∧ DataW.trod enc P W base spare held n f1.type [v1] = some y1 ∧ DataW.trod enc P W base spare held n f2.type [v2] = some y2 ∧ DataW.trod enc P W base spare held n f3.type [v3] = some y3 := by
  obtain ⟨cs, rfl, hsz⟩ := okWide_struct hs hv
  obtain ⟨l⟩ := cs
  match l, hsz.trans hC with
  | [c0, c1, c2, c3], _ =>
    obtain ⟨fuel, hf⟩ := h
    obtain ⟨xs, n, _, hx, _, hlen, hg⟩ := DataW.trod_struct hs hf
    obtain ⟨o0, k0⟩ := Go.Deep.hone_of hone 0 f0 rfl
    obtain ⟨o1, k1⟩ := Go.Deep.hone_of hone 1 f1 rfl
    obtain ⟨o2, k2⟩ := Go.Deep.hone_of hone 2 f2 rfl
    obtain ⟨o3, k3⟩ := Go.Deep.hone_of hone 3 f3 rfl
    match xs, hlen with
    | [y0, y1, y2, y3], _ =>
      exact ⟨c0, c1, c2, c3, y0, y1, y2, y3, n, rfl, by simpa [Value.cells, o0, k0] using hg 0 f0 rfl, by simpa [Value.cells, o1, k1] using hg 1 f1 rfl, by simpa [Value.cells, o2, k2] using hg 2 f2 rfl, by simpa [Value.cells, o3, k3] using hg 3 f3 rfl⟩
end
end Go.Proofs.Ytophjmphjdhjoaa

/- Contracts of the laws' small functions over slices of bytes and ints: the copy, the comparison, the marks. -/
namespace Go.Proofs.Ytophjmphjdhjoaa
open Go.RowKit Go.Sort

theorem E_u8 : Elem Try.prog 22 5 1 1 (.int .u8 0) := ⟨Try.underlying22, by kernel_rfl, rfl, by omega⟩
theorem E_int : Elem Try.prog 33 3 1 8 (.int .i64 0) := ⟨Try.underlying33, by kernel_rfl, rfl, by omega⟩

theorem fill_step {α : Type} (f : α → Value) (l : List α) (z : Value) (k : Nat) (hk : k < l.length) :
    ((l.take k).map f ++ List.replicate (l.length - k) z).set k (f l[k]) = (l.take (k+1)).map f ++ List.replicate (l.length - (k+1)) z := by
  rw [List.take_succ_eq_append_getElem hk, List.map_append, List.set_append_right _ _ (by simp; omega)]
  have : l.length - k = (l.length - (k+1)) + 1 := by omega
  rw [this, List.replicate_succ]
  simp [Nat.min_eq_left (Nat.le_of_lt hk)]



/-- the values that a marker lays from k on -/
def mk8 (k : Int) (i : Nat) : Value := .int .u8 (IntKind.u8.wrap (k + i))
def mkI (k : Int) (i : Nat) : Value := .int .i64 (k + i)
theorem mark_step (f : Nat → Value) (xs : List Value) (j n : Nat) (hn : xs.length = n) (hj : j < n) :
    ((List.range j).map f ++ xs.drop j).set j (f j) = (List.range (j+1)).map f ++ xs.drop (j+1) := by
  rw [List.set_append_right _ _ (by simp), List.range_succ, List.map_append, List.append_assoc]
  congr 1
  have e : xs.drop j = xs[j] :: xs.drop (j+1) := List.drop_eq_getElem_cons (by omega)
  rw [e]
  simp only [List.length_map, List.length_range, Nat.sub_self, List.set_cons_zero, List.map_cons, List.map_nil, List.cons_append, List.nil_append]


end Go.Proofs.Ytophjmphjdhjoaa

/- Plain laws of runs of equal bytes: no program in sight. -/
namespace Go.Proofs.Ytophjmphjdhjoaa

def runLen : List UInt8 → Nat
  | [] => 0
  | x :: t => 1 + (t.takeWhile (· == x)).length

/-- how many equal bytes begin at an index -/
def runAt (l : List UInt8) (i : Int) : Nat := if 0 ≤ i ∧ i < l.length then runLen (l.drop i.toNat) else 0

theorem takeWhile_len {t : List UInt8} {x : UInt8} : ∀ (k : Nat), (∀ j, j < k → t[j]? = some x) → (t[k]? ≠ some x) → (t.takeWhile (· == x)).length = k := by
  induction t with
  | nil => intro k h _; cases k with
    | zero => rfl
    | succ k => have := h 0 (by omega); simp at this
  | cons y t ih =>
    intro k h hn
    cases k with
    | zero =>
      have : y ≠ x := by simpa using hn
      simp [this]
    | succ k =>
      have hy : y = x := by simpa using h 0 (by omega)
      subst hy
      rw [List.takeWhile_cons]
      simp
      exact ih k (fun j hj => by simpa using h (j+1) (by omega)) (by simpa using hn)

theorem runLen_drop {l : List UInt8} {a k : Nat} (hk : 1 ≤ k) (h : ∀ j, j < k → l[a+j]? = l[a]?) (ha : a < l.length) (hn : l[a+k]? ≠ l[a]?) : runLen (l.drop a) = k := by
  rw [List.drop_eq_getElem_cons ha]
  have hx : l[a]? = some l[a] := by simp [ha]
  rw [hx] at h hn
  have := takeWhile_len (t := l.drop (a+1)) (x := l[a]) (k-1) (fun j hj => by rw [List.getElem?_drop]; have := h (j+1) (by omega); rwa [show a + (j+1) = a + 1 + j by omega] at this) (by rw [List.getElem?_drop]; rwa [show a + 1 + (k-1) = a + k by omega])
  simp only [runLen, this]; omega
theorem runAt_eq {l : List UInt8} {a k : Nat} (hk : 1 ≤ k) (h : ∀ j, j < k → l[a+j]? = l[a]?) (ha : a < l.length) (hn : l[a+k]? ≠ l[a]?) : runAt l a = k := by
  unfold runAt; rw [if_pos (by omega)]; simpa using runLen_drop hk h ha hn
theorem runAt_out {l : List UInt8} {i : Int} (h : ¬ (0 ≤ i ∧ i < l.length)) : runAt l i = 0 := by
  unfold runAt; rw [if_neg h]
theorem takeWhile_spec (t : List UInt8) (x : UInt8) : (t.takeWhile (· == x)).length ≤ t.length ∧ (∀ j, j < (t.takeWhile (· == x)).length → t[j]? = some x) ∧ t[(t.takeWhile (· == x)).length]? ≠ some x := by
  induction t with
  | nil => simp
  | cons y t ih =>
    by_cases hy : y = x
    · subst hy
      rw [List.takeWhile_cons]
      simp only [BEq.rfl, if_true, List.length_cons]
      refine ⟨by omega, fun j hj => ?_, by simp; exact ih.2.2⟩
      cases j with
      | zero => rfl
      | succ j => simpa using ih.2.1 j (by omega)
    · rw [List.takeWhile_cons]
      simp [hy]
/-- what a run is, at an index within the list -/
theorem runAt_spec (l : List UInt8) (a : Nat) (ha : a < l.length) : 1 ≤ runAt l a ∧ a + runAt l a ≤ l.length ∧ (∀ j, j < runAt l a → l[a+j]? = l[a]?) ∧ l[a + runAt l a]? ≠ l[a]? := by
  unfold runAt
  rw [if_pos (by omega), Int.toNat_natCast, List.drop_eq_getElem_cons ha]
  have hx : l[a]? = some l[a] := by simp [ha]
  obtain ⟨h1, h2, h3⟩ := takeWhile_spec (l.drop (a+1)) l[a]
  simp only [runLen]
  rw [hx]
  generalize (List.takeWhile (fun x => x == l[a]) (List.drop (a + 1) l)).length = m at *
  rw [List.length_drop] at h1
  refine ⟨by omega, by omega, fun j hj => ?_, ?_⟩
  · cases j with
    | zero => exact hx
    | succ j => have := h2 j (by omega); rw [List.getElem?_drop] at this; rwa [show a + (j+1) = a + 1 + j by omega]
  · rw [List.getElem?_drop] at h3; rwa [show a + (1 + m) = a + 1 + m by omega]

/-- the number of maximal runs from an index on -/
def countFrom (l : List UInt8) : Nat → Nat → Nat
  | 0, _ => 0
  | f + 1, a => if a < l.length then 1 + countFrom l f (a + runAt l a) else 0
def countRuns (l : List UInt8) : Nat := countFrom l l.length 0
theorem countFrom_fuel (l : List UInt8) : ∀ f g a, l.length - a ≤ f → l.length - a ≤ g → countFrom l f a = countFrom l g a := by
  intro f
  induction f with
  | zero =>
    intro g a h _
    cases g with
    | zero => rfl
    | succ g => rw [countFrom, countFrom, if_neg (by omega)]
  | succ f ih =>
    intro g a h1 h2
    cases g with
    | zero => rw [countFrom, countFrom, if_neg (by omega)]
    | succ g =>
      rw [countFrom, countFrom]
      by_cases ha : a < l.length
      · have := (runAt_spec l a ha).1
        rw [if_pos ha, if_pos ha, ih g _ (by omega) (by omega)]
      · rw [if_neg ha, if_neg ha]
theorem countFrom_step (l : List UInt8) (a : Nat) (ha : a < l.length) : countFrom l l.length a = 1 + countFrom l l.length (a + runAt l a) := by
  have := (runAt_spec l a ha).1
  rw [countFrom_fuel l l.length (l.length + 1) a (by omega) (by omega), countFrom, if_pos ha]
theorem countFrom_end (l : List UInt8) (a : Nat) (ha : l.length ≤ a) : countFrom l l.length a = 0 := by
  rw [countFrom_fuel l l.length 0 a (by omega) (by omega), countFrom]
theorem countFrom_le (l : List UInt8) : ∀ f a, countFrom l f a ≤ f := by
  intro f
  induction f with
  | zero => intro a; simp [countFrom]
  | succ f ih => intro a; rw [countFrom]; split; have := ih (a + runAt l a); omega; omega
theorem runAt_le (l : List UInt8) (i : Int) : runAt l i ≤ l.length := by
  unfold runAt
  split
  · rename_i h
    have := (runAt_spec l i.toNat (by omega)).2.1
    unfold runAt at this; rw [if_pos (by omega), Int.toNat_natCast] at this; omega
  · omega
end Go.Proofs.Ytophjmphjdhjoaa

/- RunAt and CountRuns of the program and of the reference. -/
namespace Go.Proofs.Ytophjmphjdhjoaa
open Go.RowKit Go.Sort

set_option maxHeartbeats 400000 in
theorem l1In_c (n a b : Int) (w : World) : Gives Try.prog 34 #[.int .i64 n, .int .i64 a, .int .i64 b] w (.bool (decide (a ≤ n) && decide (n ≤ b))) := by
  by_cases h : a ≤ n
  · go_enter Try.func34, Try.ntmps34
    go_wp2
    go_ret
    exact ⟨ret_bool (by simp [h]), Ext.refl _⟩
  · go_enter Try.func34, Try.ntmps34
    go_wp2
    go_ret
    exact ⟨ret_bool (by simp; omega), Ext.refl _⟩

theorem runs_step {l : List UInt8} {a k : Nat} (hlt : a + k < l.length) (ha : a < l.length) (hs : ∀ j, j < k → l[a+j]? = l[a]?) (e : l[a+k] = l[a]) : ∀ j, j < k + 1 → l[a+j]? = l[a]? := by
  intro j hj
  by_cases h : j < k
  · exact hs j h
  · obtain rfl : j = k := by omega
    rw [List.getElem?_eq_getElem hlt, List.getElem?_eq_getElem ha, e]

end Go.Proofs.Ytophjmphjdhjoaa

/- SumOfBytes, BigEndian, ReadInteger. -/
namespace Go.Proofs.Ytophjmphjdhjoaa
open Go.RowKit Go.Sort

/-- the sum of bytes -/
def sumB : List UInt8 → Nat
  | [] => 0
  | x :: t => x.toNat + sumB t
theorem sumB_append (a b : List UInt8) : sumB (a ++ b) = sumB a + sumB b := by
  induction a with
  | nil => simp [sumB]
  | cons x t ih => simp [sumB, ih]; omega
theorem sumB_take {l : List UInt8} {k : Nat} (h : k < l.length) : sumB (l.take (k+1)) = sumB (l.take k) + l[k].toNat := by
  rw [List.take_succ_eq_append_getElem h, sumB_append]; simp [sumB]
theorem sumB_le (l : List UInt8) : sumB l ≤ 255 * l.length := by
  induction l with
  | nil => simp [sumB]
  | cons x t ih => have := x.toNat_lt; simp only [sumB, List.length_cons]; omega

end Go.Proofs.Ytophjmphjdhjoaa

/- Plain laws of packing: no program in sight. -/
namespace Go.Proofs.Ytophjmphjdhjoaa

/-- where the bytes that are laid as they are end -/
def litF (l : List UInt8) (a : Nat) : Nat → Nat → Nat
  | 0, k => k
  | f + 1, k => if k < l.length ∧ k - a < 127 ∧ runAt l k < 3 then litF l a f (k + 1) else k
def litEnd (l : List UInt8) (a k : Nat) : Nat := litF l a (l.length - k) k
theorem litEnd_step {l : List UInt8} {a k : Nat} (h : k < l.length ∧ k - a < 127 ∧ runAt l k < 3) : litEnd l a k = litEnd l a (k + 1) := by
  unfold litEnd
  obtain ⟨n, hn⟩ : ∃ n, l.length - k = n + 1 := ⟨l.length - k - 1, by omega⟩
  rw [hn, litF, if_pos h, show l.length - (k + 1) = n by omega]
theorem litEnd_stop {l : List UInt8} {a k : Nat} (h : ¬ (k < l.length ∧ k - a < 127 ∧ runAt l k < 3)) : litEnd l a k = k := by
  unfold litEnd
  cases l.length - k with
  | zero => rfl
  | succ n => rw [litF, if_neg h]
theorem litF_ge (l : List UInt8) (a : Nat) : ∀ f k, k ≤ litF l a f k := by
  intro f
  induction f with
  | zero => intro k; exact Nat.le_refl _
  | succ f ih => intro k; rw [litF]; split; exact Nat.le_trans (Nat.le_succ k) (ih (k+1)); exact Nat.le_refl _
theorem litF_le (l : List UInt8) (a : Nat) : ∀ f k, k ≤ l.length → k - a ≤ 127 → litF l a f k ≤ l.length ∧ litF l a f k - a ≤ 127 := by
  intro f
  induction f with
  | zero => intro k h1 h2; exact ⟨h1, h2⟩
  | succ f ih => intro k h1 h2; rw [litF]; split; exact ih (k+1) (by omega) (by omega); exact ⟨h1, h2⟩
theorem litEnd_ge (l : List UInt8) (a k : Nat) : k ≤ litEnd l a k := litF_ge l a _ k
theorem litEnd_le {l : List UInt8} {a k : Nat} (h1 : k ≤ l.length) (h2 : k - a ≤ 127) : litEnd l a k ≤ l.length ∧ litEnd l a k - a ≤ 127 := litF_le l a _ k h1 h2
theorem litEnd_gt {l : List UInt8} {a : Nat} (h : a < l.length) (hr : runAt l a < 3) : litEnd l a a = litEnd l a (a + 1) := litEnd_step ⟨h, by omega, hr⟩

/-- what stands for the bytes from an index on -/
def packF (l : List UInt8) : Nat → Nat → List UInt8
  | 0, _ => []
  | f + 1, a =>
    if h : a < l.length then
      if 3 ≤ runAt l a then UInt8.ofNat (128 + min (runAt l a) 127) :: l[a] :: packF l f (a + min (runAt l a) 127)
      else UInt8.ofNat (litEnd l a a - a) :: ((l.drop a).take (litEnd l a a - a) ++ packF l f (litEnd l a a))
    else []
theorem packF_fuel (l : List UInt8) : ∀ f g a, l.length - a ≤ f → l.length - a ≤ g → packF l f a = packF l g a := by
  intro f
  induction f with
  | zero =>
    intro g a h _
    cases g with
    | zero => rfl
    | succ g => rw [packF, packF, dif_neg (by omega)]
  | succ f ih =>
    intro g a h1 h2
    cases g with
    | zero => rw [packF, packF, dif_neg (by omega)]
    | succ g =>
      rw [packF, packF]
      by_cases ha : a < l.length
      · rw [dif_pos ha, dif_pos ha]
        by_cases hr : 3 ≤ runAt l a
        · rw [if_pos hr, if_pos hr, ih g _ (by omega) (by omega)]
        · have := litEnd_ge l a (a+1)
          rw [if_neg hr, if_neg hr, litEnd_gt ha (by omega), ih g _ (by omega) (by omega)]
      · rw [dif_neg ha, dif_neg ha]
def packAt (l : List UInt8) (a : Nat) : List UInt8 := packF l l.length a
def pack (l : List UInt8) : List UInt8 := packAt l 0
theorem packAt_end {l : List UInt8} {a : Nat} (h : l.length ≤ a) : packAt l a = [] := by
  unfold packAt; rw [packF_fuel l l.length 0 a (by omega) (by omega), packF]
theorem packAt_run {l : List UInt8} {a : Nat} (h : a < l.length) (hr : 3 ≤ runAt l a) : packAt l a = UInt8.ofNat (128 + min (runAt l a) 127) :: l[a] :: packAt l (a + min (runAt l a) 127) := by
  unfold packAt; rw [packF_fuel l l.length (l.length + 1) a (by omega) (by omega), packF, dif_pos h, if_pos hr]
theorem packAt_lit {l : List UInt8} {a : Nat} (h : a < l.length) (hr : ¬ 3 ≤ runAt l a) : packAt l a = UInt8.ofNat (litEnd l a a - a) :: ((l.drop a).take (litEnd l a a - a) ++ packAt l (litEnd l a a)) := by
  unfold packAt; rw [packF_fuel l l.length (l.length + 1) a (by omega) (by omega), packF, dif_pos h, if_neg hr]
/-- three equal bytes begin at an index -/
theorem run3 {l : List UInt8} {a : Nat} : (3 ≤ runAt l a) ↔ (a + 2 < l.length ∧ l[a]? = l[a+1]? ∧ l[a]? = l[a+2]?) := by
  by_cases ha : a < l.length
  · obtain ⟨h1, h2, h3, h4⟩ := runAt_spec l a ha
    constructor
    · intro h
      exact ⟨by omega, (h3 1 (by omega)).symm, (h3 2 (by omega)).symm⟩
    · rintro ⟨g1, g2, g3⟩
      rcases Nat.lt_or_ge (runAt l a) 3 with hlt | hge
      · rcases (by omega : runAt l a = 1 ∨ runAt l a = 2) with e | e
        · rw [e] at h4; exact absurd g2.symm h4
        · rw [e] at h4; exact absurd g3.symm h4
      · exact hge
  · rw [runAt_out (by omega)]; omega
theorem packF_le (l : List UInt8) : ∀ f a, a ≤ l.length → (packF l f a).length ≤ 2 * (l.length - a) := by
  intro f
  induction f with
  | zero => intro a _; simp [packF]
  | succ f ih =>
    intro a ha
    rw [packF]
    split
    · rename_i h
      split
      · rename_i hr
        have h2 := (runAt_spec l a h).2.1
        have := ih (a + min (runAt l a) 127) (by omega)
        simp only [List.length_cons]; omega
      · rename_i hr
        have h1 := litEnd_ge l a (a+1)
        rw [litEnd_gt h (by omega)]
        have h2 := (litEnd_le (l := l) (a := a) (k := a+1) (by omega) (by omega)).1
        have := ih (litEnd l a (a+1)) (by omega)
        simp only [List.length_cons, List.length_append, List.length_take, List.length_drop]; omega
    · simp
theorem packAt_le (l : List UInt8) (a : Nat) (h : a ≤ l.length) : (packAt l a).length ≤ 2 * (l.length - a) := packF_le l _ a h
theorem pack_le (l : List UInt8) : (pack l).length ≤ 2 * l.length := packAt_le l 0 (by omega)
end Go.Proofs.Ytophjmphjdhjoaa

/- Plain laws of unpacking: no program in sight. -/
namespace Go.Proofs.Ytophjmphjdhjoaa

def unpackF : Nat → List UInt8 → List UInt8 → Option (List UInt8)
  | _, [], out => some out
  | 0, _ :: _, _ => none
  | f + 1, x :: t, out =>
    if x = 0 ∨ x = 128 ∨ t = [] then none
    else if x < 128 then
      if t.length < x.toNat then none
      else if 1000 < (out ++ t.take x.toNat).length then none
      else unpackF f (t.drop x.toNat) (out ++ t.take x.toNat)
    else
      if 1000 < (out ++ List.replicate (x.toNat - 128) (t.headD 0)).length then none
      else unpackF f t.tail (out ++ List.replicate (x.toNat - 128) (t.headD 0))
/-- what bytes are unpacked to, if they can be -/
def unpack (l : List UInt8) : Option (List UInt8) := unpackF l.length l []
theorem unpackF_fuel : ∀ f g b out, b.length ≤ f → b.length ≤ g → unpackF f b out = unpackF g b out := by
  intro f
  induction f with
  | zero =>
    intro g b out h _
    obtain rfl : b = [] := List.eq_nil_of_length_eq_zero (by omega)
    cases g <;> rfl
  | succ f ih =>
    intro g b out h1 h2
    cases b with
    | nil => cases g <;> rfl
    | cons x t =>
      cases g with
      | zero => simp at h2
      | succ g =>
        simp only [List.length_cons] at h1 h2
        simp only [unpackF]
        rw [ih g (t.drop x.toNat) _ (by rw [List.length_drop]; omega) (by rw [List.length_drop]; omega), ih g t.tail _ (by rw [List.length_tail]; omega) (by rw [List.length_tail]; omega)]
/-- what is left to do at an index -/
def unpackAt (l : List UInt8) (a : Nat) (out : List UInt8) : Option (List UInt8) := unpackF l.length (l.drop a) out
theorem unpackAt_end (l : List UInt8) (a : Nat) (out : List UInt8) (h : l.length ≤ a) : unpackAt l a out = some out := by
  unfold unpackAt; rw [List.drop_of_length_le h]; cases l.length <;> rfl
theorem unpackAt_step (l : List UInt8) (a : Nat) (out : List UInt8) (h : a < l.length) : unpackAt l a out =
    if l[a] = 0 ∨ l[a] = 128 ∨ l.length = a + 1 then none
    else if l[a] < 128 then
      if l.length < a + 1 + l[a].toNat then none
      else if 1000 < out.length + l[a].toNat then none
      else unpackAt l (a + 1 + l[a].toNat) (out ++ (l.drop (a+1)).take l[a].toNat)
    else
      if 1000 < out.length + (l[a].toNat - 128) then none
      else unpackAt l (a + 2) (out ++ List.replicate (l[a].toNat - 128) ((l.drop (a+1)).headD 0)) := by
  unfold unpackAt
  obtain ⟨n, hn⟩ : ∃ n, l.length = n + 1 := ⟨l.length - 1, by omega⟩
  have e0 : l.drop a = l[a] :: l.drop (a+1) := List.drop_eq_getElem_cons h
  have e1 : ((l.drop (a+1) = []) ↔ l.length = a + 1) := by rw [List.drop_eq_nil_iff]; omega
  have hl1 : (l.drop (a+1)).length = l.length - (a+1) := List.length_drop
  rw [e0]
  conv => lhs; rw [hn]
  simp only [unpackF, e1, List.drop_drop, List.tail_drop, List.length_append, List.length_replicate, List.length_take, hl1]
  by_cases c1 : l[a] = 0 ∨ l[a] = 128 ∨ l.length = a + 1
  · rw [if_pos c1, if_pos c1]
  · rw [if_neg c1, if_neg c1]
    by_cases c2 : l[a] < 128
    · rw [if_pos c2, if_pos c2]
      by_cases c3 : l.length < a + 1 + l[a].toNat
      · rw [if_pos (by omega), if_pos c3]
      · rw [if_neg (by omega), if_neg c3, Nat.min_eq_left (by omega)]
        by_cases c4 : 1000 < out.length + l[a].toNat
        · rw [if_pos c4, if_pos c4]
        · rw [if_neg c4, if_neg c4]
          exact unpackF_fuel _ _ _ _ (by rw [List.length_drop]; omega) (by rw [List.length_drop]; omega)
    · rw [if_neg c2, if_neg c2]
      by_cases c4 : 1000 < out.length + (l[a].toNat - 128)
      · rw [if_pos c4, if_pos c4]
      · rw [if_neg c4, if_neg c4]
        exact unpackF_fuel _ _ _ _ (by rw [List.length_drop]; omega) (by rw [List.length_drop]; omega)
end Go.Proofs.Ytophjmphjdhjoaa

/- Contracts of small functions over byte slices. -/
namespace Go.Proofs.Ytophjmphjdhjoaa
open Go.RowKit Go.Sort



set_option maxHeartbeats 400000 in
theorem sEqualBytes_c (A A' : Option Addr) (l l' : List UInt8) (c c' : Nat) (w : World) (h : Bs w A l c) (h' : Bs w A' l' c') :
    Gives Try.prog 47 #[.slice A l.length c, .slice A' l'.length c'] w (.bool (l == l')) := by
  have hl := h.len; have hl' := h'.len
  by_cases hn : l.length = l'.length
  · have hb1 : ((l.length : Int) != (l'.length : Int)) = false := by simp [hn]
    have H := Lib.hid hn; clear hn
    go_enter Try.func47, Try.ntmps47
    go_wp2
    go_loopw [5, 4] (fun i v wr => ∃ k : Nat, k ≤ l.length ∧ i = .int .i64 k ∧ Hid (l.take k = l'.take k) ∧ Ext w wr) (fun i _ _ => l.length - (intOf i).toNat)
    case atStart => exact ⟨0, by omega, rfl, by simp [Hid], Ext.refl _⟩
    case round =>
      obtain ⟨k, hk, rfl, ht, he⟩ := hrel
      by_cases hlt : k < l.length
      · have hlt' : k < l'.length := by have := H.out; omega
        obtain ⟨b, off, rfl, hb, hc⟩ := h.at k hlt
        obtain ⟨b', off', rfl, hb', hc'⟩ := h'.at k hlt'
        clear h h'
        go_wp2
        refine wp_region_quiet_below (by kernel_rfl) (by kernel_rfl) ?_
        repeat (go_big_quiet_step (fail))
        refine wpQuiet_nil ?_
        rintro _ ⟨⟨nq, osq⟩, rfl⟩
        go_wp2
        · have hne : ((l[k].toNat : Int) != (l'[k].toNat : Int)) = true := by assumption
          go_ret
          refine ⟨ret_bool ?_, Ext_regrown _ _ he⟩
          symm; rw [beq_eq_false_iff_ne]; rintro rfl; simp at hne
        · have hne : ((l[k].toNat : Int) != (l'[k].toNat : Int)) = false := by assumption
          go_roundw
          case rel => exact ⟨k+1, by omega, by go_num, take_eq_succ hlt hlt' ht (u8_inj (by simpa using hne)), Ext_regrown _ _ he⟩
          case measure => simp [intOf]; omega
      · go_wp2
        go_ret
        refine ⟨ret_bool ?_, he⟩
        have ht := ht.out; have H := H.out
        rw [List.take_of_length_le (by omega), List.take_of_length_le (by omega)] at ht
        simp [ht]
  · have hb1 : ((l.length : Int) != (l'.length : Int)) = true := by simp; omega
    go_enter Try.func47, Try.ntmps47
    go_wp2
    go_ret
    refine ⟨ret_bool ?_, Ext.refl _⟩
    symm; rw [beq_eq_false_iff_ne]; rintro rfl; exact hn rfl
end Go.Proofs.Ytophjmphjdhjoaa

/- bytes.Equal and EqualBytes of the program. -/
namespace Go.Proofs.Ytophjmphjdhjoaa
open Go.RowKit Go.Sort

/-- the string of bytes -/
def strOf (l : List UInt8) : ByteArray := ⟨l.toArray⟩
theorem strOf_inj {l l' : List UInt8} : strOf l = strOf l' ↔ l = l' := by
  constructor
  · intro h; have := congrArg (fun b => b.data.toList) h; simpa [strOf] using this
  · rintro rfl; rfl
theorem strOf_nums (l : List UInt8) : strOfNums (l.map fun x => (x.toNat : Int)) = strOf l := by
  unfold strOfNums strOf
  congr 1
  rw [List.map_map]
  congr 1
  conv => rhs; rw [← List.map_id l]
  apply List.map_congr_left
  intro x _
  simp
theorem conv_bytes {w w' : World} {A : Option Addr} {l : List UInt8} {c : Nat} (h : Bs w A l c) (he : Ext w w') :
    (convert 22 9 (.slice A l.length c)).run Try.prog w' = .ok (.string (strOf l)) w' := by
  rcases Nat.eq_zero_or_pos l.length with h0 | h0
  · obtain rfl : l = [] := List.eq_nil_of_length_eq_zero h0
    rw [List.length_nil, run_convert_bytes_string w' 22 9 5 _ 0 c Try.underlying22 Try.underlying5 Try.underlying9]
    cases A <;> simp [Conv.bytesToString, loadCells]
    all_goals rfl
  · obtain ⟨b, off, rfl, hb, hc⟩ := h.base h0
    rw [← strOf_nums]
    refine run_convert_bytes_arg w' 22 5 Try.underlying22 Try.underlying5 b off l.length c (l.map fun x => (x.toNat : Int)) (by simp) (fun i hi => ?_) 9 Try.underlying9
    rw [hc w' he i hi]
    simp [vu8, hi]
end Go.Proofs.Ytophjmphjdhjoaa

/- Logs by value: the laws' helpers and EqualLogs. -/
namespace Go.Proofs.Ytophjmphjdhjoaa
open Go.RowKit Go.Sort

/-- what is left of a size, or -1 -/
def szN (n : Nat) (left : Int) : Int := if left - n < 0 then -1 else left - n

theorem szN_lo (n : Nat) (left : Int) (h : left ≤ 1048576) (h0 : 0 ≤ left) : -1 ≤ szN n left ∧ szN n left ≤ 1048576 := by unfold szN; split <;> omega
def vlog (v : Value) (s : Int) : Value := .agg #[v, .int .i64 s]
end Go.Proofs.Ytophjmphjdhjoaa

/- Records by value: the laws' helpers and EqualRecords. -/
namespace Go.Proofs.Ytophjmphjdhjoaa
open Go.RowKit Go.Sort

def vrec (k : Int) (nm : ByteArray) (ver : Int) (v : Value) : Value := .agg #[.int .i64 k, .string nm, .int .i64 ver, v]
/-- what is left of the size of a record -/
def szR (n m : Nat) (left : Int) : Int := if szN n left < 0 then -1 else szN m (szN n left)
end Go.Proofs.Ytophjmphjdhjoaa

/- Min, Max, InRange. -/
namespace Go.Proofs.Ytophjmphjdhjoaa
open Go.RowKit Go.Sort


set_option maxHeartbeats 400000 in
theorem iInRange_c (n a b : Int) (w : World) : Gives Try.prog 44 #[.int .i64 n, .int .i64 a, .int .i64 b] w (.bool (decide (a ≤ n) && decide (n ≤ b))) := by
  by_cases h : a ≤ n
  · go_enter Try.func44, Try.ntmps44
    go_wp2
    go_ret
    exact ⟨ret_bool (by simp [h]), Ext.refl _⟩
  · go_enter Try.func44, Try.ntmps44
    go_wp2
    go_ret
    exact ⟨ret_bool (by simp; omega), Ext.refl _⟩



end Go.Proofs.Ytophjmphjdhjoaa

/- IsName of the program and of the reference. -/
namespace Go.Proofs.Ytophjmphjdhjoaa
open Go.RowKit Go.Sort

/-- may this byte stand at this place of a name -/
def nameCh (i : Nat) (x : UInt8) : Bool := decide (97 ≤ x.toNat ∧ x.toNat ≤ 122) || (decide (48 ≤ x.toNat ∧ x.toNat ≤ 57) && decide (i ≠ 0))
def okCh (s : ByteArray) (i : Nat) : Bool := if h : i < s.size then nameCh i s[i] else true
def isName (s : ByteArray) : Bool := decide (1 ≤ s.size ∧ s.size ≤ 12) && (List.range s.size).all (okCh s)
theorem isName_no {s : ByteArray} {k : Nat} (hk : k < s.size) (h : okCh s k = false) : isName s = false := by
  unfold isName
  rw [Bool.and_eq_false_iff]; right
  rw [Bool.eq_false_iff]
  intro hall
  have := List.all_eq_true.1 hall k (by simpa using hk)
  rw [h] at this; cases this
theorem isName_all {s : ByteArray} (h : ∀ j, j < s.size → okCh s j = true) : isName s = decide (1 ≤ s.size ∧ s.size ≤ 12) := by
  unfold isName
  rw [List.all_eq_true.2 (fun j hj => h j (by simpa using hj)), Bool.and_true]
theorem okCh_at {s : ByteArray} {k : Nat} (hk : k < s.size) : okCh s k = nameCh k s[k] := dif_pos hk

set_option maxRecDepth 100000 in
set_option maxHeartbeats 2000000 in
theorem sIsName_c (s : ByteArray) (w : World) (hs : s.size ≤ 9223372036854775807) : Gives Try.prog 50 #[.string s] w (.bool (isName s)) := by
  go_enter Try.func50, Try.ntmps50
  go_wp2
  go_loopw [3] (fun i wr => ∃ k : Nat, k ≤ s.size ∧ i = .int .i64 k ∧ Hid (∀ j, j < k → okCh s j = true) ∧ Ext w wr) (fun i _ => s.size - (intOf i).toNat)
  case atStart => exact ⟨0, by omega, rfl, (fun j hj => by omega), Ext.refl _⟩
  case round =>
    obtain ⟨k, hk, rfl, ho, he⟩ := hrel
    by_cases hlt : k < s.size
    · have hb : (s[k].toNat : Int) ≤ 255 := by have := s[k].toNat_lt; omega
      have hok := Lib.hid (okCh_at hlt)
      rcases (by omega : (s[k].toNat : Int) < 48 ∨ ((48 : Int) ≤ s[k].toNat ∧ (s[k].toNat : Int) ≤ 57 ∧ k = 0) ∨ ((48 : Int) ≤ s[k].toNat ∧ (s[k].toNat : Int) ≤ 57 ∧ 0 < k) ∨ ((57 : Int) < s[k].toNat ∧ (s[k].toNat : Int) < 97) ∨ ((97 : Int) ≤ s[k].toNat ∧ (s[k].toNat : Int) ≤ 122) ∨ (122 : Int) < s[k].toNat) with c | ⟨c, c', rfl⟩ | ⟨c, c', c''⟩ | ⟨c, c'⟩ | ⟨c, c'⟩ | c
      all_goals
        go_wp2
        all_goals first
          | (exfalso
             have hq : (!decide ((s[k].toNat : Int) ≤ 122)) = false := by assumption
             simp at hq
             omega)
          | (go_ret
             refine ⟨ret_bool ?_, he⟩
             rw [isName_no hlt]
             rw [hok.out]; unfold nameCh; simp; omega)
          | (go_roundw
             case rel => exact ⟨k+1, by omega, by go_num, (fun j hj => by
               rcases (by omega : j < k ∨ j = k) with hj | rfl
               · exact ho.out j hj
               · rw [hok.out]; unfold nameCh; simp; omega), he⟩
             case measure => simp [intOf]; omega)
    · obtain rfl : k = s.size := by omega
      have HE := Lib.hid (isName_all ho.out)
      go_wp2_with (go_at_call 34; refine (l1In_c _ _ _ _).mono ?_; rintro _ w1 ⟨rfl, he1⟩)
      go_ret
      refine ⟨ret_bool ?_, he.trans he1⟩
      rw [HE.out, Bool.eq_iff_iff]; simp; omega

set_option maxRecDepth 100000 in
set_option maxHeartbeats 2000000 in
theorem iIsName_c (s : ByteArray) (w : World) (hs : s.size ≤ 9223372036854775807) : Gives Try.prog 58 #[.string s] w (.bool (isName s)) := by
  by_cases hlen : 1 ≤ s.size ∧ s.size ≤ 12
  · obtain ⟨hlo, hhi⟩ := hlen
    have d1 : decide ((s.size : Int) < 1) = false := by simp; omega
    have d2 : decide ((12 : Int) < (s.size : Int)) = false := by simp; omega
    go_enter Try.func58, Try.ntmps58
    go_wp2
    go_loopw [3, 4, 5, 6] (fun _ _ _ _ wr => ∃ k : Nat, k ≤ s.size ∧ Hid (∀ j, j < k → okCh s j = true) ∧ wr = w.iter s k) (fun _ _ _ _ wr => s.size - wr.iterPos w.heap.size)
    case atStart => exact ⟨0, by omega, (fun j hj => by omega), rfl⟩
    case round =>
      obtain ⟨k, hk, ho, rfl⟩ := hrel
      by_cases hlt : k < s.size
      · have hok := Lib.hid (okCh_at hlt)
        by_cases ha : s[k].toNat < 128
        · have hnx : ∀ ty, (Instr.next (.pointer (some ⟨w.heap.size, 0, none⟩)) true ty).run Try.prog (w.iter s k) = _ := fun ty => run_next_ascii w s k ty hlt ha
          rcases (by omega : (s[k].toNat : Int) < 48 ∨ ((48 : Int) ≤ s[k].toNat ∧ (s[k].toNat : Int) ≤ 57 ∧ k = 0) ∨ ((48 : Int) ≤ s[k].toNat ∧ (s[k].toNat : Int) ≤ 57 ∧ 0 < k) ∨ ((57 : Int) < s[k].toNat ∧ (s[k].toNat : Int) < 97) ∨ ((97 : Int) ≤ s[k].toNat ∧ (s[k].toNat : Int) ≤ 122) ∨ (122 : Int) < s[k].toNat) with c | ⟨c, c', rfl⟩ | ⟨c, c', c''⟩ | ⟨c, c'⟩ | ⟨c, c'⟩ | c
          all_goals
            go_wp2
            all_goals first
              | (exfalso
                 have hq : (!decide ((s[k].toNat : Int) ≤ 122)) = false := by assumption
                 simp at hq
                 omega)
              | (go_ret
                 refine ⟨ret_bool ?_, Ext_alloc _ (Ext.refl w)⟩
                 rw [isName_no hlt]
                 rw [hok.out]; unfold nameCh; simp; omega)
              | (go_roundw
                 case rel => exact ⟨k+1, by omega, (fun j hj => by
                   rcases (by omega : j < k ∨ j = k) with hj | rfl
                   · exact ho.out j hj
                   · rw [hok.out]; unfold nameCh; simp; omega), rfl⟩
                 case measure => simp; omega)
        · obtain ⟨hr1, hr2⟩ := decode_high s k hlt (by omega)
          have hr3 := decode_le s k
          have hnx : ∀ ty, (Instr.next (.pointer (some ⟨w.heap.size, 0, none⟩)) true ty).run Try.prog (w.iter s k) = _ := fun ty => run_next_any w s k ty hlt
          generalize (Utf8.decode s k).1 = rn at *
          generalize (Utf8.decode s k).2 = wd at *
          have d1 : decide ((rn : Int) ≤ 122) = false := by simp; omega
          have d2 : decide ((rn : Int) ≤ 57) = false := by simp; omega
          have hr1 : (128 : Int) ≤ (rn : Int) := by omega
          go_wp2
          go_ret
          refine ⟨ret_bool ?_, Ext_alloc _ (Ext.refl w)⟩
          rw [isName_no hlt]
          rw [hok.out]; unfold nameCh; simp; omega
      · obtain rfl : k = s.size := by omega
        have HE := Lib.hid (isName_all ho.out)
        have hnx : ∀ ty, (Instr.next (.pointer (some ⟨w.heap.size, 0, none⟩)) true ty).run Try.prog (w.iter s s.size) = _ := fun ty => run_next_end w s s.size ty hlt
        go_wp2
        go_ret
        refine ⟨ret_bool ?_, Ext_alloc _ (Ext.refl w)⟩
        rw [HE.out]; simp; omega
  · have hno : Hid (isName s = false) := by show _ = _; unfold isName; rw [decide_eq_false hlen]; rfl
    rcases (by omega : (s.size : Int) < 1 ∨ ((1 : Int) ≤ s.size ∧ (12 : Int) < s.size)) with c | ⟨c, c'⟩
    all_goals
      go_enter Try.func58, Try.ntmps58
      go_wp2
      go_ret
      exact ⟨ret_bool hno.out.symm, Ext.refl w⟩
end Go.Proofs.Ytophjmphjdhjoaa

/- IsValidRecord of the program and of the reference. -/
namespace Go.Proofs.Ytophjmphjdhjoaa
open Go.RowKit Go.Sort

def validRec (k : Int) (nm : ByteArray) (ver : Int) (n : Nat) : Bool :=
  isName nm && (decide (0 ≤ ver) && decide (ver ≤ 7)) && decide (n ≤ 400) && (k == 1 || (k == 2 && ver == 0 && (n : Int) == 0))

end Go.Proofs.Ytophjmphjdhjoaa

/- Plain laws of the encoding of records: no program in sight. -/
namespace Go.Proofs.Ytophjmphjdhjoaa

/-- the two bytes of a number, the greater first -/
def be2 (n : Nat) : List UInt8 := [UInt8.ofNat (n / 256), UInt8.ofNat n]
/-- the encoding ahead of its last byte -/
def encBody (k : Int) (nm : ByteArray) (ver : Int) (l : List UInt8) : List UInt8 :=
  [UInt8.ofNat k.toNat, UInt8.ofNat nm.size] ++ nm.data.toList ++ [UInt8.ofNat ver.toNat] ++ be2 (pack l).length ++ pack l
def encRec (k : Int) (nm : ByteArray) (ver : Int) (l : List UInt8) : List UInt8 :=
  if validRec k nm ver l.length then encBody k nm ver l ++ [UInt8.ofNat (sumB (encBody k nm ver l))] else []
theorem validRec_facts {k : Int} {nm : ByteArray} {ver : Int} {n : Nat} (h : validRec k nm ver n = true) : 1 ≤ k ∧ k ≤ 2 ∧ 0 ≤ ver ∧ ver ≤ 7 ∧ n ≤ 400 ∧ nm.size ≤ 12 := by
  unfold validRec isName at h; simp at h; omega
theorem encBody_length (k : Int) (nm : ByteArray) (ver : Int) (l : List UInt8) : (encBody k nm ver l).length = nm.size + 5 + (pack l).length := by
  have : nm.data.toList.length = nm.size := by simp
  unfold encBody be2; simp only [List.length_append, List.length_cons, List.length_nil, this]; omega
theorem encRec_length {k : Int} {nm : ByteArray} {ver : Int} {l : List UInt8} (h : validRec k nm ver l.length = true) : (encRec k nm ver l).length = nm.size + 6 + (pack l).length := by
  unfold encRec; rw [if_pos h, List.length_append, encBody_length]; simp; omega
theorem encRec_no {k : Int} {nm : ByteArray} {ver : Int} {l : List UInt8} (h : validRec k nm ver l.length = false) : encRec k nm ver l = [] := by
  unfold encRec; rw [h]; rfl
theorem encRec_le (k : Int) (nm : ByteArray) (ver : Int) (l : List UInt8) : (encRec k nm ver l).length ≤ 818 := by
  cases h : validRec k nm ver l.length
  · rw [encRec_no h]; simp
  · rw [encRec_length h]
    have := validRec_facts h; have := pack_le l; omega

/-- what a record holds -/
structure DRec where
  k : Int
  nm : ByteArray
  ver : Int
  l : List UInt8
def DRec.zero : DRec := ⟨0, ⟨#[]⟩, 0, []⟩
def DRec.enc (r : DRec) : List UInt8 := encRec r.k r.nm r.ver r.l
def DRec.ok (r : DRec) : Bool := validRec r.k r.nm r.ver r.l.length

/-- the length of the name, the length of the packed bytes of a record that begins at an index -/
def nmAt (b : List UInt8) (a : Nat) : Nat := (b.getD (a+1) 0).toNat
def szAt (b : List UInt8) (a : Nat) : Nat := 256 * (b.getD (a + nmAt b a + 3) 0).toNat + (b.getD (a + nmAt b a + 4) 0).toNat
/-- the record's fields over its unpacked bytes -/
def recAt (b : List UInt8) (a : Nat) (d : List UInt8) : DRec :=
  ⟨(b.getD a 0).toNat, ⟨((b.drop (a+2)).take (nmAt b a)).toArray⟩, (b.getD (a + nmAt b a + 2) 0).toNat, d⟩
/-- the record that begins at an index -/
def decN (b : List UInt8) (a : Nat) : Option DRec :=
  if b.length < a + 2 ∨ b.length < a + nmAt b a + 6 ∨ b.length < a + nmAt b a + 6 + szAt b a then none
  else match unpack ((b.drop (a + nmAt b a + 5)).take (szAt b a)) with
    | none => none
    | some d => if (recAt b a d).ok && ((recAt b a d).enc == (b.drop a).take (nmAt b a + 6 + szAt b a)) then some (recAt b a d) else none
def dec (b : List UInt8) (a : Int) : Option DRec := if a < 0 then none else decN b a.toNat
/-- the index behind the record -/
def decEnd (b : List UInt8) (a : Int) : Int := if (dec b a).isSome then a + nmAt b a.toNat + 6 + szAt b a.toNat else a

theorem unpack_nil : unpack [] = some [] := rfl
/-- bytes that cannot be unpacked: no record with the same name and no data has this encoding -/
theorem dec_bad {b : List UInt8} {a : Nat} (h : a + nmAt b a + 6 + szAt b a ≤ b.length) (hu : unpack ((b.drop (a + nmAt b a + 5)).take (szAt b a)) = none) :
    ((recAt b a []).ok && ((recAt b a []).enc == (b.drop a).take (nmAt b a + 6 + szAt b a))) = false := by
  cases hv : (recAt b a []).ok
  · rfl
  · simp only [Bool.true_and, beq_eq_false_iff_ne]
    intro he
    have h1 := congrArg List.length he
    have h2 : (recAt b a []).enc.length = _ := encRec_length hv
    rw [h2] at h1
    have h3 : (recAt b a []).nm.size = nmAt b a := by
      show ((b.drop (a+2)).take (nmAt b a)).toArray.size = _
      simp; omega
    rw [h3] at h1
    have h4 : (pack (recAt b a []).l).length = 0 := rfl
    rw [h4, List.length_take, List.length_drop] at h1
    have h5 : szAt b a = 0 := by omega
    rw [h5, List.take_zero, unpack_nil] at hu
    cases hu
/-- the reference's reading: the unpacked bytes, or none -/
theorem decN_spec {b : List UInt8} {a : Nat} (h : a + nmAt b a + 6 + szAt b a ≤ b.length) :
    decN b a = if (recAt b a ((unpack ((b.drop (a + nmAt b a + 5)).take (szAt b a))).getD [])).ok && ((recAt b a ((unpack ((b.drop (a + nmAt b a + 5)).take (szAt b a))).getD [])).enc == (b.drop a).take (nmAt b a + 6 + szAt b a)) then some (recAt b a ((unpack ((b.drop (a + nmAt b a + 5)).take (szAt b a))).getD [])) else none := by
  unfold decN
  rw [if_neg (by omega)]
  cases hu : unpack ((b.drop (a + nmAt b a + 5)).take (szAt b a)) with
  | none => rw [Option.getD_none, dec_bad h hu]; rfl
  | some d => rfl
theorem decN_some {b : List UInt8} {a : Nat} {r : DRec} (h : decN b a = some r) : a + nmAt b a + 6 + szAt b a ≤ b.length ∧ r.ok = true ∧ r.enc = (b.drop a).take (nmAt b a + 6 + szAt b a) ∧ unpack ((b.drop (a + nmAt b a + 5)).take (szAt b a)) = some r.l ∧ r = recAt b a r.l := by
  unfold decN at h
  split at h
  · cases h
  · rename_i hc
    split at h
    · cases h
    · rename_i d hd
      split at h
      · rename_i hb
        injection h with h
        subst h
        rw [Bool.and_eq_true, beq_iff_eq] at hb
        exact ⟨by omega, hb.1, hb.2, hd, rfl⟩
      · cases h
end Go.Proofs.Ytophjmphjdhjoaa

/- PackBytes and PackedSize of the program and of the reference. -/
namespace Go.Proofs.Ytophjmphjdhjoaa
open Go.RowKit Go.Sort

theorem get_some {l : List UInt8} {i : Nat} (h : i < l.length) : l[i]? = some l[i] := List.getElem?_eq_getElem h
theorem vu8_ofNat {n : Nat} (h : n < 256) : vu8 (UInt8.ofNat n) = .int .u8 (n : Int) := by
  have : (UInt8.ofNat n).toNat = n := by simp; omega
  simp only [vu8, this]
theorem wrapByte {n : Nat} (h : n < 256) : Value.int .u8 (IntKind.u8.wrap (n : Int)) = vu8 (UInt8.ofNat n) := by
  have : (UInt8.ofNat n).toNat = n := by simp; omega
  simp only [vu8, this]
  congr 1
  unfold IntKind.wrap
  simp [IntKind.bits, IntKind.signed]
  omega

end Go.Proofs.Ytophjmphjdhjoaa

/- EncodeRecord of the program and of the reference; BigEndian of two bytes. -/
namespace Go.Proofs.Ytophjmphjdhjoaa
open Go.RowKit Go.Sort

section
variable {P : Program} {ops : Array Oper} {rest : List Oper} {o : Oper} {a : Act} {Q : Exit → Act → World → Prop}
/-- append(s, str...) onto bytes of the call's own -/
theorem wpList_appS (hgd : o.guard = none) (s x : Operand) (t u : TypeId) (ho : o.op = .call { callee := .builtin .append, args := #[s, x], argTypes := #[t, u] })
    {e : TypeId} (hE : Elem P t e 1 1 (.int .u8 0)) (hu : P.underlying u = some .string) (w0 w : World) (v : Value) (hs : a.eval s = v) (st : ByteArray) (hx : a.eval x = .string st)
    (l : List UInt8) (hown : OwnL vu8 e w0 w v l) (he : Ext w0 w) (hb : l.length + st.size ≤ 140737488355328)
    (h : ∀ v' w', OwnL vu8 e w0 w' v' (l ++ st.data.toList) → Ext w0 w' → wpList P ops Q rest (a.put o.dst v') w') :
    wpList P ops Q (o :: rest) a w := by
  obtain ⟨i0, hi0, hz0, hz1, hz2⟩ := info_parts hE.hi
  refine Lib.wpList_append_own_string w hgd s x t u ho w0.heap.size e i0 hE.ht hu hi0 hz0 hz1 hz2 v l.length (l.map vu8) hs hown st hx (by simp only [maxLen]; omega) hb he.size ?_
  intro v' w' h1 h2 _
  refine h v' w' ?_ (he.grown h2 (fun k hk => (hown.lt k hk).1))
  have hsz : st.data.toList.length = st.size := by simp
  unfold OwnL
  rw [List.length_append, hsz, List.map_append]
  exact h1
/-- []byte(s) -/
theorem wpList_bytesOf (hgd : o.guard = none) (x : Operand) (src dst : TypeId) (ho : o.op = .convert src dst x) {e : TypeId} (hs : P.underlying src = some .string) (hd : P.underlying dst = some (.slice e)) (he : P.underlying e = some (.int .u8))
    (w : World) (st : ByteArray) (hx : a.eval x = .string st) (hsz : st.size ≤ 140737488351232)
    (h : ∀ c w', Bs w' (some ⟨w.heap.size, 0, none⟩) st.data.toList c → Ext w w' → wpList P ops Q rest (a.put o.dst (.slice (some ⟨w.heap.size, 0, none⟩) st.size c)) w') :
    wpList P ops Q (o :: rest) a w := by
  refine wpList_plain hgd fun K hK => ?_
  unfold Oper.wp execOp
  simp only [ho, hx, Sem.run_bind, Lib.run_convert_string_bytes w src dst e st hs hd he, Result.andThen_ok, Sem.run_pure]
  have hE : Ext w (Lib.bytesWorld w e st) := by
    refine ⟨rfl, rfl, rfl, by rw [Lib.bytesWorld_size]; omega, fun k hk => Lib.bytesWorld_at_old w e st k hk⟩
  have hsz' : st.data.toList.length = st.size := by simp
  refine hK _ _ (h _ _ ⟨⟨by rw [hsz']; exact grownCap_ge w _ _ _, by omega, fun hp => ⟨_, _, rfl, by rw [Lib.bytesWorld_size]; omega, fun w' e' i hi => ?_⟩⟩, by omega⟩ hE)
  have h1 := Lib.bytesWorld_cell w e st i (by omega)
  rw [e'.cell (by rw [Lib.bytesWorld_size]; show w.heap.size < _; omega)]
  rw [Nat.zero_add, h1]
  have hi' : i < st.data.size := by simpa using hi
  simp only [vu8, List.getD, Array.getElem?_toList, Array.getElem?_eq_getElem hi', Option.getD_some, Array.getElem_toList]
end

/-- the cells of a slice, as the laws on append ask for them -/
theorem Rd.src {α : Type} {f : α → Value} {w w' : World} {A : Option Addr} {l : List α} {c : Nat} (h : Rd f w A l c) (e : Ext w w') :
    0 < l.length → ∃ ad, A = some ad ∧ ∀ j u, (l.map f)[j]? = some u → w'.cell? (ad.add j) = some u := by
  intro hp
  obtain ⟨b, off, h1, _, h3⟩ := h.base hp
  refine ⟨_, h1, fun j u hu => ?_⟩
  have := part_cells (h3 w' e) 0 l.length j u (by simpa using hu)
  simpa using this
/-- a row of the call's own since a later world is one since an elder one -/
theorem OwnL.lower {α : Type} {f : α → Value} {e : TypeId} {w0 w1 w : World} {v : Value} {l : List α} (h : OwnL f e w1 w v l) (k : Ext w0 w1) : OwnL f e w0 w v l := World.ownsRow.lower h k.size

set_option maxHeartbeats 400000 in
theorem l2Power2_c (w : World) : Gives Try.prog 69 #[.int .i64 2] w (.int .i64 65536) := by
  go_enter Try.func69, Try.ntmps69
  go_wp2
  go_ret
  exact ⟨rfl, Ext.refl _⟩
end Go.Proofs.Ytophjmphjdhjoaa

/- A block of cells, known whole. -/
namespace Go.Proofs.Ytophjmphjdhjoaa
open Go.RowKit Go.Sort

theorem heap_ext' {w w' : World} {g : Nat} {o : Obj} (h : w.heap[g]? = some o) (e : Ext w w') : w'.heap[g]? = some o := (Below.block e g (Array.getElem?_eq_some_iff.1 h).1).trans h
theorem grown_set (w : World) (a : Addr) (u : Value) : w.grownBy (w.setCell a u) (some a.block) :=
  ⟨rfl, rfl, rfl, by simp, fun k _ hk => heap_setCell_other w a k u (fun e => hk (by rw [e]))⟩
theorem grown_ext {w w' : World} (e : Ext w w') (row : Option Nat) : w.grownBy w' row := ⟨e.os, e.tape, e.output, e.size, fun i hi _ => Below.block e i hi⟩
/-- a row of cells -/
def Box (w : World) (g : Nat) (cs : Array Value) (T : TypeId) : Prop := w.heap[g]? = some (.cells cs T (0, 0))
theorem Box.lt {w : World} {g : Nat} {cs : Array Value} {T : TypeId} (h : Box w g cs T) : g < w.heap.size := (Array.getElem?_eq_some_iff.1 h).1
theorem Box.new (w : World) (cs : Array Value) (T : TypeId) : Box (w.alloc (.cells cs T)) w.heap.size cs T := heap_alloc_new w _
theorem Box.cell {w : World} {g : Nat} {cs : Array Value} {T : TypeId} (h : Box w g cs T) (i : Nat) : w.cell? ⟨g, i, none⟩ = cs[i]? := cell_of_row w g i cs T (0, 0) h
theorem Box.free {w : World} {g : Nat} {cs : Array Value} {T : TypeId} (h : Box w g cs T) (i : Nat) : w.frozen? ⟨g, i, none⟩ = false := frozen_of_row w g i cs T h
theorem Box.ext {w w' : World} {g : Nat} {cs : Array Value} {T : TypeId} (h : Box w g cs T) (e : Ext w w') : Box w' g cs T := heap_ext' h e
theorem Box.moved {w w' : World} {g : Nat} {cs : Array Value} {T : TypeId} (h : Box w g cs T) {r : Option Nat} (hg : w.grownBy w' r) (hne : r ≠ some g) : Box w' g cs T := (hg.block g h.lt (fun hh => hne hh.symm)).trans h
theorem Box.set {w : World} {g : Nat} {cs : Array Value} {T : TypeId} (h : Box w g cs T) (i : Nat) (u : Value) : Box (w.setCell ⟨g, i, none⟩ u) g (cs.setIfInBounds i u) T := heap_setCell_same w g i cs T u h
theorem Box.other {w : World} {g g' : Nat} {cs : Array Value} {T : TypeId} (h : Box w g cs T) (hne : g ≠ g') (i : Nat) (u : Value) : Box (w.setCell ⟨g', i, none⟩ u) g cs T := (heap_setCell_other w ⟨g', i, none⟩ g u hne).trans h
theorem Box.at {w : World} {g : Nat} {cs : Array Value} {T : TypeId} (h : Box w g cs T) (i : Nat) : ∀ w', Ext w w' → w'.cell? ⟨g, i, none⟩ = cs[i]? := fun _ e => (h.ext e).cell i
theorem Box.frees {w : World} {g : Nat} {cs : Array Value} {T : TypeId} (h : Box w g cs T) (i : Nat) : ∀ w', Ext w w' → w'.frozen? ⟨g, i, none⟩ = false := fun _ e => (h.ext e).free i
/-- three blocks, one behind the other -/
theorem boxes3 (w : World) (c0 c1 c2 : Array Value) (T0 T1 T2 : TypeId) :
    Box (((w.alloc (.cells c0 T0)).alloc (.cells c1 T1)).alloc (.cells c2 T2)) w.heap.size c0 T0 ∧ Box (((w.alloc (.cells c0 T0)).alloc (.cells c1 T1)).alloc (.cells c2 T2)) (w.heap.size + 1) c1 T1 ∧
    Box (((w.alloc (.cells c0 T0)).alloc (.cells c1 T1)).alloc (.cells c2 T2)) (w.heap.size + 1 + 1) c2 T2 ∧ Ext w (((w.alloc (.cells c0 T0)).alloc (.cells c1 T1)).alloc (.cells c2 T2)) ∧
    (((w.alloc (.cells c0 T0)).alloc (.cells c1 T1)).alloc (.cells c2 T2)).heap.size = w.heap.size + 3 := by
  have s1 : (w.alloc (.cells c0 T0)).heap.size = w.heap.size + 1 := by simp
  have s2 : ((w.alloc (.cells c0 T0)).alloc (.cells c1 T1)).heap.size = w.heap.size + 1 + 1 := by simp
  have h1 := Box.new (w.alloc (.cells c0 T0)) c1 T1
  have h2 := Box.new ((w.alloc (.cells c0 T0)).alloc (.cells c1 T1)) c2 T2
  rw [s1] at h1; rw [s2] at h2
  exact ⟨((Box.new w c0 T0).ext (Ext_alloc _ (Ext.refl _))).ext (Ext_alloc _ (Ext.refl _)), h1.ext (Ext_alloc _ (Ext.refl _)), h2, Ext_alloc _ (Ext_alloc _ (Ext_alloc _ (Ext.refl w))), by simp⟩
theorem boxes3' (w : World) (c0 c1 c2 : Array Value) (T0 T1 T2 : TypeId) :
    ∃ W, Hid (W = (((w.alloc (.cells c0 T0)).alloc (.cells c1 T1)).alloc (.cells c2 T2))) ∧ Box W w.heap.size c0 T0 ∧ Box W (w.heap.size + 1) c1 T1 ∧ Box W (w.heap.size + 1 + 1) c2 T2 ∧ Ext w W ∧ W.heap.size = w.heap.size + 3 :=
  ⟨_, rfl, boxes3 w c0 c1 c2 T0 T1 T2⟩
/-- a row of the call's own stays where another block is written -/
theorem Own.other {e : TypeId} {size : Nat} {w0 w : World} {v : Value} {n : Nat} {xs : List Value} (h : Own e size w0 w v n xs) (p : Addr) (u : Value) (hne : v.ownBlock ≠ some p.block) : Own e size w0 (w.setCell p u) v n xs := by
  refine World.ownsRow.kept h (grown_set w p u) ?_
  cases hb : v.ownBlock with
  | none => exact .inl rfl
  | some g => right; rw [hb] at hne; exact fun he => hne he
theorem OwnL.other {α : Type} {f : α → Value} {e : TypeId} {w0 w : World} {v : Value} {l : List α} (h : OwnL f e w0 w v l) (p : Addr) (u : Value) (hne : v.ownBlock ≠ some p.block) : OwnL f e w0 (w.setCell p u) v l := Own.other h p u hne
theorem OwnL.far {α : Type} {f : α → Value} {e : TypeId} {w0 w : World} {v : Value} {l : List α} (h : OwnL f e w0 w v l) {b : Nat} (hb : b < w0.heap.size ∨ w.heap.size ≤ b) : v.ownBlock ≠ some b := by
  intro hv
  have h1 := World.ownsRow.lt h b hv
  omega
theorem OwnL.down {α : Type} {f : α → Value} {e : TypeId} {w0 w1 w : World} {v : Value} {l : List α} (h : OwnL f e w1 w v l) (hb : w0.heap.size ≤ w1.heap.size) : OwnL f e w0 w v l := World.ownsRow.lower h hb
end Go.Proofs.Ytophjmphjdhjoaa

/- The cursor of the draws: what it hands back is within its bounds; of memory only its own block turns. -/
namespace Go.Proofs.Ytophjmphjdhjoaa
open Go.RowKit Go.Sort

theorem i64_and255 (n : Int) : bits .and .i64 n 255 = n % 256 := by
  have h255 : (BitVec.ofInt 64 255).toNat = 2 ^ 8 - 1 := by decide
  have key : (BitVec.ofInt 64 n &&& BitVec.ofInt 64 255).toNat = (n % ((2 ^ 64 : Nat) : Int)).toNat % 2 ^ 8 := by
    rw [BitVec.toNat_and, BitVec.toNat_ofInt, h255, Nat.and_two_pow_sub_one_eq_mod]
  show IntKind.i64.wrap ((BitVec.ofInt 64 n &&& BitVec.ofInt 64 255).toNat : Nat) = n % 256
  rw [key, IntKind.wrap_i64]
  omega
theorem i64_and30 (n : Int) : bits .and .i64 n 1073741823 = n % 1073741824 := by
  have h255 : (BitVec.ofInt 64 1073741823).toNat = 2 ^ 30 - 1 := by decide
  have key : (BitVec.ofInt 64 n &&& BitVec.ofInt 64 1073741823).toNat = (n % ((2 ^ 64 : Nat) : Int)).toNat % 2 ^ 30 := by
    rw [BitVec.toNat_and, BitVec.toNat_ofInt, h255, Nat.and_two_pow_sub_one_eq_mod]
  show IntKind.i64.wrap ((BitVec.ofInt 64 n &&& BitVec.ofInt 64 1073741823).toNat : Nat) = n % 1073741824
  rw [key, IntKind.wrap_i64]
  omega
/-- a cursor over bytes that were there in wb, its block laid since -/
def Cur (wb w : World) (p : Nat) (A : Option Addr) (l : List UInt8) (c : Nat) : Prop :=
  wb.heap.size ≤ p ∧ Ext wb w ∧ ∃ (i : Nat) (h : Int), i ≤ l.length ∧ w.heap[p]? = some (.cells #[.slice A l.length c, .int .i64 i, .int .i64 h] 57 (0, 0))
set_option maxRecDepth 100000 in
set_option maxHeartbeats 1000000 in
theorem l1New_c (A : Option Addr) (l : List UInt8) (c : Nat) (w : World) (hA : Bs w A l c) :
    Calls Try.prog 18 #[.slice A l.length c] w fun e w' => ∃ p, e = .returned (.pointer (some ⟨p, 0, none⟩)) ∧ Cur w w' p A l c := by
  have hl := hA.len
  have H30 : ∀ n : Int, bits .and .i64 n 1073741823 = n % 1073741824 := i64_and30
  go_enter Try.func18, Try.ntmps18
  go_wp2
  go_loopw [3, 4] (fun h i wr => ∃ (k : Nat) (x : Int), k ≤ l.length ∧ i = .int .i64 k ∧ h = .int .i64 x ∧ 0 ≤ x ∧ x ≤ 140737488551232 ∧ Ext w wr) (fun _ i _ => l.length - (intOf i).toNat)
  case atStart => exact ⟨0, _, by omega, rfl, rfl, by omega, by omega, Ext.refl _⟩
  case round =>
    obtain ⟨k, x, hk, rfl, rfl, hx1, hx2, he⟩ := hrel
    by_cases hlt : k < l.length ∧ k < 4000
    · obtain ⟨hlt, h4⟩ := hlt
      obtain ⟨b, off, rfl, hb, hc⟩ := hA.at k hlt
      have h8 := l[k].toNat_lt
      clear hA
      go_wp2
      go_roundw
      case rel => exact ⟨k + 1, _, by omega, by go_num, rfl, Int.emod_nonneg _ (by omega), by have := Int.emod_lt_of_pos (x * 137 + (l[k].toNat : Int) + 11) (show (0 : Int) < 1073741824 by omega); omega, he⟩
      case measure => simp [intOf]; omega
    · by_cases h1 : k < l.length
      all_goals
        go_wp2
        go_ret
        refine ⟨_, rfl, he.size, Ext_alloc _ he, 0, x, by omega, ?_⟩
        exact heap_alloc_new wr _

set_option maxRecDepth 100000 in
set_option maxHeartbeats 2000000 in
theorem l1Byte_c (wb w : World) (p : Nat) (A : Option Addr) (l : List UInt8) (c : Nat) (hA : Bs wb A l c) (hC : Cur wb w p A l c) :
    Calls Try.prog 41 #[.pointer (some ⟨p, 0, none⟩)] w fun e w' => ∃ x : Nat, x < 256 ∧ e = .returned (.int .i64 x) ∧ Cur wb w' p A l c ∧ w.grownBy w' (some p) := by
  have hl := hA.len
  obtain ⟨hp, he, i, h, hi, hh⟩ := hC
  have H255 : ∀ n : Int, bits .and .i64 n 255 = n % 256 := i64_and255
  have c0 := cell_of_row w p 0 _ _ (0, 0) hh
  have c1 := cell_of_row w p 1 _ _ (0, 0) hh
  have c2 := cell_of_row w p 2 _ _ (0, 0) hh
  have f2 := frozen_of_row w p 2 _ _ hh
  simp at c0 c1 c2
  have hu : ∀ u : Int, (w.setCell ⟨p, 2, none⟩ (.int .i64 u)).heap[p]? = some (.cells #[.slice A l.length c, .int .i64 i, .int .i64 u] 57 (0, 0)) := fun u => heap_setCell_same w p 2 _ _ (.int .i64 u) hh
  have HU := Lib.hid hu
  have HE : Hid (∀ u : Int, Ext wb (w.setCell ⟨p, 2, none⟩ (.int .i64 u))) := fun u => he.setCell hp _
  have HG : Hid (∀ u : Int, w.grownBy (w.setCell ⟨p, 2, none⟩ (.int .i64 u)) (some p)) := fun u => grown_set w ⟨p, 2, none⟩ _
  clear hu hh
  by_cases hlt : i < l.length
  · obtain ⟨b, off, rfl, hb, hc⟩ := hA.at i hlt
    have h8 := l[i].toNat_lt
    have g1 : (i : Int) < (l.length : Int) := by omega
    have HC := Lib.hid hc
    clear hc hA
    go_enter Try.func41, Try.ntmps41
    go_wp2_with fail
    generalize wrap64 (wrap64 (h * 6364136223846793005) + 1442695040888963407) = U
    have hU := HU.out U; have hE := HE.out U; have hG := HG.out U
    generalize w.setCell ⟨p, 2, none⟩ (.int .i64 U) = W at *
    have K0 : ∀ w', Ext W w' → w'.cell? ⟨p, 0, none⟩ = some (.slice (some ⟨b, off, none⟩) l.length c) := fun w' e => by simpa using cell_of_row w' p 0 _ _ (0, 0) (heap_ext' hU e)
    have K1 : ∀ w', Ext W w' → w'.cell? ⟨p, 1, none⟩ = some (.int .i64 i) := fun w' e => by simpa using cell_of_row w' p 1 _ _ (0, 0) (heap_ext' hU e)
    have K2 : ∀ w', Ext W w' → w'.cell? ⟨p, 2, none⟩ = some (.int .i64 U) := fun w' e => by simpa using cell_of_row w' p 2 _ _ (0, 0) (heap_ext' hU e)
    have F1 : ∀ w', Ext W w' → w'.frozen? ⟨p, 1, none⟩ = false := fun w' e => frozen_of_row w' p 1 _ _ (heap_ext' hU e)
    have KC : ∀ w', Ext W w' → w'.cell? ⟨b, off + i, none⟩ = some (.int .u8 (l[i].toNat : Int)) := fun w' e => by
      have := HC.out w' (hE.trans e); simpa [vu8] using this
    have HUU := Lib.hid hU; have HEE := Lib.hid hE; have HGG := Lib.hid hG
    clear hU hE hG c0 c1 c2 f2
    refine wp_region_quiet_below (by kernel_rfl) (by kernel_rfl) ?_
    repeat (go_big_quiet_step (fail))
    refine wpQuiet_nil ?_
    rintro w1 ⟨⟨nq, osq⟩, hq⟩
    have ew1 := ext_of_q hq
    clear hq nq osq
    go_wp2_with fail
    refine wp_region_quiet_below (by kernel_rfl) (by kernel_rfl) ?_
    repeat (go_big_quiet_step (fail))
    refine wpQuiet_nil ?_
    rintro w2 ⟨⟨nq, osq⟩, hq⟩
    have ew2 := ext_of_q hq
    clear hq nq osq
    have e12 := ew1.trans ew2
    go_wp2_with fail
    refine wp_region_quiet_below (by kernel_rfl) (by kernel_rfl) ?_
    repeat (go_big_quiet_step (fail))
    refine wpQuiet_nil ?_
    rintro w3 ⟨⟨nq, osq⟩, hq⟩
    have ew3 := ext_of_q hq
    clear hq nq osq
    have e13 := e12.trans ew3
    go_wp2_with fail
    have hbd : ∀ n : Int, ∃ x : Nat, x < 256 ∧ n % 256 = (x : Int) := fun n => ⟨(n % 256).toNat, by have := Int.emod_nonneg n (show (256 : Int) ≠ 0 by omega); have := Int.emod_lt_of_pos n (show (0 : Int) < 256 by omega); omega, by have := Int.emod_nonneg n (show (256 : Int) ≠ 0 by omega); omega⟩
    obtain ⟨x, hx1, hx2⟩ := hbd (bits BinOp.xor IntKind.i64 (U / 8589934592) (U / 140737488355328) + ↑l[i].toNat)
    go_ret
    refine ⟨x, hx1, ret_i64 hx2, ⟨hp, (HEE.out.trans e13).setCell hp _, i + 1, U, by omega, ?_⟩, (HGG.out.trans (grown_ext e13 _)).trans (grown_set _ _ _)⟩
    have := heap_setCell_same w3 p 1 _ _ (.int .i64 ((i : Int) + 1)) (heap_ext' HUU.out e13)
    rw [this]
    rfl
  · have g1 : ¬ (i : Int) < (l.length : Int) := by omega
    go_enter Try.func41, Try.ntmps41
    go_wp2_with fail
    generalize wrap64 (wrap64 (h * 6364136223846793005) + 1442695040888963407) = U
    have hU := HU.out U; have hE := HE.out U; have hG := HG.out U
    generalize w.setCell ⟨p, 2, none⟩ (.int .i64 U) = W at *
    have K0 : ∀ w', Ext W w' → w'.cell? ⟨p, 0, none⟩ = some (.slice A l.length c) := fun w' e => by simpa using cell_of_row w' p 0 _ _ (0, 0) (heap_ext' hU e)
    have K1 : ∀ w', Ext W w' → w'.cell? ⟨p, 1, none⟩ = some (.int .i64 i) := fun w' e => by simpa using cell_of_row w' p 1 _ _ (0, 0) (heap_ext' hU e)
    have K2 : ∀ w', Ext W w' → w'.cell? ⟨p, 2, none⟩ = some (.int .i64 U) := fun w' e => by simpa using cell_of_row w' p 2 _ _ (0, 0) (heap_ext' hU e)
    have HUU := Lib.hid hU; have HEE := Lib.hid hE; have HGG := Lib.hid hG
    clear hU hE hG c0 c1 c2 f2
    refine wp_region_quiet_below (by kernel_rfl) (by kernel_rfl) ?_
    repeat (go_big_quiet_step (fail))
    refine wpQuiet_nil ?_
    rintro w1 ⟨⟨nq, osq⟩, hq⟩
    have ew1 := ext_of_q hq
    clear hq nq osq
    go_wp2_with fail
    refine wp_region_quiet_below (by kernel_rfl) (by kernel_rfl) ?_
    repeat (go_big_quiet_step (fail))
    refine wpQuiet_nil ?_
    rintro w2 ⟨⟨nq, osq⟩, hq⟩
    have ew2 := ext_of_q hq
    clear hq nq osq
    have e12 := ew1.trans ew2
    go_wp2_with fail
    have hbd : ∀ n : Int, ∃ x : Nat, x < 256 ∧ n % 256 = (x : Int) := fun n => ⟨(n % 256).toNat, by have := Int.emod_nonneg n (show (256 : Int) ≠ 0 by omega); have := Int.emod_lt_of_pos n (show (0 : Int) < 256 by omega); omega, by have := Int.emod_nonneg n (show (256 : Int) ≠ 0 by omega); omega⟩
    obtain ⟨x, hx1, hx2⟩ := hbd (bits BinOp.xor IntKind.i64 (U / 8589934592) (U / 140737488355328))
    go_ret
    exact ⟨x, hx1, ret_i64 hx2, ⟨hp, HEE.out.trans e12, i, U, by omega, heap_ext' HUU.out e12⟩, HGG.out.trans (grown_ext e12 _)⟩
/-- a number of a draw: 0 where n is not above 0, else below n -/
def below (n : Int) (x : Nat) : Prop := if n ≤ 0 then x = 0 else (x : Int) < n
set_option maxRecDepth 100000 in
set_option maxHeartbeats 1000000 in
theorem l1Below_c (n : Int) (wb w : World) (p : Nat) (A : Option Addr) (l : List UInt8) (c : Nat) (hA : Bs wb A l c) (hC : Cur wb w p A l c) (hn : n ≤ 16777216) :
    Calls Try.prog 20 #[.pointer (some ⟨p, 0, none⟩), .int .i64 n] w fun e w' => ∃ x : Nat, below n x ∧ e = .returned (.int .i64 x) ∧ Cur wb w' p A l c ∧ w.grownBy w' (some p) := by
  have CB := Lib.hid (fun w h => l1Byte_c wb w p A l c hA h)
  by_cases h0 : n ≤ 0
  · go_enter Try.func20, Try.ntmps20
    go_wp2
    go_ret
    exact ⟨0, by unfold below; rw [if_pos h0], rfl, hC, World.grownBy.refl _ _⟩
  · by_cases h1 : n ≤ 256
    · go_enter Try.func20, Try.ntmps20
      go_wp2_with fail
      refine (CB.out _ hC).mono ?_; rintro _ w1 ⟨x, hx, rfl, hC1, hg1⟩
      go_wp2
      go_ret
      refine ⟨((x : Int) % n).toNat, ?_, ?_, hC1, hg1⟩
      · unfold below; rw [if_neg (by omega)]; have := Int.emod_lt_of_pos (x : Int) (show 0 < n by omega); have := Int.emod_nonneg (x : Int) (show n ≠ 0 by omega); omega
      · have := Int.emod_nonneg (x : Int) (show n ≠ 0 by omega)
        exact ret_i64 (Int.toNat_of_nonneg this).symm
    · go_enter Try.func20, Try.ntmps20
      go_wp2_with fail
      refine (CB.out _ hC).mono ?_; rintro _ w1 ⟨x, hx, rfl, hC1, hg1⟩
      go_wp2_with fail
      refine (CB.out _ hC1).mono ?_; rintro _ w2 ⟨y, hy, rfl, hC2, hg2⟩
      go_wp2_with fail
      refine (CB.out _ hC2).mono ?_; rintro _ w3 ⟨z, hz, rfl, hC3, hg3⟩
      go_wp2
      go_ret
      have hq := Int.emod_nonneg ((x : Int) * 65536 + (y : Int) * 256 + (z : Int)) (show n ≠ 0 by omega)
      refine ⟨(((x : Int) * 65536 + (y : Int) * 256 + (z : Int)) % n).toNat, ?_, ?_, hC3, (hg1.trans hg2).trans hg3⟩
      · unfold below; rw [if_neg (by omega)]; have := Int.emod_lt_of_pos ((x : Int) * 65536 + (y : Int) * 256 + (z : Int)) (show 0 < n by omega); omega
      · exact ret_i64 (Int.toNat_of_nonneg hq).symm
set_option maxHeartbeats 1000000 in
theorem l1Once_c (n : Int) (wb w : World) (p : Nat) (A : Option Addr) (l : List UInt8) (c : Nat) (hA : Bs wb A l c) (hC : Cur wb w p A l c) (hn : n ≤ 16777216) :
    Calls Try.prog 21 #[.pointer (some ⟨p, 0, none⟩), .int .i64 n] w fun e w' => ∃ x : Bool, e = .returned (.bool x) ∧ Cur wb w' p A l c ∧ w.grownBy w' (some p) := by
  go_enter Try.func21, Try.ntmps21
  go_wp2_with fail
  refine (l1Below_c n wb w p A l c hA hC hn).mono ?_; rintro _ w1 ⟨x, hx, rfl, hC1, hg1⟩
  go_wp2
  go_ret
  exact ⟨_, rfl, hC1, hg1⟩
set_option maxRecDepth 100000 in
set_option maxHeartbeats 1000000 in
theorem l1Int_c (B : Option Addr) (ns : List Int) (cb : Nat) (hns : 0 < ns.length) (hns2 : ns.length ≤ 256) (wb w : World) (p : Nat) (A : Option Addr) (l : List UInt8) (c : Nat) (hA : Bs wb A l c) (hC : Cur wb w p A l c)
    (hk : ∀ w', w.grownBy w' (some p) → ∀ i (h : i < ns.length), ∃ b off, B = some ⟨b, off, none⟩ ∧ w'.cell? ⟨b, off + i, none⟩ = some (.int .i64 ns[i])) :
    Calls Try.prog 38 #[.pointer (some ⟨p, 0, none⟩), .slice B ns.length cb] w fun e w' => ∃ x ∈ ns, e = .returned (.int .i64 x) ∧ Cur wb w' p A l c ∧ w.grownBy w' (some p) := by
  have CB := Lib.hid (fun w h => l1Below_c ns.length wb w p A l c hA h (by omega))
  go_enter Try.func38, Try.ntmps38
  go_wp2_with fail
  refine (CB.out _ hC).mono ?_; rintro _ w1 ⟨x, hx, rfl, hC1, hg1⟩
  have hx' : x < ns.length := by unfold below at hx; rw [if_neg (by omega)] at hx; omega
  obtain ⟨b, off, rfl, hc⟩ := hk w1 hg1 x hx'
  go_wp2
  go_ret
  exact ⟨_, List.getElem_mem hx', rfl, hC1, hg1⟩
end Go.Proofs.Ytophjmphjdhjoaa

/- The drawn bytes of packing and of runs. -/
namespace Go.Proofs.Ytophjmphjdhjoaa
open Go.RowKit Go.Sort

theorem Cur.kept {wb w w' : World} {p : Nat} {A : Option Addr} {l : List UInt8} {c : Nat} (h : Cur wb w p A l c) {row : Option Nat} (hg : w.grownBy w' row) (hne : row ≠ some p) (e : Ext wb w') : Cur wb w' p A l c := by
  obtain ⟨h1, _, i, x, h3, h4⟩ := h
  exact ⟨h1, e, i, x, h3, (hg.block p (Array.getElem?_eq_some_iff.1 h4).1 (fun he => hne he.symm)).trans h4⟩
theorem Cur.ext {wb w w' : World} {p : Nat} {A : Option Addr} {l : List UInt8} {c : Nat} (h : Cur wb w p A l c) (e : Ext w w') : Cur wb w' p A l c :=
  ⟨h.1, h.2.1.trans e, let ⟨i, x, h3, h4⟩ := h.2.2; ⟨i, x, h3, heap_ext' h4 e⟩⟩
theorem Cur.lt {wb w : World} {p : Nat} {A : Option Addr} {l : List UInt8} {c : Nat} (h : Cur wb w p A l c) : p < w.heap.size := let ⟨_, _, _, h4⟩ := h.2.2; (Array.getElem?_eq_some_iff.1 h4).1
/-- a row of the call's own stays while the cursor moves -/
theorem OwnL.moved {α : Type} {f : α → Value} {e : TypeId} {w0 w w' : World} {v : Value} {l : List α} (h : OwnL f e w0 w v l) {p : Nat} (hg : w.grownBy w' (some p)) (hne : v.ownBlock ≠ some p) : OwnL f e w0 w' v l := by
  refine World.ownsRow.kept h hg ?_
  cases hb : v.ownBlock with
  | none => exact .inl rfl
  | some g => right; rw [hb] at hne; exact fun he => hne he
section
variable {P : Program} {ops : Array Oper} {rest : List Oper} {o : Oper} {a : Act} {Q : Exit → Act → World → Prop}
/-- append(s, y1, .., ym) onto a row that is not the cursor's -/
theorem wpList_appC (hgd : o.guard = none) (s x : Operand) (t : TypeId) (ho : o.op = .call { callee := .builtin .append, args := #[s, x], argTypes := #[t, t] })
    {e : TypeId} {bytes : Nat} {z : Value} (hE : Elem P t e 1 bytes z) (hby : 1 ≤ bytes) (w0 w : World) {α : Type} (f : α → Value) (hf : ∀ x, (f x).oneCell' = true) (v : Value) (hs : a.eval s = v) (m c : Nat) (hx : a.eval x = .slice (some ⟨w.heap.size, 0, none⟩) m c)
    (l ys : List α) (cs : Array Value) (hcs : cs = (ys.map f).toArray) (hown : OwnL f e w0 w v l) (he : Ext w0 w) (hm : m = ys.length)
    (hb : (l.length + ys.length) * bytes ≤ 140737488355328) (p : Nat) (hp : p < w.heap.size) (hne : v.ownBlock ≠ some p)
    (h : ∀ v' w', OwnL f e w0 w' v' (l ++ ys) → Ext w0 w' → v'.ownBlock ≠ some p → w.grownBy w' v.ownBlock → (∀ B, B ≤ w.heap.size → (∀ g, v.ownBlock = some g → B ≤ g) → ∀ g, v'.ownBlock = some g → B ≤ g) → (v'.ownBlock = v.ownBlock ∨ v'.ownBlock = some (w.heap.size + 1)) → wpList P ops Q rest (a.put o.dst v') w') :
    wpList P ops Q (o :: rest) a (w.alloc (.cells cs e)) := by
  subst hcs
  refine wpList_appL hgd s x t ho hE hby w0 _ f hf v hs (some ⟨w.heap.size, 0, none⟩) m c hx l ys (hown.ext (Ext_alloc _ (Ext.refl w))) (Ext_alloc _ he) hm (fun _ => ⟨_, rfl, fun j u hu => ?_⟩) hb (fun v' w' h1 h2 h3 h4 => h v' w' h1 h2 ?_ ((World.grownBy_alloc w _ _).trans h4) ?_ (by simpa using h3))
  · rw [World.cell?_alloc_at']; exact hu
  · rcases h3 with h3 | h3
    · rw [h3]; exact hne
    · rw [h3]; intro hh; injection hh with hh; simp at hh; omega
  · intro B hB hv g hg
    rcases h3 with h3 | h3
    · exact hv g (h3 ▸ hg)
    · rw [h3] at hg; injection hg with hg; simp at hg; omega
end
theorem nb {B p : Nat} {v : Value} (hp : p < B) (h : ∀ g, v.ownBlock = some g → B ≤ g) : v.ownBlock ≠ some p := fun hh => by have := h p hh; omega
theorem grown_own {w wr w4 : World} {p : Nat} {v : Value} (h : w.grownBy wr (some p)) (hv : ∀ g, v.ownBlock = some g → w.heap.size ≤ g) (hg : wr.grownBy w4 v.ownBlock) : w.grownBy w4 (some p) :=
  ⟨hg.os.trans h.os, hg.tape.trans h.tape, hg.output.trans h.output, Nat.le_trans h.size hg.size, fun k hk hne => (hg.block k (Nat.lt_of_lt_of_le hk h.size) (fun he => by have := hv k he.symm; omega)).trans (h.block k hk hne)⟩
end Go.Proofs.Ytophjmphjdhjoaa

/- The law on runs: the runs tile the drawn bytes, and their count is CountRuns. -/
namespace Go.Proofs.Ytophjmphjdhjoaa
open Go.RowKit Go.Sort

set_option maxHeartbeats 400000 in
theorem big_c (A : Option Addr) (l : List UInt8) (c : Nat) (w : World) (h : Rd0 vu8 w A l c) :
    Gives Try.prog 5 #[.slice A l.length c] w (.bool (decide ((1048576 : Int) < (l.length : Int)))) := by
  have hl := h.len
  go_enter Try.func5, Try.ntmps5
  go_wp2
  go_ret
  exact ⟨rfl, Ext.refl _⟩
end Go.Proofs.Ytophjmphjdhjoaa

/- EncodeRecord of the program and of the reference. -/
namespace Go.Proofs.Ytophjmphjdhjoaa
open Go.RowKit Go.Sort

/-- a row of a literal is the call's own -/
theorem OwnL.lit {α : Type} {f : α → Value} {e : TypeId} {w0 w : World} (he : Ext w0 w) (ys : List α) (cs : Array Value) (hcs : cs = (ys.map f).toArray) (m : Nat) (hm : m = ys.length) (hl : m ≤ 1000) :
    OwnL f e w0 (w.alloc (.cells cs e)) (.slice (some ⟨w.heap.size, 0, none⟩) m m) ys := by
  subst hcs; subst hm
  exact ⟨by simp, .inr ⟨w.heap.size, ys.length, _, rfl, he.size, heap_alloc_new w _, by omega, by simp only [maxLen]; omega, by simp, by simp [List.take_of_length_le]⟩⟩

end Go.Proofs.Ytophjmphjdhjoaa

/- UnpackBytes and IsPacked of the program and of the reference. -/
namespace Go.Proofs.Ytophjmphjdhjoaa
open Go.RowKit Go.Sort




end Go.Proofs.Ytophjmphjdhjoaa

/- The walk of the law on UnpackBytes. -/
namespace Go.Proofs.Ytophjmphjdhjoaa
open Go.RowKit Go.Sort

theorem unpackF_le : ∀ f b out o, unpackF f b out = some o → out.length ≤ 1000 → o.length ≤ 1000 := by
  intro f
  induction f with
  | zero => intro b out o h hl; cases b with
    | nil => simp only [unpackF, Option.some.injEq] at h; subst h; exact hl
    | cons => simp [unpackF] at h
  | succ f ih =>
    intro b out o h hl
    cases b with
    | nil => simp only [unpackF, Option.some.injEq] at h; subst h; exact hl
    | cons x t =>
      simp only [unpackF] at h
      split at h
      · cases h
      · split at h
        · split at h
          · cases h
          · split at h
            · cases h
            · exact ih _ _ _ h (by omega)
        · split at h
          · cases h
          · exact ih _ _ _ h (by omega)
theorem unpack_le (l : List UInt8) : ((unpack l).getD []).length ≤ 1000 := by
  cases h : unpack l with
  | none => simp
  | some o => exact unpackF_le _ _ _ _ h (by simp)

end Go.Proofs.Ytophjmphjdhjoaa

/- DecodeRecord of the program and of the reference. -/
namespace Go.Proofs.Ytophjmphjdhjoaa
open Go.RowKit Go.Sort

/-- what a call of DecodeRecord hands back -/
def DecOut (r : Option DRec) (j : Int) (w : World) (e : Ending) (w' : World) : Prop :=
  ∃ v, e = .returned (.tuple #[vrec (r.getD .zero).k (r.getD .zero).nm (r.getD .zero).ver v, .int .i64 j, .bool r.isSome]) ∧ OwnL vu8 5 w w' v (r.getD .zero).l ∧ Ext w w'
theorem DecOut.no {j : Int} {w w' : World} (he : Ext w w') : DecOut none j w (.returned (.tuple #[.agg #[.int .i64 0, .string ⟨#[]⟩, .int .i64 0, .slice none 0 0], .int .i64 j, .bool false])) w' := ⟨_, rfl, OwnL.nil _ _, he⟩

theorem dec_neg {b : List UInt8} {a : Int} (h : a < 0) : dec b a = none ∧ decEnd b a = a := by
  have h1 : dec b a = none := by unfold dec; rw [if_pos h]
  exact ⟨h1, by unfold decEnd; rw [h1]; rfl⟩
theorem dec_nat (b : List UInt8) (n : Nat) : dec b (n : Int) = decN b n := by
  unfold dec; rw [if_neg (by omega)]; rfl
theorem dec_no {b : List UInt8} {n : Nat} (h : decN b n = none) : dec b (n : Int) = none ∧ decEnd b (n : Int) = n := by
  have h1 : dec b (n : Int) = none := by rw [dec_nat]; exact h
  exact ⟨h1, by unfold decEnd; rw [h1]; rfl⟩
theorem dec_yes {b : List UInt8} {n : Nat} {r : DRec} (h : decN b n = some r) : dec b (n : Int) = some r ∧ decEnd b (n : Int) = ((n + nmAt b n + 6 + szAt b n : Nat) : Int) := by
  have h1 : dec b (n : Int) = some r := by rw [dec_nat]; exact h
  refine ⟨h1, ?_⟩
  unfold decEnd
  rw [h1, Int.toNat_natCast]
  simp
theorem getD_of_lt {l : List UInt8} {i : Nat} (h : i < l.length) : l.getD i 0 = l[i] := by simp [h]

section
variable {P : Program} {ops : Array Oper} {rest : List Oper} {o : Oper} {a : Act} {Q : Exit → Act → World → Prop}
/-- copy onto the whole of a row of the call's own -/
theorem wpList_copyL (hgd : o.guard = none) (d s : Operand) (dT sT : TypeId) (ho : o.op = .call { callee := .builtin .copy, args := #[d, s], argTypes := #[dT, sT] })
    {e : TypeId} {bytes : Nat} {z : Value} (hE : Elem P dT e 1 bytes z) {α : Type} (f : α → Value) (hf : ∀ x, (f x).oneCell' = true) (w0 w : World) (A : Option Addr) (n c : Nat) (hd : a.eval d = .slice A n c)
    (xs : List Value) (hown : Own e 1 w0 w (.slice A n c) n xs) (he : Ext w0 w) (sp : Option Addr) (sLen sCap : Nat) (hs : a.eval s = .slice sp sLen sCap)
    (ys : List α) (hy : ys.length = n) (hn : n ≤ sLen) (hA : 0 < ys.length → ∃ ad, sp = some ad ∧ ∀ j u, (ys.map f)[j]? = some u → w.cell? (ad.add j) = some u)
    (h : ∀ w', OwnL f e w0 w' (.slice A n c) ys → Ext w0 w' → wpList P ops Q rest (a.put o.dst (goInt n)) w') :
    wpList P ops Q (o :: rest) a w := by
  obtain ⟨i0, hi0, hz0, hz1, hz2⟩ := info_parts hE.hi
  have hsz : (P.info? e).map (·.size) = some 1 := by rw [hi0]; simp [hz1]
  rcases hown.2 with ⟨hv, rfl⟩ | ⟨g, cap, cur, hv, hb, hg, hnc, hcm, hcs, htake⟩
  · obtain rfl : ys = [] := List.eq_nil_of_length_eq_zero hy
    refine wpList_copy_nothing hgd d s dT sT ho e hE.ht hsz A sp 0 c sLen sCap hd hs (by simp) ?_
    exact h w (by rw [hv]; exact OwnL.nil _ _) he
  · injection hv with h1 _ h3
    subst h1; subst h3
    have hlen : (ys.map f).length = n := by simpa using hy
    refine wpList_copy_splice hgd d s dT sT ho e hE.ht hsz (some ⟨g, 0, none⟩) sp n c sLen sCap hd hs g 0 cur.toList e hg (ys.map f) (by rw [hlen]; exact (Nat.min_eq_right hn).symm)
      (fun hp => ⟨rfl, hA (by simpa using hp)⟩) (by simp; omega) (fun u hu => by obtain ⟨x, _, rfl⟩ := List.mem_map.1 hu; exact hf x) w0.heap.size w0 he hb ?_
    intro w' hg' hb'
    have hl' : (ys.map f).length = n * 1 := by rw [hlen]; omega
    have hnn : (goInt (ys.map f).length) = goInt n := by rw [hlen]
    rw [hnn]
    refine h w' ?_ hb'
    have hg'' := hg'.out
    unfold OwnL
    rw [hy]
    refine ⟨hl', .inr ⟨g, c, _, rfl, hb, hg'', hnc, hcm, ?_, ?_⟩⟩
    · rw [← hcs]
      have := length_splice cur.toList 0 (ys.map f) (by rw [hlen]; simp; omega)
      simpa using this
    · unfold splice
      rw [List.take_zero, List.nil_append, List.take_append_of_le_length (by omega), List.take_of_length_le (by omega)]
end
/-- a block of four cells, written one by one -/
theorem stored4 {w1 : World} {g : Nat} {x0 x1 x2 x3 : Value} (h : ∀ i, w1.cell? ⟨g, i, none⟩ = #[x0, x1, x2, x3][i]?) :
    (∀ y0, (w1.setCell ⟨g, 0, none⟩ y0).cell? ⟨g, 0, none⟩ = some y0) ∧ (∀ y0 y1, ((w1.setCell ⟨g, 0, none⟩ y0).setCell ⟨g, 1, none⟩ y1).cell? ⟨g, 1, none⟩ = some y1) ∧
    (∀ y0 y1 y2, (((w1.setCell ⟨g, 0, none⟩ y0).setCell ⟨g, 1, none⟩ y1).setCell ⟨g, 2, none⟩ y2).cell? ⟨g, 2, none⟩ = some y2) ∧
    (∀ y0 y1 y2 y3, ((((w1.setCell ⟨g, 0, none⟩ y0).setCell ⟨g, 1, none⟩ y1).setCell ⟨g, 2, none⟩ y2).setCell ⟨g, 3, none⟩ y3).cell? ⟨g, 3, none⟩ = some y3) := by
  have h0 := h 0; have h1 := h 1; have h2 := h 2; have h3 := h 3
  simp at h0 h1 h2 h3
  refine ⟨fun y0 => ?_, fun y0 y1 => ?_, fun y0 y1 y2 => ?_, fun y0 y1 y2 y3 => ?_⟩
  · apply World.cell?_setCell_same; exact h0
  · apply World.cell?_setCell_same (u := x1); simp [World.cell?_setCell_other, h1]
  · apply World.cell?_setCell_same (u := x2); simp [World.cell?_setCell_other, h2]
  · apply World.cell?_setCell_same (u := x3); simp [World.cell?_setCell_other, h3]
theorem strOfNums_bytes (p : List UInt8) : strOfNums (p.map fun x => (x.toNat : Int)) = ⟨p.toArray⟩ := by
  unfold strOfNums
  have : (p.map fun x => (x.toNat : Int)).map (fun n => UInt8.ofNat n.toNat) = p := by
    rw [List.map_map]
    conv => rhs; rw [← List.map_id p]
    apply List.map_congr_left
    intro x _
    simp
  rw [this]
/-- two bytes joined -/
theorem or_join {x y : Nat} (hx : x < 256) (hy : y < 256) : bits .or .i64 ((x : Int) * 256) (y : Int) = ((256 * x + y : Nat) : Int) := by
  rw [show (x : Int) * 256 = ((x * 256 : Nat) : Int) by omega]
  show IntKind.i64.wrap ((BitVec.ofInt 64 ((x * 256 : Nat) : Int) ||| BitVec.ofInt 64 (y : Int)).toNat : Int) = _
  rw [BitVec.toNat_or, ofInt_u64 _ (by omega), ofInt_u64 _ (by omega), nat_join8 _ _ (by omega) hy, IntKind.wrap_i64]
  omega
/-- string(b[i:i+n]) of a row that reads as l -/
theorem run_str {w : World} {b off : Nat} {l : List UInt8} (h : ∀ i (h : i < l.length), w.cell? ⟨b, off + i, none⟩ = some (vu8 l[i])) (lo n cap : Nat) (hn : lo + n ≤ l.length) :
    (convert 22 9 (.slice (some ⟨b, off + lo, none⟩) n cap)).run Try.prog w = .ok (.string ⟨((l.drop lo).take n).toArray⟩) w := by
  have hw : ((l.drop lo).take n).length = n := by simp; omega
  have h1 := run_convert_bytes_arg (P := Try.prog) w 22 5 Try.underlying22 Try.underlying5 b (off + lo) n cap (((l.drop lo).take n).map fun x => (x.toNat : Int)) (by rw [List.length_map]; exact hw) (fun i hi => by
    rw [Nat.add_assoc, h (lo + i) (by omega)]
    have e1 : ((l.drop lo).take n)[i]? = some l[lo + i] := by
      rw [List.getElem?_take_of_lt hi, List.getElem?_drop, List.getElem?_eq_getElem (by omega)]
    simp only [List.getD, List.getElem?_map, e1, Option.map_some, Option.getD_some, vu8]) 9 Try.underlying9
  rw [h1, strOfNums_bytes]

end Go.Proofs.Ytophjmphjdhjoaa

/- DecodeRecord of the reference. -/
namespace Go.Proofs.Ytophjmphjdhjoaa
open Go.RowKit Go.Sort

/-- the number of bytes, the greatest first -/
def beN (l : List UInt8) : Nat := l.foldl (fun n x => 256 * n + x.toNat) 0
theorem beN_take {l : List UInt8} {k : Nat} (h : k < l.length) : beN (l.take (k+1)) = 256 * beN (l.take k) + l[k].toNat := by
  rw [List.take_succ_eq_append_getElem h]; unfold beN; rw [List.foldl_append]; rfl
theorem beN_lt : ∀ (l : List UInt8), l.length ≤ 4 → beN l < 4294967296 := by
  intro l h
  have h8 := fun (x : UInt8) => x.toNat_lt
  match l, h with
  | [], _ => decide
  | [a], _ => have := h8 a; simp [beN]; omega
  | [a, b], _ => have := h8 a; have := h8 b; simp [beN]; omega
  | [a, b, c], _ => have := h8 a; have := h8 b; have := h8 c; simp [beN]; omega
  | [a, b, c, d], _ => have := h8 a; have := h8 b; have := h8 c; have := h8 d; simp [beN]; omega
end Go.Proofs.Ytophjmphjdhjoaa

/- Plain laws of reading records one behind the other: no program in sight. -/
namespace Go.Proofs.Ytophjmphjdhjoaa

/-- the length of the encoding that begins at an index -/
def sizeAt (b : List UInt8) (a : Nat) : Nat := nmAt b a + 6 + szAt b a
def readF : Nat → List UInt8 → Nat → List DRec × Nat
  | 0, _, a => ([], a)
  | f + 1, b, a => match decN b a with
    | none => ([], a)
    | some r => (r :: (readF f b (a + sizeAt b a)).1, (readF f b (a + sizeAt b a)).2)
theorem decN_out {b : List UInt8} {a : Nat} (h : b.length < a + 6) : decN b a = none := by
  cases hd : decN b a with
  | none => rfl
  | some r => have := (decN_some hd).1; omega
theorem decN_fits {b : List UInt8} {a : Nat} {r : DRec} (h : decN b a = some r) : a + sizeAt b a ≤ b.length ∧ 6 ≤ sizeAt b a := by
  have := (decN_some h).1; unfold sizeAt; omega
theorem readF_fuel (b : List UInt8) : ∀ f g a, b.length - a ≤ f → b.length - a ≤ g → readF f b a = readF g b a := by
  intro f
  induction f with
  | zero =>
    intro g a h _
    cases g with
    | zero => rfl
    | succ g => rw [readF, readF, decN_out (by omega)]
  | succ f ih =>
    intro g a h1 h2
    cases g with
    | zero => rw [readF, readF, decN_out (by omega)]
    | succ g =>
      rw [readF, readF]
      cases hd : decN b a with
      | none => rfl
      | some r =>
        have := decN_fits hd
        simp only
        rw [ih g (a + sizeAt b a) (by omega) (by omega)]
/-- the records from an index on; where the reading stops -/
def recs (b : List UInt8) (a : Nat) : List DRec := (readF b.length b a).1
def stop (b : List UInt8) (a : Nat) : Nat := (readF b.length b a).2
theorem read_none {b : List UInt8} {a : Nat} (h : decN b a = none) : recs b a = [] ∧ stop b a = a := by
  unfold recs stop
  cases b.length with
  | zero => exact ⟨rfl, rfl⟩
  | succ n => rw [readF, h]; exact ⟨rfl, rfl⟩
theorem read_some {b : List UInt8} {a : Nat} {r : DRec} (h : decN b a = some r) : recs b a = r :: recs b (a + sizeAt b a) ∧ stop b a = stop b (a + sizeAt b a) := by
  have hf := decN_fits h
  unfold recs stop
  rw [readF_fuel b b.length (b.length + 1) a (by omega) (by omega), readF, h]
  exact ⟨rfl, rfl⟩
theorem readF_le (b : List UInt8) : ∀ f a, a ≤ b.length → (readF f b a).2 ≤ b.length ∧ a ≤ (readF f b a).2 ∧ 6 * (readF f b a).1.length + a ≤ (readF f b a).2 := by
  intro f
  induction f with
  | zero => intro a h; exact ⟨h, Nat.le_refl _, by simp [readF]⟩
  | succ f ih =>
    intro a h
    rw [readF]
    cases hd : decN b a with
    | none => exact ⟨h, Nat.le_refl _, by simp⟩
    | some r =>
      have hf := decN_fits hd
      have := ih (a + sizeAt b a) (by omega)
      simp only [List.length_cons]
      omega
theorem stop_le {b : List UInt8} {a : Nat} (h : a ≤ b.length) : stop b a ≤ b.length ∧ a ≤ stop b a := ⟨(readF_le b _ a h).1, (readF_le b _ a h).2.1⟩
theorem recs_le {b : List UInt8} {a : Nat} (h : a ≤ b.length) : 6 * (recs b a).length + a ≤ b.length := by
  have := readF_le b b.length a h; unfold recs; omega

theorem take_drop_take {α : Type} (b : List α) {s k m : Nat} (h : k + m ≤ s) : ((b.take s).drop k).take m = (b.drop k).take m := by
  rw [List.drop_take, List.take_take, Nat.min_eq_left (by omega)]
theorem getD_take {b : List UInt8} {s i : Nat} (h : i < s) : (b.take s).getD i 0 = b.getD i 0 := by
  simp [List.getD, List.getElem?_take, h]
theorem nmAt_take {b : List UInt8} {s a : Nat} (h : a + 1 < s) : nmAt (b.take s) a = nmAt b a := by unfold nmAt; rw [getD_take h]
theorem szAt_take {b : List UInt8} {s a : Nat} (h : a + nmAt b a + 4 < s) : szAt (b.take s) a = szAt b a := by
  unfold szAt; rw [nmAt_take (by omega), getD_take (by omega), getD_take (by omega)]
theorem decN_take_eq {b : List UInt8} {s a : Nat} (hs : s ≤ b.length) (h : a + sizeAt b a ≤ s) : decN (b.take s) a = decN b a := by
  unfold sizeAt at h
  have hl : (b.take s).length = s := by rw [List.length_take]; omega
  have e1 : nmAt (b.take s) a = nmAt b a := nmAt_take (by omega)
  have e2 : szAt (b.take s) a = szAt b a := szAt_take (by omega)
  have e3 : ∀ d, recAt (b.take s) a d = recAt b a d := by
    intro d; unfold recAt
    rw [e1, getD_take (by omega), getD_take (by omega), take_drop_take b (by omega)]
  unfold decN
  rw [e1, e2, hl, if_neg (by omega), if_neg (by omega), take_drop_take b (by omega), take_drop_take b (by omega)]
  simp only [e3]
theorem decN_take_some {b : List UInt8} {s a : Nat} {r : DRec} (hs : s ≤ b.length) (h : decN (b.take s) a = some r) : decN b a = some r ∧ a + sizeAt b a ≤ s := by
  have hf := (decN_some h).1
  have hl : (b.take s).length = s := by rw [List.length_take]; omega
  rw [hl] at hf
  have e1 : nmAt (b.take s) a = nmAt b a := nmAt_take (by omega)
  rw [e1] at hf
  have e2 : szAt (b.take s) a = szAt b a := szAt_take (by omega)
  rw [e2] at hf
  have hz : a + sizeAt b a ≤ s := by unfold sizeAt; omega
  exact ⟨(decN_take_eq hs hz).symm.trans h, hz⟩
theorem decN_take_none {b : List UInt8} {s a : Nat} (hs : s ≤ b.length) (h : decN b a = none ∨ s < a + sizeAt b a) : decN (b.take s) a = none := by
  cases hd : decN (b.take s) a with
  | none => rfl
  | some r =>
    obtain ⟨h1, h2⟩ := decN_take_some hs hd
    rcases h with h | h
    · rw [h] at h1; cases h1
    · omega

/-- a log is valid -/
def validLog (b : List UInt8) (s : Int) : Bool := decide (0 ≤ s) && decide (s ≤ b.length) && (stop b 0 == b.length) && (stop (b.take s.toNat) 0 == s.toNat)
/-- the bytes that are stored end with a record -/
def endsAt (b : List UInt8) (s : Nat) : Bool := stop (b.take s) 0 == s
/-- what the scan of a log knows at an index -/
def Scan (b : List UInt8) (s a : Nat) (e : Bool) : Prop :=
  (e = true ∧ endsAt b s = true) ∨ (e = false ∧ a < s ∧ stop (b.take s) a = stop (b.take s) 0) ∨ (e = false ∧ s < a ∧ endsAt b s = false)
theorem Scan.start (b : List UInt8) (s : Nat) : Scan b s 0 (s == 0) := by
  by_cases h : s = 0
  · subst h
    refine .inl ⟨rfl, ?_⟩
    unfold endsAt
    rw [List.take_zero, (read_none (decN_out (by simp))).2]; rfl
  · exact .inr (.inl ⟨by simpa using h, by omega, rfl⟩)
theorem Scan.step {b : List UInt8} {s a : Nat} {e : Bool} {r : DRec} (hs : s ≤ b.length) (hd : decN b a = some r) (h : Scan b s a e) : Scan b s (a + sizeAt b a) (e || (a + sizeAt b a == s)) := by
  have hf := decN_fits hd
  rcases h with ⟨rfl, h⟩ | ⟨rfl, h1, h2⟩ | ⟨rfl, h1, h2⟩
  · exact .inl ⟨rfl, h⟩
  · by_cases hle : a + sizeAt b a ≤ s
    · have hd' := (decN_take_eq hs hle).trans hd
      have hz : sizeAt (b.take s) a = sizeAt b a := by
        unfold sizeAt at hle ⊢
        rw [nmAt_take (by omega), szAt_take (by omega)]
      have h3 := (read_some hd').2
      rw [hz] at h3
      by_cases he : a + sizeAt b a = s
      · rw [he]
        refine .inl ⟨by simp, ?_⟩
        unfold endsAt
        rw [← h2, h3, he, (read_none (decN_out (by rw [List.length_take]; omega))).2]
        simp
      · exact .inr (.inl ⟨by simpa using he, by omega, by rw [← h3]; exact h2⟩)
    · refine .inr (.inr ⟨by simp; omega, by omega, ?_⟩)
      unfold endsAt
      rw [← h2, (read_none (decN_take_none hs (.inr (by omega)))).2]
      simp; omega
  · exact .inr (.inr ⟨by simp; omega, by omega, h2⟩)
theorem Scan.done {b : List UInt8} {s : Nat} {e : Bool} (hs : s ≤ b.length) (h : Scan b s b.length e) : e = endsAt b s := by
  rcases h with ⟨rfl, h⟩ | ⟨rfl, h1, _⟩ | ⟨rfl, _, h⟩
  · exact h.symm
  · omega
  · exact h.symm
theorem validLog_eq {b : List UInt8} {s : Nat} (hs : s ≤ b.length) : validLog b (s : Int) = ((stop b 0 == b.length) && endsAt b s) := by
  unfold validLog endsAt
  rw [Int.toNat_natCast]
  have h1 : decide ((0 : Int) ≤ (s : Int)) = true := by simp
  have h2 : decide ((s : Int) ≤ (b.length : Int)) = true := by simp; omega
  rw [h1, h2]; simp
theorem validLog_out {b : List UInt8} {s : Int} (h : s < 0 ∨ (b.length : Int) < s) : validLog b s = false := by
  unfold validLog
  rcases h with h | h
  · have h1 : decide ((0 : Int) ≤ s) = false := by simp; omega
    rw [h1]; rfl
  · have h1 : decide (s ≤ (b.length : Int)) = false := by simp; omega
    rw [h1]; simp
theorem validLog_facts {b : List UInt8} {s : Int} (h : validLog b s = true) : 0 ≤ s ∧ s ≤ b.length ∧ stop b 0 = b.length ∧ stop (b.take s.toNat) 0 = s.toNat := by
  unfold validLog at h
  simp only [Bool.and_eq_true, decide_eq_true_eq, beq_iff_eq] at h
  exact ⟨h.1.1.1, h.1.1.2, h.1.2, h.2⟩
end Go.Proofs.Ytophjmphjdhjoaa

/- The laws' marks on records and logs by value. -/
namespace Go.Proofs.Ytophjmphjdhjoaa
open Go.RowKit Go.Sort

theorem Own.alloc' {e : TypeId} {size : Nat} {w0 w : World} {v : Value} {n : Nat} {xs : List Value} (h : Own e size w0 w v n xs) (o : Obj) : Own e size w0 (w.alloc o) v n xs := World.ownsRow.alloc h o


end Go.Proofs.Ytophjmphjdhjoaa

/- The walk of the law on DecodeRecord. -/
namespace Go.Proofs.Ytophjmphjdhjoaa
open Go.RowKit Go.Sort

theorem heap_lt {w : World} {g : Nat} {o : Obj} (h : w.heap[g]? = some o) : g < w.heap.size := (Array.getElem?_eq_some_iff.1 h).1
theorem heap_ext {w w' : World} {g : Nat} {o : Obj} (h : w.heap[g]? = some o) (e : Ext w w') : w'.heap[g]? = some o := (Below.block e g (heap_lt h)).trans h
theorem heap_grown {w w' : World} {g : Nat} {o : Obj} {row : Option Nat} (h : w.heap[g]? = some o) (hg : w.grownBy w' row) (hne : some g ≠ row) : w'.heap[g]? = some o := (hg.block g (heap_lt h) hne).trans h
theorem heap_new (w : World) (o : Obj) : (w.alloc o).heap[w.heap.size]? = some o := heap_alloc_new w o
theorem boxed_at {w w' : World} {g : Nat} {cs : Array Value} {T : TypeId} (h : w.heap[g]? = some (.cells cs T (0, 0))) (e : Ext w w') (i : Nat) : w'.cell? ⟨g, i, none⟩ = cs[i]? := cell_of_row w' g i cs T (0, 0) (heap_ext h e)
theorem OwnL.ne {α : Type} {f : α → Value} {e : TypeId} {w0 w : World} {v : Value} {l : List α} (h : OwnL f e w0 w v l) {g : Nat} (hg : w.heap.size ≤ g) : some g ≠ v.ownBlock := by
  intro he; have := (World.ownsRow.lt h g he.symm).2; omega

theorem dec_len (b : List UInt8) (a : Int) : ((dec b a).getD .zero).l.length ≤ 400 := by
  unfold dec
  split
  · simp [DRec.zero]
  · cases hd : decN b a.toNat with
    | none => simp [DRec.zero]
    | some r => have := validRec_facts (decN_some hd).2.1; simp only [Option.getD_some]; omega

end Go.Proofs.Ytophjmphjdhjoaa

/- ReadRecords and CountRecords of the program and of the reference. -/
namespace Go.Proofs.Ytophjmphjdhjoaa
open Go.RowKit Go.Sort

/-- the cells of records, each with its data's slice -/
def rcells (p : DRec × Value) : List Value := [.int .i64 p.1.k, .string p.1.nm, .int .i64 p.1.ver, p.2]
theorem rcells_len (ps : List (DRec × Value)) : (ps.flatMap rcells).length = ps.length * 4 := by
  induction ps with
  | nil => rfl
  | cons p t ih => rw [List.flatMap_cons, List.length_append, ih, List.length_cons]; simp [rcells]; omega
/-- no two of the values lie in one block -/
def Apart (vs : List Value) : Prop := vs.Pairwise fun a b => ∀ g, a.ownBlock = some g → b.ownBlock ≠ some g
section
variable {P : Program} {ops : Array Oper} {rest : List Oper} {o : Oper} {a : Act} {Q : Exit → Act → World → Prop}
/-- append(s, x1, .., xm), with what becomes of the block -/
theorem wpList_appB (hgd : o.guard = none) (s x : Operand) (t : TypeId) (ho : o.op = .call { callee := .builtin .append, args := #[s, x], argTypes := #[t, t] })
    {e : TypeId} {size bytes : Nat} {z : Value} (hE : Elem P t e size bytes z) (w0 w : World) (v : Value) (n : Nat) (xs : List Value) (hs : a.eval s = v) (hown : Own e size w0 w v n xs)
    (he : Ext w0 w) (news : List Value) (cs : Array Value) (hcs : cs = news.toArray) (m c g : Nat) (hx : a.eval x = .slice (some ⟨g, 0, none⟩) m c) (hgw : g = w.heap.size) (hl : news.length = m * size) (h1 : ∀ u ∈ news, u.oneCell' = true)
    (hm : n + m ≤ maxLen) (hb : (n + m) * bytes ≤ 140737488355328)
    (h : ∀ v' w', Own e size w0 w' v' (n + m) (xs ++ news) → Ext w0 w' → (v'.ownBlock = v.ownBlock ∨ v'.ownBlock = some (w.alloc (.cells cs e)).heap.size) → (w.alloc (.cells cs e)).grownBy w' v.ownBlock → wpList P ops Q rest (a.put o.dst v') w') :
    wpList P ops Q (o :: rest) a (w.alloc (.cells cs e)) := by
  subst hcs; subst hgw
  refine wpList_app_any hgd s x t ho hE w0 _ v n xs hs (World.ownsRow.alloc hown _) (Ext_alloc _ he) news (some ⟨w.heap.size, 0, none⟩) m c hx hl (fun _ => ⟨_, rfl, fun j u hj => ?_⟩) h1 hm hb h
  rw [World.cell?_alloc_at']; exact hj
end


end Go.Proofs.Ytophjmphjdhjoaa

/- Logs: CountRecords, IsValidLog of the reference, copies. -/
namespace Go.Proofs.Ytophjmphjdhjoaa
open Go.RowKit Go.Sort



/-- a block of two cells, written one by one -/
theorem stored2 {w1 : World} {g : Nat} {x0 x1 : Value} (h : ∀ i, w1.cell? ⟨g, i, none⟩ = #[x0, x1][i]?) :
    (∀ y0, (w1.setCell ⟨g, 0, none⟩ y0).cell? ⟨g, 0, none⟩ = some y0) ∧ (∀ y0 y1, ((w1.setCell ⟨g, 0, none⟩ y0).setCell ⟨g, 1, none⟩ y1).cell? ⟨g, 1, none⟩ = some y1) := by
  have h0 := h 0; have h1 := h 1
  simp at h0 h1
  refine ⟨fun y0 => ?_, fun y0 y1 => ?_⟩
  · apply World.cell?_setCell_same; exact h0
  · apply World.cell?_setCell_same (u := x1); simp [World.cell?_setCell_other, h1]


theorem Rd.take {α : Type} {f : α → Value} {w : World} {A : Option Addr} {l : List α} {c : Nat} (h : Rd f w A l c) (n : Nat) : Rd f w A (l.take n) c := by
  have hn : (l.take n).length ≤ l.length := by simp; omega
  refine ⟨⟨by have := h.cap; omega, by have := h.1.2.1; omega, fun hp => ?_⟩, by have := h.len; omega⟩
  obtain ⟨b, off, h1, h2, h3⟩ := h.base (by omega)
  refine ⟨b, off, h1, h2, fun w' e i hi => ?_⟩
  rw [h3 w' e i (by omega)]
  simp
theorem Rd.none {α : Type} {f : α → Value} {l : List α} (hl : l.length = 0) (w : World) (A : Option Addr) (c : Nat) : Rd f w A l c := ⟨⟨by omega, by omega, fun h => by omega⟩, by omega⟩
end Go.Proofs.Ytophjmphjdhjoaa

/- IsValidLog of the program: the scan that panics, and the deferred closure that recovers. -/
namespace Go.Proofs.Ytophjmphjdhjoaa
open Go.RowKit Go.Sort

section
variable {P : Program}
theorem run_ta_hit (w : World) (t xT : TypeId) (fs : Array Field) (v : Value) (h : P.underlying t = some (.struct fs)) : (Instr.typeAssert (.iface t v) xT t true).run P w = .ok (.tuple #[v, .bool true]) w := by
  simp [Instr.typeAssert, run_underlying h, go_sem, Result.andThen]
theorem run_ta_nil (w : World) (t xT : TypeId) (fs : Array Field) (z : Value) (h : P.underlying t = some (.struct fs)) (hz : (P.info? t).map (·.zero) = some (some z)) : (Instr.typeAssert .nilIface xT t true).run P w = .ok (.tuple #[z, .bool false]) w := by
  obtain ⟨j, hj, hz'⟩ := Option.map_eq_some_iff.1 hz
  simp [Instr.typeAssert, run_underlying h, zeroValue, typeInfo, hj, hz']
end
end Go.Proofs.Ytophjmphjdhjoaa

/- StoreLog, CrashLog and AppendRecord of the program and of the reference. -/
namespace Go.Proofs.Ytophjmphjdhjoaa
open Go.RowKit Go.Sort

theorem grown_setCell (w : World) (a : Addr) (u : Value) : w.grownBy (w.setCell a u) (some a.block) :=
  ⟨rfl, rfl, rfl, by simp, fun k _ hk => heap_setCell_other w a k u (fun e => hk (by rw [e]))⟩
/-- a row of the call's own stays where another block is written -/
theorem OwnL.set {α : Type} {f : α → Value} {e : TypeId} {w0 w : World} {v : Value} {l : List α} (h : OwnL f e w0 w v l) (p : Addr) (u : Value) (hne : v.ownBlock ≠ some p.block) : OwnL f e w0 (w.setCell p u) v l := by
  refine World.ownsRow.kept h (grown_setCell w p u) ?_
  cases hb : v.ownBlock with
  | none => exact .inl rfl
  | some g => right; rw [hb] at hne; exact fun he => hne he
theorem OwnL.lt_ne {α : Type} {f : α → Value} {e : TypeId} {w0 w : World} {v : Value} {l : List α} (h : OwnL f e w0 w v l) {b : Nat} (hb : b < w0.heap.size ∨ w.heap.size ≤ b) : v.ownBlock ≠ some b := by
  intro hv
  have h1 := World.ownsRow.lt h b hv
  omega
theorem OwnL.take {α : Type} {f : α → Value} {e : TypeId} {w0 w : World} {A : Option Addr} {n c : Nat} {l : List α} (h : OwnL f e w0 w (.slice A l.length c) l) (hn : n ≤ l.length) : OwnL f e w0 w (.slice A n c) (l.take n) := by
  have hl : (l.take n).length = n := by simp; omega
  unfold OwnL
  rw [hl]
  refine ⟨by simpa using hl, ?_⟩
  rcases h.2 with ⟨hv, h0⟩ | ⟨g, cap, cur, hv, hb, hg, hnc, hcm, hcs, htake⟩
  · injection hv with h1 _ h3
    subst h1; subst h3
    exact .inl ⟨by rw [show n = 0 by omega], by omega⟩
  · injection hv with h1 _ h3
    subst h1; subst h3
    refine .inr ⟨g, c, cur, rfl, hb, hg, by omega, hcm, hcs, ?_⟩
    have : (cur.toList.take (l.length * 1)).take n = (l.map f).take n := by rw [htake]
    rw [List.take_take, Nat.min_eq_left (by omega)] at this
    rw [Nat.mul_one, this, List.map_take]
/-- what is stored behind StoreLog -/
def storeAt (l : List UInt8) (s : Int) : Int := if validLog l s then l.length else s


/-- where a crashed log is cut, what is stored of it -/
def keptOf (l : List UInt8) (s k : Int) : Nat := (min (max k s) (l.length : Int)).toNat
def crashEnd (l : List UInt8) (s k : Int) : Nat := if validLog l s then stop (l.take (keptOf l s k)) 0 else l.length
def crashAt (l : List UInt8) (s k : Int) : Int := if validLog l s then stop (l.take (keptOf l s k)) 0 else s
theorem keptOf_facts {l : List UInt8} {s k : Int} (h : validLog l s = true) : keptOf l s k ≤ l.length ∧ (if (l.length : Int) < (if k < s then s else k) then (l.length : Int) else (if k < s then s else k)) = (keptOf l s k : Int) ∧
    (if s < (if (l.length : Int) < k then (l.length : Int) else k) then (if (l.length : Int) < k then (l.length : Int) else k) else s) = (keptOf l s k : Int) := by
  have hf := validLog_facts h
  unfold keptOf
  refine ⟨by omega, ?_, ?_⟩
  · split <;> split <;> omega
  · split <;> split <;> omega
theorem crashEnd_le {l : List UInt8} {s k : Int} (h : validLog l s = true) : stop (l.take (keptOf l s k)) 0 ≤ l.length := by
  have h1 := (stop_le (b := l.take (keptOf l s k)) (a := 0) (by omega)).1
  rw [List.length_take] at h1; omega


end Go.Proofs.Ytophjmphjdhjoaa
