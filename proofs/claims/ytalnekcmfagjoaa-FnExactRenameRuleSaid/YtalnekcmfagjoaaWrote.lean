/- Worlds that differ in blocks of a stretch, and in new ones. -/
import Derived.Test.YtalnekcmfagjoaaBox
namespace Go.Proofs.Ytalnekcmfagjoaa
open Go.RowKit Go.Sort

/-- w' is w with new blocks, and writes to blocks from lo on, below hi -/
structure Wrote (lo hi : Nat) (w w' : World) : Prop where
  os : w'.os = w.os
  tape : w'.tape = w.tape
  output : w'.output = w.output
  size : w.heap.size ≤ w'.heap.size
  block : ∀ k, k < w.heap.size → (k < lo ∨ hi ≤ k) → w'.heap[k]? = w.heap[k]?
theorem Wrote.refl (lo hi : Nat) (w : World) : Wrote lo hi w w := ⟨rfl, rfl, rfl, Nat.le_refl _, fun _ _ _ => rfl⟩
theorem Wrote.trans {lo hi : Nat} {a b c : World} (h : Wrote lo hi a b) (k : Wrote lo hi b c) : Wrote lo hi a c :=
  ⟨k.os.trans h.os, k.tape.trans h.tape, k.output.trans h.output, Nat.le_trans h.size k.size, fun i hi hb => (k.block i (Nat.lt_of_lt_of_le hi h.size) hb).trans (h.block i hi hb)⟩
theorem Wrote.mono {lo hi lo' hi' : Nat} {a b : World} (h : Wrote lo hi a b) (h1 : lo' ≤ lo) (h2 : hi ≤ hi') : Wrote lo' hi' a b :=
  ⟨h.os, h.tape, h.output, h.size, fun i hi hb => h.block i hi (by omega)⟩
theorem Wrote.ext {lo hi : Nat} {w w' : World} (e : Ext w w') : Wrote lo hi w w' := ⟨e.os, e.tape, e.output, e.size, fun i hi _ => Below.block e i hi⟩
theorem Wrote.grown {lo hi : Nat} {w w' : World} {row : Option Nat} (h : w.grownBy w' row) (hr : ∀ g, row = some g → lo ≤ g ∧ g < hi) : Wrote lo hi w w' :=
  ⟨h.os, h.tape, h.output, h.size, fun i hi hb => h.block i hi (fun e => by have := hr i e.symm; omega)⟩
theorem Wrote.set {lo hi : Nat} (w : World) (a : Addr) (u : Value) (h1 : lo ≤ a.block) (h2 : a.block < hi) : Wrote lo hi w (w.setCell a u) :=
  Wrote.grown (grown_set w a u) (fun g hg => by injection hg with hg; subst hg; exact ⟨h1, h2⟩)
/-- what was there before lo stays -/
theorem Wrote.below {lo hi : Nat} {w0 w w' : World} (h : Wrote lo hi w w') (e : Ext w0 w) (hlo : w0.heap.size ≤ lo) : Ext w0 w' :=
  Below.trans e ⟨h.os, h.tape, h.output, h.size, fun k hk => h.block k (Nat.lt_of_lt_of_le hk e.size) (.inl (Nat.lt_of_lt_of_le hk hlo))⟩
theorem Own.wrote {e : TypeId} {size : Nat} {w0 w w' : World} {v : Value} {n : Nat} {xs : List Value} (h : Own e size w0 w v n xs) {lo hi : Nat} (hw : Wrote lo hi w w') (hv : ∀ g, v.ownBlock = some g → g < lo ∨ hi ≤ g) : Own e size w0 w' v n xs := by
  refine ⟨h.1, ?_⟩
  rcases h.2 with h0 | ⟨g, cap, cur, rfl, hb, hg, r⟩
  · exact .inl h0
  · exact .inr ⟨g, cap, cur, rfl, hb, (hw.block g (Array.getElem?_eq_some_iff.1 hg).1 (hv g rfl)).trans hg, r⟩
theorem OwnL.wrote {α : Type} {f : α → Value} {e : TypeId} {w0 w w' : World} {v : Value} {l : List α} (h : OwnL f e w0 w v l) {lo hi : Nat} (hw : Wrote lo hi w w') (hv : ∀ g, v.ownBlock = some g → g < lo ∨ hi ≤ g) : OwnL f e w0 w' v l := Own.wrote h hw hv
/-- .. made behind the stretch -/
theorem OwnL.behind {α : Type} {f : α → Value} {e : TypeId} {w0 w w' : World} {v : Value} {l : List α} (h : OwnL f e w0 w v l) {lo hi : Nat} (hw : Wrote lo hi w w') (hb : hi ≤ w0.heap.size) : OwnL f e w0 w' v l :=
  h.wrote hw (fun g hg => .inr (Nat.le_trans hb (World.ownsRow.lt h g hg).1))
end Go.Proofs.Ytalnekcmfagjoaa
