/- Archives that came in. -/
import Derived.Test.YthkaminpfacbpaaOuterDesc
import Derived.Test.YthkaminpfacbpaaArch
namespace Go.Proofs.Ythkaminpfacbpaa
open Go.ChangeShapes Go.WideShapes Go.ChangeAt Go.RowKit Go.Deep

section
variable {H : Type} {enc : TypeId × Value → H} {W : World} {base : Nat} {spare : Nat → Bool} {held : Bool}
set_option maxRecDepth 100000 in
theorem trod_agg2 {t : TypeId} {f0 f1 : Field} {n : Nat} {cs : List Value} {y : DataW H × List MemPlace} (hs : Try.prog.underlying t = some (.struct #[f0, f1])) (hone : oneCellFields Try.prog #[f0, f1] = true) (hC : Try.prog.cellsOf t = 2)
    (h : DataW.trod enc Try.prog W base spare held n t cs = some y) : ∃ (v0 v1 : Value) (y0 y1 : DataW H × List MemPlace) (m : Nat), cs = [v0, v1] ∧ DataW.trod enc Try.prog W base spare held m f0.type [v0] = some y0 ∧ DataW.trod enc Try.prog W base spare held m f1.type [v1] = some y1 := by
  obtain ⟨xs, m, _, _, hcl, hlen, hg⟩ := DataW.trod_struct hs h
  rw [hC] at hcl
  match cs, hcl with
  | [c0, c1], _ =>
    obtain ⟨o0, k0⟩ := Go.Deep.hone_of hone 0 f0 rfl
    obtain ⟨o1, k1⟩ := Go.Deep.hone_of hone 1 f1 rfl
    match xs, hlen with
    | [y0, y1], _ =>
      exact ⟨c0, c1, y0, y1, m, rfl, by simpa [o0, k0] using hg 0 f0 rfl, by simpa [o1, k1] using hg 1 f1 rfl⟩
structure ArchIn where
  A : Option Addr
  ds : List (List DRule)
  c : Nat
  L : Option Addr
  l : List UInt8
  k : Nat
  s : Int
def ArchIn.val (x : ArchIn) : Value := varch (.slice x.A x.ds.length x.c) (.slice x.L x.l.length x.k) x.s
def ArchIn.rd (x : ArchIn) (W : World) : Prop := RdA W x.A x.ds x.c x.L x.l x.k ∧ WfG x.ds
set_option maxRecDepth 100000 in
theorem in_archive {r : Reach} {b0 : Nat} {v : Value} {d : DataW H} {p : List MemPlace}
    (hv : Value.okWide Try.prog W r b0 53 v) (h : DataW.Trod enc Try.prog W base spare held 53 v d p) : ∃ x : ArchIn, v = x.val ∧ x.rd W := by
  obtain ⟨cs, rfl, hsz⟩ := okWide_struct Try.underlying53 hv
  have hC : Try.prog.cellsOf 53 = 3 := by kernel_rfl
  have hC0 : Try.prog.cellsOf 24 = 1 := by kernel_rfl
  have hC1 : Try.prog.cellsOf 51 = 2 := by kernel_rfl
  obtain ⟨l⟩ := cs
  match l, hsz.trans hC with
  | [c0, c1, c2], _ =>
    obtain ⟨fuel, hf⟩ := h
    obtain ⟨xs, n, _, hx, _, hlen, hg⟩ := DataW.trod_struct Try.underlying53 hf
    match xs, hlen with
    | [y0, y1], _ =>
      have g0 : DataW.trod enc Try.prog W base spare held n 24 [c0] = some y0 := by simpa [Value.cells, hC0] using hg 0 _ rfl
      have g1 : DataW.trod enc Try.prog W base spare held n 51 [c1, c2] = some y1 := by simpa [Value.cells, hC1] using hg 1 _ rfl
      obtain ⟨m, y', h'⟩ := trod_one Try.underlying24 (by kernel_rfl) g0
      obtain ⟨A, ds, c, rfl, r1, r2⟩ := in_descs h'
      obtain ⟨v0, v1, z0, z1, m', hcs, h0, h1⟩ := trod_agg2 Try.underlying51 (by kernel_rfl) (by kernel_rfl) g1
      dsimp only at h0 h1
      obtain ⟨L, lb, k, rfl, r3⟩ := in_bytes Try.underlying49 Try.underlying5 (by kernel_rfl) h0
      obtain ⟨s, e1, _, hs⟩ := DataW.trod_int Try.underlying3 h1
      simp at e1
      subst e1
      injection hcs with e2 e3
      injection e3 with e3 _
      subst e2; subst e3
      exact ⟨⟨A, ds, c, L, lb, k, s⟩, rfl, ⟨r1, r3⟩, r2⟩
end
end Go.Proofs.Ythkaminpfacbpaa
