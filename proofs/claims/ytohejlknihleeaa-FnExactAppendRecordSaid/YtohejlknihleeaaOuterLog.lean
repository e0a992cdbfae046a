/- A log that came in. -/
import Derived.Test.YtohejlknihleeaaOuter
import Derived.Test.YtohejlknihleeaaLog
namespace Go.Proofs.Ytohejlknihleeaa
open Go.ChangeShapes Go.WideShapes Go.ChangeAt Go.RowKit Go.Deep

structure LogIn where
  A : Option Addr
  l : List UInt8
  c : Nat
  s : Int
def LogIn.val (x : LogIn) : Value := vlog (.slice x.A x.l.length x.c) x.s
def LogIn.rd (x : LogIn) (W : World) : Prop := Rd0 vu8 W x.A x.l x.c ∧ (Lit.int .i64 x.s).wf = true
set_option maxRecDepth 100000 in
theorem in_log {H : Type} {enc : TypeId × Value → H} {W : World} {base : Nat} {spare : Nat → Bool} {held : Bool} {r : Reach} {b0 : Nat} {v : Value} {d : DataW H} {p : List MemPlace}
    (hv : Value.okWide Try.prog W r b0 50 v) (h : DataW.Trod enc Try.prog W base spare held 50 v d p) : ∃ x : LogIn, v = x.val ∧ x.rd W := by
  obtain ⟨v0, v1, y0, y1, n, rfl, h0, h1⟩ := open_agg_2 Try.underlying50 (by kernel_rfl) (by kernel_rfl) hv h
  dsimp only at h0 h1
  obtain ⟨A, l, c, rfl, hr⟩ := in_bytes Try.underlying22 Try.underlying5 (by kernel_rfl) h0
  obtain ⟨s, e1, _, hs⟩ := DataW.trod_int Try.underlying3 h1
  simp at e1
  subst e1
  exact ⟨⟨A, l, c, s⟩, rfl, hr, hs⟩
end Go.Proofs.Ytohejlknihleeaa
