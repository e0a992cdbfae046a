/- A record that came in. -/
import Derived.Test.YtohejlknihleeaaOuter
import Derived.Test.YtohejlknihleeaaRecord
namespace Go.Proofs.Ytohejlknihleeaa
open Go.ChangeShapes Go.WideShapes Go.ChangeAt Go.RowKit Go.Deep

structure RecordIn where
  k : Int
  nm : ByteArray
  ver : Int
  A : Option Addr
  l : List UInt8
  c : Nat
def RecordIn.val (x : RecordIn) : Value := vrec x.k x.nm x.ver (.slice x.A x.l.length x.c)
def RecordIn.rd (x : RecordIn) (W : World) : Prop := Rd0 vu8 W x.A x.l x.c ∧ x.nm.size ≤ 9223372036854775807 ∧ (Lit.int .i64 x.k).wf = true ∧ (Lit.int .i64 x.ver).wf = true
set_option maxRecDepth 100000 in
theorem in_record {H : Type} {enc : TypeId × Value → H} {W : World} {base : Nat} {spare : Nat → Bool} {held : Bool} {r : Reach} {b0 : Nat} {v : Value} {d : DataW H} {p : List MemPlace}
    (hv : Value.okWide Try.prog W r b0 34 v) (h : DataW.Trod enc Try.prog W base spare held 34 v d p) : ∃ x : RecordIn, v = x.val ∧ x.rd W := by
  obtain ⟨v0, v1, v2, v3, y0, y1, y2, y3, n, rfl, h0, h1, h2, h3⟩ := open_agg_4 Try.underlying34 (by kernel_rfl) (by kernel_rfl) hv h
  dsimp only at h0 h1 h2 h3
  obtain ⟨k, e0, _, hk⟩ := DataW.trod_int Try.underlying3 h0
  obtain ⟨nm, e1, _, hn⟩ := DataW.trod_string Try.underlying9 h1
  obtain ⟨ver, e2, _, hw⟩ := DataW.trod_int Try.underlying3 h2
  obtain ⟨A, l, c, rfl, hr⟩ := in_bytes Try.underlying22 Try.underlying5 (by kernel_rfl) h3
  simp at e0 e1 e2
  subst e0 e1 e2
  exact ⟨⟨k, nm, ver, A, l, c⟩, rfl, hr, by simpa [maxLen] using hn, hk, hw⟩
end Go.Proofs.Ytohejlknihleeaa
