/- Texts, laid into one. -/
import Derived.JoinedOf
import Derived.KernelRfl
import Derived.ProofKit
import Derived.OpenShut
import Derived.ShutString
import Derived.ChangeOld
import Derived.Deep.Fields
import Derived.SliceStrings
import Derived.Test.YtpmcofmdjckijaaGreatZPb23
set_option linter.unusedVariables false
set_option linter.unusedSimpArgs false
set_option maxRecDepth 100000
set_option maxHeartbeats 16000000
namespace Go.Proofs.YtpmcofmdjckijaaGreat
theorem and_ : ∀ {a b : Bool}, a = true → b = true → (a && b) = true
 | true, true, _, _ => rfl
def ioL : List Char := List.map Char.ofNat [104, 97, 114, 110, 101, 115, 115, 32, 102, 57, 54, 49, 53, 99, 49, 48, 101, 52, 97, 48, 57, 50, 57, 53, 53, 97, 51, 97, 98, 50, 102, 50, 101, 56, 50, 100, 99, 102, 55, 97, 56, 57, 57, 56, 50, 57, 97, 54, 52, 54, 56, 55, 53, 102, 97, 49, 49, 101, 53, 52, 54, 97, 99, 101, 101, 100, 100, 50, 53, 49, 97, 101, 32, 99, 117, 116, 32, 97, 116, 32, 108, 111, 111, 112, 46, 101, 120, 97, 109, 112, 108, 101, 47, 103, 48, 48, 53, 49, 56, 47, 108, 97, 119, 115, 46, 70, 110, 68, 105, 115, 97, 103, 114, 101, 101, 109, 101, 110, 116, 32, 108, 111, 111, 112, 46, 101, 120, 97, 109, 112, 108, 101, 47, 103, 48, 48, 53, 49, 56, 47, 108, 97, 119, 115, 46, 70, 110, 69, 120, 97, 99, 116, 80, 105, 101, 99, 101, 115, 65, 103, 114, 101, 101]
def cutW : List Char := List.map Char.ofNat [99, 117, 116]
theorem io_eq : Tryz.prog.initOrder = String.ofList ioL := by
 unfold Tryz.prog
 dsimp only [Tryz.progTables]
 kernel_rfl
theorem io_list : Tryz.prog.initOrder.toList = ioL := by rw [io_eq, String.toList_ofList]
theorem io_words : behindMainWord (wordsSigns ioL) = cutW :: (behindMainWord (wordsSigns ioL)).tail := by kernel_rfl
theorem io_strip (rest : List (List Char)) : stripLifts liftWords (cutW :: rest) = ([], cutW :: rest) := by kernel_rfl
theorem cut_gc : (cutW == "gc".toList || cutW == "spec".toList) = false := by kernel_rfl
theorem cut_carried : (cutW == "carried".toList) = false := by kernel_rfl
theorem cut_carried' : (some cutW == some "carried".toList) = false := by kernel_rfl
theorem cut_cut : (some cutW == some "cut".toList) = true := by kernel_rfl
theorem cut_cut' : (cutW == "cut".toList) = true := by kernel_rfl
theorem no_later : Tryz.prog.laysLater = false := by kernel_rfl
theorem no_reflect : Tryz.prog.bearsReflect = false := by kernel_rfl
theorem door_fits : Tryz.prog.doorFits [] = true := by kernel_rfl
section
variable {P : Program} {rest : List (List Char)} (h : behindMainWord (wordsSigns P.initOrder.toList) = cutW :: rest)
include h
theorem head_lifts_of : P.headLifts = [] := by
 unfold Program.headLifts
 rw [h, io_strip]
 simp only [List.head?_cons, cut_cut, if_true]
theorem enter_of (h1 : P.laysLater = false) (h2 : P.bearsReflect = false) (h3 : P.doorFits [] = true) : P.mayEnter = true := by
 unfold Program.mayEnter
 rw [h]
 simp only [io_strip, cut_gc, cut_carried, cut_cut, h1, h2, h3, List.head?_cons, Bool.false_and, Bool.false_or, Bool.not_false, Bool.and_true, Bool.or_true, List.contains_nil]
theorem final_of : P.liftsFinal = false := by
 unfold Program.liftsFinal
 rw [head_lifts_of h, h]
 simp only [List.head?_cons, cut_carried', Bool.false_and, Bool.false_or, List.contains_nil]
theorem make_of : P.make = some .cut := by
 unfold Program.make
 rw [h]
 simp only [cut_gc, cut_cut', Bool.true_or, if_true]
 rfl
end
theorem io_head : behindMainWord (wordsSigns Tryz.prog.initOrder.toList) = cutW :: (behindMainWord (wordsSigns ioL)).tail := by rw [io_list]; exact io_words
theorem fact_enter : Tryz.prog.mayEnter = true := enter_of io_head no_later no_reflect door_fits
theorem fact_final : Tryz.prog.liftsFinal = false := final_of io_head
theorem fact_make : Tryz.prog.make = some .cut := make_of io_head
theorem fact_final' : (false == Tryz.prog.liftsFinal) = true := by rw [fact_final]; rfl
theorem fact_make' : (Tryz.prog.make == some Make.cut) = true := by rw [fact_make]; kernel_rfl
theorem fact_laid : laidOutB Tryz.prog = true := by kernel_rfl
theorem fact_maps : mapsRowed Tryz.prog = true := by kernel_rfl
theorem fact_stops : (Tryz.prog.stops == []) = true := by kernel_rfl
theorem fact_knobs : (Tryz.prog.stopKnobs == []) = true := by kernel_rfl
theorem fact_heard : Tryz.prog.stopsHeard = true := by kernel_rfl
end Go.Proofs.YtpmcofmdjckijaaGreat
namespace Go.Proofs.YtpmcofmdjckijaaGreat
open Go.ChangeShapes Go.WideShapes Go.ChangeAt Go.RowKit Go.Deep
theorem own : ownKnob Tryz.prog.godebug = none := by kernel_rfl
theorem laidOut : laidOutB Tryz.prog = true := fact_laid
theorem rd0_of_cells {α : Type} {f : α → Value} {W : World} {x : Addr} {l : List α} {c : Nat} (hc0 : l.length ≤ c) (hl : l.length ≤ 9223372036854775807) (hc : ∀ i (h : i < l.length), W.cell? (x.add i) = some (f l[i])) : Rd0 f W (some x) l c := by
 refine ⟨hc0, hl, fun hp => ?_⟩
 obtain ⟨b, off, spot⟩ := x
 have h0 := hc 0 hp
 have hspot : spot = none := by simpa [Addr.add] using World.cell?_spot h0
 subst hspot
 refine ⟨b, off, rfl, ?_, fun w' e i hi => ?_⟩
 ·have := block_lt_of_cell h0; simpa [Addr.add] using this
 ·have h1 := hc i hi
  have hadd : (⟨b, off, none⟩ : Addr).add i = ⟨b, off + i, none⟩ := by unfold Addr.add; split <;> simp_all
  rw [hadd] at h1
  exact (Below.cell e (by simpa using block_lt_of_cell h1)).trans h1
section
variable {H : Type} {enc : TypeId × Value → H} {W : World} {base : Nat} {spare : Nat → Bool} {held : Bool}
theorem in_bytes {T E : TypeId} (hT : Tryz.prog.underlying T = some (.slice E)) (hE : Tryz.prog.underlying E = some (.int .u8)) (hC : Tryz.prog.cellsOf E = 1)
 {n : Nat} {v : Value} {y : DataW H × List MemPlace} (h : DataW.trod enc Tryz.prog W base spare held n T [v] = some y) :
 ∃ (A : Option Addr) (l : List UInt8) (c : Nat), v = .slice A l.length c ∧ Rd0 vu8 W A l c := by
 rcases open_ints hT hE hC h with ⟨hcs, _⟩ | ⟨x, len, c, zs, hcs, _, hl, hm, hz, _, hcell, hwz⟩
 ·obtain rfl : v = .slice none 0 0 := by simpa using hcs
  exact ⟨none, [], 0, rfl, by simp, by simp, fun h => by simp at h⟩
 ·obtain rfl : v = .slice (some x) len c := by simpa using hcs
  have hlz : len ≤ zs.length := by rw [hz]; split <;> omega
  refine ⟨some x, (zs.take len).map (fun z => UInt8.ofNat z.toNat), c, by simp; omega, rd0_of_cells (by simp; omega) (by simp [maxLen] at hm ⊢; omega) fun i hi => ?_⟩
  have hi' : i < len := by simp at hi; omega
  rw [hcell i (by omega)]
  have hb := bounds_u8 (hwz zs[i] (List.getElem_mem (by omega)))
  simp [vu8, List.getElem?_eq_getElem (show i < zs.length by omega)]
  omega
def RdInts (W : World) (A : Option Addr) (l : List Int) (c : Nat) : Prop := Rd0 vint W A l c ∧ ∀ x ∈ l, (Lit.int .i64 x).wf = true
theorem in_ints {T E : TypeId} (hT : Tryz.prog.underlying T = some (.slice E)) (hE : Tryz.prog.underlying E = some (.int .i64)) (hC : Tryz.prog.cellsOf E = 1)
 {n : Nat} {v : Value} {y : DataW H × List MemPlace} (h : DataW.trod enc Tryz.prog W base spare held n T [v] = some y) :
 ∃ (A : Option Addr) (l : List Int) (c : Nat), v = .slice A l.length c ∧ RdInts W A l c := by
 rcases open_ints hT hE hC h with ⟨hcs, _⟩ | ⟨x, len, c, zs, hcs, _, hl, hm, hz, _, hcell, hwz⟩
 ·obtain rfl : v = .slice none 0 0 := by simpa using hcs
  exact ⟨none, [], 0, rfl, ⟨by simp, by simp, fun h => by simp at h⟩, by simp⟩
 ·obtain rfl : v = .slice (some x) len c := by simpa using hcs
  have hlz : len ≤ zs.length := by rw [hz]; split <;> omega
  refine ⟨some x, zs.take len, c, by simp; omega, rd0_of_cells (by simp; omega) (by simp [maxLen] at hm ⊢; omega) (fun i hi => ?_), fun z hz => hwz z (List.mem_of_mem_take hz)⟩
  have hi' : i < len := by simp at hi; omega
  rw [hcell i (by omega)]
  simp [vint, List.getElem?_eq_getElem (show i < zs.length by omega)]
end
theorem exists_list {α : Type} (n : Nat) (P : Nat → α → Prop) (h : ∀ i, i < n → ∃ x, P i x) : ∃ l : List α, l.length = n ∧ ∀ i (hi : i < l.length), P i l[i] := by
 induction n with
 | zero => exact ⟨[], rfl, fun i hi => by simp at hi⟩
 | succ n ih =>
  obtain ⟨l, hl, hp⟩ := ih (fun i hi => h i (by omega))
  obtain ⟨x, hx⟩ := h n (by omega)
  refine ⟨l ++ [x], by simp [hl], fun i hi => ?_⟩
  by_cases hlt : i < l.length
  ·rw [List.getElem_append_left hlt]; exact hp i hlt
  ·have : i = n := by simp at hi; omega
   subst this
   rw [List.getElem_append_right (by omega)]
   simpa [hl] using hx
section
variable {H : Type} {enc : TypeId × Value → H} {W : World} {base : Nat} {spare : Nat → Bool} {held : Bool}
theorem in_strs {T E : TypeId} (hT : Tryz.prog.underlying T = some (.slice E)) (hE : Tryz.prog.underlying E = some .string) (hC : Tryz.prog.cellsOf E = 1)
 {n : Nat} {v : Value} {y : DataW H × List MemPlace} (h : DataW.trod enc Tryz.prog W base spare held n T [v] = some y) :
 ∃ (A : Option Addr) (l : List ByteArray) (c : Nat), v = .slice A l.length c ∧ Rd0 vstr W A l c ∧ ∀ s ∈ l, s.size ≤ 9223372036854775807 := by
 rcases open_strings hT hE hC h with ⟨hcs, _⟩ | ⟨x, len, c, zs, hcs, _, hl, hm, hz, _, hcell, hwz⟩
 ·obtain rfl : v = .slice none 0 0 := by simpa using hcs
  exact ⟨none, [], 0, rfl, ⟨by simp, by simp, fun h => by simp at h⟩, by simp⟩
 ·obtain rfl : v = .slice (some x) len c := by simpa using hcs
  have hlz : len ≤ zs.length := by rw [hz]; split <;> omega
  refine ⟨some x, zs.take len, c, by simp; omega, rd0_of_cells (by simp; omega) (by simp [maxLen] at hm ⊢; omega) (fun i hi => ?_), fun z hz => by have := hwz z (List.mem_of_mem_take hz); simpa [maxLen] using this⟩
  have hi' : i < len := by simp at hi; omega
  rw [hcell i (by omega)]
  simp [vstr, List.getElem?_eq_getElem (show i < zs.length by omega)]
theorem trod_agg8 {t : TypeId} {f0 f1 f2 f3 f4 f5 f6 f7 : Field} {n : Nat} {cs : List Value} {y : DataW H × List MemPlace} (hs : Tryz.prog.underlying t = some (.struct #[f0, f1, f2, f3, f4, f5, f6, f7])) (hone : oneCellFields Tryz.prog #[f0, f1, f2, f3, f4, f5, f6, f7] = true) (hC : Tryz.prog.cellsOf t = 8)
 (h : DataW.trod enc Tryz.prog W base spare held n t cs = some y) : ∃ (v0 v1 v2 v3 v4 v5 v6 v7 : Value) (y0 y1 y2 y3 y4 y5 y6 y7 : DataW H × List MemPlace) (m : Nat), cs = [v0, v1, v2, v3, v4, v5, v6, v7] ∧ DataW.trod enc Tryz.prog W base spare held m f0.type [v0] = some y0 ∧ DataW.trod enc Tryz.prog W base spare held m f1.type [v1] = some y1 ∧ DataW.trod enc Tryz.prog W base spare held m f2.type [v2] = some y2 ∧ DataW.trod enc Tryz.prog W base spare held m f3.type [v3] = some y3 ∧ DataW.trod enc Tryz.prog W base spare held m f4.type [v4] = some y4 ∧ DataW.trod enc Tryz.prog W base spare held m f5.type [v5] = some y5 ∧ DataW.trod enc Tryz.prog W base spare held m f6.type [v6] = some y6 ∧ DataW.trod enc Tryz.prog W base spare held m f7.type [v7] = some y7 := by
 obtain ⟨xs, m, _, _, hcl, hlen, hg⟩ := DataW.trod_struct hs h
 rw [hC] at hcl
 match cs, hcl with
 | [c0, c1, c2, c3, c4, c5, c6, c7], _ =>
  obtain ⟨o0, k0⟩ := Go.Deep.hone_of hone 0 f0 rfl
  obtain ⟨o1, k1⟩ := Go.Deep.hone_of hone 1 f1 rfl
  obtain ⟨o2, k2⟩ := Go.Deep.hone_of hone 2 f2 rfl
  obtain ⟨o3, k3⟩ := Go.Deep.hone_of hone 3 f3 rfl
  obtain ⟨o4, k4⟩ := Go.Deep.hone_of hone 4 f4 rfl
  obtain ⟨o5, k5⟩ := Go.Deep.hone_of hone 5 f5 rfl
  obtain ⟨o6, k6⟩ := Go.Deep.hone_of hone 6 f6 rfl
  obtain ⟨o7, k7⟩ := Go.Deep.hone_of hone 7 f7 rfl
  match xs, hlen with
  | [y0, y1, y2, y3, y4, y5, y6, y7], _ =>
   exact ⟨c0, c1, c2, c3, c4, c5, c6, c7, y0, y1, y2, y3, y4, y5, y6, y7, m, rfl, by simpa [o0, k0] using hg 0 f0 rfl, by simpa [o1, k1] using hg 1 f1 rfl, by simpa [o2, k2] using hg 2 f2 rfl, by simpa [o3, k3] using hg 3 f3 rfl, by simpa [o4, k4] using hg 4 f4 rfl, by simpa [o5, k5] using hg 5 f5 rfl, by simpa [o6, k6] using hg 6 f6 rfl, by simpa [o7, k7] using hg 7 f7 rfl⟩
theorem trod_rule {n : Nat} {cs : List Value} {y : DataW H × List MemPlace} (h : DataW.trod enc Tryz.prog W base spare held n 92 cs = some y) :
 ∃ (r : DRule) (Ab : Option Addr) (cb : Nat) (An : Option Addr) (cn : Nat) (At : Option Addr) (ct : Nat) (Ak : Option Addr) (ck : Nat),
  cs = [.string r.nm, .int .i64 r.kind, .int .i64 r.size, .bool r.little, .slice Ab r.bytes.length cb, .slice An r.names.length cn, .slice At r.tags.length ct, .slice Ak r.kids.length ck] ∧ RdS W r Ab cb An cn At ct Ak ck ∧ WfR r := by
 obtain ⟨c0, c1, c2, c3, c4, c5, c6, c7, y0, y1, y2, y3, y4, y5, y6, y7, m, rfl, g0, g1, g2, g3, g4, g5, g6, g7⟩ := trod_agg8 Tryz.underlying92 (by kernel_rfl) (by kernel_rfl) h
 dsimp only at g0 g1 g2 g3 g4 g5 g6 g7
 obtain ⟨nm, e0, _, hn⟩ := DataW.trod_string Tryz.underlying9 g0
 obtain ⟨kind, e1, _, hk⟩ := DataW.trod_int Tryz.underlying3 g1
 obtain ⟨size, e2, _, hz⟩ := DataW.trod_int Tryz.underlying3 g2
 obtain ⟨little, e3, _⟩ := DataW.trod_bool Tryz.underlying4 g3
 obtain ⟨Ab, lb, cb, e4, r4⟩ := in_bytes Tryz.underlying22 Tryz.underlying5 (by kernel_rfl) g4
 obtain ⟨An, ln, cn, e5, r5, w5⟩ := in_strs Tryz.underlying85 Tryz.underlying9 (by kernel_rfl) g5
 obtain ⟨At, lt, ct, e6, r6, w6⟩ := in_ints Tryz.underlying53 Tryz.underlying3 (by kernel_rfl) g6
 obtain ⟨Ak, lk, ck, e7, r7, w7⟩ := in_ints Tryz.underlying53 Tryz.underlying3 (by kernel_rfl) g7
 simp at e0 e1 e2 e3 e4 e5 e6 e7
 subst e0 e1 e2 e3 e4 e5 e6 e7
 exact ⟨⟨nm, kind, size, little, lb, ln, lt, lk⟩, Ab, cb, An, cn, At, ct, Ak, ck, rfl, ⟨r4, r5, r6, r7⟩, ⟨by simpa [maxLen] using hn, w5, hk, hz, w6, w7⟩⟩
theorem add_at {b off : Nat} (i j : Nat) : ((⟨b, off, none⟩ : Addr).add i).add j = ⟨b, off + i + j, none⟩ := by
 have h1 : (⟨b, off, none⟩ : Addr).add i = ⟨b, off + i, none⟩ := by unfold Addr.add; split <;> simp_all
 rw [h1]; unfold Addr.add; split <;> simp_all
theorem in_rules {n : Nat} {v : Value} {y : DataW H × List MemPlace} (h : DataW.trod enc Tryz.prog W base spare held n 34 [v] = some y) :
 ∃ (A : Option Addr) (ds : List DRule) (c : Nat), v = .slice A ds.length c ∧ RdD W A ds c ∧ WfD ds := by
 rcases DataW.trod_slice Tryz.underlying34 h with ⟨hcs, _⟩ | ⟨x, len, c, elems, rest, m, _, hcs, _, hb, hl, hm, hlen, hel, _⟩
 ·obtain rfl : v = .slice none 0 0 := by simpa using hcs
  exact ⟨none, [], 0, rfl, RdD.nil W, fun _ h => by cases h⟩
 ·obtain rfl : v = .slice (some x) len c := by simpa using hcs
  have hC : Tryz.prog.cellsOf 92 = 8 := by kernel_rfl
  rw [hC] at hel
  have key : ∀ i, i < len → ∃ r : DRule, (∃ (Ab : Option Addr) (cb : Nat) (An : Option Addr) (cn : Nat) (At : Option Addr) (ct : Nat) (Ak : Option Addr) (ck : Nat), RdS W r Ab cb An cn At ct Ak ck ∧
   ∀ j, j < 8 → W.cell? ((x.add (i * 8)).add j) = ([.string r.nm, .int .i64 r.kind, .int .i64 r.size, .bool r.little, .slice Ab r.bytes.length cb, .slice An r.names.length cn, .slice At r.tags.length ct, .slice Ak r.kids.length ck] : List Value)[j]?) ∧ WfR r := by
   intro i hi
   have h1 := hel i hi
   rw [List.getElem?_eq_getElem (by omega), Option.bind_eq_some_iff] at h1
   obtain ⟨cs, h2, h3⟩ := h1
   obtain ⟨r, Ab, cb, An, cn, At, ct, Ak, ck, rfl, h4, h5⟩ := trod_rule h3
   exact ⟨r, ⟨Ab, cb, An, cn, At, ct, Ak, ck, h4, (World.cells?_some h2).2.2⟩, h5⟩
  obtain ⟨ds, hds, hp⟩ := exists_list len _ key
  subst hds
  refine ⟨some x, ds, c, rfl, ⟨hl, by simp [maxLen] at hm; omega, fun hpos => ?_⟩, fun r hr => ?_⟩
  ·obtain ⟨b, off, spot⟩ := x
   have hspot : spot = none := by
    obtain ⟨⟨Ab, cb, An, cn, At, ct, Ak, ck, _, hc⟩, _⟩ := hp 0 hpos
    have := hc 0 (by omega)
    simpa [Addr.add] using World.cell?_spot this
   subst hspot
   have hblk : b < W.heap.size := by
    obtain ⟨⟨Ab, cb, An, cn, At, ct, Ak, ck, _, hc⟩, _⟩ := hp 0 hpos
    have := hc 0 (by omega)
    rw [add_at] at this
    simpa using block_lt_of_cell this
   refine ⟨b, off, rfl, hblk, fun i hi => ?_⟩
   obtain ⟨⟨Ab, cb, An, cn, At, ct, Ak, ck, hS, hc⟩, _⟩ := hp i hi
   have hc' : ∀ (w' : World), Ext W w' → ∀ j, j < 8 → w'.cell? ⟨b, off + i * 8 + j, none⟩ = ([.string ds[i].nm, .int .i64 ds[i].kind, .int .i64 ds[i].size, .bool ds[i].little, .slice Ab ds[i].bytes.length cb, .slice An ds[i].names.length cn, .slice At ds[i].tags.length ct, .slice Ak ds[i].kids.length ck] : List Value)[j]? := by
    intro w' e j hj
    have h1 := hc j hj
    rw [add_at] at h1
    rw [Below.cell e (p := ⟨b, off + i * 8 + j, none⟩) hblk]
    exact h1
   exact ⟨Ab, cb, An, cn, At, ct, Ak, ck, hS, ⟨fun w' e => by have := hc' w' e 0 (by omega); simpa using this, fun w' e => by have := hc' w' e 1 (by omega); simpa using this, fun w' e => by have := hc' w' e 2 (by omega); simpa using this, fun w' e => by have := hc' w' e 3 (by omega); simpa using this,
    fun w' e => by have := hc' w' e 4 (by omega); simpa using this, fun w' e => by have := hc' w' e 5 (by omega); simpa using this, fun w' e => by have := hc' w' e 6 (by omega); simpa using this, fun w' e => by have := hc' w' e 7 (by omega); simpa using this⟩⟩
  ·obtain ⟨i, hi, rfl⟩ := List.getElem_of_mem hr
   exact (hp i hi).2
theorem open_agg_1 {P : Program} {r : Reach} {b0 : Nat} {t : TypeId} {f0 : Field} {v : Value} {d : DataW H} {p : List MemPlace} (hs : P.underlying t = some (.struct #[f0])) (hone : oneCellFields P #[f0] = true) (hC : P.cellsOf t = 1)
 (hv : Value.okWide P W r b0 t v) (h : DataW.Trod enc P W base spare held t v d p) :
 ∃ (v0 : Value) (y0 : DataW H × List MemPlace) (n : Nat), v = .agg #[v0] ∧ DataW.trod enc P W base spare held n f0.type [v0] = some y0 := by
 obtain ⟨cs, rfl, hsz⟩ := okWide_struct hs hv
 obtain ⟨l⟩ := cs
 match l, hsz.trans hC with
 | [c0], _ =>
  obtain ⟨fuel, hf⟩ := h
  obtain ⟨xs, n, _, hx, _, hlen, hg⟩ := DataW.trod_struct hs hf
  obtain ⟨o0, k0⟩ := Go.Deep.hone_of hone 0 f0 rfl
  match xs, hlen with
  | [y0], _ =>
   exact ⟨c0, y0, n, rfl, by simpa [Value.cells, o0, k0] using hg 0 f0 rfl⟩
end
section
variable {H : Type} {enc : TypeId × Value → H} {W : World} {base : Nat} {spare : Nat → Bool} {held : Bool}
structure DescIn where
 A : Option Addr
 ds : List DRule
 c : Nat
def DescIn.val (x : DescIn) : Value := vdesc (.slice x.A x.ds.length x.c)
def DescIn.rd (x : DescIn) (W : World) : Prop := RdD W x.A x.ds x.c ∧ WfD x.ds
theorem in_desc {r : Reach} {b0 : Nat} {v : Value} {d : DataW H} {p : List MemPlace}
 (hv : Value.okWide Tryz.prog W r b0 36 v) (h : DataW.Trod enc Tryz.prog W base spare held 36 v d p) : ∃ x : DescIn, v = x.val ∧ x.rd W := by
 obtain ⟨v0, y0, n, rfl, h0⟩ := open_agg_1 Tryz.underlying36 (by kernel_rfl) (by kernel_rfl) hv h
 dsimp only at h0
 obtain ⟨A, ds, c, rfl, h1, h2⟩ := in_rules h0
 exact ⟨⟨A, ds, c⟩, rfl, h1, h2⟩
structure RegIn where
 A : Option Addr
 ds : List (List DRule)
 c : Nat
def RegIn.val (x : RegIn) : Value := vdesc (.slice x.A x.ds.length x.c)
def RegIn.rd (x : RegIn) (W : World) : Prop := RdG W x.A x.ds x.c ∧ WfG x.ds
end
end Go.Proofs.YtpmcofmdjckijaaGreat
namespace Go.Proofs.YtpmcofmdjckijaaGreat
open Go.RowKit Go.Sort
section
variable {P : Program} {ops : Array Oper} {Q : Exit → Act → World → Prop} {md : Region.Mode} {S : World → Prop}
theorem twoH {i j : Nat} (di dj : Option Nat) {oi oj : Oper} {fuel : Nat} {listed : Array Bool} (li lj : Array Bool) {a : Act} {w : World} (hr : Region.ready md ops listed = [i, j])
 (hoi : ops[i]? = some oi) (hdi : oi.dst = di) (hli : listed.setIfInBounds i true = li) (hoj : ops[j]? = some oj) (hdj : oj.dst = dj) (hlj : listed.setIfInBounds j true = lj)
 (h1 : ∀ K : Act → World → Prop, Shut (∀ a w, S w → wpAnyH P md ops Q S fuel li a w → K a w) → if Region.wanted { oi with dst := di } (yielded ops a.tmps) = true then Oper.wp P { oi with dst := di } a w K Q else K (a.put di undef) w)
 (h2 : ∀ K : Act → World → Prop, Shut (∀ a w, S w → wpAnyH P md ops Q S fuel lj a w → K a w) → if Region.wanted { oj with dst := dj } (yielded ops a.tmps) = true then Oper.wp P { oj with dst := dj } a w K Q else K (a.put dj undef) w) : wpAnyH P md ops Q S (fuel + 1) listed a w := by
 subst hdi; subst hli; subst hdj; subst hlj
 refine ⟨fun h0 => (by rw [h0] at hr; cases hr), fun k hk => ?_⟩
 rw [hr] at hk
 simp only [List.mem_cons, List.not_mem_nil, or_false] at hk
 rcases hk with rfl | rfl
 ·exact wpOp_step hoi (fun K' hK => h1 K' (fun a w hC hW => hK a w ⟨hC, hW⟩))
 ·exact wpOp_step hoj (fun K' hK => h2 K' (fun a w hC hW => hK a w ⟨hC, hW⟩))
end
theorem step_6 (m : Mach) (a z : Int) : m.step (6, a, z) = m.pushN m.reg (wrap64 (m.pc + 1)) := by
 show m.moves (6, a, z) = _
 show (if m.stack.length < 60 then _ else _) = _
 unfold Mach.push Mach.pushN
 by_cases h : 60 ≤ m.stack.length
 ·rw [if_neg (by omega), if_pos h, if_pos h]
 ·rw [if_pos (by omega), if_neg h, if_neg h]
theorem step_9 (m : Mach) (a z : Int) : m.step (9, a, z) = m.pushN (wrap64 (m.pc + 1)) a := by
 show m.moves (9, a, z) = _
 show (if m.stack.length < 60 then _ else _) = _
 unfold Mach.push Mach.pushN
 by_cases h : 60 ≤ m.stack.length
 ·rw [if_neg (by omega), if_pos h, if_pos h]
 ·rw [if_pos (by omega), if_neg h, if_neg h]
theorem step_else (m : Mach) (x : Ins) (h : ∀ o ∈ [1, 3, 4, 2, 13, 16, 5, 6, 7, 8, 9, 10, 11, 12, 14, 15, 17], x.1 ≠ (o : Int)) : m.step x = m := by
 have e : ∀ o : Int, o ∈ ([1, 3, 4, 2, 13, 16, 5, 6, 7, 8, 9, 10, 11, 12, 14, 15, 17] : List Int) → x.1 ≠ o := h
 have hr : m.reads x = (m, false) := by
  unfold Mach.reads
  rw [if_neg (e 1 (by decide)), if_neg (e 3 (by decide)), if_neg (e 4 (by decide)), if_neg (e 2 (by decide)), if_neg (e 13 (by decide)), if_neg (e 16 (by decide)), if_neg (e 15 (by decide))]
 unfold Mach.step
 rw [hr]
 rw [if_neg (by simp), if_neg (e 17 (by decide)), if_neg (e 12 (by decide)), if_neg (e 5 (by decide)), if_neg (e 11 (by decide))]
 unfold Mach.moves
 rw [if_neg (e 6 (by decide)), if_neg (e 7 (by decide)), if_neg (e 8 (by decide)), if_neg (e 9 (by decide)), if_neg (e 10 (by decide)), if_neg (e 14 (by decide))]
theorem iStep_c (X : Nat → Prop) (W0 : World) (p : Nat) (m : Mach) (x : Ins) (w : World) (h : MV X W0 w p m) (hs : m.stack.length ≤ 60) (hq : m.sums.length ≤ 30) :
 Calls Tryz.prog 147 #[.pointer (some ⟨p, 0, none⟩), .agg #[.int .i64 x.1, .int .i64 x.2.1, .int .i64 x.2.2]] w fun e w' => e = .returned (.tuple #[]) ∧ MV X W0 w' p (m.step x) ∧ MR X w w' := by
 obtain ⟨vs, vq, hB⟩ := h
 obtain ⟨W1, hW1⟩ : ∃ W, Hid (W = w.alloc (.cells #[.int .i64 x.1, .int .i64 x.2.1, .int .i64 x.2.2] 79)) := ⟨_, rfl⟩
 have e1 : Ext w W1 := ka hW1
 have HB : Hid (MB (fun k => X k ∨ k = w.heap.size) W0 W1 p m vs vq) := by rw [hW1.out]; exact hB.guard _
 have HR1 : Hid (MR X w W1) := MR.of_ext e1 hB.low
 have HXW : Hid (∀ k, X k → X k ∨ k = w.heap.size) := fun k hk => .inl hk
 have HBI : Hid (Box W1 w.heap.size #[.int .i64 x.1, .int .i64 x.2.1, .int .i64 x.2.2] 79) := by rw [hW1.out]; exact Box.new _ _ _
 have hpl : p < w.heap.size := hB.box.lt
 have hne : p ≠ w.heap.size := by omega
 have hne' : w.heap.size ≠ p := by omega
 have CBG := Lib.hid (fun (m' : Mach) (c : Int) w' h => iBegin_c (fun k => X k ∨ k = w.heap.size) W0 p m' c w' h)
 have CF := Lib.hid (fun (m' : Mach) (c : Int) w' h => iFail_c (fun k => X k ∨ k = w.heap.size) W0 p m' c w' h)
 have CP := Lib.hid (fun (n nx : Int) w' h => iPush_c (fun k => X k ∨ k = w.heap.size) W0 p m n nx w' h hs)
 have CL := Lib.hid (fun (y : Ins) w' h => iLoopM_c (fun k => X k ∨ k = w.heap.size) W0 p m y w' h hs)
 have CK := Lib.hid (fun w' h => iBack_c (fun k => X k ∨ k = w.heap.size) W0 p m w' h hs)
 obtain ⟨R, HRV⟩ : ∃ R, Hid (m.step x = R) := ⟨_, rfl⟩
 rw [HRV.out]
 have i0 : ∀ w', Ext W1 w' → w'.cell? ⟨w.heap.size, 0, none⟩ = some (.int .i64 x.1) := fun w' e => HBI.out.at 0 w' e
 have i1 : ∀ w', Ext W1 w' → w'.cell? ⟨w.heap.size, 1, none⟩ = some (.int .i64 x.2.1) := fun w' e => HBI.out.at 1 w' e
 have i2 : ∀ w', Ext W1 w' → w'.cell? ⟨w.heap.size, 2, none⟩ = some (.int .i64 x.2.2) := fun w' e => HBI.out.at 2 w' e
 have r0 : ∀ w', Ext W1 w' → w'.cell? ⟨p, 0, none⟩ = some (.int .i64 m.pc) := fun w' e => HB.out.box.at 0 w' e
 have r1 : ∀ w', Ext W1 w' → w'.cell? ⟨p, 1, none⟩ = some (.int .i64 m.reg) := fun w' e => HB.out.box.at 1 w' e
 have r7 : ∀ w', Ext W1 w' → w'.cell? ⟨p, 7, none⟩ = some (.int .i64 m.state) := fun w' e => HB.out.box.at 7 w' e
 have f0 := HB.out.box.free 0; have f1 := HB.out.box.free 1; have f7 := HB.out.box.free 7; have f3 := HB.out.box.free 3
 have HLS := Lib.hid hs; have HLQ := Lib.hid hq
 obtain ⟨Aq, cq, hvq, _⟩ := OwnL.rd HB.out.oq (by omega)
 subst hvq
 have r3 : ∀ w', Ext W1 w' → w'.cell? ⟨p, 3, none⟩ = some (Value.slice Aq m.sums.length cq) := fun w' e => HB.out.box.at 3 w' e
 obtain ⟨o, a, z⟩ := x
 dsimp only at *
 have j0 := i0 W1 (Ext.refl _)
 rw [hW1.out] at j0
 clear hB e1 hs hq
 by_cases h1 : o = 1
 ·subst h1
  have HM : Hid (R = ({ m with reg := 0 } : Mach).start a) := by show _ = _; rw [← HRV.out]; rfl
  have HB2 := Lib.hid (HB.out.put (m' := { m with reg := 0 }) 1 (.int .i64 0) rfl rfl rfl)
  go_enter Tryz.func147, Tryz.ntmps147
  go_upto_region 2 with (fail)
  rw [← hW1.out]
  clear j0
  go_wp2_with fail
  refine (CBG.out { m with reg := 0 } a _ ⟨_, _, HB2.out⟩).mono ?_; rintro _ w2 ⟨rfl, ⟨vs2, vq2, hm2⟩, hr2⟩
  have HRE := HR1.out.trans (((MR.set (i := 1) (Value.int .i64 0) HB.out.xp).trans hr2).weak HXW.out)
  go_wp2
  first
   | exact bodyPost_end (results_none rfl _ _ _) rfl ⟨rfl, (by rw [HM.out]; exact ⟨_, _, hm2.weak HXW.out⟩), HRE⟩
   | exact bodyPost_ret (results_none rfl _ _ _) rfl ⟨rfl, (by rw [HM.out]; exact ⟨_, _, hm2.weak HXW.out⟩), HRE⟩
 by_cases h3 : o = 3
 ·subst h3
  have HM : Hid (R = m.start a) := by show _ = _; rw [← HRV.out]; rfl
  go_enter Tryz.func147, Tryz.ntmps147
  go_upto_region 2 with (fail)
  rw [← hW1.out]
  clear j0
  go_wp2_with fail
  refine (CBG.out m a _ ⟨_, _, HB.out⟩).mono ?_; rintro _ w2 ⟨rfl, ⟨vs2, vq2, hm2⟩, hr2⟩
  have HRE := HR1.out.trans (hr2.weak HXW.out)
  go_wp2
  first
   | exact bodyPost_end (results_none rfl _ _ _) rfl ⟨rfl, (by rw [HM.out]; exact ⟨_, _, hm2.weak HXW.out⟩), HRE⟩
   | exact bodyPost_ret (results_none rfl _ _ _) rfl ⟨rfl, (by rw [HM.out]; exact ⟨_, _, hm2.weak HXW.out⟩), HRE⟩
 by_cases h4 : o = 4
 ·subst h4
  have HM : Hid (R = m.start m.reg) := by show _ = _; rw [← HRV.out]; rfl
  go_enter Tryz.func147, Tryz.ntmps147
  go_upto_region 2 with (fail)
  rw [← hW1.out]
  clear j0
  go_wp2_with fail
  refine (CBG.out m m.reg _ ⟨_, _, HB.out⟩).mono ?_; rintro _ w2 ⟨rfl, ⟨vs2, vq2, hm2⟩, hr2⟩
  have HRE := HR1.out.trans (hr2.weak HXW.out)
  go_wp2
  first
   | exact bodyPost_end (results_none rfl _ _ _) rfl ⟨rfl, (by rw [HM.out]; exact ⟨_, _, hm2.weak HXW.out⟩), HRE⟩
   | exact bodyPost_ret (results_none rfl _ _ _) rfl ⟨rfl, (by rw [HM.out]; exact ⟨_, _, hm2.weak HXW.out⟩), HRE⟩
 by_cases h2 : o = 2
 ·subst h2
  have HM : Hid (R = m.start 1) := by show _ = _; rw [← HRV.out]; rfl
  go_enter Tryz.func147, Tryz.ntmps147
  go_upto_region 2 with (fail)
  rw [← hW1.out]
  clear j0
  go_wp2_with fail
  refine (CBG.out m 1 _ ⟨_, _, HB.out⟩).mono ?_; rintro _ w2 ⟨rfl, ⟨vs2, vq2, hm2⟩, hr2⟩
  have HRE := HR1.out.trans (hr2.weak HXW.out)
  go_wp2
  first
   | exact bodyPost_end (results_none rfl _ _ _) rfl ⟨rfl, (by rw [HM.out]; exact ⟨_, _, hm2.weak HXW.out⟩), HRE⟩
   | exact bodyPost_ret (results_none rfl _ _ _) rfl ⟨rfl, (by rw [HM.out]; exact ⟨_, _, hm2.weak HXW.out⟩), HRE⟩
 by_cases h13 : o = 13
 ·subst h13
  have HM : Hid (R = m.start 1) := by show _ = _; rw [← HRV.out]; rfl
  go_enter Tryz.func147, Tryz.ntmps147
  go_upto_region 2 with (fail)
  rw [← hW1.out]
  clear j0
  go_wp2_with fail
  refine (CBG.out m 1 _ ⟨_, _, HB.out⟩).mono ?_; rintro _ w2 ⟨rfl, ⟨vs2, vq2, hm2⟩, hr2⟩
  have HRE := HR1.out.trans (hr2.weak HXW.out)
  go_wp2
  first
   | exact bodyPost_end (results_none rfl _ _ _) rfl ⟨rfl, (by rw [HM.out]; exact ⟨_, _, hm2.weak HXW.out⟩), HRE⟩
   | exact bodyPost_ret (results_none rfl _ _ _) rfl ⟨rfl, (by rw [HM.out]; exact ⟨_, _, hm2.weak HXW.out⟩), HRE⟩
 by_cases h16 : o = 16
 ·subst h16
  have HM : Hid (R = m.start 1) := by show _ = _; rw [← HRV.out]; rfl
  go_enter Tryz.func147, Tryz.ntmps147
  go_upto_region 2 with (fail)
  rw [← hW1.out]
  clear j0
  go_wp2_with fail
  refine (CBG.out m 1 _ ⟨_, _, HB.out⟩).mono ?_; rintro _ w2 ⟨rfl, ⟨vs2, vq2, hm2⟩, hr2⟩
  have HRE := HR1.out.trans (hr2.weak HXW.out)
  go_wp2
  first
   | exact bodyPost_end (results_none rfl _ _ _) rfl ⟨rfl, (by rw [HM.out]; exact ⟨_, _, hm2.weak HXW.out⟩), HRE⟩
   | exact bodyPost_ret (results_none rfl _ _ _) rfl ⟨rfl, (by rw [HM.out]; exact ⟨_, _, hm2.weak HXW.out⟩), HRE⟩
 by_cases h5 : o = 5
 ·subst h5
  by_cases hl : a < m.reg
  ·have hd : decide (a < m.reg) = true := decide_eq_true hl
   have HM : Hid (R = m.fail 6) := by show _ = _; rw [← HRV.out]; show (if a < m.reg then _ else _) = _; rw [if_pos hl]
   go_enter Tryz.func147, Tryz.ntmps147
   go_upto_region 2 with (fail)
   rw [← hW1.out]
   clear j0
   go_wp2_with fail
   refine wp_region_quiet_below (by kernel_rfl) (by kernel_rfl) ?_
   repeat (go_big_quiet_step ((fail)))
   refine wpQuiet_nil ?_
   rintro w4 ⟨⟨nq, osq⟩, hq⟩
   have ew4 := ext_of_q hq
   clear hq nq osq
   go_wp2_with fail
   refine (CF.out m 6 _ ⟨_, _, HB.out.next ew4⟩).mono ?_; rintro _ w2 ⟨rfl, ⟨vs2, vq2, hm2⟩, hr2⟩
   have HRE := HR1.out.trans (((MR.of_ext ew4 HB.out.low).trans hr2).weak HXW.out)
   go_wp2
   first
    | exact bodyPost_end (results_none rfl _ _ _) rfl ⟨rfl, (by rw [HM.out]; exact ⟨_, _, hm2.weak HXW.out⟩), HRE⟩
    | exact bodyPost_ret (results_none rfl _ _ _) rfl ⟨rfl, (by rw [HM.out]; exact ⟨_, _, hm2.weak HXW.out⟩), HRE⟩
  ·have hd : decide (a < m.reg) = false := decide_eq_false hl
   have HM : Hid (R = { m with pc := wrap64 (m.pc + 1) }) := by show _ = _; rw [← HRV.out]; show (if a < m.reg then _ else _) = _; rw [if_neg hl]
   go_enter Tryz.func147, Tryz.ntmps147
   go_upto_region 2 with (fail)
   rw [← hW1.out]
   clear j0
   go_wp2_with fail
   refine wp_region_quiet_below (by kernel_rfl) (by kernel_rfl) ?_
   repeat (go_big_quiet_step ((fail)))
   refine wpQuiet_nil ?_
   rintro w4 ⟨⟨nq, osq⟩, hq⟩
   have ew4 := ext_of_q hq
   clear hq nq osq
   have HB4 := Lib.hid (HB.out.next ew4)
   have g0 := r0 w4 ew4; have g0f := HB4.out.box.free 0
   have HB5 := Lib.hid (HB4.out.put (m' := { m with pc := wrap64 (m.pc + 1) }) 0 (.int .i64 (wrap64 (m.pc + 1))) rfl rfl rfl)
   have HRE := Lib.hid (HR1.out.trans (((MR.of_ext ew4 HB.out.low).trans (MR.set (i := 0) (Value.int .i64 (wrap64 (m.pc + 1))) HB.out.xp)).weak HXW.out))
   go_wp2
   first
    | exact bodyPost_end (results_none rfl _ _ _) rfl ⟨rfl, (by rw [HM.out]; exact ⟨_, _, HB5.out.weak HXW.out⟩), HRE.out⟩
    | exact bodyPost_ret (results_none rfl _ _ _) rfl ⟨rfl, (by rw [HM.out]; exact ⟨_, _, HB5.out.weak HXW.out⟩), HRE.out⟩
 by_cases h6 : o = 6
 ·subst h6
  have HM : Hid (R = m.pushN m.reg (wrap64 (m.pc + 1))) := by show _ = _; rw [← HRV.out]; exact step_6 m a z
  go_enter Tryz.func147, Tryz.ntmps147
  go_upto_region 2 with (fail)
  rw [← hW1.out]
  clear j0
  go_wp2_with fail
  refine region_qtail_below 10 (by kernel_rfl) (by kernel_rfl) ?_
  simp only [List.take_succ_cons, List.take_zero, List.drop_succ_cons, List.drop_zero]
  repeat (go_big_quiet_step (fail))
  refine wpQuiet_nil ?_
  rintro w4 ⟨⟨nq, osq⟩, hq⟩
  have e4 := ext_of_q hq
  clear hq nq osq
  go_wp2_with fail
  refine (CP.out m.reg (wrap64 (m.pc + 1)) _ ⟨_, _, HB.out.next e4⟩).mono ?_; rintro _ w2 ⟨rfl, ⟨vs2, vq2, hm2⟩, hr2⟩
  have HRE := HR1.out.trans (((MR.of_ext e4 HB.out.low).trans hr2).weak HXW.out)
  go_wp2
  first
   | exact bodyPost_end (results_none rfl _ _ _) rfl ⟨rfl, (by rw [HM.out]; exact ⟨_, _, hm2.weak HXW.out⟩), HRE⟩
   | exact bodyPost_ret (results_none rfl _ _ _) rfl ⟨rfl, (by rw [HM.out]; exact ⟨_, _, hm2.weak HXW.out⟩), HRE⟩
 by_cases h7 : o = 7
 ·subst h7
  have HM : Hid (R = m.loop a) := by show _ = _; rw [← HRV.out]; rfl
  go_enter Tryz.func147, Tryz.ntmps147
  go_upto_region 2 with (fail)
  rw [← hW1.out]
  clear j0
  go_wp2_with fail
  refine (CL.out (7, a, z) _ ⟨_, _, HB.out⟩).mono ?_; rintro _ w2 ⟨rfl, ⟨vs2, vq2, hm2⟩, hr2⟩
  have HRE := HR1.out.trans (hr2.weak HXW.out)
  go_wp2
  first
   | exact bodyPost_end (results_none rfl _ _ _) rfl ⟨rfl, (by rw [HM.out]; exact ⟨_, _, hm2.weak HXW.out⟩), HRE⟩
   | exact bodyPost_ret (results_none rfl _ _ _) rfl ⟨rfl, (by rw [HM.out]; exact ⟨_, _, hm2.weak HXW.out⟩), HRE⟩
 by_cases h8 : o = 8
 ·subst h8
  have HM : Hid (R = { m with pc := a }) := by show _ = _; rw [← HRV.out]; rfl
  have HB2 := Lib.hid (HB.out.put (m' := { m with pc := a }) 0 (.int .i64 a) rfl rfl rfl)
  have HRE := Lib.hid (HR1.out.trans ((MR.set (i := 0) (Value.int .i64 a) HB.out.xp).weak HXW.out))
  go_enter Tryz.func147, Tryz.ntmps147
  go_upto_region 2 with (fail)
  rw [← hW1.out]
  clear j0
  go_wp2
  first
   | exact bodyPost_end (results_none rfl _ _ _) rfl ⟨rfl, (by rw [HM.out]; exact ⟨_, _, HB2.out.weak HXW.out⟩), HRE.out⟩
   | exact bodyPost_ret (results_none rfl _ _ _) rfl ⟨rfl, (by rw [HM.out]; exact ⟨_, _, HB2.out.weak HXW.out⟩), HRE.out⟩
 by_cases h9 : o = 9
 ·subst h9
  have HM : Hid (R = m.pushN (wrap64 (m.pc + 1)) a) := by show _ = _; rw [← HRV.out]; exact step_9 m a z
  go_enter Tryz.func147, Tryz.ntmps147
  go_upto_region 2 with (fail)
  rw [← hW1.out]
  clear j0
  go_wp2_with fail
  refine region_qtail_below 8 (by kernel_rfl) (by kernel_rfl) ?_
  simp only [List.take_succ_cons, List.take_zero, List.drop_succ_cons, List.drop_zero]
  repeat (go_big_quiet_step (fail))
  refine wpQuiet_nil ?_
  rintro w4 ⟨⟨nq, osq⟩, hq⟩
  have e4 := ext_of_q hq
  clear hq nq osq
  go_wp2_with fail
  refine (CP.out (wrap64 (m.pc + 1)) a _ ⟨_, _, HB.out.next e4⟩).mono ?_; rintro _ w2 ⟨rfl, ⟨vs2, vq2, hm2⟩, hr2⟩
  have HRE := HR1.out.trans (((MR.of_ext e4 HB.out.low).trans hr2).weak HXW.out)
  go_wp2
  first
   | exact bodyPost_end (results_none rfl _ _ _) rfl ⟨rfl, (by rw [HM.out]; exact ⟨_, _, hm2.weak HXW.out⟩), HRE⟩
   | exact bodyPost_ret (results_none rfl _ _ _) rfl ⟨rfl, (by rw [HM.out]; exact ⟨_, _, hm2.weak HXW.out⟩), HRE⟩
 by_cases h10 : o = 10
 ·subst h10
  have HM : Hid (R = if 0 < m.stack.length then { m.pop with pc := m.last } else m.pop) := by show _ = _; rw [← HRV.out]; rfl
  go_enter Tryz.func147, Tryz.ntmps147
  go_upto_region 2 with (fail)
  rw [← hW1.out]
  clear j0
  go_wp2_with fail
  refine (CK.out _ ⟨_, _, HB.out⟩).mono ?_; rintro _ w2 ⟨rfl, ⟨vs2, vq2, hm2⟩, hr2⟩
  have HRE := HR1.out.trans (hr2.weak HXW.out)
  go_wp2
  first
   | exact bodyPost_end (results_none rfl _ _ _) rfl ⟨rfl, (by rw [HM.out]; exact ⟨_, _, hm2.weak HXW.out⟩), HRE⟩
   | exact bodyPost_ret (results_none rfl _ _ _) rfl ⟨rfl, (by rw [HM.out]; exact ⟨_, _, hm2.weak HXW.out⟩), HRE⟩
 by_cases h11 : o = 11
 ·subst h11
  have HB2 := HB.out.put (m' := { m with pc := wrap64 (m.pc + 1) }) 0 (.int .i64 (wrap64 (m.pc + 1))) rfl rfl rfl
  have hr2 : MR (fun k => X k ∨ k = w.heap.size) W1 (W1.setCell ⟨p, 0, none⟩ (.int .i64 (wrap64 (m.pc + 1)))) := MR.set (i := 0) _ HB.out.xp
  have hbi2 : Box _ w.heap.size #[.int .i64 11, .int .i64 a, .int .i64 z] 79 := (hr2.kept _ (.inr rfl)).trans HBI.out
  obtain ⟨w2, hw2⟩ : ∃ W, Hid (W = W1.setCell ⟨p, 0, none⟩ (.int .i64 (wrap64 (m.pc + 1)))) := ⟨_, rfl⟩
  rw [← hw2.out] at HB2 hr2 hbi2
  have HB3 := Lib.hid HB2; have HR3 := Lib.hid hr2; have HBI3 := Lib.hid hbi2
  clear HB2 hr2 hbi2
  go_enter Tryz.func147, Tryz.ntmps147
  go_upto_region 2 with (fail)
  rw [← hW1.out]
  clear j0
  go_upto_region 29 with (fail)
  rw [← hw2.out]
  clear i0 i1 i2 r0 r1 r7 r3 f0 f1 f7 f3
  have i1 : ∀ w', Ext w2 w' → w'.cell? ⟨w.heap.size, 1, none⟩ = some (.int .i64 a) := fun w' e => HBI3.out.at 1 w' e
  have i2 : ∀ w', Ext w2 w' → w'.cell? ⟨w.heap.size, 2, none⟩ = some (.int .i64 z) := fun w' e => HBI3.out.at 2 w' e
  have r1 : ∀ w', Ext w2 w' → w'.cell? ⟨p, 1, none⟩ = some (.int .i64 m.reg) := fun w' e => HB3.out.box.at 1 w' e
  have r0 : ∀ w', Ext w2 w' → w'.cell? ⟨p, 0, none⟩ = some (.int .i64 (wrap64 (m.pc + 1))) := fun w' e => HB3.out.box.at 0 w' e
  by_cases hl : m.reg = a
  ·have hd : (m.reg == a) = true := by simp [hl]
   have HM : Hid (R = { m with pc := z }) := by show _ = _; rw [← HRV.out]; show (if m.reg = a then _ else _) = _; rw [if_pos hl]
   refine wp_region_quiet_below (by kernel_rfl) (by kernel_rfl) ?_
   repeat (go_big_quiet_step ((fail)))
   refine wpQuiet_nil ?_
   rintro w4 ⟨⟨nq, osq⟩, hq⟩
   have ew4 := ext_of_q hq
   clear hq nq osq
   have HB4 := Lib.hid (HB3.out.next ew4)
   have g0 := r0 w4 ew4; have g0f := HB4.out.box.free 0; have g2 := i2 w4 ew4
   have HB5 := Lib.hid (HB4.out.put (m' := { m with pc := z }) 0 (.int .i64 z) rfl rfl rfl)
   have HRE := Lib.hid (HR1.out.trans ((HR3.out.trans ((MR.of_ext ew4 HB3.out.low).trans (MR.set (i := 0) (Value.int .i64 z) HB3.out.xp))).weak HXW.out))
   go_wp2
   first
    | exact bodyPost_end (results_none rfl _ _ _) rfl ⟨rfl, (by rw [HM.out]; exact ⟨_, _, HB5.out.weak HXW.out⟩), HRE.out⟩
    | exact bodyPost_ret (results_none rfl _ _ _) rfl ⟨rfl, (by rw [HM.out]; exact ⟨_, _, HB5.out.weak HXW.out⟩), HRE.out⟩
  ·have hd : (m.reg == a) = false := by simp [hl]
   have HM : Hid (R = { m with pc := wrap64 (m.pc + 1) }) := by show _ = _; rw [← HRV.out]; show (if m.reg = a then _ else _) = _; rw [if_neg hl]
   refine wp_region_quiet_below (by kernel_rfl) (by kernel_rfl) ?_
   repeat (go_big_quiet_step ((fail)))
   refine wpQuiet_nil ?_
   rintro w4 ⟨⟨nq, osq⟩, hq⟩
   have ew4 := ext_of_q hq
   clear hq nq osq
   have HB5 := Lib.hid (HB3.out.next ew4)
   have HRE := Lib.hid (HR1.out.trans ((HR3.out.trans (MR.of_ext ew4 HB3.out.low)).weak HXW.out))
   go_wp2
   first
    | exact bodyPost_end (results_none rfl _ _ _) rfl ⟨rfl, (by rw [HM.out]; exact ⟨_, _, HB5.out.weak HXW.out⟩), HRE.out⟩
    | exact bodyPost_ret (results_none rfl _ _ _) rfl ⟨rfl, (by rw [HM.out]; exact ⟨_, _, HB5.out.weak HXW.out⟩), HRE.out⟩
 by_cases h12 : o = 12
 ·subst h12
  have HM : Hid (R = m.fail a) := by show _ = _; rw [← HRV.out]; rfl
  go_enter Tryz.func147, Tryz.ntmps147
  go_upto_region 2 with (fail)
  rw [← hW1.out]
  clear j0
  go_wp2_with fail
  refine (CF.out m a _ ⟨_, _, HB.out⟩).mono ?_; rintro _ w2 ⟨rfl, ⟨vs2, vq2, hm2⟩, hr2⟩
  have HRE := HR1.out.trans (hr2.weak HXW.out)
  go_wp2
  first
   | exact bodyPost_end (results_none rfl _ _ _) rfl ⟨rfl, (by rw [HM.out]; exact ⟨_, _, hm2.weak HXW.out⟩), HRE⟩
   | exact bodyPost_ret (results_none rfl _ _ _) rfl ⟨rfl, (by rw [HM.out]; exact ⟨_, _, hm2.weak HXW.out⟩), HRE⟩
 by_cases h14 : o = 14
 ·subst h14
  by_cases hl : 30 ≤ m.sums.length
  ·have hi : (30 : Int) ≤ (m.sums.length : Int) := by omega
   have HM : Hid (R = m.fail 8) := by show _ = _; rw [← HRV.out]; show (if 30 ≤ m.sums.length then _ else _) = _; rw [if_pos hl]
   go_enter Tryz.func147, Tryz.ntmps147
   go_upto_region 2 with (fail)
   rw [← hW1.out]
   clear j0
   go_wp2_with fail
   refine (CF.out m 8 _ ⟨_, _, HB.out⟩).mono ?_; rintro _ w2 ⟨rfl, ⟨vs2, vq2, hm2⟩, hr2⟩
   have HRE := HR1.out.trans (hr2.weak HXW.out)
   go_wp2
   first
    | exact bodyPost_end (results_none rfl _ _ _) rfl ⟨rfl, (by rw [HM.out]; exact ⟨_, _, hm2.weak HXW.out⟩), HRE⟩
    | exact bodyPost_ret (results_none rfl _ _ _) rfl ⟨rfl, (by rw [HM.out]; exact ⟨_, _, hm2.weak HXW.out⟩), HRE⟩
  ·have hi : ¬ (30 : Int) ≤ (m.sums.length : Int) := by omega
   have HM : Hid (R = { m with sums := m.sums ++ [0], pc := wrap64 (m.pc + 1) }) := by show _ = _; rw [← HRV.out]; show (if 30 ≤ m.sums.length then _ else _) = _; rw [if_neg hl]
   have ea := Ext_alloc (.cells #[.int .i64 0] 3) (Ext.refl W1)
   have HBa := Lib.hid (HB.out.next ea)
   have HMa : Hid (MR (fun k => X k ∨ k = w.heap.size) W1 (W1.alloc (.cells #[.int .i64 0] 3))) := MR.alloc _ HB.out.low
   have HBD : Hid ((m.sums.length + [0].length) * 8 ≤ 140737488355328) := by show _ ≤ _; simp; omega
   have HO := Lib.hid HB.out.oq; have HE := Lib.hid HB.out.ext
   go_enter Tryz.func147, Tryz.ntmps147
   go_upto_region 2 with (fail)
   rw [← hW1.out]
   clear j0
   go_wp2_with (first
    | (at_builtin; go_must (refine wpList_appNB rfl (.tmp 134) (.tmp 135) _ rfl E_int (by omega) W0 _ vint (fun _ => rfl) _ rfl _ _ _ rfl (by simp) m.sums [0] _ rfl HO.out HE.out rfl HBD.out ?_); intro v1 w1 ho1 he1 hv1 hg1; obtain ⟨A1, n1, c1, hv1'⟩ := Own.slice2 ho1; subst hv1'; have q3 : w1.cell? ⟨p, 3, none⟩ = some (Value.slice Aq m.sums.length cq) := (HBa.out.box.moved hg1 HBa.out.n2).cell 3; have q3f := (HBa.out.box.moved hg1 HBa.out.n2).free 3; have HP1 := Lib.hid (HBa.out.putQ (m' := { m with sums := m.sums ++ [0] }) ho1 he1 hv1 hg1 rfl rfl); have q0 : (w1.setCell ⟨p, 3, none⟩ (.slice A1 n1 c1)).cell? ⟨p, 0, none⟩ = some (.int .i64 m.pc) := HP1.out.box.cell 0; have q0f := HP1.out.box.free 0))
   have HP2 := Lib.hid (HP1.out.put (m' := { m with sums := m.sums ++ [0], pc := wrap64 (m.pc + 1) }) 0 (.int .i64 (wrap64 (m.pc + 1))) rfl rfl rfl)
   have HRE := Lib.hid (HR1.out.trans ((HMa.out.trans ((MR.grown hg1 (fun b hb => HBa.out.xq b hb) HBa.out.low).trans ((MR.set (i := 3) (Value.slice A1 n1 c1) HBa.out.xp).trans (MR.set (i := 0) (Value.int .i64 (wrap64 (m.pc + 1))) HBa.out.xp)))).weak HXW.out))
   first
    | exact bodyPost_end (results_none rfl _ _ _) rfl ⟨rfl, (by rw [HM.out]; exact ⟨_, _, HP2.out.weak HXW.out⟩), HRE.out⟩
    | exact bodyPost_ret (results_none rfl _ _ _) rfl ⟨rfl, (by rw [HM.out]; exact ⟨_, _, HP2.out.weak HXW.out⟩), HRE.out⟩
 by_cases h15 : o = 15
 ·subst h15
  by_cases hl : m.sums.length = 0
  ·have hi : ((m.sums.length : Int) == 0) = true := by simp [hl]
   have HM : Hid (R = m.fail 8) := by show _ = _; rw [← HRV.out]; show (if m.sums.length = 0 then _ else _) = _; rw [if_pos hl]
   go_enter Tryz.func147, Tryz.ntmps147
   go_upto_region 2 with (fail)
   rw [← hW1.out]
   clear j0
   go_wp2_with fail
   refine (CF.out m 8 _ ⟨_, _, HB.out⟩).mono ?_; rintro _ w2 ⟨rfl, ⟨vs2, vq2, hm2⟩, hr2⟩
   have HRE := HR1.out.trans (hr2.weak HXW.out)
   go_wp2
   first
    | exact bodyPost_end (results_none rfl _ _ _) rfl ⟨rfl, (by rw [HM.out]; exact ⟨_, _, hm2.weak HXW.out⟩), HRE⟩
    | exact bodyPost_ret (results_none rfl _ _ _) rfl ⟨rfl, (by rw [HM.out]; exact ⟨_, _, hm2.weak HXW.out⟩), HRE⟩
  ·have hi : ((m.sums.length : Int) == 0) = false := by rw [beq_eq_false_iff_ne]; omega
   have HM : Hid (R = m.start 1) := by show _ = _; rw [← HRV.out]; show (if m.sums.length = 0 then _ else _) = _; rw [if_neg hl]
   go_enter Tryz.func147, Tryz.ntmps147
   go_upto_region 2 with (fail)
   rw [← hW1.out]
   clear j0
   go_wp2_with fail
   refine (CBG.out m 1 _ ⟨_, _, HB.out⟩).mono ?_; rintro _ w2 ⟨rfl, ⟨vs2, vq2, hm2⟩, hr2⟩
   have HRE := HR1.out.trans (hr2.weak HXW.out)
   go_wp2
   first
    | exact bodyPost_end (results_none rfl _ _ _) rfl ⟨rfl, (by rw [HM.out]; exact ⟨_, _, hm2.weak HXW.out⟩), HRE⟩
    | exact bodyPost_ret (results_none rfl _ _ _) rfl ⟨rfl, (by rw [HM.out]; exact ⟨_, _, hm2.weak HXW.out⟩), HRE⟩
 by_cases h17 : o = 17
 ·subst h17
  have HM : Hid (R = { m with state := 1 }) := by show _ = _; rw [← HRV.out]; rfl
  have HB2 := Lib.hid (HB.out.put (m' := { m with state := 1 }) 7 (.int .i64 1) rfl rfl rfl)
  have HRE := Lib.hid (HR1.out.trans ((MR.set (i := 7) (Value.int .i64 1) HB.out.xp).weak HXW.out))
  go_enter Tryz.func147, Tryz.ntmps147
  go_upto_region 2 with (fail)
  rw [← hW1.out]
  clear j0
  go_wp2
  first
   | exact bodyPost_end (results_none rfl _ _ _) rfl ⟨rfl, (by rw [HM.out]; exact ⟨_, _, HB2.out.weak HXW.out⟩), HRE.out⟩
   | exact bodyPost_ret (results_none rfl _ _ _) rfl ⟨rfl, (by rw [HM.out]; exact ⟨_, _, HB2.out.weak HXW.out⟩), HRE.out⟩
 have n1 : (o == 1) = false := by simp [h1]
 have n3 : (o == 3) = false := by simp [h3]
 have n4 : (o == 4) = false := by simp [h4]
 have n2 : (o == 2) = false := by simp [h2]
 have n13 : (o == 13) = false := by simp [h13]
 have n16 : (o == 16) = false := by simp [h16]
 have n5 : (o == 5) = false := by simp [h5]
 have n6 : (o == 6) = false := by simp [h6]
 have n7 : (o == 7) = false := by simp [h7]
 have n8 : (o == 8) = false := by simp [h8]
 have n9 : (o == 9) = false := by simp [h9]
 have n10 : (o == 10) = false := by simp [h10]
 have n11 : (o == 11) = false := by simp [h11]
 have n12 : (o == 12) = false := by simp [h12]
 have n14 : (o == 14) = false := by simp [h14]
 have n15 : (o == 15) = false := by simp [h15]
 have n17 : (o == 17) = false := by simp [h17]
 have HM : Hid (R = m) := by
  show _ = _; rw [← HRV.out]
  refine step_else m _ (fun q hq => ?_)
  simp only [List.mem_cons, List.not_mem_nil, or_false] at hq
  rcases hq with rfl | rfl | rfl | rfl | rfl | rfl | rfl | rfl | rfl | rfl | rfl | rfl | rfl | rfl | rfl | rfl | rfl
  all_goals assumption
 clear h1 h3 h4 h2 h13 h16 h5 h6 h7 h8 h9 h10 h11 h12 h14 h15 h17
 go_enter Tryz.func147, Tryz.ntmps147
 go_upto_region 2 with (fail)
 rw [← hW1.out]
 clear j0
 go_wp2
 first
  | exact bodyPost_end (results_none rfl _ _ _) rfl ⟨rfl, (by rw [HM.out]; exact ⟨_, _, HB.out.weak HXW.out⟩), HR1.out⟩
  | exact bodyPost_ret (results_none rfl _ _ _) rfl ⟨rfl, (by rw [HM.out]; exact ⟨_, _, HB.out.weak HXW.out⟩), HR1.out⟩
theorem iCount_c (X : Nat → Prop) (W0 : World) (p : Nat) (m : Mach) (b : Int) (w : World) (h : MV X W0 w p m) (hq : m.sums.length ≤ 30) :
 Calls Tryz.prog 148 #[.pointer (some ⟨p, 0, none⟩), .int .i64 b] w fun e w' => e = .returned (.tuple #[]) ∧ MV X W0 w' p (m.eat b) ∧ MR X w w' := by
 obtain ⟨vs, vq, hB⟩ := h
 obtain ⟨A0, c0, hvq, _⟩ := OwnL.rd hB.oq (by omega)
 subst hvq
 have r3 : w.cell? ⟨p, 3, none⟩ = some (Value.slice A0 m.sums.length c0) := hB.box.cell 3
 have HSL := Lib.hid hq
 have HMV : Hid (MV X W0 w p m) := ⟨_, _, hB⟩
 clear hB hq
 go_enter Tryz.func148, Tryz.ntmps148
 go_wp2_with fail
 go_loopw [10] (fun q wr => ∃ k : Nat, k ≤ m.sums.length ∧ q = .int .i64 (k : Int) ∧ Hid (MV X W0 wr p { m with sums := (m.sums.take k).map (sumUp · b) ++ m.sums.drop k }) ∧ Hid (MR X w wr)) (fun q _ => m.sums.length - (intOf q).toNat)
 case atStart => exact ⟨0, by omega, rfl, by show MV _ _ _ _ _; simpa using HMV.out, MR.refl _ _⟩
 case round =>
  clear HMV r3
  obtain ⟨k, hk, rfl, hmv, hr⟩ := hrel
  obtain ⟨vs', vq', hb'⟩ := hmv.out
  clear hmv
  have HL : Hid (((m.sums.take k).map (sumUp · b) ++ m.sums.drop k).length = m.sums.length) := by show _ = _; simp; omega
  by_cases hlt : k < m.sums.length
  ·have HNX := Lib.hid (map_take_succ m.sums [] (sumUp · b) k hlt)
   have HGET : Hid (∀ h, ((m.sums.take k).map (sumUp · b) ++ m.sums.drop k)[k]'h = m.sums[k]) := fun h => by
    rw [List.getElem_append_right (by simp; omega)]; simp [Nat.min_eq_left (by omega : k ≤ m.sums.length)]
   have HLK : Hid (k < ((m.sums.take k).map (sumUp · b) ++ m.sums.drop k).length) := by show _ < _; rw [HL.out]; exact hlt
   generalize ((m.sums.take k).map (sumUp · b) ++ m.sums.drop k) = L at *
   obtain ⟨gq, cq, hvq, hcq1, hcq2⟩ := hb'.oq.base (by show 0 < L.length; have := HLK.out; omega)
   have hvq' : vq' = .slice (some ⟨gq, 0, none⟩) m.sums.length cq := by rw [hvq]; show Value.slice _ L.length _ = _; rw [HL.out]
   subst hvq'
   clear hvq
   have HBK := Lib.hid hb'
   have r3 : ∀ w', Ext wr w' → w'.cell? ⟨p, 3, none⟩ = some (Value.slice (some ⟨gq, 0, none⟩) m.sums.length cq) := fun w' e => (HBK.out.box.ext e).cell 3
   have hcl : ∀ w', Ext wr w' → w'.cell? ⟨gq, k, none⟩ = some (.int .i64 m.sums[k]) := fun w' e => by
    have := OwnL.cellN (HBK.out.oq.ext e) k HLK.out
    rw [this]; show some (Value.int .i64 (L[k]'_)) = _; rw [HGET.out]
   generalize m.sums[k] = y at *
   have hki : (k : Int) < (m.sums.length : Int) := by omega
   have hk30 : (k : Int) + 1 ≤ 30 := by have := HSL.out; omega
   clear HGET HLK HL hb'
   go_wp2_with fail
   refine region_qtail_below 16 (by kernel_rfl) (by kernel_rfl) ?_
   simp only [List.take_succ_cons, List.take_zero, List.drop_succ_cons, List.drop_zero]
   repeat (go_big_quiet_step (fail))
   refine wpQuiet_nil ?_
   rintro w6 ⟨⟨nq, osq⟩, hq⟩
   have e6 := ext_of_q hq
   clear hq nq osq
   have HB7 := Lib.hid ((HBK.out.next e6).rowQ k (sumUp y b))
   have HR7 := Lib.hid ((hr.out.trans (MR.of_ext e6 HBK.out.low)).trans (MR.set (i := k) (Value.int .i64 (sumUp y b)) HBK.out.gQ))
   have hfr6 := OwnL.freeN (HBK.out.oq.ext e6) k
   go_wp2
   go_roundw
   case rel => exact ⟨k + 1, by omega, by go_num, (by show MV _ _ _ _ _; rw [← HNX.out]; exact ⟨_, _, HB7.out⟩), HR7.out⟩
   case measure => simp [intOf]; omega
  ·have HE : Hid ((m.sums.take k).map (sumUp · b) ++ m.sums.drop k = m.sums.map (sumUp · b)) := by
    show _ = _; rw [List.take_of_length_le (by omega), List.drop_eq_nil_of_le (by omega), List.append_nil]
   rw [HE.out] at hb'
   have HBK := Lib.hid hb'
   have r9 : wr.cell? ⟨p, 9, none⟩ = some (.int .i64 m.read) := HBK.out.box.cell 9
   have f9 := HBK.out.box.free 9; have f4 := HBK.out.box.free 4
   have HB6 := HBK.out.put (m' := { m with sums := m.sums.map (sumUp · b), read := wrap64 (m.read + 1) }) 9 (.int .i64 (wrap64 (m.read + 1))) rfl rfl rfl
   have t4 : (wr.setCell ⟨p, 9, none⟩ (.int .i64 (wrap64 (m.read + 1)))).cell? ⟨p, 4, none⟩ = some (.int .i64 m.left) := HB6.box.cell 4
   have HB7 := HB6.put (m' := m.eat b) 4 (.int .i64 (wrap64 (m.left - 1))) rfl rfl rfl
   have HR7 := hr.out.trans ((MR.set (i := 9) (Value.int .i64 (wrap64 (m.read + 1))) HBK.out.xp).trans (MR.set (i := 4) (Value.int .i64 (wrap64 (m.left - 1))) HBK.out.xp))
   have hkd : decide ((k : Int) < (m.sums.length : Int)) = false := decide_eq_false (by omega)
   have HB8 := Lib.hid HB7; have HR8 := Lib.hid HR7
   clear HB6 HB7 HR7 hb' HE HL
   go_wp2
   first
    | exact bodyPost_end (results_none rfl _ _ _) rfl ⟨rfl, ⟨_, _, HB8.out⟩, HR8.out⟩
    | exact bodyPost_ret (results_none rfl _ _ _) rfl ⟨rfl, ⟨_, _, HB8.out⟩, HR8.out⟩
theorem iRdInt_c (X : Nat → Prop) (W0 : World) (p : Nat) (m : Mach) (x : Ins) (b : Int) (w : World) (h : MV X W0 w p m) (hi : 1 ≤ x.2.1 ∧ x.2.1 ≤ 4 ∧ 0 ≤ m.left ∧ m.left + 1 ≤ x.2.1) (hb : 0 ≤ b ∧ b ≤ 255) :
 Calls Tryz.prog 150 #[.pointer (some ⟨p, 0, none⟩), .agg #[.int .i64 x.1, .int .i64 x.2.1, .int .i64 x.2.2], .int .i64 b] w fun e w' => e = .returned (.tuple #[]) ∧ MV X W0 w' p (m.rdInt x b) ∧ MR X w w' := by
 obtain ⟨R, HRV⟩ : ∃ R, Hid (m.rdInt x b = R) := ⟨_, rfl⟩
 rw [HRV.out]
 obtain ⟨vs, vq, hB⟩ := h
 obtain ⟨W1, hW1⟩ : ∃ W, Hid (W = w.alloc (.cells #[.int .i64 x.1, .int .i64 x.2.1, .int .i64 x.2.2] 79)) := ⟨_, rfl⟩
 have e1 : Ext w W1 := ka hW1
 have HB : Hid (MB (fun k => X k ∨ k = w.heap.size) W0 W1 p m vs vq) := by rw [hW1.out]; exact hB.guard _
 have HR1 : Hid (MR X w W1) := MR.of_ext e1 hB.low
 have HXW : Hid (∀ k, X k → X k ∨ k = w.heap.size) := fun k hk => .inl hk
 have HBI : Hid (Box W1 w.heap.size #[.int .i64 x.1, .int .i64 x.2.1, .int .i64 x.2.2] 79) := by rw [hW1.out]; exact Box.new _ _ _
 have hpl : p < w.heap.size := hB.box.lt
 have hne : p ≠ w.heap.size := by omega
 have hne' : w.heap.size ≠ p := by omega
 have CS := Lib.hid (fun (m' : Mach) w' h => iSkip_c (fun k => X k ∨ k = w.heap.size) W0 p m' w' h)
 have CF := Lib.hid (fun (m' : Mach) (c : Int) w' h => iFail_c (fun k => X k ∨ k = w.heap.size) W0 p m' c w' h)
 have CN := Lib.hid (fun (m' : Mach) (n : Int) w' h => iFinish_c (fun k => X k ∨ k = w.heap.size) W0 p m' n w' h)
 have i1 : ∀ w', Ext W1 w' → w'.cell? ⟨w.heap.size, 1, none⟩ = some (.int .i64 x.2.1) := fun w' e => HBI.out.at 1 w' e
 have i2 : ∀ w', Ext W1 w' → w'.cell? ⟨w.heap.size, 2, none⟩ = some (.int .i64 x.2.2) := fun w' e => HBI.out.at 2 w' e
 have r0 : ∀ w', Ext W1 w' → w'.cell? ⟨p, 0, none⟩ = some (.int .i64 m.pc) := fun w' e => HB.out.box.at 0 w' e
 have r1 : ∀ w', Ext W1 w' → w'.cell? ⟨p, 1, none⟩ = some (.int .i64 m.reg) := fun w' e => HB.out.box.at 1 w' e
 have r4 : ∀ w', Ext W1 w' → w'.cell? ⟨p, 4, none⟩ = some (.int .i64 m.left) := fun w' e => HB.out.box.at 4 w' e
 have r6 : ∀ w', Ext W1 w' → w'.cell? ⟨p, 6, none⟩ = some (.bool m.escaped) := fun w' e => HB.out.box.at 6 w' e
 have f1 := HB.out.box.free 1; have f4 := HB.out.box.free 4; have f6 := HB.out.box.free 6
 obtain ⟨o, a, z⟩ := x
 dsimp only at *
 clear hB e1
 by_cases hz : z = 1
 ·subst hz
  have HM : Hid (R = ({ m with reg := wrap64 (m.reg + wrap64 (b * 2 ^ (8 * (a - m.left - 1)).toNat)) } : Mach).skip) := by show _ = _; rw [← HRV.out]; rfl
  have hw1 : IntKind.i64.wrap (a - m.left) = a - m.left := IntWalk.i64_in _ (by omega)
  have hw2 : IntKind.i64.wrap (a - m.left - 1) = a - m.left - 1 := IntWalk.i64_in _ (by omega)
  have hw3 : IntKind.i64.wrap (8 * (a - m.left - 1)) = 8 * (a - m.left - 1) := IntWalk.i64_in _ (by omega)
  have hsh : 0 ≤ a - m.left - 1 ∧ a - m.left - 1 ≤ 3 := by omega
  have hsh2 : ¬ 8 * (a - m.left - 1) < 0 := by omega
  go_enter Tryz.func150, Tryz.ntmps150
  go_upto_region 1 with (fail)
  rw [← hW1.out]
  go_wp2_with fail
  refine region_qtail_below 18 (by kernel_rfl) (by kernel_rfl) ?_
  simp only [List.take_succ_cons, List.take_zero, List.drop_succ_cons, List.drop_zero]
  repeat (go_big_quiet_step (fail))
  refine wpQuiet_nil ?_
  rintro w4 ⟨⟨nq, osq⟩, hq⟩
  have e4 := ext_of_q hq
  clear hq nq osq
  have HB4 := Lib.hid (HB.out.next e4)
  have q1 := r1 w4 e4; have q1f : w4.frozen? ⟨p, 1, none⟩ = false := HB4.out.box.free 1
  have HB5 := Lib.hid (HB4.out.put (m' := { m with reg := wrap64 (m.reg + wrap64 (b * 2 ^ (8 * (a - m.left - 1)).toNat)) }) 1 (.int .i64 (wrap64 (m.reg + wrap64 (b * 2 ^ (8 * (a - m.left - 1)).toNat)))) rfl rfl rfl)
  go_wp2_with fail
  refine (CS.out { m with reg := wrap64 (m.reg + wrap64 (b * 2 ^ (8 * (a - m.left - 1)).toNat)) } _ ⟨_, _, HB5.out⟩).mono ?_; rintro _ w2 ⟨rfl, ⟨vs2, vq2, hm2⟩, hr2⟩
  have HRE := HR1.out.trans ((((MR.of_ext e4 HB.out.low).trans (MR.set (i := 1) (Value.int .i64 (wrap64 (m.reg + wrap64 (b * 2 ^ (8 * (a - m.left - 1)).toNat)))) HB.out.xp)).trans hr2).weak HXW.out)
  go_wp2
  first
   | exact bodyPost_end (results_none rfl _ _ _) rfl ⟨rfl, (by rw [HM.out]; exact ⟨_, _, hm2.weak HXW.out⟩), HRE⟩
   | exact bodyPost_ret (results_none rfl _ _ _) rfl ⟨rfl, (by rw [HM.out]; exact ⟨_, _, hm2.weak HXW.out⟩), HRE⟩
 ·have hzb : (z == 1) = false := by simp [hz]
  have HM : Hid (R = ({ m with reg := wrap64 (wrap64 (256 * m.reg) + b) } : Mach).skip) := by show _ = _; rw [← HRV.out]; unfold Mach.rdInt; rw [if_neg hz]
  have HB5 := Lib.hid (HB.out.put (m' := { m with reg := wrap64 (wrap64 (256 * m.reg) + b) }) 1 (.int .i64 (wrap64 (wrap64 (256 * m.reg) + b))) rfl rfl rfl)
  go_enter Tryz.func150, Tryz.ntmps150
  go_upto_region 1 with (fail)
  rw [← hW1.out]
  go_wp2_with fail
  refine (CS.out { m with reg := wrap64 (wrap64 (256 * m.reg) + b) } _ ⟨_, _, HB5.out⟩).mono ?_; rintro _ w2 ⟨rfl, ⟨vs2, vq2, hm2⟩, hr2⟩
  have HRE := HR1.out.trans (((MR.set (i := 1) (Value.int .i64 (wrap64 (wrap64 (256 * m.reg) + b))) HB.out.xp).trans hr2).weak HXW.out)
  go_wp2
  first
   | exact bodyPost_end (results_none rfl _ _ _) rfl ⟨rfl, (by rw [HM.out]; exact ⟨_, _, hm2.weak HXW.out⟩), HRE⟩
   | exact bodyPost_ret (results_none rfl _ _ _) rfl ⟨rfl, (by rw [HM.out]; exact ⟨_, _, hm2.weak HXW.out⟩), HRE⟩
theorem iRdFlag_c (X : Nat → Prop) (W0 : World) (p : Nat) (m : Mach) (x : Ins) (b : Int) (w : World) (h : MV X W0 w p m) (hb : 0 ≤ b ∧ b ≤ 255) :
 Calls Tryz.prog 152 #[.pointer (some ⟨p, 0, none⟩), .agg #[.int .i64 x.1, .int .i64 x.2.1, .int .i64 x.2.2], .int .i64 b] w fun e w' => e = .returned (.tuple #[]) ∧ MV X W0 w' p (m.rdFlag x b) ∧ MR X w w' := by
 obtain ⟨R, HRV⟩ : ∃ R, Hid (m.rdFlag x b = R) := ⟨_, rfl⟩
 rw [HRV.out]
 obtain ⟨vs, vq, hB⟩ := h
 obtain ⟨W1, hW1⟩ : ∃ W, Hid (W = w.alloc (.cells #[.int .i64 x.1, .int .i64 x.2.1, .int .i64 x.2.2] 79)) := ⟨_, rfl⟩
 have e1 : Ext w W1 := ka hW1
 have HB : Hid (MB (fun k => X k ∨ k = w.heap.size) W0 W1 p m vs vq) := by rw [hW1.out]; exact hB.guard _
 have HR1 : Hid (MR X w W1) := MR.of_ext e1 hB.low
 have HXW : Hid (∀ k, X k → X k ∨ k = w.heap.size) := fun k hk => .inl hk
 have HBI : Hid (Box W1 w.heap.size #[.int .i64 x.1, .int .i64 x.2.1, .int .i64 x.2.2] 79) := by rw [hW1.out]; exact Box.new _ _ _
 have hpl : p < w.heap.size := hB.box.lt
 have hne : p ≠ w.heap.size := by omega
 have hne' : w.heap.size ≠ p := by omega
 have CS := Lib.hid (fun (m' : Mach) w' h => iSkip_c (fun k => X k ∨ k = w.heap.size) W0 p m' w' h)
 have CF := Lib.hid (fun (m' : Mach) (c : Int) w' h => iFail_c (fun k => X k ∨ k = w.heap.size) W0 p m' c w' h)
 have CN := Lib.hid (fun (m' : Mach) (n : Int) w' h => iFinish_c (fun k => X k ∨ k = w.heap.size) W0 p m' n w' h)
 have i1 : ∀ w', Ext W1 w' → w'.cell? ⟨w.heap.size, 1, none⟩ = some (.int .i64 x.2.1) := fun w' e => HBI.out.at 1 w' e
 have i2 : ∀ w', Ext W1 w' → w'.cell? ⟨w.heap.size, 2, none⟩ = some (.int .i64 x.2.2) := fun w' e => HBI.out.at 2 w' e
 have r0 : ∀ w', Ext W1 w' → w'.cell? ⟨p, 0, none⟩ = some (.int .i64 m.pc) := fun w' e => HB.out.box.at 0 w' e
 have r1 : ∀ w', Ext W1 w' → w'.cell? ⟨p, 1, none⟩ = some (.int .i64 m.reg) := fun w' e => HB.out.box.at 1 w' e
 have r4 : ∀ w', Ext W1 w' → w'.cell? ⟨p, 4, none⟩ = some (.int .i64 m.left) := fun w' e => HB.out.box.at 4 w' e
 have r6 : ∀ w', Ext W1 w' → w'.cell? ⟨p, 6, none⟩ = some (.bool m.escaped) := fun w' e => HB.out.box.at 6 w' e
 have f1 := HB.out.box.free 1; have f4 := HB.out.box.free 4; have f6 := HB.out.box.free 6
 obtain ⟨o, a, z⟩ := x
 dsimp only at *
 clear hB e1
 by_cases hb1 : 1 < b
 ·have hbd : decide (1 < b) = true := decide_eq_true hb1
  have HM : Hid (R = m.fail 4) := by show _ = _; rw [← HRV.out]; unfold Mach.rdFlag; rw [if_pos hb1]
  go_enter Tryz.func152, Tryz.ntmps152
  go_upto_region 1 with (fail)
  rw [← hW1.out]
  go_wp2_with fail
  refine (CF.out m 4 _ ⟨_, _, HB.out⟩).mono ?_; rintro _ w2 ⟨rfl, ⟨vs2, vq2, hm2⟩, hr2⟩
  have HRE := HR1.out.trans (hr2.weak HXW.out)
  go_wp2
  first
   | exact bodyPost_end (results_none rfl _ _ _) rfl ⟨rfl, (by rw [HM.out]; exact ⟨_, _, hm2.weak HXW.out⟩), HRE⟩
   | exact bodyPost_ret (results_none rfl _ _ _) rfl ⟨rfl, (by rw [HM.out]; exact ⟨_, _, hm2.weak HXW.out⟩), HRE⟩
 have hbd : decide (1 < b) = false := decide_eq_false hb1
 by_cases hl : m.left = 0
 rotate_left
 ·have hlb : (m.left != 0) = true := by simp [hl]
  have HM : Hid (R = m) := by show _ = _; rw [← HRV.out]; unfold Mach.rdFlag; rw [if_neg hb1, if_neg hl]
  go_enter Tryz.func152, Tryz.ntmps152
  go_upto_region 1 with (fail)
  rw [← hW1.out]
  go_wp2
  first
   | exact bodyPost_end (results_none rfl _ _ _) rfl ⟨rfl, (by rw [HM.out]; exact ⟨_, _, HB.out.weak HXW.out⟩), HR1.out⟩
   | exact bodyPost_ret (results_none rfl _ _ _) rfl ⟨rfl, (by rw [HM.out]; exact ⟨_, _, HB.out.weak HXW.out⟩), HR1.out⟩
 have hlb : (m.left != 0) = false := by simp [hl]
 by_cases h0 : b = 0
 ·subst h0
  have HM : Hid (R = { m with started := false, pc := a }) := by show _ = _; rw [← HRV.out]; unfold Mach.rdFlag; rw [if_neg hb1, if_pos hl]; rfl
  go_enter Tryz.func152, Tryz.ntmps152
  go_upto_region 1 with (fail)
  rw [← hW1.out]
  go_wp2_with fail
  refine (CN.out m a _ ⟨_, _, HB.out⟩).mono ?_; rintro _ w2 ⟨rfl, ⟨vs2, vq2, hm2⟩, hr2⟩
  have HRE := HR1.out.trans (hr2.weak HXW.out)
  go_wp2
  first
   | exact bodyPost_end (results_none rfl _ _ _) rfl ⟨rfl, (by rw [HM.out]; exact ⟨_, _, hm2.weak HXW.out⟩), HRE⟩
   | exact bodyPost_ret (results_none rfl _ _ _) rfl ⟨rfl, (by rw [HM.out]; exact ⟨_, _, hm2.weak HXW.out⟩), HRE⟩
 ·have h0b : (b == 0) = false := by simp [h0]
  have HM : Hid (R = { m with started := false, pc := wrap64 (m.pc + 1) }) := by show _ = _; rw [← HRV.out]; unfold Mach.rdFlag; rw [if_neg hb1, if_pos hl, if_neg h0]
  go_enter Tryz.func152, Tryz.ntmps152
  go_upto_region 1 with (fail)
  rw [← hW1.out]
  go_wp2_with fail
  refine (CN.out m (wrap64 (m.pc + 1)) _ ⟨_, _, HB.out⟩).mono ?_; rintro _ w2 ⟨rfl, ⟨vs2, vq2, hm2⟩, hr2⟩
  have HRE := HR1.out.trans (hr2.weak HXW.out)
  go_wp2
  first
   | exact bodyPost_end (results_none rfl _ _ _) rfl ⟨rfl, (by rw [HM.out]; exact ⟨_, _, hm2.weak HXW.out⟩), HRE⟩
   | exact bodyPost_ret (results_none rfl _ _ _) rfl ⟨rfl, (by rw [HM.out]; exact ⟨_, _, hm2.weak HXW.out⟩), HRE⟩
theorem iRdUntil_c (X : Nat → Prop) (W0 : World) (p : Nat) (m : Mach) (x : Ins) (b : Int) (w : World) (h : MV X W0 w p m) (hb : 0 ≤ b ∧ b ≤ 255) :
 Calls Tryz.prog 154 #[.pointer (some ⟨p, 0, none⟩), .agg #[.int .i64 x.1, .int .i64 x.2.1, .int .i64 x.2.2], .int .i64 b] w fun e w' => e = .returned (.tuple #[]) ∧ MV X W0 w' p (m.rdUntil x b) ∧ MR X w w' := by
 obtain ⟨R, HRV⟩ : ∃ R, Hid (m.rdUntil x b = R) := ⟨_, rfl⟩
 rw [HRV.out]
 obtain ⟨vs, vq, hB⟩ := h
 obtain ⟨W1, hW1⟩ : ∃ W, Hid (W = w.alloc (.cells #[.int .i64 x.1, .int .i64 x.2.1, .int .i64 x.2.2] 79)) := ⟨_, rfl⟩
 have e1 : Ext w W1 := ka hW1
 have HB : Hid (MB (fun k => X k ∨ k = w.heap.size) W0 W1 p m vs vq) := by rw [hW1.out]; exact hB.guard _
 have HR1 : Hid (MR X w W1) := MR.of_ext e1 hB.low
 have HXW : Hid (∀ k, X k → X k ∨ k = w.heap.size) := fun k hk => .inl hk
 have HBI : Hid (Box W1 w.heap.size #[.int .i64 x.1, .int .i64 x.2.1, .int .i64 x.2.2] 79) := by rw [hW1.out]; exact Box.new _ _ _
 have hpl : p < w.heap.size := hB.box.lt
 have hne : p ≠ w.heap.size := by omega
 have hne' : w.heap.size ≠ p := by omega
 have CS := Lib.hid (fun (m' : Mach) w' h => iSkip_c (fun k => X k ∨ k = w.heap.size) W0 p m' w' h)
 have CF := Lib.hid (fun (m' : Mach) (c : Int) w' h => iFail_c (fun k => X k ∨ k = w.heap.size) W0 p m' c w' h)
 have CN := Lib.hid (fun (m' : Mach) (n : Int) w' h => iFinish_c (fun k => X k ∨ k = w.heap.size) W0 p m' n w' h)
 have i1 : ∀ w', Ext W1 w' → w'.cell? ⟨w.heap.size, 1, none⟩ = some (.int .i64 x.2.1) := fun w' e => HBI.out.at 1 w' e
 have i2 : ∀ w', Ext W1 w' → w'.cell? ⟨w.heap.size, 2, none⟩ = some (.int .i64 x.2.2) := fun w' e => HBI.out.at 2 w' e
 have r0 : ∀ w', Ext W1 w' → w'.cell? ⟨p, 0, none⟩ = some (.int .i64 m.pc) := fun w' e => HB.out.box.at 0 w' e
 have r1 : ∀ w', Ext W1 w' → w'.cell? ⟨p, 1, none⟩ = some (.int .i64 m.reg) := fun w' e => HB.out.box.at 1 w' e
 have r4 : ∀ w', Ext W1 w' → w'.cell? ⟨p, 4, none⟩ = some (.int .i64 m.left) := fun w' e => HB.out.box.at 4 w' e
 have r6 : ∀ w', Ext W1 w' → w'.cell? ⟨p, 6, none⟩ = some (.bool m.escaped) := fun w' e => HB.out.box.at 6 w' e
 have f1 := HB.out.box.free 1; have f4 := HB.out.box.free 4; have f6 := HB.out.box.free 6
 obtain ⟨o, a, z⟩ := x
 dsimp only at *
 clear hB e1
 cases hes : m.escaped
 ·rw [hes] at r6
  by_cases hba : b = a
  ·have hbb : (b == a) = true := by simp [hba]
   have HM : Hid (R = m.skip) := by show _ = _; rw [← HRV.out]; unfold Mach.rdUntil; rw [if_pos ⟨hes, hba⟩]
   clear hes
   go_enter Tryz.func154, Tryz.ntmps154
   go_upto_region 1 with (fail)
   rw [← hW1.out]
   go_wp2_with fail
   refine (CS.out m _ ⟨_, _, HB.out⟩).mono ?_; rintro _ w2 ⟨rfl, ⟨vs2, vq2, hm2⟩, hr2⟩
   have HRE := HR1.out.trans (hr2.weak HXW.out)
   go_wp2
   first
    | exact bodyPost_end (results_none rfl _ _ _) rfl ⟨rfl, (by rw [HM.out]; exact ⟨_, _, hm2.weak HXW.out⟩), HRE⟩
    | exact bodyPost_ret (results_none rfl _ _ _) rfl ⟨rfl, (by rw [HM.out]; exact ⟨_, _, hm2.weak HXW.out⟩), HRE⟩
  ·have hbb : (b == a) = false := by simp [hba]
   have HM : Hid (R = { m with left := 1, escaped := (b == 92) }) := by show _ = _; rw [← HRV.out]; unfold Mach.rdUntil; rw [if_neg (fun hh => hba hh.2), hes]; rfl
   clear hes
   have r6s : W1.cell? ⟨p, 6, none⟩ = some (.bool false) := r6 W1 (Ext.refl _)
   have hB5 := HB.out.put (m' := { m with escaped := (b == 92) }) 6 (.bool (b == 92)) rfl rfl rfl
   have t4 : (W1.setCell ⟨p, 6, none⟩ (.bool (b == 92))).cell? ⟨p, 4, none⟩ = some (.int .i64 m.left) := hB5.box.cell 4
   have HB6 := Lib.hid (hB5.put (m' := { m with left := 1, escaped := (b == 92) }) 4 (.int .i64 1) rfl rfl rfl)
   have HRE := Lib.hid (HR1.out.trans (((MR.set (i := 6) (Value.bool (b == 92)) HB.out.xp).trans (MR.set (i := 4) (Value.int .i64 1) HB.out.xp)).weak HXW.out))
   clear hB5
   go_enter Tryz.func154, Tryz.ntmps154
   go_upto_region 1 with (fail)
   rw [← hW1.out]
   go_wp2
   first
    | exact bodyPost_end (results_none rfl _ _ _) rfl ⟨rfl, (by rw [HM.out]; exact ⟨_, _, HB6.out.weak HXW.out⟩), HRE.out⟩
    | exact bodyPost_ret (results_none rfl _ _ _) rfl ⟨rfl, (by rw [HM.out]; exact ⟨_, _, HB6.out.weak HXW.out⟩), HRE.out⟩
 ·rw [hes] at r6
  have HM : Hid (R = { m with left := 1, escaped := false }) := by show _ = _; rw [← HRV.out]; unfold Mach.rdUntil; rw [if_neg (fun hh => by rw [hes] at hh; cases hh.1), hes]; rfl
  clear hes
  have r6s : W1.cell? ⟨p, 6, none⟩ = some (.bool true) := r6 W1 (Ext.refl _)
  have hB5 := HB.out.put (m' := { m with escaped := false }) 6 (.bool false) rfl rfl rfl
  have t4 : (W1.setCell ⟨p, 6, none⟩ (.bool false)).cell? ⟨p, 4, none⟩ = some (.int .i64 m.left) := hB5.box.cell 4
  have HB6 := Lib.hid (hB5.put (m' := { m with left := 1, escaped := false }) 4 (.int .i64 1) rfl rfl rfl)
  have HRE := Lib.hid (HR1.out.trans (((MR.set (i := 6) (Value.bool false) HB.out.xp).trans (MR.set (i := 4) (Value.int .i64 1) HB.out.xp)).weak HXW.out))
  clear hB5
  go_enter Tryz.func154, Tryz.ntmps154
  go_upto_region 1 with (fail)
  rw [← hW1.out]
  go_wp2
  first
   | exact bodyPost_end (results_none rfl _ _ _) rfl ⟨rfl, (by rw [HM.out]; exact ⟨_, _, HB6.out.weak HXW.out⟩), HRE.out⟩
   | exact bodyPost_ret (results_none rfl _ _ _) rfl ⟨rfl, (by rw [HM.out]; exact ⟨_, _, HB6.out.weak HXW.out⟩), HRE.out⟩
@[go_sem] theorem run_store_func {P : Program} (w : World) (a : Addr) (md : Mode) (f : Fn) (x y : Array Value) : (store a (.func f x y) md).run P w = stored P w a (.func f x y) md := run_store P w a _ md rfl
@[go_sem] theorem run_store_nilFunc {P : Program} (w : World) (a : Addr) (md : Mode) : (store a .nilFunc md).run P w = stored P w a .nilFunc md := run_store P w a _ md rfl
theorem run_eqIn_func {P : Program} (w : World) (d : Nat) (t : TypeId) {a b : _} {c : _} (h : P.underlying t = some (.func a b c)) (f : Fn) (x y : Array Value) : (Op.equalIn (d + 1) t (.func f x y) .nilFunc).run P w = .ok false w := by
 simp [Op.equalIn, run_underlying h]
theorem run_eqIn_nilf {P : Program} (w : World) (d : Nat) (t : TypeId) {a b : _} {c : _} (h : P.underlying t = some (.func a b c)) : (Op.equalIn (d + 1) t .nilFunc .nilFunc).run P w = .ok true w := by
 simp [Op.equalIn, run_underlying h]
@[go_sem] theorem neq_func (f : Fn) (x y : Array Value) (w : World) : (binOp .neq 1 (.func f x y) .nilFunc).run Tryz.prog w = .ok (.bool true) w := by
 have h : (Op.equal 1 (.func f x y) .nilFunc).run Tryz.prog w = .ok false w := run_eqIn_func w 9999 _ Tryz.underlying1 f x y
 simp only [binOp]
 simp [h]
@[go_sem] theorem neq_nilf (w : World) : (binOp .neq 1 .nilFunc .nilFunc).run Tryz.prog w = .ok (.bool false) w := by
 have h : (Op.equal 1 .nilFunc .nilFunc).run Tryz.prog w = .ok true w := run_eqIn_nilf w 9999 _ Tryz.underlying1
 simp only [binOp]
 simp [h]
def Mach.takeI (m : Mach) (x : Ins) (b : Int) : Mach :=
 if x.1 = 15 then (if m.sums.getLastD 0 = b then (({ m with sums := m.sums.dropLast } : Mach).eat b).rd x b else m.fail 5) else (m.eat b).rd x b
theorem MB.guardN {X : Nat → Prop} {W0 w W1 : World} {p : Nat} {m : Mach} {vs vq : Value} (h : MB X W0 w p m vs vq) (e : Ext w W1) : MB (fun k => X k ∨ (w.heap.size ≤ k ∧ k < W1.heap.size)) W0 W1 p m vs vq := by
 have h1 := h.next e
 have hp := h.box.lt
 have hsz := e.size
 refine ⟨h1.lo, h1.box, h1.os, h1.oq, h1.n1, h1.n2, h1.far, ?_, ?_, ?_, ?_, h1.ext⟩
 ·rintro (hx | hx)
  ·exact h.xp hx
  ·omega
 ·rintro b hb (hx | hx)
  ·exact h.xs b hb hx
  ·have := (World.ownsRow.lt h.os b hb).2; omega
 ·rintro b hb (hx | hx)
  ·exact h.xq b hb hx
  ·have := (World.ownsRow.lt h.oq b hb).2; omega
 ·rintro k (hx | hx)
  ·have := h.low k hx; omega
  ·omega
theorem iTk1_c (X : Nat → Prop) (W0 : World) (p : Nat) (m : Mach) (x : Ins) (b : Int) (gm gi gb : Nat) (w : World) (h : MV X W0 w p m) (hi : 1 ≤ x.2.1 ∧ x.2.1 ≤ 4 ∧ 0 ≤ m.left ∧ m.left + 1 ≤ x.2.1) (hgm : ∀ w', Ext w w' → w'.cell? ⟨gm, 0, none⟩ = some (.pointer (some ⟨p, 0, none⟩))) (hi0 : ∀ w', Ext w w' → w'.cell? ⟨gi, 0, none⟩ = some (.int .i64 x.1)) (hi1 : ∀ w', Ext w w' → w'.cell? ⟨gi, 1, none⟩ = some (.int .i64 x.2.1)) (hi2 : ∀ w', Ext w w' → w'.cell? ⟨gi, 2, none⟩ = some (.int .i64 x.2.2)) (hgb : ∀ w', Ext w w' → w'.cell? ⟨gb, 0, none⟩ = some (.int .i64 b)) (hb : 0 ≤ b ∧ b ≤ 255) :
 Calls Tryz.prog 149 #[.pointer (some ⟨gm, 0, none⟩), .pointer (some ⟨gi, 0, none⟩), .pointer (some ⟨gb, 0, none⟩)] w fun e w' => e = .returned (.tuple #[]) ∧ MV X W0 w' p (m.rdInt x b) ∧ MR X w w' := by
 have C := Lib.hid (iRdInt_c X W0 p m x b w h hi hb)
 clear h
 go_enter Tryz.func149, Tryz.ntmps149
 go_wp2_with fail
 refine C.out.mono ?_; rintro _ w2 ⟨rfl, hm2, hr2⟩
 go_wp2
 first
  | exact bodyPost_end (results_none rfl _ _ _) rfl ⟨rfl, hm2, hr2⟩
  | exact bodyPost_ret (results_none rfl _ _ _) rfl ⟨rfl, hm2, hr2⟩
theorem iTk13_c (X : Nat → Prop) (W0 : World) (p : Nat) (m : Mach) (x : Ins) (b : Int) (gm gi gb : Nat) (w : World) (h : MV X W0 w p m) (hgm : ∀ w', Ext w w' → w'.cell? ⟨gm, 0, none⟩ = some (.pointer (some ⟨p, 0, none⟩))) (hi0 : ∀ w', Ext w w' → w'.cell? ⟨gi, 0, none⟩ = some (.int .i64 x.1)) (hi1 : ∀ w', Ext w w' → w'.cell? ⟨gi, 1, none⟩ = some (.int .i64 x.2.1)) (hi2 : ∀ w', Ext w w' → w'.cell? ⟨gi, 2, none⟩ = some (.int .i64 x.2.2)) (hgb : ∀ w', Ext w w' → w'.cell? ⟨gb, 0, none⟩ = some (.int .i64 b)) (hb : 0 ≤ b ∧ b ≤ 255) :
 Calls Tryz.prog 151 #[.pointer (some ⟨gm, 0, none⟩), .pointer (some ⟨gi, 0, none⟩), .pointer (some ⟨gb, 0, none⟩)] w fun e w' => e = .returned (.tuple #[]) ∧ MV X W0 w' p (m.rdFlag x b) ∧ MR X w w' := by
 have C := Lib.hid (iRdFlag_c X W0 p m x b w h hb)
 clear h
 go_enter Tryz.func151, Tryz.ntmps151
 go_wp2_with fail
 refine C.out.mono ?_; rintro _ w2 ⟨rfl, hm2, hr2⟩
 go_wp2
 first
  | exact bodyPost_end (results_none rfl _ _ _) rfl ⟨rfl, hm2, hr2⟩
  | exact bodyPost_ret (results_none rfl _ _ _) rfl ⟨rfl, hm2, hr2⟩
theorem iTk16_c (X : Nat → Prop) (W0 : World) (p : Nat) (m : Mach) (x : Ins) (b : Int) (gm gi gb : Nat) (w : World) (h : MV X W0 w p m) (hgm : ∀ w', Ext w w' → w'.cell? ⟨gm, 0, none⟩ = some (.pointer (some ⟨p, 0, none⟩))) (hi0 : ∀ w', Ext w w' → w'.cell? ⟨gi, 0, none⟩ = some (.int .i64 x.1)) (hi1 : ∀ w', Ext w w' → w'.cell? ⟨gi, 1, none⟩ = some (.int .i64 x.2.1)) (hi2 : ∀ w', Ext w w' → w'.cell? ⟨gi, 2, none⟩ = some (.int .i64 x.2.2)) (hgb : ∀ w', Ext w w' → w'.cell? ⟨gb, 0, none⟩ = some (.int .i64 b)) (hb : 0 ≤ b ∧ b ≤ 255) :
 Calls Tryz.prog 153 #[.pointer (some ⟨gm, 0, none⟩), .pointer (some ⟨gi, 0, none⟩), .pointer (some ⟨gb, 0, none⟩)] w fun e w' => e = .returned (.tuple #[]) ∧ MV X W0 w' p (m.rdUntil x b) ∧ MR X w w' := by
 have C := Lib.hid (iRdUntil_c X W0 p m x b w h hb)
 clear h
 go_enter Tryz.func153, Tryz.ntmps153
 go_wp2_with fail
 refine C.out.mono ?_; rintro _ w2 ⟨rfl, hm2, hr2⟩
 go_wp2
 first
  | exact bodyPost_end (results_none rfl _ _ _) rfl ⟨rfl, hm2, hr2⟩
  | exact bodyPost_ret (results_none rfl _ _ _) rfl ⟨rfl, hm2, hr2⟩
theorem iTk2_c (X : Nat → Prop) (W0 : World) (p : Nat) (m : Mach) (x : Ins) (b : Int) (gm gi gb : Nat) (w : World) (h : MV X W0 w p m) (hgm : ∀ w', Ext w w' → w'.cell? ⟨gm, 0, none⟩ = some (.pointer (some ⟨p, 0, none⟩))) (hi0 : ∀ w', Ext w w' → w'.cell? ⟨gi, 0, none⟩ = some (.int .i64 x.1)) (hi1 : ∀ w', Ext w w' → w'.cell? ⟨gi, 1, none⟩ = some (.int .i64 x.2.1)) (hi2 : ∀ w', Ext w w' → w'.cell? ⟨gi, 2, none⟩ = some (.int .i64 x.2.2)) (hgb : ∀ w', Ext w w' → w'.cell? ⟨gb, 0, none⟩ = some (.int .i64 b)) (hb : 0 ≤ b ∧ b ≤ 255) :
 Calls Tryz.prog 155 #[.pointer (some ⟨gb, 0, none⟩), .pointer (some ⟨gi, 0, none⟩), .pointer (some ⟨gm, 0, none⟩)] w fun e w' => e = .returned (.tuple #[]) ∧ MV X W0 w' p (m.rdMatch x b) ∧ MR X w w' := by
 by_cases hba : b = x.2.1
 ·have HM : Hid (m.rdMatch x b = m.skip) := by show _ = _; unfold Mach.rdMatch; rw [if_pos hba]
  have C := Lib.hid (iSkip_c X W0 p m w h)
  have hbb : (b != x.2.1) = false := by simp [hba]
  rw [HM.out]
  clear h
  go_enter Tryz.func155, Tryz.ntmps155
  go_wp2_with fail
  refine C.out.mono ?_; rintro _ w2 ⟨rfl, hm2, hr2⟩
  go_wp2
  first
   | exact bodyPost_end (results_none rfl _ _ _) rfl ⟨rfl, hm2, hr2⟩
   | exact bodyPost_ret (results_none rfl _ _ _) rfl ⟨rfl, hm2, hr2⟩
 ·have HM : Hid (m.rdMatch x b = m.fail 2) := by show _ = _; unfold Mach.rdMatch; rw [if_neg hba]
  have C := Lib.hid (iFail_c X W0 p m 2 w h)
  have hbb : (b != x.2.1) = true := by simp [hba]
  rw [HM.out]
  clear h
  go_enter Tryz.func155, Tryz.ntmps155
  go_wp2_with fail
  refine C.out.mono ?_; rintro _ w2 ⟨rfl, hm2, hr2⟩
  go_wp2
  first
   | exact bodyPost_end (results_none rfl _ _ _) rfl ⟨rfl, hm2, hr2⟩
   | exact bodyPost_ret (results_none rfl _ _ _) rfl ⟨rfl, hm2, hr2⟩
theorem iTake_c (X : Nat → Prop) (W0 : World) (p : Nat) (m : Mach) (x : Ins) (b : Int) (w : World) (h : MV X W0 w p m) (hm : m.Ok) (hop : 1 ≤ x.1 ∧ x.1 ≤ 17) (hi : x.1 = 1 → 1 ≤ x.2.1 ∧ x.2.1 ≤ 4 ∧ 1 ≤ m.left ∧ m.left ≤ x.2.1) (h15 : x.1 = 15 → 0 < m.sums.length) (hb : 0 ≤ b ∧ b ≤ 255) :
 Calls Tryz.prog 115 #[.pointer (some ⟨p, 0, none⟩), .agg #[.int .i64 x.1, .int .i64 x.2.1, .int .i64 x.2.2], .int .i64 b] w fun e w' => e = .returned (.tuple #[]) ∧ MV X W0 w' p (m.takeI x b) ∧ MR X w w' := by
 obtain ⟨R, HRV⟩ : ∃ R, Hid (m.takeI x b = R) := ⟨_, rfl⟩
 rw [HRV.out]
 obtain ⟨vs, vq, hB⟩ := h
 obtain ⟨W1, hW1, G0, G1, G2, e1, hsz⟩ := boxes3' w #[.pointer (some ⟨p, 0, none⟩)] #[.int .i64 x.1, .int .i64 x.2.1, .int .i64 x.2.2] #[.int .i64 b] 130 79 3
 have HB : Hid (MB (fun k => X k ∨ (w.heap.size ≤ k ∧ k < W1.heap.size)) W0 W1 p m vs vq) := hB.guardN e1
 have HR1 : Hid (MR X w W1) := MR.of_ext e1 hB.low
 have HXW : Hid (∀ k, X k → X k ∨ (w.heap.size ≤ k ∧ k < W1.heap.size)) := fun k hk => .inl hk
 have HG0 := Lib.hid G0; have HG1 := Lib.hid G1; have HG2 := Lib.hid G2
 have HX0 : Hid (X w.heap.size ∨ (w.heap.size ≤ w.heap.size ∧ w.heap.size < W1.heap.size)) := .inr (by omega)
 have HX1 : Hid (X (w.heap.size + 1) ∨ (w.heap.size ≤ w.heap.size + 1 ∧ w.heap.size + 1 < W1.heap.size)) := .inr (by omega)
 have HX2 : Hid (X (w.heap.size + 1 + 1) ∨ (w.heap.size ≤ w.heap.size + 1 + 1 ∧ w.heap.size + 1 + 1 < W1.heap.size)) := .inr (by omega)
 have hpl : p < w.heap.size := hB.box.lt
 have CC := Lib.hid (fun (m' : Mach) w' h hq => iCount_c (fun k => X k ∨ (w.heap.size ≤ k ∧ k < W1.heap.size)) W0 p m' b w' h hq)
 have CF := Lib.hid (fun (m' : Mach) (c : Int) w' h => iFail_c (fun k => X k ∨ (w.heap.size ≤ k ∧ k < W1.heap.size)) W0 p m' c w' h)
 have CS := Lib.hid (fun (m' : Mach) w' h => iSkip_c (fun k => X k ∨ (w.heap.size ≤ k ∧ k < W1.heap.size)) W0 p m' w' h)
 have HOK := Lib.hid hm; have HBB := Lib.hid hb
 have f0 : ∀ w', Ext W1 w' → w'.cell? ⟨w.heap.size, 0, none⟩ = some (.pointer (some ⟨p, 0, none⟩)) := fun w' e => G0.at 0 w' e
 have f1 : ∀ w', Ext W1 w' → w'.cell? ⟨w.heap.size + 1, 0, none⟩ = some (.int .i64 x.1) := fun w' e => G1.at 0 w' e
 have f2 : ∀ w', Ext W1 w' → w'.cell? ⟨w.heap.size + 1 + 1, 0, none⟩ = some (.int .i64 b) := fun w' e => G2.at 0 w' e
 have i1 := f1 W1 (Ext.refl _)
 rw [hW1.out] at i1
 clear G0 G1 G2 e1 hB hm hb hsz
 have HWOK : Hid (MV (fun k => X k ∨ (w.heap.size ≤ k ∧ k < W1.heap.size)) W0 W1 p m) := ⟨_, _, HB.out⟩
 obtain ⟨o, a, z⟩ := x
 dsimp only at *
 have HOPS := Lib.hid hop; have HI1 := Lib.hid hi
 clear hop hi
 go_enter Tryz.func115, Tryz.ntmps115
 go_upto_if 11 with (fail)
 rw [← hW1.out]
 clear i1 hW1
 go_cut [6] from 12 to 37 (fun s6 wx => ∃ m1 : Mach, Hid m1.Ok ∧ Hid (R = (m1.eat b).rd (o, a, z) b) ∧ Hid (m1.left = m.left) ∧ Hid (MV (fun k => X k ∨ (w.heap.size ≤ k ∧ k < W1.heap.size)) W0 wx p m1) ∧ Hid (MR (fun k => X k ∨ (w.heap.size ≤ k ∧ k < W1.heap.size)) W1 wx))
 case first =>
  by_cases h15e : o = 15
  rotate_left
  ·have n15 : (o == 15) = false := by simp [h15e]
   have HF : Hid (R = (m.eat b).rd (o, a, z) b) := by show _ = _; rw [← HRV.out]; unfold Mach.takeI; rw [if_neg h15e]
   go_wp2
   go_meet
   exact ⟨m, HOK.out, HF.out, rfl, HWOK.out, MR.refl _ _⟩
  subst h15e
  have hpos := h15 rfl
  obtain ⟨gq, cq, hvq, hcq1, hcq2⟩ := HB.out.oq.base hpos
  subst hvq
  have r3 : ∀ w', Ext W1 w' → w'.cell? ⟨p, 3, none⟩ = some (Value.slice (some ⟨gq, 0, none⟩) m.sums.length cq) := fun w' e => (HB.out.box.ext e).cell 3
  have hlast := last_at m.sums hpos
  have hcl : ∀ w', Ext W1 w' → w'.cell? ⟨gq, m.sums.length - 1, none⟩ = some (.int .i64 (m.sums.getLastD 0)) := fun w' e => by
   rw [OwnL.cellN (HB.out.oq.ext e) (m.sums.length - 1) (by omega), hlast]
  have HB15 : Hid (R = if m.sums.getLastD 0 = b then (({ m with sums := m.sums.dropLast } : Mach).eat b).rd (15, a, z) b else m.fail 5) := by
   show _ = _; rw [← HRV.out]; rfl
  have HPOS := Lib.hid hpos
  have hi0 : (0 : Int) ≤ (m.sums.length : Int) - 1 := by omega
  have hi1 : (m.sums.length : Int) - 1 < (m.sums.length : Int) := by omega
  have hi2 : ((m.sums.length : Int) - 1).toNat = m.sums.length - 1 := by omega
  have hi3 : (m.sums.length : Int) - 1 ≤ (cq : Int) := by omega
  have hi4 : (m.sums.length : Int) ≤ 30 := by have := HOK.out.sm; omega
  generalize m.sums.getLastD 0 = y at *
  clear hlast h15 hpos hcq1 hcq2
  by_cases hy : y = b
  rotate_left
  ·have HM : Hid (R = m.fail 5) := by show _ = _; rw [HB15.out, if_neg hy]
   have hyb : (y != b) = true := by simp [hy]
   clear HB15
   go_wp2_with fail
   refine wp_region_quiet_below (by kernel_rfl) (by kernel_rfl) ?_
   repeat (go_big_quiet_step ((fail)))
   refine wpQuiet_nil ?_
   rintro w6 ⟨⟨nq, osq⟩, hq⟩
   have ew6 := ext_of_q hq
   clear hq nq osq
   go_wp2_with fail
   refine (CF.out m 5 _ ⟨_, _, HB.out.next ew6⟩).mono ?_; rintro _ w7 ⟨rfl, ⟨vs7, vq7, hm7⟩, hr7⟩
   have HRE := HR1.out.trans (((MR.of_ext ew6 HB.out.low).trans hr7).weak HXW.out)
   go_wp2
   first
    | exact bodyPost_end (results_none rfl _ _ _) rfl ⟨rfl, (by rw [HM.out]; exact ⟨_, _, hm7.weak HXW.out⟩), HRE⟩
    | exact bodyPost_ret (results_none rfl _ _ _) rfl ⟨rfl, (by rw [HM.out]; exact ⟨_, _, hm7.weak HXW.out⟩), HRE⟩
  obtain rfl : b = y := hy.symm
  have HF : Hid (R = (({ m with sums := m.sums.dropLast } : Mach).eat b).rd (15, a, z) b) := by show _ = _; rw [HB15.out, if_pos rfl]
  have hyb : (b != b) = false := by simp
  clear HB15
  go_wp2_with fail
  refine wp_region_quiet_below (by kernel_rfl) (by kernel_rfl) ?_
  repeat (go_big_quiet_step ((fail)))
  refine wpQuiet_nil ?_
  rintro w6 ⟨⟨nq, osq⟩, hq⟩
  have ew6 := ext_of_q hq
  clear hq nq osq
  replace r3 := kx r3 ew6
  replace f0 := kx f0 ew6
  go_wp2_with fail
  refine region_qtail_below 9 (by kernel_rfl) (by kernel_rfl) ?_
  simp only [List.take_succ_cons, List.take_zero, List.drop_succ_cons, List.drop_zero]
  repeat (go_big_quiet_step (fail))
  refine wpQuiet_nil ?_
  rintro w8 ⟨⟨nq, osq⟩, hq⟩
  have ew68 := ew6.trans (ext_of_q hq)
  clear hq nq osq hcl
  have HB8 := Lib.hid (HB.out.next ew68)
  have f3 := HB8.out.box.free 3
  have q3 : w8.cell? ⟨p, 3, none⟩ = some (Value.slice (some ⟨gq, 0, none⟩) m.sums.length cq) := HB8.out.box.cell 3
  have HB9 := Lib.hid (HB8.out.popQ HPOS.out)
  have HR9 := Lib.hid ((MR.of_ext ew68 HB.out.low).trans (MR.set (i := 3) (Value.slice (some ⟨gq, 0, none⟩) (m.sums.length - 1) cq) HB.out.xp))
  have HOK1 : Hid (Mach.Ok { m with sums := m.sums.dropLast }) := ⟨HOK.out.st, by have := HOK.out.sm; show m.sums.dropLast.length ≤ 30; rw [List.length_dropLast]; omega⟩
  clear r3
  go_wp2
  go_meet
  exact ⟨{ m with sums := m.sums.dropLast }, HOK1.out, HF.out, rfl, ⟨_, _, HB9.out⟩, HR9.out⟩
 case rest =>
  obtain ⟨m1, hok1, hf1, hl1, hmv1, hrw⟩ := hcut
  obtain ⟨vs1, vq1, hb1⟩ := hmv1.out
  clear HWOK HRV HB HOK h15 CF f0 f1 f2 hmv1
  have hg0 : Box wc w.heap.size #[.pointer (some ⟨p, 0, none⟩)] 130 := (hrw.out.kept _ HX0.out).trans HG0.out
  have hg2 : Box wc (w.heap.size + 1 + 1) #[.int .i64 b] 3 := (hrw.out.kept _ HX2.out).trans HG2.out
  have c0 : ∀ w', Ext wc w' → w'.cell? ⟨w.heap.size, 0, none⟩ = some (.pointer (some ⟨p, 0, none⟩)) := fun w' e => hg0.at 0 w' e
  have c2 : ∀ w', Ext wc w' → w'.cell? ⟨w.heap.size + 1 + 1, 0, none⟩ = some (.int .i64 b) := fun w' e => hg2.at 0 w' e
  have HB1 := Lib.hid hb1
  clear hb1
  go_wp2_with fail
  refine (CC.out m1 _ ⟨_, _, HB1.out⟩ hok1.out.sm).mono ?_; rintro _ w5 ⟨rfl, ⟨vs5, vq5, hm5⟩, hr5⟩
  have HB5 := Lib.hid hm5; have HR5 := Lib.hid (hrw.out.trans hr5)
  clear hm5 hr5 hg0 hg2 c0 c2 CC HB1 hrw
  have HG05 : Hid (Box w5 w.heap.size #[.pointer (some ⟨p, 0, none⟩)] 130) := (HR5.out.kept _ HX0.out).trans HG0.out
  have HG15 : Hid (Box w5 (w.heap.size + 1) #[.int .i64 o, .int .i64 a, .int .i64 z] 79) := (HR5.out.kept _ HX1.out).trans HG1.out
  have HG25 : Hid (Box w5 (w.heap.size + 1 + 1) #[.int .i64 b] 3) := (HR5.out.kept _ HX2.out).trans HG2.out
  clear HG0 HG1 HG2
  obtain ⟨W6, hW6⟩ : ∃ W, Hid (W = w5.alloc (.cells #[.nilFunc, .func (.func 149) #[] #[.pointer (some ⟨w.heap.size, 0, none⟩), .pointer (some ⟨w.heap.size + 1, 0, none⟩), .pointer (some ⟨w.heap.size + 1 + 1, 0, none⟩)], .func (.func 155) #[] #[.pointer (some ⟨w.heap.size + 1 + 1, 0, none⟩), .pointer (some ⟨w.heap.size + 1, 0, none⟩), .pointer (some ⟨w.heap.size, 0, none⟩)], .nilFunc, .nilFunc, .nilFunc, .nilFunc, .nilFunc, .nilFunc, .nilFunc, .nilFunc, .nilFunc, .nilFunc, .func (.func 151) #[] #[.pointer (some ⟨w.heap.size, 0, none⟩), .pointer (some ⟨w.heap.size + 1, 0, none⟩), .pointer (some ⟨w.heap.size + 1 + 1, 0, none⟩)], .nilFunc, .nilFunc, .func (.func 153) #[] #[.pointer (some ⟨w.heap.size, 0, none⟩), .pointer (some ⟨w.heap.size + 1, 0, none⟩), .pointer (some ⟨w.heap.size + 1 + 1, 0, none⟩)], .nilFunc] 168)) := ⟨_, rfl⟩
  have e6 : Ext w5 W6 := ka hW6
  have HA6 : Hid (Box W6 w5.heap.size #[.nilFunc, .func (.func 149) #[] #[.pointer (some ⟨w.heap.size, 0, none⟩), .pointer (some ⟨w.heap.size + 1, 0, none⟩), .pointer (some ⟨w.heap.size + 1 + 1, 0, none⟩)], .func (.func 155) #[] #[.pointer (some ⟨w.heap.size + 1 + 1, 0, none⟩), .pointer (some ⟨w.heap.size + 1, 0, none⟩), .pointer (some ⟨w.heap.size, 0, none⟩)], .nilFunc, .nilFunc, .nilFunc, .nilFunc, .nilFunc, .nilFunc, .nilFunc, .nilFunc, .nilFunc, .nilFunc, .func (.func 151) #[] #[.pointer (some ⟨w.heap.size, 0, none⟩), .pointer (some ⟨w.heap.size + 1, 0, none⟩), .pointer (some ⟨w.heap.size + 1 + 1, 0, none⟩)], .nilFunc, .nilFunc, .func (.func 153) #[] #[.pointer (some ⟨w.heap.size, 0, none⟩), .pointer (some ⟨w.heap.size + 1, 0, none⟩), .pointer (some ⟨w.heap.size + 1 + 1, 0, none⟩)], .nilFunc] 168) := by rw [hW6.out]; exact Box.new _ _ _
  have HB6 := Lib.hid (HB5.out.next e6)
  have HR6 := Lib.hid (HR1.out.trans ((HR5.out.trans (MR.of_ext e6 HB5.out.low)).weak HXW.out))
  have k0 : ∀ w', Ext W6 w' → w'.cell? ⟨w.heap.size, 0, none⟩ = some (.pointer (some ⟨p, 0, none⟩)) := fun w' e => HG05.out.at 0 w' (e6.trans e)
  have k1 : ∀ w', Ext W6 w' → w'.cell? ⟨w.heap.size + 1, 0, none⟩ = some (.int .i64 o) := fun w' e => HG15.out.at 0 w' (e6.trans e)
  have k11 : ∀ w', Ext W6 w' → w'.cell? ⟨w.heap.size + 1, 1, none⟩ = some (.int .i64 a) := fun w' e => HG15.out.at 1 w' (e6.trans e)
  have k12 : ∀ w', Ext W6 w' → w'.cell? ⟨w.heap.size + 1, 2, none⟩ = some (.int .i64 z) := fun w' e => HG15.out.at 2 w' (e6.trans e)
  have k2 : ∀ w', Ext W6 w' → w'.cell? ⟨w.heap.size + 1 + 1, 0, none⟩ = some (.int .i64 b) := fun w' e => HG25.out.at 0 w' (e6.trans e)
  go_upto_region 8 with (fail)
  rw [← hW6.out]
  clear hW6 HG05 HG15 HG25 HR5 HB5
  have hop := HOPS.out
  have hlft : (m1.eat b).left = wrap64 (m1.left - 1) := rfl
  have HLF := Lib.hid hlft
  generalize m1.eat b = m2 at *
  clear hlft
  by_cases h1 : o = 1
  ·subst h1
   have HM : Hid (R = m2.rdInt (1, a, z) b) := hf1.out
   have HIR : Hid (1 ≤ a ∧ a ≤ 4 ∧ 0 ≤ m2.left ∧ m2.left + 1 ≤ a) := by
    have h1 := HI1.out rfl
    have h2 : m2.left = m.left - 1 := by rw [HLF.out, hl1.out]; unfold wrap64; omega
    show _ ∧ _ ∧ _ ∧ _
    rw [h2]; omega
   have u : ∀ w', Ext W6 w' → w'.cell? ⟨w5.heap.size, 1, none⟩ = some (Value.func (.func 149) #[] #[.pointer (some ⟨w.heap.size, 0, none⟩), .pointer (some ⟨w.heap.size + 1, 0, none⟩), .pointer (some ⟨w.heap.size + 1 + 1, 0, none⟩)]) := fun w' e => HA6.out.at 1 w' e
   have CT := Lib.hid (fun w' h hm h0 h1 h2 hb' => iTk1_c (fun k => X k ∨ (w.heap.size ≤ k ∧ k < W1.heap.size)) W0 p m2 (1, a, z) b w.heap.size (w.heap.size + 1) (w.heap.size + 1 + 1) w' h HIR.out hm h0 h1 h2 hb' HBB.out)
   go_wp2_with fail
   refine (CT.out _ ⟨_, _, HB6.out⟩ k0 k1 k11 k12 k2).mono ?_; rintro _ w7 ⟨rfl, ⟨vs7, vq7, hm7⟩, hr7⟩
   have HRE := HR6.out.trans (hr7.weak HXW.out)
   go_wp2
   first
    | exact bodyPost_end (results_none rfl _ _ _) rfl ⟨rfl, (by rw [HM.out]; exact ⟨_, _, hm7.weak HXW.out⟩), HRE⟩
    | exact bodyPost_ret (results_none rfl _ _ _) rfl ⟨rfl, (by rw [HM.out]; exact ⟨_, _, hm7.weak HXW.out⟩), HRE⟩
  by_cases h13 : o = 13
  ·subst h13
   have HM : Hid (R = m2.rdFlag (13, a, z) b) := hf1.out
   have u : ∀ w', Ext W6 w' → w'.cell? ⟨w5.heap.size, 13, none⟩ = some (Value.func (.func 151) #[] #[.pointer (some ⟨w.heap.size, 0, none⟩), .pointer (some ⟨w.heap.size + 1, 0, none⟩), .pointer (some ⟨w.heap.size + 1 + 1, 0, none⟩)]) := fun w' e => HA6.out.at 13 w' e
   have CT := Lib.hid (fun w' h hm h0 h1 h2 hb' => iTk13_c (fun k => X k ∨ (w.heap.size ≤ k ∧ k < W1.heap.size)) W0 p m2 (13, a, z) b w.heap.size (w.heap.size + 1) (w.heap.size + 1 + 1) w' h hm h0 h1 h2 hb' HBB.out)
   go_wp2_with fail
   refine (CT.out _ ⟨_, _, HB6.out⟩ k0 k1 k11 k12 k2).mono ?_; rintro _ w7 ⟨rfl, ⟨vs7, vq7, hm7⟩, hr7⟩
   have HRE := HR6.out.trans (hr7.weak HXW.out)
   go_wp2
   first
    | exact bodyPost_end (results_none rfl _ _ _) rfl ⟨rfl, (by rw [HM.out]; exact ⟨_, _, hm7.weak HXW.out⟩), HRE⟩
    | exact bodyPost_ret (results_none rfl _ _ _) rfl ⟨rfl, (by rw [HM.out]; exact ⟨_, _, hm7.weak HXW.out⟩), HRE⟩
  by_cases h16 : o = 16
  ·subst h16
   have HM : Hid (R = m2.rdUntil (16, a, z) b) := hf1.out
   have u : ∀ w', Ext W6 w' → w'.cell? ⟨w5.heap.size, 16, none⟩ = some (Value.func (.func 153) #[] #[.pointer (some ⟨w.heap.size, 0, none⟩), .pointer (some ⟨w.heap.size + 1, 0, none⟩), .pointer (some ⟨w.heap.size + 1 + 1, 0, none⟩)]) := fun w' e => HA6.out.at 16 w' e
   have CT := Lib.hid (fun w' h hm h0 h1 h2 hb' => iTk16_c (fun k => X k ∨ (w.heap.size ≤ k ∧ k < W1.heap.size)) W0 p m2 (16, a, z) b w.heap.size (w.heap.size + 1) (w.heap.size + 1 + 1) w' h hm h0 h1 h2 hb' HBB.out)
   go_wp2_with fail
   refine (CT.out _ ⟨_, _, HB6.out⟩ k0 k1 k11 k12 k2).mono ?_; rintro _ w7 ⟨rfl, ⟨vs7, vq7, hm7⟩, hr7⟩
   have HRE := HR6.out.trans (hr7.weak HXW.out)
   go_wp2
   first
    | exact bodyPost_end (results_none rfl _ _ _) rfl ⟨rfl, (by rw [HM.out]; exact ⟨_, _, hm7.weak HXW.out⟩), HRE⟩
    | exact bodyPost_ret (results_none rfl _ _ _) rfl ⟨rfl, (by rw [HM.out]; exact ⟨_, _, hm7.weak HXW.out⟩), HRE⟩
  by_cases h2 : o = 2
  ·subst h2
   have HM : Hid (R = m2.rdMatch (2, a, z) b) := hf1.out
   have u : ∀ w', Ext W6 w' → w'.cell? ⟨w5.heap.size, 2, none⟩ = some (Value.func (.func 155) #[] #[.pointer (some ⟨w.heap.size + 1 + 1, 0, none⟩), .pointer (some ⟨w.heap.size + 1, 0, none⟩), .pointer (some ⟨w.heap.size, 0, none⟩)]) := fun w' e => HA6.out.at 2 w' e
   have CT := Lib.hid (fun w' h hm h0 h1 h2 hb' => iTk2_c (fun k => X k ∨ (w.heap.size ≤ k ∧ k < W1.heap.size)) W0 p m2 (2, a, z) b w.heap.size (w.heap.size + 1) (w.heap.size + 1 + 1) w' h hm h0 h1 h2 hb' HBB.out)
   go_wp2_with fail
   refine (CT.out _ ⟨_, _, HB6.out⟩ k0 k1 k11 k12 k2).mono ?_; rintro _ w7 ⟨rfl, ⟨vs7, vq7, hm7⟩, hr7⟩
   have HRE := HR6.out.trans (hr7.weak HXW.out)
   go_wp2
   first
    | exact bodyPost_end (results_none rfl _ _ _) rfl ⟨rfl, (by rw [HM.out]; exact ⟨_, _, hm7.weak HXW.out⟩), HRE⟩
    | exact bodyPost_ret (results_none rfl _ _ _) rfl ⟨rfl, (by rw [HM.out]; exact ⟨_, _, hm7.weak HXW.out⟩), HRE⟩
  have HM : Hid (R = m2.skip) := by show _ = _; rw [hf1.out]; unfold Mach.rd; rw [if_neg h1, if_neg h13, if_neg h16, if_neg h2]
  have hnn : 0 ≤ o := by omega
  have hlt : o < 18 := by omega
  have u : ∀ w', Ext W6 w' → w'.cell? ⟨w5.heap.size, o.toNat, none⟩ = some Value.nilFunc := fun w' e => by
   rw [HA6.out.at o.toNat w' e]
   have hc : o = 3 ∨ o = 4 ∨ o = 5 ∨ o = 6 ∨ o = 7 ∨ o = 8 ∨ o = 9 ∨ o = 10 ∨ o = 11 ∨ o = 12 ∨ o = 14 ∨ o = 15 ∨ o = 17 := by omega
   rcases hc with rfl | rfl | rfl | rfl | rfl | rfl | rfl | rfl | rfl | rfl | rfl | rfl | rfl
   all_goals rfl
  go_wp2_with fail
  refine (CS.out m2 _ ⟨_, _, HB6.out⟩).mono ?_; rintro _ w7 ⟨rfl, ⟨vs7, vq7, hm7⟩, hr7⟩
  have HRE := HR6.out.trans (hr7.weak HXW.out)
  go_wp2
  first
   | exact bodyPost_end (results_none rfl _ _ _) rfl ⟨rfl, (by rw [HM.out]; exact ⟨_, _, hm7.weak HXW.out⟩), HRE⟩
   | exact bodyPost_ret (results_none rfl _ _ _) rfl ⟨rfl, (by rw [HM.out]; exact ⟨_, _, hm7.weak HXW.out⟩), HRE⟩
@[go_sem] def vbool (b : Bool) : Value := .bool b
structure PossSt (ds : List DRule) (m : Nat) (cs : List Bool) : Prop where
 len : cs.length = ds.length
 rest : possFrom ds m cs = possible ds
theorem PossSt.start {ds : List DRule} {m : Nat} (h : ds.length = m + 1) : PossSt ds (m + 1) ((List.replicate ds.length false).set m true) :=
 ⟨by simp, by unfold possible; rw [h]; rfl⟩
theorem PossSt.done {ds : List DRule} {cs : List Bool} (h : PossSt ds 0 cs) : cs = possible ds := h.rest
theorem PossSt.no {ds : List DRule} {m : Nat} {cs : List Bool} (h : PossSt ds (m + 1) cs) (hc : cs.getD m false = false) : PossSt ds m cs := by
 refine ⟨h.len, ?_⟩
 have := h.rest
 rw [possFrom] at this
 unfold possAt at this
 rw [hc] at this
 exact this
theorem PossSt.yes {ds : List DRule} {m : Nat} {cs : List Bool} (h : PossSt ds (m + 1) cs) (hm : m < ds.length) (hc : cs.getD m false = true) : PossSt ds m (setAll cs (selK ds[m] ds[m].kids.length)) := by
 refine ⟨by rw [setAll_len]; exact h.len, ?_⟩
 have := h.rest
 rw [possFrom] at this
 unfold possAt at this
 rw [if_pos hc] at this
 rw [selK_all]
 simpa [List.getD, hm] using this
theorem iRoot_n (A : Option Addr) (ds : List DRule) (c m : Nat) (w : World) (hl : ds.length ≤ 9223372036854775807) (h : ds.length = m + 1) :
 Gives Tryz.prog 60 #[vdesc (.slice A ds.length c)] w (.int .i64 (m : Int)) := by
 have h1 := iRoot_c A ds c w hl
 rw [show (ds.length : Int) - 1 = (m : Int) by omega] at h1
 exact h1
def entriesI (ds : List DRule) : List Int := (entries ds).map fun (i : Nat) => (i : Int)
def arr (cs : List Bool) : Array Value := ((cs ++ List.replicate (24 - cs.length) false).map vbool).toArray
theorem PossSt.all {ds : List DRule} {m : Nat} {cs : List Bool} (h : PossSt ds (m + 1) cs) (hm : m < ds.length) (hc : cs.getD m false = true) : PossSt ds m (setAll cs (kidsOf ds[m])) := by
 have := h.yes hm hc; rwa [selK_all] at this
theorem eqDescription_c (A A' : Option Addr) (ds es : List DRule) (c c' : Nat) (w : World) (h : RdD w A ds c) (h' : RdD w A' es c') (hs : ShortD ds) (hs' : ShortD es) :
 Gives Tryz.prog 15 #[vdesc (.slice A ds.length c), vdesc (.slice A' es.length c')] w (.bool (eqD ds es)) := by
 have C := Lib.hid (fun w h h' => eqRuleS_c A A' ds es c c' w h h' hs hs')
 have eb := Ext_alloc (.cells #[.slice A' es.length c'] 26) (Ext_alloc (.cells #[.slice A ds.length c] 26) (Ext.refl w))
 unfold vdesc
 generalize eqD ds es = z at *
 cases z
 all_goals
  go_enter Tryz.func15, Tryz.ntmps15
  go_wp2_with fail
  refine (C.out _ (h.ext eb) (h'.ext eb)).mono ?_; rintro _ w1 ⟨rfl, he1⟩
  go_wp2
  go_ret
  exact ⟨rfl, eb.trans he1⟩
theorem szN_spec (n : Nat) (left : Int) : (left - n < 0 ∧ szN n left = -1) ∨ (0 ≤ left - n ∧ szN n left = left - n) := by
 unfold szN; split
 ·exact .inl ⟨by assumption, rfl⟩
 ·exact .inr ⟨by omega, rfl⟩
theorem szStringS_c (A : Option Addr) (l : List ByteArray) (c : Nat) (left : Int) (w : World) (h : Rd0 vstr w A l c) (hw : ∀ s ∈ l, s.size ≤ 9223372036854775807) (h0 : 0 ≤ left) (h1 : left ≤ 1048576) :
 Gives Tryz.prog 91 #[.slice A l.length c, .int .i64 left] w (.int .i64 (szN (l.length + szStrs l) left)) := by
 have hl := h.len
 have S := szN_spec (l.length + szStrs l) left
 obtain ⟨T, hT⟩ : ∃ T, szN (l.length + szStrs l) left = T := ⟨_, rfl⟩
 rw [hT] at S ⊢
 have HS := Lib.hid S
 clear S hT
 by_cases hd : left - (l.length : Int) < 0
 ·obtain rfl : T = -1 := by have := HS.out; omega
  go_enter Tryz.func91, Tryz.ntmps91
  go_wp2
  go_ret
  exact ⟨rfl, Ext.refl _⟩
 ·go_enter Tryz.func91, Tryz.ntmps91
  go_wp2
  go_loopw [1, 5] (fun t i wr => ∃ (k : Nat) (z : Int), k ≤ l.length ∧ i = .int .i64 k ∧ t = .int .i64 z ∧ 0 ≤ z ∧ z ≤ 1048576 ∧ Hid (z = left - l.length - szStrs (l.take k)) ∧ Ext w wr) (fun _ i _ => l.length - (intOf i).toNat)
  case atStart => exact ⟨0, _, by omega, rfl, rfl, by omega, by omega, by simp [Hid, szStrs], Ext.refl _⟩
  case round =>
   obtain ⟨k, z, hk, rfl, rfl, hz0, hz1, hz, he⟩ := hrel
   by_cases hlt : k < l.length
   ·obtain ⟨b, off, rfl, hb, hc⟩ := h.at k hlt
    have hs := hw l[k] (List.getElem_mem hlt)
    have HT := Lib.hid (szStrs_take l k hlt)
    have HL := Lib.hid (szStrs_le l (k+1))
    by_cases hneg : z - (l[k].size : Int) < 0
    ·obtain rfl : T = -1 := by have := HS.out; have := HT.out; have := HL.out; have := hz.out; omega
     clear h
     go_wp2
     go_ret
     exact ⟨rfl, he⟩
    ·clear h
     go_wp2
     go_roundw
     case rel => exact ⟨k+1, _, by omega, by go_num, rfl, by omega, by omega, by have := HT.out; have := hz.out; show _ = _; omega, he⟩
     case measure => simp [intOf]; omega
   ·have hk' : k = l.length := by omega
    have HZ : Hid (T = z) := by
     have := HS.out; have h2 := hz.out; rw [List.take_of_length_le (by omega)] at h2; show _ = _; omega
    go_wp2
    go_ret
    exact ⟨ret_i64 HZ.out.symm, he⟩
theorem szRule_c (r : DRule) (Ab : Option Addr) (cb : Nat) (An : Option Addr) (cn : Nat) (At : Option Addr) (ct : Nat) (Ak : Option Addr) (ck : Nat) (left : Int) (w : World) (h : RdS w r Ab cb An cn At ct Ak ck) (hw : WfR r) (h0 : 0 ≤ left) (h1 : left ≤ 1048576) :
 Gives Tryz.prog 50 #[vrule r (.slice Ab r.bytes.length cb) (.slice An r.names.length cn) (.slice At r.tags.length ct) (.slice Ak r.kids.length ck), .int .i64 left] w (.int .i64 (szN (szRl r) left)) := by
 obtain ⟨hb, hn, ht, hk⟩ := h
 have hwn := hw.nm
 have S := szN_spec (szRl r) left
 obtain ⟨T, hT⟩ : ∃ T, szN (szRl r) left = T := ⟨_, rfl⟩
 rw [hT] at S ⊢
 unfold szRl at S
 have C1 := Lib.hid (fun left w h h0 h1 => szByteS_c Ab r.bytes cb left w h h0 h1)
 have C2 := Lib.hid (fun left w h h0 h1 => szStringS_c An r.names cn left w h hw.names h0 h1)
 have C3 := Lib.hid (fun left w h h0 h1 => szIntS_c At r.tags ct left w h h0 h1)
 have C4 := Lib.hid (fun left w h h0 h1 => szIntS_c Ak r.kids ck left w h h0 h1)
 have HS := Lib.hid S
 clear S hT hw
 have eb := Ext_alloc (.cells #[.string r.nm, .int .i64 r.kind, .int .i64 r.size, .bool r.little, .slice Ab r.bytes.length cb, .slice An r.names.length cn, .slice At r.tags.length ct, .slice Ak r.kids.length ck] 92) (Ext.refl w)
 unfold vrule
 by_cases q1 : left - (r.nm.size : Int) < 0
 ·obtain rfl : T = -1 := by have := HS.out; omega
  go_enter Tryz.func50, Tryz.ntmps50
  go_wp2
  go_ret
  exact ⟨rfl, eb⟩
 go_enter Tryz.func50, Tryz.ntmps50
 go_wp2_with fail
 refine (C1.out _ _ (hb.ext eb) (by omega) (by omega)).mono ?_; rintro _ w1 ⟨rfl, he1⟩
 have s1 := szN_spec r.bytes.length (left - r.nm.size)
 generalize szN r.bytes.length (left - r.nm.size) = z1 at *
 by_cases q2 : z1 < 0
 ·obtain rfl : T = -1 := by have := HS.out; omega
  clear s1
  go_wp2
  go_ret
  exact ⟨rfl, eb.trans he1⟩
 have S1 : Hid (z1 = left - r.nm.size - r.bytes.length) := by show _ = _; omega
 have z1a : z1 ≤ 1048576 := by omega
 clear s1
 have D1 := fun w' (e : Ext _ w') => boxed (he1.trans e)
 go_wp2_with fail
 refine (C2.out _ _ (hn.ext (eb.trans he1)) (by omega) (by omega)).mono ?_; rintro _ w2 ⟨rfl, he2⟩
 have s2 := szN_spec (r.names.length + szStrs r.names) z1
 generalize szN (r.names.length + szStrs r.names) z1 = z2 at *
 have e2 := he1.trans he2
 by_cases q3 : z2 < 0
 ·obtain rfl : T = -1 := by have := HS.out; have := S1.out; omega
  clear s2
  go_wp2
  go_ret
  exact ⟨rfl, eb.trans e2⟩
 have S2 : Hid (z2 = left - r.nm.size - r.bytes.length - (r.names.length + szStrs r.names)) := by have := S1.out; show _ = _; omega
 have z2a : z2 ≤ 1048576 := by omega
 clear s2 D1
 have D2 := fun w' (e : Ext _ w') => boxed (e2.trans e)
 go_wp2_with fail
 refine (C3.out _ _ (ht.ext (eb.trans e2)) (by omega) (by omega)).mono ?_; rintro _ w3 ⟨rfl, he3⟩
 have s3 := szN_spec r.tags.length z2
 generalize szN r.tags.length z2 = z3 at *
 have e3 := e2.trans he3
 by_cases q4 : z3 < 0
 ·obtain rfl : T = -1 := by have := HS.out; have := S2.out; omega
  clear s3
  go_wp2
  go_ret
  exact ⟨rfl, eb.trans e3⟩
 have S3 : Hid (z3 = left - r.nm.size - r.bytes.length - (r.names.length + szStrs r.names) - r.tags.length) := by have := S2.out; show _ = _; omega
 have z3a : z3 ≤ 1048576 := by omega
 clear s3 D2
 have D3 := fun w' (e : Ext _ w') => boxed (e3.trans e)
 go_wp2_with fail
 refine (C4.out _ _ (hk.ext (eb.trans e3)) (by omega) (by omega)).mono ?_; rintro _ w4 ⟨rfl, he4⟩
 have s4 := szN_spec r.kids.length z3
 generalize szN r.kids.length z3 = z4 at *
 have HT : Hid (z4 = T) := by have := HS.out; have := S3.out; show _ = _; omega
 clear s4
 by_cases q5 : z4 < 0
 ·obtain rfl : T = -1 := by have := HS.out; have := HT.out; omega
  go_wp2
  go_ret
  exact ⟨rfl, eb.trans (e3.trans he4)⟩
 go_wp2
 go_ret
 exact ⟨ret_i64 HT.out, eb.trans (e3.trans he4)⟩
theorem szRuleS_c (A : Option Addr) (ds : List DRule) (c : Nat) (left : Int) (w : World) (h : RdD w A ds c) (hw : WfD ds) (h0 : 0 ≤ left) (h1 : left ≤ 1048576) :
 Gives Tryz.prog 24 #[.slice A ds.length c, .int .i64 left] w (.int .i64 (szN (szD ds) left)) := by
 have hl := h.len
 have S := szN_spec (szD ds) left
 obtain ⟨T, hT⟩ : ∃ T, szN (szD ds) left = T := ⟨_, rfl⟩
 rw [hT] at S ⊢
 unfold szD at S
 have HS := Lib.hid S
 clear S hT
 by_cases hd : left - (ds.length : Int) < 0
 ·obtain rfl : T = -1 := by have := HS.out; omega
  go_enter Tryz.func24, Tryz.ntmps24
  go_wp2
  go_ret
  exact ⟨rfl, Ext.refl _⟩
 ·go_enter Tryz.func24, Tryz.ntmps24
  go_wp2
  go_loopw [1, 5] (fun t i wr => ∃ (k : Nat) (z : Int), k ≤ ds.length ∧ i = .int .i64 k ∧ t = .int .i64 z ∧ 0 ≤ z ∧ z ≤ 1048576 ∧ Hid (z = left - ds.length - ((ds.take k).map szRl).sum) ∧ Ext w wr) (fun _ i _ => ds.length - (intOf i).toNat)
  case atStart => exact ⟨0, _, by omega, rfl, rfl, by omega, by omega, by simp [Hid], Ext.refl _⟩
  case round =>
   obtain ⟨k, z, hk, rfl, rfl, hz0, hz1, hz, he⟩ := hrel
   by_cases hlt : k < ds.length
   ·obtain ⟨b, off, Ab, cb, An, cn, At, ct, Ak, ck, rfl, hb, hs, hr⟩ := h.at k hlt
    have HT := Lib.hid (sum_take szRl ds k hlt)
    have HL := Lib.hid (sum_split szRl ds (k+1))
    have hwk := hw _ (List.getElem_mem hlt)
    have s1 := szN_spec (szRl ds[k]) z
    generalize ds[k] = r at *
    have C := Lib.hid (fun w hs => szRule_c r Ab cb An cn At ct Ak ck z w hs hwk hz0 hz1)
    generalize szN (szRl r) z = z1 at *
    obtain ⟨k0, k1, k2, k3, k4, k5, k6, k7⟩ := hr
    have S1 := Lib.hid s1
    unfold vrule at C
    clear s1 h
    go_wp2_with fail
    refine (C.out _ (hs.ext he)).mono ?_; rintro _ w1 ⟨rfl, he1⟩
    by_cases q : z1 < 0
    ·obtain rfl : T = -1 := by have := HS.out; have := HT.out; have := HL.out; have := hz.out; have := S1.out; omega
     go_wp2
     go_ret
     exact ⟨rfl, he.trans he1⟩
    ·have hz1' : z1 ≤ 1048576 := by have := S1.out; omega
     go_wp2
     go_roundw
     case rel => exact ⟨k+1, _, by omega, by go_num, rfl, by omega, by omega, by have := HT.out; have := hz.out; have := S1.out; show _ = _; omega, he.trans he1⟩
     case measure => simp [intOf]; omega
   ·have hk' : k = ds.length := by omega
    have HZ : Hid (T = z) := by
     have := HS.out; have h2 := hz.out; rw [List.take_of_length_le (by omega)] at h2; show _ = _; omega
    go_wp2
    go_ret
    exact ⟨ret_i64 HZ.out.symm, he⟩
theorem szDescription_c (A : Option Addr) (ds : List DRule) (c : Nat) (left : Int) (w : World) (h : RdD w A ds c) (hw : WfD ds) (h0 : 0 ≤ left) (h1 : left ≤ 1048576) :
 Gives Tryz.prog 10 #[vdesc (.slice A ds.length c), .int .i64 left] w (.int .i64 (szN (szD ds) left)) := by
 have C := Lib.hid (fun w h => szRuleS_c A ds c left w h hw h0 h1)
 have hz := szN_lo (szD ds) left h1 h0
 generalize szN (szD ds) left = z at *
 unfold vdesc
 by_cases hd : z < 0
 ·obtain rfl : z = -1 := by omega
  go_enter Tryz.func10, Tryz.ntmps10
  go_wp2_with fail
  refine (C.out _ (h.ext (Ext_alloc _ (Ext.refl _)))).mono ?_; rintro _ w1 ⟨rfl, he⟩
  go_wp2
  go_ret
  exact ⟨rfl, (Ext_alloc _ (Ext.refl w)).trans he⟩
 ·go_enter Tryz.func10, Tryz.ntmps10
  go_wp2_with fail
  refine (C.out _ (h.ext (Ext_alloc _ (Ext.refl _)))).mono ?_; rintro _ w1 ⟨rfl, he⟩
  go_wp2
  go_ret
  exact ⟨rfl, (Ext_alloc _ (Ext.refl w)).trans he⟩
theorem rulesOf_len (ps : List RV) : (rulesOf ps).length = ps.length := by simp [rulesOf]
theorem OwnD.short {ps : List RV} (h : szD (rulesOf ps) ≤ 1048576) : ps.length ≤ 9223372036854775807 ∧ ∀ p ∈ ps, ShortR p.r := by
 refine ⟨by unfold szD at h; rw [rulesOf_len] at h; omega, fun p hp => ?_⟩
 exact shortD_of h p.r (List.mem_map_of_mem hp)
theorem toDesc_r (A : Option Addr) (ds : List DRule) (c : Nat) (w : World) (h : RdD w A ds c) (hz : szD ds ≤ 1048576) :
 Calls Tryz.prog 12 #[vdesc (.slice A ds.length c)] w fun e w' => ∃ A1 c1, e = .returned (vdesc (.slice A1 ds.length c1)) ∧ RdD w' A1 ds c1 ∧ Ext w w' := by
 refine (toDescription_c A ds c w h hz).mono ?_
 rintro e w' ⟨v, ps, he, rfl, ho, hx⟩
 obtain ⟨A1, c1, rfl, hr⟩ := ho.rd (OwnD.short hz).1 (OwnD.short hz).2
 exact ⟨A1, c1, he, hr, hx⟩
theorem szN_small {n : Nat} {left : Int} (h : ¬ szN n left < 0) (h1 : left ≤ 1048576) : n ≤ 1048576 := by have := (szN_ge h).1; omega
end Go.Proofs.YtpmcofmdjckijaaGreat
