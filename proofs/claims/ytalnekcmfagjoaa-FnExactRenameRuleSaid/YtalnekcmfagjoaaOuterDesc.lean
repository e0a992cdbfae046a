/- Descriptions and registries that came in. -/
import Derived.Test.YtalnekcmfagjoaaOuter
import Derived.Test.YtalnekcmfagjoaaDesc
import Derived.SliceStrings
namespace Go.Proofs.Ytalnekcmfagjoaa
open Go.ChangeShapes Go.WideShapes Go.ChangeAt Go.RowKit Go.Deep

theorem exists_list {α : Type} (n : Nat) (P : Nat → α → Prop) (h : ∀ i, i < n → ∃ x, P i x) : ∃ l : List α, l.length = n ∧ ∀ i (hi : i < l.length), P i l[i] := by
  induction n with
  | zero => exact ⟨[], rfl, fun i hi => by simp at hi⟩
  | succ n ih =>
    obtain ⟨l, hl, hp⟩ := ih (fun i hi => h i (by omega))
    obtain ⟨x, hx⟩ := h n (by omega)
    refine ⟨l ++ [x], by simp [hl], fun i hi => ?_⟩
    by_cases hlt : i < l.length
    · rw [List.getElem_append_left hlt]; exact hp i hlt
    · have : i = n := by simp at hi; omega
      subst this
      rw [List.getElem_append_right (by omega)]
      simpa [hl] using hx
section
variable {H : Type} {enc : TypeId × Value → H} {W : World} {base : Nat} {spare : Nat → Bool} {held : Bool}
theorem in_strs {T E : TypeId} (hT : Try.prog.underlying T = some (.slice E)) (hE : Try.prog.underlying E = some .string) (hC : Try.prog.cellsOf E = 1)
    {n : Nat} {v : Value} {y : DataW H × List MemPlace} (h : DataW.trod enc Try.prog W base spare held n T [v] = some y) :
    ∃ (A : Option Addr) (l : List ByteArray) (c : Nat), v = .slice A l.length c ∧ Rd0 vstr W A l c ∧ ∀ s ∈ l, s.size ≤ 9223372036854775807 := by
  rcases open_strings hT hE hC h with ⟨hcs, _⟩ | ⟨x, len, c, zs, hcs, _, hl, hm, hz, _, hcell, hwz⟩
  · obtain rfl : v = .slice none 0 0 := by simpa using hcs
    exact ⟨none, [], 0, rfl, ⟨by simp, by simp, fun h => by simp at h⟩, by simp⟩
  · obtain rfl : v = .slice (some x) len c := by simpa using hcs
    have hlz : len ≤ zs.length := by rw [hz]; split <;> omega
    refine ⟨some x, zs.take len, c, by simp; omega, rd0_of_cells (by simp; omega) (by simp [maxLen] at hm ⊢; omega) (fun i hi => ?_), fun z hz => by have := hwz z (List.mem_of_mem_take hz); simpa [maxLen] using this⟩
    have hi' : i < len := by simp at hi; omega
    rw [hcell i (by omega)]
    simp [vstr, List.getElem?_eq_getElem (show i < zs.length by omega)]
/-- a struct of one field that is one cell -/
theorem trod_one {t : TypeId} {f0 : Field} {n : Nat} {v : Value} {y : DataW H × List MemPlace} (hs : Try.prog.underlying t = some (.struct #[f0])) (hone : oneCellFields Try.prog #[f0] = true)
    (h : DataW.trod enc Try.prog W base spare held n t [v] = some y) : ∃ n' y', DataW.trod enc Try.prog W base spare held n' f0.type [v] = some y' := by
  obtain ⟨xs, n', _, _, _, hlen, hg⟩ := DataW.trod_struct hs h
  obtain ⟨o0, k0⟩ := Go.Deep.hone_of hone 0 f0 rfl
  match xs, hlen with
  | [y0], _ => exact ⟨n', y0, by simpa [o0, k0] using hg 0 f0 rfl⟩
set_option maxRecDepth 100000 in
theorem trod_agg8 {t : TypeId} {f0 f1 f2 f3 f4 f5 f6 f7 : Field} {n : Nat} {cs : List Value} {y : DataW H × List MemPlace} (hs : Try.prog.underlying t = some (.struct #[f0, f1, f2, f3, f4, f5, f6, f7])) (hone : oneCellFields Try.prog #[f0, f1, f2, f3, f4, f5, f6, f7] = true) (hC : Try.prog.cellsOf t = 8)
    (h : DataW.trod enc Try.prog W base spare held n t cs = some y) : ∃ (v0 v1 v2 v3 v4 v5 v6 v7 : Value) (y0 y1 y2 y3 y4 y5 y6 y7 : DataW H × List MemPlace) (m : Nat), cs = [v0, v1, v2, v3, v4, v5, v6, v7] ∧ DataW.trod enc Try.prog W base spare held m f0.type [v0] = some y0 ∧ DataW.trod enc Try.prog W base spare held m f1.type [v1] = some y1 ∧ DataW.trod enc Try.prog W base spare held m f2.type [v2] = some y2 ∧ DataW.trod enc Try.prog W base spare held m f3.type [v3] = some y3 ∧ DataW.trod enc Try.prog W base spare held m f4.type [v4] = some y4 ∧ DataW.trod enc Try.prog W base spare held m f5.type [v5] = some y5 ∧ DataW.trod enc Try.prog W base spare held m f6.type [v6] = some y6 ∧ DataW.trod enc Try.prog W base spare held m f7.type [v7] = some y7 := by
  obtain ⟨xs, m, _, _, hcl, hlen, hg⟩ := DataW.trod_struct hs h
  rw [hC] at hcl
  match cs, hcl with
  | [c0, c1, c2, c3, c4, c5, c6, c7], _ =>
    obtain ⟨o0, k0⟩ := Go.Deep.hone_of hone 0 f0 rfl
    obtain ⟨o1, k1⟩ := Go.Deep.hone_of hone 1 f1 rfl
    obtain ⟨o2, k2⟩ := Go.Deep.hone_of hone 2 f2 rfl
    obtain ⟨o3, k3⟩ := Go.Deep.hone_of hone 3 f3 rfl
    obtain ⟨o4, k4⟩ := Go.Deep.hone_of hone 4 f4 rfl
    obtain ⟨o5, k5⟩ := Go.Deep.hone_of hone 5 f5 rfl
    obtain ⟨o6, k6⟩ := Go.Deep.hone_of hone 6 f6 rfl
    obtain ⟨o7, k7⟩ := Go.Deep.hone_of hone 7 f7 rfl
    match xs, hlen with
    | [y0, y1, y2, y3, y4, y5, y6, y7], _ =>
      exact ⟨c0, c1, c2, c3, c4, c5, c6, c7, y0, y1, y2, y3, y4, y5, y6, y7, m, rfl, by simpa [o0, k0] using hg 0 f0 rfl, by simpa [o1, k1] using hg 1 f1 rfl, by simpa [o2, k2] using hg 2 f2 rfl, by simpa [o3, k3] using hg 3 f3 rfl, by simpa [o4, k4] using hg 4 f4 rfl, by simpa [o5, k5] using hg 5 f5 rfl, by simpa [o6, k6] using hg 6 f6 rfl, by simpa [o7, k7] using hg 7 f7 rfl⟩
set_option maxRecDepth 100000 in
theorem trod_rule {n : Nat} {cs : List Value} {y : DataW H × List MemPlace} (h : DataW.trod enc Try.prog W base spare held n 90 cs = some y) :
    ∃ (r : DRule) (Ab : Option Addr) (cb : Nat) (An : Option Addr) (cn : Nat) (At : Option Addr) (ct : Nat) (Ak : Option Addr) (ck : Nat),
      cs = [.string r.nm, .int .i64 r.kind, .int .i64 r.size, .bool r.little, .slice Ab r.bytes.length cb, .slice An r.names.length cn, .slice At r.tags.length ct, .slice Ak r.kids.length ck] ∧ RdS W r Ab cb An cn At ct Ak ck ∧ WfR r := by
  obtain ⟨c0, c1, c2, c3, c4, c5, c6, c7, y0, y1, y2, y3, y4, y5, y6, y7, m, rfl, g0, g1, g2, g3, g4, g5, g6, g7⟩ := trod_agg8 Try.underlying90 (by kernel_rfl) (by kernel_rfl) h
  dsimp only at g0 g1 g2 g3 g4 g5 g6 g7
  obtain ⟨nm, e0, _, hn⟩ := DataW.trod_string Try.underlying9 g0
  obtain ⟨kind, e1, _, hk⟩ := DataW.trod_int Try.underlying3 g1
  obtain ⟨size, e2, _, hz⟩ := DataW.trod_int Try.underlying3 g2
  obtain ⟨little, e3, _⟩ := DataW.trod_bool Try.underlying4 g3
  obtain ⟨Ab, lb, cb, e4, r4⟩ := in_bytes Try.underlying48 Try.underlying5 (by kernel_rfl) g4
  obtain ⟨An, ln, cn, e5, r5, w5⟩ := in_strs Try.underlying67 Try.underlying9 (by kernel_rfl) g5
  obtain ⟨At, lt, ct, e6, r6, w6⟩ := in_ints Try.underlying68 Try.underlying3 (by kernel_rfl) g6
  obtain ⟨Ak, lk, ck, e7, r7, w7⟩ := in_ints Try.underlying68 Try.underlying3 (by kernel_rfl) g7
  simp at e0 e1 e2 e3 e4 e5 e6 e7
  subst e0 e1 e2 e3 e4 e5 e6 e7
  exact ⟨⟨nm, kind, size, little, lb, ln, lt, lk⟩, Ab, cb, An, cn, At, ct, Ak, ck, rfl, ⟨r4, r5, r6, r7⟩, ⟨by simpa [maxLen] using hn, w5, hk, hz, w6, w7⟩⟩
theorem add_at {b off : Nat} (i j : Nat) : ((⟨b, off, none⟩ : Addr).add i).add j = ⟨b, off + i + j, none⟩ := by
  have h1 : (⟨b, off, none⟩ : Addr).add i = ⟨b, off + i, none⟩ := by unfold Addr.add; split <;> simp_all
  rw [h1]; unfold Addr.add; split <;> simp_all
theorem in_rules {n : Nat} {v : Value} {y : DataW H × List MemPlace} (h : DataW.trod enc Try.prog W base spare held n 22 [v] = some y) :
    ∃ (A : Option Addr) (ds : List DRule) (c : Nat), v = .slice A ds.length c ∧ RdD W A ds c ∧ WfD ds := by
  rcases DataW.trod_slice Try.underlying22 h with ⟨hcs, _⟩ | ⟨x, len, c, elems, rest, m, _, hcs, _, hb, hl, hm, hlen, hel, _⟩
  · obtain rfl : v = .slice none 0 0 := by simpa using hcs
    exact ⟨none, [], 0, rfl, RdD.nil W, fun _ h => by cases h⟩
  · obtain rfl : v = .slice (some x) len c := by simpa using hcs
    have hC : Try.prog.cellsOf 90 = 8 := by kernel_rfl
    rw [hC] at hel
    have key : ∀ i, i < len → ∃ r : DRule, (∃ (Ab : Option Addr) (cb : Nat) (An : Option Addr) (cn : Nat) (At : Option Addr) (ct : Nat) (Ak : Option Addr) (ck : Nat), RdS W r Ab cb An cn At ct Ak ck ∧
        ∀ j, j < 8 → W.cell? ((x.add (i * 8)).add j) = ([.string r.nm, .int .i64 r.kind, .int .i64 r.size, .bool r.little, .slice Ab r.bytes.length cb, .slice An r.names.length cn, .slice At r.tags.length ct, .slice Ak r.kids.length ck] : List Value)[j]?) ∧ WfR r := by
      intro i hi
      have h1 := hel i hi
      rw [List.getElem?_eq_getElem (by omega), Option.bind_eq_some_iff] at h1
      obtain ⟨cs, h2, h3⟩ := h1
      obtain ⟨r, Ab, cb, An, cn, At, ct, Ak, ck, rfl, h4, h5⟩ := trod_rule h3
      exact ⟨r, ⟨Ab, cb, An, cn, At, ct, Ak, ck, h4, (World.cells?_some h2).2.2⟩, h5⟩
    obtain ⟨ds, hds, hp⟩ := exists_list len _ key
    subst hds
    refine ⟨some x, ds, c, rfl, ⟨hl, by simp [maxLen] at hm; omega, fun hpos => ?_⟩, fun r hr => ?_⟩
    · obtain ⟨b, off, spot⟩ := x
      have hspot : spot = none := by
        obtain ⟨⟨Ab, cb, An, cn, At, ct, Ak, ck, _, hc⟩, _⟩ := hp 0 hpos
        have := hc 0 (by omega)
        simpa [Addr.add] using World.cell?_spot this
      subst hspot
      have hblk : b < W.heap.size := by
        obtain ⟨⟨Ab, cb, An, cn, At, ct, Ak, ck, _, hc⟩, _⟩ := hp 0 hpos
        have := hc 0 (by omega)
        rw [add_at] at this
        simpa using block_lt_of_cell this
      refine ⟨b, off, rfl, hblk, fun i hi => ?_⟩
      obtain ⟨⟨Ab, cb, An, cn, At, ct, Ak, ck, hS, hc⟩, _⟩ := hp i hi
      have hc' : ∀ (w' : World), Ext W w' → ∀ j, j < 8 → w'.cell? ⟨b, off + i * 8 + j, none⟩ = ([.string ds[i].nm, .int .i64 ds[i].kind, .int .i64 ds[i].size, .bool ds[i].little, .slice Ab ds[i].bytes.length cb, .slice An ds[i].names.length cn, .slice At ds[i].tags.length ct, .slice Ak ds[i].kids.length ck] : List Value)[j]? := by
        intro w' e j hj
        have h1 := hc j hj
        rw [add_at] at h1
        rw [Below.cell e (p := ⟨b, off + i * 8 + j, none⟩) hblk]
        exact h1
      exact ⟨Ab, cb, An, cn, At, ct, Ak, ck, hS, ⟨fun w' e => by have := hc' w' e 0 (by omega); simpa using this, fun w' e => by have := hc' w' e 1 (by omega); simpa using this, fun w' e => by have := hc' w' e 2 (by omega); simpa using this, fun w' e => by have := hc' w' e 3 (by omega); simpa using this,
        fun w' e => by have := hc' w' e 4 (by omega); simpa using this, fun w' e => by have := hc' w' e 5 (by omega); simpa using this, fun w' e => by have := hc' w' e 6 (by omega); simpa using this, fun w' e => by have := hc' w' e 7 (by omega); simpa using this⟩⟩
    · obtain ⟨i, hi, rfl⟩ := List.getElem_of_mem hr
      exact (hp i hi).2
/-- a description in one cell -/
theorem in_desc1 {n : Nat} {v : Value} {y : DataW H × List MemPlace} (h : DataW.trod enc Try.prog W base spare held n 24 [v] = some y) :
    ∃ (A : Option Addr) (ds : List DRule) (c : Nat), v = .slice A ds.length c ∧ RdD W A ds c ∧ WfD ds := by
  obtain ⟨m, y', h'⟩ := trod_one Try.underlying24 (by kernel_rfl) h
  exact in_rules h'
theorem in_descs {n : Nat} {v : Value} {y : DataW H × List MemPlace} (h : DataW.trod enc Try.prog W base spare held n 35 [v] = some y) :
    ∃ (A : Option Addr) (ds : List (List DRule)) (c : Nat), v = .slice A ds.length c ∧ RdG W A ds c ∧ WfG ds := by
  rcases DataW.trod_slice Try.underlying35 h with ⟨hcs, _⟩ | ⟨x, len, c, elems, rest, m, _, hcs, _, hb, hl, hm, hlen, hel, _⟩
  · obtain rfl : v = .slice none 0 0 := by simpa using hcs
    exact ⟨none, [], 0, rfl, ⟨by simp, by simp, fun h => by simp at h⟩, fun _ h => by cases h⟩
  · obtain rfl : v = .slice (some x) len c := by simpa using hcs
    have hC : Try.prog.cellsOf 24 = 1 := by kernel_rfl
    rw [hC] at hel
    have key : ∀ i, i < len → ∃ r : List DRule, (∃ (A' : Option Addr) (c' : Nat), RdD W A' r c' ∧ W.cell? (x.add i) = some (.slice A' r.length c')) ∧ WfD r := by
      intro i hi
      have h1 := hel i hi
      rw [List.getElem?_eq_getElem (by omega), Option.bind_eq_some_iff] at h1
      obtain ⟨cs, h2, h3⟩ := h1
      obtain ⟨_, hcl, hcc⟩ := World.cells?_some h2
      match cs, hcl with
      | [c0], _ =>
        obtain ⟨A', r, c', rfl, h4, h5⟩ := in_desc1 h3
        refine ⟨r, ⟨A', c', h4, ?_⟩, h5⟩
        have := hcc 0 (by omega)
        rw [Nat.mul_one] at this
        have e0 : (x.add i).add 0 = x.add i := by unfold Addr.add; repeat' split <;> simp_all
        rw [e0] at this
        simpa using this
    obtain ⟨ds, hds, hp⟩ := exists_list len _ key
    subst hds
    refine ⟨some x, ds, c, rfl, ⟨hl, by simp [maxLen] at hm; omega, fun hpos => ?_⟩, fun r hr => ?_⟩
    · obtain ⟨b, off, spot⟩ := x
      have hspot : spot = none := by
        obtain ⟨⟨A', c', _, hc⟩, _⟩ := hp 0 hpos
        simpa [Addr.add] using World.cell?_spot hc
      subst hspot
      have hadd : ∀ i, (⟨b, off, none⟩ : Addr).add i = ⟨b, off + i, none⟩ := by intro i; unfold Addr.add; split <;> simp_all
      have hblk : b < W.heap.size := by
        obtain ⟨⟨A', c', _, hc⟩, _⟩ := hp 0 hpos
        rw [hadd] at hc
        simpa using block_lt_of_cell hc
      refine ⟨b, off, rfl, hblk, fun i hi => ?_⟩
      obtain ⟨⟨A', c', hS, hc⟩, _⟩ := hp i hi
      refine ⟨A', c', hS, fun w' e => ?_⟩
      rw [hadd] at hc
      rw [Below.cell e (p := ⟨b, off + i, none⟩) hblk]
      exact hc
    · obtain ⟨i, hi, rfl⟩ := List.getElem_of_mem hr
      exact (hp i hi).2
theorem open_agg_1 {P : Program} {r : Reach} {b0 : Nat} {t : TypeId} {f0 : Field} {v : Value} {d : DataW H} {p : List MemPlace} (hs : P.underlying t = some (.struct #[f0])) (hone : oneCellFields P #[f0] = true) (hC : P.cellsOf t = 1)
    (hv : Value.okWide P W r b0 t v) (h : DataW.Trod enc P W base spare held t v d p) :
    ∃ (v0 : Value) (y0 : DataW H × List MemPlace) (n : Nat), v = .agg #[v0] ∧ DataW.trod enc P W base spare held n f0.type [v0] = some y0 := by
  obtain ⟨cs, rfl, hsz⟩ := okWide_struct hs hv
  obtain ⟨l⟩ := cs
  match l, hsz.trans hC with
  | [c0], _ =>
    obtain ⟨fuel, hf⟩ := h
    obtain ⟨xs, n, _, hx, _, hlen, hg⟩ := DataW.trod_struct hs hf
    obtain ⟨o0, k0⟩ := Go.Deep.hone_of hone 0 f0 rfl
    match xs, hlen with
    | [y0], _ =>
      exact ⟨c0, y0, n, rfl, by simpa [Value.cells, o0, k0] using hg 0 f0 rfl⟩
end
section
variable {H : Type} {enc : TypeId × Value → H} {W : World} {base : Nat} {spare : Nat → Bool} {held : Bool}
structure DescIn where
  A : Option Addr
  ds : List DRule
  c : Nat
def DescIn.val (x : DescIn) : Value := vdesc (.slice x.A x.ds.length x.c)
def DescIn.rd (x : DescIn) (W : World) : Prop := RdD W x.A x.ds x.c ∧ WfD x.ds
set_option maxRecDepth 100000 in
theorem in_desc {r : Reach} {b0 : Nat} {v : Value} {d : DataW H} {p : List MemPlace}
    (hv : Value.okWide Try.prog W r b0 24 v) (h : DataW.Trod enc Try.prog W base spare held 24 v d p) : ∃ x : DescIn, v = x.val ∧ x.rd W := by
  obtain ⟨v0, y0, n, rfl, h0⟩ := open_agg_1 Try.underlying24 (by kernel_rfl) (by kernel_rfl) hv h
  dsimp only at h0
  obtain ⟨A, ds, c, rfl, h1, h2⟩ := in_rules h0
  exact ⟨⟨A, ds, c⟩, rfl, h1, h2⟩
structure RegIn where
  A : Option Addr
  ds : List (List DRule)
  c : Nat
def RegIn.val (x : RegIn) : Value := vdesc (.slice x.A x.ds.length x.c)
def RegIn.rd (x : RegIn) (W : World) : Prop := RdG W x.A x.ds x.c ∧ WfG x.ds
set_option maxRecDepth 100000 in
theorem in_registry {r : Reach} {b0 : Nat} {v : Value} {d : DataW H} {p : List MemPlace}
    (hv : Value.okWide Try.prog W r b0 37 v) (h : DataW.Trod enc Try.prog W base spare held 37 v d p) : ∃ x : RegIn, v = x.val ∧ x.rd W := by
  obtain ⟨v0, y0, n, rfl, h0⟩ := open_agg_1 Try.underlying37 (by kernel_rfl) (by kernel_rfl) hv h
  dsimp only at h0
  obtain ⟨A, ds, c, rfl, h1, h2⟩ := in_descs h0
  exact ⟨⟨A, ds, c⟩, rfl, h1, h2⟩
end
end Go.Proofs.Ytalnekcmfagjoaa
