/- Descriptions as data: rules, how they lie in memory, what they read as. -/
import Derived.Test.YtpmcofmdjckijaaGreatDoorZEx1
import Derived.Laws.BytesArg
import Derived.Lib.ItoaNum
import Derived.Lib.AppendIntMem
import Derived.Deep.RegionHeld3
import Derived.Deep.DeepCutAuto
set_option linter.unusedVariables false
set_option linter.unusedSimpArgs false
set_option maxRecDepth 100000
set_option maxHeartbeats 16000000
namespace Go.Proofs.YtpmcofmdjckijaaGreatDoor
open Go.RowKit Go.Sort
structure DRule where
 nm : ByteArray
 kind : Int
 size : Int
 little : Bool
 bytes : List UInt8
 names : List ByteArray
 tags : List Int
 kids : List Int
def vrule (r : DRule) (vb vn vt vk : Value) : Value := .agg #[.string r.nm, .int .i64 r.kind, .int .i64 r.size, .bool r.little, vb, vn, vt, vk]
def vdesc (v : Value) : Value := .agg #[v]
structure RdS (w : World) (r : DRule) (Ab : Option Addr) (cb : Nat) (An : Option Addr) (cn : Nat) (At : Option Addr) (ct : Nat) (Ak : Option Addr) (ck : Nat) : Prop where
 b : Rd0 vu8 w Ab r.bytes cb
 n : Rd0 vstr w An r.names cn
 t : Rd0 vint w At r.tags ct
 k : Rd0 vint w Ak r.kids ck
theorem RdS.ext {w w' : World} {r : DRule} {Ab : Option Addr} {cb : Nat} {An : Option Addr} {cn : Nat} {At : Option Addr} {ct : Nat} {Ak : Option Addr} {ck : Nat} (h : RdS w r Ab cb An cn At ct Ak ck) (e : Ext w w') : RdS w' r Ab cb An cn At ct Ak ck :=
 ⟨h.b.ext e, h.n.ext e, h.t.ext e, h.k.ext e⟩
structure RuleAt (w : World) (b o : Nat) (r : DRule) (vb vn vt vk : Value) : Prop where
 c0 : ∀ (w' : World), Ext w w' → w'.cell? ⟨b, o, none⟩ = some (.string r.nm)
 c1 : ∀ (w' : World), Ext w w' → w'.cell? ⟨b, o + 1, none⟩ = some (.int .i64 r.kind)
 c2 : ∀ (w' : World), Ext w w' → w'.cell? ⟨b, o + 2, none⟩ = some (.int .i64 r.size)
 c3 : ∀ (w' : World), Ext w w' → w'.cell? ⟨b, o + 3, none⟩ = some (.bool r.little)
 c4 : ∀ (w' : World), Ext w w' → w'.cell? ⟨b, o + 4, none⟩ = some vb
 c5 : ∀ (w' : World), Ext w w' → w'.cell? ⟨b, o + 5, none⟩ = some vn
 c6 : ∀ (w' : World), Ext w w' → w'.cell? ⟨b, o + 6, none⟩ = some vt
 c7 : ∀ (w' : World), Ext w w' → w'.cell? ⟨b, o + 7, none⟩ = some vk
theorem RuleAt.ext {w w' : World} {b o : Nat} {r : DRule} {vb vn vt vk : Value} (h : RuleAt w b o r vb vn vt vk) (e : Ext w w') : RuleAt w' b o r vb vn vt vk :=
 ⟨fun w1 e1 => h.c0 w1 (e.trans e1), fun w1 e1 => h.c1 w1 (e.trans e1), fun w1 e1 => h.c2 w1 (e.trans e1), fun w1 e1 => h.c3 w1 (e.trans e1), fun w1 e1 => h.c4 w1 (e.trans e1), fun w1 e1 => h.c5 w1 (e.trans e1), fun w1 e1 => h.c6 w1 (e.trans e1), fun w1 e1 => h.c7 w1 (e.trans e1)⟩
structure RdD (w : World) (A : Option Addr) (ds : List DRule) (c : Nat) : Prop where
 cap : ds.length ≤ c
 len : ds.length ≤ 9223372036854775807
 cells : 0 < ds.length → ∃ b off, A = some ⟨b, off, none⟩ ∧ b < w.heap.size ∧ ∀ i (h : i < ds.length), ∃ Ab cb An cn At ct Ak ck, RdS w ds[i] Ab cb An cn At ct Ak ck ∧
  RuleAt w b (off + i * 8) ds[i] (.slice Ab ds[i].bytes.length cb) (.slice An ds[i].names.length cn) (.slice At ds[i].tags.length ct) (.slice Ak ds[i].kids.length ck)
theorem RdD.ext {w w' : World} {A : Option Addr} {ds : List DRule} {c : Nat} (h : RdD w A ds c) (e : Ext w w') : RdD w' A ds c :=
 ⟨h.cap, h.len, fun hp => let ⟨b, off, h1, h2, h3⟩ := h.cells hp; ⟨b, off, h1, Nat.lt_of_lt_of_le h2 e.size, fun i hi => let ⟨Ab, cb, An, cn, At, ct, Ak, ck, h4, h5⟩ := h3 i hi; ⟨Ab, cb, An, cn, At, ct, Ak, ck, h4.ext e, h5.ext e⟩⟩⟩
theorem RdD.at {w : World} {A : Option Addr} {ds : List DRule} {c : Nat} (h : RdD w A ds c) (i : Nat) (hi : i < ds.length) :
 ∃ b off Ab cb An cn At ct Ak ck, A = some ⟨b, off, none⟩ ∧ b < w.heap.size ∧ RdS w ds[i] Ab cb An cn At ct Ak ck ∧
 RuleAt w b (off + i * 8) ds[i] (.slice Ab ds[i].bytes.length cb) (.slice An ds[i].names.length cn) (.slice At ds[i].tags.length ct) (.slice Ak ds[i].kids.length ck) := by
 obtain ⟨b, off, h1, h2, h3⟩ := h.cells (by omega)
 obtain ⟨Ab, cb, An, cn, At, ct, Ak, ck, h4, h5⟩ := h3 i hi
 exact ⟨b, off, Ab, cb, An, cn, At, ct, Ak, ck, h1, h2, h4, h5⟩
theorem RdD.nil (w : World) : RdD w none [] 0 := ⟨by simp, by simp, fun h => by simp at h⟩
structure RdG (w : World) (A : Option Addr) (ds : List (List DRule)) (c : Nat) : Prop where
 cap : ds.length ≤ c
 len : ds.length ≤ 9223372036854775807
 cells : 0 < ds.length → ∃ b off, A = some ⟨b, off, none⟩ ∧ b < w.heap.size ∧ ∀ i (h : i < ds.length), ∃ A' c', RdD w A' ds[i] c' ∧ ∀ (w' : World), Ext w w' → w'.cell? ⟨b, off + i, none⟩ = some (.slice A' ds[i].length c')
theorem RdG.ext {w w' : World} {A : Option Addr} {ds : List (List DRule)} {c : Nat} (h : RdG w A ds c) (e : Ext w w') : RdG w' A ds c :=
 ⟨h.cap, h.len, fun hp => let ⟨b, off, h1, h2, h3⟩ := h.cells hp; ⟨b, off, h1, Nat.lt_of_lt_of_le h2 e.size, fun i hi => let ⟨A', c', h4, h5⟩ := h3 i hi; ⟨A', c', h4.ext e, fun w1 e1 => h5 w1 (e.trans e1)⟩⟩⟩
theorem RdG.at {w : World} {A : Option Addr} {ds : List (List DRule)} {c : Nat} (h : RdG w A ds c) (i : Nat) (hi : i < ds.length) :
 ∃ b off A' c', A = some ⟨b, off, none⟩ ∧ b < w.heap.size ∧ RdD w A' ds[i] c' ∧ ∀ (w' : World), Ext w w' → w'.cell? ⟨b, off + i, none⟩ = some (.slice A' ds[i].length c') := by
 obtain ⟨b, off, h1, h2, h3⟩ := h.cells (by omega)
 obtain ⟨A', c', h4, h5⟩ := h3 i hi
 exact ⟨b, off, A', c', h1, h2, h4, h5⟩
def szStrs (l : List ByteArray) : Nat := (l.map ByteArray.size).sum
def szRl (r : DRule) : Nat := r.nm.size + r.bytes.length + (r.names.length + szStrs r.names) + r.tags.length + r.kids.length
def szD (ds : List DRule) : Nat := ds.length + (ds.map szRl).sum
def szG (ds : List (List DRule)) : Nat := ds.length + (ds.map szD).sum
structure WfR (r : DRule) : Prop where
 nm : r.nm.size ≤ 9223372036854775807
 names : ∀ s ∈ r.names, s.size ≤ 9223372036854775807
 kind : (Lit.int .i64 r.kind).wf = true
 size : (Lit.int .i64 r.size).wf = true
 tags : ∀ x ∈ r.tags, (Lit.int .i64 x).wf = true
 kids : ∀ x ∈ r.kids, (Lit.int .i64 x).wf = true
def WfD (ds : List DRule) : Prop := ∀ r ∈ ds, WfR r
def WfG (ds : List (List DRule)) : Prop := ∀ d ∈ ds, WfD d
theorem sum_take {α : Type} (f : α → Nat) (l : List α) (k : Nat) (hk : k < l.length) : ((l.take (k+1)).map f).sum = ((l.take k).map f).sum + f l[k] := by
 rw [List.take_succ_eq_append_getElem hk, List.map_append, List.sum_append, List.map_cons, List.map_nil, List.sum_cons, List.sum_nil, Nat.add_zero]
theorem sum_split {α : Type} (f : α → Nat) (l : List α) (k : Nat) : (l.map f).sum = ((l.take k).map f).sum + ((l.drop k).map f).sum := by
 rw [← List.sum_append, ← List.map_append, List.take_append_drop]
theorem E_rule : Elem Tryz.prog 24 51 8 136 (.agg #[.string ⟨#[]⟩, .int .i64 0, .int .i64 0, .bool false, .slice none 0 0, .slice none 0 0, .slice none 0 0, .slice none 0 0]) := ⟨Tryz.underlying24, by kernel_rfl, rfl, by omega⟩
def Far (vs : List Value) : Prop := vs.Pairwise fun a b => ∀ g, a.ownBlock = some g → b.ownBlock ≠ some g
structure RV where
 r : DRule
 vb : Value
 vn : Value
 vt : Value
 vk : Value
def RV.cells (p : RV) : List Value := [.string p.r.nm, .int .i64 p.r.kind, .int .i64 p.r.size, .bool p.r.little, p.vb, p.vn, p.vt, p.vk]
def RV.vals (p : RV) : List Value := [p.vb, p.vn, p.vt, p.vk]
theorem RV.cells_one (p : RV) (hb : p.vb.oneCell' = true) (hn : p.vn.oneCell' = true) (ht : p.vt.oneCell' = true) (hk : p.vk.oneCell' = true) : ∀ u ∈ p.cells, u.oneCell' = true := by
 intro u hu; simp [RV.cells] at hu; rcases hu with rfl | rfl | rfl | rfl | rfl | rfl | rfl | rfl <;> first | rfl | assumption
structure RuleOwn (w0 w : World) (p : RV) : Prop where
 b : OwnL vu8 5 w0 w p.vb p.r.bytes
 n : OwnL vstr 9 w0 w p.vn p.r.names
 t : OwnL vint 3 w0 w p.vt p.r.tags
 k : OwnL vint 3 w0 w p.vk p.r.kids
theorem Own.keep {e : TypeId} {size : Nat} {w0 w w' : World} {v : Value} {n : Nat} {xs : List Value} (h : Own e size w0 w v n xs) {row : Option Nat} (hg : w.grownBy w' row) (hne : ∀ g, v.ownBlock = some g → row ≠ some g) : Own e size w0 w' v n xs := by
 refine World.ownsRow.kept h hg ?_
 cases hb : v.ownBlock with
 | none => exact .inl rfl
 | some g => right; exact fun he => hne g hb he.symm
theorem OwnL.keep {α : Type} {f : α → Value} {e : TypeId} {w0 w w' : World} {v : Value} {l : List α} (h : OwnL f e w0 w v l) {row : Option Nat} (hg : w.grownBy w' row) (hne : ∀ g, v.ownBlock = some g → row ≠ some g) : OwnL f e w0 w' v l := Own.keep h hg hne
theorem RuleOwn.ext {w0 w w' : World} {p : RV} (h : RuleOwn w0 w p) (e : Ext w w') : RuleOwn w0 w' p := ⟨h.b.ext e, h.n.ext e, h.t.ext e, h.k.ext e⟩
theorem RuleOwn.down {w0 w1 w : World} {p : RV} (h : RuleOwn w1 w p) (e : w0.heap.size ≤ w1.heap.size) : RuleOwn w0 w p := ⟨h.b.down e, h.n.down e, h.t.down e, h.k.down e⟩
theorem RuleOwn.keep {w0 w w' : World} {p : RV} (h : RuleOwn w0 w p) {row : Option Nat} (hg : w.grownBy w' row) (hne : ∀ v ∈ p.vals, ∀ g, v.ownBlock = some g → row ≠ some g) : RuleOwn w0 w' p :=
 ⟨h.b.keep hg (hne _ (by simp [RV.vals])), h.n.keep hg (hne _ (by simp [RV.vals])), h.t.keep hg (hne _ (by simp [RV.vals])), h.k.keep hg (hne _ (by simp [RV.vals]))⟩
theorem RuleOwn.block {w0 w : World} {p : RV} (h : RuleOwn w0 w p) : ∀ v ∈ p.vals, ∀ g, v.ownBlock = some g → w0.heap.size ≤ g ∧ g < w.heap.size := by
 intro v hv
 simp [RV.vals] at hv
 rcases hv with rfl | rfl | rfl | rfl
 ·exact fun g hg => World.ownsRow.lt h.b g hg
 ·exact fun g hg => World.ownsRow.lt h.n g hg
 ·exact fun g hg => World.ownsRow.lt h.t g hg
 ·exact fun g hg => World.ownsRow.lt h.k g hg
def ShortR (r : DRule) : Prop := r.bytes.length ≤ 140737488351232 ∧ r.names.length ≤ 140737488351232 ∧ r.tags.length ≤ 140737488351232 ∧ r.kids.length ≤ 140737488351232
theorem szRl_short {r : DRule} (h : szRl r ≤ 1048576) : ShortR r ∧ r.bytes.length ≤ 1048576 ∧ r.names.length ≤ 1048576 ∧ r.tags.length ≤ 1048576 ∧ r.kids.length ≤ 1048576 := by
 unfold szRl at h; unfold ShortR; omega
theorem sum_mem {α : Type} (f : α → Nat) : ∀ (l : List α) (x : α), x ∈ l → f x ≤ (l.map f).sum
 | a :: t, x, hx => by
  rw [List.map_cons, List.sum_cons]
  rcases List.mem_cons.1 hx with rfl | h
  ·omega
  ·have := sum_mem f t x h; omega
theorem szD_mem {ds : List DRule} {n : Nat} (h : szD ds ≤ n) {r : DRule} (hr : r ∈ ds) : szRl r ≤ n := by
 unfold szD at h; have := sum_mem szRl ds r hr; omega
theorem RuleOwn.rd {w0 w : World} {p : RV} (h : RuleOwn w0 w p) (hs : ShortR p.r) : ∃ Ab cb An cn At ct Ak ck, p.vb = .slice Ab p.r.bytes.length cb ∧ p.vn = .slice An p.r.names.length cn ∧ p.vt = .slice At p.r.tags.length ct ∧ p.vk = .slice Ak p.r.kids.length ck ∧ RdS w p.r Ab cb An cn At ct Ak ck := by
 obtain ⟨Ab, cb, h1, r1⟩ := OwnL.rd h.b hs.1
 obtain ⟨An, cn, h2, r2⟩ := OwnL.rd h.n hs.2.1
 obtain ⟨At, ct, h3, r3⟩ := OwnL.rd h.t hs.2.2.1
 obtain ⟨Ak, ck, h4, r4⟩ := OwnL.rd h.k hs.2.2.2
 exact ⟨Ab, cb, An, cn, At, ct, Ak, ck, h1, h2, h3, h4, r1.1, r2.1, r3.1, r4.1⟩
structure OwnD (w0 w : World) (v : Value) (ps : List RV) : Prop where
 row : Own 51 8 w0 w v ps.length (ps.flatMap RV.cells)
 each : ∀ p ∈ ps, RuleOwn w0 w p
 far : Far (v :: ps.flatMap RV.vals)
def rulesOf (ps : List RV) : List DRule := ps.map RV.r
theorem cells_get : ∀ (ps : List RV) (i j : Nat) (h : i < ps.length), j < 8 → (ps.flatMap RV.cells)[i * 8 + j]? = ps[i].cells[j]? := by
 intro ps
 induction ps with
 | nil => intro i j h; simp at h
 | cons p t ih =>
  intro i j h hj
  rw [List.flatMap_cons]
  cases i with
  | zero =>
   rw [List.getElem?_append_left (by simp [RV.cells]; omega)]
   simp
  | succ i =>
   rw [List.getElem?_append_right (by simp [RV.cells]; omega)]
   have : (i + 1) * 8 + j - p.cells.length = i * 8 + j := by simp [RV.cells]; omega
   rw [this, ih i j (by simpa using h) hj]
   simp
theorem OwnD.ext {w0 w w' : World} {v : Value} {ps : List RV} (h : OwnD w0 w v ps) (e : Ext w w') : OwnD w0 w' v ps := ⟨h.row.ext e, fun p hp => (h.each p hp).ext e, h.far⟩
theorem OwnD.down {w0 w1 w : World} {v : Value} {ps : List RV} (h : OwnD w1 w v ps) (e : w0.heap.size ≤ w1.heap.size) : OwnD w0 w v ps := ⟨World.ownsRow.lower h.row e, fun p hp => (h.each p hp).down e, h.far⟩
theorem OwnD.keep {w0 w w' : World} {v : Value} {ps : List RV} (h : OwnD w0 w v ps) {row : Option Nat} (hg : w.grownBy w' row) (hne : ∀ u ∈ v :: ps.flatMap RV.vals, ∀ g, u.ownBlock = some g → row ≠ some g) : OwnD w0 w' v ps :=
 ⟨h.row.keep hg (hne _ (by simp)), fun p hp => (h.each p hp).keep hg (fun u hu => hne u (List.mem_cons_of_mem _ (List.mem_flatMap.2 ⟨p, hp, hu⟩))), h.far⟩
theorem OwnD.shape {w0 w : World} {v : Value} {ps : List RV} (h : OwnD w0 w v ps) : ∃ A c, v = .slice A ps.length c := by
 rcases h.row.2 with ⟨rfl, hn⟩ | ⟨g, cap, _, rfl, _⟩
 ·exact ⟨none, 0, by rw [hn]⟩
 ·exact ⟨_, _, rfl⟩
theorem OwnD.block {w0 w : World} {v : Value} {ps : List RV} (h : OwnD w0 w v ps) : ∀ u ∈ v :: ps.flatMap RV.vals, ∀ g, u.ownBlock = some g → w0.heap.size ≤ g ∧ g < w.heap.size := by
 intro u hu
 rcases List.mem_cons.1 hu with rfl | hu
 ·exact fun g hg => World.ownsRow.lt h.row g hg
 ·obtain ⟨p, hp, hu⟩ := List.mem_flatMap.1 hu
  exact (h.each p hp).block u hu
theorem heap_row {w : World} {g : Nat} {cur : Array Value} {T : TypeId} (hg : w.heap[g]? = some (.cells cur T (0, 0))) {w' : World} (e : Ext w w') (i : Nat) : w'.cell? ⟨g, i, none⟩ = cur[i]? :=
 cell_of_row w' g i cur T (0, 0) ((Below.block e g (Array.getElem?_eq_some_iff.1 hg).1).trans hg)
theorem OwnD.rd {w0 w : World} {v : Value} {ps : List RV} (h : OwnD w0 w v ps) (hl : ps.length ≤ 9223372036854775807) (hs : ∀ p ∈ ps, ShortR p.r) : ∃ A c, v = .slice A (rulesOf ps).length c ∧ RdD w A (rulesOf ps) c := by
 have hlen : (rulesOf ps).length = ps.length := by simp [rulesOf]
 rcases h.row.2 with ⟨rfl, h0⟩ | ⟨g, cap, cur, rfl, hb, hg, hnc, hcm, hcs, htake⟩
 ·exact ⟨none, 0, by rw [hlen, h0], by omega, by omega, fun hp => by omega⟩
 ·refine ⟨_, _, by rw [hlen], by omega, by omega, fun hp => ⟨g, 0, rfl, (Array.getElem?_eq_some_iff.1 hg).1, fun i hi => ?_⟩⟩
  have hi' : i < ps.length := by omega
  have hr : (rulesOf ps)[i] = ps[i].r := by simp [rulesOf]
  have hc : ∀ (w' : World), Ext w w' → ∀ j, j < 8 → w'.cell? ⟨g, i * 8 + j, none⟩ = ps[i].cells[j]? := by
   intro w' e j hj
   rw [heap_row hg e, ← cells_get ps i j hi' hj, ← htake, List.getElem?_take, if_pos (by omega)]
   simp
  obtain ⟨Ab, cb, An, cn, At, ct, Ak, ck, e1, e2, e3, e4, hS⟩ := (h.each _ (List.getElem_mem hi')).rd (hs _ (List.getElem_mem hi'))
  rw [hr]
  refine ⟨Ab, cb, An, cn, At, ct, Ak, ck, hS, ?_⟩
  rw [← e1, ← e2, ← e3, ← e4, Nat.zero_add]
  exact ⟨fun w' e => by have := hc w' e 0 (by omega); simpa [RV.cells] using this, fun w' e => by have := hc w' e 1 (by omega); simpa [RV.cells] using this, fun w' e => by have := hc w' e 2 (by omega); simpa [RV.cells] using this, fun w' e => by have := hc w' e 3 (by omega); simpa [RV.cells] using this,
   fun w' e => by have := hc w' e 4 (by omega); simpa [RV.cells] using this, fun w' e => by have := hc w' e 5 (by omega); simpa [RV.cells] using this, fun w' e => by have := hc w' e 6 (by omega); simpa [RV.cells] using this, fun w' e => by have := hc w' e 7 (by omega); simpa [RV.cells] using this⟩
theorem set8 (xs : List Value) (p : RV) (rest : List Value) (hr : 8 ≤ rest.length) (k : Nat) (hk : xs.length = k) :
 ((((((((xs ++ rest).set k (.string p.r.nm)).set (k + 1) (.int .i64 p.r.kind)).set (k + 2) (.int .i64 p.r.size)).set (k + 3) (.bool p.r.little)).set (k + 4) p.vb).set (k + 5) p.vn).set (k + 6) p.vt).set (k + 7) p.vk = (xs ++ p.cells) ++ rest.drop 8 := by
 match rest, hr with
 | a0 :: a1 :: a2 :: a3 :: a4 :: a5 :: a6 :: a7 :: t, _ =>
  subst hk
  rw [List.set_append_right _ _ (by omega), List.set_append_right _ _ (by omega), List.set_append_right _ _ (by omega), List.set_append_right _ _ (by omega), List.set_append_right _ _ (by omega), List.set_append_right _ _ (by omega), List.set_append_right _ _ (by omega), List.set_append_right _ _ (by omega)]
  rw [show xs.length - xs.length = 0 by omega, show xs.length + 1 - xs.length = 1 by omega, show xs.length + 2 - xs.length = 2 by omega, show xs.length + 3 - xs.length = 3 by omega, show xs.length + 4 - xs.length = 4 by omega, show xs.length + 5 - xs.length = 5 by omega, show xs.length + 6 - xs.length = 6 by omega, show xs.length + 7 - xs.length = 7 by omega]
  simp [RV.cells]
def put8 (w : World) (g k : Nat) (p : RV) : World :=
 (((((((w.setCell ⟨g, k, none⟩ (.string p.r.nm)).setCell ⟨g, k + 1, none⟩ (.int .i64 p.r.kind)).setCell ⟨g, k + 2, none⟩ (.int .i64 p.r.size)).setCell ⟨g, k + 3, none⟩ (.bool p.r.little)).setCell ⟨g, k + 4, none⟩ p.vb).setCell ⟨g, k + 5, none⟩ p.vn).setCell ⟨g, k + 6, none⟩ p.vt).setCell ⟨g, k + 7, none⟩ p.vk
theorem grown_put8 (w : World) (g k : Nat) (p : RV) : w.grownBy (put8 w g k p) (some g) := by
 unfold put8
 exact ((((((((grown_set w ⟨g, k, none⟩ _).trans (grown_set _ ⟨g, k + 1, none⟩ _)).trans (grown_set _ ⟨g, k + 2, none⟩ _)).trans (grown_set _ ⟨g, k + 3, none⟩ _)).trans (grown_set _ ⟨g, k + 4, none⟩ _)).trans (grown_set _ ⟨g, k + 5, none⟩ _)).trans (grown_set _ ⟨g, k + 6, none⟩ _)).trans (grown_set _ ⟨g, k + 7, none⟩ _))
theorem Own.put8 {e : TypeId} {w0 w : World} {g n cap : Nat} {xs rest : List Value} (h : Own e 8 w0 w (.slice (some ⟨g, 0, none⟩) n cap) n (xs ++ rest)) (he : Ext w0 w) (p : RV) (hr : 8 ≤ rest.length) (k : Nat) (hk : xs.length = k) :
 Own e 8 w0 (put8 w g k p) (.slice (some ⟨g, 0, none⟩) n cap) n ((xs ++ p.cells) ++ rest.drop 8) ∧ Ext w0 (put8 w g k p) := by
 rw [← set8 xs p rest hr k hk]
 obtain ⟨h0, e0⟩ := h.store he k (.string p.r.nm)
 obtain ⟨h1, e1⟩ := Own.store h0 e0 (k + 1) (.int .i64 p.r.kind)
 obtain ⟨h2, e2⟩ := Own.store h1 e1 (k + 2) (.int .i64 p.r.size)
 obtain ⟨h3, e3⟩ := Own.store h2 e2 (k + 3) (.bool p.r.little)
 obtain ⟨h4, e4⟩ := Own.store h3 e3 (k + 4) p.vb
 obtain ⟨h5, e5⟩ := Own.store h4 e4 (k + 5) p.vn
 obtain ⟨h6, e6⟩ := Own.store h5 e5 (k + 6) p.vt
 obtain ⟨h7, e7⟩ := Own.store h6 e6 (k + 7) p.vk
 exact ⟨h7, e7⟩
theorem Far.append {a b : List Value} (ha : Far a) (hb : Far b) (h : ∀ u ∈ a, ∀ v ∈ b, ∀ g, u.ownBlock = some g → v.ownBlock ≠ some g) : Far (a ++ b) := List.pairwise_append.2 ⟨ha, hb, h⟩
theorem Far.cons {u : Value} {b : List Value} (hb : Far b) (h : ∀ v ∈ b, ∀ g, u.ownBlock = some g → v.ownBlock ≠ some g) : Far (u :: b) := List.pairwise_cons.2 ⟨h, hb⟩
theorem Far.nil : Far [] := List.Pairwise.nil
theorem Far.one (v : Value) : Far [v] := List.pairwise_singleton _ v
structure OwnG (w0 w : World) (v : Value) (qs : List (Value × List RV)) : Prop where
 row : Own 26 1 w0 w v qs.length (qs.map Prod.fst)
 each : ∀ q ∈ qs, OwnD w0 w q.1 q.2
 far : Far (v :: qs.flatMap fun q => q.1 :: q.2.flatMap RV.vals)
def descsOf (qs : List (Value × List RV)) : List (List DRule) := qs.map fun q => rulesOf q.2
theorem OwnG.ext {w0 w w' : World} {v : Value} {qs : List (Value × List RV)} (h : OwnG w0 w v qs) (e : Ext w w') : OwnG w0 w' v qs := ⟨h.row.ext e, fun p hp => (h.each p hp).ext e, h.far⟩
theorem OwnG.down {w0 w1 w : World} {v : Value} {qs : List (Value × List RV)} (h : OwnG w1 w v qs) (e : w0.heap.size ≤ w1.heap.size) : OwnG w0 w v qs := ⟨World.ownsRow.lower h.row e, fun p hp => (h.each p hp).down e, h.far⟩
theorem OwnG.shape {w0 w : World} {v : Value} {qs : List (Value × List RV)} (h : OwnG w0 w v qs) : ∃ A c, v = .slice A qs.length c := by
 rcases h.row.2 with ⟨rfl, hn⟩ | ⟨g, cap, _, rfl, _⟩
 ·exact ⟨none, 0, by rw [hn]⟩
 ·exact ⟨_, _, rfl⟩
theorem OwnG.block {w0 w : World} {v : Value} {qs : List (Value × List RV)} (h : OwnG w0 w v qs) : ∀ u ∈ v :: (qs.flatMap fun q => q.1 :: q.2.flatMap RV.vals), ∀ g, u.ownBlock = some g → w0.heap.size ≤ g ∧ g < w.heap.size := by
 intro u hu
 rcases List.mem_cons.1 hu with rfl | hu
 ·exact fun g hg => World.ownsRow.lt h.row g hg
 ·obtain ⟨p, hp, hu⟩ := List.mem_flatMap.1 hu
  exact (h.each p hp).block u hu
theorem OwnG.keep {w0 w w' : World} {v : Value} {qs : List (Value × List RV)} (h : OwnG w0 w v qs) {row : Option Nat} (hg : w.grownBy w' row) (hne : ∀ u ∈ v :: (qs.flatMap fun q => q.1 :: q.2.flatMap RV.vals), ∀ g, u.ownBlock = some g → row ≠ some g) : OwnG w0 w' v qs :=
 ⟨h.row.keep hg (hne _ (by simp)), fun p hp => (h.each p hp).keep hg (fun u hu => hne u (List.mem_cons_of_mem _ (List.mem_flatMap.2 ⟨p, hp, hu⟩))), h.far⟩
theorem OwnG.rd {w0 w : World} {v : Value} {qs : List (Value × List RV)} (h : OwnG w0 w v qs) (hl : qs.length ≤ 9223372036854775807) (hl2 : ∀ q ∈ qs, q.2.length ≤ 9223372036854775807) (hs : ∀ q ∈ qs, ∀ p ∈ q.2, ShortR p.r) : ∃ A c, v = .slice A (descsOf qs).length c ∧ RdG w A (descsOf qs) c := by
 have hlen : (descsOf qs).length = qs.length := by simp [descsOf]
 rcases h.row.2 with ⟨rfl, h0⟩ | ⟨g, cap, cur, rfl, hb, hg, hnc, hcm, hcs, htake⟩
 ·exact ⟨none, 0, by rw [hlen, h0], by omega, by omega, fun hp => by omega⟩
 ·refine ⟨_, _, by rw [hlen], by omega, by omega, fun hp => ⟨g, 0, rfl, (Array.getElem?_eq_some_iff.1 hg).1, fun i hi => ?_⟩⟩
  have hi' : i < qs.length := by omega
  have hr : (descsOf qs)[i] = rulesOf qs[i].2 := by simp [descsOf]
  rw [hr]
  obtain ⟨A', c', hv, hR⟩ := (h.each _ (List.getElem_mem hi')).rd (hl2 _ (List.getElem_mem hi')) (hs _ (List.getElem_mem hi'))
  refine ⟨A', c', hR, fun w' e => ?_⟩
  rw [heap_row hg e, ← hv, Nat.zero_add]
  have h2 : (cur.toList.take (qs.length * 1))[i]? = (qs.map Prod.fst)[i]? := by rw [htake]
  rw [List.getElem?_take, if_pos (by omega)] at h2
  simpa [hi'] using h2
structure Mk (wb w wr : World) (p : Nat) (A : Option Addr) (l : List UInt8) (c : Nat) (g : Nat) (q : RV) : Prop where
 box : Box wr g q.cells.toArray 51
 own : RuleOwn wb wr q
 far : Far q.vals
 new : ∀ u ∈ q.vals, ∀ b, u.ownBlock = some b → w.heap.size ≤ b ∧ b ≠ g ∧ b ≠ p
 cur : Cur wb wr p A l c
 grow : w.grownBy wr (some p)
 gw : w.heap.size ≤ g
 gb : wb.heap.size ≤ g
 gp : g ≠ p
theorem Mk.moved {wb w wr w' : World} {p : Nat} {A : Option Addr} {l : List UInt8} {c g : Nat} {q : RV} (h : Mk wb w wr p A l c g q) (hC : Cur wb w' p A l c) (hg : wr.grownBy w' (some p)) : Mk wb w w' p A l c g q :=
 ⟨Box.moved h.box hg (some_ne h.gp.symm), h.own.keep hg (fun u hu b hb he => by injection he with he; exact (h.new u hu b hb).2.2 he.symm), h.far, h.new, hC, h.grow.trans hg, h.gw, h.gb, h.gp⟩
theorem Mk.ext {wb w wr w' : World} {p : Nat} {A : Option Addr} {l : List UInt8} {c g : Nat} {q : RV} (h : Mk wb w wr p A l c g q) (e : Ext wr w') : Mk wb w w' p A l c g q :=
 h.moved (h.cur.ext e) (grown_ext e _)
theorem Mk.stored {wb w w2 : World} {p : Nat} {A : Option Addr} {l : List UInt8} {c g : Nat} {q q' : RV} (box : Box w2 g q.cells.toArray 51) (own : RuleOwn wb w2 q') (far : Far q'.vals)
 (new : ∀ u ∈ q'.vals, ∀ b, u.ownBlock = some b → w.heap.size ≤ b ∧ b ≠ g ∧ b ≠ p) (cur : Cur wb w2 p A l c) (grow : w.grownBy w2 (some p)) (gw : w.heap.size ≤ g) (gb : wb.heap.size ≤ g) (gp : g ≠ p)
 (i : Nat) (u : Value) (hq : q.cells.toArray.setIfInBounds i u = q'.cells.toArray) : Mk wb w (w2.setCell ⟨g, i, none⟩ u) p A l c g q' := by
 refine ⟨?_, own.keep (grown_set w2 ⟨g, i, none⟩ u) (fun v hv b hb he => by injection he with he; exact (new v hv b hb).2.1 he.symm), far, new, cur.set (a := ⟨g, i, none⟩) gp gb u, grown_new (a := ⟨g, i, none⟩) grow gw u, gw, gb, gp⟩
 have := box.set i u
 rw [hq] at this
 exact this
theorem Mk.put {wb w wr : World} {p : Nat} {A : Option Addr} {l : List UInt8} {c g : Nat} {q q' : RV} (h : Mk wb w wr p A l c g q) (i : Nat) (u : Value) (hq : q.cells.toArray.setIfInBounds i u = q'.cells.toArray) (hv : q'.vals = q.vals)
 (hr : q'.r.bytes = q.r.bytes ∧ q'.r.names = q.r.names ∧ q'.r.tags = q.r.tags ∧ q'.r.kids = q.r.kids) : Mk wb w (wr.setCell ⟨g, i, none⟩ u) p A l c g q' := by
 obtain ⟨r, vb, vn, vt, vk⟩ := q
 obtain ⟨r', vb', vn', vt', vk'⟩ := q'
 simp only [RV.vals, List.cons.injEq, and_true] at hv
 obtain ⟨rfl, rfl, rfl, rfl⟩ := hv
 dsimp only at hr
 refine Mk.stored (q' := ⟨r', vb', vn', vt', vk'⟩) h.box ⟨?_, ?_, ?_, ?_⟩ h.far h.new h.cur h.grow h.gw h.gb h.gp i u hq
 ·show OwnL _ _ _ _ _ r'.bytes; rw [hr.1]; exact h.own.b
 ·show OwnL _ _ _ _ _ r'.names; rw [hr.2.1]; exact h.own.n
 ·show OwnL _ _ _ _ _ r'.tags; rw [hr.2.2.1]; exact h.own.t
 ·show OwnL _ _ _ _ _ r'.kids; rw [hr.2.2.2]; exact h.own.k
theorem Mk.app_b {wb w wr w2 : World} {p : Nat} {A : Option Addr} {l : List UInt8} {c g : Nat} {q : RV} (h : Mk wb w wr p A l c g q) {v' : Value} {xs : List UInt8} (ho : OwnL vu8 5 wb w2 v' xs) (he : Ext wb w2)
 (hb : v'.ownBlock = q.vb.ownBlock ∨ v'.ownBlock = some wr.heap.size) (hg : wr.grownBy w2 q.vb.ownBlock) : Mk wb w (w2.setCell ⟨g, 4, none⟩ v') p A l c g ⟨{ q.r with bytes := xs }, v', q.vn, q.vt, q.vk⟩ := by
 have hx := h
 have hglt := h.box.lt
 have hplt := h.cur.lt
 have hfar := h.far
 have hnew := h.new
 have hblk := h.own.block
 simp only [RV.vals] at hnew hblk
 unfold Far RV.vals at hfar
 simp only [List.pairwise_cons, List.mem_cons, List.not_mem_nil, or_false, forall_eq_or_imp, forall_eq] at hfar
 have hsep : ∀ u ∈ [q.vn, q.vt, q.vk], ∀ b, q.vb.ownBlock = some b → u.ownBlock ≠ some b := by
  intro u hu b h1 h2
  simp only [List.mem_cons, List.not_mem_nil, or_false] at hu
  rcases hu with rfl | rfl | rfl
  all_goals
   first
    | exact hfar.1.1 b (by assumption) (by assumption)
    | exact hfar.1.2.1 b (by assumption) (by assumption)
    | exact hfar.1.2.2 b (by assumption) (by assumption)
    | exact hfar.2.1.1 b (by assumption) (by assumption)
    | exact hfar.2.1.2 b (by assumption) (by assumption)
    | exact hfar.2.2.1 b (by assumption) (by assumption)
 have hsep' : ∀ u ∈ [q.vn, q.vt, q.vk], ∀ b, v'.ownBlock = some b → u.ownBlock ≠ some b := by
  intro u hu b h1 h2
  rcases hb with hb | hb
  ·exact hsep u hu b (hb.symm.trans h1) h2
  ·rw [hb] at h1
   injection h1 with h1
   have := (hblk u (by simp only [List.mem_cons, List.not_mem_nil, or_false] at hu ⊢; rcases hu with rfl | rfl | rfl <;> simp) b h2).2
   omega
 have hnv : ∀ b, v'.ownBlock = some b → w.heap.size ≤ b ∧ b ≠ g ∧ b ≠ p := by
  intro b h1
  rcases hb with hb | hb
  ·exact hnew q.vb (by simp) b (hb.symm.trans h1)
  ·rw [hb] at h1
   injection h1 with h1
   have := h.grow.size
   omega
 refine Mk.stored (q := q) (q' := ⟨{ q.r with bytes := xs }, v', q.vn, q.vt, q.vk⟩) (Box.moved hx.box hg (fun hh => (hnew q.vb (by simp) g hh).2.1 rfl)) ⟨ho, hx.own.n.keep hg (fun b h1 h2 => hsep q.vn (by simp) b h2 h1), hx.own.t.keep hg (fun b h1 h2 => hsep q.vt (by simp) b h2 h1), hx.own.k.keep hg (fun b h1 h2 => hsep q.vk (by simp) b h2 h1)⟩ ?_ ?_ (Cur.kept hx.cur hg (fun hh => (hnew q.vb (by simp) p hh).2.2 rfl) he)
  (grown_own hx.grow (fun b hh => (hnew q.vb (by simp) b hh).1) hg) h.gw h.gb h.gp 4 v' (by simp [RV.cells])
 ·unfold Far RV.vals
  simp only [List.pairwise_cons, List.mem_cons, List.not_mem_nil, or_false, forall_eq_or_imp, forall_eq, false_imp_iff, implies_true, List.Pairwise.nil, and_true]
  refine ⟨⟨?_, ?_, ?_⟩, ⟨?_, ?_⟩, ?_⟩
  all_goals
   intro b h1 h2
   first
    | exact hsep' _ (by simp) b h1 h2
    | exact hsep' _ (by simp) b h2 h1
    | exact hfar.1.1 b h1 h2
    | exact hfar.1.2.1 b h1 h2
    | exact hfar.1.2.2 b h1 h2
    | exact hfar.2.1.1 b h1 h2
    | exact hfar.2.1.2 b h1 h2
    | exact hfar.2.2.1 b h1 h2
 ·intro u hu b h1
  simp only [RV.vals, List.mem_cons, List.not_mem_nil, or_false] at hu
  rcases hu with rfl | rfl | rfl | rfl
  all_goals
   first
    | exact hnv b h1
    | exact hnew _ (by simp) b h1
theorem Mk.app_n {wb w wr w2 : World} {p : Nat} {A : Option Addr} {l : List UInt8} {c g : Nat} {q : RV} (h : Mk wb w wr p A l c g q) {v' : Value} {xs : List ByteArray} (ho : OwnL vstr 9 wb w2 v' xs) (he : Ext wb w2)
 (hb : v'.ownBlock = q.vn.ownBlock ∨ v'.ownBlock = some wr.heap.size) (hg : wr.grownBy w2 q.vn.ownBlock) : Mk wb w (w2.setCell ⟨g, 5, none⟩ v') p A l c g ⟨{ q.r with names := xs }, q.vb, v', q.vt, q.vk⟩ := by
 have hx := h
 have hglt := h.box.lt
 have hplt := h.cur.lt
 have hfar := h.far
 have hnew := h.new
 have hblk := h.own.block
 simp only [RV.vals] at hnew hblk
 unfold Far RV.vals at hfar
 simp only [List.pairwise_cons, List.mem_cons, List.not_mem_nil, or_false, forall_eq_or_imp, forall_eq] at hfar
 have hsep : ∀ u ∈ [q.vb, q.vt, q.vk], ∀ b, q.vn.ownBlock = some b → u.ownBlock ≠ some b := by
  intro u hu b h1 h2
  simp only [List.mem_cons, List.not_mem_nil, or_false] at hu
  rcases hu with rfl | rfl | rfl
  all_goals
   first
    | exact hfar.1.1 b (by assumption) (by assumption)
    | exact hfar.1.2.1 b (by assumption) (by assumption)
    | exact hfar.1.2.2 b (by assumption) (by assumption)
    | exact hfar.2.1.1 b (by assumption) (by assumption)
    | exact hfar.2.1.2 b (by assumption) (by assumption)
    | exact hfar.2.2.1 b (by assumption) (by assumption)
 have hsep' : ∀ u ∈ [q.vb, q.vt, q.vk], ∀ b, v'.ownBlock = some b → u.ownBlock ≠ some b := by
  intro u hu b h1 h2
  rcases hb with hb | hb
  ·exact hsep u hu b (hb.symm.trans h1) h2
  ·rw [hb] at h1
   injection h1 with h1
   have := (hblk u (by simp only [List.mem_cons, List.not_mem_nil, or_false] at hu ⊢; rcases hu with rfl | rfl | rfl <;> simp) b h2).2
   omega
 have hnv : ∀ b, v'.ownBlock = some b → w.heap.size ≤ b ∧ b ≠ g ∧ b ≠ p := by
  intro b h1
  rcases hb with hb | hb
  ·exact hnew q.vn (by simp) b (hb.symm.trans h1)
  ·rw [hb] at h1
   injection h1 with h1
   have := h.grow.size
   omega
 refine Mk.stored (q := q) (q' := ⟨{ q.r with names := xs }, q.vb, v', q.vt, q.vk⟩) (Box.moved hx.box hg (fun hh => (hnew q.vn (by simp) g hh).2.1 rfl)) ⟨hx.own.b.keep hg (fun b h1 h2 => hsep q.vb (by simp) b h2 h1), ho, hx.own.t.keep hg (fun b h1 h2 => hsep q.vt (by simp) b h2 h1), hx.own.k.keep hg (fun b h1 h2 => hsep q.vk (by simp) b h2 h1)⟩ ?_ ?_ (Cur.kept hx.cur hg (fun hh => (hnew q.vn (by simp) p hh).2.2 rfl) he)
  (grown_own hx.grow (fun b hh => (hnew q.vn (by simp) b hh).1) hg) h.gw h.gb h.gp 5 v' (by simp [RV.cells])
 ·unfold Far RV.vals
  simp only [List.pairwise_cons, List.mem_cons, List.not_mem_nil, or_false, forall_eq_or_imp, forall_eq, false_imp_iff, implies_true, List.Pairwise.nil, and_true]
  refine ⟨⟨?_, ?_, ?_⟩, ⟨?_, ?_⟩, ?_⟩
  all_goals
   intro b h1 h2
   first
    | exact hsep' _ (by simp) b h1 h2
    | exact hsep' _ (by simp) b h2 h1
    | exact hfar.1.1 b h1 h2
    | exact hfar.1.2.1 b h1 h2
    | exact hfar.1.2.2 b h1 h2
    | exact hfar.2.1.1 b h1 h2
    | exact hfar.2.1.2 b h1 h2
    | exact hfar.2.2.1 b h1 h2
 ·intro u hu b h1
  simp only [RV.vals, List.mem_cons, List.not_mem_nil, or_false] at hu
  rcases hu with rfl | rfl | rfl | rfl
  all_goals
   first
    | exact hnv b h1
    | exact hnew _ (by simp) b h1
theorem Mk.app_t {wb w wr w2 : World} {p : Nat} {A : Option Addr} {l : List UInt8} {c g : Nat} {q : RV} (h : Mk wb w wr p A l c g q) {v' : Value} {xs : List Int} (ho : OwnL vint 3 wb w2 v' xs) (he : Ext wb w2)
 (hb : v'.ownBlock = q.vt.ownBlock ∨ v'.ownBlock = some wr.heap.size) (hg : wr.grownBy w2 q.vt.ownBlock) : Mk wb w (w2.setCell ⟨g, 6, none⟩ v') p A l c g ⟨{ q.r with tags := xs }, q.vb, q.vn, v', q.vk⟩ := by
 have hx := h
 have hglt := h.box.lt
 have hplt := h.cur.lt
 have hfar := h.far
 have hnew := h.new
 have hblk := h.own.block
 simp only [RV.vals] at hnew hblk
 unfold Far RV.vals at hfar
 simp only [List.pairwise_cons, List.mem_cons, List.not_mem_nil, or_false, forall_eq_or_imp, forall_eq] at hfar
 have hsep : ∀ u ∈ [q.vb, q.vn, q.vk], ∀ b, q.vt.ownBlock = some b → u.ownBlock ≠ some b := by
  intro u hu b h1 h2
  simp only [List.mem_cons, List.not_mem_nil, or_false] at hu
  rcases hu with rfl | rfl | rfl
  all_goals
   first
    | exact hfar.1.1 b (by assumption) (by assumption)
    | exact hfar.1.2.1 b (by assumption) (by assumption)
    | exact hfar.1.2.2 b (by assumption) (by assumption)
    | exact hfar.2.1.1 b (by assumption) (by assumption)
    | exact hfar.2.1.2 b (by assumption) (by assumption)
    | exact hfar.2.2.1 b (by assumption) (by assumption)
 have hsep' : ∀ u ∈ [q.vb, q.vn, q.vk], ∀ b, v'.ownBlock = some b → u.ownBlock ≠ some b := by
  intro u hu b h1 h2
  rcases hb with hb | hb
  ·exact hsep u hu b (hb.symm.trans h1) h2
  ·rw [hb] at h1
   injection h1 with h1
   have := (hblk u (by simp only [List.mem_cons, List.not_mem_nil, or_false] at hu ⊢; rcases hu with rfl | rfl | rfl <;> simp) b h2).2
   omega
 have hnv : ∀ b, v'.ownBlock = some b → w.heap.size ≤ b ∧ b ≠ g ∧ b ≠ p := by
  intro b h1
  rcases hb with hb | hb
  ·exact hnew q.vt (by simp) b (hb.symm.trans h1)
  ·rw [hb] at h1
   injection h1 with h1
   have := h.grow.size
   omega
 refine Mk.stored (q := q) (q' := ⟨{ q.r with tags := xs }, q.vb, q.vn, v', q.vk⟩) (Box.moved hx.box hg (fun hh => (hnew q.vt (by simp) g hh).2.1 rfl)) ⟨hx.own.b.keep hg (fun b h1 h2 => hsep q.vb (by simp) b h2 h1), hx.own.n.keep hg (fun b h1 h2 => hsep q.vn (by simp) b h2 h1), ho, hx.own.k.keep hg (fun b h1 h2 => hsep q.vk (by simp) b h2 h1)⟩ ?_ ?_ (Cur.kept hx.cur hg (fun hh => (hnew q.vt (by simp) p hh).2.2 rfl) he)
  (grown_own hx.grow (fun b hh => (hnew q.vt (by simp) b hh).1) hg) h.gw h.gb h.gp 6 v' (by simp [RV.cells])
 ·unfold Far RV.vals
  simp only [List.pairwise_cons, List.mem_cons, List.not_mem_nil, or_false, forall_eq_or_imp, forall_eq, false_imp_iff, implies_true, List.Pairwise.nil, and_true]
  refine ⟨⟨?_, ?_, ?_⟩, ⟨?_, ?_⟩, ?_⟩
  all_goals
   intro b h1 h2
   first
    | exact hsep' _ (by simp) b h1 h2
    | exact hsep' _ (by simp) b h2 h1
    | exact hfar.1.1 b h1 h2
    | exact hfar.1.2.1 b h1 h2
    | exact hfar.1.2.2 b h1 h2
    | exact hfar.2.1.1 b h1 h2
    | exact hfar.2.1.2 b h1 h2
    | exact hfar.2.2.1 b h1 h2
 ·intro u hu b h1
  simp only [RV.vals, List.mem_cons, List.not_mem_nil, or_false] at hu
  rcases hu with rfl | rfl | rfl | rfl
  all_goals
   first
    | exact hnv b h1
    | exact hnew _ (by simp) b h1
theorem Mk.app_k {wb w wr w2 : World} {p : Nat} {A : Option Addr} {l : List UInt8} {c g : Nat} {q : RV} (h : Mk wb w wr p A l c g q) {v' : Value} {xs : List Int} (ho : OwnL vint 3 wb w2 v' xs) (he : Ext wb w2)
 (hb : v'.ownBlock = q.vk.ownBlock ∨ v'.ownBlock = some wr.heap.size) (hg : wr.grownBy w2 q.vk.ownBlock) : Mk wb w (w2.setCell ⟨g, 7, none⟩ v') p A l c g ⟨{ q.r with kids := xs }, q.vb, q.vn, q.vt, v'⟩ := by
 have hx := h
 have hglt := h.box.lt
 have hplt := h.cur.lt
 have hfar := h.far
 have hnew := h.new
 have hblk := h.own.block
 simp only [RV.vals] at hnew hblk
 unfold Far RV.vals at hfar
 simp only [List.pairwise_cons, List.mem_cons, List.not_mem_nil, or_false, forall_eq_or_imp, forall_eq] at hfar
 have hsep : ∀ u ∈ [q.vb, q.vn, q.vt], ∀ b, q.vk.ownBlock = some b → u.ownBlock ≠ some b := by
  intro u hu b h1 h2
  simp only [List.mem_cons, List.not_mem_nil, or_false] at hu
  rcases hu with rfl | rfl | rfl
  all_goals
   first
    | exact hfar.1.1 b (by assumption) (by assumption)
    | exact hfar.1.2.1 b (by assumption) (by assumption)
    | exact hfar.1.2.2 b (by assumption) (by assumption)
    | exact hfar.2.1.1 b (by assumption) (by assumption)
    | exact hfar.2.1.2 b (by assumption) (by assumption)
    | exact hfar.2.2.1 b (by assumption) (by assumption)
 have hsep' : ∀ u ∈ [q.vb, q.vn, q.vt], ∀ b, v'.ownBlock = some b → u.ownBlock ≠ some b := by
  intro u hu b h1 h2
  rcases hb with hb | hb
  ·exact hsep u hu b (hb.symm.trans h1) h2
  ·rw [hb] at h1
   injection h1 with h1
   have := (hblk u (by simp only [List.mem_cons, List.not_mem_nil, or_false] at hu ⊢; rcases hu with rfl | rfl | rfl <;> simp) b h2).2
   omega
 have hnv : ∀ b, v'.ownBlock = some b → w.heap.size ≤ b ∧ b ≠ g ∧ b ≠ p := by
  intro b h1
  rcases hb with hb | hb
  ·exact hnew q.vk (by simp) b (hb.symm.trans h1)
  ·rw [hb] at h1
   injection h1 with h1
   have := h.grow.size
   omega
 refine Mk.stored (q := q) (q' := ⟨{ q.r with kids := xs }, q.vb, q.vn, q.vt, v'⟩) (Box.moved hx.box hg (fun hh => (hnew q.vk (by simp) g hh).2.1 rfl)) ⟨hx.own.b.keep hg (fun b h1 h2 => hsep q.vb (by simp) b h2 h1), hx.own.n.keep hg (fun b h1 h2 => hsep q.vn (by simp) b h2 h1), hx.own.t.keep hg (fun b h1 h2 => hsep q.vt (by simp) b h2 h1), ho⟩ ?_ ?_ (Cur.kept hx.cur hg (fun hh => (hnew q.vk (by simp) p hh).2.2 rfl) he)
  (grown_own hx.grow (fun b hh => (hnew q.vk (by simp) b hh).1) hg) h.gw h.gb h.gp 7 v' (by simp [RV.cells])
 ·unfold Far RV.vals
  simp only [List.pairwise_cons, List.mem_cons, List.not_mem_nil, or_false, forall_eq_or_imp, forall_eq, false_imp_iff, implies_true, List.Pairwise.nil, and_true]
  refine ⟨⟨?_, ?_, ?_⟩, ⟨?_, ?_⟩, ?_⟩
  all_goals
   intro b h1 h2
   first
    | exact hsep' _ (by simp) b h1 h2
    | exact hsep' _ (by simp) b h2 h1
    | exact hfar.1.1 b h1 h2
    | exact hfar.1.2.1 b h1 h2
    | exact hfar.1.2.2 b h1 h2
    | exact hfar.2.1.1 b h1 h2
    | exact hfar.2.1.2 b h1 h2
    | exact hfar.2.2.1 b h1 h2
 ·intro u hu b h1
  simp only [RV.vals, List.mem_cons, List.not_mem_nil, or_false] at hu
  rcases hu with rfl | rfl | rfl | rfl
  all_goals
   first
    | exact hnv b h1
    | exact hnew _ (by simp) b h1
theorem l4Integer_c (Ad : Option Addr) (ds : List DRule) (cd : Nat) (hD0 : 0 < ds.length) (hDn : ds.length ≤ 64) (hk : ∃ i, ∃ h : i < ds.length, ds[i].kind = 1) (wb w : World) (p : Nat) (A : Option Addr) (l : List UInt8) (c : Nat) (hA : Bs wb A l c) (hC : Cur wb w p A l c) (hD : RdD w Ad ds cd) :
 Calls Tryz.prog 44 #[.pointer (some ⟨p, 0, none⟩), vdesc (.slice Ad ds.length cd)] w fun e w' => ∃ x : Nat, ∃ hx : x < ds.length, ds[x].kind = 1 ∧ e = .returned (.int .i64 x) ∧ Cur wb w' p A l c ∧ w.grownBy w' (some p) := by
 have hplt := hC.lt
 have eb := Ext_alloc (.cells #[.slice Ad ds.length cd] 26) (Ext.refl w)
 have B0 := fun w' (e : Ext (w.alloc (.cells #[.slice Ad ds.length cd] 26)) w') => boxed e
 obtain ⟨W1, hW1⟩ : ∃ W1, W1 = w.alloc (.cells #[.slice Ad ds.length cd] 26) := ⟨_, rfl⟩
 have hs1 : W1.heap.size = w.heap.size + 1 := by rw [hW1]; simp
 have HW1 := Lib.hid hW1
 rw [← hW1] at eb B0
 clear hW1
 have ey := Ext_alloc (.cells #[] 3) (Ext.refl W1)
 have HO : Hid (OwnL vint 3 W1 (W1.alloc (.cells #[] 3)) (.slice (some ⟨w.heap.size + 1, 0, none⟩) 0 0) []) := by
  have := OwnL.empty (f := vint) (e := 3) (Ext.refl W1)
  rw [hs1] at this
  exact this
 unfold vdesc
 go_enter Tryz.func44, Tryz.ntmps44
 go_wp2_with fail
 rw [← HW1.out]
 go_wp2
 go_loopw [5, 6] (fun t i wr => ∃ (k : Nat) (L : List Int), k ≤ ds.length ∧ L.length ≤ k ∧ i = .int .i64 k ∧ Hid (∀ x ∈ L, ∃ n : Nat, ∃ h : n < ds.length, x = (n : Int) ∧ ds[n].kind = 1) ∧ Hid ((∃ i, ∃ h : i < ds.length, i < k ∧ ds[i].kind = 1) → L ≠ []) ∧ Hid (OwnL vint 3 W1 wr t L) ∧ Ext W1 wr) (fun _ i _ => ds.length - (intOf i).toNat)
 case atStart => exact ⟨0, [], by omega, by simp, rfl, (fun x hx => by simp at hx), (fun ⟨i, _, h, _⟩ => by omega), HO, ey⟩
 case round =>
  clear HO ey
  obtain ⟨k, L, hkl, hLk, rfl, hL, hne, ho, he⟩ := hrel
  replace B0 := fun w' (e : Ext wr w') => B0 w' (he.trans e)
  by_cases hlt : k < ds.length
  ·obtain ⟨b, off, Ab, cb, An, cn, At, ct, Ak, ck, rfl, hb, _, hRa⟩ := (hD.ext (eb.trans he)).at k hlt
   have HN : Hid (∀ L' : List Int, (ds[k].kind = 1 → L' ≠ []) → (L ≠ [] → L' ≠ []) → ((∃ i, ∃ h : i < ds.length, i < k + 1 ∧ ds[i].kind = 1) → L' ≠ [])) := fun L' h1 h2 ⟨i, hi, hik, h3⟩ => by
    rcases (by omega : i < k ∨ i = k) with h4 | rfl
    ·exact h2 (hne.out ⟨i, hi, h4, h3⟩)
    ·exact h1 h3
   obtain ⟨l0, l1, l2, l3, l4, l5, l6, l7⟩ := hRa
   clear hne
   have HKK : Hid (ds[k].kind = 1 → ∃ n : Nat, ∃ h : n < ds.length, (k : Int) = (n : Int) ∧ ds[n].kind = 1) := fun h => ⟨k, hlt, rfl, h⟩
   generalize ds[k] = r at *
   cases hkk : (r.kind == 1)
   ·have HNk : Hid ((∃ i, ∃ h : i < ds.length, i < k + 1 ∧ ds[i].kind = 1) → L ≠ []) := HN.out L (fun h => by rw [h] at hkk; simp at hkk) (fun h => h)
    clear HN
    go_wp2
    go_roundw
    case rel => exact ⟨k + 1, L, by omega, by omega, by go_num, hL, HNk, ho, he⟩
    case measure => simp [intOf]; omega
   ·have HNk : Hid ((∃ i, ∃ h : i < ds.length, i < k + 1 ∧ ds[i].kind = 1) → L ++ [(k : Int)] ≠ []) := HN.out _ (fun _ => by simp) (fun _ => by simp)
    have HL2 : Hid (∀ x ∈ L ++ [(k : Int)], ∃ n : Nat, ∃ h : n < ds.length, x = (n : Int) ∧ ds[n].kind = 1) := fun x hx => by
     rcases List.mem_append.1 hx with hx | hx
     ·exact hL.out x hx
     ·rw [List.mem_singleton.1 hx]; exact HKK.out (by simpa using hkk)
    have HB : Hid ((L.length + [(k : Int)].length) * 8 ≤ 140737488355328) := by show _ ≤ _; simp; omega
    clear HN
    go_wp2_with (at_builtin; refine wpList_appN rfl (.tmp 22) (.tmp 24) _ rfl E_int (by omega) W1 _ vint (fun _ => rfl) _ rfl _ _ rfl L [(k : Int)] _ rfl ho.out he rfl HB.out ?_; intro v4 w4 ho4 he4)
    have HO4 := Lib.hid ho4; clear ho4
    go_wp2
    go_roundw
    case rel => exact ⟨k + 1, L ++ [(k : Int)], by omega, by simp; omega, by go_num, HL2, HNk, HO4, he4⟩
    case measure => simp [intOf]; omega
  ·obtain rfl : k = ds.length := by omega
   have hLne : L ≠ [] := hne.out (let ⟨i, hi, h⟩ := hk; ⟨i, hi, hi, h⟩)
   have hLp : 0 < L.length := List.length_pos_iff.2 hLne
   obtain ⟨Ax, cx, hvx, rx⟩ := OwnL.rd ho.out (by omega)
   subst hvx
   have hCr := hC.ext (eb.trans he)
   have CI := Lib.hid (l1Int_c Ax L cx hLp (by omega) wb wr p A l c hA hCr (fun w' hg i hi => by
    have h1 := OwnL.moved ho.out hg (fun hh => by have := (World.ownsRow.lt ho.out _ hh).1; omega)
    obtain ⟨Ay, cy, hvy, ry⟩ := OwnL.rd h1 (by omega)
    injection hvy with q1 _ q2; subst q1; subst q2
    obtain ⟨b, off, h2, _, h3⟩ := ry.at i hi
    exact ⟨b, off, h2, h3 w' (Ext.refl _)⟩))
   have eT := eb.trans he
   clear hne hLne hC
   go_wp2_with fail
   refine CI.out.mono ?_; rintro _ w5 ⟨x, hx, rfl, hC5, hg5⟩
   obtain ⟨n, hnl, rfl, hnk⟩ := hL.out x hx
   have HNL := Lib.hid hnk; clear hnk
   go_wp2
   go_ret
   first
    | exact ⟨n, hnl, HNL.out, rfl, hC5, (grown_ext eT _).trans hg5⟩
    | exact ⟨hnl, HNL.out, hC5, (grown_ext eT _).trans hg5⟩
theorem cells8 {W : World} {g : Nat} {q : RV} (h : Box W g q.cells.toArray 51) :
 (W.cell? ⟨g, 0, none⟩ = some (.string q.r.nm) ∧ W.cell? ⟨g, 1, none⟩ = some (.int .i64 q.r.kind) ∧ W.cell? ⟨g, 2, none⟩ = some (.int .i64 q.r.size) ∧ W.cell? ⟨g, 3, none⟩ = some (.bool q.r.little)) ∧
 W.cell? ⟨g, 4, none⟩ = some q.vb ∧ W.cell? ⟨g, 5, none⟩ = some q.vn ∧ W.cell? ⟨g, 6, none⟩ = some q.vt ∧ W.cell? ⟨g, 7, none⟩ = some q.vk :=
 ⟨⟨h.cell 0, h.cell 1, h.cell 2, h.cell 3⟩, h.cell 4, h.cell 5, h.cell 6, h.cell 7⟩
theorem frees8 {W : World} {g : Nat} {cs : Array Value} {T : TypeId} (h : Box W g cs T) : (W.frozen? ⟨g, 0, none⟩ = false ∧ W.frozen? ⟨g, 1, none⟩ = false ∧ W.frozen? ⟨g, 2, none⟩ = false ∧ W.frozen? ⟨g, 3, none⟩ = false) ∧ W.frozen? ⟨g, 4, none⟩ = false ∧ W.frozen? ⟨g, 5, none⟩ = false ∧ W.frozen? ⟨g, 6, none⟩ = false ∧ W.frozen? ⟨g, 7, none⟩ = false :=
 ⟨⟨h.free 0, h.free 1, h.free 2, h.free 3⟩, h.free 4, h.free 5, h.free 6, h.free 7⟩
theorem Mk.fresh_b {wb w w2 : World} {p : Nat} {A : Option Addr} {l : List UInt8} {c g : Nat} {q : RV} (h : Mk wb w w2 p A l c g q) {v' : Value} {xs : List UInt8} (ho : OwnL vu8 5 wb w2 v' xs) {n0 : Nat}
 (hv : ∀ b, v'.ownBlock = some b → n0 ≤ b) (hold : ∀ u ∈ q.vals, ∀ b, u.ownBlock = some b → b < n0) (hg : g < n0) (hp : p < n0) (hw : w.heap.size ≤ n0) : Mk wb w (w2.setCell ⟨g, 4, none⟩ v') p A l c g ⟨{ q.r with bytes := xs }, v', q.vn, q.vt, q.vk⟩ := by
 have hfar := h.far
 have hnew := h.new
 simp only [RV.vals] at hnew hold
 unfold Far RV.vals at hfar
 simp only [List.pairwise_cons, List.mem_cons, List.not_mem_nil, or_false, forall_eq_or_imp, forall_eq] at hfar
 have hsep' : ∀ u ∈ [q.vn, q.vt, q.vk], ∀ b, v'.ownBlock = some b → u.ownBlock ≠ some b := by
  intro u hu b h1 h2
  have := hv b h1
  have := hold u (by simp only [List.mem_cons, List.not_mem_nil, or_false] at hu ⊢; rcases hu with rfl | rfl | rfl <;> simp) b h2
  omega
 refine Mk.stored (q := q) (q' := ⟨{ q.r with bytes := xs }, v', q.vn, q.vt, q.vk⟩) h.box ⟨ho, h.own.n, h.own.t, h.own.k⟩ ?_ ?_ h.cur h.grow h.gw h.gb h.gp 4 v' (by simp [RV.cells])
 ·unfold Far RV.vals
  simp only [List.pairwise_cons, List.mem_cons, List.not_mem_nil, or_false, forall_eq_or_imp, forall_eq, false_imp_iff, implies_true, List.Pairwise.nil, and_true]
  refine ⟨⟨?_, ?_, ?_⟩, ⟨?_, ?_⟩, ?_⟩
  all_goals
   intro b h1 h2
   first
    | exact hsep' _ (by simp) b h1 h2
    | exact hsep' _ (by simp) b h2 h1
    | exact hfar.1.1 b h1 h2
    | exact hfar.1.2.1 b h1 h2
    | exact hfar.1.2.2 b h1 h2
    | exact hfar.2.1.1 b h1 h2
    | exact hfar.2.1.2 b h1 h2
    | exact hfar.2.2.1 b h1 h2
 ·intro u hu b h1
  simp only [RV.vals, List.mem_cons, List.not_mem_nil, or_false] at hu
  rcases hu with rfl | rfl | rfl | rfl
  all_goals
   first
    | (have h2 := hv b h1; exact ⟨by omega, by omega, by omega⟩)
    | exact hnew _ (by simp) b h1
theorem Mk.fresh_k {wb w w2 : World} {p : Nat} {A : Option Addr} {l : List UInt8} {c g : Nat} {q : RV} (h : Mk wb w w2 p A l c g q) {v' : Value} {xs : List Int} (ho : OwnL vint 3 wb w2 v' xs) {n0 : Nat}
 (hv : ∀ b, v'.ownBlock = some b → n0 ≤ b) (hold : ∀ u ∈ q.vals, ∀ b, u.ownBlock = some b → b < n0) (hg : g < n0) (hp : p < n0) (hw : w.heap.size ≤ n0) : Mk wb w (w2.setCell ⟨g, 7, none⟩ v') p A l c g ⟨{ q.r with kids := xs }, q.vb, q.vn, q.vt, v'⟩ := by
 have hfar := h.far
 have hnew := h.new
 simp only [RV.vals] at hnew hold
 unfold Far RV.vals at hfar
 simp only [List.pairwise_cons, List.mem_cons, List.not_mem_nil, or_false, forall_eq_or_imp, forall_eq] at hfar
 have hsep' : ∀ u ∈ [q.vb, q.vn, q.vt], ∀ b, v'.ownBlock = some b → u.ownBlock ≠ some b := by
  intro u hu b h1 h2
  have := hv b h1
  have := hold u (by simp only [List.mem_cons, List.not_mem_nil, or_false] at hu ⊢; rcases hu with rfl | rfl | rfl <;> simp) b h2
  omega
 refine Mk.stored (q := q) (q' := ⟨{ q.r with kids := xs }, q.vb, q.vn, q.vt, v'⟩) h.box ⟨h.own.b, h.own.n, h.own.t, ho⟩ ?_ ?_ h.cur h.grow h.gw h.gb h.gp 7 v' (by simp [RV.cells])
 ·unfold Far RV.vals
  simp only [List.pairwise_cons, List.mem_cons, List.not_mem_nil, or_false, forall_eq_or_imp, forall_eq, false_imp_iff, implies_true, List.Pairwise.nil, and_true]
  refine ⟨⟨?_, ?_, ?_⟩, ⟨?_, ?_⟩, ?_⟩
  all_goals
   intro b h1 h2
   first
    | exact hsep' _ (by simp) b h1 h2
    | exact hsep' _ (by simp) b h2 h1
    | exact hfar.1.1 b h1 h2
    | exact hfar.1.2.1 b h1 h2
    | exact hfar.1.2.2 b h1 h2
    | exact hfar.2.1.1 b h1 h2
    | exact hfar.2.1.2 b h1 h2
    | exact hfar.2.2.1 b h1 h2
 ·intro u hu b h1
  simp only [RV.vals, List.mem_cons, List.not_mem_nil, or_false] at hu
  rcases hu with rfl | rfl | rfl | rfl
  all_goals
   first
    | (have h2 := hv b h1; exact ⟨by omega, by omega, by omega⟩)
    | exact hnew _ (by simp) b h1
theorem Mk.step {wb w W : World} {p : Nat} {A : Option Addr} {l : List UInt8} {c : Nat} {q : RV} {R : Nat} (h : RuleOwn wb W q ∧ Cur wb W p A l c ∧ w.grownBy W (some p)) (hRw : w.heap.size ≤ R) (hRb : wb.heap.size ≤ R) (hRp : R ≠ p) (hRn : ∀ u ∈ q.vals, ∀ b, u.ownBlock = some b → b ≠ R) (i : Nat) (u : Value) :
 RuleOwn wb (W.setCell ⟨R, i, none⟩ u) q ∧ Cur wb (W.setCell ⟨R, i, none⟩ u) p A l c ∧ w.grownBy (W.setCell ⟨R, i, none⟩ u) (some p) :=
 ⟨h.1.keep (grown_set W ⟨R, i, none⟩ u) (fun v hv b hb he => by injection he with he; exact hRn v hv b hb he.symm), h.2.1.set (a := ⟨R, i, none⟩) hRp hRb u, grown_new (a := ⟨R, i, none⟩) h.2.2 hRw u⟩
theorem Mk.out {wb w W : World} {p : Nat} {A : Option Addr} {l : List UInt8} {c g : Nat} {q : RV} (h : Mk wb w W p A l c g q) {R : Nat} {x0 x1 x2 x3 x4 x5 x6 x7 : Value} {T : TypeId} (hR : Box W R #[x0, x1, x2, x3, x4, x5, x6, x7] T) (hRw : w.heap.size ≤ R) (hRb : wb.heap.size ≤ R) (hRp : R ≠ p) (hRn : ∀ u ∈ q.vals, ∀ b, u.ownBlock = some b → b ≠ R) :
 Box ((((((((W.setCell ⟨R, 0, none⟩ (.string q.r.nm)).setCell ⟨R, 1, none⟩ (.int .i64 q.r.kind)).setCell ⟨R, 2, none⟩ (.int .i64 q.r.size)).setCell ⟨R, 3, none⟩ (.bool q.r.little)).setCell ⟨R, 4, none⟩ q.vb).setCell ⟨R, 5, none⟩ q.vn).setCell ⟨R, 6, none⟩ q.vt).setCell ⟨R, 7, none⟩ q.vk) R #[.string q.r.nm, .int .i64 q.r.kind, .int .i64 q.r.size, .bool q.r.little, q.vb, q.vn, q.vt, q.vk] T ∧
 RuleOwn wb ((((((((W.setCell ⟨R, 0, none⟩ (.string q.r.nm)).setCell ⟨R, 1, none⟩ (.int .i64 q.r.kind)).setCell ⟨R, 2, none⟩ (.int .i64 q.r.size)).setCell ⟨R, 3, none⟩ (.bool q.r.little)).setCell ⟨R, 4, none⟩ q.vb).setCell ⟨R, 5, none⟩ q.vn).setCell ⟨R, 6, none⟩ q.vt).setCell ⟨R, 7, none⟩ q.vk) q ∧
 Cur wb ((((((((W.setCell ⟨R, 0, none⟩ (.string q.r.nm)).setCell ⟨R, 1, none⟩ (.int .i64 q.r.kind)).setCell ⟨R, 2, none⟩ (.int .i64 q.r.size)).setCell ⟨R, 3, none⟩ (.bool q.r.little)).setCell ⟨R, 4, none⟩ q.vb).setCell ⟨R, 5, none⟩ q.vn).setCell ⟨R, 6, none⟩ q.vt).setCell ⟨R, 7, none⟩ q.vk) p A l c ∧
 w.grownBy ((((((((W.setCell ⟨R, 0, none⟩ (.string q.r.nm)).setCell ⟨R, 1, none⟩ (.int .i64 q.r.kind)).setCell ⟨R, 2, none⟩ (.int .i64 q.r.size)).setCell ⟨R, 3, none⟩ (.bool q.r.little)).setCell ⟨R, 4, none⟩ q.vb).setCell ⟨R, 5, none⟩ q.vn).setCell ⟨R, 6, none⟩ q.vt).setCell ⟨R, 7, none⟩ q.vk) (some p) := by
 refine ⟨?_, ?_⟩
 ·have := (((((((hR.set 0 (.string q.r.nm)).set 1 (.int .i64 q.r.kind)).set 2 (.int .i64 q.r.size)).set 3 (.bool q.r.little)).set 4 q.vb).set 5 q.vn).set 6 q.vt).set 7 q.vk
  simpa using this
 ·exact Mk.step (Mk.step (Mk.step (Mk.step (Mk.step (Mk.step (Mk.step (Mk.step ⟨h.own, h.cur, h.grow⟩ hRw hRb hRp hRn 0 _) hRw hRb hRp hRn 1 _) hRw hRb hRp hRn 2 _) hRw hRb hRp hRn 3 _) hRw hRb hRp hRn 4 _) hRw hRb hRp hRn 5 _) hRw hRb hRp hRn 6 _) hRw hRb hRp hRn 7 _
structure SmallR (r : DRule) : Prop where
 nm : r.nm.size ≤ 40
 lens : r.bytes.length ≤ 8 ∧ r.names.length ≤ 8 ∧ r.tags.length ≤ 8 ∧ r.kids.length ≤ 8
 nms : ∀ t ∈ r.names, t.size ≤ 40
 ints : (-100000 ≤ r.size ∧ r.size ≤ 100000) ∧ (∀ x ∈ r.tags, -100000 ≤ x ∧ x ≤ 100) ∧ ∀ x ∈ r.kids, -100000 ≤ x ∧ x ≤ 100000
abbrev rule0 : Array Value := #[.string ⟨#[]⟩, .int .i64 0, .int .i64 0, .bool false, .slice none 0 0, .slice none 0 0, .slice none 0 0, .slice none 0 0]
structure MS (wb w wr : World) (p : Nat) (A : Option Addr) (l : List UInt8) (c g : Nat) (q : RV) (R : Nat) : Prop where
 M : Mk wb w wr p A l c g q
 res : Box wr R rule0 51
 nR : ∀ u ∈ q.vals, ∀ b, u.ownBlock = some b → b ≠ R
 gR : g ≠ R
 pR : p ≠ R
theorem MS.moved {wb w wr w' : World} {p : Nat} {A : Option Addr} {l : List UInt8} {c g : Nat} {q : RV} {R : Nat} (h : MS wb w wr p A l c g q R) (hC : Cur wb w' p A l c) (hg : wr.grownBy w' (some p)) : MS wb w w' p A l c g q R :=
 ⟨h.M.moved hC hg, h.res.moved hg (some_ne h.pR), h.nR, h.gR, h.pR⟩
theorem MS.ext {wb w wr w' : World} {p : Nat} {A : Option Addr} {l : List UInt8} {c g : Nat} {q : RV} {R : Nat} (h : MS wb w wr p A l c g q R) (e : Ext wr w') : MS wb w w' p A l c g q R :=
 h.moved (h.M.cur.ext e) (grown_ext e _)
theorem MS.app_n {wb w wr w2 : World} {p : Nat} {A : Option Addr} {l : List UInt8} {c g : Nat} {q : RV} {R : Nat} (h : MS wb w wr p A l c g q R) {v' : Value} {xs : List ByteArray} (ho : OwnL vstr 9 wb w2 v' xs) (he : Ext wb w2)
 (hb : v'.ownBlock = q.vn.ownBlock ∨ v'.ownBlock = some wr.heap.size) (hg : wr.grownBy w2 q.vn.ownBlock) : (w2.cell? ⟨g, 5, none⟩ = some q.vn ∧ w2.frozen? ⟨g, 5, none⟩ = false) ∧ MS wb w (w2.setCell ⟨g, 5, none⟩ v') p A l c g ⟨{ q.r with names := xs }, q.vb, v', q.vt, q.vk⟩ R := by
 have hB : Box w2 g q.cells.toArray 51 := Box.moved h.M.box hg (fun hh => (h.M.new q.vn (by simp [RV.vals]) g hh).2.1 rfl)
 have hR : Box w2 R rule0 51 := Box.moved h.res hg (fun hh => h.nR q.vn (by simp [RV.vals]) R hh rfl)
 refine ⟨⟨hB.cell 5, hB.free 5⟩, h.M.app_n ho he hb hg, hR.other (fun hh => h.gR hh.symm) _ _, ?_, h.gR, h.pR⟩
 intro u hu b h1
 have hlt := h.res.lt
 simp only [RV.vals, List.mem_cons, List.not_mem_nil, or_false] at hu
 rcases hu with rfl | rfl | rfl | rfl
 all_goals
  first
   | (rcases hb with hb | hb
      ·exact h.nR q.vn (by simp [RV.vals]) b (hb.symm.trans h1)
      ·rw [hb] at h1; injection h1 with h1; omega)
   | exact h.nR _ (by simp [RV.vals]) b h1
theorem MS.app_t {wb w wr w2 : World} {p : Nat} {A : Option Addr} {l : List UInt8} {c g : Nat} {q : RV} {R : Nat} (h : MS wb w wr p A l c g q R) {v' : Value} {xs : List Int} (ho : OwnL vint 3 wb w2 v' xs) (he : Ext wb w2)
 (hb : v'.ownBlock = q.vt.ownBlock ∨ v'.ownBlock = some wr.heap.size) (hg : wr.grownBy w2 q.vt.ownBlock) : (w2.cell? ⟨g, 6, none⟩ = some q.vt ∧ w2.frozen? ⟨g, 6, none⟩ = false) ∧ MS wb w (w2.setCell ⟨g, 6, none⟩ v') p A l c g ⟨{ q.r with tags := xs }, q.vb, q.vn, v', q.vk⟩ R := by
 have hB : Box w2 g q.cells.toArray 51 := Box.moved h.M.box hg (fun hh => (h.M.new q.vt (by simp [RV.vals]) g hh).2.1 rfl)
 have hR : Box w2 R rule0 51 := Box.moved h.res hg (fun hh => h.nR q.vt (by simp [RV.vals]) R hh rfl)
 refine ⟨⟨hB.cell 6, hB.free 6⟩, h.M.app_t ho he hb hg, hR.other (fun hh => h.gR hh.symm) _ _, ?_, h.gR, h.pR⟩
 intro u hu b h1
 have hlt := h.res.lt
 simp only [RV.vals, List.mem_cons, List.not_mem_nil, or_false] at hu
 rcases hu with rfl | rfl | rfl | rfl
 all_goals
  first
   | (rcases hb with hb | hb
      ·exact h.nR q.vt (by simp [RV.vals]) b (hb.symm.trans h1)
      ·rw [hb] at h1; injection h1 with h1; omega)
   | exact h.nR _ (by simp [RV.vals]) b h1
theorem MS.app_k {wb w wr w2 : World} {p : Nat} {A : Option Addr} {l : List UInt8} {c g : Nat} {q : RV} {R : Nat} (h : MS wb w wr p A l c g q R) {v' : Value} {xs : List Int} (ho : OwnL vint 3 wb w2 v' xs) (he : Ext wb w2)
 (hb : v'.ownBlock = q.vk.ownBlock ∨ v'.ownBlock = some wr.heap.size) (hg : wr.grownBy w2 q.vk.ownBlock) : (w2.cell? ⟨g, 7, none⟩ = some q.vk ∧ w2.frozen? ⟨g, 7, none⟩ = false) ∧ MS wb w (w2.setCell ⟨g, 7, none⟩ v') p A l c g ⟨{ q.r with kids := xs }, q.vb, q.vn, q.vt, v'⟩ R := by
 have hB : Box w2 g q.cells.toArray 51 := Box.moved h.M.box hg (fun hh => (h.M.new q.vk (by simp [RV.vals]) g hh).2.1 rfl)
 have hR : Box w2 R rule0 51 := Box.moved h.res hg (fun hh => h.nR q.vk (by simp [RV.vals]) R hh rfl)
 refine ⟨⟨hB.cell 7, hB.free 7⟩, h.M.app_k ho he hb hg, hR.other (fun hh => h.gR hh.symm) _ _, ?_, h.gR, h.pR⟩
 intro u hu b h1
 have hlt := h.res.lt
 simp only [RV.vals, List.mem_cons, List.not_mem_nil, or_false] at hu
 rcases hu with rfl | rfl | rfl | rfl
 all_goals
  first
   | (rcases hb with hb | hb
      ·exact h.nR q.vk (by simp [RV.vals]) b (hb.symm.trans h1)
      ·rw [hb] at h1; injection h1 with h1; omega)
   | exact h.nR _ (by simp [RV.vals]) b h1
def dig8 (k : Nat) : UInt8 := UInt8.ofNat (48 + k % 10)
def mtF : Nat → Nat → ByteArray → ByteArray
 | 0, _, s => s
 | f + 1, k, s => if k = 0 then s else mtF f (k / 10) (⟨#[dig8 k]⟩ ++ s)
theorem mtF_fuel : ∀ f g k s, k ≤ f → k ≤ g → mtF f k s = mtF g k s := by
 intro f
 induction f with
 | zero =>
  intro g k s h _
  obtain rfl : k = 0 := by omega
  cases g with
  | zero => rfl
  | succ g => rw [mtF, mtF, if_pos rfl]
 | succ f ih =>
  intro g k s h1 h2
  cases g with
  | zero =>
   obtain rfl : k = 0 := by omega
   rw [mtF, mtF, if_pos rfl]
  | succ g =>
   rw [mtF, mtF]
   by_cases hk : k = 0
   ·rw [if_pos hk, if_pos hk]
   ·rw [if_neg hk, if_neg hk, ih g (k / 10) _ (by omega) (by omega)]
def mt (k : Nat) (s : ByteArray) : ByteArray := mtF k k s
theorem mt_zero (s : ByteArray) : mt 0 s = s := rfl
theorem mt_step {k : Nat} (h : 0 < k) (s : ByteArray) : mt k s = mt (k / 10) (⟨#[dig8 k]⟩ ++ s) := by
 unfold mt
 obtain ⟨f, rfl⟩ : ∃ f, k = f + 1 := ⟨k - 1, by omega⟩
 rw [mtF, if_neg (by omega)]
 exact mtF_fuel _ _ _ _ (by omega) (by omega)
def markT (k : Nat) : ByteArray := ⟨#[109]⟩ ++ mt k ⟨#[]⟩
theorem run_one_byte (w : World) (n : Nat) :
 (convert 22 9 (.slice (some ⟨w.heap.size, 0, none⟩) 1 1)).run Tryz.prog (w.alloc (.cells #[.int .u8 (n : Int)] 5)) = .ok (.string ⟨#[UInt8.ofNat n]⟩) (w.alloc (.cells #[.int .u8 (n : Int)] 5)) := by
 have h1 := run_convert_bytes_arg (P := Tryz.prog) (w.alloc (.cells #[.int .u8 (n : Int)] 5)) 22 5 Tryz.underlying22 Tryz.underlying5 w.heap.size 0 1 1 [(n : Int)] rfl (fun i hi => by
  obtain rfl : i = 0 := by omega
  simp) 9 Tryz.underlying9
 rw [h1]
 rfl
def itoaB (n : Int) : ByteArray := ⟨(Lib.itoa n).toArray⟩
theorem nDigits_le {u : Nat} {k : Nat} (hk : 1 ≤ k) (h : u < 10 ^ k) : Lib.nDigits u ≤ k := by
 rcases Nat.lt_or_ge u 10 with hu | hu
 ·rw [Lib.nDigits_small hu]; exact hk
 ·obtain ⟨j, hj⟩ : ∃ j, Lib.nDigits u = j + 1 := ⟨Lib.nDigits u - 1, by have := Lib.nDigits_pos u; omega⟩
  rw [hj]
  refine Nat.le_of_not_lt fun hlt => ?_
  have h1 : 10 ^ j ≤ u := by
   have := Lib.lt_pow_nDigits (u / 10)
   rw [Lib.nDigits_big (by omega)] at hj
   have hj' : Lib.nDigits (u / 10) = j := by omega
   clear this hlt h hk
   have hmin : ∀ (m v : Nat), Lib.nDigits v = m → 1 ≤ v → 10 ^ (m - 1) ≤ v := by
    intro m
    induction m with
    | zero => intro v hv h1; have := Lib.nDigits_pos v; omega
    | succ m ih =>
     intro v hv h1
     rcases Nat.lt_or_ge v 10 with hv10 | hv10
     ·rw [Lib.nDigits_small hv10] at hv; obtain rfl : m = 0 := by omega
      simpa using h1
     ·rw [Lib.nDigits_big (by omega)] at hv
      have h2 := ih (v / 10) (by omega) (by omega)
      obtain ⟨m', rfl⟩ : ∃ m', m = m' + 1 := ⟨m - 1, by have := Lib.nDigits_pos (v/10); omega⟩
      simp only [Nat.add_sub_cancel] at h2 ⊢
      rw [Nat.pow_succ]; omega
   have := hmin (j + 1) u (by rw [Lib.nDigits_big (by omega)]; omega) (by omega)
   simpa using this
  have : 10 ^ k ≤ 10 ^ j := Nat.pow_le_pow_right (by omega) (by omega)
  omega
theorem itoa_size (n : Int) (h0 : -9223372036854775808 ≤ n) (h1 : n ≤ 9223372036854775807) : (itoaB n).size ≤ 20 := by
 show (Lib.itoa n).toArray.size ≤ 20
 rw [List.size_toArray]
 unfold Lib.itoa
 split
 ·simp only [List.length_cons, Lib.decDigits_length]
  have := nDigits_le (u := n.natAbs) (k := 19) (by omega) (by omega)
  omega
 ·rw [Lib.decDigits_length]
  have := nDigits_le (u := n.toNat) (k := 19) (by omega) (by omega)
  omega
theorem mt_dec {n : Nat} (h : 0 < n) (s : ByteArray) : mt n s = ⟨(Lib.decDigits n).toArray⟩ ++ s := by
 induction n using Nat.strongRecOn generalizing s with
 | _ n ih =>
  rw [mt_step h]
  by_cases h10 : n < 10
  ·rw [show n / 10 = 0 by omega, mt_zero, Lib.decDigits_one h10]
   show _ = (⟨#[UInt8.ofNat (48 + n)]⟩ : ByteArray) ++ s
   rw [dig8, Nat.mod_eq_of_lt h10]
  ·rw [ih (n / 10) (by omega) (by omega)]
   conv => rhs; rw [Lib.decDigits, dif_neg h10]
   apply ByteArray.ext
   simp [ByteArray.data_append, dig8]
theorem itoaB_pos {n : Nat} (h : 0 < n) : itoaB n = mt n ⟨#[]⟩ := by
 rw [mt_dec h]; unfold itoaB Lib.itoa
 rw [if_neg (by omega)]
 apply ByteArray.ext
 simp [ByteArray.data_append]
theorem itoaB_neg {n : Nat} (h : 0 < n) : itoaB (-(n : Int)) = ⟨#[45]⟩ ++ mt n ⟨#[]⟩ := by
 rw [mt_dec h]; unfold itoaB Lib.itoa
 rw [if_pos (by omega)]
 apply ByteArray.ext
 simp [ByteArray.data_append]
theorem itoaB_zero : itoaB 0 = ⟨#[48]⟩ := by
 unfold itoaB Lib.itoa
 rw [if_neg (by omega), show (0 : Int).toNat = 0 from rfl, Lib.decDigits_one (by omega)]; rfl
theorem sFormatInt_pos (k : Nat) (w : World) (hk : 0 < k) (hk2 : k ≤ 9223372036854775807) :
 Gives Tryz.prog 42 #[.int .i64 k] w (.string (mt k ⟨#[]⟩)) := by
 have dk : decide ((k : Int) < 0) = false := decide_eq_false (by omega)
 go_enter Tryz.func42, Tryz.ntmps42
 go_wp2
 go_loopw [4, 3] (fun kk t wr => ∃ (n : Nat) (s : ByteArray), s.size + n ≤ k ∧ kk = .int .i64 n ∧ t = .string s ∧ Hid (mt n s = mt k ⟨#[]⟩) ∧ Ext w wr) (fun kk _ _ => (intOf kk).toNat)
 case atStart => exact ⟨k, ⟨#[]⟩, Nat.le_of_eq (Nat.zero_add k), rfl, rfl, rfl, Ext.refl _⟩
 case round =>
  obtain ⟨n, s, hn, rfl, rfl, hs, he⟩ := hrel
  by_cases h0 : 0 < n
  ·have hst := Lib.hid ((mt_step h0 s).symm.trans hs.out)
   have hcv : ∀ w' : World, (convert 22 9 (.slice (some ⟨w'.heap.size, 0, none⟩) 1 1)).run Tryz.prog (w'.alloc (.cells #[.int .u8 (48 + (n : Int) % 10)] 5)) = .ok (.string ⟨#[dig8 n]⟩) (w'.alloc (.cells #[.int .u8 (48 + (n : Int) % 10)] 5)) := by
    intro w'
    have := run_one_byte w' (48 + n % 10)
    rw [show ((48 + n % 10 : Nat) : Int) = 48 + (n : Int) % 10 by omega] at this
    exact this
   have hcvr := hcv wr
   clear hcv
   go_wp2
   go_roundw
   case rel => exact ⟨n / 10, _, by rw [ByteArray.size_append]; show 1 + s.size + n / 10 ≤ k; omega, by go_num, rfl, hst, Ext_alloc _ he⟩
   case measure => simp [intOf]; omega
  ·obtain rfl : n = 0 := by omega
   have hs2 := Lib.hid ((mt_zero s).symm.trans hs.out)
   clear hs
   go_wp2
   go_ret
   exact ⟨by rw [hs2.out]; rfl, he⟩
theorem sFormatInt_neg (k : Nat) (w : World) (hk : 0 < k) (hk2 : k ≤ 9223372036854775808) :
 Gives Tryz.prog 42 #[.int .i64 (-(k : Int))] w (.string (⟨#[45]⟩ ++ mt k ⟨#[]⟩)) := by
 have dk : decide (-(k : Int) < 0) = true := decide_eq_true (by omega)
 go_enter Tryz.func42, Tryz.ntmps42
 go_wp2
 go_loopw [4, 3] (fun kk t wr => ∃ (n : Nat) (s : ByteArray), 2 * s.size + n ≤ k + 1 ∧ (0 < n → 2 * s.size + n ≤ k) ∧ kk = .int .i64 (-(n : Int)) ∧ t = .string s ∧ Hid (mt n s = mt k ⟨#[]⟩) ∧ Ext w wr) (fun kk _ _ => (-(intOf kk)).toNat)
 case atStart => exact ⟨k, ⟨#[]⟩, by show 2 * 0 + k ≤ k + 1; omega, fun _ => Nat.le_of_eq (Nat.zero_add k), rfl, rfl, rfl, Ext.refl _⟩
 case round =>
  obtain ⟨n, s, hn, hn2, rfl, rfl, hs, he⟩ := hrel
  by_cases h0 : 0 < n
  ·have hn3 := hn2 h0
   have hst := Lib.hid ((mt_step h0 s).symm.trans hs.out)
   have hcv : ∀ w' : World, (convert 22 9 (.slice (some ⟨w'.heap.size, 0, none⟩) 1 1)).run Tryz.prog (w'.alloc (.cells #[.int .u8 (48 + (n : Int) % 10)] 5)) = .ok (.string ⟨#[dig8 n]⟩) (w'.alloc (.cells #[.int .u8 (48 + (n : Int) % 10)] 5)) := by
    intro w'
    have := run_one_byte w' (48 + n % 10)
    rw [show ((48 + n % 10 : Nat) : Int) = 48 + (n : Int) % 10 by omega] at this
    exact this
   have hcvr := hcv wr
   have hmod : (-(n : Int)).tmod 10 = -((n : Int) % 10) := by rw [Int.neg_tmod, Int.tmod_eq_emod_of_nonneg (by omega)]
   have hdiv : (-(n : Int)).tdiv 10 = -((n : Int) / 10) := by rw [Int.neg_tdiv, Int.tdiv_eq_ediv_of_nonneg (by omega)]
   clear hcv
   by_cases hm : (n : Int) % 10 = 0
   ·rw [hm, Int.add_zero] at hcvr
    go_wp2
    go_roundw
    case rel => exact ⟨n / 10, _, by rw [ByteArray.size_append]; show 2 * (1 + s.size) + n / 10 ≤ k + 1; omega, fun h => by rw [ByteArray.size_append]; show 2 * (1 + s.size) + n / 10 ≤ k; omega, by go_num, rfl, hst, Ext_alloc _ he⟩
    case measure => simp [intOf]; omega
   ·go_wp2
    go_roundw
    case rel => exact ⟨n / 10, _, by rw [ByteArray.size_append]; show 2 * (1 + s.size) + n / 10 ≤ k + 1; omega, fun h => by rw [ByteArray.size_append]; show 2 * (1 + s.size) + n / 10 ≤ k; omega, by go_num, rfl, hst, Ext_alloc _ he⟩
    case measure => simp [intOf]; omega
  ·obtain rfl : n = 0 := by omega
   have hsz : s.size ≤ 4611686018427387904 := by omega
   have z0 : (-((0 : Nat) : Int) != 0) = false := by simp
   have hs2 := Lib.hid ((mt_zero s).symm.trans hs.out)
   clear hs
   go_wp2
   all_goals go_ret
   all_goals exact ⟨by rw [hs2.out]; rfl, he⟩
theorem sFormatInt_c (n : Int) (w : World) (h0 : -9223372036854775808 ≤ n) (h1 : n ≤ 9223372036854775807) :
 Gives Tryz.prog 42 #[.int .i64 n] w (.string (itoaB n)) := by
 rcases Int.lt_trichotomy n 0 with h | rfl | h
 ·obtain ⟨k, rfl⟩ : ∃ k : Nat, n = -(k : Int) := ⟨n.natAbs, by omega⟩
  rw [itoaB_neg (by omega)]
  exact sFormatInt_neg k w (by omega) (by omega)
 ·rw [itoaB_zero]
  go_enter Tryz.func42, Tryz.ntmps42
  go_wp2
  go_ret
  exact ⟨rfl, Ext.refl _⟩
 ·obtain ⟨k, rfl⟩ : ∃ k : Nat, n = (k : Int) := ⟨n.toNat, by omega⟩
  rw [itoaB_pos (by omega)]
  exact sFormatInt_pos k w (by omega) (by omega)
end Go.Proofs.YtpmcofmdjckijaaGreatDoor
namespace Go.Proofs.YtpmcofmdjckijaaGreatDoor
def allN (n : Nat) (f : Nat → Bool) : Bool := (List.range n).all f
theorem allN_no {n k : Nat} {f : Nat → Bool} (hk : k < n) (h : f k = false) : allN n f = false := by
 unfold allN
 rw [Bool.eq_false_iff]
 intro hall
 have := List.all_eq_true.1 hall k (by simpa using hk)
 rw [h] at this; cases this
theorem allN_yes {n : Nat} {f : Nat → Bool} (h : ∀ j, j < n → f j = true) : allN n f = true := List.all_eq_true.2 fun j hj => h j (by simpa using hj)
theorem upTo {k : Nat} {f : Nat → Bool} (h : ∀ j, j < k → f j = true) (hk : f k = true) : ∀ j, j < k + 1 → f j = true := by
 intro j hj
 rcases (by omega : j < k ∨ j = k) with hj | rfl
 ·exact h j hj
 ·exact hk
def hasNm (l : List ByteArray) (s : ByteArray) : Bool := l.any fun x => x.toList == s.toList
theorem hasNm_at {l : List ByteArray} {s : ByteArray} {k : Nat} (hk : k < l.length) (h : (l[k].toList == s.toList) = true) : hasNm l s = true := List.any_eq_true.2 ⟨l[k], List.getElem_mem hk, h⟩
theorem hasNm_none {l : List ByteArray} {s : ByteArray} (h : ∀ k (hk : k < l.length), (l[k].toList == s.toList) = false) : hasNm l s = false := by
 unfold hasNm
 rw [List.any_eq_false]
 intro x hx
 obtain ⟨k, hk, rfl⟩ := List.getElem_of_mem hx
 rw [h k hk]; simp
def limR (r : DRule) : Int := if r.kind = 1 ∧ 1 ≤ r.size ∧ r.size ≤ 4 then 256 ^ r.size.toNat - 1 else -1
def limD (ds : List DRule) (i : Int) : Int := if 0 ≤ i then (match ds[i.toNat]? with | some r => limR r | none => -1) else -1
theorem limR_cases (r : DRule) : limR r = -1 ∨ limR r = 255 ∨ limR r = 65535 ∨ limR r = 16777215 ∨ limR r = 4294967295 := by
 unfold limR
 split
 ·rename_i h
  rcases (by omega : r.size = 1 ∨ r.size = 2 ∨ r.size = 3 ∨ r.size = 4) with e | e | e | e <;> rw [e] <;> simp
 ·exact .inl rfl
theorem limD_cases (ds : List DRule) (i : Int) : limD ds i = -1 ∨ limD ds i = 255 ∨ limD ds i = 65535 ∨ limD ds i = 16777215 ∨ limD ds i = 4294967295 := by
 unfold limD
 split
 ·split
  ·exact limR_cases _
  ·exact .inl rfl
 ·exact .inl rfl
def plainB (r : DRule) (size bytes names tags : Bool) (kids : Int) : Bool :=
 (size || r.size == 0) && (bytes || r.bytes.length == 0) && (names || r.names.length == 0) && (tags || r.tags.length == 0) && (decide (kids < 0) || decide ((r.kids.length : Int) = kids))
def between (n lo hi : Int) : Bool := decide (lo ≤ n) && decide (n ≤ hi)
def nameOk (l : List ByteArray) (i : Nat) : Bool := match l[i]? with | some s => isName s && !hasNm (l.take i) s | none => true
def seqOk (r : DRule) : Bool := plainB r false false true false (-1) && r.kids.length == r.names.length && between r.kids.length 1 8 && allN r.names.length (nameOk r.names)
def tagOk (lim : Int) (l : List Int) (i : Nat) : Bool := match l[i]? with | some t => between t 0 lim && (i == 0 || decide (l.getD (i - 1) 0 < t)) | none => true
def choOk (ds : List DRule) (r : DRule) : Bool := plainB r false false false true (r.tags.length + 1) && between r.tags.length 1 8 && allN r.tags.length (tagOk (limD ds (r.kids.getD 0 0)) r.tags)
def kindOk (ds : List DRule) (r : DRule) : Bool :=
 if r.kind = 1 then plainB r true false false false 0 && between r.size 1 4 && (!r.little || decide (1 < r.size))
 else if r.kind = 2 then plainB r false true false false 0 && between r.bytes.length 1 16
 else if r.kind = 3 then plainB r true false false false 0 && between r.size 1 64
 else if r.kind = 4 then plainB r false false false false 1 && decide (0 < limD ds (r.kids.getD 0 0))
 else if r.kind = 5 then plainB r false false false false 2 && decide (0 < limD ds (r.kids.getD 0 0))
 else if r.kind = 6 then seqOk r
 else if r.kind = 7 then choOk ds r
 else if r.kind = 8 then plainB r false false false false 1
 else if r.kind = 9 then plainB r false false false false 1
 else if r.kind = 10 then plainB r false true false false 0 && r.bytes.length == 1 && !(r.bytes.getD 0 0 == 92)
 else false
def freshNm (ds : List DRule) (r : DRule) (j : Nat) : Bool := match ds[j]? with | some q => !(q.nm.toList == r.nm.toList) | none => true
def kidOk (l : List Int) (i : Nat) (j : Nat) : Bool := match l[j]? with | some k => between k 0 ((i : Int) - 1) | none => true
def ruleOk (ds : List DRule) (i : Nat) : Bool := match ds[i]? with
 | some r => isName r.nm && (!r.little || r.kind == 1) && allN i (freshNm ds r) && allN r.kids.length (kidOk r.kids i) && kindOk ds r
 | none => false
def ruleOkI (ds : List DRule) (i : Int) : Bool := decide (0 ≤ i) && ruleOk ds i.toNat
def descOk (ds : List DRule) : Bool := between ds.length 1 24 && allN ds.length (ruleOk ds)
def regOk (gs : List (List DRule)) : Bool := decide (gs.length ≤ 8) && allN gs.length (fun i => match gs[i]? with | some d => descOk d | none => true)
end Go.Proofs.YtpmcofmdjckijaaGreatDoor
namespace Go.Proofs.YtpmcofmdjckijaaGreatDoor
open Go.RowKit Go.Sort
def numOf (s : ByteArray) : Nat := s.toList.foldl (fun acc b => if 48 ≤ b.toNat ∧ b.toNat ≤ 57 then acc * 10 + (b.toNat - 48) else acc) 0
def heads : List ByteArray := [⟨#[97]⟩, ⟨#[105, 116, 101, 109]⟩, ⟨#[98]⟩, ⟨#[104, 101, 97, 100]⟩, ⟨#[120]⟩]
theorem made_num : ∀ s ∈ heads, ∀ n, n < 32 → numOf (s ++ itoaB (n : Nat)) = n ∧ isName (s ++ itoaB (n : Nat)) = true := by decide +kernel
theorem ne_of_num {a b : ByteArray} (h : numOf a ≠ numOf b) : (a.toList == b.toList) = false := by
 rw [beq_eq_false_iff_ne]
 intro he
 apply h
 unfold numOf
 rw [he]
structure MadeR (ds : List DRule) (r : DRule) : Prop where
 nm : ∃ s ∈ heads, r.nm = s ++ itoaB (ds.length : Int)
 ok : kindOk ds r = true
 lit : (!r.little || r.kind == 1) = true
 kids : ∀ x ∈ r.kids, 0 ≤ x ∧ x < (ds.length : Int)
def MadeD (ds : List DRule) : Prop := ∀ i (h : i < ds.length), MadeR (ds.take i) ds[i]
theorem MadeD.nil : MadeD [] := fun i h => by simp at h
theorem MadeD.snoc {ds : List DRule} {r : DRule} (h : MadeD ds) (hr : MadeR ds r) : MadeD (ds ++ [r]) := by
 intro i hi
 rw [List.length_append, List.length_singleton] at hi
 rcases (by omega : i < ds.length ∨ i = ds.length) with h1 | rfl
 ·rw [List.getElem_append_left h1, List.take_append_of_le_length (by omega)]; exact h i h1
 ·rw [List.getElem_append_right (by omega)]; simpa using hr
theorem limD_up {ds : List DRule} {i : Nat} {x : Int} (h : limD (ds.take i) x ≠ -1) : limD ds x = limD (ds.take i) x := by
 unfold limD at *
 split at h
 ·rename_i h0
  rw [if_pos h0, if_pos h0]
  split at h
  ·rename_i r hr
   rw [List.getElem?_take] at hr
   split at hr
   ·rw [hr]
   ·cases hr
  ·exact absurd rfl h
 ·exact absurd rfl h
theorem between_iff {n lo hi : Int} : between n lo hi = true ↔ lo ≤ n ∧ n ≤ hi := by simp [between]
theorem choOk_lim {ds : List DRule} {r : DRule} (h : choOk ds r = true) : limD ds (r.kids.getD 0 0) ≠ -1 := by
 intro hl
 unfold choOk at h
 simp only [Bool.and_eq_true, between_iff] at h
 obtain ⟨⟨_, h1, _⟩, h2⟩ := h
 have h3 := List.all_eq_true.1 h2 0 (by simp; omega)
 rw [hl] at h3
 unfold tagOk at h3
 rw [List.getElem?_eq_getElem (by omega)] at h3
 simp only [Bool.and_eq_true, between_iff] at h3
 omega
theorem kindOk_up {ds : List DRule} {i : Nat} {r : DRule} (h : kindOk (ds.take i) r = true) : kindOk ds r = true := by
 unfold kindOk at *
 by_cases h1 : r.kind = 1
 ·simpa only [h1, if_true] using h
 rw [if_neg h1] at h ⊢
 by_cases h2 : r.kind = 2
 ·simpa only [h2, if_true] using h
 rw [if_neg h2] at h ⊢
 by_cases h3 : r.kind = 3
 ·simpa only [h3, if_true] using h
 rw [if_neg h3] at h ⊢
 by_cases h4 : r.kind = 4
 ·rw [if_pos h4] at h ⊢
  simp only [Bool.and_eq_true, decide_eq_true_eq] at h ⊢
  exact ⟨h.1, by rw [limD_up (x := r.kids.getD 0 0) (i := i) (by omega)]; exact h.2⟩
 rw [if_neg h4] at h ⊢
 by_cases h5 : r.kind = 5
 ·rw [if_pos h5] at h ⊢
  simp only [Bool.and_eq_true, decide_eq_true_eq] at h ⊢
  exact ⟨h.1, by rw [limD_up (x := r.kids.getD 0 0) (i := i) (by omega)]; exact h.2⟩
 rw [if_neg h5] at h ⊢
 by_cases h6 : r.kind = 6
 ·rw [if_pos h6] at h ⊢; exact h
 rw [if_neg h6] at h ⊢
 by_cases h7 : r.kind = 7
 ·rw [if_pos h7] at h ⊢
  have hl := limD_up (choOk_lim h)
  unfold choOk at *
  rw [hl]; exact h
 rw [if_neg h7] at h ⊢
 exact h
theorem MadeD.num {ds : List DRule} (h : MadeD ds) (hn : ds.length ≤ 32) (i : Nat) (hi : i < ds.length) : numOf ds[i].nm = i ∧ isName ds[i].nm = true := by
 obtain ⟨s, hs, he⟩ := (h i hi).nm
 rw [List.length_take, Nat.min_eq_left (by omega)] at he
 rw [he]
 exact made_num s hs i (by omega)
theorem MadeD.rule {ds : List DRule} (h : MadeD ds) (hn : ds.length ≤ 32) (i : Nat) (hi : i < ds.length) : ruleOk ds i = true := by
 have hm := h i hi
 unfold ruleOk
 rw [List.getElem?_eq_getElem hi]
 simp only [Bool.and_eq_true]
 refine ⟨⟨⟨⟨(h.num hn i hi).2, hm.lit⟩, allN_yes fun j hj => ?_⟩, allN_yes fun j hj => ?_⟩, kindOk_up hm.ok⟩
 ·unfold freshNm
  rw [List.getElem?_eq_getElem (by omega)]
  have h1 := (h.num hn i hi).1
  have h2 := (h.num hn j (by omega)).1
  dsimp only
  rw [ne_of_num (a := ds[j].nm) (b := ds[i].nm) (by omega)]; rfl
 ·unfold kidOk
  rw [List.getElem?_eq_getElem hj]
  have := hm.kids _ (List.getElem_mem hj)
  rw [List.length_take, Nat.min_eq_left (by omega)] at this
  rw [between_iff]; omega
theorem MadeD.valid {ds : List DRule} (h : MadeD ds) (h0 : 0 < ds.length) (hn : ds.length ≤ 24) : descOk ds = true := by
 unfold descOk
 rw [Bool.and_eq_true, between_iff]
 exact ⟨by omega, allN_yes fun j hj => h.rule (by omega) j hj⟩
theorem MadeD.lim {ds : List DRule} (h : MadeD ds) {x : Nat} (hx : x < ds.length) (hk : ds[x].kind = 1) : 255 ≤ limD ds (x : Int) := by
 have hm := (h x hx).ok
 unfold kindOk at hm
 rw [if_pos hk] at hm
 simp only [Bool.and_eq_true, between_iff] at hm
 obtain ⟨⟨_, h1, h2⟩, _⟩ := hm
 unfold limD
 rw [if_pos (by omega)]
 simp only [Int.toNat_natCast, List.getElem?_eq_getElem hx]
 rcases limR_cases ds[x] with e | e | e | e | e
 ·exfalso
  unfold limR at e
  rw [if_pos ⟨hk, h1, h2⟩] at e
  rcases (by omega : ds[x].size = 1 ∨ ds[x].size = 2 ∨ ds[x].size = 3 ∨ ds[x].size = 4) with e' | e' | e' | e' <;> rw [e'] at e <;> simp at e
 all_goals rw [e]; omega
section
variable {ds : List DRule} {nm : ByteArray} (hnm : ∃ s ∈ heads, nm = s ++ itoaB (ds.length : Int))
include hnm
theorem made_int {y : Nat} {flag : Bool} (hy : y < 3) (hf : flag = true → 1 ≤ y) : MadeR ds ⟨nm, 1, 1 + (y : Int), flag, [], [], [], []⟩ :=
 ⟨hnm, by
  simp only [kindOk, if_true, plainB, between, Bool.and_eq_true, decide_eq_true_eq, Bool.or_eq_true, Bool.not_eq_true']
  cases flag
  ·simp; omega
  ·have := hf rfl; simp; omega, by simp, by simp⟩
theorem made_const {b : List UInt8} (h0 : 1 ≤ b.length) (h1 : b.length ≤ 16) : MadeR ds ⟨nm, 2, 0, false, b, [], [], []⟩ :=
 ⟨hnm, by simp [kindOk, plainB, between]; omega, by simp, by simp⟩
theorem made_fixed {y : Nat} (hy : y < 4) : MadeR ds ⟨nm, 3, 1 + (y : Int), false, [], [], [], []⟩ :=
 ⟨hnm, by simp [kindOk, plainB, between]; omega, by simp, by simp⟩
theorem made_sized (hM : MadeD ds) {x : Nat} (hx : x < ds.length) (hk : ds[x].kind = 1) : MadeR ds ⟨nm, 4, 0, false, [], [], [], [(x : Int)]⟩ :=
 ⟨hnm, by have := hM.lim hx hk; simp [kindOk, plainB]; omega, by simp, by simp; omega⟩
theorem made_array (hM : MadeD ds) {x y : Nat} (hx : x < ds.length) (hk : ds[x].kind = 1) (hy : y < ds.length) : MadeR ds ⟨nm, 5, 0, false, [], [], [], [(x : Int), (y : Int)]⟩ :=
 ⟨hnm, by have := hM.lim hx hk; simp [kindOk, plainB]; omega, by simp, by simp; omega⟩
theorem made_opt {y : Nat} (hy : y < ds.length) : MadeR ds ⟨nm, 8, 0, false, [], [], [], [(y : Int)]⟩ :=
 ⟨hnm, by simp [kindOk, plainB], by simp, by simp; omega⟩
theorem made_checked {y : Nat} (hy : y < ds.length) : MadeR ds ⟨nm, 9, 0, false, [], [], [], [(y : Int)]⟩ :=
 ⟨hnm, by simp [kindOk, plainB], by simp, by simp; omega⟩
theorem made_term {b : UInt8} (hb : b ≠ 92) : MadeR ds ⟨nm, 10, 0, false, [b], [], [], []⟩ :=
 ⟨hnm, by simp [kindOk, plainB, hb], by simp, by simp⟩
end
def seqHeads : List ByteArray := [⟨#[112]⟩, ⟨#[113]⟩, ⟨#[114]⟩]
theorem part_num : ∀ s ∈ seqHeads, ∀ n, n < 32 → numOf (s ++ itoaB (n : Nat)) = n ∧ isName (s ++ itoaB (n : Nat)) = true := by decide +kernel
structure SeqInv (i : Nat) (l : List ByteArray) : Prop where
 ok : allN l.length (nameOk l) = true
 of : ∀ t ∈ l, ∃ s ∈ seqHeads, ∃ j, i < j ∧ j < 32 ∧ t = s ++ itoaB ((j : Nat) : Int)
theorem SeqInv.nil (i : Nat) : SeqInv i [] := ⟨rfl, by simp⟩
theorem SeqInv.snoc {i : Nat} {l : List ByteArray} (h : SeqInv i l) {s : ByteArray} (hs : s ∈ seqHeads) (h0 : 0 < i) (hi : i < 32) : SeqInv (i - 1) (l ++ [s ++ itoaB (i : Int)]) := by
 have hnum : ∀ t ∈ l, i < numOf t ∧ isName t = true := fun t ht => by
  obtain ⟨s', hs', j, h1, h2, rfl⟩ := h.of t ht
  obtain ⟨h3, h4⟩ := part_num s' hs' j h2
  exact ⟨by omega, h4⟩
 have hn := part_num s hs i hi
 refine ⟨?_, fun t ht => ?_⟩
 ·refine allN_yes fun j hj => ?_
  rw [List.length_append, List.length_singleton] at hj
  unfold nameOk
  rcases (by omega : j < l.length ∨ j = l.length) with h1 | rfl
  ·have h2 := List.all_eq_true.1 h.ok j (by simpa using h1)
   unfold nameOk at h2
   rw [List.getElem?_eq_getElem h1] at h2
   rw [List.getElem?_append_left h1, List.getElem?_eq_getElem h1, List.take_append_of_le_length (by omega)]
   exact h2
  ·rw [List.getElem?_append_right (by omega)]
   simp only [Nat.sub_self, List.getElem?_cons_zero, Bool.and_eq_true, Bool.not_eq_true']
   refine ⟨hn.2, hasNm_none fun k hk => ?_⟩
   have hk' : k < l.length := by simp at hk; omega
   have : ((l ++ [s ++ itoaB (i : Int)]).take l.length)[k] = l[k] := by simp [hk']
   rw [this]
   have := (hnum _ (List.getElem_mem hk')).1
   exact ne_of_num (by omega)
 ·rcases List.mem_append.1 ht with h1 | h1
  ·obtain ⟨s', hs', j, h2, h3, h4⟩ := h.of t h1
   exact ⟨s', hs', j, by omega, h3, h4⟩
  ·rw [List.mem_singleton.1 h1]
   exact ⟨s, hs, i, by omega, hi, rfl⟩
theorem made_seq {ds : List DRule} {r : DRule} (hnm : ∃ s ∈ heads, r.nm = s ++ itoaB (ds.length : Int)) (hk : r.kind = 6) (h1 : r.size = 0) (h2 : r.bytes = []) (h3 : r.tags = []) (h4 : r.little = false) (hl : r.kids.length = r.names.length) (h0 : 1 ≤ r.names.length) (h8 : r.names.length ≤ 8) {i : Nat} (hS : SeqInv i r.names) (hkid : ∀ x ∈ r.kids, 0 ≤ x ∧ x < (ds.length : Int)) : MadeR ds r := by
 refine ⟨hnm, ?_, by simp [h4], hkid⟩
 unfold kindOk
 rw [if_neg (by omega), if_neg (by omega), if_neg (by omega), if_neg (by omega), if_neg (by omega), if_pos hk]
 unfold seqOk plainB
 simp only [h1, h2, h3, Bool.and_eq_true, between_iff, hS.ok]
 simp; omega
structure TagInv (l : List Int) : Prop where
 at' : ∀ j (h : j < l.length), 4 * (j : Int) ≤ l[j] ∧ l[j] < 4 * (j : Int) + 4
theorem TagInv.nil : TagInv [] := ⟨by simp⟩
theorem TagInv.snoc {l : List Int} (h : TagInv l) {z : Nat} (hz : z < 4) : TagInv (l ++ [4 * (l.length : Int) + (z : Int)]) := by
 refine ⟨fun j hj => ?_⟩
 rw [List.length_append, List.length_singleton] at hj
 rcases (by omega : j < l.length ∨ j = l.length) with h1 | rfl
 ·rw [List.getElem_append_left h1]; exact h.at' j h1
 ·rw [List.getElem_append_right (by omega)]; simp; omega
theorem made_cho {ds : List DRule} {r : DRule} (hM : MadeD ds) (hnm : ∃ s ∈ heads, r.nm = s ++ itoaB (ds.length : Int)) (hk : r.kind = 7) (h1 : r.size = 0) (h2 : r.bytes = []) (h3 : r.names = []) (h4 : r.little = false) (hl : r.kids.length = r.tags.length + 1) (h0 : 1 ≤ r.tags.length) (h8 : r.tags.length ≤ 8) (hT : TagInv r.tags) {x : Nat} {t : List Int} (hx : x < ds.length) (hx1 : ds[x].kind = 1) (hkx : r.kids = (x : Int) :: t) (hkid : ∀ x ∈ r.kids, 0 ≤ x ∧ x < (ds.length : Int)) : MadeR ds r := by
 have hlim := hM.lim hx hx1
 refine ⟨hnm, ?_, by simp [h4], hkid⟩
 unfold kindOk
 rw [if_neg (by omega), if_neg (by omega), if_neg (by omega), if_neg (by omega), if_neg (by omega), if_neg (by omega), if_pos hk]
 unfold choOk plainB
 have hall : allN r.tags.length (tagOk (limD ds (r.kids.getD 0 0)) r.tags) = true := by
  refine allN_yes fun j hj => ?_
  unfold tagOk
  rw [List.getElem?_eq_getElem hj]
  have h5 := hT.at' j hj
  simp only [Bool.and_eq_true, between_iff, Bool.or_eq_true, beq_iff_eq, decide_eq_true_eq]
  refine ⟨⟨by omega, by rw [hkx]; simp only [List.getD_cons_zero]; omega⟩, ?_⟩
  rcases (by omega : j = 0 ∨ 0 < j) with h6 | h6
  ·exact .inl h6
  ·right
   have h7 := hT.at' (j - 1) (by omega)
   rw [List.getD_eq_getElem?_getD, List.getElem?_eq_getElem (by omega), Option.getD_some]
   omega
 rw [hall]
 simp only [h1, h2, h3, Bool.and_eq_true, between_iff]
 simp; omega
theorem E_str : Elem Tryz.prog 41 9 1 16 (.string ⟨#[]⟩) := ⟨Tryz.underlying41, by kernel_rfl, rfl, by omega⟩
theorem rulesOf_append (a b : List RV) : rulesOf (a ++ b) = rulesOf a ++ rulesOf b := by simp [rulesOf]
theorem boxes2' (w : World) (c0 c1 : Array Value) (T0 T1 : TypeId) :
 ∃ W, Hid (W = ((w.alloc (.cells c0 T0)).alloc (.cells c1 T1))) ∧ Box W w.heap.size c0 T0 ∧ Box W (w.heap.size + 1) c1 T1 ∧ Ext w W ∧ W.heap.size = w.heap.size + 2 := by
 have s1 : (w.alloc (.cells c0 T0)).heap.size = w.heap.size + 1 := by simp
 have h1 := Box.new (w.alloc (.cells c0 T0)) c1 T1
 rw [s1] at h1
 exact ⟨_, rfl, (Box.new w c0 T0).ext (Ext_alloc _ (Ext.refl _)), h1, Ext_alloc _ (Ext_alloc _ (Ext.refl w)), by simp⟩
theorem src0 {α : Type} {f : α → Value} {w w' : World} {A : Option Addr} {l : List α} {c : Nat} (h : Rd0 f w A l c) (e : Ext w w') (hp : 0 < l.length) : ∃ ad, A = some ad ∧ ∀ j u, (l.map f)[j]? = some u → w'.cell? (ad.add j) = some u := by
 obtain ⟨b, off, hA, _, hc⟩ := h.2.2 hp
 refine ⟨_, hA, fun j u hu => ?_⟩
 have := part_cells (fun i hi => hc w' e i hi) 0 l.length j u
 simp only [List.drop_zero, List.take_length, Nat.add_zero] at this
 exact this hu
theorem sCopyR_c (r : DRule) (Ab : Option Addr) (cb : Nat) (An : Option Addr) (cn : Nat) (At : Option Addr) (ct : Nat) (Ak : Option Addr) (ck : Nat) (w : World) (h : RdS w r Ab cb An cn At ct Ak ck) (hz : szRl r ≤ 1048576) :
 Calls Tryz.prog 65 #[vrule r (.slice Ab r.bytes.length cb) (.slice An r.names.length cn) (.slice At r.tags.length ct) (.slice Ak r.kids.length ck)] w fun e w' => ∃ vb vn vt vk, e = .returned (vrule r vb vn vt vk) ∧ RuleOwn w w' ⟨r, vb, vn, vt, vk⟩ ∧ Far [vb, vn, vt, vk] ∧ Ext w w' := by
 obtain ⟨hb, hn, ht, hk⟩ := h
 obtain ⟨⟨s1, s2, s3, s4⟩, z1, z2, z3, z4⟩ := szRl_short hz
 clear hz
 obtain ⟨nm, kind, size, little, bytes, names, tags, kids⟩ := r
 dsimp only at *
 obtain ⟨W0, HW0, HA, HR, HO, e0, hsA⟩ := boxes3' w #[.string nm, .int .i64 kind, .int .i64 size, .bool little, .slice Ab bytes.length cb, .slice An names.length cn, .slice At tags.length ct, .slice Ak kids.length ck] #[.string ⟨#[]⟩, .int .i64 0, .int .i64 0, .bool false, .slice none 0 0, .slice none 0 0, .slice none 0 0, .slice none 0 0] #[.string nm, .int .i64 kind, .int .i64 size, .bool little, .slice Ab bytes.length cb, .slice An names.length cn, .slice At tags.length ct, .slice Ak kids.length ck] 51 51 51
 have HSA := Lib.hid hsA; clear hsA
 have s01 := HO.lt
 unfold vrule
 dsimp only
 go_enter Tryz.func65, Tryz.ntmps65
 have x1 := Ext_alloc (.cells #[] 5) (Ext.refl W0)
 have OE1 := OwnL.empty (f := vu8) (e := 5) (Ext.refl W0)
 rw [show W0.heap.size = w.heap.size + 1 + 1 + 1 by have := HSA.out; omega] at OE1
 have HOE1 := Lib.hid OE1; clear OE1
 go_wp2_with (first
  | (at_builtin; rw [← HW0.out]; have hb1 : (([] : List UInt8).length + bytes.length) * 1 ≤ 140737488355328 := (by simp only [List.length_nil]; omega); have hc1 : 0 < bytes.length → ∃ ad, Ab = some ad ∧ ∀ j u, (bytes.map vu8)[j]? = some u → (W0.alloc (.cells #[] 5)).cell? (ad.add j) = some u := fun hp => src0 hb (e0.trans x1) hp; refine wpList_appL rfl (.tmp 5) (.tmp 7) _ rfl E_u8 (by omega) W0 _ vu8 (fun _ => rfl) _ rfl Ab bytes.length cb rfl [] bytes HOE1.out x1 rfl hc1 hb1 ?_; intro v1 w1 ho1 he1 _ _; rw [List.nil_append] at ho1; obtain ⟨A1, c1, hv1, _⟩ := OwnL.rd ho1 s1; subst hv1; have p1 := (HO.ext he1).cell; have q1 := (HO.ext he1).free; have G1 : Hid (∀ g, (Value.slice A1 bytes.length c1).ownBlock = some g → W0.heap.size ≤ g ∧ g < w1.heap.size) := fun g hg => World.ownsRow.lt ho1 g hg; have F1 : Hid ((Value.slice A1 bytes.length c1).ownBlock ≠ some (w.heap.size + 1 + 1)) := OwnL.far ho1 (.inl (by have := HO.lt; omega)); have y1 : Hid (w1.heap.size ≤ (w1.setCell ⟨(w.heap.size + 1 + 1), 4, none⟩ (.slice A1 bytes.length c1)).heap.size) := (by show _ ≤ _; simp); have t1 := Lib.hid he1.size; have O1 := Lib.hid (OwnL.other ho1 ⟨(w.heap.size + 1 + 1), 4, none⟩ (.slice A1 bytes.length c1) F1.out); replace HA := (HA.ext he1).other (g' := (w.heap.size + 1 + 1)) (by omega) 4 (.slice A1 bytes.length c1); replace HR := (HR.ext he1).other (g' := (w.heap.size + 1 + 1)) (by omega) 4 (.slice A1 bytes.length c1); replace HO := (HO.ext he1).set 4 (.slice A1 bytes.length c1); have e1 := (e0.trans he1).setCell (p := ⟨(w.heap.size + 1 + 1), 4, none⟩) (by show w.heap.size ≤ (w.heap.size + 1 + 1); omega) (.slice A1 bytes.length c1); have x2 := Ext_alloc (.cells #[] 9) (Ext.refl (w1.setCell ⟨(w.heap.size + 1 + 1), 4, none⟩ (.slice A1 bytes.length c1))); have a2 := (HA.ext x2).cell; clear e0 he1 ho1 x1 hc1 hb1)
  | (at_builtin; have hb2 : (([] : List ByteArray).length + names.length) * 16 ≤ 140737488355328 := (by simp only [List.length_nil]; omega); have hc2 : 0 < names.length → ∃ ad, An = some ad ∧ ∀ j u, (names.map vstr)[j]? = some u → ((w1.setCell ⟨(w.heap.size + 1 + 1), 4, none⟩ (.slice A1 bytes.length c1)).alloc (.cells #[] 9)).cell? (ad.add j) = some u := fun hp => src0 hn (e1.trans x2) hp; have OE2 := OwnL.empty (f := vstr) (e := 9) (Ext.refl (w1.setCell ⟨(w.heap.size + 1 + 1), 4, none⟩ (.slice A1 bytes.length c1))); rw [show ((w1.setCell ⟨(w.heap.size + 1 + 1), 4, none⟩ (.slice A1 bytes.length c1))).heap.size = w1.heap.size by simp] at OE2; have HOE2 := Lib.hid OE2; clear OE2; refine wpList_appL rfl (.tmp 10) (.tmp 12) _ rfl E_str (by omega) (w1.setCell ⟨(w.heap.size + 1 + 1), 4, none⟩ (.slice A1 bytes.length c1)) _ vstr (fun _ => rfl) _ rfl An names.length cn rfl [] names HOE2.out x2 rfl hc2 hb2 ?_; intro v2 w2 ho2 he2 _ _; rw [List.nil_append] at ho2; obtain ⟨A2, c2, hv2, _⟩ := OwnL.rd ho2 s2; subst hv2; have p2 := (HO.ext he2).cell; have q2 := (HO.ext he2).free; have G2 : Hid (∀ g, (Value.slice A2 names.length c2).ownBlock = some g → (w1.setCell ⟨(w.heap.size + 1 + 1), 4, none⟩ (.slice A1 bytes.length c1)).heap.size ≤ g ∧ g < w2.heap.size) := fun g hg => World.ownsRow.lt ho2 g hg; have F2 : Hid ((Value.slice A2 names.length c2).ownBlock ≠ some (w.heap.size + 1 + 1)) := OwnL.far ho2 (.inl (by have := HO.lt; omega)); have y2 : Hid (w2.heap.size ≤ (w2.setCell ⟨(w.heap.size + 1 + 1), 5, none⟩ (.slice A2 names.length c2)).heap.size) := (by show _ ≤ _; simp); have t2 := Lib.hid he2.size; replace O1 := Lib.hid (OwnL.other (O1.out.ext he2) ⟨(w.heap.size + 1 + 1), 5, none⟩ (.slice A2 names.length c2) F1.out); have O2 := Lib.hid (OwnL.other ho2 ⟨(w.heap.size + 1 + 1), 5, none⟩ (.slice A2 names.length c2) F2.out); replace HA := (HA.ext he2).other (g' := (w.heap.size + 1 + 1)) (by omega) 5 (.slice A2 names.length c2); replace HR := (HR.ext he2).other (g' := (w.heap.size + 1 + 1)) (by omega) 5 (.slice A2 names.length c2); replace HO := (HO.ext he2).set 5 (.slice A2 names.length c2); have e2 := (e1.trans he2).setCell (p := ⟨(w.heap.size + 1 + 1), 5, none⟩) (by show w.heap.size ≤ (w.heap.size + 1 + 1); omega) (.slice A2 names.length c2); have x3 := Ext_alloc (.cells #[] 3) (Ext.refl (w2.setCell ⟨(w.heap.size + 1 + 1), 5, none⟩ (.slice A2 names.length c2))); have a3 := (HA.ext x3).cell; clear e1 he2 ho2 x2 hc2 hb2)
  | (at_builtin; have hb3 : (([] : List Int).length + tags.length) * 8 ≤ 140737488355328 := (by simp only [List.length_nil]; omega); have hc3 : 0 < tags.length → ∃ ad, At = some ad ∧ ∀ j u, (tags.map vint)[j]? = some u → ((w2.setCell ⟨(w.heap.size + 1 + 1), 5, none⟩ (.slice A2 names.length c2)).alloc (.cells #[] 3)).cell? (ad.add j) = some u := fun hp => src0 ht (e2.trans x3) hp; have OE3 := OwnL.empty (f := vint) (e := 3) (Ext.refl (w2.setCell ⟨(w.heap.size + 1 + 1), 5, none⟩ (.slice A2 names.length c2))); rw [show ((w2.setCell ⟨(w.heap.size + 1 + 1), 5, none⟩ (.slice A2 names.length c2))).heap.size = w2.heap.size by simp] at OE3; have HOE3 := Lib.hid OE3; clear OE3; refine wpList_appL rfl (.tmp 15) (.tmp 17) _ rfl E_int (by omega) (w2.setCell ⟨(w.heap.size + 1 + 1), 5, none⟩ (.slice A2 names.length c2)) _ vint (fun _ => rfl) _ rfl At tags.length ct rfl [] tags HOE3.out x3 rfl hc3 hb3 ?_; intro v3 w3 ho3 he3 _ _; rw [List.nil_append] at ho3; obtain ⟨A3, c3, hv3, _⟩ := OwnL.rd ho3 s3; subst hv3; have p3 := (HO.ext he3).cell; have q3 := (HO.ext he3).free; have G3 : Hid (∀ g, (Value.slice A3 tags.length c3).ownBlock = some g → (w2.setCell ⟨(w.heap.size + 1 + 1), 5, none⟩ (.slice A2 names.length c2)).heap.size ≤ g ∧ g < w3.heap.size) := fun g hg => World.ownsRow.lt ho3 g hg; have F3 : Hid ((Value.slice A3 tags.length c3).ownBlock ≠ some (w.heap.size + 1 + 1)) := OwnL.far ho3 (.inl (by have := HO.lt; omega)); have y3 : Hid (w3.heap.size ≤ (w3.setCell ⟨(w.heap.size + 1 + 1), 6, none⟩ (.slice A3 tags.length c3)).heap.size) := (by show _ ≤ _; simp); have t3 := Lib.hid he3.size; replace O1 := Lib.hid (OwnL.other (O1.out.ext he3) ⟨(w.heap.size + 1 + 1), 6, none⟩ (.slice A3 tags.length c3) F1.out); replace O2 := Lib.hid (OwnL.other (O2.out.ext he3) ⟨(w.heap.size + 1 + 1), 6, none⟩ (.slice A3 tags.length c3) F2.out); have O3 := Lib.hid (OwnL.other ho3 ⟨(w.heap.size + 1 + 1), 6, none⟩ (.slice A3 tags.length c3) F3.out); replace HA := (HA.ext he3).other (g' := (w.heap.size + 1 + 1)) (by omega) 6 (.slice A3 tags.length c3); replace HR := (HR.ext he3).other (g' := (w.heap.size + 1 + 1)) (by omega) 6 (.slice A3 tags.length c3); replace HO := (HO.ext he3).set 6 (.slice A3 tags.length c3); have e3 := (e2.trans he3).setCell (p := ⟨(w.heap.size + 1 + 1), 6, none⟩) (by show w.heap.size ≤ (w.heap.size + 1 + 1); omega) (.slice A3 tags.length c3); have x4 := Ext_alloc (.cells #[] 3) (Ext.refl (w3.setCell ⟨(w.heap.size + 1 + 1), 6, none⟩ (.slice A3 tags.length c3))); have a4 := (HA.ext x4).cell; clear e2 he3 ho3 x3 hc3 hb3)
  | (at_builtin; have hb4 : (([] : List Int).length + kids.length) * 8 ≤ 140737488355328 := (by simp only [List.length_nil]; omega); have hc4 : 0 < kids.length → ∃ ad, Ak = some ad ∧ ∀ j u, (kids.map vint)[j]? = some u → ((w3.setCell ⟨(w.heap.size + 1 + 1), 6, none⟩ (.slice A3 tags.length c3)).alloc (.cells #[] 3)).cell? (ad.add j) = some u := fun hp => src0 hk (e3.trans x4) hp; have OE4 := OwnL.empty (f := vint) (e := 3) (Ext.refl (w3.setCell ⟨(w.heap.size + 1 + 1), 6, none⟩ (.slice A3 tags.length c3))); rw [show ((w3.setCell ⟨(w.heap.size + 1 + 1), 6, none⟩ (.slice A3 tags.length c3))).heap.size = w3.heap.size by simp] at OE4; have HOE4 := Lib.hid OE4; clear OE4; refine wpList_appL rfl (.tmp 20) (.tmp 22) _ rfl E_int (by omega) (w3.setCell ⟨(w.heap.size + 1 + 1), 6, none⟩ (.slice A3 tags.length c3)) _ vint (fun _ => rfl) _ rfl Ak kids.length ck rfl [] kids HOE4.out x4 rfl hc4 hb4 ?_; intro v4 w4 ho4 he4 _ _; rw [List.nil_append] at ho4; obtain ⟨A4, c4, hv4, _⟩ := OwnL.rd ho4 s4; subst hv4; have p4 := (HO.ext he4).cell; have q4 := (HO.ext he4).free; have G4 : Hid (∀ g, (Value.slice A4 kids.length c4).ownBlock = some g → (w3.setCell ⟨(w.heap.size + 1 + 1), 6, none⟩ (.slice A3 tags.length c3)).heap.size ≤ g ∧ g < w4.heap.size) := fun g hg => World.ownsRow.lt ho4 g hg; have F4 : Hid ((Value.slice A4 kids.length c4).ownBlock ≠ some (w.heap.size + 1 + 1)) := OwnL.far ho4 (.inl (by have := HO.lt; omega)); have y4 : Hid (w4.heap.size ≤ (w4.setCell ⟨(w.heap.size + 1 + 1), 7, none⟩ (.slice A4 kids.length c4)).heap.size) := (by show _ ≤ _; simp); have t4 := Lib.hid he4.size; replace O1 := Lib.hid (OwnL.other (O1.out.ext he4) ⟨(w.heap.size + 1 + 1), 7, none⟩ (.slice A4 kids.length c4) F1.out); replace O2 := Lib.hid (OwnL.other (O2.out.ext he4) ⟨(w.heap.size + 1 + 1), 7, none⟩ (.slice A4 kids.length c4) F2.out); replace O3 := Lib.hid (OwnL.other (O3.out.ext he4) ⟨(w.heap.size + 1 + 1), 7, none⟩ (.slice A4 kids.length c4) F3.out); have O4 := Lib.hid (OwnL.other ho4 ⟨(w.heap.size + 1 + 1), 7, none⟩ (.slice A4 kids.length c4) F4.out); replace HA := (HA.ext he4).other (g' := (w.heap.size + 1 + 1)) (by omega) 7 (.slice A4 kids.length c4); replace HR := (HR.ext he4).other (g' := (w.heap.size + 1 + 1)) (by omega) 7 (.slice A4 kids.length c4); replace HO := (HO.ext he4).set 7 (.slice A4 kids.length c4); have e4 := (e3.trans he4).setCell (p := ⟨(w.heap.size + 1 + 1), 7, none⟩) (by show w.heap.size ≤ (w.heap.size + 1 + 1); omega) (.slice A4 kids.length c4); have r4 := HR.cell; have u4 := HR.free; have p5 := HO.cell; clear e3 he4 ho4 x4 hc4 hb4))
 have z0 := HSA.out
 have y1 := y1.out; have y2 := y2.out; have y3 := y3.out; have y4 := y4.out; have t1 := t1.out; have t2 := t2.out; have t3 := t3.out; have t4 := t4.out
 have G := grown_put8 (w4.setCell ⟨(w.heap.size + 1 + 1), 7, none⟩ (.slice A4 kids.length c4)) (w.heap.size + 1) 0 ⟨⟨nm, kind, size, little, bytes, names, tags, kids⟩, .slice A1 bytes.length c1, .slice A2 names.length c2, .slice A3 tags.length c3, .slice A4 kids.length c4⟩
 refine bodyPost_ret (v := .agg #[.string nm, .int .i64 kind, .int .i64 size, .bool little, .slice A1 bytes.length c1, .slice A2 names.length c2, .slice A3 tags.length c3, .slice A4 kids.length c4]) (by simp [results, Tryz.results65, go_sem, p5, r4, u4]) rfl ⟨_, _, _, _, rfl, ⟨?_, ?_, ?_, ?_⟩, ?_, ?_⟩
 ·exact (OwnL.keep O1.out G (fun g hg he => by have := G1.out g hg; injection he with he; omega)).down (by omega)
 ·exact (OwnL.keep O2.out G (fun g hg he => by have := G2.out g hg; injection he with he; omega)).down (by omega)
 ·exact (OwnL.keep O3.out G (fun g hg he => by have := G3.out g hg; injection he with he; omega)).down (by omega)
 ·exact (OwnL.keep O4.out G (fun g hg he => by have := G4.out g hg; injection he with he; omega)).down (by omega)
 ·refine Far.cons (Far.cons (Far.cons (Far.one _) ?_) ?_) ?_
  ·intro v hv g h1 h2
   have := G3.out g h1
   simp only [List.mem_cons, List.not_mem_nil, or_false] at hv
   rcases hv with rfl
   have := G4.out g h2; omega
  ·intro v hv g h1 h2
   have := G2.out g h1
   simp only [List.mem_cons, List.not_mem_nil, or_false] at hv
   rcases hv with rfl | rfl
   ·have := G3.out g h2; omega
   ·have := G4.out g h2; omega
  ·intro v hv g h1 h2
   have := G1.out g h1
   simp only [List.mem_cons, List.not_mem_nil, or_false] at hv
   rcases hv with rfl | rfl | rfl
   ·have := G2.out g h2; omega
   ·have := G3.out g h2; omega
   ·have := G4.out g h2; omega
 ·exact e4.grown G (fun g hg => by injection hg with hg; omega)
theorem l4Make1_c (Ad : Option Addr) (ds : List DRule) (cd : Nat) (kind : Int) (hkind : 1 ≤ kind ∧ kind ≤ 10 ∧ kind ≠ 6 ∧ kind ≠ 7) (hDn : ds.length ≤ 64) (hki : kind = 1 ∨ ∃ i, ∃ h : i < ds.length, ds[i].kind = 1) (hMD : MadeD ds)
 (wb w : World) (p : Nat) (A : Option Addr) (l : List UInt8) (c : Nat) (hA : Bs wb A l c) (hC : Cur wb w p A l c) (hD : ∀ w', w.grownBy w' (some p) → RdD w' Ad ds cd) :
 Calls Tryz.prog 21 #[.pointer (some ⟨p, 0, none⟩), vdesc (.slice Ad ds.length cd), .int .i64 kind] w fun e w' => ∃ q : RV, e = .returned (vrule q.r q.vb q.vn q.vt q.vk) ∧ SmallR q.r ∧ q.r.kind = kind ∧ MadeR ds q.r ∧ RuleOwn wb w' q ∧ Far q.vals ∧ (∀ u ∈ q.vals, ∀ b, u.ownBlock = some b → w.heap.size ≤ b) ∧ Cur wb w' p A l c ∧ w.grownBy w' (some p) := by
 have hplt := hC.lt
 have hbw := hC.2.1.size
 have CBe := Lib.hid (fun n w h hn => l1Below_c n wb w p A l c hA h hn)
 have COn := Lib.hid (fun n w h hn => l1Once_c n wb w p A l c hA h hn)
 have CS := Lib.hid (fun w h => l1StrLit_c [⟨#[97]⟩, ⟨#[105, 116, 101, 109]⟩, ⟨#[98]⟩, ⟨#[104, 101, 97, 100]⟩, ⟨#[120]⟩] (by simp) (by simp) 5 rfl #[.string ⟨#[97]⟩, .string ⟨#[105, 116, 101, 109]⟩, .string ⟨#[98]⟩, .string ⟨#[104, 101, 97, 100]⟩, .string ⟨#[120]⟩] rfl wb w p A l c hA h)
 have CF := Lib.hid (fun w => sFormatInt_c (ds.length : Int) w (by omega) (by omega))
 have hit := itoa_size (ds.length : Int) (by omega) (by omega)
 obtain ⟨it, hit0⟩ : ∃ it, itoaB (ds.length : Int) = it := ⟨_, rfl⟩
 rw [hit0] at hit CF
 have HIT := Lib.hid hit0
 clear hit0
 have HD := Lib.hid hD; have hki := Lib.hid hki; have hMD := Lib.hid hMD
 clear hD
 obtain ⟨W0, hW0, HP, HR, e0, hsA⟩ := boxes2' w #[.slice Ad ds.length cd] #[.string ⟨#[]⟩, .int .i64 0, .int .i64 0, .bool false, .slice none 0 0, .slice none 0 0, .slice none 0 0, .slice none 0 0] 26 51
 unfold vdesc
 go_enter Tryz.func21, Tryz.ntmps21
 go_wp2_with fail
 rw [← hW0.out]
 have C1 := CS.out W0 (hC.ext e0)
 rw [hsA] at C1
 have C1 := Lib.hid C1
 refine C1.out.mono ?_; rintro _ w1 ⟨nm0, hnm0, rfl, hC1, hg1⟩
 have HNM : Hid (∃ s ∈ heads, nm0 ++ it = s ++ itoaB (ds.length : Int)) := ⟨nm0, hnm0, by rw [HIT.out]⟩
 have hnm : nm0.size ≤ 4 := by simp at hnm0; rcases hnm0 with rfl | rfl | rfl | rfl | rfl <;> decide
 have G1 := (grown_ext e0 (some p)).trans hg1
 have HP1 := Lib.hid (HP.moved hg1 (some_ne (by omega)))
 have HR1 := Lib.hid (HR.moved hg1 (some_ne (by omega)))
 clear hnm0 hg1 C1 CS HP HR e0
 go_wp2_with fail
 refine (CF.out _).mono ?_; rintro _ w2 ⟨rfl, s2⟩
 have G2 := Lib.hid (G1.trans (grown_ext s2 _))
 have HP2 := Lib.hid (HP1.out.ext s2); have HR2 := Lib.hid (HR1.out.ext s2); have hC2 := hC1.ext s2
 clear G1 HP1 HR1 hC1 s2
 have hnl : (nm0 ++ it).size ≤ 24 := by have := ByteArray.size_append (a := nm0) (b := it); omega
 have x3 := Ext_alloc (.cells #[.string (nm0 ++ it), .int .i64 kind, .int .i64 0, .bool false, .slice none 0 0, .slice none 0 0, .slice none 0 0, .slice none 0 0] 51) (Ext.refl w2)
 have hgs := G2.out.size
 have M0 : Hid (Mk wb w (w2.alloc (.cells #[.string (nm0 ++ it), .int .i64 kind, .int .i64 0, .bool false, .slice none 0 0, .slice none 0 0, .slice none 0 0, .slice none 0 0] 51)) p A l c w2.heap.size ⟨⟨nm0 ++ it, kind, 0, false, [], [], [], []⟩, .slice none 0 0, .slice none 0 0, .slice none 0 0, .slice none 0 0⟩) :=
  ⟨Box.new w2 _ _, ⟨OwnL.nil _ _, OwnL.nil _ _, OwnL.nil _ _, OwnL.nil _ _⟩, by simp [Far, RV.vals, Value.ownBlock], by simp [RV.vals, Value.ownBlock], hC2.ext x3, G2.out.trans (grown_ext x3 _), hgs, by omega, by omega⟩
 have HP3 := Lib.hid (HP2.out.ext x3); have HR3 := Lib.hid (HR2.out.ext x3)
 have hlt2 : w.heap.size + 1 < w2.heap.size := HR2.out.lt
 clear HP2 HR2 hC2 G2 x3 CF
 obtain ⟨W3, hW3⟩ : ∃ W3, W3 = w2.alloc (.cells #[.string (nm0 ++ it), .int .i64 kind, .int .i64 0, .bool false, .slice none 0 0, .slice none 0 0, .slice none 0 0, .slice none 0 0] 51) := ⟨_, rfl⟩
 rw [← hW3] at M0 HP3 HR3
 have HW3 := Lib.hid hW3; clear hW3
 have HCB := Lib.hid CBe.out
 rcases (by omega : kind = 8 ∨ kind = 9 ∨ kind = 3 ∨ kind = 1 ∨ kind = 10 ∨ kind = 2 ∨ kind = 4 ∨ kind = 5) with rfl | rfl | rfl | rfl | rfl | rfl | rfl | rfl
 ·have hds0 : 0 < ds.length := by obtain ⟨i, hi, _⟩ := hki.out.resolve_left (by omega); omega
  go_wp2_with fail
  rw [← HW3.out]
  refine (CBe.out ds.length _ M0.out.cur (by omega)).mono ?_; rintro _ w4 ⟨y, hy, rfl, hC4, hg4⟩
  have HYL : Hid (y < ds.length) := by show _ < _; unfold below at hy; rw [if_neg (by omega)] at hy; omega
  have hyn : y ≤ 64 := by have := HYL.out; omega
  have M4 := M0.out.moved hC4 hg4
  have HR4 := Lib.hid (HR3.out.moved hg4 (some_ne (by omega)))
  have x5 := Ext_alloc (.cells #[.int .i64 y] 3) (Ext.refl w4)
  have ho5 := OwnL.lit (f := vint) (e := 3) hC4.2.1 [(y : Int)] #[.int .i64 y] rfl 1 rfl (by omega)
  have M5 := M4.ext x5
  have z7 : _ = some (Value.slice none 0 0) := M5.box.cell 7
  have y7 := M5.box.free 7
  have hgl4 := M4.box.lt; have hpl4 := hC4.lt
  have M6 := Lib.hid (M5.fresh_k ho5 (n0 := w4.heap.size) (fun b hb => by injection hb with hb; simp at hb; omega) (by simp [RV.vals, Value.ownBlock]) (by omega) (by omega) (by have := M4.grow.size; omega))
  have HR6 := Lib.hid ((HR4.out.ext x5).other (g' := w2.heap.size) (by omega) 7 (.slice (some ⟨w4.heap.size, 0, none⟩) 1 1))
  have hcm := World.setCell_alloc_past (w := w4) (.cells #[.int .i64 y] 3) w2.heap.size 7 (.slice (some ⟨w4.heap.size, 0, none⟩) 1 1) (by omega)
  rw [hcm] at M6 HR6
  clear M4 M5 ho5 x5 hC4 hg4 HR4 hcm
  obtain ⟨⟨a0, a1, a2, a3⟩, a4, a5, a6, a7⟩ := cells8 M6.out.box
  obtain ⟨⟨b0, b1, b2, b3⟩, b4, b5, b6, b7⟩ := cells8 (q := ⟨⟨⟨#[]⟩, 0, 0, false, [], [], [], []⟩, .slice none 0 0, .slice none 0 0, .slice none 0 0, .slice none 0 0⟩) HR6.out
  obtain ⟨⟨d0, d1, d2, d3⟩, d4, d5, d6, d7⟩ := frees8 HR6.out
  dsimp only at a0 a1 a2 a3 a4 a5 a6 a7 b0 b1 b2 b3 b4 b5 b6 b7
  have hR2 : ∀ u ∈ RV.vals ⟨⟨nm0 ++ it, 8, 0, false, [], [], [], [(y : Int)]⟩, .slice none 0 0, .slice none 0 0, .slice none 0 0, .slice (some ⟨w4.heap.size, 0, none⟩) 1 1⟩, ∀ b, u.ownBlock = some b → b ≠ w.heap.size + 1 := by
   intro u hu b hb
   simp only [RV.vals, List.mem_cons, List.not_mem_nil, or_false] at hu
   rcases hu with rfl | rfl | rfl | rfl
   ·cases hb
   ·cases hb
   ·cases hb
   ·(have : some w4.heap.size = some b := hb); injection this; omega
  have HOUT := Lib.hid (M6.out.out HR6.out (by omega) (by omega) (by omega) hR2)
  dsimp only at HOUT
  have hnew := fun u hu b hb => (M6.out.new u hu b hb).1
  have hfar := M6.out.far
  go_wp2_with fail
  obtain ⟨hB, hO, hCc, hG⟩ := HOUT.out
  obtain ⟨⟨e0, e1, e2, e3⟩, e4, e5, e6, e7⟩ := cells8 (q := ⟨⟨nm0 ++ it, 8, 0, false, [], [], [], [(y : Int)]⟩, .slice none 0 0, .slice none 0 0, .slice none 0 0, .slice (some ⟨w4.heap.size, 0, none⟩) 1 1⟩) hB
  dsimp only at e0 e1 e2 e3 e4 e5 e6 e7
  refine bodyPost_ret (v := vrule ⟨nm0 ++ it, 8, 0, false, [], [], [], [(y : Int)]⟩ (.slice none 0 0) (.slice none 0 0) (.slice none 0 0) (.slice (some ⟨w4.heap.size, 0, none⟩) 1 1)) (by simp [results, Tryz.results21, go_sem, e0, e1, e2, e3, e4, e5, e6, e7, vrule]) rfl ?_
  exact ⟨_, rfl, ⟨by show (nm0 ++ it).size ≤ 40; omega, by simp, by simp, by simp; omega⟩, rfl, made_opt HNM.out HYL.out, hO, hfar, hnew, hCc, hG⟩
 ·have hds0 : 0 < ds.length := by obtain ⟨i, hi, _⟩ := hki.out.resolve_left (by omega); omega
  go_wp2_with fail
  rw [← HW3.out]
  refine (CBe.out ds.length _ M0.out.cur (by omega)).mono ?_; rintro _ w4 ⟨y, hy, rfl, hC4, hg4⟩
  have HYL : Hid (y < ds.length) := by show _ < _; unfold below at hy; rw [if_neg (by omega)] at hy; omega
  have hyn : y ≤ 64 := by have := HYL.out; omega
  have M4 := M0.out.moved hC4 hg4
  have HR4 := Lib.hid (HR3.out.moved hg4 (some_ne (by omega)))
  have x5 := Ext_alloc (.cells #[.int .i64 y] 3) (Ext.refl w4)
  have ho5 := OwnL.lit (f := vint) (e := 3) hC4.2.1 [(y : Int)] #[.int .i64 y] rfl 1 rfl (by omega)
  have M5 := M4.ext x5
  have z7 : _ = some (Value.slice none 0 0) := M5.box.cell 7
  have y7 := M5.box.free 7
  have hgl4 := M4.box.lt; have hpl4 := hC4.lt
  have M6 := Lib.hid (M5.fresh_k ho5 (n0 := w4.heap.size) (fun b hb => by injection hb with hb; simp at hb; omega) (by simp [RV.vals, Value.ownBlock]) (by omega) (by omega) (by have := M4.grow.size; omega))
  have HR6 := Lib.hid ((HR4.out.ext x5).other (g' := w2.heap.size) (by omega) 7 (.slice (some ⟨w4.heap.size, 0, none⟩) 1 1))
  have hcm := World.setCell_alloc_past (w := w4) (.cells #[.int .i64 y] 3) w2.heap.size 7 (.slice (some ⟨w4.heap.size, 0, none⟩) 1 1) (by omega)
  rw [hcm] at M6 HR6
  clear M4 M5 ho5 x5 hC4 hg4 HR4 hcm
  obtain ⟨⟨a0, a1, a2, a3⟩, a4, a5, a6, a7⟩ := cells8 M6.out.box
  obtain ⟨⟨b0, b1, b2, b3⟩, b4, b5, b6, b7⟩ := cells8 (q := ⟨⟨⟨#[]⟩, 0, 0, false, [], [], [], []⟩, .slice none 0 0, .slice none 0 0, .slice none 0 0, .slice none 0 0⟩) HR6.out
  obtain ⟨⟨d0, d1, d2, d3⟩, d4, d5, d6, d7⟩ := frees8 HR6.out
  dsimp only at a0 a1 a2 a3 a4 a5 a6 a7 b0 b1 b2 b3 b4 b5 b6 b7
  have hR2 : ∀ u ∈ RV.vals ⟨⟨nm0 ++ it, 9, 0, false, [], [], [], [(y : Int)]⟩, .slice none 0 0, .slice none 0 0, .slice none 0 0, .slice (some ⟨w4.heap.size, 0, none⟩) 1 1⟩, ∀ b, u.ownBlock = some b → b ≠ w.heap.size + 1 := by
   intro u hu b hb
   simp only [RV.vals, List.mem_cons, List.not_mem_nil, or_false] at hu
   rcases hu with rfl | rfl | rfl | rfl
   ·cases hb
   ·cases hb
   ·cases hb
   ·(have : some w4.heap.size = some b := hb); injection this; omega
  have HOUT := Lib.hid (M6.out.out HR6.out (by omega) (by omega) (by omega) hR2)
  dsimp only at HOUT
  have hnew := fun u hu b hb => (M6.out.new u hu b hb).1
  have hfar := M6.out.far
  go_wp2_with fail
  obtain ⟨hB, hO, hCc, hG⟩ := HOUT.out
  obtain ⟨⟨e0, e1, e2, e3⟩, e4, e5, e6, e7⟩ := cells8 (q := ⟨⟨nm0 ++ it, 9, 0, false, [], [], [], [(y : Int)]⟩, .slice none 0 0, .slice none 0 0, .slice none 0 0, .slice (some ⟨w4.heap.size, 0, none⟩) 1 1⟩) hB
  dsimp only at e0 e1 e2 e3 e4 e5 e6 e7
  refine bodyPost_ret (v := vrule ⟨nm0 ++ it, 9, 0, false, [], [], [], [(y : Int)]⟩ (.slice none 0 0) (.slice none 0 0) (.slice none 0 0) (.slice (some ⟨w4.heap.size, 0, none⟩) 1 1)) (by simp [results, Tryz.results21, go_sem, e0, e1, e2, e3, e4, e5, e6, e7, vrule]) rfl ?_
  exact ⟨_, rfl, ⟨by show (nm0 ++ it).size ≤ 40; omega, by simp, by simp, by simp; omega⟩, rfl, made_checked HNM.out HYL.out, hO, hfar, hnew, hCc, hG⟩
 ·go_wp2_with fail
  rw [← HW3.out]
  refine (CBe.out 4 _ M0.out.cur (by omega)).mono ?_; rintro _ w4 ⟨y, hy, rfl, hC4, hg4⟩
  have hyn : y < 4 := by unfold below at hy; rw [if_neg (by omega)] at hy; omega
  have M4 := M0.out.moved hC4 hg4
  have HR4 := Lib.hid (HR3.out.moved hg4 (some_ne (by omega)))
  have z2 : _ = some (Value.int .i64 0) := M4.box.cell 2
  have y2 := M4.box.free 2
  have M6 := Lib.hid (M4.put (q' := ⟨⟨nm0 ++ it, 3, 1 + (y : Int), false, [], [], [], []⟩, .slice none 0 0, .slice none 0 0, .slice none 0 0, .slice none 0 0⟩) 2 (.int .i64 (1 + (y : Int))) (by simp [RV.cells]) rfl ⟨rfl, rfl, rfl, rfl⟩)
  have HR6 := Lib.hid (HR4.out.other (g' := w2.heap.size) (by omega) 2 (.int .i64 (1 + (y : Int))))
  clear M4 hC4 hg4 HR4
  obtain ⟨⟨a0, a1, a2, a3⟩, a4, a5, a6, a7⟩ := cells8 M6.out.box
  obtain ⟨⟨b0, b1, b2, b3⟩, b4, b5, b6, b7⟩ := cells8 (q := ⟨⟨⟨#[]⟩, 0, 0, false, [], [], [], []⟩, .slice none 0 0, .slice none 0 0, .slice none 0 0, .slice none 0 0⟩) HR6.out
  obtain ⟨⟨d0, d1, d2, d3⟩, d4, d5, d6, d7⟩ := frees8 HR6.out
  dsimp only at a0 a1 a2 a3 a4 a5 a6 a7 b0 b1 b2 b3 b4 b5 b6 b7
  have hR2 : ∀ u ∈ RV.vals ⟨⟨nm0 ++ it, 3, 1 + (y : Int), false, [], [], [], []⟩, .slice none 0 0, .slice none 0 0, .slice none 0 0, .slice none 0 0⟩, ∀ b, u.ownBlock = some b → b ≠ w.heap.size + 1 := by
   intro u hu b hb
   simp only [RV.vals, List.mem_cons, List.not_mem_nil, or_false] at hu
   rcases hu with rfl | rfl | rfl | rfl
   ·cases hb
   ·cases hb
   ·cases hb
   ·cases hb
  have HOUT := Lib.hid (M6.out.out HR6.out (by omega) (by omega) (by omega) hR2)
  dsimp only at HOUT
  have hnew := fun u hu b hb => (M6.out.new u hu b hb).1
  have hfar := M6.out.far
  go_wp2_with fail
  obtain ⟨hB, hO, hCc, hG⟩ := HOUT.out
  obtain ⟨⟨e0, e1, e2, e3⟩, e4, e5, e6, e7⟩ := cells8 (q := ⟨⟨nm0 ++ it, 3, 1 + (y : Int), false, [], [], [], []⟩, .slice none 0 0, .slice none 0 0, .slice none 0 0, .slice none 0 0⟩) hB
  dsimp only at e0 e1 e2 e3 e4 e5 e6 e7
  refine bodyPost_ret (v := vrule ⟨nm0 ++ it, 3, 1 + (y : Int), false, [], [], [], []⟩ (.slice none 0 0) (.slice none 0 0) (.slice none 0 0) (.slice none 0 0)) (by simp [results, Tryz.results21, go_sem, e0, e1, e2, e3, e4, e5, e6, e7, vrule]) rfl ?_
  exact ⟨_, rfl, ⟨by show (nm0 ++ it).size ≤ 40; omega, by simp, by simp, by simp; omega⟩, rfl, made_fixed HNM.out (by omega), hO, hfar, hnew, hCc, hG⟩
 ·go_wp2_with fail
  rw [← HW3.out]
  refine (CBe.out 3 _ M0.out.cur (by omega)).mono ?_; rintro _ w4 ⟨y, hy, rfl, hC4, hg4⟩
  have hyn : y < 3 := by unfold below at hy; rw [if_neg (by omega)] at hy; omega
  have M4 := M0.out.moved hC4 hg4
  have HR4 := Lib.hid (HR3.out.moved hg4 (some_ne (by omega)))
  have z2 : _ = some (Value.int .i64 0) := M4.box.cell 2
  have y2 := M4.box.free 2
  have M5 := Lib.hid (M4.put (q' := ⟨⟨nm0 ++ it, 1, 1 + (y : Int), false, [], [], [], []⟩, .slice none 0 0, .slice none 0 0, .slice none 0 0, .slice none 0 0⟩) 2 (.int .i64 (1 + (y : Int))) (by simp [RV.cells]) rfl ⟨rfl, rfl, rfl, rfl⟩)
  have HR5 := Lib.hid (HR4.out.other (g' := w2.heap.size) (by omega) 2 (.int .i64 (1 + (y : Int))))
  clear M4 hC4 hg4 HR4
  have z5 : _ = some (Value.int .i64 (1 + (y : Int))) := M5.out.box.cell 2
  by_cases hy0 : y = 0
  ·have hd : decide ((1 : Int) < 1 + (y : Int)) = false := by rw [decide_eq_false_iff_not]; omega
   have hd1 : decide ((0 : Int) < (y : Int)) = false := by rw [decide_eq_false_iff_not]; omega
   have hd2 : decide (0 < y) = false := by rw [decide_eq_false_iff_not]; omega
   have hd3 : ¬ (1 : Int) < 1 + (y : Int) := by omega
   clear hy0
   have z3 : _ = some (Value.bool false) := M5.out.box.cell 3
   have y3 := M5.out.box.free 3
   have M6 := Lib.hid (M5.out.put (q' := ⟨⟨nm0 ++ it, 1, 1 + (y : Int), false, [], [], [], []⟩, .slice none 0 0, .slice none 0 0, .slice none 0 0, .slice none 0 0⟩) 3 (.bool false) (by simp [RV.cells]) rfl ⟨rfl, rfl, rfl, rfl⟩)
   have HR6 := Lib.hid (HR5.out.other (g' := w2.heap.size) (by omega) 3 (.bool false))
   clear M5 HR5
   obtain ⟨⟨a0, a1, a2, a3⟩, a4, a5, a6, a7⟩ := cells8 M6.out.box
   obtain ⟨⟨b0, b1, b2, b3⟩, b4, b5, b6, b7⟩ := cells8 (q := ⟨⟨⟨#[]⟩, 0, 0, false, [], [], [], []⟩, .slice none 0 0, .slice none 0 0, .slice none 0 0, .slice none 0 0⟩) HR6.out
   obtain ⟨⟨d0, d1, d2, d3⟩, d4, d5, d6, d7⟩ := frees8 HR6.out
   dsimp only at a0 a1 a2 a3 a4 a5 a6 a7 b0 b1 b2 b3 b4 b5 b6 b7
   have hR2 : ∀ u ∈ RV.vals ⟨⟨nm0 ++ it, 1, 1 + (y : Int), false, [], [], [], []⟩, .slice none 0 0, .slice none 0 0, .slice none 0 0, .slice none 0 0⟩, ∀ b, u.ownBlock = some b → b ≠ w.heap.size + 1 := by
    intro u hu b hb
    simp only [RV.vals, List.mem_cons, List.not_mem_nil, or_false] at hu
    rcases hu with rfl | rfl | rfl | rfl
    ·cases hb
    ·cases hb
    ·cases hb
    ·cases hb
   have HOUT := Lib.hid (M6.out.out HR6.out (by omega) (by omega) (by omega) hR2)
   dsimp only at HOUT
   have hnew := fun u hu b hb => (M6.out.new u hu b hb).1
   have hfar := M6.out.far
   go_wp2_with fail
   obtain ⟨hB, hO, hCc, hG⟩ := HOUT.out
   obtain ⟨⟨e0, e1, e2, e3⟩, e4, e5, e6, e7⟩ := cells8 (q := ⟨⟨nm0 ++ it, 1, 1 + (y : Int), false, [], [], [], []⟩, .slice none 0 0, .slice none 0 0, .slice none 0 0, .slice none 0 0⟩) hB
   dsimp only at e0 e1 e2 e3 e4 e5 e6 e7
   refine bodyPost_ret (v := vrule ⟨nm0 ++ it, 1, 1 + (y : Int), false, [], [], [], []⟩ (.slice none 0 0) (.slice none 0 0) (.slice none 0 0) (.slice none 0 0)) (by simp [results, Tryz.results21, go_sem, e0, e1, e2, e3, e4, e5, e6, e7, vrule]) rfl ?_
   exact ⟨_, rfl, ⟨by show (nm0 ++ it).size ≤ 40; omega, by simp, by simp, by simp; omega⟩, rfl, made_int HNM.out (by omega) (fun h => by first | omega | cases h), hO, hfar, hnew, hCc, hG⟩
  ·have hd : decide ((1 : Int) < 1 + (y : Int)) = true := by rw [decide_eq_true_eq]; omega
   go_wp2_with fail
   refine (COn.out 2 _ M5.out.cur (by omega)).mono ?_; rintro _ w6 ⟨bb, rfl, hC6, hg6⟩
   have M7 := M5.out.moved hC6 hg6
   have HR7 := Lib.hid (HR5.out.moved hg6 (some_ne (by omega)))
   have z3 : _ = some (Value.bool false) := M7.box.cell 3
   have y3 := M7.box.free 3
   have M6 := Lib.hid (M7.put (q' := ⟨⟨nm0 ++ it, 1, 1 + (y : Int), bb, [], [], [], []⟩, .slice none 0 0, .slice none 0 0, .slice none 0 0, .slice none 0 0⟩) 3 (.bool bb) (by simp [RV.cells]) rfl ⟨rfl, rfl, rfl, rfl⟩)
   have HR6 := Lib.hid (HR7.out.other (g' := w2.heap.size) (by omega) 3 (.bool bb))
   clear M5 HR5 M7 HR7 hC6 hg6
   obtain ⟨⟨a0, a1, a2, a3⟩, a4, a5, a6, a7⟩ := cells8 M6.out.box
   obtain ⟨⟨b0, b1, b2, b3⟩, b4, b5, b6, b7⟩ := cells8 (q := ⟨⟨⟨#[]⟩, 0, 0, false, [], [], [], []⟩, .slice none 0 0, .slice none 0 0, .slice none 0 0, .slice none 0 0⟩) HR6.out
   obtain ⟨⟨d0, d1, d2, d3⟩, d4, d5, d6, d7⟩ := frees8 HR6.out
   dsimp only at a0 a1 a2 a3 a4 a5 a6 a7 b0 b1 b2 b3 b4 b5 b6 b7
   have hR2 : ∀ u ∈ RV.vals ⟨⟨nm0 ++ it, 1, 1 + (y : Int), bb, [], [], [], []⟩, .slice none 0 0, .slice none 0 0, .slice none 0 0, .slice none 0 0⟩, ∀ b, u.ownBlock = some b → b ≠ w.heap.size + 1 := by
    intro u hu b hb
    simp only [RV.vals, List.mem_cons, List.not_mem_nil, or_false] at hu
    rcases hu with rfl | rfl | rfl | rfl
    ·cases hb
    ·cases hb
    ·cases hb
    ·cases hb
   have HOUT := Lib.hid (M6.out.out HR6.out (by omega) (by omega) (by omega) hR2)
   dsimp only at HOUT
   have hnew := fun u hu b hb => (M6.out.new u hu b hb).1
   have hfar := M6.out.far
   go_wp2_with fail
   obtain ⟨hB, hO, hCc, hG⟩ := HOUT.out
   obtain ⟨⟨e0, e1, e2, e3⟩, e4, e5, e6, e7⟩ := cells8 (q := ⟨⟨nm0 ++ it, 1, 1 + (y : Int), bb, [], [], [], []⟩, .slice none 0 0, .slice none 0 0, .slice none 0 0, .slice none 0 0⟩) hB
   dsimp only at e0 e1 e2 e3 e4 e5 e6 e7
   refine bodyPost_ret (v := vrule ⟨nm0 ++ it, 1, 1 + (y : Int), bb, [], [], [], []⟩ (.slice none 0 0) (.slice none 0 0) (.slice none 0 0) (.slice none 0 0)) (by simp [results, Tryz.results21, go_sem, e0, e1, e2, e3, e4, e5, e6, e7, vrule]) rfl ?_
   exact ⟨_, rfl, ⟨by show (nm0 ++ it).size ≤ 40; omega, by simp, by simp, by simp; omega⟩, rfl, made_int HNM.out (by omega) (fun h => by first | omega | cases h), hO, hfar, hnew, hCc, hG⟩
 ·have hsz3 : W3.heap.size = w2.heap.size + 1 := by rw [HW3.out]; simp
  have CI := l1IntLit_c [0, 10, 59, 255] (by simp) (by simp) 4 rfl #[.int .i64 0, .int .i64 10, .int .i64 59, .int .i64 255] rfl wb W3 p A l c hA M0.out.cur
  rw [hsz3] at CI
  have CI := Lib.hid CI
  go_wp2_with fail
  rw [← HW3.out]
  refine CI.out.mono ?_; rintro _ w4 ⟨x, hx, rfl, hC4, hg4⟩
  obtain ⟨y, hy, hy92, rfl⟩ : ∃ y : Nat, y < 256 ∧ UInt8.ofNat y ≠ 92 ∧ x = (y : Int) := by
   simp only [List.mem_cons, List.not_mem_nil, or_false] at hx
   rcases hx with rfl | rfl | rfl | rfl
   ·exact ⟨0, by omega, by decide, rfl⟩
   ·exact ⟨10, by omega, by decide, rfl⟩
   ·exact ⟨59, by omega, by decide, rfl⟩
   ·exact ⟨255, by omega, by decide, rfl⟩
  have HY92 := Lib.hid hy92; clear hx hy92
  have hyb : (UInt8.ofNat y).toNat = y := by rw [UInt8.toNat_ofNat']; omega
  have M4 := M0.out.moved hC4 hg4
  have HR4 := Lib.hid (HR3.out.moved hg4 (some_ne (by omega)))
  have x5 := Ext_alloc (.cells #[.int .u8 y] 5) (Ext.refl w4)
  have ho5 := OwnL.lit (f := vu8) (e := 5) hC4.2.1 [UInt8.ofNat y] #[.int .u8 y] (by simp [vu8, hyb]) 1 rfl (by omega)
  have M5 := M4.ext x5
  have z7 : _ = some (Value.slice none 0 0) := M5.box.cell 4
  have y7 := M5.box.free 4
  have hgl4 := M4.box.lt; have hpl4 := hC4.lt
  have M6 := Lib.hid (M5.fresh_b ho5 (n0 := w4.heap.size) (fun b hb => by injection hb with hb; simp at hb; omega) (by simp [RV.vals, Value.ownBlock]) (by omega) (by omega) (by have := M4.grow.size; omega))
  have HR6 := Lib.hid ((HR4.out.ext x5).other (g' := w2.heap.size) (by omega) 4 (.slice (some ⟨w4.heap.size, 0, none⟩) 1 1))
  have hcm := World.setCell_alloc_past (w := w4) (.cells #[.int .u8 y] 5) w2.heap.size 4 (.slice (some ⟨w4.heap.size, 0, none⟩) 1 1) (by omega)
  rw [hcm] at M6 HR6
  clear M4 M5 ho5 x5 hC4 hg4 HR4 hcm hyb
  obtain ⟨⟨a0, a1, a2, a3⟩, a4, a5, a6, a7⟩ := cells8 M6.out.box
  obtain ⟨⟨b0, b1, b2, b3⟩, b4, b5, b6, b7⟩ := cells8 (q := ⟨⟨⟨#[]⟩, 0, 0, false, [], [], [], []⟩, .slice none 0 0, .slice none 0 0, .slice none 0 0, .slice none 0 0⟩) HR6.out
  obtain ⟨⟨d0, d1, d2, d3⟩, d4, d5, d6, d7⟩ := frees8 HR6.out
  dsimp only at a0 a1 a2 a3 a4 a5 a6 a7 b0 b1 b2 b3 b4 b5 b6 b7
  have hR2 : ∀ u ∈ RV.vals ⟨⟨nm0 ++ it, 10, 0, false, [UInt8.ofNat y], [], [], []⟩, .slice (some ⟨w4.heap.size, 0, none⟩) 1 1, .slice none 0 0, .slice none 0 0, .slice none 0 0⟩, ∀ b, u.ownBlock = some b → b ≠ w.heap.size + 1 := by
   intro u hu b hb
   simp only [RV.vals, List.mem_cons, List.not_mem_nil, or_false] at hu
   rcases hu with rfl | rfl | rfl | rfl
   ·(have : some w4.heap.size = some b := hb); injection this; omega
   ·cases hb
   ·cases hb
   ·cases hb
  have HOUT := Lib.hid (M6.out.out HR6.out (by omega) (by omega) (by omega) hR2)
  dsimp only at HOUT
  have hnew := fun u hu b hb => (M6.out.new u hu b hb).1
  have hfar := M6.out.far
  go_wp2_with fail
  obtain ⟨hB, hO, hCc, hG⟩ := HOUT.out
  obtain ⟨⟨e0, e1, e2, e3⟩, e4, e5, e6, e7⟩ := cells8 (q := ⟨⟨nm0 ++ it, 10, 0, false, [UInt8.ofNat y], [], [], []⟩, .slice (some ⟨w4.heap.size, 0, none⟩) 1 1, .slice none 0 0, .slice none 0 0, .slice none 0 0⟩) hB
  dsimp only at e0 e1 e2 e3 e4 e5 e6 e7
  refine bodyPost_ret (v := vrule ⟨nm0 ++ it, 10, 0, false, [UInt8.ofNat y], [], [], []⟩ (.slice (some ⟨w4.heap.size, 0, none⟩) 1 1) (.slice none 0 0) (.slice none 0 0) (.slice none 0 0)) (by simp [results, Tryz.results21, go_sem, e0, e1, e2, e3, e4, e5, e6, e7, vrule]) rfl ?_
  exact ⟨_, rfl, ⟨by show (nm0 ++ it).size ≤ 40; omega, by simp, by simp, by simp; try omega⟩, rfl, made_term HNM.out HY92.out, hO, hfar, hnew, hCc, hG⟩
 ·go_wp2_with fail
  rw [← HW3.out]
  refine (CBe.out 3 _ M0.out.cur (by omega)).mono ?_; rintro _ w4 ⟨y, hy, rfl, hC4, hg4⟩
  have hyn : y < 3 := by unfold below at hy; rw [if_neg (by omega)] at hy; omega
  have M4 := M0.out.moved hC4 hg4
  have HR4 := Lib.hid (HR3.out.moved hg4 (some_ne (by omega)))
  have CB := l1Bytes_c (1 + y) (by omega) wb w4 p A l c hA hC4
  rw [show ((1 + y : Nat) : Int) = 1 + (y : Int) by omega] at CB
  have CB := Lib.hid CB
  have hgl4 := M4.box.lt; have hpl4 := hC4.lt
  go_wp2_with fail
  refine CB.out.mono ?_; rintro _ w5 ⟨vb, qb, hqb, rfl, ho5, hn5, hC5, hg5⟩
  obtain ⟨A5, c5, rfl, _⟩ := OwnL.rd ho5 (by omega)
  replace hqb := Lib.hid hqb
  have M5 := M4.moved hC5 hg5
  have HR5 := Lib.hid (HR4.out.moved hg5 (some_ne (by omega)))
  have z7 : _ = some (Value.slice none 0 0) := M5.box.cell 4
  have y7 := M5.box.free 4
  have M6 := Lib.hid (M5.fresh_b ho5 (n0 := w4.heap.size) hn5 (by simp [RV.vals, Value.ownBlock]) (by omega) (by omega) (by have := M4.grow.size; omega))
  have HR6 := Lib.hid (HR5.out.other (g' := w2.heap.size) (by omega) 4 (.slice A5 qb.length c5))
  have hn5' : Hid (∀ g, (Value.slice A5 qb.length c5).ownBlock = some g → w.heap.size + 1 < g) := fun g hg => by have := hn5 g hg; omega
  clear M4 M5 ho5 hn5 hC4 hg4 HR4 HR5 hC5 hg5 CB
  obtain ⟨⟨a0, a1, a2, a3⟩, a4, a5, a6, a7⟩ := cells8 M6.out.box
  obtain ⟨⟨b0, b1, b2, b3⟩, b4, b5, b6, b7⟩ := cells8 (q := ⟨⟨⟨#[]⟩, 0, 0, false, [], [], [], []⟩, .slice none 0 0, .slice none 0 0, .slice none 0 0, .slice none 0 0⟩) HR6.out
  obtain ⟨⟨d0, d1, d2, d3⟩, d4, d5, d6, d7⟩ := frees8 HR6.out
  dsimp only at a0 a1 a2 a3 a4 a5 a6 a7 b0 b1 b2 b3 b4 b5 b6 b7
  have hR2 : ∀ u ∈ RV.vals ⟨⟨nm0 ++ it, 2, 0, false, qb, [], [], []⟩, .slice A5 qb.length c5, .slice none 0 0, .slice none 0 0, .slice none 0 0⟩, ∀ b, u.ownBlock = some b → b ≠ w.heap.size + 1 := by
   intro u hu b hb
   simp only [RV.vals, List.mem_cons, List.not_mem_nil, or_false] at hu
   rcases hu with rfl | rfl | rfl | rfl
   ·have := hn5'.out b hb; omega
   ·cases hb
   ·cases hb
   ·cases hb
  have HOUT := Lib.hid (M6.out.out HR6.out (by omega) (by omega) (by omega) hR2)
  dsimp only at HOUT
  have hnew := fun u hu b hb => (M6.out.new u hu b hb).1
  have hfar := M6.out.far
  go_wp2_with fail
  obtain ⟨hB, hO, hCc, hG⟩ := HOUT.out
  obtain ⟨⟨e0, e1, e2, e3⟩, e4, e5, e6, e7⟩ := cells8 (q := ⟨⟨nm0 ++ it, 2, 0, false, qb, [], [], []⟩, .slice A5 qb.length c5, .slice none 0 0, .slice none 0 0, .slice none 0 0⟩) hB
  dsimp only at e0 e1 e2 e3 e4 e5 e6 e7
  refine bodyPost_ret (v := vrule ⟨nm0 ++ it, 2, 0, false, qb, [], [], []⟩ (.slice A5 qb.length c5) (.slice none 0 0) (.slice none 0 0) (.slice none 0 0)) (by simp [results, Tryz.results21, go_sem, e0, e1, e2, e3, e4, e5, e6, e7, vrule]) rfl ?_
  exact ⟨_, rfl, ⟨by show (nm0 ++ it).size ≤ 40; omega, by have := hqb.out; simp; omega, by simp, by simp; try omega⟩, rfl, made_const HNM.out (by rw [hqb.out]; omega) (by rw [hqb.out]; omega), hO, hfar, hnew, hCc, hG⟩
 ·have zp : _ = some (Value.slice Ad ds.length cd) := HP3.out.cell 0
  rw [HW3.out] at zp
  have hki' := hki.out.resolve_left (by omega)
  have hds0 : 0 < ds.length := by obtain ⟨i, hi, _⟩ := hki'; omega
  have CI := Lib.hid (l4Integer_c Ad ds cd hds0 hDn hki' wb W3 p A l c hA M0.out.cur (HD.out _ M0.out.grow))
  unfold vdesc at CI
  clear hki' hki
  go_wp2_with fail
  rw [← HW3.out]
  refine CI.out.mono ?_; rintro _ w4 ⟨x, hx, hxk, rfl, hC4, hg4⟩
  have HXK := Lib.hid hxk; have HXL := Lib.hid hx; clear CI zp hxk
  have M4 := M0.out.moved hC4 hg4
  have HR4 := Lib.hid (HR3.out.moved hg4 (some_ne (by omega)))
  have x5 := Ext_alloc (.cells #[.int .i64 x] 3) (Ext.refl w4)
  have ho5 := OwnL.lit (f := vint) (e := 3) hC4.2.1 [(x : Int)] #[.int .i64 x] rfl 1 rfl (by omega)
  have M5 := M4.ext x5
  have z7 : _ = some (Value.slice none 0 0) := M5.box.cell 7
  have y7 := M5.box.free 7
  have hgl4 := M4.box.lt; have hpl4 := hC4.lt
  have M6 := Lib.hid (M5.fresh_k ho5 (n0 := w4.heap.size) (fun b hb => by injection hb with hb; simp at hb; omega) (by simp [RV.vals, Value.ownBlock]) (by omega) (by omega) (by have := M4.grow.size; omega))
  have HR6 := Lib.hid ((HR4.out.ext x5).other (g' := w2.heap.size) (by omega) 7 (.slice (some ⟨w4.heap.size, 0, none⟩) 1 1))
  have hcm := World.setCell_alloc_past (w := w4) (.cells #[.int .i64 x] 3) w2.heap.size 7 (.slice (some ⟨w4.heap.size, 0, none⟩) 1 1) (by omega)
  rw [hcm] at M6 HR6
  clear M4 M5 ho5 x5 hC4 hg4 HR4 hcm
  obtain ⟨⟨a0, a1, a2, a3⟩, a4, a5, a6, a7⟩ := cells8 M6.out.box
  obtain ⟨⟨b0, b1, b2, b3⟩, b4, b5, b6, b7⟩ := cells8 (q := ⟨⟨⟨#[]⟩, 0, 0, false, [], [], [], []⟩, .slice none 0 0, .slice none 0 0, .slice none 0 0, .slice none 0 0⟩) HR6.out
  obtain ⟨⟨d0, d1, d2, d3⟩, d4, d5, d6, d7⟩ := frees8 HR6.out
  dsimp only at a0 a1 a2 a3 a4 a5 a6 a7 b0 b1 b2 b3 b4 b5 b6 b7
  have hR2 : ∀ u ∈ RV.vals ⟨⟨nm0 ++ it, 4, 0, false, [], [], [], [(x : Int)]⟩, .slice none 0 0, .slice none 0 0, .slice none 0 0, .slice (some ⟨w4.heap.size, 0, none⟩) 1 1⟩, ∀ b, u.ownBlock = some b → b ≠ w.heap.size + 1 := by
   intro u hu b hb
   simp only [RV.vals, List.mem_cons, List.not_mem_nil, or_false] at hu
   rcases hu with rfl | rfl | rfl | rfl
   ·cases hb
   ·cases hb
   ·cases hb
   ·(have : some w4.heap.size = some b := hb); injection this; omega
  have HOUT := Lib.hid (M6.out.out HR6.out (by omega) (by omega) (by omega) hR2)
  dsimp only at HOUT
  have hnew := fun u hu b hb => (M6.out.new u hu b hb).1
  have hfar := M6.out.far
  go_wp2_with fail
  obtain ⟨hB, hO, hCc, hG⟩ := HOUT.out
  obtain ⟨⟨e0, e1, e2, e3⟩, e4, e5, e6, e7⟩ := cells8 (q := ⟨⟨nm0 ++ it, 4, 0, false, [], [], [], [(x : Int)]⟩, .slice none 0 0, .slice none 0 0, .slice none 0 0, .slice (some ⟨w4.heap.size, 0, none⟩) 1 1⟩) hB
  dsimp only at e0 e1 e2 e3 e4 e5 e6 e7
  refine bodyPost_ret (v := vrule ⟨nm0 ++ it, 4, 0, false, [], [], [], [(x : Int)]⟩ (.slice none 0 0) (.slice none 0 0) (.slice none 0 0) (.slice (some ⟨w4.heap.size, 0, none⟩) 1 1)) (by simp [results, Tryz.results21, go_sem, e0, e1, e2, e3, e4, e5, e6, e7, vrule]) rfl ?_
  exact ⟨_, rfl, ⟨by show (nm0 ++ it).size ≤ 40; omega, by simp, by simp, by simp; omega⟩, rfl, made_sized HNM.out hMD.out HXL.out HXK.out, hO, hfar, hnew, hCc, hG⟩
 ·have zp : _ = some (Value.slice Ad ds.length cd) := HP3.out.cell 0
  rw [HW3.out] at zp
  have hki' := hki.out.resolve_left (by omega)
  have hds0 : 0 < ds.length := by obtain ⟨i, hi, _⟩ := hki'; omega
  have CI := Lib.hid (l4Integer_c Ad ds cd hds0 hDn hki' wb W3 p A l c hA M0.out.cur (HD.out _ M0.out.grow))
  unfold vdesc at CI
  clear hki' hki
  go_wp2_with fail
  rw [← HW3.out]
  refine CI.out.mono ?_; rintro _ w3' ⟨x, hx, hxk, rfl, hC3, hg3⟩
  have HXK := Lib.hid hxk; have HXL := Lib.hid hx; clear CI zp hxk
  have M3 := Lib.hid (M0.out.moved hC3 hg3)
  have HR3' := Lib.hid (HR3.out.moved hg3 (some_ne (by omega)))
  go_wp2_with fail
  refine (CBe.out ds.length _ M3.out.cur (by omega)).mono ?_; rintro _ w4 ⟨y, hy, rfl, hC4, hg4⟩
  have HYL : Hid (y < ds.length) := by show _ < _; unfold below at hy; rw [if_neg (by omega)] at hy; omega
  have hyn : y ≤ 64 := by have := HYL.out; omega
  have M4 := M3.out.moved hC4 hg4
  have HR4 := Lib.hid (HR3'.out.moved hg4 (some_ne (by omega)))
  clear M3 HR3'
  have x5 := Ext_alloc (.cells #[.int .i64 x, .int .i64 y] 3) (Ext.refl w4)
  have ho5 := OwnL.lit (f := vint) (e := 3) hC4.2.1 [(x : Int), (y : Int)] #[.int .i64 x, .int .i64 y] rfl 2 rfl (by omega)
  have M5 := M4.ext x5
  have z7 : _ = some (Value.slice none 0 0) := M5.box.cell 7
  have y7 := M5.box.free 7
  have hgl4 := M4.box.lt; have hpl4 := hC4.lt
  have M6 := Lib.hid (M5.fresh_k ho5 (n0 := w4.heap.size) (fun b hb => by injection hb with hb; simp at hb; omega) (by simp [RV.vals, Value.ownBlock]) (by omega) (by omega) (by have := M4.grow.size; omega))
  have HR6 := Lib.hid ((HR4.out.ext x5).other (g' := w2.heap.size) (by omega) 7 (.slice (some ⟨w4.heap.size, 0, none⟩) 2 2))
  have hcm := World.setCell_alloc_past (w := w4) (.cells #[.int .i64 x, .int .i64 y] 3) w2.heap.size 7 (.slice (some ⟨w4.heap.size, 0, none⟩) 2 2) (by omega)
  rw [hcm] at M6 HR6
  clear M4 M5 ho5 x5 hC4 hg4 HR4 hcm
  obtain ⟨⟨a0, a1, a2, a3⟩, a4, a5, a6, a7⟩ := cells8 M6.out.box
  obtain ⟨⟨b0, b1, b2, b3⟩, b4, b5, b6, b7⟩ := cells8 (q := ⟨⟨⟨#[]⟩, 0, 0, false, [], [], [], []⟩, .slice none 0 0, .slice none 0 0, .slice none 0 0, .slice none 0 0⟩) HR6.out
  obtain ⟨⟨d0, d1, d2, d3⟩, d4, d5, d6, d7⟩ := frees8 HR6.out
  dsimp only at a0 a1 a2 a3 a4 a5 a6 a7 b0 b1 b2 b3 b4 b5 b6 b7
  have hR2 : ∀ u ∈ RV.vals ⟨⟨nm0 ++ it, 5, 0, false, [], [], [], [(x : Int), (y : Int)]⟩, .slice none 0 0, .slice none 0 0, .slice none 0 0, .slice (some ⟨w4.heap.size, 0, none⟩) 2 2⟩, ∀ b, u.ownBlock = some b → b ≠ w.heap.size + 1 := by
   intro u hu b hb
   simp only [RV.vals, List.mem_cons, List.not_mem_nil, or_false] at hu
   rcases hu with rfl | rfl | rfl | rfl
   ·cases hb
   ·cases hb
   ·cases hb
   ·(have : some w4.heap.size = some b := hb); injection this; omega
  have HOUT := Lib.hid (M6.out.out HR6.out (by omega) (by omega) (by omega) hR2)
  dsimp only at HOUT
  have hnew := fun u hu b hb => (M6.out.new u hu b hb).1
  have hfar := M6.out.far
  go_wp2_with fail
  obtain ⟨hB, hO, hCc, hG⟩ := HOUT.out
  obtain ⟨⟨e0, e1, e2, e3⟩, e4, e5, e6, e7⟩ := cells8 (q := ⟨⟨nm0 ++ it, 5, 0, false, [], [], [], [(x : Int), (y : Int)]⟩, .slice none 0 0, .slice none 0 0, .slice none 0 0, .slice (some ⟨w4.heap.size, 0, none⟩) 2 2⟩) hB
  dsimp only at e0 e1 e2 e3 e4 e5 e6 e7
  refine bodyPost_ret (v := vrule ⟨nm0 ++ it, 5, 0, false, [], [], [], [(x : Int), (y : Int)]⟩ (.slice none 0 0) (.slice none 0 0) (.slice none 0 0) (.slice (some ⟨w4.heap.size, 0, none⟩) 2 2)) (by simp [results, Tryz.results21, go_sem, e0, e1, e2, e3, e4, e5, e6, e7, vrule]) rfl ?_
  exact ⟨_, rfl, ⟨by show (nm0 ++ it).size ≤ 40; omega, by simp, by simp, by simp; omega⟩, rfl, made_array HNM.out hMD.out HXL.out HXK.out HYL.out, hO, hfar, hnew, hCc, hG⟩
section
variable {P : Program} {ops : Array Oper} {o : Oper} {a : Act} {Q : Exit → Act → World → Prop} {K : Act → World → Prop} {E : Prop}
theorem step_appG (hgd : o.guard = none) (s x : Operand) (t : TypeId) (ho : o.op = .call { callee := .builtin .append, args := #[s, x], argTypes := #[t, t] })
 {e : TypeId} {bytes : Nat} {z : Value} (hE : Elem P t e 1 bytes z) (hby : 1 ≤ bytes) (w0 w : World) {α : Type} (f : α → Value) (hf : ∀ x, (f x).oneCell' = true) (v : Value) (hs : a.eval s = v) (A : Option Addr) (m c : Nat) (hx : a.eval x = .slice A m c)
 (l ys : List α) (hown : OwnL f e w0 w v l) (he : Ext w0 w) (hm : m = ys.length)
 (hA : 0 < ys.length → ∃ ad, A = some ad ∧ ∀ j u, (ys.map f)[j]? = some u → w.cell? (ad.add j) = some u)
 (hb : (l.length + ys.length) * bytes ≤ 140737488355328)
 (h : ∀ v' w', OwnL f e w0 w' v' (l ++ ys) → Ext w0 w' → (v'.ownBlock = v.ownBlock ∨ v'.ownBlock = some w.heap.size) → w.grownBy w' v.ownBlock → K (a.put o.dst v') w') :
 if Region.wanted o (yielded ops a.tmps) = true then Oper.wp P o a w K Q else E := by
 have hw : Region.wanted o (yielded ops a.tmps) = true := by simp [Region.wanted, hgd]
 rw [if_pos hw]
 obtain ⟨i0, hi0, hz0, hz1, hz2⟩ := info_parts hE.hi
 subst hm
 have hfin : ∀ v' w', Own e 1 w0 w' v' (l.length + ys.length) (l.map f ++ ys.map f) → Ext w0 w' → (v'.ownBlock = v.ownBlock ∨ v'.ownBlock = some w.heap.size) → w.grownBy w' v.ownBlock → K (a.put o.dst v') w' := fun v' w' h1 h2 h3 h4 => h v' w' (by simpa [OwnL] using h1) h2 h3 h4
 rcases A with _ | ad
 ·have hm0 : ys.length = 0 := by
   rcases Nat.eq_zero_or_pos ys.length with h0 | h0
   ·exact h0
   ·obtain ⟨ad, h, _⟩ := hA h0
    cases h
  obtain rfl : ys = [] := List.eq_nil_of_length_eq_zero hm0
  unfold Oper.wp execOp
  simp only [ho, resolve, invoke, builtin, Sem.run_bind, Sem.run_pure, Result.andThen_ok, List.map_toArray, List.map_cons, List.map_nil, List.length_nil, hs, hx, run_app_nil w w0.heap.size t o.type e i0 1 hE.ht hi0 v l.length (l.map f) hown c]
  exact hfin v w (by have h' := hown; unfold OwnL at h'; simpa using h') he (.inl rfl) (World.grownBy.refl w _)
 ·obtain ⟨v', w', hr, h2, h3, h4, h5⟩ := run_append_own_at (P := P) w w0.heap.size t o.type e i0 z 1 bytes hE.ht hi0 hz0 hz1 hz2 hE.hz hE.hs v l.length (l.map f) hown ad ys.length c (ys.map f) (by simp)
   (fun j u hu => by
    rcases Nat.eq_zero_or_pos ys.length with h0 | h0
    ·obtain rfl : ys = [] := List.eq_nil_of_length_eq_zero h0
     simp at hu
    ·obtain ⟨ad', h', hc⟩ := hA h0
     injection h' with h'
     subst h'
     exact hc j u hu)
   (fun u hu => by obtain ⟨x, _, rfl⟩ := List.mem_map.1 hu; exact hf x) (by have := Nat.mul_le_mul_left (l.length + ys.length) hby; simp only [maxLen]; omega) hb he.size
  unfold Oper.wp execOp
  simp only [ho, resolve, invoke, builtin, Sem.run_bind, Sem.run_pure, Result.andThen_ok, List.map_toArray, List.map_cons, List.map_nil, hs, hx, hr]
  exact hfin v' w' h2 (he.grown h3 (fun k hk => (hown.lt k hk).1)) h5 h3
end
def appOk (l : List UInt8) (s k : Int) (nm : ByteArray) (ver : Int) (d : List UInt8) : Bool := validLog l s && validRec k nm ver d.length
def appBytes (l : List UInt8) (s k : Int) (nm : ByteArray) (ver : Int) (d : List UInt8) : List UInt8 := if appOk l s k nm ver d then l ++ encRec k nm ver d else l
theorem l1StrBox_c (ns : List ByteArray) (hns : 0 < ns.length) (hns2 : ns.length ≤ 256) (n : Nat) (hn : n = ns.length) (cs : Array Value) (hcs : cs = (ns.map vstr).toArray) (wb w : World) (p : Nat) (A : Option Addr) (l : List UInt8) (c : Nat) (hA : Bs wb A l c) (b : Nat) (hC : Cur wb w p A l c) (hb : Box w b cs 9) :
 Calls Tryz.prog 41 #[.pointer (some ⟨p, 0, none⟩), .slice (some ⟨b, 0, none⟩) n n] w fun e w' => ∃ x ∈ ns, e = .returned (.string x) ∧ Cur wb w' p A l c ∧ w.grownBy w' (some p) := by
 subst hn; subst hcs
 have hbp : p ≠ b := by
  rintro rfl
  obtain ⟨_, _, i, x, _, h4⟩ := hC
  have h5 : w.heap[p]? = _ := hb
  rw [h5] at h4
  injection h4 with h4
  injection h4 with _ h7
  exact absurd h7 (by decide)
 refine (l1Str_c (some ⟨b, 0, none⟩) ns ns.length hns hns2 wb _ p A l c hA hC ?_).mono ?_
 ·intro w' hg i hi
  refine ⟨b, 0, rfl, ?_⟩
  rw [(hb.moved hg (some_ne hbp)).cell (0 + i), Nat.zero_add]
  simp [vstr, hi]
 ·rintro e w' ⟨x, hx, he, hC1, hg⟩
  exact ⟨x, hx, he, hC1, hg⟩
theorem l4Make6_c (Ad : Option Addr) (ds : List DRule) (cd : Nat) (kind : Int) (hkind : kind = 6) (hDn : ds.length ≤ 64) (hki : kind = 1 ∨ ∃ i, ∃ h : i < ds.length, ds[i].kind = 1) (hMD : MadeD ds)
 (wb w : World) (p : Nat) (A : Option Addr) (l : List UInt8) (c : Nat) (hA : Bs wb A l c) (hC : Cur wb w p A l c) (hD : ∀ w', w.grownBy w' (some p) → RdD w' Ad ds cd) :
 Calls Tryz.prog 21 #[.pointer (some ⟨p, 0, none⟩), vdesc (.slice Ad ds.length cd), .int .i64 kind] w fun e w' => ∃ q : RV, e = .returned (vrule q.r q.vb q.vn q.vt q.vk) ∧ SmallR q.r ∧ q.r.kind = kind ∧ MadeR ds q.r ∧ RuleOwn wb w' q ∧ Far q.vals ∧ (∀ u ∈ q.vals, ∀ b, u.ownBlock = some b → w.heap.size ≤ b) ∧ Cur wb w' p A l c ∧ w.grownBy w' (some p) := by
 have hplt := hC.lt
 have hbw := hC.2.1.size
 have CBe := Lib.hid (fun n w h hn => l1Below_c n wb w p A l c hA h hn)
 have COn := Lib.hid (fun n w h hn => l1Once_c n wb w p A l c hA h hn)
 have CS := Lib.hid (fun w h => l1StrLit_c [⟨#[97]⟩, ⟨#[105, 116, 101, 109]⟩, ⟨#[98]⟩, ⟨#[104, 101, 97, 100]⟩, ⟨#[120]⟩] (by simp) (by simp) 5 rfl #[.string ⟨#[97]⟩, .string ⟨#[105, 116, 101, 109]⟩, .string ⟨#[98]⟩, .string ⟨#[104, 101, 97, 100]⟩, .string ⟨#[120]⟩] rfl wb w p A l c hA h)
 have CF := Lib.hid (fun w => sFormatInt_c (ds.length : Int) w (by omega) (by omega))
 have hit := itoa_size (ds.length : Int) (by omega) (by omega)
 obtain ⟨it, hit0⟩ : ∃ it, itoaB (ds.length : Int) = it := ⟨_, rfl⟩
 rw [hit0] at hit CF
 have HIT := Lib.hid hit0
 clear hit0
 have HD := Lib.hid hD; have hki := Lib.hid hki; have hMD := Lib.hid hMD
 clear hD
 obtain ⟨W0, hW0, HP, HR, e0, hsA⟩ := boxes2' w #[.slice Ad ds.length cd] #[.string ⟨#[]⟩, .int .i64 0, .int .i64 0, .bool false, .slice none 0 0, .slice none 0 0, .slice none 0 0, .slice none 0 0] 26 51
 unfold vdesc
 go_enter Tryz.func21, Tryz.ntmps21
 go_wp2_with fail
 rw [← hW0.out]
 have C1 := CS.out W0 (hC.ext e0)
 rw [hsA] at C1
 have C1 := Lib.hid C1
 refine C1.out.mono ?_; rintro _ w1 ⟨nm0, hnm0, rfl, hC1, hg1⟩
 have HNM : Hid (∃ s ∈ heads, nm0 ++ it = s ++ itoaB (ds.length : Int)) := ⟨nm0, hnm0, by rw [HIT.out]⟩
 have hnm : nm0.size ≤ 4 := by simp at hnm0; rcases hnm0 with rfl | rfl | rfl | rfl | rfl <;> decide
 have G1 := (grown_ext e0 (some p)).trans hg1
 have HP1 := Lib.hid (HP.moved hg1 (some_ne (by omega)))
 have HR1 := Lib.hid (HR.moved hg1 (some_ne (by omega)))
 clear hnm0 hg1 C1 CS HP HR e0
 go_wp2_with fail
 refine (CF.out _).mono ?_; rintro _ w2 ⟨rfl, s2⟩
 have G2 := Lib.hid (G1.trans (grown_ext s2 _))
 have HP2 := Lib.hid (HP1.out.ext s2); have HR2 := Lib.hid (HR1.out.ext s2); have hC2 := hC1.ext s2
 clear G1 HP1 HR1 hC1 s2
 have hnl : (nm0 ++ it).size ≤ 24 := by have := ByteArray.size_append (a := nm0) (b := it); omega
 have x3 := Ext_alloc (.cells #[.string (nm0 ++ it), .int .i64 kind, .int .i64 0, .bool false, .slice none 0 0, .slice none 0 0, .slice none 0 0, .slice none 0 0] 51) (Ext.refl w2)
 have hgs := G2.out.size
 have M0 : Hid (Mk wb w (w2.alloc (.cells #[.string (nm0 ++ it), .int .i64 kind, .int .i64 0, .bool false, .slice none 0 0, .slice none 0 0, .slice none 0 0, .slice none 0 0] 51)) p A l c w2.heap.size ⟨⟨nm0 ++ it, kind, 0, false, [], [], [], []⟩, .slice none 0 0, .slice none 0 0, .slice none 0 0, .slice none 0 0⟩) :=
  ⟨Box.new w2 _ _, ⟨OwnL.nil _ _, OwnL.nil _ _, OwnL.nil _ _, OwnL.nil _ _⟩, by simp [Far, RV.vals, Value.ownBlock], by simp [RV.vals, Value.ownBlock], hC2.ext x3, G2.out.trans (grown_ext x3 _), hgs, by omega, by omega⟩
 have HP3 := Lib.hid (HP2.out.ext x3); have HR3 := Lib.hid (HR2.out.ext x3)
 have hlt2 : w.heap.size + 1 < w2.heap.size := HR2.out.lt
 clear HP2 HR2 hC2 G2 x3 CF
 obtain ⟨W3, hW3⟩ : ∃ W3, W3 = w2.alloc (.cells #[.string (nm0 ++ it), .int .i64 kind, .int .i64 0, .bool false, .slice none 0 0, .slice none 0 0, .slice none 0 0, .slice none 0 0] 51) := ⟨_, rfl⟩
 rw [← hW3] at M0 HP3 HR3
 have HW3 := Lib.hid hW3; clear hW3
 subst hkind
 have hds0 : 0 < ds.length := by obtain ⟨i, hi, _⟩ := hki.out.resolve_left (by omega); omega
 clear hki HP3 HD
 go_wp2_with fail
 rw [← HW3.out]
 refine (CBe.out 3 _ M0.out.cur (by omega)).mono ?_; rintro _ w4 ⟨y, hy, rfl, hC4, hg4⟩
 have hyn : y < 3 := by unfold below at hy; rw [if_neg (by omega)] at hy; omega
 have S4 : Hid (MS wb w w4 p A l c w2.heap.size ⟨⟨nm0 ++ it, 6, 0, false, [], [], [], []⟩, .slice none 0 0, .slice none 0 0, .slice none 0 0, .slice none 0 0⟩ (w.heap.size + 1)) :=
  ⟨M0.out.moved hC4 hg4, HR3.out.moved hg4 (some_ne (by omega)), by simp [RV.vals, Value.ownBlock], by omega, by omega⟩
 clear hy hC4 hg4 HR3 M0 HW3
 generalize hgg : w2.heap.size = g at *
 clear hgg
 have CS3 := Lib.hid (fun w b h hb => l1StrBox_c [⟨#[112]⟩, ⟨#[113]⟩, ⟨#[114]⟩] (by simp) (by simp) 3 rfl #[.string ⟨#[112]⟩, .string ⟨#[113]⟩, .string ⟨#[114]⟩] rfl wb w p A l c hA b h hb)
 go_wp2
 go_loopw [9] (fun t wr => ∃ (i : Nat) (r : DRule) (vb vn vt vk : Value), i ≤ 3 ∧ t = .int .i64 i ∧ Hid (r.nm = nm0 ++ it ∧ r.kind = 6 ∧ r.size = 0 ∧ r.bytes = [] ∧ r.tags = [] ∧ r.little = false) ∧ Hid ((r.names.length + i = 1 + y ∧ r.kids.length + i = 1 + y) ∧ (∀ t ∈ r.names, t.size ≤ 40) ∧ (∀ x ∈ r.kids, 0 ≤ x ∧ x < (ds.length : Int)) ∧ SeqInv i r.names) ∧ Hid (MS wb w wr p A l c g ⟨r, vb, vn, vt, vk⟩ (w.heap.size + 1))) (fun t _ => (intOf t).toNat)
 case atStart => exact ⟨1 + y, _, _, _, _, _, by omega, by simp, ⟨rfl, rfl, rfl, rfl, rfl, rfl⟩, ⟨⟨by simp, by simp⟩, by simp, by simp, SeqInv.nil _⟩, S4⟩
 case round =>
  clear S4
  obtain ⟨i, r, vb, vn, vt, vk, hi3, rfl, hr, hl, hM⟩ := hrel
  by_cases hi0 : 0 < i
  ·have CF3 := Lib.hid (fun w => sFormatInt_c (i : Int) w (by omega) (by omega))
   have hit3 := itoa_size (i : Int) (by omega) (by omega)
   obtain ⟨it3, hit0⟩ : ∃ it3, itoaB (i : Int) = it3 := ⟨_, rfl⟩
   rw [hit0] at hit3 CF3
   have HIT3 := Lib.hid hit0
   clear hit0
   have hMd := Lib.hid (hM.out.ext (Ext_drew (Ext.refl wr)))
   have cd0 : _ = some vn := hM.out.M.box.cell 5
   have cd1 : _ = some vn := (hM.out.ext (Ext_drew (Ext_alloc (.cells #[.string ⟨#[112]⟩, .string ⟨#[113]⟩, .string ⟨#[114]⟩] 9) (Ext.refl wr)))).M.box.cell 5
   have HBn : Hid (∀ s : ByteArray, (r.names.length + [s].length) * 16 ≤ 140737488355328) := fun s => by have := hl.out.1.1; simp; omega
   have HLn : Hid (∀ s : ByteArray, (r.names ++ [s]).length ≤ 140737488351232) := fun s => by have := hl.out.1.1; simp; omega
   have hS3 : Hid (∀ s : ByteArray, s ∈ [(⟨#[112]⟩ : ByteArray), ⟨#[113]⟩, ⟨#[114]⟩] → s.size ≤ 4) := fun s h => by simp only [List.mem_cons, List.not_mem_nil, or_false] at h; rcases h with rfl | rfl | rfl <;> decide
   go_wp2_with fail
   go_cut [86] from 77 to 87 (fun _ wx => ∃ s v, s.size ≤ 40 ∧ Hid (SeqInv (i - 1) (r.names ++ [s])) ∧ Hid (MS wb w wx p A l c g ⟨{ r with names := r.names ++ [s] }, vb, v, vt, vk⟩ (w.heap.size + 1)))
   case first =>
    go_region_law (first
     | (go_simp; go_at_call 41; refine (CS3.out _ _ (hMd.out.ext (Ext_alloc _ (Ext.refl _))).M.cur (Box.new _ _ _)).mono ?_; rintro _ w5 ⟨s5, hs5, rfl, hC5, hg5⟩; have M5 := Lib.hid ((hMd.out.ext (Ext_alloc (.cells #[.string ⟨#[112]⟩, .string ⟨#[113]⟩, .string ⟨#[114]⟩] 9) (Ext.refl _))).moved hC5 hg5); have c5 : _ = some vn := M5.out.M.box.cell 5; have hs5b := hS3.out _ hs5; have HS5 := Lib.hid hs5; have hcat : ¬ 9223372036854775807 < s5.size + it3.size := (by omega); clear hs5 hC5 hg5)
     | (go_simp; go_at_call 42; refine (CF3.out _).mono ?_; rintro _ w6 ⟨rfl, e6⟩; have M6 := Lib.hid (M5.out.ext e6); have c6 : _ = some vn := M6.out.M.box.cell 5; have M6' := Lib.hid (M6.out.ext (Ext_alloc (.cells #[.string (s5 ++ it3)] 9) (Ext.refl _))); have c6' : _ = some vn := M6'.out.M.box.cell 5; clear M5 e6)
     | (refine step_appG rfl (.tmp 78) (.tmp 85) _ rfl E_str (by omega) wb _ vstr (fun _ => rfl) vn rfl (some ⟨w6.heap.size, 0, none⟩) 1 1 rfl r.names [s5 ++ it3] M6'.out.M.own.n M6'.out.M.cur.2.1 rfl (fun _ => ⟨_, rfl, fun j u hu => (World.cell?_alloc_at' w6 [.string (s5 ++ it3)] 9 j).trans hu⟩) (HBn.out _) ?_; intro v7 w7 ho7 he7 hv7 hg7; obtain ⟨A7, c7, hsh, _⟩ := OwnL.rd ho7 (HLn.out _); replace hsh : v7 = .slice A7 (r.names.length + 1) c7 := (by rw [hsh, List.length_append]; rfl); subst hsh; obtain ⟨⟨z7, y7⟩, M7⟩ := M6'.out.app_n ho7 he7 hv7 hg7; clear ho7 he7 hv7 hg7; have M7 := Lib.hid M7))
    all_goals
     go_wp2_with fail
     go_meet
     exact ⟨s5 ++ it3, _, by have := ByteArray.size_append (a := s5) (b := it3); omega, by rw [← HIT3.out]; exact hl.out.2.2.2.snoc HS5.out hi0 (by omega), M7⟩
   case rest =>
    obtain ⟨s, v, hs, hSI, hM'⟩ := hcut
    clear hM hMd cd0 cd1 HBn HLn hS3 CF3 hit3
    have hMd := Lib.hid (hM'.out.ext (Ext_drew (Ext.refl wc)))
    have cd0 : _ = some vk := hM'.out.M.box.cell 7
    have HBn : Hid (∀ x : Int, (r.kids.length + [x].length) * 8 ≤ 140737488355328) := fun s => by have := hl.out.1.2; simp; omega
    have HLn : Hid (∀ x : Int, (r.kids ++ [x]).length ≤ 140737488351232) := fun s => by have := hl.out.1.2; simp; omega
    go_wp2_with fail
    go_region_law (first
     | (go_simp; go_at_call 30; refine (CBe.out ds.length _ hMd.out.M.cur (by omega)).mono ?_; rintro _ w5 ⟨x, hx, rfl, hC5, hg5⟩; have M5 := Lib.hid (hMd.out.moved hC5 hg5); have c5 : _ = some vk := M5.out.M.box.cell 7; have M5' := Lib.hid (M5.out.ext (Ext_alloc (.cells #[.int .i64 x] 3) (Ext.refl _))); have c5' : _ = some vk := M5'.out.M.box.cell 7; clear hC5 hg5)
     | (refine step_appG rfl (.tmp 89) (.tmp 93) _ rfl E_int (by omega) wb _ vint (fun _ => rfl) vk rfl (some ⟨w5.heap.size, 0, none⟩) 1 1 rfl r.kids [(x : Int)] M5'.out.M.own.k M5'.out.M.cur.2.1 rfl (fun _ => ⟨_, rfl, fun j u hu => (World.cell?_alloc_at' w5 [.int .i64 x] 3 j).trans hu⟩) (HBn.out _) ?_; intro v7 w7 ho7 he7 hv7 hg7; obtain ⟨A7, c7, hsh, _⟩ := OwnL.rd ho7 (HLn.out _); replace hsh : v7 = .slice A7 (r.kids.length + 1) c7 := (by rw [hsh, List.length_append]; rfl); subst hsh; obtain ⟨⟨z7, y7⟩, M7⟩ := M5'.out.app_k ho7 he7 hv7 hg7; clear ho7 he7 hv7 hg7; have M7 := Lib.hid M7))
    all_goals
     have hxn : x < ds.length := by unfold below at hx; rw [if_neg (by omega)] at hx; omega
     clear hx
     have HR' : Hid (∀ t ∈ r.names ++ [s], t.size ≤ 40) := fun t ht => by
      rcases List.mem_append.1 ht with h1 | h1
      ·exact hl.out.2.1 t h1
      ·rw [List.mem_singleton.1 h1]; exact hs
     have HK' : Hid (∀ z ∈ r.kids ++ [(x : Int)], 0 ≤ z ∧ z < (ds.length : Int)) := fun t ht => by
      rcases List.mem_append.1 ht with h1 | h1
      ·exact hl.out.2.2.1 t h1
      ·rw [List.mem_singleton.1 h1]; omega
     go_wp2
     go_roundw
     case rel => exact ⟨i - 1, { r with names := r.names ++ [s], kids := r.kids ++ [(x : Int)] }, vb, v, vt, _, by omega, by go_num, hr, ⟨⟨by have := hl.out.1.1; simp; omega, by have := hl.out.1.2; simp; omega⟩, HR'.out, HK'.out, hSI.out⟩, M7⟩
     case measure => simp [intOf]; omega
  ·obtain rfl : i = 0 := by omega
   have hM0 := hM.out.M.own
   obtain ⟨Ab, cb, hvb, _⟩ := OwnL.rd hM0.b (by show r.bytes.length ≤ _; rw [hr.out.2.2.2.1]; simp)
   obtain ⟨An, cn, hvn, _⟩ := OwnL.rd hM0.n (by have := hl.out.1.1; show r.names.length ≤ _; omega)
   obtain ⟨At, ct, hvt, _⟩ := OwnL.rd hM0.t (by show r.tags.length ≤ _; rw [hr.out.2.2.2.2.1]; simp)
   obtain ⟨Ak, ck, hvk, _⟩ := OwnL.rd hM0.k (by have := hl.out.1.2; show r.kids.length ≤ _; omega)
   dsimp only at hvb hvn hvt hvk
   subst hvb; subst hvn; subst hvt; subst hvk
   clear hM0
   have M6 := Lib.hid hM.out.M
   have HR6 := Lib.hid hM.out.res
   obtain ⟨⟨a0, a1, a2, a3⟩, a4, a5, a6, a7⟩ := cells8 M6.out.box
   obtain ⟨⟨b0, b1, b2, b3⟩, b4, b5, b6, b7⟩ := cells8 (q := ⟨⟨⟨#[]⟩, 0, 0, false, [], [], [], []⟩, .slice none 0 0, .slice none 0 0, .slice none 0 0, .slice none 0 0⟩) HR6.out
   obtain ⟨⟨d0, d1, d2, d3⟩, d4, d5, d6, d7⟩ := frees8 HR6.out
   dsimp only at a0 a1 a2 a3 a4 a5 a6 a7 b0 b1 b2 b3 b4 b5 b6 b7
   have hgs' := hM.out.M.grow.size
   have HOUT := Lib.hid (M6.out.out HR6.out (by omega) (by omega) (by omega) hM.out.nR)
   dsimp only at HOUT
   have hnew := fun u hu b hb => (M6.out.new u hu b hb).1
   have hfar := M6.out.far
   clear hM
   go_wp2_with fail
   obtain ⟨hB, hO, hCc, hG⟩ := HOUT.out
   obtain ⟨⟨e0, e1, e2, e3⟩, e4, e5, e6, e7⟩ := cells8 (q := ⟨r, .slice Ab r.bytes.length cb, .slice An r.names.length cn, .slice At r.tags.length ct, .slice Ak r.kids.length ck⟩) hB
   dsimp only at e0 e1 e2 e3 e4 e5 e6 e7
   refine bodyPost_ret (v := vrule r (.slice Ab r.bytes.length cb) (.slice An r.names.length cn) (.slice At r.tags.length ct) (.slice Ak r.kids.length ck)) (by simp [results, Tryz.results21, go_sem, e0, e1, e2, e3, e4, e5, e6, e7, vrule]) rfl ?_
   exact ⟨⟨r, .slice Ab r.bytes.length cb, .slice An r.names.length cn, .slice At r.tags.length ct, .slice Ak r.kids.length ck⟩, rfl, ⟨by rw [hr.out.1]; omega, ⟨by rw [hr.out.2.2.2.1]; simp, by have := hl.out.1.1; show r.names.length ≤ _; omega, by rw [hr.out.2.2.2.2.1]; simp, by have := hl.out.1.2; show r.kids.length ≤ _; omega⟩, hl.out.2.1, ⟨by rw [hr.out.2.2.1]; omega, by rw [hr.out.2.2.2.2.1]; simp, fun x hx => by have := hl.out.2.2.1 x hx; omega⟩⟩, hr.out.2.1, made_seq (r := r) (by obtain ⟨s, hs, he⟩ := HNM.out; exact ⟨s, hs, by rw [hr.out.1]; exact he⟩) hr.out.2.1 hr.out.2.2.1 hr.out.2.2.2.1 hr.out.2.2.2.2.1 hr.out.2.2.2.2.2 (by have := hl.out.1; omega) (by have := hl.out.1; omega) (by have := hl.out.1; omega) hl.out.2.2.2 hl.out.2.2.1, hO, hfar, hnew, hCc, hG⟩
end Go.Proofs.YtpmcofmdjckijaaGreatDoor
