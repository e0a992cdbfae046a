/- Draws of values: a drawn value while it is made; a drawn description read while the cursor moves. -/
import Derived.Test.YtpmcofmdjckijaaGreatDoorZEx7
set_option linter.unusedVariables false
set_option linter.unusedSimpArgs false
set_option maxRecDepth 100000
set_option maxHeartbeats 16000000
namespace Go.Proofs.YtpmcofmdjckijaaGreatDoor
open Go.RowKit Go.Sort
theorem OwnD.stay {wb w : World} {v : Value} {ps : List RV} (h : OwnD wb w v ps) (hs : ∀ q ∈ ps, ShortR q.r) (hn : ps.length ≤ 24) {p : Nat} (hp : ∀ u ∈ v :: ps.flatMap RV.vals, ∀ b, u.ownBlock = some b → b ≠ p) (i : Nat) (hi : i < ps.length) :
 ∃ g cap Ab cb An cn At ct Ak ck, v = .slice (some ⟨g, 0, none⟩) ps.length cap ∧ ∀ w', w.grownBy w' (some p) →
  RdS w' ps[i].r Ab cb An cn At ct Ak ck ∧ RuleAt w' g (i * 8) ps[i].r (.slice Ab ps[i].r.bytes.length cb) (.slice An ps[i].r.names.length cn) (.slice At ps[i].r.tags.length ct) (.slice Ak ps[i].r.kids.length ck) := by
 obtain ⟨Ab, cb, An, cn, At, ct, Ak, ck, e1, e2, e3, e4, hS⟩ := (h.each _ (List.getElem_mem hi)).rd (hs _ (List.getElem_mem hi))
 have hkeep : ∀ w', w.grownBy w' (some p) → OwnD wb w' v ps := fun w' hg => h.keep hg (fun u hu b hb hh => by injection hh with hh; exact hp u hu b hb hh.symm)
 rcases h.row.2 with ⟨_, h0⟩ | ⟨g, cap, cur, hv, hb, hg, hnc, hcm, hcs, htake⟩
 ·omega
 ·refine ⟨g, cap, Ab, cb, An, cn, At, ct, Ak, ck, hv, fun w' hgw => ?_⟩
  have hO := hkeep w' hgw
  obtain ⟨Ab', cb', An', cn', At', ct', Ak', ck', f1, f2, f3, f4, hS'⟩ := (hO.each _ (List.getElem_mem hi)).rd (hs _ (List.getElem_mem hi))
  rw [e1] at f1; rw [e2] at f2; rw [e3] at f3; rw [e4] at f4
  injection f1 with x1 _ x2; injection f2 with x3 _ x4; injection f3 with x5 _ x6; injection f4 with x7 _ x8
  subst x1; subst x2; subst x3; subst x4; subst x5; subst x6; subst x7; subst x8
  refine ⟨hS', ?_⟩
  rcases hO.row.2 with ⟨_, h0⟩ | ⟨g', cap', cur', hv', hb', hg', hnc', hcm', hcs', htake'⟩
  ·omega
  ·rw [hv] at hv'
   injection hv' with y1 _ _
   injection y1 with y1; injection y1 with y1 _ _
   subst y1
   have hc : ∀ (w2 : World), Ext w' w2 → ∀ j, j < 8 → w2.cell? ⟨g, i * 8 + j, none⟩ = ps[i].cells[j]? := by
    intro w2 e j hj
    rw [heap_row hg' e, ← cells_get ps i j hi hj, ← htake', List.getElem?_take, if_pos (by omega)]
    simp
   rw [← e1, ← e2, ← e3, ← e4]
   exact ⟨fun w2 e => by have := hc w2 e 0 (by omega); simpa [RV.cells] using this, fun w2 e => by have := hc w2 e 1 (by omega); simpa [RV.cells] using this, fun w2 e => by have := hc w2 e 2 (by omega); simpa [RV.cells] using this, fun w2 e => by have := hc w2 e 3 (by omega); simpa [RV.cells] using this,
    fun w2 e => by have := hc w2 e 4 (by omega); simpa [RV.cells] using this, fun w2 e => by have := hc w2 e 5 (by omega); simpa [RV.cells] using this, fun w2 e => by have := hc w2 e 6 (by omega); simpa [RV.cells] using this, fun w2 e => by have := hc w2 e 7 (by omega); simpa [RV.cells] using this⟩
abbrev val0 : Array Value := #[.int .i64 0, .slice none 0 0, .slice none 0 0]
structure VM (wb w wr : World) (p : Nat) (A : Option Addr) (l : List UInt8) (c : Nat) (dv : Value) (rc : Array Value) (n : Int) (vb : Value) (bs : List UInt8) (vi : Value) (ps : List VT) : Prop where
 db : Box wr w.heap.size #[dv] 26
 res : Box wr (w.heap.size + 1) val0 29
 rb : Box wr (w.heap.size + 1 + 1) rc 51
 box : Box wr (w.heap.size + 1 + 1 + 1) #[.int .i64 n, vb, vi] 29
 own : OwnL vu8 5 wb wr vb bs
 its : OwnTs wb wr vi ps
 far : Far (vb :: vi :: ps.flatMap VT.vals)
 new : ∀ u ∈ vb :: vi :: ps.flatMap VT.vals, ∀ b, u.ownBlock = some b → w.heap.size + 4 ≤ b
 cur : Cur wb wr p A l c
 grow : w.grownBy wr (some p)
section
variable {wb w wr w' : World} {p : Nat} {A : Option Addr} {l : List UInt8} {c : Nat} {dv : Value} {rc : Array Value} {n : Int} {vb : Value} {bs : List UInt8} {vi : Value} {ps : List VT}
theorem VM.moved (h : VM wb w wr p A l c dv rc n vb bs vi ps) (hp : p < w.heap.size) (hC : Cur wb w' p A l c) (hg : wr.grownBy w' (some p)) : VM wb w w' p A l c dv rc n vb bs vi ps := by
 have ne : ∀ k, w.heap.size ≤ k → (some p : Option Nat) ≠ some k := fun k hk hh => by injection hh with hh; omega
 exact ⟨h.db.moved hg (ne _ (by omega)), h.res.moved hg (ne _ (by omega)), h.rb.moved hg (ne _ (by omega)), h.box.moved hg (ne _ (by omega)),
  h.own.keep hg (fun b hb => ne b (by have := h.new _ (List.mem_cons_self ..) b hb; omega)),
  h.its.keep hg (fun u hu b hb => ne b (by have := h.new u (List.mem_cons_of_mem _ hu) b hb; omega)), h.far, h.new, hC, h.grow.trans hg⟩
theorem VM.ext (h : VM wb w wr p A l c dv rc n vb bs vi ps) (hp : p < w.heap.size) (e : Ext wr w') : VM wb w w' p A l c dv rc n vb bs vi ps := h.moved hp (h.cur.ext e) (grown_ext e _)
theorem VM.size (h : VM wb w wr p A l c dv rc n vb bs vi ps) : w.heap.size + 4 ≤ wr.heap.size := h.box.lt
theorem VM.stored (hp : p < w.heap.size) (hw : wb.heap.size ≤ w.heap.size) {n' : Int} {vb' vi' : Value} {bs' : List UInt8} {ps' : List VT} {a b c' : Value}
 (db : Box wr w.heap.size #[dv] 26) (res : Box wr (w.heap.size + 1) val0 29) (rb : Box wr (w.heap.size + 1 + 1) rc 51) (box : Box wr (w.heap.size + 1 + 1 + 1) #[a, b, c'] 29)
 (own : OwnL vu8 5 wb wr vb' bs') (its : OwnTs wb wr vi' ps') (far : Far (vb' :: vi' :: ps'.flatMap VT.vals)) (new : ∀ u ∈ vb' :: vi' :: ps'.flatMap VT.vals, ∀ b, u.ownBlock = some b → w.heap.size + 4 ≤ b) (cur : Cur wb wr p A l c) (grow : w.grownBy wr (some p))
 (k : Nat) (u : Value) (hq : (#[a, b, c'] : Array Value).setIfInBounds k u = #[.int .i64 n', vb', vi']) : VM wb w (wr.setCell ⟨w.heap.size + 1 + 1 + 1, k, none⟩ u) p A l c dv rc n' vb' bs' vi' ps' := by
 have hs := box.set k u
 rw [hq] at hs
 refine ⟨db.other (by omega) _ _, res.other (by omega) _ _, rb.other (by omega) _ _, hs, own.keep (grown_set wr ⟨w.heap.size + 1 + 1 + 1, k, none⟩ u) (fun b hb hh => ?_), its.keep (grown_set wr ⟨w.heap.size + 1 + 1 + 1, k, none⟩ u) (fun x hx b hb hh => ?_), far, new, cur.set (a := ⟨w.heap.size + 1 + 1 + 1, k, none⟩) (by show w.heap.size + 1 + 1 + 1 ≠ p; omega) (by show wb.heap.size ≤ w.heap.size + 1 + 1 + 1; omega) u, grown_new (a := ⟨w.heap.size + 1 + 1 + 1, k, none⟩) grow (by show w.heap.size ≤ w.heap.size + 1 + 1 + 1; omega) u⟩
 ·have := new _ (List.mem_cons_self ..) b hb; injection hh with hh; simp at hh; omega
 ·have := new _ (List.mem_cons_of_mem _ hx) b hb; injection hh with hh; simp at hh; omega
theorem VM.num (h : VM wb w wr p A l c dv rc n vb bs vi ps) (hp : p < w.heap.size) (hw : wb.heap.size ≤ w.heap.size) (n' : Int) : VM wb w (wr.setCell ⟨w.heap.size + 1 + 1 + 1, 0, none⟩ (.int .i64 n')) p A l c dv rc n' vb bs vi ps :=
 VM.stored hp hw h.db h.res h.rb h.box h.own h.its h.far h.new h.cur h.grow 0 _ rfl
theorem VM.bytes (h : VM wb w wr p A l c dv rc n vb bs vi ps) (hp : p < w.heap.size) (hw : wb.heap.size ≤ w.heap.size) {vb' : Value} {bs' : List UInt8} (ho : OwnL vu8 5 wb wr vb' bs') {n0 : Nat} (hn : ∀ b, vb'.ownBlock = some b → n0 ≤ b) (ho0 : ∀ u ∈ vi :: ps.flatMap VT.vals, ∀ b, u.ownBlock = some b → b < n0) (h4 : w.heap.size + 4 ≤ n0) :
 VM wb w (wr.setCell ⟨w.heap.size + 1 + 1 + 1, 1, none⟩ vb') p A l c dv rc n vb' bs' vi ps := by
 have hf := h.far
 unfold Far at hf
 rw [List.pairwise_cons] at hf
 refine VM.stored hp hw h.db h.res h.rb h.box ho h.its (Far.cons hf.2 (fun u hu b h1 h2 => by have := hn b h1; have := ho0 u hu b h2; omega)) (fun u hu b hb => ?_) h.cur h.grow 1 _ rfl
 rcases List.mem_cons.1 hu with rfl | hu
 ·have := hn b hb; omega
 ·exact h.new u (List.mem_cons_of_mem _ hu) b hb
theorem VM.items (h : VM wb w wr p A l c dv rc n vb bs vi ps) (hp : p < w.heap.size) (hw : wb.heap.size ≤ w.heap.size) {w7 : World} {vi' : Value} {ps' : List VT} (db : Box w7 w.heap.size #[dv] 26) (res : Box w7 (w.heap.size + 1) val0 29) (rb : Box w7 (w.heap.size + 1 + 1) rc 51) (box : Box w7 (w.heap.size + 1 + 1 + 1) #[.int .i64 n, vb, vi] 29)
 (own : OwnL vu8 5 wb w7 vb bs) (its : OwnTs wb w7 vi' ps') (hfr : ∀ u ∈ vi' :: ps'.flatMap VT.vals, ∀ b, u.ownBlock = some b → w.heap.size + 4 ≤ b ∧ vb.ownBlock ≠ some b) (cur : Cur wb w7 p A l c) (grow : w.grownBy w7 (some p)) :
 VM wb w (w7.setCell ⟨w.heap.size + 1 + 1 + 1, 2, none⟩ vi') p A l c dv rc n vb bs vi' ps' := by
 refine VM.stored hp hw db res rb box own its (Far.cons its.far (fun u hu b h1 h2 => (hfr u hu b h2).2 h1)) (fun u hu b hb => ?_) cur grow 2 _ rfl
 rcases List.mem_cons.1 hu with rfl | hu
 ·exact h.new _ (List.mem_cons_self ..) b hb
 ·exact (hfr u hu b hb).1
theorem VM.snoc {w5 w7 : World} {t : VT} {vi' : Value} (h : VM wb w w5 p A l c dv rc n vb bs vi ps) (hp : p < w.heap.size) (hw : wb.heap.size ≤ w.heap.size) (hro : OwnT wb w5 t) (hfr : Far t.vals) {n0 : Nat} (hnew : ∀ u ∈ t.vals, ∀ b, u.ownBlock = some b → n0 ≤ b) (hold : ∀ u ∈ vb :: vi :: ps.flatMap VT.vals, ∀ b, u.ownBlock = some b → b < n0) (h4 : w.heap.size + 4 ≤ n0) (hn5 : n0 ≤ w5.heap.size)
 (ho7 : Own 29 3 wb w7 vi' (ps.length + 1) (ps.flatMap VT.cells ++ t.cells)) (he7 : Ext wb w7) (hg7 : w5.grownBy w7 vi.ownBlock) (hv : vi'.ownBlock = vi.ownBlock ∨ vi'.ownBlock = some w5.heap.size) :
 (w7.cell? ⟨w.heap.size + 1 + 1 + 1, 2, none⟩ = some vi ∧ w7.frozen? ⟨w.heap.size + 1 + 1 + 1, 2, none⟩ = false) ∧ VM wb w (w7.setCell ⟨w.heap.size + 1 + 1 + 1, 2, none⟩ vi') p A l c dv rc n vb bs vi' (ps ++ [t]) := by
 have hvi : ∀ b, vi.ownBlock = some b → w.heap.size + 4 ≤ b := fun b hb => h.new vi (by simp) b hb
 have ne : ∀ k, k < w.heap.size + 4 → vi.ownBlock ≠ some k := fun k hk hh => by have := hvi k hh; omega
 have hb := h.box.moved hg7 (ne _ (by omega))
 have hf := h.far
 unfold Far at hf
 rw [List.pairwise_cons] at hf
 have hf2 := hf.2
 rw [List.pairwise_cons] at hf2
 have hts : OwnTs wb w7 vi' (ps ++ [t]) := by
  refine ⟨?_, fun q hq => ?_, ?_⟩
  ·rw [List.length_append, List.flatMap_append, List.flatMap_cons, List.flatMap_nil, List.append_nil]; exact ho7
  ·rcases List.mem_append.1 hq with hq | hq
   ·exact (h.its.each q hq).keep hg7 (fun u hu b hb he => hf2.1 u (List.mem_flatMap.2 ⟨q, hq, hu⟩) b he hb)
   ·obtain rfl := List.mem_singleton.1 hq
    exact hro.keep hg7 (fun u hu b hb he => by have := hnew u hu b hb; have := hold vi (by simp) b he; omega)
  ·rw [List.flatMap_append, List.flatMap_cons, List.flatMap_nil, List.append_nil]
   refine Far.cons (Far.append hf2.2 hfr (fun u hu x hx b h1 h2 => by have := hold u (by simp [hu]) b h1; have := hnew x hx b h2; omega)) (fun x hx b h1 h2 => ?_)
   rcases hv with hv | hv
   ·rw [hv] at h1
    rcases List.mem_append.1 hx with hx | hx
    ·exact hf2.1 x hx b h1 h2
    ·have := hold vi (by simp) b h1; have := hnew x hx b h2; omega
   ·rw [hv] at h1
    injection h1 with h1
    rcases List.mem_append.1 hx with hx | hx
    ·have := hold x (by simp [hx]) b h2; omega
    ·have := (hro.block x hx b h2).2; omega
 refine ⟨⟨hb.cell 2, hb.free 2⟩, VM.items h hp hw (h.db.moved hg7 (ne _ (by omega))) (h.res.moved hg7 (ne _ (by omega))) (h.rb.moved hg7 (ne _ (by omega))) hb (h.own.keep hg7 (fun b h1 h2 => hf.1 vi (by simp) b h1 h2)) hts (fun u hu b hub => ?_) (h.cur.kept hg7 (fun hh => by have := hvi p hh; omega) he7) (grown_own h.grow (fun b hb => by have := hvi b hb; omega) hg7)⟩
 rcases List.mem_cons.1 hu with rfl | hu
 ·rcases hv with hv | hv
  ·rw [hv] at hub
   exact ⟨hvi b hub, fun h1 => hf.1 vi (by simp) b h1 hub⟩
  ·rw [hv] at hub
   injection hub with hub
   exact ⟨by omega, fun h1 => by have := hold vb (by simp) b h1; omega⟩
 ·rw [List.flatMap_append, List.flatMap_cons, List.flatMap_nil, List.append_nil] at hu
  rcases List.mem_append.1 hu with hu | hu
  ·exact ⟨h.new u (by simp [hu]) b hub, fun h1 => hf.1 u (by simp [hu]) b h1 hub⟩
  ·exact ⟨by have := hnew u hu b hub; omega, fun h1 => by have := hold vb (by simp) b h1; have := hnew u hu b hub; omega⟩
theorem VM.out (h : VM wb w wr p A l c dv rc n vb bs vi ps) (hp : p < w.heap.size) (hw : wb.heap.size ≤ w.heap.size) (x y z : Value) :
 OwnT wb (((wr.setCell ⟨w.heap.size + 1, 0, none⟩ x).setCell ⟨w.heap.size + 1, 1, none⟩ y).setCell ⟨w.heap.size + 1, 2, none⟩ z) (.mk n bs vb ps vi) ∧ Far (VT.vals (.mk n bs vb ps vi)) ∧ (∀ u ∈ VT.vals (.mk n bs vb ps vi), ∀ b, u.ownBlock = some b → w.heap.size ≤ b) ∧
 Cur wb (((wr.setCell ⟨w.heap.size + 1, 0, none⟩ x).setCell ⟨w.heap.size + 1, 1, none⟩ y).setCell ⟨w.heap.size + 1, 2, none⟩ z) p A l c ∧ w.grownBy (((wr.setCell ⟨w.heap.size + 1, 0, none⟩ x).setCell ⟨w.heap.size + 1, 1, none⟩ y).setCell ⟨w.heap.size + 1, 2, none⟩ z) (some p) := by
 have G := ((grown_set wr ⟨w.heap.size + 1, 0, none⟩ x).trans (grown_set _ ⟨w.heap.size + 1, 1, none⟩ y)).trans (grown_set _ ⟨w.heap.size + 1, 2, none⟩ z)
 have hne : ∀ u ∈ vb :: vi :: ps.flatMap VT.vals, ∀ b, u.ownBlock = some b → (some (w.heap.size + 1) : Option Nat) ≠ some b := fun u hu b hb hh => by have := h.new u hu b hb; injection hh with hh; omega
 have o2 := h.its.keep G (fun u hu b hb => hne u (List.mem_cons_of_mem _ hu) b hb)
 refine ⟨.mk (h.own.keep G (fun b hb => hne _ (List.mem_cons_self ..) b hb)) o2.row o2.each, by rw [VT.vals_eq]; exact h.far, fun u hu b hb => by rw [VT.vals_eq] at hu; have := h.new u hu b hb; omega, ?_, ?_⟩
 ·exact ((h.cur.set (a := ⟨w.heap.size + 1, 0, none⟩) (by show w.heap.size + 1 ≠ p; omega) (by show wb.heap.size ≤ w.heap.size + 1; omega) x).set (a := ⟨w.heap.size + 1, 1, none⟩) (by show w.heap.size + 1 ≠ p; omega) (by show wb.heap.size ≤ w.heap.size + 1; omega) y).set (a := ⟨w.heap.size + 1, 2, none⟩) (by show w.heap.size + 1 ≠ p; omega) (by show wb.heap.size ≤ w.heap.size + 1; omega) z
 ·exact grown_new (a := ⟨w.heap.size + 1, 2, none⟩) (grown_new (a := ⟨w.heap.size + 1, 1, none⟩) (grown_new (a := ⟨w.heap.size + 1, 0, none⟩) h.grow (by show w.heap.size ≤ w.heap.size + 1; omega) x) (by show w.heap.size ≤ w.heap.size + 1; omega) y) (by show w.heap.size ≤ w.heap.size + 1; omega) z
theorem VM.old (h : VM wb w wr p A l c dv rc n vb bs vi ps) : ∀ u ∈ vb :: vi :: ps.flatMap VT.vals, ∀ b, u.ownBlock = some b → b < wr.heap.size := by
 intro u hu b hb
 rcases List.mem_cons.1 hu with rfl | hu
 ·exact (World.ownsRow.lt h.own b hb).2
 ·exact (h.its.block u hu b hb).2
end
structure StayD (w : World) (p : Nat) (Ad : Option Addr) (ds : List DRule) (cd : Nat) : Prop where
 out : ∃ g off, Ad = some ⟨g, off, none⟩ ∧ g < w.heap.size ∧ ∀ i (hi : i < ds.length), ∃ Ab cb An cn At ct Ak ck, ∀ w', w.grownBy w' (some p) →
  RdS w' ds[i] Ab cb An cn At ct Ak ck ∧ RuleAt w' g (off + i * 8) ds[i] (.slice Ab ds[i].bytes.length cb) (.slice An ds[i].names.length cn) (.slice At ds[i].tags.length ct) (.slice Ak ds[i].kids.length ck)
theorem StayD.mono {w w' : World} {p : Nat} {Ad : Option Addr} {ds : List DRule} {cd : Nat} (h : StayD w p Ad ds cd) (hg : w.grownBy w' (some p)) : StayD w' p Ad ds cd := by
 obtain ⟨g, off, h1, h0, h2⟩ := h.out
 refine ⟨g, off, h1, Nat.lt_of_lt_of_le h0 hg.size, fun i hi => ?_⟩
 obtain ⟨Ab, cb, An, cn, At, ct, Ak, ck, h3⟩ := h2 i hi
 exact ⟨Ab, cb, An, cn, At, ct, Ak, ck, fun w2 h4 => h3 w2 (hg.trans h4)⟩
theorem Rd0.cellAt {α : Type} {f : α → Value} {w : World} {b o : Nat} {l : List α} {c : Nat} (h : Rd0 f w (some ⟨b, o, none⟩) l c) (k : Nat) (hk : k < l.length) : w.cell? ⟨b, o + k, none⟩ = some (f l[k]) := by
 obtain ⟨b', o', h1, _, h2⟩ := h.at k hk
 injection h1 with h1
 injection h1 with h1 h3 _
 subst h1; subst h3
 exact h2 w (Ext.refl w)
structure DrawnV (ds : List DRule) (i : Nat) (wb w w' : World) (p : Nat) (A : Option Addr) (l : List UInt8) (c : Nat) (t : VT) : Prop where
 valid : validV ds i t.val = true
 sz : szV t.val ≤ 100 * 9 ^ i
 own : OwnT wb w' t
 far : Far t.vals
 new : ∀ u ∈ t.vals, ∀ b, u.ownBlock = some b → w.heap.size ≤ b
 cur : Cur wb w' p A l c
 grow : w.grownBy w' (some p)
def MakeOk (Ad : Option Addr) (ds : List DRule) (cd : Nat) (wb : World) (p : Nat) (A : Option Addr) (l : List UInt8) (c i : Nat) : Prop :=
 ∀ (m : Nat), m ≤ 100 → ∀ w, Cur wb w p A l c → StayD w p Ad ds cd → Calls Tryz.prog 23 #[.pointer (some ⟨p, 0, none⟩), .agg #[.slice Ad ds.length cd], .int .i64 (i : Int), .int .i64 (m : Int)] w fun e w' =>
  ∃ (t : VT) (A1 : Option Addr) (n1 c1 : Nat) (A2 : Option Addr) (n2 c2 : Nat), e = .returned (.agg #[.int .i64 t.num, .slice A1 n1 c1, .slice A2 n2 c2]) ∧ Hid (t.vb = .slice A1 n1 c1 ∧ t.vi = .slice A2 n2 c2) ∧ DrawnV ds i wb w w' p A l c t
theorem VM.asis {wb w wr : World} {p : Nat} {A : Option Addr} {l : List UInt8} {c : Nat} {dv : Value} {rc : Array Value} {n : Int} {vb : Value} {bs : List UInt8} {vi : Value} {ps : List VT} (h : VM wb w wr p A l c dv rc n vb bs vi ps) :
 OwnT wb wr (.mk n bs vb ps vi) ∧ Far (VT.vals (.mk n bs vb ps vi)) ∧ (∀ u ∈ VT.vals (.mk n bs vb ps vi), ∀ b, u.ownBlock = some b → w.heap.size ≤ b) ∧ Cur wb wr p A l c ∧ w.grownBy wr (some p) :=
 ⟨.mk h.own h.its.row h.its.each, by rw [VT.vals_eq]; exact h.far, fun u hu b hb => by rw [VT.vals_eq] at hu; have := h.new u hu b hb; omega, h.cur, h.grow⟩
theorem VM.single {wb w w5 : World} {p : Nat} {A : Option Addr} {l : List UInt8} {c : Nat} {dv : Value} {rc : Array Value} {n : Int} {vb : Value} {bs : List UInt8} {t : VT} (h : VM wb w w5 p A l c dv rc n vb bs (.slice none 0 0) []) (hp : p < w.heap.size) (hw : wb.heap.size ≤ w.heap.size) (ht : OwnT wb w5 t) (hf : Far t.vals) {n0 : Nat} (hnew : ∀ u ∈ t.vals, ∀ b, u.ownBlock = some b → n0 ≤ b) (hvb : ∀ b, vb.ownBlock = some b → b < n0) (h4 : w.heap.size + 4 ≤ n0) {cs : Array Value} (hcs : cs = t.cells.toArray) :
 VM wb w ((w5.alloc (.cells cs 29)).setCell ⟨w.heap.size + 1 + 1 + 1, 2, none⟩ (.slice (some ⟨w5.heap.size, 0, none⟩) 1 1)) p A l c dv rc n vb bs (.slice (some ⟨w5.heap.size, 0, none⟩) 1 1) [t] := by
 subst hcs
 have e := Ext_alloc (.cells t.cells.toArray 29) (Ext.refl w5)
 have h1 := h.ext hp e
 have hs := h.size
 have hb5 := h.cur.2.1.size
 refine VM.items h1 hp hw h1.db h1.res h1.rb h1.box h1.own (ps' := [t]) ⟨?_, fun q hq => ?_, ?_⟩ (fun u hu b hb => ?_) h1.cur h1.grow
 ·exact ⟨by simp [VT.cells], .inr ⟨w5.heap.size, 1, _, rfl, hb5, heap_alloc_new w5 _, by simp, by simp [maxLen], by simp [VT.cells], by simp [VT.cells]⟩⟩
 ·obtain rfl := List.mem_singleton.1 hq
  exact ht.ext e
 ·rw [List.flatMap_cons, List.flatMap_nil, List.append_nil]
  refine Far.cons hf (fun x hx b h2 h3 => ?_)
  injection h2 with h2
  have := (ht.block x hx b h3).2
  simp at h2; omega
 ·rw [List.flatMap_cons, List.flatMap_nil, List.append_nil] at hu
  rcases List.mem_cons.1 hu with rfl | hu
  ·injection hb with hb
   simp at hb
   refine ⟨by omega, fun h2 => ?_⟩
   have := (World.ownsRow.lt h.own b h2).2
   omega
  ·have h5 := hnew u hu b hb
   refine ⟨by omega, fun h2 => ?_⟩
   have := hvb b h2
   omega
theorem VM.byte0 {wb w wr : World} {p : Nat} {A : Option Addr} {l : List UInt8} {c : Nat} {dv : Value} {rc : Array Value} {n : Int} {g3 c3 : Nat} {bs : List UInt8} {vi : Value} {ps : List VT} (h : VM wb w wr p A l c dv rc n (.slice (some ⟨g3, 0, none⟩) bs.length c3) bs vi ps) (hp : p < w.heap.size) (hw : wb.heap.size ≤ w.heap.size) (h0 : 0 < bs.length) (y : UInt8) (u : Int) (hu : u = (y.toNat : Int)) :
 (∃ u0, wr.cell? ⟨g3, 0, none⟩ = some u0) ∧ wr.frozen? ⟨g3, 0, none⟩ = false ∧ VM wb w (wr.setCell ⟨g3, 0, none⟩ (.int .u8 u)) p A l c dv rc n (.slice (some ⟨g3, 0, none⟩) bs.length c3) (bs.set 0 y) vi ps := by
 subst hu
 obtain ⟨hs, hf⟩ := Own.slot h.own 0 (by simp; omega)
 obtain ⟨ho', he'⟩ := Own.store h.own h.cur.2.1 0 (.int .u8 (y.toNat : Int))
 have hset : (bs.map vu8).set 0 (.int .u8 (y.toNat : Int)) = (bs.set 0 y).map vu8 := by rw [List.map_set]; rfl
 rw [hset] at ho'
 have hg := h.new _ (List.mem_cons_self ..) g3 rfl
 have hfar := h.far
 unfold Far at hfar
 rw [List.pairwise_cons] at hfar
 refine ⟨hs, hf, h.db.other (by omega) _ _, h.res.other (by omega) _ _, h.rb.other (by omega) _ _, h.box.other (by omega) _ _, ?_, h.its.keep (grown_set wr ⟨g3, 0, none⟩ _) (fun x hx b hb hh => ?_), h.far, h.new, h.cur.set (a := ⟨g3, 0, none⟩) (by show g3 ≠ p; omega) (by show wb.heap.size ≤ g3; omega) _, grown_new (a := ⟨g3, 0, none⟩) h.grow (by show w.heap.size ≤ g3; omega) _⟩
 ·unfold OwnL; rw [List.length_set]; exact ho'
 ·injection hh with hh
  exact hfar.1 x hx b (congrArg some hh) hb
def FitV (ds : List DRule) (i : Nat) (v : DVal) : Prop := validV ds i v = true ∧ szV v ≤ 100 * 9 ^ i
theorem fit_flat {ds : List DRule} {i : Nat} (hi : i < ds.length) {n : Int} {b : List UInt8} (ho : ownV ds ds[i] n b.length 0 = true) (hb : b.length ≤ 100) : FitV ds i (.mk n b []) := by
 refine ⟨validV_yes (hi := hi) ho (fun j hj => by simp [DVal.items] at hj), ?_⟩
 rw [szV_eq]
 simp only [DVal.bytes, DVal.items, szVs]
 have := Nat.one_le_pow i 9 (by omega)
 omega
theorem fit_items {ds : List DRule} {i : Nat} (hi : i < ds.length) {n : Int} {its : List DVal} (ho : ownV ds ds[i] n 0 its.length = true) (hl : its.length ≤ 8) (hi0 : 0 < i ∨ its = []) (hv : ∀ j (hj : j < its.length), kidV ds[i] n j < i ∧ FitV ds (kidV ds[i] n j) its[j]) : FitV ds i (.mk n [] its) := by
 refine ⟨validV_yes (hi := hi) ho (fun j hj => (hv j hj).2.1), ?_⟩
 rw [szV_eq, szVs_sum]
 simp only [DVal.bytes, DVal.items, List.length_nil]
 rcases hi0 with hi0 | rfl
 ·have h1 : ∀ x ∈ its, szV x ≤ 100 * 9 ^ (i - 1) := fun x hx => by
   obtain ⟨j, hj, rfl⟩ := List.getElem_of_mem hx
   have h2 := (hv j hj).2.2
   have h3 := Nat.pow_le_pow_right (n := 9) (by omega) (show kidV ds[i] n j ≤ i - 1 by have := (hv j hj).1; omega)
   omega
  have h4 : (its.map szV).sum ≤ its.length * (100 * 9 ^ (i - 1)) := by
   have : ∀ (B : Nat) (q : List DVal), (∀ x ∈ q, szV x ≤ B) → (q.map szV).sum ≤ q.length * B := by
    intro B q
    induction q with
    | nil => intro _; simp
    | cons x t ih =>
     intro h
     have := ih (fun y hy => h y (List.mem_cons_of_mem _ hy))
     have h5 := h x (List.mem_cons_self ..)
     simp only [List.map_cons, List.sum_cons, List.length_cons, Nat.succ_mul]
     omega
   exact this _ its h1
  have h5 : its.length * (100 * 9 ^ (i - 1)) ≤ 8 * (100 * 9 ^ (i - 1)) := Nat.mul_le_mul_right _ hl
  have h6 : 9 ^ i = 9 * 9 ^ (i - 1) := by rw [← Nat.pow_succ']; congr 1; omega
  have := Nat.one_le_pow (i - 1) 9 (by omega)
  omega
 ·simp
theorem limK_ge {ds : List DRule} (hok : descOk ds = true) {i : Nat} (hi : i < ds.length) (hk : ds[i].kind = 4 ∨ ds[i].kind = 5) : 255 ≤ limD ds (ds[i].kids.getD 0 0) := by
 have h0 : 0 < limD ds (ds[i].kids.getD 0 0) := by
  have := kids_len hok i hi
  rcases hk with hk | hk
  ·exact (this.1 hk).2
  ·exact (this.2.1 hk).2
 unfold limD at *
 split at h0
 ·rename_i h1
  rw [if_pos h1]
  split at h0
  ·rename_i r hr
   try rw [hr]
   try dsimp only
   rcases limR_cases r with h2 | h2 | h2 | h2 | h2 <;> omega
  ·omega
 ·omega
theorem made2 {ds : List DRule} {i : Nat} (hi : i < ds.length) (hk : ds[i].kind = 2) : FitV ds i (.mk 0 [] []) := fit_flat hi (by unfold ownV; rw [if_neg (by omega), if_pos hk]; rfl) (by simp)
theorem made1 {ds : List DRule} (hok : descOk ds = true) {i : Nat} (hi : i < ds.length) (hk : ds[i].kind = 1) : ∃ s : Nat, ds[i].size = (s : Int) ∧ 1 ≤ s ∧ s ≤ 4 ∧ ∀ x : Nat, x < 256 ^ s → FitV ds i (.mk (x : Int) [] []) := by
 have hs := (kids_len hok i hi).2.2.2.2.2.1 hk
 refine ⟨ds[i].size.toNat, by omega, by omega, by omega, fun x hx => fit_flat hi ?_ (by simp)⟩
 unfold ownV
 rw [if_pos hk]
 have hl : limR ds[i] = 256 ^ ds[i].size.toNat - 1 := by unfold limR; rw [if_pos ⟨hk, by omega, by omega⟩]
 have : (x : Int) ≤ limR ds[i] := by
  rw [hl]
  have h2 : (x : Int) < ((256 ^ ds[i].size.toNat : Nat) : Int) := Int.ofNat_lt.2 hx
  rw [Int.natCast_pow] at h2
  have h3 : (((256 : Nat) : Int) ^ ds[i].size.toNat) = (256 : Int) ^ ds[i].size.toNat := rfl
  rw [h3] at h2
  exact Int.le_sub_one_of_lt h2
 rw [decide_eq_true this, decide_eq_true (show (0 : Int) ≤ (x : Int) by omega)]; rfl
theorem made3 {ds : List DRule} (hok : descOk ds = true) {i : Nat} (hi : i < ds.length) (hk : ds[i].kind = 3) : ∃ s : Nat, ds[i].size = (s : Int) ∧ s ≤ 64 ∧ ∀ b : List UInt8, b.length = s → FitV ds i (.mk 0 b []) := by
 have hs := (kids_len hok i hi).2.2.2.2.2.2 hk
 refine ⟨ds[i].size.toNat, by omega, by omega, fun b hb => fit_flat hi ?_ (by omega)⟩
 unfold ownV
 rw [if_neg (by omega), if_neg (by omega), if_pos hk]
 have h2 : (b.length : Int) = ds[i].size := by omega
 simp only [h2, decide_true]; rfl
theorem made4 {ds : List DRule} (hok : descOk ds = true) {i : Nat} (hi : i < ds.length) (hk : ds[i].kind = 4) : ∀ b : List UInt8, b.length ≤ 6 → FitV ds i (.mk 0 b []) := by
 intro b hb
 refine fit_flat hi ?_ (by omega)
 have hs := limK_ge hok hi (.inl hk)
 unfold ownV
 rw [if_neg (by omega), if_neg (by omega), if_neg (by omega), if_pos hk]
 have : (b.length : Int) ≤ min 400 (limD ds (ds[i].kids.getD 0 0)) := by omega
 rw [decide_eq_true this]; rfl
theorem made10 {ds : List DRule} {i : Nat} (hi : i < ds.length) (hk : ds[i].kind = 10) : ∀ b : List UInt8, b.length ≤ 6 → FitV ds i (.mk 0 b []) := by
 intro b hb
 refine fit_flat hi ?_ (by omega)
 unfold ownV
 simp [hk]; omega
theorem made9 {ds : List DRule} (hok : descOk ds = true) {i : Nat} (hi : i < ds.length) (hk : ds[i].kind = 8 ∨ ds[i].kind = 9) : kd ds[i] 0 < i ∧ ∀ d, FitV ds (kd ds[i] 0) d → FitV ds i (.mk 0 [] [d]) := by
 have hkl := (kids_len hok i hi).2.2.2.2.1 hk
 have hlt := kd_lt hok i hi 0 (by omega)
 have hkv : ∀ j, kidV ds[i] 0 j = kd ds[i] 0 := fun j => by unfold kidV; rw [if_neg (by omega), if_neg (by omega), if_neg (by omega)]
 refine ⟨hlt, fun d hd => fit_items hi ?_ (by simp) (.inl (by omega)) (fun j hj => ?_)⟩
 ·unfold ownV
  rcases hk with hk | hk
  ·simp [hk]
  ·simp [hk]
 ·rw [hkv]
  have : j = 0 := by simp at hj; omega
  subst this
  exact ⟨hlt, hd⟩
theorem made8n {ds : List DRule} {i : Nat} (hi : i < ds.length) (hk : ds[i].kind = 8) : FitV ds i (.mk 0 [] []) := fit_flat hi (by unfold ownV; simp [hk]) (by simp)
theorem choice_tags {ds : List DRule} (hok : descOk ds = true) {i : Nat} (hi : i < ds.length) (hk : ds[i].kind = 7) : 0 < ds[i].tags.length ∧ ds[i].tags.length ≤ 8 := by
 have h := ruleKind hok i hi
 unfold kindOk at h
 rw [if_neg (by omega), if_neg (by omega), if_neg (by omega), if_neg (by omega), if_neg (by omega), if_neg (by omega), if_pos hk] at h
 unfold choOk at h
 simp only [Bool.and_eq_true, between_iff] at h
 omega
theorem made7 {ds : List DRule} (hok : descOk ds = true) {i : Nat} (hi : i < ds.length) (hk : ds[i].kind = 7) (x : Nat) (hx : x < ds[i].tags.length) : ∀ d, FitV ds (kd ds[i] (x + 1)) d → FitV ds i (.mk ds[i].tags[x] [] [d]) := by
 have hkt := ((kids_len hok i hi).2.2.2.1 hk).1
 have hlt := kd_lt hok i hi (x + 1) (by omega)
 have hself : tagN ds[i].tags ds[i].tags[x] = x := by
  have := tagN_self hok i hi hk x hx
  rwa [List.getD_eq_getElem?_getD, List.getElem?_eq_getElem hx, Option.getD_some] at this
 have hkv : ∀ j, kidV ds[i] ds[i].tags[x] j = kd ds[i] (x + 1) := fun j => by unfold kidV; rw [if_neg (by omega), if_neg (by omega), if_pos hk, hself]
 refine fun d hd => fit_items hi ?_ (by simp) (.inl (by omega)) (fun j hj => ?_)
 ·unfold ownV
  rw [if_neg (by omega), if_neg (by omega), if_neg (by omega), if_neg (by omega), if_neg (by omega), if_neg (by omega), if_pos hk, hself, decide_eq_true hx]
  rfl
 ·rw [hkv]
  have : j = 0 := by simp at hj; omega
  subst this
  exact ⟨hlt, hd⟩
def FitL (ds : List DRule) (KD : Nat → Nat) (l : List DVal) : Prop := ∀ j (hj : j < l.length), FitV ds (KD j) l[j]
theorem FitL.nil (ds : List DRule) (KD : Nat → Nat) : FitL ds KD [] := fun j hj => by simp at hj
theorem FitL.snoc {ds : List DRule} {KD : Nat → Nat} {l : List DVal} (h : FitL ds KD l) {x : DVal} (hx : FitV ds (KD l.length) x) : FitL ds KD (l ++ [x]) := by
 intro j hj
 rw [List.length_append, List.length_singleton] at hj
 rcases (by omega : j < l.length ∨ j = l.length) with h1 | rfl
 ·rw [List.getElem_append_left h1]; exact h j h1
 ·rw [List.getElem_append_right (by omega)]; simpa using hx
theorem FitL.put {ds : List DRule} {KD : Nat → Nat} {ps : List VT} (h : FitL ds KD (valsOf ps)) {t : VT} (hx : FitV ds (KD ps.length) t.val) : FitL ds KD (valsOf (ps ++ [t])) := by
 rw [valsOf_append]
 refine FitL.snoc h ?_
 rwa [valsOf_len]
theorem made6 {ds : List DRule} (hok : descOk ds = true) {i : Nat} (hi : i < ds.length) (hk : ds[i].kind = 6) : (0 < ds[i].kids.length ∧ ds[i].kids.length ≤ 8) ∧ ∀ its : List DVal, its.length = ds[i].kids.length → FitL ds (fun k => kd ds[i] k) its → FitV ds i (.mk 0 [] its) := by
 have h := ruleKind hok i hi
 unfold kindOk at h
 rw [if_neg (by omega), if_neg (by omega), if_neg (by omega), if_neg (by omega), if_neg (by omega), if_pos hk] at h
 unfold seqOk at h
 simp only [Bool.and_eq_true, between_iff] at h
 have h8 : 0 < ds[i].kids.length ∧ ds[i].kids.length ≤ 8 := by omega
 refine ⟨h8, fun its hl hf => fit_items hi ?_ (by omega) ?_ (fun j hj => ?_)⟩
 ·unfold ownV
  rw [if_neg (by omega), if_neg (by omega), if_neg (by omega), if_neg (by omega), if_neg (by omega), if_pos hk, hl]
  simp
 ·have := kd_lt hok i hi 0 (by omega)
  left; omega
 ·have hkv : kidV ds[i] 0 j = kd ds[i] j := by unfold kidV; rw [if_neg (by omega), if_pos hk]
  rw [hkv]
  exact ⟨kd_lt hok i hi j (by omega), hf j hj⟩
theorem made5 {ds : List DRule} (hok : descOk ds = true) {i : Nat} (hi : i < ds.length) (hk : ds[i].kind = 5) : ∀ its : List DVal, its.length ≤ 3 → FitL ds (fun _ => kd ds[i] 1) its → FitV ds i (.mk 0 [] its) := by
 have hkl := ((kids_len hok i hi).2.1 hk).1
 have hlim := limK_ge hok hi (.inr hk)
 have hlt := kd_lt hok i hi 1 (by omega)
 refine fun its hl hf => fit_items hi ?_ (by omega) (.inl (by omega)) (fun j hj => ?_)
 ·unfold ownV
  rw [if_neg (by omega), if_neg (by omega), if_neg (by omega), if_neg (by omega), if_pos hk]
  have : (its.length : Int) ≤ min 40 (limD ds (ds[i].kids.getD 0 0)) := by omega
  rw [decide_eq_true this]; rfl
 ·have hkv : kidV ds[i] 0 j = kd ds[i] 1 := by unfold kidV; rw [if_pos hk]
  rw [hkv]
  exact ⟨hlt, hf j hj⟩
theorem GotV.renum {w w' : World} {t : VT} {v : DVal} (h : GotV w w' t v) (n : Int) : GotV w w' (.mk n t.bs t.vb t.its t.vi) (.mk n v.bytes v.items) := by
 obtain ⟨e, o, f⟩ := h
 subst e
 refine ⟨?_, .mk o.b o.i o.kids, ?_⟩
 ·rw [VT.val, VT.val_bytes, VT.val_items]
 ·rw [VT.vals_eq] at f ⊢; exact f
theorem vals_renum (t : VT) (n : Int) : (VT.mk n t.bs t.vb t.its t.vi).vals = t.vals := by rw [VT.vals_eq, VT.vals_eq]; rfl
theorem val_out3 {w wr : World} {g : Nat} {t : VT} {v : DVal} (hg : w.heap.size ≤ g) (e : Ext w wr) (h : GotV w wr t v) (hne : ∀ u ∈ t.vals, ∀ b, u.ownBlock = some b → b ≠ g) (x y z : Value) :
 GotV w (((wr.setCell ⟨g, 0, none⟩ x).setCell ⟨g, 1, none⟩ y).setCell ⟨g, 2, none⟩ z) t v ∧ Ext w (((wr.setCell ⟨g, 0, none⟩ x).setCell ⟨g, 1, none⟩ y).setCell ⟨g, 2, none⟩ z) := by
 have G := ((grown_set wr ⟨g, 0, none⟩ x).trans (grown_set _ ⟨g, 1, none⟩ y)).trans (grown_set _ ⟨g, 2, none⟩ z)
 exact ⟨⟨h.val, h.own.keep G (fun u hu b hb he => by injection he with he; exact hne u hu b hb he.symm), h.far⟩, e.grown G (fun b hb => by injection hb with hb; simp at hb; omega)⟩
theorem sChoice_c (A : Option Addr) (ds : List DRule) (c : Nat) (hok : descOk ds = true) (i : Nat) (hi : i < ds.length) (hk : ds[i].kind = 7) (Rb : Option Addr) (rb : Nat) (Rn : Option Addr) (rn : Nat) (Rt : Option Addr) (rt : Nat) (Rk : Option Addr) (rk : Nat)
 (Ab : Option Addr) (b : List UInt8) (cb : Nat) (HR : ∀ j, j < i → sReadOk A ds c Ab b cb j) (a : Nat) (ha : a ≤ b.length) (w : World) (hd : RdD w A ds c) (hb : Bs w Ab b cb) (hS : RdS w ds[i] Rb rb Rn rn Rt rt Rk rk) :
 Calls Tryz.prog 74 #[vdesc (.slice A ds.length c), vrule ds[i] (.slice Rb ds[i].bytes.length rb) (.slice Rn ds[i].names.length rn) (.slice Rt ds[i].tags.length rt) (.slice Rk ds[i].kids.length rk), .slice Ab b.length cb, .int .i64 (a : Int)] w (RdOut (choiceF ds (readV ds b) ds[i] b a) w) := by
 have hl := hd.len
 have hbl := hb.len
 obtain ⟨g0, g1, gk, g2, g3, g4, _⟩ := kid0 hok i hi (.inr (.inr hk))
 have hx0 : ds.getD (kd ds[i] 0) noRule = ds[kd ds[i] 0] := by simp [g0]
 have H7 : ds[i].kids.length = ds[i].tags.length + 1 := ((kids_len hok i hi).2.2.2.1 hk).1
 have HKN := kd_int hok i hi
 obtain ⟨bk, ok, hRk, _, hck⟩ := hS.k.at 0 gk
 rw [HKN 0 gk] at hck
 subst hRk
 have CI : Hid (∀ w', Ext w w' → Gives Tryz.prog 69 #[.agg #[.slice A ds.length c], .int .i64 ((kd ds[i] 0 : Nat) : Int), .slice Ab b.length cb, .int .i64 (a : Int)] w' (intRes (intAt ds[kd ds[i] 0] b a) a (a + ds[kd ds[i] 0].size.toNat))) := fun w' e =>
  sInteger_c A ds c (kd ds[i] 0) g0 ⟨g3, g4⟩ Ab b cb a ha w' (hd.ext e) (hb.ext e)
 have CT : Hid (∀ (n : Int) w', Ext w w' → Gives Tryz.prog 58 #[.agg #[.string ds[i].nm, .int .i64 ds[i].kind, .int .i64 ds[i].size, .bool ds[i].little, .slice Rb ds[i].bytes.length rb, .slice Rn ds[i].names.length rn, .slice Rt ds[i].tags.length rt, .slice (some ⟨bk, ok, none⟩) ds[i].kids.length rk], .int .i64 n, .int .i64 0] w' (.int .i64 (if tagN ds[i].tags n < ds[i].tags.length then (kd ds[i] (tagN ds[i].tags n + 1) : Int) else -1))) := fun n w' e =>
  sItem_c ds[i] Rb rb Rn rn Rt rt (some ⟨bk, ok, none⟩) rk n w' (hS.ext e) hk H7 HKN
 have HAT : ∀ n : Nat, tagN ds[i].tags (n : Int) < ds[i].tags.length → ∀ k, k < 1 → ItemAt ds[i] (n : Int) k := by
  intro n ht k hk'
  obtain rfl : k = 0 := by omega
  exact .inr (.inr (.inl ⟨hk, rfl, ht, by omega⟩))
 have CM : Hid (∀ (n : Nat) (a' : Nat) w', tagN ds[i].tags n < ds[i].tags.length → a' ≤ b.length → Ext w w' → Calls Tryz.prog 73 #[.agg #[.slice A ds.length c], .agg #[.string ds[i].nm, .int .i64 ds[i].kind, .int .i64 ds[i].size, .bool ds[i].little, .slice Rb ds[i].bytes.length rb, .slice Rn ds[i].names.length rn, .slice Rt ds[i].tags.length rt, .slice (some ⟨bk, ok, none⟩) ds[i].kids.length rk], .int .i64 (n : Int), .int .i64 1, .slice Ab b.length cb, .int .i64 (a' : Int)] w' fun e w'' => ∃ (t : VT) (A1 : Option Addr) (n1 c1 : Nat) (A2 : Option Addr) (n2 c2 : Nat), e = .returned (.tuple #[.agg #[.int .i64 (itemsF (readV ds b) ds[i] n 1 0 a' []).v.num, .slice A1 n1 c1, .slice A2 n2 c2], .int .i64 ((itemsF (readV ds b) ds[i] n 1 0 a' []).next : Int), .int .i64 ((itemsF (readV ds b) ds[i] n 1 0 a' []).code : Int)]) ∧ Hid (t.vb = .slice A1 n1 c1 ∧ t.vi = .slice A2 n2 c2) ∧ Hid (GotV w' w'' t (itemsF (readV ds b) ds[i] n 1 0 a' []).v) ∧ Ext w' w'') := fun n a' w' ht ha' e =>
  (sItems_c A ds c hok i hi Rb rb Rn rn Rt rt (some ⟨bk, ok, none⟩) rk Ab b cb n 1 (by omega) (HAT n ht) HR a' ha' w' (hd.ext e) (hb.ext e) (hS.ext e)).mono fun e' w'' h => RdOut.shape h
 have HLE : Hid (∀ n, intAt ds[kd ds[i] 0] b a = some n → a + ds[kd ds[i] 0].size.toNat ≤ b.length) := fun n h => intAt_le ha h
 unfold choiceF
 rw [hx0]
 generalize ds[kd ds[i] 0].size.toNat = sz at *
 generalize intAt ds[kd ds[i] 0] b a = O at *
 generalize kd ds[i] 0 = k0 at *
 generalize ds[i] = r at *
 obtain ⟨W0, HW0, B1, B2, B3, e0, hs0⟩ := boxes3' w #[.slice A ds.length c] #[.string r.nm, .int .i64 r.kind, .int .i64 r.size, .bool r.little, .slice Rb r.bytes.length rb, .slice Rn r.names.length rn, .slice Rt r.tags.length rt, .slice (some ⟨bk, ok, none⟩) r.kids.length rk] #[.int .i64 0, .slice none 0 0, .slice none 0 0] 26 51 29
 have d0 : ∀ w', Ext W0 w' → _ = some (Value.slice A ds.length c) := fun w' e => B1.at 0 w' e
 have q0 : ∀ w', Ext W0 w' → _ = some (Value.string r.nm) := fun w' e => B2.at 0 w' e
 have q1 : ∀ w', Ext W0 w' → _ = some (Value.int .i64 r.kind) := fun w' e => B2.at 1 w' e
 have q2 : ∀ w', Ext W0 w' → _ = some (Value.int .i64 r.size) := fun w' e => B2.at 2 w' e
 have q3 : ∀ w', Ext W0 w' → _ = some (Value.bool r.little) := fun w' e => B2.at 3 w' e
 have q4 : ∀ w', Ext W0 w' → _ = some (Value.slice Rb r.bytes.length rb) := fun w' e => B2.at 4 w' e
 have q5 : ∀ w', Ext W0 w' → _ = some (Value.slice Rn r.names.length rn) := fun w' e => B2.at 5 w' e
 have q6 : ∀ w', Ext W0 w' → _ = some (Value.slice Rt r.tags.length rt) := fun w' e => B2.at 6 w' e
 have q7 : ∀ w', Ext W0 w' → _ = some (Value.slice (some ⟨bk, ok, none⟩) r.kids.length rk) := fun w' e => B2.at 7 w' e
 have qk : ∀ w', Ext W0 w' → _ = some (vint (k0 : Int)) := fun w' e => hck w' (e0.trans e)
 simp only [Nat.add_zero, vint] at qk
 have HB3 := Lib.hid B3; have HS0 := Lib.hid hs0
 have gki : (0 : Int) < (r.kids.length : Int) := by omega
 clear B1 B2 B3 hs0 hd hb hS HR hck HKN H7 hk HAT
 unfold vdesc vrule
 cases O with
 | none =>
  simp only [intRes] at CI
  go_enter Tryz.func74, Tryz.ntmps74
  go_wp2_with fail
  rw [← HW0.out]
  refine wp_region_quiet_below (by kernel_rfl) (by kernel_rfl) ?_
  repeat (go_big_quiet_step ((go_at_call 69; exact Calls.regrown_of (CI.out _ (e0.trans (by first | assumption | exact Ext_regrown _ _ (Ext.refl _)))))))
  refine wpQuiet_nil ?_
  rintro w1 ⟨⟨nq, osq⟩, hq⟩
  have ew1 := ext_of_q hq
  clear hq nq osq
  have hb1 := HB3.out.ext ew1
  have r2 := hb1.cell; have f2 := hb1.free
  have hput : Hid (Ext w (put3 w1 (w.heap.size + 1 + 1) 0 t0)) := (e0.trans ew1).grown (grown_put3 w1 (w.heap.size + 1 + 1) 0 t0) (fun g hg => by injection hg with hg; omega)
  go_wp2
  exact bodyPost_ret (v := badRes a 1) (by simp [results, Tryz.results74, go_sem, r2, f2, badRes, zeroV]) rfl (RdOut.bad hput.out)
 | some n =>
  have hle := HLE.out n rfl
  simp only [intRes] at CI
  dsimp only
  by_cases ht : tagN r.tags (n : Int) < r.tags.length
  ·rw [if_pos ht]
   have CT1 : Hid (∀ w', Ext w w' → Gives Tryz.prog 58 #[.agg #[.string r.nm, .int .i64 r.kind, .int .i64 r.size, .bool r.little, .slice Rb r.bytes.length rb, .slice Rn r.names.length rn, .slice Rt r.tags.length rt, .slice (some ⟨bk, ok, none⟩) r.kids.length rk], .int .i64 n, .int .i64 0] w' (.int .i64 ((kd r (tagN r.tags n + 1) : Nat) : Int))) := fun w' e => by have := CT.out n w' e; rwa [if_pos ht] at this
   have CM1 := Lib.hid (fun w' e => CM.out n (a + sz) w' ht hle e)
   clear CT CM
   generalize itemsF (readV ds b) r n 1 0 (a + sz) [] = Y at *
   generalize kd r (tagN r.tags n + 1) = kt at *
   obtain ⟨R, hR⟩ : ∃ R, (if Y.code = 0 then (⟨.mk n Y.v.bytes Y.v.items, Y.next, 0⟩ : RR) else Y) = R := ⟨_, rfl⟩
   rw [hR]
   have HRR := Lib.hid hR
   clear hR
   go_enter Tryz.func74, Tryz.ntmps74
   go_wp2_with fail
   rw [← HW0.out]
   refine wp_region_quiet_below (by kernel_rfl) (by kernel_rfl) ?_
   repeat (go_big_quiet_step ((go_at_call 69; exact Calls.regrown_of (CI.out _ (e0.trans (by first | assumption | exact Ext_regrown _ _ (Ext.refl _)))))))
   refine wpQuiet_nil ?_
   rintro w1 ⟨⟨nq, osq⟩, hq⟩
   have ew1 := ext_of_q hq
   clear hq nq osq
   have e1 := e0.trans ew1
   go_wp2_with fail
   refine (CT1.out _ e1).mono ?_; rintro _ w2 ⟨rfl, he2⟩
   have e02 := ew1.trans he2
   have hCX := CM1.out _ (e1.trans he2)
   by_cases hc : Y.code = 0
   ·have hq := HRR.out; rw [if_pos hc] at hq; subst hq
    clear HRR
    have hcc : ((Y.code : Int) == 0) = true := by simp [hc]
    have HC := Lib.hid hc
    clear hc
    go_wp2_with fail
    refine hCX.mono ?_; rintro _ w3 ⟨t, A1, n1, c1, A2, n2, c2, rfl, hsh, hgt, he3⟩
    have e03 := e02.trans he3
    have x4 := Ext_alloc (.cells #[.int .i64 (n : Int), .slice A1 n1 c1, .slice A2 n2 c2] 29) (Ext.refl w3)
    have hb3 := (HB3.out.ext e03).ext x4
    have r2 := hb3.cell; have f2 := hb3.free
    have hw2 : w.heap.size + 1 + 1 < w2.heap.size := (HB3.out.ext e02).lt
    have hww : w.heap.size ≤ w2.heap.size := by omega
    have hG := val_out3 (g := w.heap.size + 1 + 1) (by omega) ((e0.trans e03).trans x4) (((hgt.out.renum (n : Int)).ext x4).down hww) (fun u hu g hg => by rw [vals_renum] at hu; have := (hgt.out.own.block u hu g hg).1; omega) (.int .i64 (n : Int)) (.slice A1 n1 c1) (.slice A2 n2 c2)
    have HG := Lib.hid hG
    clear hG x4 hb3 hCX
    go_wp2
    exact bodyPost_ret (v := .tuple #[.agg #[.int .i64 (n : Int), .slice A1 n1 c1, .slice A2 n2 c2], .int .i64 (Y.next : Int), .int .i64 (Y.code : Int)]) (by simp [results, Tryz.results74, go_sem, r2, f2]) rfl ⟨.mk n t.bs t.vb t.its t.vi, by rw [HC.out]; unfold rrVal vval; simp only [VT.vb, VT.vi, DVal.num]; have h1 := hsh.out.1; have h2 := hsh.out.2; unfold VT.vb at h1; unfold VT.vi at h2; rw [h1, h2], HG.out.1, HG.out.2⟩
   ·have hq := HRR.out; rw [if_neg hc] at hq; subst hq
    clear HRR
    have hcc : ((Y.code : Int) == 0) = false := by simp [hc]
    clear hc
    go_wp2_with fail
    refine hCX.mono ?_; rintro _ w3 ⟨t, A1, n1, c1, A2, n2, c2, rfl, hsh, hgt, he3⟩
    have e03 := e02.trans he3
    have x4 := Ext_alloc (.cells #[.int .i64 Y.v.num, .slice A1 n1 c1, .slice A2 n2 c2] 29) (Ext.refl w3)
    have hb3 := (HB3.out.ext e03).ext x4
    have r2 := hb3.cell; have f2 := hb3.free
    have hw2 : w.heap.size + 1 + 1 < w2.heap.size := (HB3.out.ext e02).lt
    have hww : w.heap.size ≤ w2.heap.size := by omega
    have hG := val_out3 (g := w.heap.size + 1 + 1) (by omega) ((e0.trans e03).trans x4) ((hgt.out.ext x4).down hww) (fun u hu g hg => by have := (hgt.out.own.block u hu g hg).1; omega) (.int .i64 Y.v.num) (.slice A1 n1 c1) (.slice A2 n2 c2)
    have HG := Lib.hid hG
    clear hG x4 hb3 hCX
    go_wp2
    exact bodyPost_ret (v := .tuple #[.agg #[.int .i64 Y.v.num, .slice A1 n1 c1, .slice A2 n2 c2], .int .i64 (Y.next : Int), .int .i64 (Y.code : Int)]) (by simp [results, Tryz.results74, go_sem, r2, f2]) rfl ⟨t, by unfold rrVal vval; rw [hsh.out.1, hsh.out.2], HG.out.1, HG.out.2⟩
  ·rw [if_neg ht]
   have CT1 : Hid (∀ w', Ext w w' → Gives Tryz.prog 58 #[.agg #[.string r.nm, .int .i64 r.kind, .int .i64 r.size, .bool r.little, .slice Rb r.bytes.length rb, .slice Rn r.names.length rn, .slice Rt r.tags.length rt, .slice (some ⟨bk, ok, none⟩) r.kids.length rk], .int .i64 n, .int .i64 0] w' (.int .i64 (-1))) := fun w' e => by have := CT.out n w' e; rwa [if_neg ht] at this
   clear CT CM
   go_enter Tryz.func74, Tryz.ntmps74
   go_wp2_with fail
   rw [← HW0.out]
   refine wp_region_quiet_below (by kernel_rfl) (by kernel_rfl) ?_
   repeat (go_big_quiet_step ((go_at_call 69; exact Calls.regrown_of (CI.out _ (e0.trans (by first | assumption | exact Ext_regrown _ _ (Ext.refl _)))))))
   refine wpQuiet_nil ?_
   rintro w1 ⟨⟨nq, osq⟩, hq⟩
   have ew1 := ext_of_q hq
   clear hq nq osq
   have e1 := e0.trans ew1
   go_wp2_with fail
   refine (CT1.out _ e1).mono ?_; rintro _ w2 ⟨rfl, he2⟩
   have e02 := ew1.trans he2
   have hb1 := HB3.out.ext e02
   have r2 := hb1.cell; have f2 := hb1.free
   have hput : Hid (Ext w (put3 w2 (w.heap.size + 1 + 1) 0 t0)) := (e0.trans e02).grown (grown_put3 w2 (w.heap.size + 1 + 1) 0 t0) (fun g hg => by injection hg with hg; omega)
   go_wp2
   exact bodyPost_ret (v := badRes a 3) (by simp [results, Tryz.results74, go_sem, r2, f2, badRes, zeroV]) rfl (RdOut.bad hput.out)
theorem sOption_c (A : Option Addr) (ds : List DRule) (c : Nat) (hok : descOk ds = true) (i : Nat) (hi : i < ds.length) (hk : ds[i].kind = 8) (Rb : Option Addr) (rb : Nat) (Rn : Option Addr) (rn : Nat) (Rt : Option Addr) (rt : Nat) (Rk : Option Addr) (rk : Nat)
 (Ab : Option Addr) (b : List UInt8) (cb : Nat) (HR : ∀ j, j < i → sReadOk A ds c Ab b cb j) (a : Nat) (ha : a ≤ b.length) (w : World) (hd : RdD w A ds c) (hb : Bs w Ab b cb) (hS : RdS w ds[i] Rb rb Rn rn Rt rt Rk rk) :
 Calls Tryz.prog 75 #[vdesc (.slice A ds.length c), vrule ds[i] (.slice Rb ds[i].bytes.length rb) (.slice Rn ds[i].names.length rn) (.slice Rt ds[i].tags.length rt) (.slice Rk ds[i].kids.length rk), .slice Ab b.length cb, .int .i64 (a : Int)] w (RdOut (optionF (readV ds b) ds[i] b a) w) := by
 have hl := hd.len
 have hbl := hb.len
 have HK1 := (kids_len hok i hi).2.2.2.2.1 (.inl hk)
 have CM : Hid (∀ (m : Nat) (a' : Nat) w', m ≤ 1 → a' ≤ b.length → Ext w w' → Calls Tryz.prog 73 #[.agg #[.slice A ds.length c], .agg #[.string ds[i].nm, .int .i64 ds[i].kind, .int .i64 ds[i].size, .bool ds[i].little, .slice Rb ds[i].bytes.length rb, .slice Rn ds[i].names.length rn, .slice Rt ds[i].tags.length rt, .slice Rk ds[i].kids.length rk], .int .i64 0, .int .i64 (m : Int), .slice Ab b.length cb, .int .i64 (a' : Int)] w' fun e w'' => ∃ (t : VT) (A1 : Option Addr) (n1 c1 : Nat) (A2 : Option Addr) (n2 c2 : Nat), e = .returned (.tuple #[.agg #[.int .i64 (itemsF (readV ds b) ds[i] 0 m 0 a' []).v.num, .slice A1 n1 c1, .slice A2 n2 c2], .int .i64 ((itemsF (readV ds b) ds[i] 0 m 0 a' []).next : Int), .int .i64 ((itemsF (readV ds b) ds[i] 0 m 0 a' []).code : Int)]) ∧ Hid (t.vb = .slice A1 n1 c1 ∧ t.vi = .slice A2 n2 c2) ∧ Hid (GotV w' w'' t (itemsF (readV ds b) ds[i] 0 m 0 a' []).v) ∧ Ext w' w'') := fun m a' w' hm ha' e =>
  (sItems_c A ds c hok i hi Rb rb Rn rn Rt rt Rk rk Ab b cb 0 m (by omega) (by
   intro k hk'
   obtain rfl : k = 0 := by omega
   exact .inr (.inr (.inr ⟨.inl hk, rfl, by omega⟩))) HR a' ha' w' (hd.ext e) (hb.ext e) (hS.ext e)).mono fun e' w'' h => RdOut.shape h
 unfold optionF
 generalize ds[i] = r at *
 obtain ⟨W0, HW0, B1, B2, e0, hs0⟩ := boxes2' w #[.slice A ds.length c] #[.string r.nm, .int .i64 r.kind, .int .i64 r.size, .bool r.little, .slice Rb r.bytes.length rb, .slice Rn r.names.length rn, .slice Rt r.tags.length rt, .slice Rk r.kids.length rk] 26 51
 have B3 := Box.new W0 #[.int .i64 0, .slice none 0 0, .slice none 0 0] 29
 have x1 := Ext_alloc (.cells #[.int .i64 0, .slice none 0 0, .slice none 0 0] 29) (Ext.refl W0)
 obtain ⟨W1, hW1⟩ : ∃ W1, W1 = W0.alloc (.cells #[.int .i64 0, .slice none 0 0, .slice none 0 0] 29) := ⟨_, rfl⟩
 rw [← hW1] at B3 x1
 have hs0' : W0.heap.size = w.heap.size + 1 + 1 := by omega
 rw [hs0'] at B3
 have d0 : ∀ w', Ext W0 w' → _ = some (Value.slice A ds.length c) := fun w' e => B1.at 0 w' e
 have q0 : ∀ w', Ext W0 w' → _ = some (Value.string r.nm) := fun w' e => B2.at 0 w' e
 have q1 : ∀ w', Ext W0 w' → _ = some (Value.int .i64 r.kind) := fun w' e => B2.at 1 w' e
 have q2 : ∀ w', Ext W0 w' → _ = some (Value.int .i64 r.size) := fun w' e => B2.at 2 w' e
 have q3 : ∀ w', Ext W0 w' → _ = some (Value.bool r.little) := fun w' e => B2.at 3 w' e
 have q4 : ∀ w', Ext W0 w' → _ = some (Value.slice Rb r.bytes.length rb) := fun w' e => B2.at 4 w' e
 have q5 : ∀ w', Ext W0 w' → _ = some (Value.slice Rn r.names.length rn) := fun w' e => B2.at 5 w' e
 have q6 : ∀ w', Ext W0 w' → _ = some (Value.slice Rt r.tags.length rt) := fun w' e => B2.at 6 w' e
 have q7 : ∀ w', Ext W0 w' → _ = some (Value.slice Rk r.kids.length rk) := fun w' e => B2.at 7 w' e
 have HB3 := Lib.hid B3; have HS0 := Lib.hid hs0'
 have HWW : Hid (W1 = (((w.alloc (.cells #[.slice A ds.length c] 26)).alloc (.cells #[.string r.nm, .int .i64 r.kind, .int .i64 r.size, .bool r.little, .slice Rb r.bytes.length rb, .slice Rn r.names.length rn, .slice Rt r.tags.length rt, .slice Rk r.kids.length rk] 51)).alloc (.cells #[.int .i64 0, .slice none 0 0, .slice none 0 0] 29))) := by show _ = _; rw [hW1, HW0.out]
 have hx := x1.size
 clear B1 B2 B3 hs0 hs0' hW1
 clear hd hS HR hk HK1
 unfold vdesc vrule
 by_cases hge : b.length ≤ a
 ·rw [List.getElem?_eq_none hge]
  have hgi : (b.length : Int) ≤ (a : Int) := by omega
  have hput : Hid (Ext w W1) := e0.trans x1
  rw [HWW.out] at hput
  go_enter Tryz.func75, Tryz.ntmps75
  go_wp2
  exact bodyPost_ret (v := badRes a 1) (by simp [results, Tryz.results75, go_sem, badRes, zeroV]) rfl (RdOut.bad hput.out)
 ·rw [List.getElem?_eq_getElem (show a < b.length by omega)]
  have hgi : ¬ (b.length : Int) ≤ (a : Int) := by omega
  obtain ⟨b1, o1, rfl, hb1, hc1⟩ := hb.at a (by omega)
  simp only [vu8] at hc1
  have h8 := b[a].toNat_lt
  dsimp only
  by_cases hx1 : 1 < b[a].toNat
  ·rw [if_pos hx1]
   have hxi : (1 : Int) < (b[a].toNat : Int) := by omega
   generalize b[a] = x at *
   have hput := e0.trans x1
   have pc := hc1 _ hput
   rw [HWW.out] at hput pc
   go_enter Tryz.func75, Tryz.ntmps75
   go_wp2
   exact bodyPost_ret (v := badRes a 4) (by simp [results, Tryz.results75, go_sem, badRes, zeroV]) rfl (RdOut.bad hput)
  ·rw [if_neg hx1]
   have hxi : ¬ (1 : Int) < (b[a].toNat : Int) := by omega
   have CM1 := Lib.hid (fun w' e => CM.out b[a].toNat (a + 1) w' (by omega) (by omega) e)
   clear CM
   generalize b[a] = x at *
   generalize itemsF (readV ds b) r 0 x.toNat 0 (a + 1) [] = Y at *
   have hput := e0.trans x1
   have pc := hc1 _ hput
   have p1 := fun w' (e : Ext W0 w') => hc1 w' (e0.trans e)
   have hwr : IntKind.i64.wrap ((a : Int) + 1) = (a : Int) + 1 := IntWalk.i64_in _ (by omega)
   have hwx : IntKind.i64.wrap (x.toNat : Int) = (x.toNat : Int) := IntWalk.i64_in _ (by omega)
   have HX1 := Lib.hid x1
   rw [HWW.out] at pc
   have hlt1 : (a : Int) < (b.length : Int) := by omega
   have h0a : (0 : Int) ≤ (a : Int) := by omega
   have SY : Hid (∀ w', Ext W0 w' → Ext W0 w' ∧ True) := fun _ h1 => ⟨h1, trivial⟩
   have hed := Ext_drew x1
   clear hput hx hb hc1
   go_enter Tryz.func75, Tryz.ntmps75
   go_wp2_with fail
   rw [← HWW.out]
   go_region_held3 (fun w' => Ext W0 w' ∧ True) (first | exact SY.out _ (Ext_drew x1) | exact SY.out _ (by assumption) | exact SY.out _ (((Ext.setCell hE5 (by have := HS0.out; simp; omega) _).setCell (by have := HS0.out; simp; omega) _).setCell (by have := HS0.out; simp; omega) _)) (first
    | (go_at_call 73; refine (CM1.out _ (e0.trans (Ext_drew x1))).mono ?_; rintro _ w5 ⟨t, A1, n1, c1, A2, n2, c2, rfl, hsh, hgt, he5⟩; have hE5 := (Ext_drew x1).trans he5; have hbz := HB3.out.ext ((Ext_drew (Ext.refl W1)).trans he5); have z0 : w5.cell? ⟨w.heap.size + 1 + 1, 0, none⟩ = some (Value.int .i64 0) := hbz.cell 0; have z1 : w5.cell? ⟨w.heap.size + 1 + 1, 1, none⟩ = some (Value.slice none 0 0) := hbz.cell 1; have z2 : w5.cell? ⟨w.heap.size + 1 + 1, 2, none⟩ = some (Value.slice none 0 0) := hbz.cell 2; have y0 : w5.frozen? ⟨w.heap.size + 1 + 1, 0, none⟩ = false := hbz.free 0; have y1 : w5.frozen? ⟨w.heap.size + 1 + 1, 1, none⟩ = false := hbz.free 1; have y2 : w5.frozen? ⟨w.heap.size + 1 + 1, 2, none⟩ = false := hbz.free 2))
   all_goals
    have hlw : w.heap.size + 1 + 1 < W1.heap.size := HB3.out.lt
    have hG := val_out3 (w := w) (g := w.heap.size + 1 + 1) (by omega) (e0.trans hE5) (hgt.out.down (w0 := w) (by show w.heap.size ≤ W1.heap.size; omega)) (fun u hu g hg => by have h1 := (hgt.out.own.block u hu g hg).1; have h2 : W1.heap.size ≤ g := h1; omega) (.int .i64 Y.v.num) (.slice A1 n1 c1) (.slice A2 n2 c2)
    have HG := Lib.hid hG
    clear hG
    go_wp2
    exact bodyPost_ret (v := .tuple #[.agg #[.int .i64 Y.v.num, .slice A1 n1 c1, .slice A2 n2 c2], .int .i64 (Y.next : Int), .int .i64 (Y.code : Int)]) (by simp [results, Tryz.results75, go_sem, z0, z1, z2, y0, y1, y2]) rfl ⟨t, by unfold rrVal vval; rw [hsh.out.1, hsh.out.2], HG.out.1, HG.out.2⟩
theorem u8_ne' (x : UInt8) (n : Nat) : ((x.toNat : Int) != (n : Int)) = decide (x.toNat ≠ n) := by
 by_cases h : x.toNat = n
 ·rw [h]; simp
 ·rw [decide_eq_true h]; simp; omega
theorem sChecked_c (A : Option Addr) (ds : List DRule) (c : Nat) (hok : descOk ds = true) (i : Nat) (hi : i < ds.length) (hk : ds[i].kind = 9) (Rb : Option Addr) (rb : Nat) (Rn : Option Addr) (rn : Nat) (Rt : Option Addr) (rt : Nat) (Rk : Option Addr) (rk : Nat)
 (Ab : Option Addr) (b : List UInt8) (cb : Nat) (HR : ∀ j, j < i → sReadOk A ds c Ab b cb j) (a : Nat) (ha : a ≤ b.length) (w : World) (hd : RdD w A ds c) (hb : Bs w Ab b cb) (hS : RdS w ds[i] Rb rb Rn rn Rt rt Rk rk) :
 Calls Tryz.prog 76 #[vdesc (.slice A ds.length c), vrule ds[i] (.slice Rb ds[i].bytes.length rb) (.slice Rn ds[i].names.length rn) (.slice Rt ds[i].tags.length rt) (.slice Rk ds[i].kids.length rk), .slice Ab b.length cb, .int .i64 (a : Int)] w (RdOut (checkedF (readV ds b) ds[i] b a) w) := by
 have hl := hd.len
 have hbl := hb.len
 have hbc := hb.cap
 have HK1 := (kids_len hok i hi).2.2.2.2.1 (.inr hk)
 have HAT : ∀ k, k < 1 → ItemAt ds[i] 0 k := by
  intro k hk'
  obtain rfl : k = 0 := by omega
  exact .inr (.inr (.inr ⟨.inr hk, rfl, by omega⟩))
 have CM1 : Hid (∀ w', Ext w w' → Calls Tryz.prog 73 #[.agg #[.slice A ds.length c], .agg #[.string ds[i].nm, .int .i64 ds[i].kind, .int .i64 ds[i].size, .bool ds[i].little, .slice Rb ds[i].bytes.length rb, .slice Rn ds[i].names.length rn, .slice Rt ds[i].tags.length rt, .slice Rk ds[i].kids.length rk], .int .i64 0, .int .i64 1, .slice Ab b.length cb, .int .i64 (a : Int)] w' fun e w'' => ∃ (t : VT) (A1 : Option Addr) (n1 c1 : Nat) (A2 : Option Addr) (n2 c2 : Nat), e = .returned (.tuple #[.agg #[.int .i64 (itemsF (readV ds b) ds[i] 0 1 0 a []).v.num, .slice A1 n1 c1, .slice A2 n2 c2], .int .i64 ((itemsF (readV ds b) ds[i] 0 1 0 a []).next : Int), .int .i64 ((itemsF (readV ds b) ds[i] 0 1 0 a []).code : Int)]) ∧ Hid (t.vb = .slice A1 n1 c1 ∧ t.vi = .slice A2 n2 c2) ∧ Hid (GotV w' w'' t (itemsF (readV ds b) ds[i] 0 1 0 a []).v) ∧ Ext w' w'') := fun w' e =>
  (sItems_c A ds c hok i hi Rb rb Rn rn Rt rt Rk rk Ab b cb 0 1 (by omega) HAT HR a ha w' (hd.ext e) (hb.ext e) (hS.ext e)).mono fun e' w'' h => RdOut.shape h
 have HGE : Hid (a ≤ (itemsF (readV ds b) ds[i] 0 1 0 a []).next) := itemsF_ge (fun _ _ => readV_ge) _ _ _ _ _ _
 obtain ⟨R, hR⟩ : ∃ R, checkedF (readV ds b) ds[i] b a = R := ⟨_, rfl⟩
 rw [hR]
 unfold checkedF at hR
 generalize ds[i] = r at *
 generalize itemsF (readV ds b) r 0 1 0 a [] = Y at *
 have HRR := Lib.hid hR
 clear hR
 obtain ⟨W0, HW0, B1, B2, e0, hs0⟩ := boxes2' w #[.slice A ds.length c] #[.string r.nm, .int .i64 r.kind, .int .i64 r.size, .bool r.little, .slice Rb r.bytes.length rb, .slice Rn r.names.length rn, .slice Rt r.tags.length rt, .slice Rk r.kids.length rk] 26 51
 have B3 := Box.new W0 #[.int .i64 0, .slice none 0 0, .slice none 0 0] 29
 have x1 := Ext_alloc (.cells #[.int .i64 0, .slice none 0 0, .slice none 0 0] 29) (Ext.refl W0)
 obtain ⟨W1, hW1⟩ : ∃ W1, W1 = W0.alloc (.cells #[.int .i64 0, .slice none 0 0, .slice none 0 0] 29) := ⟨_, rfl⟩
 rw [← hW1] at B3 x1
 have hs0' : W0.heap.size = w.heap.size + 1 + 1 := by omega
 rw [hs0'] at B3
 have d0 : ∀ w', Ext W0 w' → _ = some (Value.slice A ds.length c) := fun w' e => B1.at 0 w' e
 have q0 : ∀ w', Ext W0 w' → _ = some (Value.string r.nm) := fun w' e => B2.at 0 w' e
 have q1 : ∀ w', Ext W0 w' → _ = some (Value.int .i64 r.kind) := fun w' e => B2.at 1 w' e
 have q2 : ∀ w', Ext W0 w' → _ = some (Value.int .i64 r.size) := fun w' e => B2.at 2 w' e
 have q3 : ∀ w', Ext W0 w' → _ = some (Value.bool r.little) := fun w' e => B2.at 3 w' e
 have q4 : ∀ w', Ext W0 w' → _ = some (Value.slice Rb r.bytes.length rb) := fun w' e => B2.at 4 w' e
 have q5 : ∀ w', Ext W0 w' → _ = some (Value.slice Rn r.names.length rn) := fun w' e => B2.at 5 w' e
 have q6 : ∀ w', Ext W0 w' → _ = some (Value.slice Rt r.tags.length rt) := fun w' e => B2.at 6 w' e
 have q7 : ∀ w', Ext W0 w' → _ = some (Value.slice Rk r.kids.length rk) := fun w' e => B2.at 7 w' e
 have HB3 := Lib.hid B3; have HS0 := Lib.hid hs0'
 have HWW : Hid (W1 = (((w.alloc (.cells #[.slice A ds.length c] 26)).alloc (.cells #[.string r.nm, .int .i64 r.kind, .int .i64 r.size, .bool r.little, .slice Rb r.bytes.length rb, .slice Rn r.names.length rn, .slice Rt r.tags.length rt, .slice Rk r.kids.length rk] 51)).alloc (.cells #[.int .i64 0, .slice none 0 0, .slice none 0 0] 29))) := by show _ = _; rw [hW1, HW0.out]
 have hx := x1.size
 clear B1 B2 B3 hs0 hs0' hW1
 have e01 := e0.trans x1
 clear hd hS HR hk HK1 HAT hx
 unfold vdesc vrule
 by_cases hc : Y.code = 0
 ·have hcc : ((Y.code : Int) != 0) = false := by simp [hc]
  have hq := HRR.out; rw [if_pos hc] at hq
  clear HRR hc
  by_cases hge : b.length ≤ Y.next
  ·rw [List.getElem?_eq_none hge] at hq
   subst hq
   have hgi : (b.length : Int) ≤ (Y.next : Int) := by omega
   go_enter Tryz.func76, Tryz.ntmps76
   go_wp2_with fail
   rw [← HWW.out]
   refine (CM1.out _ e01).mono ?_; rintro _ w5 ⟨t, A1, n1, c1, A2, n2, c2, rfl, hsh, hgt, he5⟩
   have x6 := Ext_alloc (.cells #[.int .i64 Y.v.num, .slice A1 n1 c1, .slice A2 n2 c2] 29) (Ext.refl w5)
   have e16 := he5.trans x6
   have HGT : Hid (∀ w', Ext (w5.alloc (.cells #[.int .i64 Y.v.num, .slice A1 n1 c1, .slice A2 n2 c2] 29)) w' → GotV w w' t Y.v ∧ ∀ u ∈ t.vals, ∀ b, u.ownBlock = some b → b ≠ w.heap.size + 1 + 1) := fun w' e => ⟨((hgt.out.ext x6).ext e).down (by show w.heap.size ≤ W1.heap.size; have := HB3.out.lt; omega), fun u hu g hg => by have h1 := (hgt.out.own.block u hu g hg).1; have h2 : W1.heap.size ≤ g := h1; have := HB3.out.lt; omega⟩
   have HTS : Hid (t.vb = .slice A1 n1 c1 ∧ t.vi = .slice A2 n2 c2) := hsh
   have HE16 := Lib.hid e16
   have hbq := HB3.out.ext HE16.out
   have r2 := hbq.cell; have f2 := hbq.free
   have hput := (e01.trans HE16.out).grown (grown_put3 _ (w.heap.size + 1 + 1) 0 t0) (fun g hg => by injection hg with hg; omega)
   have HPUT := Lib.hid hput
   clear hput
   go_wp2
   exact bodyPost_ret (v := badRes Y.next 1) (by simp [results, Tryz.results76, go_sem, r2, f2, badRes, zeroV]) rfl (RdOut.bad HPUT.out)
  ·rw [List.getElem?_eq_getElem (show Y.next < b.length by omega)] at hq
   dsimp only at hq
   have hgi : ¬ (b.length : Int) ≤ (Y.next : Int) := by omega
   have hge0 := HGE.out
   obtain ⟨b1, o1, rfl, hb1, hc1⟩ := hb.at Y.next (by omega)
   simp only [vu8] at hc1
   have CS : Hid (∀ w', Ext w w' → Gives Tryz.prog 68 #[.slice (some ⟨b1, o1 + a, none⟩) (Y.next - a) (cb - a)] w' (.int .i64 ((sumB ((b.drop a).take (Y.next - a)) % 256 : Nat) : Int))) := fun w' e => by
    have h1 := rd_sub (hb.ext e) (i := a) (n := Y.next - a) (by omega) (by omega)
    have h2 := sSumOfBytes_c _ _ _ w' h1
    rwa [show ((b.drop a).take (Y.next - a)).length = Y.next - a by simp; omega] at h2
   generalize sumB ((b.drop a).take (Y.next - a)) % 256 = sm at *
   have hne := u8_ne' b[Y.next] sm
   have h8 := b[Y.next].toNat_lt
   have hs1 : (a : Int) ≤ (Y.next : Int) := by omega
   have hs2 : (Y.next : Int) ≤ (cb : Int) := by omega
   have hca : ¬ cb = a := by omega
   have hnl : (Y.next : Int) < (b.length : Int) := by omega
   have hn0 : (0 : Int) ≤ (Y.next : Int) := by omega
   generalize b[Y.next] = x at *
   by_cases hxs : x.toNat = sm
   ·rw [if_pos hxs] at hq
    rw [decide_eq_false (by simpa using hxs)] at hne
    subst hq
    go_enter Tryz.func76, Tryz.ntmps76
    go_wp2_with fail
    rw [← HWW.out]
    refine (CM1.out _ e01).mono ?_; rintro _ w5 ⟨t, A1, n1, c1, A2, n2, c2, rfl, hsh, hgt, he5⟩
    have e5 := x1.trans he5
    have BX := Box.new w5 #[.int .i64 Y.v.num, .slice A1 n1 c1, .slice A2 n2 c2] 29
    have x6 := Ext_alloc (.cells #[.int .i64 Y.v.num, .slice A1 n1 c1, .slice A2 n2 c2] 29) (Ext.refl w5)
    obtain ⟨W6, hW6⟩ : ∃ W6, W6 = w5.alloc (.cells #[.int .i64 Y.v.num, .slice A1 n1 c1, .slice A2 n2 c2] 29) := ⟨_, rfl⟩
    rw [← hW6] at BX x6
    have HW6 := Lib.hid hW6; clear hW6
    have p0 : ∀ w', Ext W6 w' → _ = some (Value.int .i64 Y.v.num) := fun w' e => BX.at 0 w' e
    have p1 : ∀ w', Ext W6 w' → _ = some (Value.slice A1 n1 c1) := fun w' e => BX.at 1 w' e
    have p2 : ∀ w', Ext W6 w' → _ = some (Value.slice A2 n2 c2) := fun w' e => BX.at 2 w' e
    have e6 := e5.trans x6
    have e16 := he5.trans x6
    have HGT : Hid (∀ w', Ext W6 w' → GotV w w' t Y.v ∧ ∀ u ∈ t.vals, ∀ b, u.ownBlock = some b → b ≠ w.heap.size + 1 + 1) := fun w' e => ⟨((hgt.out.ext x6).ext e).down (by show w.heap.size ≤ W1.heap.size; have := HB3.out.lt; omega), fun u hu g hg => by have h1 := (hgt.out.own.block u hu g hg).1; have h2 : W1.heap.size ≤ g := h1; have := HB3.out.lt; omega⟩
    clear BX x6 he5
    have HTS : Hid (t.vb = .slice A1 n1 c1 ∧ t.vi = .slice A2 n2 c2) := hsh
    go_wp2_with fail
    rw [← HW6.out]
    have px := fun w' (e : Ext W6 w') => hc1 w' ((e0.trans e6).trans e)
    refine wp_region_quiet_below (by kernel_rfl) (by kernel_rfl) ?_
    repeat (go_big_quiet_step ((go_at_call 68; exact Calls.regrown_of (CS.out _ ((e0.trans e6).trans (by first | assumption | exact Ext_regrown _ _ (Ext.refl _)))))))
    refine wpQuiet_nil ?_
    rintro w7 ⟨⟨nq, osq⟩, hq⟩
    have ew7 := ext_of_q hq
    clear hq nq osq
    have hbq := HB3.out.ext (e16.trans ew7)
    have r2 := hbq.cell; have f2 := hbq.free
    have hG := val_out3 (w := w) (g := w.heap.size + 1 + 1) (by omega) (e01.trans (e16.trans ew7)) (HGT.out w7 ew7).1 (HGT.out w7 ew7).2 (.int .i64 Y.v.num) (.slice A1 n1 c1) (.slice A2 n2 c2)
    have HG := Lib.hid hG
    clear hG
    go_wp2
    exact bodyPost_ret (v := .tuple #[.agg #[.int .i64 Y.v.num, .slice A1 n1 c1, .slice A2 n2 c2], .int .i64 ((Y.next : Int) + 1), .int .i64 0]) (by simp [results, Tryz.results76, go_sem, r2, f2]) rfl ⟨t, by first | (unfold rrVal vval; rw [HTS.out.1, HTS.out.2]; done) | (unfold rrVal vval; rw [HTS.out.1, HTS.out.2]; simp), HG.out.1, HG.out.2⟩
   ·rw [if_neg hxs] at hq
    rw [decide_eq_true (by simpa using hxs)] at hne
    subst hq
    go_enter Tryz.func76, Tryz.ntmps76
    go_wp2_with fail
    rw [← HWW.out]
    refine (CM1.out _ e01).mono ?_; rintro _ w5 ⟨t, A1, n1, c1, A2, n2, c2, rfl, hsh, hgt, he5⟩
    have e5 := x1.trans he5
    have BX := Box.new w5 #[.int .i64 Y.v.num, .slice A1 n1 c1, .slice A2 n2 c2] 29
    have x6 := Ext_alloc (.cells #[.int .i64 Y.v.num, .slice A1 n1 c1, .slice A2 n2 c2] 29) (Ext.refl w5)
    obtain ⟨W6, hW6⟩ : ∃ W6, W6 = w5.alloc (.cells #[.int .i64 Y.v.num, .slice A1 n1 c1, .slice A2 n2 c2] 29) := ⟨_, rfl⟩
    rw [← hW6] at BX x6
    have HW6 := Lib.hid hW6; clear hW6
    have p0 : ∀ w', Ext W6 w' → _ = some (Value.int .i64 Y.v.num) := fun w' e => BX.at 0 w' e
    have p1 : ∀ w', Ext W6 w' → _ = some (Value.slice A1 n1 c1) := fun w' e => BX.at 1 w' e
    have p2 : ∀ w', Ext W6 w' → _ = some (Value.slice A2 n2 c2) := fun w' e => BX.at 2 w' e
    have e6 := e5.trans x6
    have e16 := he5.trans x6
    have HGT : Hid (∀ w', Ext W6 w' → GotV w w' t Y.v ∧ ∀ u ∈ t.vals, ∀ b, u.ownBlock = some b → b ≠ w.heap.size + 1 + 1) := fun w' e => ⟨((hgt.out.ext x6).ext e).down (by show w.heap.size ≤ W1.heap.size; have := HB3.out.lt; omega), fun u hu g hg => by have h1 := (hgt.out.own.block u hu g hg).1; have h2 : W1.heap.size ≤ g := h1; have := HB3.out.lt; omega⟩
    clear BX x6 he5
    have HTS : Hid (t.vb = .slice A1 n1 c1 ∧ t.vi = .slice A2 n2 c2) := hsh
    go_wp2_with fail
    rw [← HW6.out]
    have px := fun w' (e : Ext W6 w') => hc1 w' ((e0.trans e6).trans e)
    refine wp_region_quiet_below (by kernel_rfl) (by kernel_rfl) ?_
    repeat (go_big_quiet_step ((go_at_call 68; exact Calls.regrown_of (CS.out _ ((e0.trans e6).trans (by first | assumption | exact Ext_regrown _ _ (Ext.refl _)))))))
    refine wpQuiet_nil ?_
    rintro w7 ⟨⟨nq, osq⟩, hq⟩
    have ew7 := ext_of_q hq
    clear hq nq osq
    have hbq := HB3.out.ext (e16.trans ew7)
    have r2 := hbq.cell; have f2 := hbq.free
    have hput := (e01.trans (e16.trans ew7)).grown (grown_put3 _ (w.heap.size + 1 + 1) 0 t0) (fun g hg => by injection hg with hg; omega)
    have HPUT := Lib.hid hput
    clear hput
    go_wp2
    exact bodyPost_ret (v := badRes Y.next 5) (by simp [results, Tryz.results76, go_sem, r2, f2, badRes, zeroV]) rfl (RdOut.bad HPUT.out)
 ·have hcc : ((Y.code : Int) != 0) = true := by simp [hc]
  have hq := HRR.out; rw [if_neg hc] at hq
  subst hq
  clear HRR hc
  go_enter Tryz.func76, Tryz.ntmps76
  go_wp2_with fail
  rw [← HWW.out]
  refine (CM1.out _ e01).mono ?_; rintro _ w5 ⟨t, A1, n1, c1, A2, n2, c2, rfl, hsh, hgt, he5⟩
  have x6 := Ext_alloc (.cells #[.int .i64 Y.v.num, .slice A1 n1 c1, .slice A2 n2 c2] 29) (Ext.refl w5)
  have e16 := he5.trans x6
  have HGT : Hid (∀ w', Ext (w5.alloc (.cells #[.int .i64 Y.v.num, .slice A1 n1 c1, .slice A2 n2 c2] 29)) w' → GotV w w' t Y.v ∧ ∀ u ∈ t.vals, ∀ b, u.ownBlock = some b → b ≠ w.heap.size + 1 + 1) := fun w' e => ⟨((hgt.out.ext x6).ext e).down (by show w.heap.size ≤ W1.heap.size; have := HB3.out.lt; omega), fun u hu g hg => by have h1 := (hgt.out.own.block u hu g hg).1; have h2 : W1.heap.size ≤ g := h1; have := HB3.out.lt; omega⟩
  have HTS : Hid (t.vb = .slice A1 n1 c1 ∧ t.vi = .slice A2 n2 c2) := hsh
  have HE16 := Lib.hid e16
  have hbq := HB3.out.ext HE16.out
  have r2 := hbq.cell; have f2 := hbq.free
  have hG := val_out3 (w := w) (g := w.heap.size + 1 + 1) (by omega) (e01.trans HE16.out) (HGT.out _ (Ext.refl _)).1 (HGT.out _ (Ext.refl _)).2 (.int .i64 Y.v.num) (.slice A1 n1 c1) (.slice A2 n2 c2)
  have HG := Lib.hid hG
  clear hG
  go_wp2
  exact bodyPost_ret (v := .tuple #[.agg #[.int .i64 Y.v.num, .slice A1 n1 c1, .slice A2 n2 c2], .int .i64 (Y.next : Int), .int .i64 (Y.code : Int)]) (by simp [results, Tryz.results76, go_sem, r2, f2]) rfl ⟨t, by first | (unfold rrVal vval; rw [HTS.out.1, HTS.out.2]; done) | (unfold rrVal vval; rw [HTS.out.1, HTS.out.2]; simp), HG.out.1, HG.out.2⟩
theorem decI_lt (r : DRule) (l : List UInt8) (h : l.length ≤ 4) : decI r l < 4294967296 := by
 unfold decI
 split
 ·exact rdN_lt _ (by simpa using h)
 ·exact rdN_lt _ h
theorem intAt_lt {r : DRule} {b : List UInt8} {a n : Nat} (hs : r.size ≤ 4) (h : intAt r b a = some n) : n < 4294967296 := by
 unfold intAt at h
 split at h
 ·cases h
 ·injection h with h
  subst h
  exact decI_lt _ _ (by simp; omega)
theorem seq_kids {ds : List DRule} (h : descOk ds = true) (i : Nat) (hi : i < ds.length) (h6 : ds[i].kind = 6) : ds[i].kids.length ≤ 1000000 := by
 have hk := ruleKind h i hi
 unfold kindOk at hk
 rw [if_neg (by omega), if_neg (by omega), if_neg (by omega), if_neg (by omega), if_neg (by omega), if_pos h6] at hk
 unfold seqOk at hk
 simp only [Bool.and_eq_true, between_iff] at hk
 omega
theorem sRead2_c (A : Option Addr) (ds : List DRule) (c : Nat) (hok : descOk ds = true) (i : Nat) (hi : i < ds.length) (hk : ds[i].kind = 2) (Ab : Option Addr) (b : List UInt8) (cb : Nat) (HR : ∀ j, j < i → sReadOk A ds c Ab b cb j) : sReadOk A ds c Ab b cb i := by
 intro a w ha hd hb
 have hl := hd.len
 have hbl := hb.len
 obtain ⟨bR, oR, Rb, rb, Rn, rn, Rt, rt, Rk, rk, hA, hbR, hS, hRR⟩ := hd.at i hi
 obtain ⟨r0, r1, r2, r3, r4, r5, r6, r7⟩ := hRR
 subst hA
 have hii : (i : Int) < (ds.length : Int) := by omega
 have hi0 : (0 : Int) ≤ (i : Int) := by omega
 rw [readV_step hok b i a hi]
 have t1 : (ds[i].kind == 1) = false := by rw [hk]; rfl
 have t2 : (ds[i].kind == 2) = true := by rw [hk]; rfl
 have t3 : (ds[i].kind == 3) = false := by rw [hk]; rfl
 have t10 : (ds[i].kind == 10) = false := by rw [hk]; rfl
 have t6 : (ds[i].kind == 6) = false := by rw [hk]; rfl
 have t7 : (ds[i].kind == 7) = false := by rw [hk]; rfl
 have t8 : (ds[i].kind == 8) = false := by rw [hk]; rfl
 have t9 : (ds[i].kind == 9) = false := by rw [hk]; rfl
 have t4 : (ds[i].kind == 4) = false := by rw [hk]; rfl
 have hY : readR ds (readV ds b) ds[i] b a = ⟨v0, (constF b a ds[i].bytes 0).next, (constF b a ds[i].bytes 0).code⟩ := by
  unfold readR
  rw [if_neg (by omega), if_pos hk]; exact constF_v _ _ _ _
 rw [hY]
 have CC : Hid (∀ w', Ext w w' → Gives Tryz.prog 70 #[.agg #[.string ds[i].nm, .int .i64 ds[i].kind, .int .i64 ds[i].size, .bool ds[i].little, .slice Rb ds[i].bytes.length rb, .slice Rn ds[i].names.length rn, .slice Rt ds[i].tags.length rt, .slice Rk ds[i].kids.length rk], .slice Ab b.length cb, .int .i64 (a : Int)] w' (.tuple #[.agg #[.int .i64 0, .slice none 0 0, .slice none 0 0], .int .i64 ((constF b a ds[i].bytes 0).next : Int), .int .i64 ((constF b a ds[i].bytes 0).code : Int)])) := fun w' e =>
  sConst_c ds[i] Rb rb Rn rn Rt rt Rk rk Ab b cb a ha w' (hS.ext e) (hb.ext e)
 generalize (constF b a ds[i].bytes 0).next = nx at *
 generalize (constF b a ds[i].bytes 0).code = cd at *
 generalize ds[i] = r at *
 obtain ⟨W0, HW0, B1, B2, B3, e0, hs0⟩ := boxes3' w #[.slice (some ⟨bR, oR, none⟩) ds.length c] #[.int .i64 0, .slice none 0 0, .slice none 0 0] #[.string r.nm, .int .i64 r.kind, .int .i64 r.size, .bool r.little, .slice Rb r.bytes.length rb, .slice Rn r.names.length rn, .slice Rt r.tags.length rt, .slice Rk r.kids.length rk] 26 29 51
 have d0 : ∀ w', Ext W0 w' → _ = some (Value.slice (some ⟨bR, oR, none⟩) ds.length c) := fun w' e => B1.at 0 w' e
 have q0 : ∀ w', Ext W0 w' → _ = some (Value.string r.nm) := fun w' e => B3.at 0 w' e
 have q1 : ∀ w', Ext W0 w' → _ = some (Value.int .i64 r.kind) := fun w' e => B3.at 1 w' e
 have q2 : ∀ w', Ext W0 w' → _ = some (Value.int .i64 r.size) := fun w' e => B3.at 2 w' e
 have q3 : ∀ w', Ext W0 w' → _ = some (Value.bool r.little) := fun w' e => B3.at 3 w' e
 have q4 : ∀ w', Ext W0 w' → _ = some (Value.slice Rb r.bytes.length rb) := fun w' e => B3.at 4 w' e
 have q5 : ∀ w', Ext W0 w' → _ = some (Value.slice Rn r.names.length rn) := fun w' e => B3.at 5 w' e
 have q6 : ∀ w', Ext W0 w' → _ = some (Value.slice Rt r.tags.length rt) := fun w' e => B3.at 6 w' e
 have q7 : ∀ w', Ext W0 w' → _ = some (Value.slice Rk r.kids.length rk) := fun w' e => B3.at 7 w' e
 have HB2 := Lib.hid B2; have HS0 := Lib.hid hs0
 clear B1 B2 B3 hs0
 clear hd hb hS HR hk hY
 unfold vdesc
 go_enter Tryz.func52, Tryz.ntmps52
 go_wp2_with fail
 rw [← HW0.out]
 refine (CC.out _ e0).mono ?_; rintro _ w1 ⟨rfl, he1⟩
 have hbq := HB2.out.ext he1
 have f1 := hbq.cell; have f2 := hbq.free
 have hs0' := HS0.out
 have hput := (e0.trans he1).grown (grown_put3 _ (w.heap.size + 1) 0 t0) (fun g hg => by injection hg with hg; omega)
 have HPUT := Lib.hid hput
 clear hput hs0'
 go_wp2
 exact bodyPost_ret (v := badRes nx cd) (by simp [results, Tryz.results52, go_sem, f1, f2, badRes, zeroV]) rfl ⟨t0, rfl, GotV.zero _ _, HPUT.out⟩
theorem sRead1_c (A : Option Addr) (ds : List DRule) (c : Nat) (hok : descOk ds = true) (i : Nat) (hi : i < ds.length) (hk : ds[i].kind = 1) (Ab : Option Addr) (b : List UInt8) (cb : Nat) (HR : ∀ j, j < i → sReadOk A ds c Ab b cb j) : sReadOk A ds c Ab b cb i := by
 intro a w ha hd hb
 have hl := hd.len
 have hbl := hb.len
 obtain ⟨bR, oR, Rb, rb, Rn, rn, Rt, rt, Rk, rk, hA, hbR, hS, hRR⟩ := hd.at i hi
 obtain ⟨r0, r1, r2, r3, r4, r5, r6, r7⟩ := hRR
 subst hA
 have hii : (i : Int) < (ds.length : Int) := by omega
 have hi0 : (0 : Int) ≤ (i : Int) := by omega
 rw [readV_step hok b i a hi]
 have t1 : (ds[i].kind == 1) = true := by rw [hk]; rfl
 have t2 : (ds[i].kind == 2) = false := by rw [hk]; rfl
 have t3 : (ds[i].kind == 3) = false := by rw [hk]; rfl
 have t10 : (ds[i].kind == 10) = false := by rw [hk]; rfl
 have t6 : (ds[i].kind == 6) = false := by rw [hk]; rfl
 have t7 : (ds[i].kind == 7) = false := by rw [hk]; rfl
 have t8 : (ds[i].kind == 8) = false := by rw [hk]; rfl
 have t9 : (ds[i].kind == 9) = false := by rw [hk]; rfl
 have t4 : (ds[i].kind == 4) = false := by rw [hk]; rfl
 have hs14 := (kids_len hok i hi).2.2.2.2.2.1 hk
 have hY : readR ds (readV ds b) ds[i] b a = (match intAt ds[i] b a with | none => .bad a 1 | some n => ⟨.mk n [] [], a + ds[i].size.toNat, 0⟩) := by
  unfold readR; rw [if_pos hk]; rfl
 rw [hY]
 have CC : Hid (∀ w', Ext w w' → Gives Tryz.prog 69 #[.agg #[.slice (some ⟨bR, oR, none⟩) ds.length c], .int .i64 (i : Int), .slice Ab b.length cb, .int .i64 (a : Int)] w' (intRes (intAt ds[i] b a) a (a + ds[i].size.toNat))) := fun w' e =>
  sInteger_c _ ds c i hi hs14 Ab b cb a ha w' (hd.ext e) (hb.ext e)
 generalize intAt ds[i] b a = O at *
 generalize a + ds[i].size.toNat = nx at *
 generalize ds[i] = r at *
 obtain ⟨W0, HW0, B1, B2, B3, e0, hs0⟩ := boxes3' w #[.slice (some ⟨bR, oR, none⟩) ds.length c] #[.int .i64 0, .slice none 0 0, .slice none 0 0] #[.string r.nm, .int .i64 r.kind, .int .i64 r.size, .bool r.little, .slice Rb r.bytes.length rb, .slice Rn r.names.length rn, .slice Rt r.tags.length rt, .slice Rk r.kids.length rk] 26 29 51
 have d0 : ∀ w', Ext W0 w' → _ = some (Value.slice (some ⟨bR, oR, none⟩) ds.length c) := fun w' e => B1.at 0 w' e
 have q0 : ∀ w', Ext W0 w' → _ = some (Value.string r.nm) := fun w' e => B3.at 0 w' e
 have q1 : ∀ w', Ext W0 w' → _ = some (Value.int .i64 r.kind) := fun w' e => B3.at 1 w' e
 have q2 : ∀ w', Ext W0 w' → _ = some (Value.int .i64 r.size) := fun w' e => B3.at 2 w' e
 have q3 : ∀ w', Ext W0 w' → _ = some (Value.bool r.little) := fun w' e => B3.at 3 w' e
 have q4 : ∀ w', Ext W0 w' → _ = some (Value.slice Rb r.bytes.length rb) := fun w' e => B3.at 4 w' e
 have q5 : ∀ w', Ext W0 w' → _ = some (Value.slice Rn r.names.length rn) := fun w' e => B3.at 5 w' e
 have q6 : ∀ w', Ext W0 w' → _ = some (Value.slice Rt r.tags.length rt) := fun w' e => B3.at 6 w' e
 have q7 : ∀ w', Ext W0 w' → _ = some (Value.slice Rk r.kids.length rk) := fun w' e => B3.at 7 w' e
 have HB2 := Lib.hid B2; have HS0 := Lib.hid hs0
 clear B1 B2 B3 hs0
 clear hd hb hS HR hk hY hs14
 cases O with
 | none =>
  simp only [intRes] at CC
  unfold vdesc
  go_enter Tryz.func52, Tryz.ntmps52
  go_wp2_with fail
  rw [← HW0.out]
  refine (CC.out _ e0).mono ?_; rintro _ w1 ⟨rfl, he1⟩
  have hbq := HB2.out.ext he1
  have f1 := hbq.cell; have f2 := hbq.free
  have hs0' := HS0.out
  have hput := (e0.trans he1).grown (grown_put3 _ (w.heap.size + 1) 0 t0) (fun g hg => by injection hg with hg; omega)
  have HPUT := Lib.hid hput
  clear hput hs0'
  go_wp2
  exact bodyPost_ret (v := badRes a 1) (by simp [results, Tryz.results52, go_sem, f1, f2, badRes, zeroV]) rfl (RdOut.bad HPUT.out)
 | some n =>
  simp only [intRes] at CC
  unfold vdesc
  go_enter Tryz.func52, Tryz.ntmps52
  go_wp2_with fail
  rw [← HW0.out]
  refine (CC.out _ e0).mono ?_; rintro _ w1 ⟨rfl, he1⟩
  have hbq := HB2.out.ext he1
  have f1 := hbq.cell; have f2 := hbq.free
  have hs0' := HS0.out
  have hG := val_out3 (w := w) (g := w.heap.size + 1) (by omega) (e0.trans he1) ((GotV.zero w w1).renum (n : Int)) (fun u hu g hg => by rw [vals_renum] at hu; simp [VT.vals_eq, t0, VT.vb, VT.vi, VT.its] at hu; subst hu; cases hg) (.int .i64 (n : Int)) (.slice none 0 0) (.slice none 0 0)
  have HG := Lib.hid hG
  clear hG hs0'
  go_wp2
  exact bodyPost_ret (v := .tuple #[.agg #[.int .i64 (n : Int), .slice none 0 0, .slice none 0 0], .int .i64 (nx : Int), .int .i64 0]) (by simp [results, Tryz.results52, go_sem, f1, f2]) rfl ⟨_, rfl, HG.out.1, HG.out.2⟩
theorem sRead3_c (A : Option Addr) (ds : List DRule) (c : Nat) (hok : descOk ds = true) (i : Nat) (hi : i < ds.length) (hk : ds[i].kind = 3) (Ab : Option Addr) (b : List UInt8) (cb : Nat) (HR : ∀ j, j < i → sReadOk A ds c Ab b cb j) : sReadOk A ds c Ab b cb i := by
 intro a w ha hd hb
 have hl := hd.len
 have hbl := hb.len
 obtain ⟨bR, oR, Rb, rb, Rn, rn, Rt, rt, Rk, rk, hA, hbR, hS, hRR⟩ := hd.at i hi
 obtain ⟨r0, r1, r2, r3, r4, r5, r6, r7⟩ := hRR
 subst hA
 have hii : (i : Int) < (ds.length : Int) := by omega
 have hi0 : (0 : Int) ≤ (i : Int) := by omega
 rw [readV_step hok b i a hi]
 have t1 : (ds[i].kind == 1) = false := by rw [hk]; rfl
 have t2 : (ds[i].kind == 2) = false := by rw [hk]; rfl
 have t3 : (ds[i].kind == 3) = true := by rw [hk]; rfl
 have t10 : (ds[i].kind == 10) = false := by rw [hk]; rfl
 have t6 : (ds[i].kind == 6) = false := by rw [hk]; rfl
 have t7 : (ds[i].kind == 7) = false := by rw [hk]; rfl
 have t8 : (ds[i].kind == 8) = false := by rw [hk]; rfl
 have t9 : (ds[i].kind == 9) = false := by rw [hk]; rfl
 have t4 : (ds[i].kind == 4) = false := by rw [hk]; rfl
 have hs3 := (kids_len hok i hi).2.2.2.2.2.2 hk
 have CB : ∀ w', Ext w w' → Calls Tryz.prog 71 #[.slice Ab b.length cb, .int .i64 (a : Int), .int .i64 ds[i].size] w' (RdOut (bytesF b a ds[i].size.toNat) w') := fun w' e => by
  have h := sBytes_c Ab b cb a ds[i].size.toNat ha (by omega) w' (hb.ext e)
  rwa [Int.toNat_of_nonneg (by omega)] at h
 have hY : readR ds (readV ds b) ds[i] b a = (bytesF b a ds[i].size.toNat) := by
  unfold readR; rw [if_neg (by omega), if_neg (by omega), if_pos hk]
 rw [hY]
 have CC : Hid (∀ w', Ext w w' → Calls Tryz.prog 71 #[.slice Ab b.length cb, .int .i64 (a : Int), .int .i64 ds[i].size] w' fun e w'' => ∃ (t : VT) (A1 : Option Addr) (n1 c1 : Nat) (A2 : Option Addr) (n2 c2 : Nat), e = .returned (.tuple #[.agg #[.int .i64 ((bytesF b a ds[i].size.toNat)).v.num, .slice A1 n1 c1, .slice A2 n2 c2], .int .i64 (((bytesF b a ds[i].size.toNat)).next : Int), .int .i64 (((bytesF b a ds[i].size.toNat)).code : Int)]) ∧ Hid (t.vb = .slice A1 n1 c1 ∧ t.vi = .slice A2 n2 c2) ∧ Hid (GotV w' w'' t ((bytesF b a ds[i].size.toNat)).v) ∧ Ext w' w'') := fun w' e =>
  (CB w' e).mono fun e' w'' h => RdOut.shape h
 generalize (bytesF b a ds[i].size.toNat) = Y at *
 clear hs3 CB
 generalize ds[i] = r at *
 obtain ⟨W0, HW0, B1, B2, B3, e0, hs0⟩ := boxes3' w #[.slice (some ⟨bR, oR, none⟩) ds.length c] #[.int .i64 0, .slice none 0 0, .slice none 0 0] #[.string r.nm, .int .i64 r.kind, .int .i64 r.size, .bool r.little, .slice Rb r.bytes.length rb, .slice Rn r.names.length rn, .slice Rt r.tags.length rt, .slice Rk r.kids.length rk] 26 29 51
 have d0 : ∀ w', Ext W0 w' → _ = some (Value.slice (some ⟨bR, oR, none⟩) ds.length c) := fun w' e => B1.at 0 w' e
 have q0 : ∀ w', Ext W0 w' → _ = some (Value.string r.nm) := fun w' e => B3.at 0 w' e
 have q1 : ∀ w', Ext W0 w' → _ = some (Value.int .i64 r.kind) := fun w' e => B3.at 1 w' e
 have q2 : ∀ w', Ext W0 w' → _ = some (Value.int .i64 r.size) := fun w' e => B3.at 2 w' e
 have q3 : ∀ w', Ext W0 w' → _ = some (Value.bool r.little) := fun w' e => B3.at 3 w' e
 have q4 : ∀ w', Ext W0 w' → _ = some (Value.slice Rb r.bytes.length rb) := fun w' e => B3.at 4 w' e
 have q5 : ∀ w', Ext W0 w' → _ = some (Value.slice Rn r.names.length rn) := fun w' e => B3.at 5 w' e
 have q6 : ∀ w', Ext W0 w' → _ = some (Value.slice Rt r.tags.length rt) := fun w' e => B3.at 6 w' e
 have q7 : ∀ w', Ext W0 w' → _ = some (Value.slice Rk r.kids.length rk) := fun w' e => B3.at 7 w' e
 have HB2 := Lib.hid B2; have HS0 := Lib.hid hs0
 clear B1 B2 B3 hs0
 clear hd hb hS HR hk hY
 unfold vdesc
 go_enter Tryz.func52, Tryz.ntmps52
 go_wp2_with fail
 rw [← HW0.out]
 refine (CC.out _ e0).mono ?_; rintro _ w5 ⟨t, A1, n1, c1, A2, n2, c2, rfl, hsh, hgt, he5⟩
 have hbq := HB2.out.ext he5
 have f1 := hbq.cell; have f2 := hbq.free
 have hs0' := HS0.out
 have hG := val_out3 (w := w) (g := w.heap.size + 1) (by omega) (e0.trans he5) (hgt.out.down (by omega)) (fun u hu g hg => by have := (hgt.out.own.block u hu g hg).1; omega) (.int .i64 Y.v.num) (.slice A1 n1 c1) (.slice A2 n2 c2)
 have HG := Lib.hid hG
 clear hG hs0'
 go_wp2
 exact bodyPost_ret (v := .tuple #[.agg #[.int .i64 Y.v.num, .slice A1 n1 c1, .slice A2 n2 c2], .int .i64 (Y.next : Int), .int .i64 (Y.code : Int)]) (by simp [results, Tryz.results52, go_sem, f1, f2]) rfl ⟨_, by unfold rrVal vval; rw [hsh.out.1, hsh.out.2], HG.out.1, HG.out.2⟩
theorem sRead6_c (A : Option Addr) (ds : List DRule) (c : Nat) (hok : descOk ds = true) (i : Nat) (hi : i < ds.length) (hk : ds[i].kind = 6) (Ab : Option Addr) (b : List UInt8) (cb : Nat) (HR : ∀ j, j < i → sReadOk A ds c Ab b cb j) : sReadOk A ds c Ab b cb i := by
 intro a w ha hd hb
 have hl := hd.len
 have hbl := hb.len
 obtain ⟨bR, oR, Rb, rb, Rn, rn, Rt, rt, Rk, rk, hA, hbR, hS, hRR⟩ := hd.at i hi
 obtain ⟨r0, r1, r2, r3, r4, r5, r6, r7⟩ := hRR
 subst hA
 have hii : (i : Int) < (ds.length : Int) := by omega
 have hi0 : (0 : Int) ≤ (i : Int) := by omega
 rw [readV_step hok b i a hi]
 have t1 : (ds[i].kind == 1) = false := by rw [hk]; rfl
 have t2 : (ds[i].kind == 2) = false := by rw [hk]; rfl
 have t3 : (ds[i].kind == 3) = false := by rw [hk]; rfl
 have t10 : (ds[i].kind == 10) = false := by rw [hk]; rfl
 have t6 : (ds[i].kind == 6) = true := by rw [hk]; rfl
 have t7 : (ds[i].kind == 7) = false := by rw [hk]; rfl
 have t8 : (ds[i].kind == 8) = false := by rw [hk]; rfl
 have t9 : (ds[i].kind == 9) = false := by rw [hk]; rfl
 have t4 : (ds[i].kind == 4) = false := by rw [hk]; rfl
 have hkl : ds[i].kids.length ≤ 1000000 := seq_kids hok i hi hk
 have hY : readR ds (readV ds b) ds[i] b a = (itemsF (readV ds b) ds[i] 0 ds[i].kids.length 0 a []) := by
  unfold readR; rw [if_neg (by omega), if_neg (by omega), if_neg (by omega), if_neg (by omega), if_pos hk]
 rw [hY]
 have CC : Hid (∀ w', Ext w w' → Calls Tryz.prog 73 #[.agg #[.slice (some ⟨bR, oR, none⟩) ds.length c], .agg #[.string ds[i].nm, .int .i64 ds[i].kind, .int .i64 ds[i].size, .bool ds[i].little, .slice Rb ds[i].bytes.length rb, .slice Rn ds[i].names.length rn, .slice Rt ds[i].tags.length rt, .slice Rk ds[i].kids.length rk], .int .i64 0, .int .i64 (ds[i].kids.length : Int), .slice Ab b.length cb, .int .i64 (a : Int)] w' fun e w'' => ∃ (t : VT) (A1 : Option Addr) (n1 c1 : Nat) (A2 : Option Addr) (n2 c2 : Nat), e = .returned (.tuple #[.agg #[.int .i64 ((itemsF (readV ds b) ds[i] 0 ds[i].kids.length 0 a [])).v.num, .slice A1 n1 c1, .slice A2 n2 c2], .int .i64 (((itemsF (readV ds b) ds[i] 0 ds[i].kids.length 0 a [])).next : Int), .int .i64 (((itemsF (readV ds b) ds[i] 0 ds[i].kids.length 0 a [])).code : Int)]) ∧ Hid (t.vb = .slice A1 n1 c1 ∧ t.vi = .slice A2 n2 c2) ∧ Hid (GotV w' w'' t ((itemsF (readV ds b) ds[i] 0 ds[i].kids.length 0 a [])).v) ∧ Ext w' w'') := fun w' e =>
  (sItems_c _ ds c hok i hi Rb rb Rn rn Rt rt Rk rk Ab b cb 0 ds[i].kids.length (by omega) (fun k hk' => (readsOk hok i hi).seq hk k hk') HR a ha w' (hd.ext e) (hb.ext e) (hS.ext e)).mono fun e' w'' h => RdOut.shape h
 generalize (itemsF (readV ds b) ds[i] 0 ds[i].kids.length 0 a []) = Y at *
 have hkl2 := hS.k.len
 generalize ds[i] = r at *
 obtain ⟨W0, HW0, B1, B2, B3, e0, hs0⟩ := boxes3' w #[.slice (some ⟨bR, oR, none⟩) ds.length c] #[.int .i64 0, .slice none 0 0, .slice none 0 0] #[.string r.nm, .int .i64 r.kind, .int .i64 r.size, .bool r.little, .slice Rb r.bytes.length rb, .slice Rn r.names.length rn, .slice Rt r.tags.length rt, .slice Rk r.kids.length rk] 26 29 51
 have d0 : ∀ w', Ext W0 w' → _ = some (Value.slice (some ⟨bR, oR, none⟩) ds.length c) := fun w' e => B1.at 0 w' e
 have q0 : ∀ w', Ext W0 w' → _ = some (Value.string r.nm) := fun w' e => B3.at 0 w' e
 have q1 : ∀ w', Ext W0 w' → _ = some (Value.int .i64 r.kind) := fun w' e => B3.at 1 w' e
 have q2 : ∀ w', Ext W0 w' → _ = some (Value.int .i64 r.size) := fun w' e => B3.at 2 w' e
 have q3 : ∀ w', Ext W0 w' → _ = some (Value.bool r.little) := fun w' e => B3.at 3 w' e
 have q4 : ∀ w', Ext W0 w' → _ = some (Value.slice Rb r.bytes.length rb) := fun w' e => B3.at 4 w' e
 have q5 : ∀ w', Ext W0 w' → _ = some (Value.slice Rn r.names.length rn) := fun w' e => B3.at 5 w' e
 have q6 : ∀ w', Ext W0 w' → _ = some (Value.slice Rt r.tags.length rt) := fun w' e => B3.at 6 w' e
 have q7 : ∀ w', Ext W0 w' → _ = some (Value.slice Rk r.kids.length rk) := fun w' e => B3.at 7 w' e
 have HB2 := Lib.hid B2; have HS0 := Lib.hid hs0
 clear B1 B2 B3 hs0
 clear hd hb hS HR hk hY
 unfold vdesc
 go_enter Tryz.func52, Tryz.ntmps52
 go_wp2_with fail
 rw [← HW0.out]
 refine (CC.out _ e0).mono ?_; rintro _ w5 ⟨t, A1, n1, c1, A2, n2, c2, rfl, hsh, hgt, he5⟩
 have hbq := HB2.out.ext he5
 have f1 := hbq.cell; have f2 := hbq.free
 have hs0' := HS0.out
 have hG := val_out3 (w := w) (g := w.heap.size + 1) (by omega) (e0.trans he5) (hgt.out.down (by omega)) (fun u hu g hg => by have := (hgt.out.own.block u hu g hg).1; omega) (.int .i64 Y.v.num) (.slice A1 n1 c1) (.slice A2 n2 c2)
 have HG := Lib.hid hG
 clear hG hs0'
 go_wp2
 exact bodyPost_ret (v := .tuple #[.agg #[.int .i64 Y.v.num, .slice A1 n1 c1, .slice A2 n2 c2], .int .i64 (Y.next : Int), .int .i64 (Y.code : Int)]) (by simp [results, Tryz.results52, go_sem, f1, f2]) rfl ⟨_, by unfold rrVal vval; rw [hsh.out.1, hsh.out.2], HG.out.1, HG.out.2⟩
theorem sRead7_c (A : Option Addr) (ds : List DRule) (c : Nat) (hok : descOk ds = true) (i : Nat) (hi : i < ds.length) (hk : ds[i].kind = 7) (Ab : Option Addr) (b : List UInt8) (cb : Nat) (HR : ∀ j, j < i → sReadOk A ds c Ab b cb j) : sReadOk A ds c Ab b cb i := by
 intro a w ha hd hb
 have hl := hd.len
 have hbl := hb.len
 obtain ⟨bR, oR, Rb, rb, Rn, rn, Rt, rt, Rk, rk, hA, hbR, hS, hRR⟩ := hd.at i hi
 obtain ⟨r0, r1, r2, r3, r4, r5, r6, r7⟩ := hRR
 subst hA
 have hii : (i : Int) < (ds.length : Int) := by omega
 have hi0 : (0 : Int) ≤ (i : Int) := by omega
 rw [readV_step hok b i a hi]
 have t1 : (ds[i].kind == 1) = false := by rw [hk]; rfl
 have t2 : (ds[i].kind == 2) = false := by rw [hk]; rfl
 have t3 : (ds[i].kind == 3) = false := by rw [hk]; rfl
 have t10 : (ds[i].kind == 10) = false := by rw [hk]; rfl
 have t6 : (ds[i].kind == 6) = false := by rw [hk]; rfl
 have t7 : (ds[i].kind == 7) = true := by rw [hk]; rfl
 have t8 : (ds[i].kind == 8) = false := by rw [hk]; rfl
 have t9 : (ds[i].kind == 9) = false := by rw [hk]; rfl
 have t4 : (ds[i].kind == 4) = false := by rw [hk]; rfl
 have hY : readR ds (readV ds b) ds[i] b a = (choiceF ds (readV ds b) ds[i] b a) := by
  unfold readR; rw [if_neg (by omega), if_neg (by omega), if_neg (by omega), if_neg (by omega), if_neg (by omega), if_pos hk]
 rw [hY]
 have CC : Hid (∀ w', Ext w w' → Calls Tryz.prog 74 #[.agg #[.slice (some ⟨bR, oR, none⟩) ds.length c], .agg #[.string ds[i].nm, .int .i64 ds[i].kind, .int .i64 ds[i].size, .bool ds[i].little, .slice Rb ds[i].bytes.length rb, .slice Rn ds[i].names.length rn, .slice Rt ds[i].tags.length rt, .slice Rk ds[i].kids.length rk], .slice Ab b.length cb, .int .i64 (a : Int)] w' fun e w'' => ∃ (t : VT) (A1 : Option Addr) (n1 c1 : Nat) (A2 : Option Addr) (n2 c2 : Nat), e = .returned (.tuple #[.agg #[.int .i64 ((choiceF ds (readV ds b) ds[i] b a)).v.num, .slice A1 n1 c1, .slice A2 n2 c2], .int .i64 (((choiceF ds (readV ds b) ds[i] b a)).next : Int), .int .i64 (((choiceF ds (readV ds b) ds[i] b a)).code : Int)]) ∧ Hid (t.vb = .slice A1 n1 c1 ∧ t.vi = .slice A2 n2 c2) ∧ Hid (GotV w' w'' t ((choiceF ds (readV ds b) ds[i] b a)).v) ∧ Ext w' w'') := fun w' e =>
  (sChoice_c _ ds c hok i hi hk Rb rb Rn rn Rt rt Rk rk Ab b cb HR a ha w' (hd.ext e) (hb.ext e) (hS.ext e)).mono fun e' w'' h => RdOut.shape h
 generalize (choiceF ds (readV ds b) ds[i] b a) = Y at *
 generalize ds[i] = r at *
 obtain ⟨W0, HW0, B1, B2, B3, e0, hs0⟩ := boxes3' w #[.slice (some ⟨bR, oR, none⟩) ds.length c] #[.int .i64 0, .slice none 0 0, .slice none 0 0] #[.string r.nm, .int .i64 r.kind, .int .i64 r.size, .bool r.little, .slice Rb r.bytes.length rb, .slice Rn r.names.length rn, .slice Rt r.tags.length rt, .slice Rk r.kids.length rk] 26 29 51
 have d0 : ∀ w', Ext W0 w' → _ = some (Value.slice (some ⟨bR, oR, none⟩) ds.length c) := fun w' e => B1.at 0 w' e
 have q0 : ∀ w', Ext W0 w' → _ = some (Value.string r.nm) := fun w' e => B3.at 0 w' e
 have q1 : ∀ w', Ext W0 w' → _ = some (Value.int .i64 r.kind) := fun w' e => B3.at 1 w' e
 have q2 : ∀ w', Ext W0 w' → _ = some (Value.int .i64 r.size) := fun w' e => B3.at 2 w' e
 have q3 : ∀ w', Ext W0 w' → _ = some (Value.bool r.little) := fun w' e => B3.at 3 w' e
 have q4 : ∀ w', Ext W0 w' → _ = some (Value.slice Rb r.bytes.length rb) := fun w' e => B3.at 4 w' e
 have q5 : ∀ w', Ext W0 w' → _ = some (Value.slice Rn r.names.length rn) := fun w' e => B3.at 5 w' e
 have q6 : ∀ w', Ext W0 w' → _ = some (Value.slice Rt r.tags.length rt) := fun w' e => B3.at 6 w' e
 have q7 : ∀ w', Ext W0 w' → _ = some (Value.slice Rk r.kids.length rk) := fun w' e => B3.at 7 w' e
 have HB2 := Lib.hid B2; have HS0 := Lib.hid hs0
 clear B1 B2 B3 hs0
 clear hd hb hS HR hk hY
 unfold vdesc
 go_enter Tryz.func52, Tryz.ntmps52
 go_wp2_with fail
 rw [← HW0.out]
 refine (CC.out _ e0).mono ?_; rintro _ w5 ⟨t, A1, n1, c1, A2, n2, c2, rfl, hsh, hgt, he5⟩
 have hbq := HB2.out.ext he5
 have f1 := hbq.cell; have f2 := hbq.free
 have hs0' := HS0.out
 have hG := val_out3 (w := w) (g := w.heap.size + 1) (by omega) (e0.trans he5) (hgt.out.down (by omega)) (fun u hu g hg => by have := (hgt.out.own.block u hu g hg).1; omega) (.int .i64 Y.v.num) (.slice A1 n1 c1) (.slice A2 n2 c2)
 have HG := Lib.hid hG
 clear hG hs0'
 go_wp2
 exact bodyPost_ret (v := .tuple #[.agg #[.int .i64 Y.v.num, .slice A1 n1 c1, .slice A2 n2 c2], .int .i64 (Y.next : Int), .int .i64 (Y.code : Int)]) (by simp [results, Tryz.results52, go_sem, f1, f2]) rfl ⟨_, by unfold rrVal vval; rw [hsh.out.1, hsh.out.2], HG.out.1, HG.out.2⟩
theorem sRead8_c (A : Option Addr) (ds : List DRule) (c : Nat) (hok : descOk ds = true) (i : Nat) (hi : i < ds.length) (hk : ds[i].kind = 8) (Ab : Option Addr) (b : List UInt8) (cb : Nat) (HR : ∀ j, j < i → sReadOk A ds c Ab b cb j) : sReadOk A ds c Ab b cb i := by
 intro a w ha hd hb
 have hl := hd.len
 have hbl := hb.len
 obtain ⟨bR, oR, Rb, rb, Rn, rn, Rt, rt, Rk, rk, hA, hbR, hS, hRR⟩ := hd.at i hi
 obtain ⟨r0, r1, r2, r3, r4, r5, r6, r7⟩ := hRR
 subst hA
 have hii : (i : Int) < (ds.length : Int) := by omega
 have hi0 : (0 : Int) ≤ (i : Int) := by omega
 rw [readV_step hok b i a hi]
 have t1 : (ds[i].kind == 1) = false := by rw [hk]; rfl
 have t2 : (ds[i].kind == 2) = false := by rw [hk]; rfl
 have t3 : (ds[i].kind == 3) = false := by rw [hk]; rfl
 have t10 : (ds[i].kind == 10) = false := by rw [hk]; rfl
 have t6 : (ds[i].kind == 6) = false := by rw [hk]; rfl
 have t7 : (ds[i].kind == 7) = false := by rw [hk]; rfl
 have t8 : (ds[i].kind == 8) = true := by rw [hk]; rfl
 have t9 : (ds[i].kind == 9) = false := by rw [hk]; rfl
 have t4 : (ds[i].kind == 4) = false := by rw [hk]; rfl
 have hY : readR ds (readV ds b) ds[i] b a = (optionF (readV ds b) ds[i] b a) := by
  unfold readR; rw [if_neg (by omega), if_neg (by omega), if_neg (by omega), if_neg (by omega), if_neg (by omega), if_neg (by omega), if_pos hk]
 rw [hY]
 have CC : Hid (∀ w', Ext w w' → Calls Tryz.prog 75 #[.agg #[.slice (some ⟨bR, oR, none⟩) ds.length c], .agg #[.string ds[i].nm, .int .i64 ds[i].kind, .int .i64 ds[i].size, .bool ds[i].little, .slice Rb ds[i].bytes.length rb, .slice Rn ds[i].names.length rn, .slice Rt ds[i].tags.length rt, .slice Rk ds[i].kids.length rk], .slice Ab b.length cb, .int .i64 (a : Int)] w' fun e w'' => ∃ (t : VT) (A1 : Option Addr) (n1 c1 : Nat) (A2 : Option Addr) (n2 c2 : Nat), e = .returned (.tuple #[.agg #[.int .i64 ((optionF (readV ds b) ds[i] b a)).v.num, .slice A1 n1 c1, .slice A2 n2 c2], .int .i64 (((optionF (readV ds b) ds[i] b a)).next : Int), .int .i64 (((optionF (readV ds b) ds[i] b a)).code : Int)]) ∧ Hid (t.vb = .slice A1 n1 c1 ∧ t.vi = .slice A2 n2 c2) ∧ Hid (GotV w' w'' t ((optionF (readV ds b) ds[i] b a)).v) ∧ Ext w' w'') := fun w' e =>
  (sOption_c _ ds c hok i hi hk Rb rb Rn rn Rt rt Rk rk Ab b cb HR a ha w' (hd.ext e) (hb.ext e) (hS.ext e)).mono fun e' w'' h => RdOut.shape h
 generalize (optionF (readV ds b) ds[i] b a) = Y at *
 generalize ds[i] = r at *
 obtain ⟨W0, HW0, B1, B2, B3, e0, hs0⟩ := boxes3' w #[.slice (some ⟨bR, oR, none⟩) ds.length c] #[.int .i64 0, .slice none 0 0, .slice none 0 0] #[.string r.nm, .int .i64 r.kind, .int .i64 r.size, .bool r.little, .slice Rb r.bytes.length rb, .slice Rn r.names.length rn, .slice Rt r.tags.length rt, .slice Rk r.kids.length rk] 26 29 51
 have d0 : ∀ w', Ext W0 w' → _ = some (Value.slice (some ⟨bR, oR, none⟩) ds.length c) := fun w' e => B1.at 0 w' e
 have q0 : ∀ w', Ext W0 w' → _ = some (Value.string r.nm) := fun w' e => B3.at 0 w' e
 have q1 : ∀ w', Ext W0 w' → _ = some (Value.int .i64 r.kind) := fun w' e => B3.at 1 w' e
 have q2 : ∀ w', Ext W0 w' → _ = some (Value.int .i64 r.size) := fun w' e => B3.at 2 w' e
 have q3 : ∀ w', Ext W0 w' → _ = some (Value.bool r.little) := fun w' e => B3.at 3 w' e
 have q4 : ∀ w', Ext W0 w' → _ = some (Value.slice Rb r.bytes.length rb) := fun w' e => B3.at 4 w' e
 have q5 : ∀ w', Ext W0 w' → _ = some (Value.slice Rn r.names.length rn) := fun w' e => B3.at 5 w' e
 have q6 : ∀ w', Ext W0 w' → _ = some (Value.slice Rt r.tags.length rt) := fun w' e => B3.at 6 w' e
 have q7 : ∀ w', Ext W0 w' → _ = some (Value.slice Rk r.kids.length rk) := fun w' e => B3.at 7 w' e
 have HB2 := Lib.hid B2; have HS0 := Lib.hid hs0
 clear B1 B2 B3 hs0
 clear hd hb hS HR hk hY
 unfold vdesc
 go_enter Tryz.func52, Tryz.ntmps52
 go_wp2_with fail
 rw [← HW0.out]
 refine (CC.out _ e0).mono ?_; rintro _ w5 ⟨t, A1, n1, c1, A2, n2, c2, rfl, hsh, hgt, he5⟩
 have hbq := HB2.out.ext he5
 have f1 := hbq.cell; have f2 := hbq.free
 have hs0' := HS0.out
 have hG := val_out3 (w := w) (g := w.heap.size + 1) (by omega) (e0.trans he5) (hgt.out.down (by omega)) (fun u hu g hg => by have := (hgt.out.own.block u hu g hg).1; omega) (.int .i64 Y.v.num) (.slice A1 n1 c1) (.slice A2 n2 c2)
 have HG := Lib.hid hG
 clear hG hs0'
 go_wp2
 exact bodyPost_ret (v := .tuple #[.agg #[.int .i64 Y.v.num, .slice A1 n1 c1, .slice A2 n2 c2], .int .i64 (Y.next : Int), .int .i64 (Y.code : Int)]) (by simp [results, Tryz.results52, go_sem, f1, f2]) rfl ⟨_, by unfold rrVal vval; rw [hsh.out.1, hsh.out.2], HG.out.1, HG.out.2⟩
theorem sRead9_c (A : Option Addr) (ds : List DRule) (c : Nat) (hok : descOk ds = true) (i : Nat) (hi : i < ds.length) (hk : ds[i].kind = 9) (Ab : Option Addr) (b : List UInt8) (cb : Nat) (HR : ∀ j, j < i → sReadOk A ds c Ab b cb j) : sReadOk A ds c Ab b cb i := by
 intro a w ha hd hb
 have hl := hd.len
 have hbl := hb.len
 obtain ⟨bR, oR, Rb, rb, Rn, rn, Rt, rt, Rk, rk, hA, hbR, hS, hRR⟩ := hd.at i hi
 obtain ⟨r0, r1, r2, r3, r4, r5, r6, r7⟩ := hRR
 subst hA
 have hii : (i : Int) < (ds.length : Int) := by omega
 have hi0 : (0 : Int) ≤ (i : Int) := by omega
 rw [readV_step hok b i a hi]
 have t1 : (ds[i].kind == 1) = false := by rw [hk]; rfl
 have t2 : (ds[i].kind == 2) = false := by rw [hk]; rfl
 have t3 : (ds[i].kind == 3) = false := by rw [hk]; rfl
 have t10 : (ds[i].kind == 10) = false := by rw [hk]; rfl
 have t6 : (ds[i].kind == 6) = false := by rw [hk]; rfl
 have t7 : (ds[i].kind == 7) = false := by rw [hk]; rfl
 have t8 : (ds[i].kind == 8) = false := by rw [hk]; rfl
 have t9 : (ds[i].kind == 9) = true := by rw [hk]; rfl
 have t4 : (ds[i].kind == 4) = false := by rw [hk]; rfl
 have hY : readR ds (readV ds b) ds[i] b a = (checkedF (readV ds b) ds[i] b a) := by
  unfold readR; rw [if_neg (by omega), if_neg (by omega), if_neg (by omega), if_neg (by omega), if_neg (by omega), if_neg (by omega), if_neg (by omega), if_pos hk]
 rw [hY]
 have CC : Hid (∀ w', Ext w w' → Calls Tryz.prog 76 #[.agg #[.slice (some ⟨bR, oR, none⟩) ds.length c], .agg #[.string ds[i].nm, .int .i64 ds[i].kind, .int .i64 ds[i].size, .bool ds[i].little, .slice Rb ds[i].bytes.length rb, .slice Rn ds[i].names.length rn, .slice Rt ds[i].tags.length rt, .slice Rk ds[i].kids.length rk], .slice Ab b.length cb, .int .i64 (a : Int)] w' fun e w'' => ∃ (t : VT) (A1 : Option Addr) (n1 c1 : Nat) (A2 : Option Addr) (n2 c2 : Nat), e = .returned (.tuple #[.agg #[.int .i64 ((checkedF (readV ds b) ds[i] b a)).v.num, .slice A1 n1 c1, .slice A2 n2 c2], .int .i64 (((checkedF (readV ds b) ds[i] b a)).next : Int), .int .i64 (((checkedF (readV ds b) ds[i] b a)).code : Int)]) ∧ Hid (t.vb = .slice A1 n1 c1 ∧ t.vi = .slice A2 n2 c2) ∧ Hid (GotV w' w'' t ((checkedF (readV ds b) ds[i] b a)).v) ∧ Ext w' w'') := fun w' e =>
  (sChecked_c _ ds c hok i hi hk Rb rb Rn rn Rt rt Rk rk Ab b cb HR a ha w' (hd.ext e) (hb.ext e) (hS.ext e)).mono fun e' w'' h => RdOut.shape h
 generalize (checkedF (readV ds b) ds[i] b a) = Y at *
 generalize ds[i] = r at *
 obtain ⟨W0, HW0, B1, B2, B3, e0, hs0⟩ := boxes3' w #[.slice (some ⟨bR, oR, none⟩) ds.length c] #[.int .i64 0, .slice none 0 0, .slice none 0 0] #[.string r.nm, .int .i64 r.kind, .int .i64 r.size, .bool r.little, .slice Rb r.bytes.length rb, .slice Rn r.names.length rn, .slice Rt r.tags.length rt, .slice Rk r.kids.length rk] 26 29 51
 have d0 : ∀ w', Ext W0 w' → _ = some (Value.slice (some ⟨bR, oR, none⟩) ds.length c) := fun w' e => B1.at 0 w' e
 have q0 : ∀ w', Ext W0 w' → _ = some (Value.string r.nm) := fun w' e => B3.at 0 w' e
 have q1 : ∀ w', Ext W0 w' → _ = some (Value.int .i64 r.kind) := fun w' e => B3.at 1 w' e
 have q2 : ∀ w', Ext W0 w' → _ = some (Value.int .i64 r.size) := fun w' e => B3.at 2 w' e
 have q3 : ∀ w', Ext W0 w' → _ = some (Value.bool r.little) := fun w' e => B3.at 3 w' e
 have q4 : ∀ w', Ext W0 w' → _ = some (Value.slice Rb r.bytes.length rb) := fun w' e => B3.at 4 w' e
 have q5 : ∀ w', Ext W0 w' → _ = some (Value.slice Rn r.names.length rn) := fun w' e => B3.at 5 w' e
 have q6 : ∀ w', Ext W0 w' → _ = some (Value.slice Rt r.tags.length rt) := fun w' e => B3.at 6 w' e
 have q7 : ∀ w', Ext W0 w' → _ = some (Value.slice Rk r.kids.length rk) := fun w' e => B3.at 7 w' e
 have HB2 := Lib.hid B2; have HS0 := Lib.hid hs0
 clear B1 B2 B3 hs0
 clear hd hb hS HR hk hY
 unfold vdesc
 go_enter Tryz.func52, Tryz.ntmps52
 go_wp2_with fail
 rw [← HW0.out]
 refine (CC.out _ e0).mono ?_; rintro _ w5 ⟨t, A1, n1, c1, A2, n2, c2, rfl, hsh, hgt, he5⟩
 have hbq := HB2.out.ext he5
 have f1 := hbq.cell; have f2 := hbq.free
 have hs0' := HS0.out
 have hG := val_out3 (w := w) (g := w.heap.size + 1) (by omega) (e0.trans he5) (hgt.out.down (by omega)) (fun u hu g hg => by have := (hgt.out.own.block u hu g hg).1; omega) (.int .i64 Y.v.num) (.slice A1 n1 c1) (.slice A2 n2 c2)
 have HG := Lib.hid hG
 clear hG hs0'
 go_wp2
 exact bodyPost_ret (v := .tuple #[.agg #[.int .i64 Y.v.num, .slice A1 n1 c1, .slice A2 n2 c2], .int .i64 (Y.next : Int), .int .i64 (Y.code : Int)]) (by simp [results, Tryz.results52, go_sem, f1, f2]) rfl ⟨_, by unfold rrVal vval; rw [hsh.out.1, hsh.out.2], HG.out.1, HG.out.2⟩
theorem sRead10_c (A : Option Addr) (ds : List DRule) (c : Nat) (hok : descOk ds = true) (i : Nat) (hi : i < ds.length) (hk : ds[i].kind = 10) (Ab : Option Addr) (b : List UInt8) (cb : Nat) (HR : ∀ j, j < i → sReadOk A ds c Ab b cb j) : sReadOk A ds c Ab b cb i := by
 intro a w ha hd hb
 have hl := hd.len
 have hbl := hb.len
 obtain ⟨bR, oR, Rb, rb, Rn, rn, Rt, rt, Rk, rk, hA, hbR, hS, hRR⟩ := hd.at i hi
 obtain ⟨r0, r1, r2, r3, r4, r5, r6, r7⟩ := hRR
 subst hA
 have hii : (i : Int) < (ds.length : Int) := by omega
 have hi0 : (0 : Int) ≤ (i : Int) := by omega
 rw [readV_step hok b i a hi]
 have t1 : (ds[i].kind == 1) = false := by rw [hk]; rfl
 have t2 : (ds[i].kind == 2) = false := by rw [hk]; rfl
 have t3 : (ds[i].kind == 3) = false := by rw [hk]; rfl
 have t10 : (ds[i].kind == 10) = true := by rw [hk]; rfl
 have t6 : (ds[i].kind == 6) = false := by rw [hk]; rfl
 have t7 : (ds[i].kind == 7) = false := by rw [hk]; rfl
 have t8 : (ds[i].kind == 8) = false := by rw [hk]; rfl
 have t9 : (ds[i].kind == 9) = false := by rw [hk]; rfl
 have t4 : (ds[i].kind == 4) = false := by rw [hk]; rfl
 have hlen1 := (term_byte hok i hi hk).2
 have hgd : ds[i].bytes.getD 0 0 = ds[i].bytes[0]'(by omega) := by simp [hlen1]
 have hY : readR ds (readV ds b) ds[i] b a = (match untilL (ds[i].bytes[0]'(by omega)) (b.drop a) with | none => .bad a 1 | some q => ⟨.mk 0 q.1 [], a + q.2, 0⟩) := by
  unfold readR; rw [if_neg (by omega), if_neg (by omega), if_neg (by omega), if_pos hk, hgd]; rfl
 rw [hY]
 obtain ⟨bb, ob, hRb, _, hcb⟩ := hS.b.at 0 (by omega)
 subst hRb
 simp only [Nat.add_zero, vu8] at hcb
 have CC : Hid (∀ w', Ext w w' → Calls Tryz.prog 72 #[.slice Ab b.length cb, .int .i64 (a : Int), .int .u8 ((ds[i].bytes[0]'(by omega)).toNat : Int)] w' fun e w'' => ∃ A4 n4 c4, e = .returned (.tuple #[.slice A4 n4 c4, .int .i64 ((untilRes (untilL (ds[i].bytes[0]'(by omega)) (b.drop a)) a).2.1 : Int), .bool (untilRes (untilL (ds[i].bytes[0]'(by omega)) (b.drop a)) a).2.2]) ∧ OwnL vu8 5 w' w'' (.slice A4 n4 c4) (untilRes (untilL (ds[i].bytes[0]'(by omega)) (b.drop a)) a).1 ∧ Ext w' w'') := fun w' e =>
  (sUntil_c Ab b cb a (ds[i].bytes[0]'(by omega)) ha w' (hb.ext e)).mono fun e' w'' ⟨v, h1, h2, h3⟩ => by
   obtain ⟨A4, c4, hv⟩ := Own.shape h2
   subst hv
   exact ⟨A4, _, c4, h1, h2, h3⟩
 generalize untilL (ds[i].bytes[0]'(by omega)) (b.drop a) = O at *
 have pt := hcb
 generalize ds[i].bytes[0]'(by omega) = tb at *
 have hl01 : (0 : Int) < (ds[i].bytes.length : Int) := by omega
 generalize ds[i] = r at *
 obtain ⟨W0, HW0, B1, B2, B3, e0, hs0⟩ := boxes3' w #[.slice (some ⟨bR, oR, none⟩) ds.length c] #[.int .i64 0, .slice none 0 0, .slice none 0 0] #[.string r.nm, .int .i64 r.kind, .int .i64 r.size, .bool r.little, .slice (some ⟨bb, ob, none⟩) r.bytes.length rb, .slice Rn r.names.length rn, .slice Rt r.tags.length rt, .slice Rk r.kids.length rk] 26 29 51
 have d0 : ∀ w', Ext W0 w' → _ = some (Value.slice (some ⟨bR, oR, none⟩) ds.length c) := fun w' e => B1.at 0 w' e
 have q0 : ∀ w', Ext W0 w' → _ = some (Value.string r.nm) := fun w' e => B3.at 0 w' e
 have q1 : ∀ w', Ext W0 w' → _ = some (Value.int .i64 r.kind) := fun w' e => B3.at 1 w' e
 have q2 : ∀ w', Ext W0 w' → _ = some (Value.int .i64 r.size) := fun w' e => B3.at 2 w' e
 have q3 : ∀ w', Ext W0 w' → _ = some (Value.bool r.little) := fun w' e => B3.at 3 w' e
 have q4 : ∀ w', Ext W0 w' → _ = some (Value.slice (some ⟨bb, ob, none⟩) r.bytes.length rb) := fun w' e => B3.at 4 w' e
 have q5 : ∀ w', Ext W0 w' → _ = some (Value.slice Rn r.names.length rn) := fun w' e => B3.at 5 w' e
 have q6 : ∀ w', Ext W0 w' → _ = some (Value.slice Rt r.tags.length rt) := fun w' e => B3.at 6 w' e
 have q7 : ∀ w', Ext W0 w' → _ = some (Value.slice Rk r.kids.length rk) := fun w' e => B3.at 7 w' e
 have HB2 := Lib.hid B2; have HS0 := Lib.hid hs0
 clear B1 B2 B3 hs0
 clear hd hb hS HR hk hY hgd hlen1
 have pt' := fun w' (e : Ext W0 w') => pt w' (e0.trans e)
 have pc := pt _ e0
 rw [HW0.out] at pc
 clear hcb pt
 cases O with
 | none =>
  simp only [untilRes] at CC
  unfold vdesc
  go_enter Tryz.func52, Tryz.ntmps52
  go_wp2_with fail
  rw [← HW0.out]
  refine (CC.out _ e0).mono ?_; rintro _ w1 ⟨A4, n4, c4, rfl, ho, he1⟩
  have hbq := HB2.out.ext he1
  have f1 := hbq.cell; have f2 := hbq.free
  have hs0' := HS0.out
  have hput := (e0.trans he1).grown (grown_put3 _ (w.heap.size + 1) 0 t0) (fun g hg => by injection hg with hg; omega)
  have HPUT := Lib.hid hput
  clear hput hs0'
  go_wp2
  exact bodyPost_ret (v := badRes a 1) (by simp [results, Tryz.results52, go_sem, f1, f2, badRes, zeroV]) rfl (RdOut.bad HPUT.out)
 | some q =>
  simp only [untilRes] at CC
  unfold vdesc
  go_enter Tryz.func52, Tryz.ntmps52
  go_wp2_with fail
  rw [← HW0.out]
  refine (CC.out _ e0).mono ?_; rintro _ w1 ⟨A4, n4, c4, rfl, ho, he1⟩
  have hob := World.ownsRow.lt ho
  have hgt : Hid (GotV W0 w1 (.mk 0 q.1 (.slice A4 n4 c4) [] (.slice none 0 0)) (.mk 0 q.1 [])) := ⟨by show DVal.mk 0 _ (valsOf []) = _; rfl, .mk ho ⟨by simp [VT.its], .inl ⟨rfl, rfl⟩⟩ (fun x hx => by simp [VT.its] at hx), by rw [VT.vals_eq]; simp [Far, VT.vb, VT.vi, VT.its, Value.ownBlock]⟩
  clear ho hob
  have hbq := HB2.out.ext he1
  have f1 := hbq.cell; have f2 := hbq.free
  have hs0' := HS0.out
  have hG := val_out3 (w := w) (g := w.heap.size + 1) (by omega) (e0.trans he1) (hgt.out.down (by omega)) (fun u hu g hg => by have := (hgt.out.own.block u hu g hg).1; omega) (.int .i64 0) (.slice A4 n4 c4) (.slice none 0 0)
  have HG := Lib.hid hG
  clear hG hs0'
  go_wp2
  exact bodyPost_ret (v := .tuple #[.agg #[.int .i64 0, .slice A4 n4 c4, .slice none 0 0], .int .i64 ((a : Int) + (q.2 : Int)), .int .i64 0]) (by simp [results, Tryz.results52, go_sem, f1, f2]) rfl ⟨_, by first | rfl | (unfold rrVal vval; simp [DVal.num, VT.vb, VT.vi]), HG.out.1, HG.out.2⟩
theorem sRead4_c (A : Option Addr) (ds : List DRule) (c : Nat) (hok : descOk ds = true) (i : Nat) (hi : i < ds.length) (hk : ds[i].kind = 4) (Ab : Option Addr) (b : List UInt8) (cb : Nat) (HR : ∀ j, j < i → sReadOk A ds c Ab b cb j) : sReadOk A ds c Ab b cb i := by
 intro a w ha hd hb
 have hl := hd.len
 have hbl := hb.len
 obtain ⟨bR, oR, Rb, rb, Rn, rn, Rt, rt, Rk, rk, hA, hbR, hS, hRR⟩ := hd.at i hi
 obtain ⟨r0, r1, r2, r3, r4, r5, r6, r7⟩ := hRR
 subst hA
 have hii : (i : Int) < (ds.length : Int) := by omega
 have hi0 : (0 : Int) ≤ (i : Int) := by omega
 rw [readV_step hok b i a hi]
 have t1 : (ds[i].kind == 1) = false := by rw [hk]; rfl
 have t2 : (ds[i].kind == 2) = false := by rw [hk]; rfl
 have t3 : (ds[i].kind == 3) = false := by rw [hk]; rfl
 have t10 : (ds[i].kind == 10) = false := by rw [hk]; rfl
 have t6 : (ds[i].kind == 6) = false := by rw [hk]; rfl
 have t7 : (ds[i].kind == 7) = false := by rw [hk]; rfl
 have t8 : (ds[i].kind == 8) = false := by rw [hk]; rfl
 have t9 : (ds[i].kind == 9) = false := by rw [hk]; rfl
 have t4 : (ds[i].kind == 4) = true := by rw [hk]; rfl
 obtain ⟨g0, g1, gk, g2, g3, g4, _⟩ := kid0 hok i hi (.inl hk)
 have hx0 : ds.getD (kd ds[i] 0) noRule = ds[kd ds[i] 0] := by simp [g0]
 have hY : readR ds (readV ds b) ds[i] b a = (match intAt ds[kd ds[i] 0] b a with | none => .bad a 1 | some n => bytesF b (a + ds[kd ds[i] 0].size.toNat) n) := by
  unfold readR; rw [if_neg (by omega), if_neg (by omega), if_neg (by omega), if_neg (by omega), if_neg (by omega), if_neg (by omega), if_neg (by omega), if_neg (by omega), hx0]
  cases intAt ds[kd ds[i] 0] b a with
  | none => rfl
  | some n => dsimp only; rw [if_pos hk]
 rw [hY]
 have hkn := kd_int hok i hi 0 gk
 obtain ⟨bk, ok, hRk, _, hck⟩ := hS.k.at 0 gk
 rw [hkn] at hck
 subst hRk
 simp only [Nat.add_zero, vint] at hck
 have CI : Hid (∀ w', Ext w w' → Gives Tryz.prog 69 #[.agg #[.slice (some ⟨bR, oR, none⟩) ds.length c], .int .i64 ((kd ds[i] 0 : Nat) : Int), .slice Ab b.length cb, .int .i64 (a : Int)] w' (intRes (intAt ds[kd ds[i] 0] b a) a (a + ds[kd ds[i] 0].size.toNat))) := fun w' e =>
  sInteger_c _ ds c (kd ds[i] 0) g0 ⟨g3, g4⟩ Ab b cb a ha w' (hd.ext e) (hb.ext e)
 have HLE : Hid (∀ n, intAt ds[kd ds[i] 0] b a = some n → a + ds[kd ds[i] 0].size.toNat ≤ b.length ∧ n < 4294967296) := fun n h => ⟨intAt_le ha h, intAt_lt g4 h⟩
 have CC : Hid (∀ (n : Nat) (a' : Nat) w', n < 4294967296 → a' ≤ b.length → Ext w w' → Calls Tryz.prog 71 #[.slice Ab b.length cb, .int .i64 (a' : Int), .int .i64 (n : Int)] w' fun e w'' => ∃ (t : VT) (A1 : Option Addr) (n1 c1 : Nat) (A2 : Option Addr) (n2 c2 : Nat), e = .returned (.tuple #[.agg #[.int .i64 (bytesF b a' n).v.num, .slice A1 n1 c1, .slice A2 n2 c2], .int .i64 ((bytesF b a' n).next : Int), .int .i64 ((bytesF b a' n).code : Int)]) ∧ Hid (t.vb = .slice A1 n1 c1 ∧ t.vi = .slice A2 n2 c2) ∧ Hid (GotV w' w'' t (bytesF b a' n).v) ∧ Ext w' w'') := fun n a' w' hn ha' e =>
  (sBytes_c Ab b cb a' n ha' (by omega) w' (hb.ext e)).mono fun e' w'' h => RdOut.shape h
 generalize ds[kd ds[i] 0].size.toNat = sz at *
 generalize intAt ds[kd ds[i] 0] b a = O at *
 generalize kd ds[i] 0 = k0 at *
 generalize ds[i] = r at *
 obtain ⟨W0, HW0, B1, B2, B3, e0, hs0⟩ := boxes3' w #[.slice (some ⟨bR, oR, none⟩) ds.length c] #[.int .i64 0, .slice none 0 0, .slice none 0 0] #[.string r.nm, .int .i64 r.kind, .int .i64 r.size, .bool r.little, .slice Rb r.bytes.length rb, .slice Rn r.names.length rn, .slice Rt r.tags.length rt, .slice (some ⟨bk, ok, none⟩) r.kids.length rk] 26 29 51
 have d0 : ∀ w', Ext W0 w' → _ = some (Value.slice (some ⟨bR, oR, none⟩) ds.length c) := fun w' e => B1.at 0 w' e
 have q0 : ∀ w', Ext W0 w' → _ = some (Value.string r.nm) := fun w' e => B3.at 0 w' e
 have q1 : ∀ w', Ext W0 w' → _ = some (Value.int .i64 r.kind) := fun w' e => B3.at 1 w' e
 have q2 : ∀ w', Ext W0 w' → _ = some (Value.int .i64 r.size) := fun w' e => B3.at 2 w' e
 have q3 : ∀ w', Ext W0 w' → _ = some (Value.bool r.little) := fun w' e => B3.at 3 w' e
 have q4 : ∀ w', Ext W0 w' → _ = some (Value.slice Rb r.bytes.length rb) := fun w' e => B3.at 4 w' e
 have q5 : ∀ w', Ext W0 w' → _ = some (Value.slice Rn r.names.length rn) := fun w' e => B3.at 5 w' e
 have q6 : ∀ w', Ext W0 w' → _ = some (Value.slice Rt r.tags.length rt) := fun w' e => B3.at 6 w' e
 have q7 : ∀ w', Ext W0 w' → _ = some (Value.slice (some ⟨bk, ok, none⟩) r.kids.length rk) := fun w' e => B3.at 7 w' e
 have HB2 := Lib.hid B2; have HS0 := Lib.hid hs0
 clear B1 B2 B3 hs0
 have qk := fun w' (e : Ext W0 w') => hck w' (e0.trans e)
 have gki : (0 : Int) < (r.kids.length : Int) := by omega
 clear hd hb hS HR hk hY hck hkn
 cases O with
 | none =>
  simp only [intRes] at CI
  unfold vdesc
  go_enter Tryz.func52, Tryz.ntmps52
  go_wp2_with fail
  rw [← HW0.out]
  refine wp_region_quiet_below (by kernel_rfl) (by kernel_rfl) ?_
  repeat (go_big_quiet_step ((go_at_call 69; exact Calls.regrown_of (CI.out _ (e0.trans (by first | assumption | exact Ext_regrown _ _ (Ext.refl _)))))))
  refine wpQuiet_nil ?_
  rintro w1 ⟨⟨nq, osq⟩, hq⟩
  have ew1 := ext_of_q hq
  clear hq nq osq
  have hbq := HB2.out.ext ew1
  have f1 := hbq.cell; have f2 := hbq.free
  have hs0' := HS0.out
  have hput := (e0.trans ew1).grown (grown_put3 _ (w.heap.size + 1) 0 t0) (fun g hg => by injection hg with hg; omega)
  have HPUT := Lib.hid hput
  clear hput hs0'
  go_wp2
  exact bodyPost_ret (v := badRes a 1) (by simp [results, Tryz.results52, go_sem, f1, f2, badRes, zeroV]) rfl (RdOut.bad HPUT.out)
 | some n =>
  obtain ⟨hle, hn32⟩ := HLE.out n rfl
  simp only [intRes] at CI
  dsimp only
  have CC1 := Lib.hid (fun w' e => CC.out n (a + sz) w' hn32 hle e)
  clear CC
  generalize bytesF b (a + sz) n = Y at *
  have e01 := e0
  unfold vdesc
  go_enter Tryz.func52, Tryz.ntmps52
  go_wp2_with fail
  rw [← HW0.out]
  refine wp_region_quiet_below (by kernel_rfl) (by kernel_rfl) ?_
  repeat (go_big_quiet_step ((go_at_call 69; exact Calls.regrown_of (CI.out _ (e0.trans (by first | assumption | exact Ext_regrown _ _ (Ext.refl _)))))))
  refine wpQuiet_nil ?_
  rintro w1 ⟨⟨nq, osq⟩, hq⟩
  have ew1 := ext_of_q hq
  clear hq nq osq
  have e01 := e0.trans ew1
  go_wp2_with fail
  refine (CC1.out _ e01).mono ?_; rintro _ w5 ⟨t, A1, n1, c1, A2, n2, c2, rfl, hsh, hgt, he5⟩
  have e05 := ew1.trans he5
  have hw1 := ew1.size
  have hbq := HB2.out.ext e05
  have f1 := hbq.cell; have f2 := hbq.free
  have hs0' := HS0.out
  have hG := val_out3 (w := w) (g := w.heap.size + 1) (by omega) (e0.trans e05) (hgt.out.down (by omega)) (fun u hu g hg => by have := (hgt.out.own.block u hu g hg).1; omega) (.int .i64 Y.v.num) (.slice A1 n1 c1) (.slice A2 n2 c2)
  have HG := Lib.hid hG
  clear hG hs0'
  go_wp2
  exact bodyPost_ret (v := .tuple #[.agg #[.int .i64 Y.v.num, .slice A1 n1 c1, .slice A2 n2 c2], .int .i64 (Y.next : Int), .int .i64 (Y.code : Int)]) (by simp [results, Tryz.results52, go_sem, f1, f2]) rfl ⟨_, by unfold rrVal vval; rw [hsh.out.1, hsh.out.2], HG.out.1, HG.out.2⟩
theorem sRead5_c (A : Option Addr) (ds : List DRule) (c : Nat) (hok : descOk ds = true) (i : Nat) (hi : i < ds.length) (hk : ds[i].kind = 5) (Ab : Option Addr) (b : List UInt8) (cb : Nat) (HR : ∀ j, j < i → sReadOk A ds c Ab b cb j) : sReadOk A ds c Ab b cb i := by
 intro a w ha hd hb
 have hl := hd.len
 have hbl := hb.len
 obtain ⟨bR, oR, Rb, rb, Rn, rn, Rt, rt, Rk, rk, hA, hbR, hS, hRR⟩ := hd.at i hi
 obtain ⟨r0, r1, r2, r3, r4, r5, r6, r7⟩ := hRR
 subst hA
 have hii : (i : Int) < (ds.length : Int) := by omega
 have hi0 : (0 : Int) ≤ (i : Int) := by omega
 rw [readV_step hok b i a hi]
 have t1 : (ds[i].kind == 1) = false := by rw [hk]; rfl
 have t2 : (ds[i].kind == 2) = false := by rw [hk]; rfl
 have t3 : (ds[i].kind == 3) = false := by rw [hk]; rfl
 have t10 : (ds[i].kind == 10) = false := by rw [hk]; rfl
 have t6 : (ds[i].kind == 6) = false := by rw [hk]; rfl
 have t7 : (ds[i].kind == 7) = false := by rw [hk]; rfl
 have t8 : (ds[i].kind == 8) = false := by rw [hk]; rfl
 have t9 : (ds[i].kind == 9) = false := by rw [hk]; rfl
 have t4 : (ds[i].kind == 4) = false := by rw [hk]; rfl
 obtain ⟨g0, g1, gk, g2, g3, g4, _⟩ := kid0 hok i hi (.inr (.inl hk))
 have hx0 : ds.getD (kd ds[i] 0) noRule = ds[kd ds[i] 0] := by simp [g0]
 have hY : readR ds (readV ds b) ds[i] b a = (match intAt ds[kd ds[i] 0] b a with | none => .bad a 1 | some n => if 40 < n then .bad a 6 else itemsF (readV ds b) ds[i] 0 n 0 (a + ds[kd ds[i] 0].size.toNat) []) := by
  unfold readR; rw [if_neg (by omega), if_neg (by omega), if_neg (by omega), if_neg (by omega), if_neg (by omega), if_neg (by omega), if_neg (by omega), if_neg (by omega), hx0]
  cases intAt ds[kd ds[i] 0] b a with
  | none => rfl
  | some n => dsimp only; rw [if_neg (by omega)]
 rw [hY]
 have hkn := kd_int hok i hi 0 gk
 obtain ⟨bk, ok, hRk, _, hck⟩ := hS.k.at 0 gk
 rw [hkn] at hck
 subst hRk
 simp only [Nat.add_zero, vint] at hck
 have CI : Hid (∀ w', Ext w w' → Gives Tryz.prog 69 #[.agg #[.slice (some ⟨bR, oR, none⟩) ds.length c], .int .i64 ((kd ds[i] 0 : Nat) : Int), .slice Ab b.length cb, .int .i64 (a : Int)] w' (intRes (intAt ds[kd ds[i] 0] b a) a (a + ds[kd ds[i] 0].size.toNat))) := fun w' e =>
  sInteger_c _ ds c (kd ds[i] 0) g0 ⟨g3, g4⟩ Ab b cb a ha w' (hd.ext e) (hb.ext e)
 have HLE : Hid (∀ n, intAt ds[kd ds[i] 0] b a = some n → a + ds[kd ds[i] 0].size.toNat ≤ b.length ∧ n < 4294967296) := fun n h => ⟨intAt_le ha h, intAt_lt g4 h⟩
 have CC : Hid (∀ (n : Nat) (a' : Nat) w', n ≤ 40 → a' ≤ b.length → Ext w w' → Calls Tryz.prog 73 #[.agg #[.slice (some ⟨bR, oR, none⟩) ds.length c], .agg #[.string ds[i].nm, .int .i64 ds[i].kind, .int .i64 ds[i].size, .bool ds[i].little, .slice Rb ds[i].bytes.length rb, .slice Rn ds[i].names.length rn, .slice Rt ds[i].tags.length rt, .slice (some ⟨bk, ok, none⟩) ds[i].kids.length rk], .int .i64 0, .int .i64 (n : Int), .slice Ab b.length cb, .int .i64 (a' : Int)] w' fun e w'' => ∃ (t : VT) (A1 : Option Addr) (n1 c1 : Nat) (A2 : Option Addr) (n2 c2 : Nat), e = .returned (.tuple #[.agg #[.int .i64 (itemsF (readV ds b) ds[i] 0 n 0 a' []).v.num, .slice A1 n1 c1, .slice A2 n2 c2], .int .i64 ((itemsF (readV ds b) ds[i] 0 n 0 a' []).next : Int), .int .i64 ((itemsF (readV ds b) ds[i] 0 n 0 a' []).code : Int)]) ∧ Hid (t.vb = .slice A1 n1 c1 ∧ t.vi = .slice A2 n2 c2) ∧ Hid (GotV w' w'' t (itemsF (readV ds b) ds[i] 0 n 0 a' []).v) ∧ Ext w' w'') := fun n a' w' hn ha' e =>
  (sItems_c _ ds c hok i hi Rb rb Rn rn Rt rt (some ⟨bk, ok, none⟩) rk Ab b cb 0 n (by omega) (fun k _ => (readsOk hok i hi).arr hk k) HR a' ha' w' (hd.ext e) (hb.ext e) (hS.ext e)).mono fun e' w'' h => RdOut.shape h
 generalize ds[kd ds[i] 0].size.toNat = sz at *
 generalize intAt ds[kd ds[i] 0] b a = O at *
 generalize kd ds[i] 0 = k0 at *
 generalize ds[i] = r at *
 obtain ⟨W0, HW0, B1, B2, B3, e0, hs0⟩ := boxes3' w #[.slice (some ⟨bR, oR, none⟩) ds.length c] #[.int .i64 0, .slice none 0 0, .slice none 0 0] #[.string r.nm, .int .i64 r.kind, .int .i64 r.size, .bool r.little, .slice Rb r.bytes.length rb, .slice Rn r.names.length rn, .slice Rt r.tags.length rt, .slice (some ⟨bk, ok, none⟩) r.kids.length rk] 26 29 51
 have d0 : ∀ w', Ext W0 w' → _ = some (Value.slice (some ⟨bR, oR, none⟩) ds.length c) := fun w' e => B1.at 0 w' e
 have q0 : ∀ w', Ext W0 w' → _ = some (Value.string r.nm) := fun w' e => B3.at 0 w' e
 have q1 : ∀ w', Ext W0 w' → _ = some (Value.int .i64 r.kind) := fun w' e => B3.at 1 w' e
 have q2 : ∀ w', Ext W0 w' → _ = some (Value.int .i64 r.size) := fun w' e => B3.at 2 w' e
 have q3 : ∀ w', Ext W0 w' → _ = some (Value.bool r.little) := fun w' e => B3.at 3 w' e
 have q4 : ∀ w', Ext W0 w' → _ = some (Value.slice Rb r.bytes.length rb) := fun w' e => B3.at 4 w' e
 have q5 : ∀ w', Ext W0 w' → _ = some (Value.slice Rn r.names.length rn) := fun w' e => B3.at 5 w' e
 have q6 : ∀ w', Ext W0 w' → _ = some (Value.slice Rt r.tags.length rt) := fun w' e => B3.at 6 w' e
 have q7 : ∀ w', Ext W0 w' → _ = some (Value.slice (some ⟨bk, ok, none⟩) r.kids.length rk) := fun w' e => B3.at 7 w' e
 have HB2 := Lib.hid B2; have HS0 := Lib.hid hs0
 clear B1 B2 B3 hs0
 have qk := fun w' (e : Ext W0 w') => hck w' (e0.trans e)
 have gki : (0 : Int) < (r.kids.length : Int) := by omega
 clear hd hb hS HR hk hY hck hkn
 cases O with
 | none =>
  simp only [intRes] at CI
  unfold vdesc
  go_enter Tryz.func52, Tryz.ntmps52
  go_wp2_with fail
  rw [← HW0.out]
  refine wp_region_quiet_below (by kernel_rfl) (by kernel_rfl) ?_
  repeat (go_big_quiet_step ((go_at_call 69; exact Calls.regrown_of (CI.out _ (e0.trans (by first | assumption | exact Ext_regrown _ _ (Ext.refl _)))))))
  refine wpQuiet_nil ?_
  rintro w1 ⟨⟨nq, osq⟩, hq⟩
  have ew1 := ext_of_q hq
  clear hq nq osq
  have hbq := HB2.out.ext ew1
  have f1 := hbq.cell; have f2 := hbq.free
  have hs0' := HS0.out
  have hput := (e0.trans ew1).grown (grown_put3 _ (w.heap.size + 1) 0 t0) (fun g hg => by injection hg with hg; omega)
  have HPUT := Lib.hid hput
  clear hput hs0'
  go_wp2
  exact bodyPost_ret (v := badRes a 1) (by simp [results, Tryz.results52, go_sem, f1, f2, badRes, zeroV]) rfl (RdOut.bad HPUT.out)
 | some n =>
  obtain ⟨hle, hn32⟩ := HLE.out n rfl
  simp only [intRes] at CI
  dsimp only
  by_cases h40 : 40 < n
  ·rw [if_pos h40]
   have hi40 : (40 : Int) < (n : Int) := by omega
   unfold vdesc
   go_enter Tryz.func52, Tryz.ntmps52
   go_wp2_with fail
   rw [← HW0.out]
   refine wp_region_quiet_below (by kernel_rfl) (by kernel_rfl) ?_
   repeat (go_big_quiet_step ((go_at_call 69; exact Calls.regrown_of (CI.out _ (e0.trans (by first | assumption | exact Ext_regrown _ _ (Ext.refl _)))))))
   refine wpQuiet_nil ?_
   rintro w1 ⟨⟨nq, osq⟩, hq⟩
   have ew1 := ext_of_q hq
   clear hq nq osq
   have hbq := HB2.out.ext ew1
   have f1 := hbq.cell; have f2 := hbq.free
   have hs0' := HS0.out
   have hput := (e0.trans ew1).grown (grown_put3 _ (w.heap.size + 1) 0 t0) (fun g hg => by injection hg with hg; omega)
   have HPUT := Lib.hid hput
   clear hput hs0'
   go_wp2
   exact bodyPost_ret (v := badRes a 6) (by simp [results, Tryz.results52, go_sem, f1, f2, badRes, zeroV]) rfl (RdOut.bad HPUT.out)
  ·rw [if_neg h40]
   have hi40 : ¬ (40 : Int) < (n : Int) := by omega
   have CC1 := Lib.hid (fun w' e => CC.out n (a + sz) w' (by omega) hle e)
   clear CC
   generalize itemsF (readV ds b) r 0 n 0 (a + sz) [] = Y at *
   unfold vdesc
   go_enter Tryz.func52, Tryz.ntmps52
   go_wp2_with fail
   rw [← HW0.out]
   refine wp_region_quiet_below (by kernel_rfl) (by kernel_rfl) ?_
   repeat (go_big_quiet_step ((go_at_call 69; exact Calls.regrown_of (CI.out _ (e0.trans (by first | assumption | exact Ext_regrown _ _ (Ext.refl _)))))))
   refine wpQuiet_nil ?_
   rintro w1 ⟨⟨nq, osq⟩, hq⟩
   have ew1 := ext_of_q hq
   clear hq nq osq
   have e01 := e0.trans ew1
   go_wp2_with fail
   refine (CC1.out _ e01).mono ?_; rintro _ w5 ⟨t, A1, n1, c1, A2, n2, c2, rfl, hsh, hgt, he5⟩
   have e05 := ew1.trans he5
   have hw1 := ew1.size
   have hbq := HB2.out.ext e05
   have f1 := hbq.cell; have f2 := hbq.free
   have hs0' := HS0.out
   have hG := val_out3 (w := w) (g := w.heap.size + 1) (by omega) (e0.trans e05) (hgt.out.down (by omega)) (fun u hu g hg => by have := (hgt.out.own.block u hu g hg).1; omega) (.int .i64 Y.v.num) (.slice A1 n1 c1) (.slice A2 n2 c2)
   have HG := Lib.hid hG
   clear hG hs0'
   go_wp2
   exact bodyPost_ret (v := .tuple #[.agg #[.int .i64 Y.v.num, .slice A1 n1 c1, .slice A2 n2 c2], .int .i64 (Y.next : Int), .int .i64 (Y.code : Int)]) (by simp [results, Tryz.results52, go_sem, f1, f2]) rfl ⟨_, by unfold rrVal vval; rw [hsh.out.1, hsh.out.2], HG.out.1, HG.out.2⟩
theorem sRead_all (A : Option Addr) (ds : List DRule) (c : Nat) (hok : descOk ds = true) (Ab : Option Addr) (b : List UInt8) (cb : Nat) : ∀ i, i < ds.length → sReadOk A ds c Ab b cb i := by
 intro i
 induction i using Nat.strongRecOn with
 | ind i ih =>
  intro hi
  have HR : ∀ j, j < i → sReadOk A ds c Ab b cb j := fun j hj => ih j hj (by omega)
  have hk := (ruleFacts hok i hi).kind
  rcases (by omega : ds[i].kind = 1 ∨ ds[i].kind = 2 ∨ ds[i].kind = 3 ∨ ds[i].kind = 4 ∨ ds[i].kind = 5 ∨ ds[i].kind = 6 ∨ ds[i].kind = 7 ∨ ds[i].kind = 8 ∨ ds[i].kind = 9 ∨ ds[i].kind = 10) with h | h | h | h | h | h | h | h | h | h
  ·exact sRead1_c A ds c hok i hi h Ab b cb HR
  ·exact sRead2_c A ds c hok i hi h Ab b cb HR
  ·exact sRead3_c A ds c hok i hi h Ab b cb HR
  ·exact sRead4_c A ds c hok i hi h Ab b cb HR
  ·exact sRead5_c A ds c hok i hi h Ab b cb HR
  ·exact sRead6_c A ds c hok i hi h Ab b cb HR
  ·exact sRead7_c A ds c hok i hi h Ab b cb HR
  ·exact sRead8_c A ds c hok i hi h Ab b cb HR
  ·exact sRead9_c A ds c hok i hi h Ab b cb HR
  ·exact sRead10_c A ds c hok i hi h Ab b cb HR
end Go.Proofs.YtpmcofmdjckijaaGreatDoor
