/- Descriptions that a call made itself. -/
import Derived.Test.YtdbbdoldndnbhaaDoorZHx2
import Derived.StillTail
import Derived.Lib.QuietBelowIn
import Derived.OrdersIn
import Derived.RangeFuncNested
import Derived.RangeFuncBound
import Derived.RangeFuncBox
import Derived.RangeFuncCalls
import Derived.RangeFuncLeaves
import Derived.Shelf.Abstract
import Derived.Shelf.RegionOpen
import Derived.WalkKit
import Derived.OwnWalkIn
import Derived.TacticsInMore
import Derived.LoopNIn
import Derived.LoopIn
import Derived.Maps.AppendAt
import Derived.Sort.BigQuietIn
import Derived.Deep.RegionHeld3
set_option linter.unusedVariables false
set_option linter.unusedSimpArgs false
namespace Go.Proofs.YtdbbdoldndnbhaaDoor
open Go.RowKit Go.Sort

theorem E_rule : Elem Tryd.prog 28 69 8 136 (.agg #[.string ⟨#[]⟩, .int .i64 0, .int .i64 0, .bool false, .slice none 0 0, .slice none 0 0, .slice none 0 0, .slice none 0 0]) := ⟨Tryd.underlying28, by kernel_rfl, rfl, by omega⟩
/-- no two of the values lie in one block -/
def Far (vs : List Value) : Prop := vs.Pairwise fun a b => ∀ g, a.ownBlock = some g → b.ownBlock ≠ some g
/-- a rule and its four slices -/
structure RV where
  r : DRule
  vb : Value
  vn : Value
  vt : Value
  vk : Value
def RV.cells (p : RV) : List Value := [.string p.r.nm, .int .i64 p.r.kind, .int .i64 p.r.size, .bool p.r.little, p.vb, p.vn, p.vt, p.vk]
def RV.vals (p : RV) : List Value := [p.vb, p.vn, p.vt, p.vk]
theorem RV.cells_one (p : RV) (hb : p.vb.oneCell' = true) (hn : p.vn.oneCell' = true) (ht : p.vt.oneCell' = true) (hk : p.vk.oneCell' = true) : ∀ u ∈ p.cells, u.oneCell' = true := by
  intro u hu; simp [RV.cells] at hu; rcases hu with rfl | rfl | rfl | rfl | rfl | rfl | rfl | rfl <;> first | rfl | assumption
structure RuleOwn (w0 w : World) (p : RV) : Prop where
  b : OwnL vu8 5 w0 w p.vb p.r.bytes
  n : OwnL vstr 9 w0 w p.vn p.r.names
  t : OwnL vint 3 w0 w p.vt p.r.tags
  k : OwnL vint 3 w0 w p.vk p.r.kids
theorem Own.keep {e : TypeId} {size : Nat} {w0 w w' : World} {v : Value} {n : Nat} {xs : List Value} (h : Own e size w0 w v n xs) {row : Option Nat} (hg : w.grownBy w' row) (hne : ∀ g, v.ownBlock = some g → row ≠ some g) : Own e size w0 w' v n xs := by
  refine World.ownsRow.kept h hg ?_
  cases hb : v.ownBlock with
  | none => exact .inl rfl
  | some g => right; exact fun he => hne g hb he.symm
theorem OwnL.keep {α : Type} {f : α → Value} {e : TypeId} {w0 w w' : World} {v : Value} {l : List α} (h : OwnL f e w0 w v l) {row : Option Nat} (hg : w.grownBy w' row) (hne : ∀ g, v.ownBlock = some g → row ≠ some g) : OwnL f e w0 w' v l := Own.keep h hg hne
theorem RuleOwn.ext {w0 w w' : World} {p : RV} (h : RuleOwn w0 w p) (e : Ext w w') : RuleOwn w0 w' p := ⟨h.b.ext e, h.n.ext e, h.t.ext e, h.k.ext e⟩
theorem RuleOwn.down {w0 w1 w : World} {p : RV} (h : RuleOwn w1 w p) (e : w0.heap.size ≤ w1.heap.size) : RuleOwn w0 w p := ⟨h.b.down e, h.n.down e, h.t.down e, h.k.down e⟩
theorem RuleOwn.keep {w0 w w' : World} {p : RV} (h : RuleOwn w0 w p) {row : Option Nat} (hg : w.grownBy w' row) (hne : ∀ v ∈ p.vals, ∀ g, v.ownBlock = some g → row ≠ some g) : RuleOwn w0 w' p :=
  ⟨h.b.keep hg (hne _ (by simp [RV.vals])), h.n.keep hg (hne _ (by simp [RV.vals])), h.t.keep hg (hne _ (by simp [RV.vals])), h.k.keep hg (hne _ (by simp [RV.vals]))⟩
/-- the blocks of a rule's slices: laid since w0, there in w -/
theorem RuleOwn.block {w0 w : World} {p : RV} (h : RuleOwn w0 w p) : ∀ v ∈ p.vals, ∀ g, v.ownBlock = some g → w0.heap.size ≤ g ∧ g < w.heap.size := by
  intro v hv
  simp [RV.vals] at hv
  rcases hv with rfl | rfl | rfl | rfl
  · exact fun g hg => World.ownsRow.lt h.b g hg
  · exact fun g hg => World.ownsRow.lt h.n g hg
  · exact fun g hg => World.ownsRow.lt h.t g hg
  · exact fun g hg => World.ownsRow.lt h.k g hg
/-- rules whose lists are short -/
def ShortR (r : DRule) : Prop := r.bytes.length ≤ 140737488351232 ∧ r.names.length ≤ 140737488351232 ∧ r.tags.length ≤ 140737488351232 ∧ r.kids.length ≤ 140737488351232
theorem szRl_short {r : DRule} (h : szRl r ≤ 1048576) : ShortR r ∧ r.bytes.length ≤ 1048576 ∧ r.names.length ≤ 1048576 ∧ r.tags.length ≤ 1048576 ∧ r.kids.length ≤ 1048576 := by
  unfold szRl at h; unfold ShortR; omega
theorem sum_mem {α : Type} (f : α → Nat) : ∀ (l : List α) (x : α), x ∈ l → f x ≤ (l.map f).sum
  | a :: t, x, hx => by
    rw [List.map_cons, List.sum_cons]
    rcases List.mem_cons.1 hx with rfl | h
    · omega
    · have := sum_mem f t x h; omega
theorem szD_mem {ds : List DRule} {n : Nat} (h : szD ds ≤ n) {r : DRule} (hr : r ∈ ds) : szRl r ≤ n := by
  unfold szD at h; have := sum_mem szRl ds r hr; omega
theorem szG_mem {ds : List (List DRule)} {n : Nat} (h : szG ds ≤ n) {r : List DRule} (hr : r ∈ ds) : szD r ≤ n := by
  unfold szG at h; have := sum_mem szD ds r hr; omega
theorem RuleOwn.rd {w0 w : World} {p : RV} (h : RuleOwn w0 w p) (hs : ShortR p.r) : ∃ Ab cb An cn At ct Ak ck, p.vb = .slice Ab p.r.bytes.length cb ∧ p.vn = .slice An p.r.names.length cn ∧ p.vt = .slice At p.r.tags.length ct ∧ p.vk = .slice Ak p.r.kids.length ck ∧ RdS w p.r Ab cb An cn At ct Ak ck := by
  obtain ⟨Ab, cb, h1, r1⟩ := OwnL.rd h.b hs.1
  obtain ⟨An, cn, h2, r2⟩ := OwnL.rd h.n hs.2.1
  obtain ⟨At, ct, h3, r3⟩ := OwnL.rd h.t hs.2.2.1
  obtain ⟨Ak, ck, h4, r4⟩ := OwnL.rd h.k hs.2.2.2
  exact ⟨Ab, cb, An, cn, At, ct, Ak, ck, h1, h2, h3, h4, r1.1, r2.1, r3.1, r4.1⟩
/-- rules that the call since w0 made, each with slices of its own -/
structure OwnD (w0 w : World) (v : Value) (ps : List RV) : Prop where
  row : Own 69 8 w0 w v ps.length (ps.flatMap RV.cells)
  each : ∀ p ∈ ps, RuleOwn w0 w p
  far : Far (v :: ps.flatMap RV.vals)
def rulesOf (ps : List RV) : List DRule := ps.map RV.r
theorem cells_len (ps : List RV) : (ps.flatMap RV.cells).length = ps.length * 8 := by
  induction ps with
  | nil => rfl
  | cons p t ih => rw [List.flatMap_cons, List.length_append, ih, List.length_cons]; simp [RV.cells]; omega
theorem cells_get : ∀ (ps : List RV) (i j : Nat) (h : i < ps.length), j < 8 → (ps.flatMap RV.cells)[i * 8 + j]? = ps[i].cells[j]? := by
  intro ps
  induction ps with
  | nil => intro i j h; simp at h
  | cons p t ih =>
    intro i j h hj
    rw [List.flatMap_cons]
    cases i with
    | zero =>
      rw [List.getElem?_append_left (by simp [RV.cells]; omega)]
      simp
    | succ i =>
      rw [List.getElem?_append_right (by simp [RV.cells]; omega)]
      have : (i + 1) * 8 + j - p.cells.length = i * 8 + j := by simp [RV.cells]; omega
      rw [this, ih i j (by simpa using h) hj]
      simp
theorem OwnD.ext {w0 w w' : World} {v : Value} {ps : List RV} (h : OwnD w0 w v ps) (e : Ext w w') : OwnD w0 w' v ps := ⟨h.row.ext e, fun p hp => (h.each p hp).ext e, h.far⟩
theorem OwnD.down {w0 w1 w : World} {v : Value} {ps : List RV} (h : OwnD w1 w v ps) (e : w0.heap.size ≤ w1.heap.size) : OwnD w0 w v ps := ⟨World.ownsRow.lower h.row e, fun p hp => (h.each p hp).down e, h.far⟩
theorem OwnD.keep {w0 w w' : World} {v : Value} {ps : List RV} (h : OwnD w0 w v ps) {row : Option Nat} (hg : w.grownBy w' row) (hne : ∀ u ∈ v :: ps.flatMap RV.vals, ∀ g, u.ownBlock = some g → row ≠ some g) : OwnD w0 w' v ps :=
  ⟨h.row.keep hg (hne _ (by simp)), fun p hp => (h.each p hp).keep hg (fun u hu => hne u (List.mem_cons_of_mem _ (List.mem_flatMap.2 ⟨p, hp, hu⟩))), h.far⟩
theorem OwnD.shape {w0 w : World} {v : Value} {ps : List RV} (h : OwnD w0 w v ps) : ∃ A c, v = .slice A ps.length c := by
  rcases h.row.2 with ⟨rfl, hn⟩ | ⟨g, cap, _, rfl, _⟩
  · exact ⟨none, 0, by rw [hn]⟩
  · exact ⟨_, _, rfl⟩
theorem OwnD.block {w0 w : World} {v : Value} {ps : List RV} (h : OwnD w0 w v ps) : ∀ u ∈ v :: ps.flatMap RV.vals, ∀ g, u.ownBlock = some g → w0.heap.size ≤ g ∧ g < w.heap.size := by
  intro u hu
  rcases List.mem_cons.1 hu with rfl | hu
  · exact fun g hg => World.ownsRow.lt h.row g hg
  · obtain ⟨p, hp, hu⟩ := List.mem_flatMap.1 hu
    exact (h.each p hp).block u hu
theorem heap_row {w : World} {g : Nat} {cur : Array Value} {T : TypeId} (hg : w.heap[g]? = some (.cells cur T (0, 0))) {w' : World} (e : Ext w w') (i : Nat) : w'.cell? ⟨g, i, none⟩ = cur[i]? :=
  cell_of_row w' g i cur T (0, 0) ((Below.block e g (Array.getElem?_eq_some_iff.1 hg).1).trans hg)
theorem OwnD.rd {w0 w : World} {v : Value} {ps : List RV} (h : OwnD w0 w v ps) (hl : ps.length ≤ 9223372036854775807) (hs : ∀ p ∈ ps, ShortR p.r) : ∃ A c, v = .slice A (rulesOf ps).length c ∧ RdD w A (rulesOf ps) c := by
  have hlen : (rulesOf ps).length = ps.length := by simp [rulesOf]
  rcases h.row.2 with ⟨rfl, h0⟩ | ⟨g, cap, cur, rfl, hb, hg, hnc, hcm, hcs, htake⟩
  · exact ⟨none, 0, by rw [hlen, h0], by omega, by omega, fun hp => by omega⟩
  · refine ⟨_, _, by rw [hlen], by omega, by omega, fun hp => ⟨g, 0, rfl, (Array.getElem?_eq_some_iff.1 hg).1, fun i hi => ?_⟩⟩
    have hi' : i < ps.length := by omega
    have hr : (rulesOf ps)[i] = ps[i].r := by simp [rulesOf]
    have hc : ∀ (w' : World), Ext w w' → ∀ j, j < 8 → w'.cell? ⟨g, i * 8 + j, none⟩ = ps[i].cells[j]? := by
      intro w' e j hj
      rw [heap_row hg e, ← cells_get ps i j hi' hj, ← htake, List.getElem?_take, if_pos (by omega)]
      simp
    obtain ⟨Ab, cb, An, cn, At, ct, Ak, ck, e1, e2, e3, e4, hS⟩ := (h.each _ (List.getElem_mem hi')).rd (hs _ (List.getElem_mem hi'))
    rw [hr]
    refine ⟨Ab, cb, An, cn, At, ct, Ak, ck, hS, ?_⟩
    rw [← e1, ← e2, ← e3, ← e4, Nat.zero_add]
    exact ⟨fun w' e => by have := hc w' e 0 (by omega); simpa [RV.cells] using this, fun w' e => by have := hc w' e 1 (by omega); simpa [RV.cells] using this, fun w' e => by have := hc w' e 2 (by omega); simpa [RV.cells] using this, fun w' e => by have := hc w' e 3 (by omega); simpa [RV.cells] using this,
      fun w' e => by have := hc w' e 4 (by omega); simpa [RV.cells] using this, fun w' e => by have := hc w' e 5 (by omega); simpa [RV.cells] using this, fun w' e => by have := hc w' e 6 (by omega); simpa [RV.cells] using this, fun w' e => by have := hc w' e 7 (by omega); simpa [RV.cells] using this⟩
/-- eight cells are laid into a row -/
theorem set8 (xs : List Value) (p : RV) (rest : List Value) (hr : 8 ≤ rest.length) (k : Nat) (hk : xs.length = k) :
    ((((((((xs ++ rest).set k (.string p.r.nm)).set (k + 1) (.int .i64 p.r.kind)).set (k + 2) (.int .i64 p.r.size)).set (k + 3) (.bool p.r.little)).set (k + 4) p.vb).set (k + 5) p.vn).set (k + 6) p.vt).set (k + 7) p.vk = (xs ++ p.cells) ++ rest.drop 8 := by
  match rest, hr with
  | a0 :: a1 :: a2 :: a3 :: a4 :: a5 :: a6 :: a7 :: t, _ =>
    subst hk
    rw [List.set_append_right _ _ (by omega), List.set_append_right _ _ (by omega), List.set_append_right _ _ (by omega), List.set_append_right _ _ (by omega), List.set_append_right _ _ (by omega), List.set_append_right _ _ (by omega), List.set_append_right _ _ (by omega), List.set_append_right _ _ (by omega)]
    rw [show xs.length - xs.length = 0 by omega, show xs.length + 1 - xs.length = 1 by omega, show xs.length + 2 - xs.length = 2 by omega, show xs.length + 3 - xs.length = 3 by omega, show xs.length + 4 - xs.length = 4 by omega, show xs.length + 5 - xs.length = 5 by omega, show xs.length + 6 - xs.length = 6 by omega, show xs.length + 7 - xs.length = 7 by omega]
    simp [RV.cells]
/-- the world behind eight stores -/
def put8 (w : World) (g k : Nat) (p : RV) : World :=
  (((((((w.setCell ⟨g, k, none⟩ (.string p.r.nm)).setCell ⟨g, k + 1, none⟩ (.int .i64 p.r.kind)).setCell ⟨g, k + 2, none⟩ (.int .i64 p.r.size)).setCell ⟨g, k + 3, none⟩ (.bool p.r.little)).setCell ⟨g, k + 4, none⟩ p.vb).setCell ⟨g, k + 5, none⟩ p.vn).setCell ⟨g, k + 6, none⟩ p.vt).setCell ⟨g, k + 7, none⟩ p.vk
theorem grown_put8 (w : World) (g k : Nat) (p : RV) : w.grownBy (put8 w g k p) (some g) := by
  unfold put8
  exact ((((((((grown_set w ⟨g, k, none⟩ _).trans (grown_set _ ⟨g, k + 1, none⟩ _)).trans (grown_set _ ⟨g, k + 2, none⟩ _)).trans (grown_set _ ⟨g, k + 3, none⟩ _)).trans (grown_set _ ⟨g, k + 4, none⟩ _)).trans (grown_set _ ⟨g, k + 5, none⟩ _)).trans (grown_set _ ⟨g, k + 6, none⟩ _)).trans (grown_set _ ⟨g, k + 7, none⟩ _))
theorem Own.put8 {e : TypeId} {w0 w : World} {g n cap : Nat} {xs rest : List Value} (h : Own e 8 w0 w (.slice (some ⟨g, 0, none⟩) n cap) n (xs ++ rest)) (he : Ext w0 w) (p : RV) (hr : 8 ≤ rest.length) (k : Nat) (hk : xs.length = k) :
    Own e 8 w0 (put8 w g k p) (.slice (some ⟨g, 0, none⟩) n cap) n ((xs ++ p.cells) ++ rest.drop 8) ∧ Ext w0 (put8 w g k p) := by
  rw [← set8 xs p rest hr k hk]
  obtain ⟨h0, e0⟩ := h.store he k (.string p.r.nm)
  obtain ⟨h1, e1⟩ := Own.store h0 e0 (k + 1) (.int .i64 p.r.kind)
  obtain ⟨h2, e2⟩ := Own.store h1 e1 (k + 2) (.int .i64 p.r.size)
  obtain ⟨h3, e3⟩ := Own.store h2 e2 (k + 3) (.bool p.r.little)
  obtain ⟨h4, e4⟩ := Own.store h3 e3 (k + 4) p.vb
  obtain ⟨h5, e5⟩ := Own.store h4 e4 (k + 5) p.vn
  obtain ⟨h6, e6⟩ := Own.store h5 e5 (k + 6) p.vt
  obtain ⟨h7, e7⟩ := Own.store h6 e6 (k + 7) p.vk
  exact ⟨h7, e7⟩
theorem Far.append {a b : List Value} (ha : Far a) (hb : Far b) (h : ∀ u ∈ a, ∀ v ∈ b, ∀ g, u.ownBlock = some g → v.ownBlock ≠ some g) : Far (a ++ b) := List.pairwise_append.2 ⟨ha, hb, h⟩
theorem Far.cons {u : Value} {b : List Value} (hb : Far b) (h : ∀ v ∈ b, ∀ g, u.ownBlock = some g → v.ownBlock ≠ some g) : Far (u :: b) := List.pairwise_cons.2 ⟨h, hb⟩
theorem Far.nil : Far [] := List.Pairwise.nil
theorem Far.one (v : Value) : Far [v] := List.pairwise_singleton _ v
/-- descriptions that the call since w0 made: a slice's value and its rules, each -/
structure OwnG (w0 w : World) (v : Value) (qs : List (Value × List RV)) : Prop where
  row : Own 30 1 w0 w v qs.length (qs.map Prod.fst)
  each : ∀ q ∈ qs, OwnD w0 w q.1 q.2
  far : Far (v :: qs.flatMap fun q => q.1 :: q.2.flatMap RV.vals)
def descsOf (qs : List (Value × List RV)) : List (List DRule) := qs.map fun q => rulesOf q.2
theorem OwnG.ext {w0 w w' : World} {v : Value} {qs : List (Value × List RV)} (h : OwnG w0 w v qs) (e : Ext w w') : OwnG w0 w' v qs := ⟨h.row.ext e, fun p hp => (h.each p hp).ext e, h.far⟩
theorem OwnG.down {w0 w1 w : World} {v : Value} {qs : List (Value × List RV)} (h : OwnG w1 w v qs) (e : w0.heap.size ≤ w1.heap.size) : OwnG w0 w v qs := ⟨World.ownsRow.lower h.row e, fun p hp => (h.each p hp).down e, h.far⟩
theorem OwnG.shape {w0 w : World} {v : Value} {qs : List (Value × List RV)} (h : OwnG w0 w v qs) : ∃ A c, v = .slice A qs.length c := by
  rcases h.row.2 with ⟨rfl, hn⟩ | ⟨g, cap, _, rfl, _⟩
  · exact ⟨none, 0, by rw [hn]⟩
  · exact ⟨_, _, rfl⟩
theorem OwnG.block {w0 w : World} {v : Value} {qs : List (Value × List RV)} (h : OwnG w0 w v qs) : ∀ u ∈ v :: (qs.flatMap fun q => q.1 :: q.2.flatMap RV.vals), ∀ g, u.ownBlock = some g → w0.heap.size ≤ g ∧ g < w.heap.size := by
  intro u hu
  rcases List.mem_cons.1 hu with rfl | hu
  · exact fun g hg => World.ownsRow.lt h.row g hg
  · obtain ⟨p, hp, hu⟩ := List.mem_flatMap.1 hu
    exact (h.each p hp).block u hu
theorem OwnG.keep {w0 w w' : World} {v : Value} {qs : List (Value × List RV)} (h : OwnG w0 w v qs) {row : Option Nat} (hg : w.grownBy w' row) (hne : ∀ u ∈ v :: (qs.flatMap fun q => q.1 :: q.2.flatMap RV.vals), ∀ g, u.ownBlock = some g → row ≠ some g) : OwnG w0 w' v qs :=
  ⟨h.row.keep hg (hne _ (by simp)), fun p hp => (h.each p hp).keep hg (fun u hu => hne u (List.mem_cons_of_mem _ (List.mem_flatMap.2 ⟨p, hp, hu⟩))), h.far⟩
theorem OwnG.rd {w0 w : World} {v : Value} {qs : List (Value × List RV)} (h : OwnG w0 w v qs) (hl : qs.length ≤ 9223372036854775807) (hl2 : ∀ q ∈ qs, q.2.length ≤ 9223372036854775807) (hs : ∀ q ∈ qs, ∀ p ∈ q.2, ShortR p.r) : ∃ A c, v = .slice A (descsOf qs).length c ∧ RdG w A (descsOf qs) c := by
  have hlen : (descsOf qs).length = qs.length := by simp [descsOf]
  rcases h.row.2 with ⟨rfl, h0⟩ | ⟨g, cap, cur, rfl, hb, hg, hnc, hcm, hcs, htake⟩
  · exact ⟨none, 0, by rw [hlen, h0], by omega, by omega, fun hp => by omega⟩
  · refine ⟨_, _, by rw [hlen], by omega, by omega, fun hp => ⟨g, 0, rfl, (Array.getElem?_eq_some_iff.1 hg).1, fun i hi => ?_⟩⟩
    have hi' : i < qs.length := by omega
    have hr : (descsOf qs)[i] = rulesOf qs[i].2 := by simp [descsOf]
    rw [hr]
    obtain ⟨A', c', hv, hR⟩ := (h.each _ (List.getElem_mem hi')).rd (hl2 _ (List.getElem_mem hi')) (hs _ (List.getElem_mem hi'))
    refine ⟨A', c', hR, fun w' e => ?_⟩
    rw [heap_row hg e, ← hv, Nat.zero_add]
    have h2 : (cur.toList.take (qs.length * 1))[i]? = (qs.map Prod.fst)[i]? := by rw [htake]
    rw [List.getElem?_take, if_pos (by omega)] at h2
    simpa [hi'] using h2
end Go.Proofs.YtdbbdoldndnbhaaDoor

/- Parts of the test of a description: names in lists, limits, fields. -/
namespace Go.Proofs.YtdbbdoldndnbhaaDoor
open Go.RowKit Go.Sort

set_option maxHeartbeats 400000 in
theorem sContains_c (A : Option Addr) (l : List ByteArray) (c : Nat) (s : ByteArray) (w : World) (h : Rd0 vstr w A l c) :
    Gives Tryd.prog 129 #[.slice A l.length c, .string s] w (.bool (hasNm l s)) := by
  have hl := h.len
  go_enter Tryd.func129, Tryd.ntmps129
  go_wp2
  go_loopw [5] (fun i wr => ∃ k : Nat, k ≤ l.length ∧ i = .int .i64 k ∧ Hid (∀ j (hj : j < l.length), j < k → (l[j].toList == s.toList) = false) ∧ Ext w wr) (fun i _ => l.length - (intOf i).toNat)
  case atStart => exact ⟨0, by omega, rfl, (fun j _ hj => by omega), Ext.refl _⟩
  case round =>
    obtain ⟨k, hk, rfl, ht, he⟩ := hrel
    by_cases hlt : k < l.length
    · obtain ⟨b, off, rfl, hb, hc⟩ := h.at k hlt
      have YES : Hid ((l[k].toList == s.toList) = true → hasNm l s = true) := hasNm_at hlt
      have NO : Hid ((l[k].toList == s.toList) = false → ∀ j (hj : j < l.length), j < k + 1 → (l[j].toList == s.toList) = false) := by
        intro hy j hj hjk
        rcases (by omega : j < k ∨ j = k) with hjk | rfl
        · exact ht.out j hj hjk
        · exact hy
      clear h
      generalize l[k] = x at *
      cases hq : (x.toList == s.toList)
      · have NO' := Lib.hid (NO.out hq)
        go_wp2
        go_roundw
        case rel => exact ⟨k+1, by omega, by go_num, NO'.out, he⟩
        case measure => simp [intOf]; omega
      · have YES' := Lib.hid (YES.out hq)
        go_wp2
        go_ret
        exact ⟨ret_bool YES'.out.symm, he⟩
    · have HE : Hid (hasNm l s = false) := hasNm_none (fun j hj => ht.out j hj (by omega))
      go_wp2
      go_ret
      exact ⟨ret_bool HE.out.symm, he⟩
set_option maxHeartbeats 400000 in
theorem iContains_c (A : Option Addr) (l : List ByteArray) (c : Nat) (s : ByteArray) (w : World) (h : Rd0 vstr w A l c) :
    Gives Tryd.prog 130 #[.slice A l.length c, .string s] w (.bool (hasNm l s)) := by
  have hl := h.len
  go_enter Tryd.func130, Tryd.ntmps130
  go_wp2
  go_loopw [9] (fun i wr => ∃ k : Nat, k ≤ l.length ∧ i = .int .i64 k ∧ Hid (∀ j (hj : j < l.length), j < k → (l[j].toList == s.toList) = false) ∧ Ext w wr) (fun i _ => l.length - (intOf i).toNat)
  case atStart => exact ⟨0, by omega, rfl, (fun j _ hj => by omega), Ext.refl _⟩
  case round =>
    obtain ⟨k, hk, rfl, ht, he⟩ := hrel
    by_cases hlt : k < l.length
    · obtain ⟨b, off, rfl, hb, hc⟩ := h.at k hlt
      have YES : Hid ((l[k].toList == s.toList) = true → hasNm l s = true) := hasNm_at hlt
      have NO : Hid ((l[k].toList == s.toList) = false → ∀ j (hj : j < l.length), j < k + 1 → (l[j].toList == s.toList) = false) := by
        intro hy j hj hjk
        rcases (by omega : j < k ∨ j = k) with hjk | rfl
        · exact ht.out j hj hjk
        · exact hy
      clear h
      generalize l[k] = x at *
      cases hq : (x.toList == s.toList)
      · have NO' := Lib.hid (NO.out hq)
        go_wp2
        go_roundw
        case rel => exact ⟨k+1, by omega, by go_num, NO'.out, he⟩
        case measure => simp [intOf]; omega
      · have YES' := Lib.hid (YES.out hq)
        go_wp2
        go_ret
        exact ⟨ret_bool YES'.out.symm, he⟩
    · have HE : Hid (hasNm l s = false) := hasNm_none (fun j hj => ht.out j hj (by omega))
      go_wp2
      go_ret
      exact ⟨ret_bool HE.out.symm, he⟩
set_option maxHeartbeats 400000 in
theorem hasRule_c (A : Option Addr) (n c : Nat) (i : Int) (w : World) (hn : n ≤ 9223372036854775807) :
    Gives Tryd.prog 57 #[vdesc (.slice A n c), .int .i64 i] w (.bool (decide (0 ≤ i) && decide (i < n))) := by
  unfold vdesc
  by_cases h0 : 0 ≤ i
  · by_cases h1 : i < n
    all_goals
      go_enter Tryd.func57, Tryd.ntmps57
      go_wp2
      go_ret
      exact ⟨ret_bool (by simp [*]), Ext_alloc _ (Ext.refl w)⟩
  · go_enter Tryd.func57, Tryd.ntmps57
    go_wp2
    go_ret
    exact ⟨ret_bool (by simp; omega), Ext_alloc _ (Ext.refl w)⟩
end Go.Proofs.YtdbbdoldndnbhaaDoor

/- The laws' copies of descriptions and registries. -/
namespace Go.Proofs.YtdbbdoldndnbhaaDoor
open Go.RowKit Go.Sort

theorem E_str : Elem Tryd.prog 26 9 1 16 (.string ⟨#[]⟩) := ⟨Tryd.underlying26, by kernel_rfl, rfl, by omega⟩
set_option maxHeartbeats 400000 in
theorem toStringS_c (A : Option Addr) (l : List ByteArray) (c : Nat) (w : World) (h : Rd0 vstr w A l c) (hL : l.length ≤ 1048576) :
    Calls Tryd.prog 98 #[.slice A l.length c] w fun e w' => ∃ v, e = .returned v ∧ OwnL vstr 9 w w' v l ∧ Ext w w' := by
  go_enter Tryd.func98, Tryd.ntmps98
  go_wp2_with (first
    | (at_make; refine wpList_mk rfl _ _ _ rfl E_str w w (Ext.refl w) l.length rfl rfl (by omega) (by simp [maxLen]; omega) ?_; intro w1 ho he _))
  go_loopw [4] (fun i wr => ∃ k : Nat, k ≤ l.length ∧ i = .int .i64 k ∧ Own 9 1 w wr (.slice (some ⟨w.heap.size, 0, none⟩) l.length l.length) l.length ((l.take k).map vstr ++ List.replicate (l.length - k) (.string ⟨#[]⟩)) ∧ Ext w wr) (fun i _ => l.length - (intOf i).toNat)
  case atStart => exact ⟨0, by omega, rfl, by rw [made_one _ rfl] at ho; simpa using ho, he⟩
  case round =>
    clear ho he
    obtain ⟨k, hk, rfl, ho, he⟩ := hrel
    by_cases hlt : k < l.length
    · obtain ⟨b, off, rfl, hb, hc⟩ := h.at k hlt
      obtain ⟨⟨u0, hu⟩, hf⟩ := ho.slot k (by simp; omega)
      obtain ⟨ho', he'⟩ := ho.store he k (vstr l[k])
      rw [fill_step vstr l _ k hlt] at ho'
      clear h ho
      go_wp2
      go_roundw
      case rel => exact ⟨k+1, by omega, by go_num, ho', he'⟩
      case measure => simp [intOf]; omega
    · obtain rfl : k = l.length := by omega
      go_wp2
      go_ret
      exact ⟨_, rfl, by simpa [OwnL] using ho, he⟩
set_option maxRecDepth 100000 in
set_option maxHeartbeats 4000000 in
theorem toRule_c (r : DRule) (Ab : Option Addr) (cb : Nat) (An : Option Addr) (cn : Nat) (At : Option Addr) (ct : Nat) (Ak : Option Addr) (ck : Nat) (w : World) (h : RdS w r Ab cb An cn At ct Ak ck) (hz : szRl r ≤ 1048576) :
    Calls Tryd.prog 76 #[vrule r (.slice Ab r.bytes.length cb) (.slice An r.names.length cn) (.slice At r.tags.length ct) (.slice Ak r.kids.length ck)] w fun e w' => ∃ vb vn vt vk, e = .returned (vrule r vb vn vt vk) ∧ RuleOwn w w' ⟨r, vb, vn, vt, vk⟩ ∧ Far [vb, vn, vt, vk] ∧ Ext w w' := by
  obtain ⟨hb, hn, ht, hk⟩ := h
  obtain ⟨⟨s1, s2, s3, s4⟩, z1, z2, z3, z4⟩ := szRl_short hz
  have C1 := Lib.hid (fun w h => toByteS_c Ab r.bytes cb w h z1)
  have C2 := Lib.hid (fun w h => toStringS_c An r.names cn w h z2)
  have C3 := Lib.hid (fun w h => toIntS_c At r.tags ct w h z3)
  have C4 := Lib.hid (fun w h => toIntS_c Ak r.kids ck w h z4)
  obtain ⟨nm, kind, size, little, bytes, names, tags, kids⟩ := r
  dsimp only at *
  obtain ⟨W0, HW0, HA, HR, HO, eA, hsA⟩ := boxes3' w #[.string nm, .int .i64 kind, .int .i64 size, .bool little, .slice Ab bytes.length cb, .slice An names.length cn, .slice At tags.length ct, .slice Ak kids.length ck] #[.string ⟨#[]⟩, .int .i64 0, .int .i64 0, .bool false, .slice none 0 0, .slice none 0 0, .slice none 0 0, .slice none 0 0] #[.string nm, .int .i64 kind, .int .i64 size, .bool little, .slice none 0 0, .slice none 0 0, .slice none 0 0, .slice none 0 0] 90 69 69
  have HSA := Lib.hid hsA; clear hsA
  have HA0 := Lib.hid HA; have HR0 := Lib.hid HR; have HO0 := Lib.hid HO; clear HA HR HO
  unfold vrule
  dsimp only
  go_enter Tryd.func76, Tryd.ntmps76
  go_wp2_with fail
  rw [← HW0.out]
  refine (C1.out _ (hb.ext eA)).mono ?_; rintro _ w1 ⟨v1, rfl, ho1, he1⟩
  obtain ⟨A1, c1, rfl, _⟩ := OwnL.rd ho1 s1
  have a1 := (HA0.out.ext he1).cell; have p1 := (HO0.out.ext he1).cell; have q1 := (HO0.out.ext he1).free
  have f1 : (Value.slice A1 bytes.length c1).ownBlock ≠ some (w.heap.size + 1 + 1) := OwnL.far ho1 (.inl (by have := HO0.out.lt; omega))
  have g1 : ∀ g, (Value.slice A1 bytes.length c1).ownBlock = some g → W0.heap.size ≤ g ∧ g < w1.heap.size := fun g hg => World.ownsRow.lt ho1 g hg
  have G1 := Lib.hid g1; have F1 := Lib.hid f1; have S1 := Lib.hid (by simp : w1.heap.size ≤ (w1.setCell ⟨w.heap.size + 1 + 1, 4, none⟩ (.slice A1 bytes.length c1)).heap.size); have T1 := Lib.hid he1.size
  have O11 := Lib.hid (OwnL.other ho1 ⟨w.heap.size + 1 + 1, 4, none⟩ (.slice A1 bytes.length c1) f1)
  have HA1 := Lib.hid ((HA0.out.ext he1).other (g' := w.heap.size + 1 + 1) (by omega) 4 (.slice A1 bytes.length c1)); have HR1 := Lib.hid ((HR0.out.ext he1).other (g' := w.heap.size + 1 + 1) (by omega) 4 (.slice A1 bytes.length c1)); have HO1 := Lib.hid ((HO0.out.ext he1).set 4 (.slice A1 bytes.length c1))
  have e1 := (eA.trans he1).setCell (p := ⟨w.heap.size + 1 + 1, 4, none⟩) (by show w.heap.size ≤ w.heap.size + 1 + 1; omega) (.slice A1 bytes.length c1)
  clear ho1 f1 g1 HA0 HR0 HO0 he1 eA
  go_wp2_with fail
  generalize w1.setCell ⟨w.heap.size + 1 + 1, 4, none⟩ (.slice A1 bytes.length c1) = W1 at *
  clear a1 p1 q1
  refine (C2.out _ (hn.ext e1)).mono ?_; rintro _ w2 ⟨v2, rfl, ho2, he2⟩
  obtain ⟨A2, c2, rfl, _⟩ := OwnL.rd ho2 s2
  have a2 := (HA1.out.ext he2).cell; have p2 := (HO1.out.ext he2).cell; have q2 := (HO1.out.ext he2).free
  have f2 : (Value.slice A2 names.length c2).ownBlock ≠ some (w.heap.size + 1 + 1) := OwnL.far ho2 (.inl (by have := HO1.out.lt; omega))
  have g2 : ∀ g, (Value.slice A2 names.length c2).ownBlock = some g → W1.heap.size ≤ g ∧ g < w2.heap.size := fun g hg => World.ownsRow.lt ho2 g hg
  have G2 := Lib.hid g2; have F2 := Lib.hid f2; have S2 := Lib.hid (by simp : w2.heap.size ≤ (w2.setCell ⟨w.heap.size + 1 + 1, 5, none⟩ (.slice A2 names.length c2)).heap.size); have T2 := Lib.hid he2.size
  have O22 := Lib.hid (OwnL.other ho2 ⟨w.heap.size + 1 + 1, 5, none⟩ (.slice A2 names.length c2) f2)
  have O12 := Lib.hid (OwnL.other (O11.out.ext he2) ⟨w.heap.size + 1 + 1, 5, none⟩ (.slice A2 names.length c2) F1.out)
  have HA2 := Lib.hid ((HA1.out.ext he2).other (g' := w.heap.size + 1 + 1) (by omega) 5 (.slice A2 names.length c2)); have HR2 := Lib.hid ((HR1.out.ext he2).other (g' := w.heap.size + 1 + 1) (by omega) 5 (.slice A2 names.length c2)); have HO2 := Lib.hid ((HO1.out.ext he2).set 5 (.slice A2 names.length c2))
  have e2 := (e1.trans he2).setCell (p := ⟨w.heap.size + 1 + 1, 5, none⟩) (by show w.heap.size ≤ w.heap.size + 1 + 1; omega) (.slice A2 names.length c2)
  clear ho2 f2 g2 HA1 HR1 HO1 he2 e1 O11
  go_wp2_with fail
  generalize w2.setCell ⟨w.heap.size + 1 + 1, 5, none⟩ (.slice A2 names.length c2) = W2 at *
  clear a2 p2 q2
  refine (C3.out _ (ht.ext e2)).mono ?_; rintro _ w3 ⟨v3, rfl, ho3, he3⟩
  obtain ⟨A3, c3, rfl, _⟩ := OwnL.rd ho3 s3
  have a3 := (HA2.out.ext he3).cell; have p3 := (HO2.out.ext he3).cell; have q3 := (HO2.out.ext he3).free
  have f3 : (Value.slice A3 tags.length c3).ownBlock ≠ some (w.heap.size + 1 + 1) := OwnL.far ho3 (.inl (by have := HO2.out.lt; omega))
  have g3 : ∀ g, (Value.slice A3 tags.length c3).ownBlock = some g → W2.heap.size ≤ g ∧ g < w3.heap.size := fun g hg => World.ownsRow.lt ho3 g hg
  have G3 := Lib.hid g3; have F3 := Lib.hid f3; have S3 := Lib.hid (by simp : w3.heap.size ≤ (w3.setCell ⟨w.heap.size + 1 + 1, 6, none⟩ (.slice A3 tags.length c3)).heap.size); have T3 := Lib.hid he3.size
  have O33 := Lib.hid (OwnL.other ho3 ⟨w.heap.size + 1 + 1, 6, none⟩ (.slice A3 tags.length c3) f3)
  have O13 := Lib.hid (OwnL.other (O12.out.ext he3) ⟨w.heap.size + 1 + 1, 6, none⟩ (.slice A3 tags.length c3) F1.out)
  have O23 := Lib.hid (OwnL.other (O22.out.ext he3) ⟨w.heap.size + 1 + 1, 6, none⟩ (.slice A3 tags.length c3) F2.out)
  have HA3 := Lib.hid ((HA2.out.ext he3).other (g' := w.heap.size + 1 + 1) (by omega) 6 (.slice A3 tags.length c3)); have HR3 := Lib.hid ((HR2.out.ext he3).other (g' := w.heap.size + 1 + 1) (by omega) 6 (.slice A3 tags.length c3)); have HO3 := Lib.hid ((HO2.out.ext he3).set 6 (.slice A3 tags.length c3))
  have e3 := (e2.trans he3).setCell (p := ⟨w.heap.size + 1 + 1, 6, none⟩) (by show w.heap.size ≤ w.heap.size + 1 + 1; omega) (.slice A3 tags.length c3)
  clear ho3 f3 g3 HA2 HR2 HO2 he3 e2 O12 O22
  go_wp2_with fail
  generalize w3.setCell ⟨w.heap.size + 1 + 1, 6, none⟩ (.slice A3 tags.length c3) = W3 at *
  clear a3 p3 q3
  refine (C4.out _ (hk.ext e3)).mono ?_; rintro _ w4 ⟨v4, rfl, ho4, he4⟩
  obtain ⟨A4, c4, rfl, _⟩ := OwnL.rd ho4 s4
  have a4 := (HA3.out.ext he4).cell; have p4 := (HO3.out.ext he4).cell; have q4 := (HO3.out.ext he4).free
  have r4 := (HR3.out.ext he4).cell; have t4 := (HR3.out.ext he4).free
  have f4 : (Value.slice A4 kids.length c4).ownBlock ≠ some (w.heap.size + 1 + 1) := OwnL.far ho4 (.inl (by have := HO3.out.lt; omega))
  have g4 : ∀ g, (Value.slice A4 kids.length c4).ownBlock = some g → W3.heap.size ≤ g ∧ g < w4.heap.size := fun g hg => World.ownsRow.lt ho4 g hg
  have G4 := Lib.hid g4; have F4 := Lib.hid f4; have S4 := Lib.hid (by simp : w4.heap.size ≤ (w4.setCell ⟨w.heap.size + 1 + 1, 7, none⟩ (.slice A4 kids.length c4)).heap.size); have T4 := Lib.hid he4.size
  have O44 := Lib.hid (OwnL.other ho4 ⟨w.heap.size + 1 + 1, 7, none⟩ (.slice A4 kids.length c4) f4)
  have O14 := Lib.hid (OwnL.other (O13.out.ext he4) ⟨w.heap.size + 1 + 1, 7, none⟩ (.slice A4 kids.length c4) F1.out)
  have O24 := Lib.hid (OwnL.other (O23.out.ext he4) ⟨w.heap.size + 1 + 1, 7, none⟩ (.slice A4 kids.length c4) F2.out)
  have O34 := Lib.hid (OwnL.other (O33.out.ext he4) ⟨w.heap.size + 1 + 1, 7, none⟩ (.slice A4 kids.length c4) F3.out)
  have HA4 := Lib.hid ((HA3.out.ext he4).other (g' := w.heap.size + 1 + 1) (by omega) 7 (.slice A4 kids.length c4)); have HR4 := Lib.hid ((HR3.out.ext he4).other (g' := w.heap.size + 1 + 1) (by omega) 7 (.slice A4 kids.length c4)); have HO4 := Lib.hid ((HO3.out.ext he4).set 7 (.slice A4 kids.length c4))
  have e4 := (e3.trans he4).setCell (p := ⟨w.heap.size + 1 + 1, 7, none⟩) (by show w.heap.size ≤ w.heap.size + 1 + 1; omega) (.slice A4 kids.length c4)
  clear ho4 f4 g4 HA3 HR3 HO3 he4 e3 O13 O23 O33
  go_wp2
  have z0 := HSA.out
  have S1 := S1.out; have S2 := S2.out; have S3 := S3.out; have S4 := S4.out; have T1 := T1.out; have T2 := T2.out; have T3 := T3.out; have T4 := T4.out
  have G := grown_put8 (w4.setCell ⟨w.heap.size + 1 + 1, 7, none⟩ (.slice A4 kids.length c4)) (w.heap.size + 1) 0 ⟨⟨nm, kind, size, little, bytes, names, tags, kids⟩, .slice A1 bytes.length c1, .slice A2 names.length c2, .slice A3 tags.length c3, .slice A4 kids.length c4⟩
  refine bodyPost_ret (v := .agg #[.string nm, .int .i64 kind, .int .i64 size, .bool little, .slice A1 bytes.length c1, .slice A2 names.length c2, .slice A3 tags.length c3, .slice A4 kids.length c4]) (by simp [results, Tryd.results76, go_sem, a4, p4, q4, r4, t4]) rfl ⟨_, _, _, _, rfl, ⟨?_, ?_, ?_, ?_⟩, ?_, ?_⟩
  · exact (OwnL.keep O14.out G (fun g hg he => by have := G1.out g hg; injection he with he; omega)).down (by omega)
  · exact (OwnL.keep O24.out G (fun g hg he => by have := G2.out g hg; injection he with he; omega)).down (by omega)
  · exact (OwnL.keep O34.out G (fun g hg he => by have := G3.out g hg; injection he with he; omega)).down (by omega)
  · exact (OwnL.keep O44.out G (fun g hg he => by have := G4.out g hg; injection he with he; omega)).down (by omega)
  · refine Far.cons (Far.cons (Far.cons (Far.one _) ?_) ?_) ?_
    · intro v hv g h1 h2
      have := G3.out g h1
      simp only [List.mem_cons, List.not_mem_nil, or_false] at hv
      rcases hv with rfl
      have := G4.out g h2; omega
    · intro v hv g h1 h2
      have := G2.out g h1
      simp only [List.mem_cons, List.not_mem_nil, or_false] at hv
      rcases hv with rfl | rfl
      · have := G3.out g h2; omega
      · have := G4.out g h2; omega
    · intro v hv g h1 h2
      have := G1.out g h1
      simp only [List.mem_cons, List.not_mem_nil, or_false] at hv
      rcases hv with rfl | rfl | rfl
      · have := G2.out g h2; omega
      · have := G3.out g h2; omega
      · have := G4.out g h2; omega
  · exact e4.grown G (fun g hg => by injection hg with hg; omega)
theorem rulesOf_append (a b : List RV) : rulesOf (a ++ b) = rulesOf a ++ rulesOf b := by simp [rulesOf]
theorem own_grown {e : TypeId} {size : Nat} {w0 w w' : World} {v : Value} {n : Nat} {xs : List Value} (h : Own e size w0 w v n xs) {g : Nat} (hg : w.grownBy w' (some g)) (hne : ∀ k, v.ownBlock = some k → k ≠ g) : Own e size w0 w' v n xs :=
  h.keep hg (fun k hk he => by injection he with he; exact hne k hk he.symm)
set_option maxRecDepth 100000 in
set_option maxHeartbeats 4000000 in
theorem toRuleS_c (A : Option Addr) (ds : List DRule) (c : Nat) (w : World) (h : RdD w A ds c) (hz : szD ds ≤ 1048576) :
    Calls Tryd.prog 46 #[.slice A ds.length c] w fun e w' => ∃ v ps, e = .returned v ∧ rulesOf ps = ds ∧ OwnD w w' v ps ∧ Ext w w' := by
  have hn : ds.length ≤ 1048576 := by unfold szD at hz; omega
  have HZ : Hid (∀ k (hk : k < ds.length), szRl ds[k] ≤ 1048576) := fun k hk => szD_mem hz (List.getElem_mem hk)
  go_enter Tryd.func46, Tryd.ntmps46
  go_wp2_with (first
    | (at_make; refine wpList_mk rfl _ _ _ rfl E_rule w w (Ext.refl w) ds.length rfl rfl (by omega) (by simp [maxLen]; omega) ?_; intro w1 ho he _))
  have hw1 : w.heap.size < w1.heap.size := (World.ownsRow.lt ho _ rfl).2
  obtain ⟨rest0, HR0, HO⟩ : ∃ rest0 : List Value, Hid (rest0.length = ds.length * 8) ∧ Hid (Own 69 8 w w1 (.slice (some ⟨w.heap.size, 0, none⟩) ds.length ds.length) ds.length rest0) := ⟨_, by show _ = _; rw [Array.length_toList, size_madeCells], ho⟩
  clear ho
  go_loopw [4] (fun i wr => ∃ (k : Nat) (ps : List RV) (rest : List Value), k ≤ ds.length ∧ i = .int .i64 k ∧ ps.length ≤ k ∧ k ≤ ps.length ∧ Hid (rulesOf ps = ds.take k) ∧ Hid (rest.length = (ds.length - k) * 8) ∧ Hid (Own 69 8 w wr (.slice (some ⟨w.heap.size, 0, none⟩) ds.length ds.length) ds.length (ps.flatMap RV.cells ++ rest)) ∧ Hid (∀ p ∈ ps, RuleOwn w1 wr p) ∧ Hid (Far (ps.flatMap RV.vals)) ∧ Ext w wr ∧ w1.heap.size ≤ wr.heap.size) (fun i _ => ds.length - (intOf i).toNat)
  case atStart => exact ⟨0, [], rest0, by omega, rfl, by simp, by simp, by simp [Hid, rulesOf], by simpa [Hid] using HR0.out, by simpa [Hid] using HO.out, by simp [Hid], Far.nil, he, Nat.le_refl _⟩
  case round =>
    clear HO HR0 rest0 he
    obtain ⟨k, ps, rest, hk, rfl, hl1, hl2, hps, hrest, ho, hq, hfar, he, hsz⟩ := hrel
    by_cases hlt : k < ds.length
    · obtain ⟨b, off, Ab, cb, An, cn, At, ct, Ak, ck, rfl, hb, hs, hr⟩ := h.at k hlt
      have hzk := HZ.out k hlt
      have HT : Hid (ds.take (k+1) = ds.take k ++ [ds[k]]) := List.take_succ_eq_append_getElem hlt
      generalize ds[k] = r at *
      have C := Lib.hid (fun w h => toRule_c r Ab cb An cn At ct Ak ck w h hzk)
      obtain ⟨k0, k1, k2, k3, k4, k5, k6, k7⟩ := hr
      unfold vrule at C
      clear h
      go_wp2_with fail
      refine (C.out _ (hs.ext he)).mono ?_; rintro _ w2 ⟨vb, vn, vt, vk, rfl, hro, hfr, he2⟩
      obtain ⟨Ab', cb', An', cn', At', ct', Ak', ck', e1, e2, e3, e4, _⟩ := hro.rd (szRl_short hzk).1
      dsimp only at e1 e2 e3 e4
      subst e1 e2 e3 e4
      have ho2 := Own.ext ho.out he2
      have hln : (ps.flatMap RV.cells ++ rest).length = ds.length * 8 := ho2.1
      obtain ⟨⟨u0, hu0⟩, hf0⟩ := ho2.slot (k * 8) (by rw [hln]; omega)
      obtain ⟨⟨u1, hu1⟩, hf1⟩ := ho2.slot (k * 8 + 1) (by rw [hln]; omega)
      obtain ⟨⟨u2, hu2⟩, hf2⟩ := ho2.slot (k * 8 + 2) (by rw [hln]; omega)
      obtain ⟨⟨u3, hu3⟩, hf3⟩ := ho2.slot (k * 8 + 3) (by rw [hln]; omega)
      obtain ⟨⟨u4, hu4⟩, hf4⟩ := ho2.slot (k * 8 + 4) (by rw [hln]; omega)
      obtain ⟨⟨u5, hu5⟩, hf5⟩ := ho2.slot (k * 8 + 5) (by rw [hln]; omega)
      obtain ⟨⟨u6, hu6⟩, hf6⟩ := ho2.slot (k * 8 + 6) (by rw [hln]; omega)
      obtain ⟨⟨u7, hu7⟩, hf7⟩ := ho2.slot (k * 8 + 7) (by rw [hln]; omega)
      have hlr := hrest.out
      have hpl : ps.length = k := by omega
      obtain ⟨hO, hE⟩ := Own.put8 ho2 (he.trans he2) ⟨r, .slice Ab' r.bytes.length cb', .slice An' r.names.length cn', .slice At' r.tags.length ct', .slice Ak' r.kids.length ck'⟩ (by omega) (k * 8) (by rw [cells_len]; omega)
      have hG := grown_put8 w2 w.heap.size (k * 8) ⟨r, .slice Ab' r.bytes.length cb', .slice An' r.names.length cn', .slice At' r.tags.length ct', .slice Ak' r.kids.length ck'⟩
      have HO := Lib.hid hO; have HE := Lib.hid hE; have HG := Lib.hid hG; have HRO := Lib.hid hro; have HF4 := Lib.hid hfr; have HPL := Lib.hid hpl; have HLR := Lib.hid hlr
      have hsz2 := he2.size
      clear ho2 hO hE hG hro hfr hpl hlr ho
      go_wp2
      go_roundw
      case rel =>
        refine ⟨k+1, ps ++ [⟨r, .slice Ab' r.bytes.length cb', .slice An' r.names.length cn', .slice At' r.tags.length ct', .slice Ak' r.kids.length ck'⟩], rest.drop 8, by omega, by go_num, by simp; omega, by simp; omega, ?_, ?_, ?_, ?_, ?_, HE.out, ?_⟩
        · show _ = _; rw [rulesOf_append, hps.out, HT.out]; rfl
        · show _ = _; rw [List.length_drop, HLR.out]; omega
        · show Own _ _ _ _ _ _ _; rw [List.flatMap_append, List.flatMap_cons, List.flatMap_nil, List.append_nil]; exact HO.out
        · intro p hp
          rcases List.mem_append.1 hp with hp | hp
          · exact ((hq.out p hp).ext he2).keep HG.out (fun v hv g hg he' => by have := (hq.out p hp).block v hv g hg; injection he' with he'; omega)
          · obtain rfl := List.mem_singleton.1 hp
            exact (HRO.out.keep HG.out (fun v hv g hg he' => by have := HRO.out.block v hv g hg; injection he' with he'; omega)).down hsz
        · show Far _
          rw [List.flatMap_append, List.flatMap_cons, List.flatMap_nil, List.append_nil]
          refine Far.append hfar.out HF4.out ?_
          intro u hu v hv g h1 h2
          obtain ⟨p, hp, hu⟩ := List.mem_flatMap.1 hu
          have := (hq.out p hp).block u hu g h1
          have := HRO.out.block v hv g h2
          omega
        · first | exact Nat.le_trans (Nat.le_trans hsz hsz2) HG.out.size | exact Nat.le_trans hsz hsz2
      case measure => simp [intOf]; omega
    · obtain rfl : k = ds.length := by omega
      go_wp2
      go_ret
      have hr0 : rest = [] := List.eq_nil_of_length_eq_zero (by have := hrest.out; omega)
      have hlen : ps.length = ds.length := by omega
      refine ⟨_, ps, rfl, ?_, ⟨?_, ?_, ?_⟩, he⟩
      · have := hps.out; rwa [List.take_length] at this
      · have := ho.out; rw [hr0, List.append_nil] at this; rw [hlen]; exact this
      · exact fun p hp => (hq.out p hp).down (by omega)
      · refine Far.cons hfar.out ?_
        intro u hu g h1 h2
        obtain ⟨p, hp, hu⟩ := List.mem_flatMap.1 hu
        have := (hq.out p hp).block u hu g h2
        have h1' : w.heap.size = g := by simpa [Value.ownBlock] using h1
        omega
set_option maxRecDepth 100000 in
set_option maxHeartbeats 1000000 in
theorem toDescription_c (A : Option Addr) (ds : List DRule) (c : Nat) (w : World) (h : RdD w A ds c) (hz : szD ds ≤ 1048576) :
    Calls Tryd.prog 10 #[vdesc (.slice A ds.length c)] w fun e w' => ∃ v ps, e = .returned (vdesc v) ∧ rulesOf ps = ds ∧ OwnD w w' v ps ∧ Ext w w' := by
  have C := Lib.hid (fun w h => toRuleS_c A ds c w h hz)
  obtain ⟨W0, HW0, HA, HR, HO, eA, hsA⟩ := boxes3' w #[.slice A ds.length c] #[.slice none 0 0] #[.slice none 0 0] 24 30 30
  have HSA := Lib.hid hsA; clear hsA
  have HA0 := Lib.hid HA; have HR0 := Lib.hid HR; have HO0 := Lib.hid HO; clear HA HR HO
  unfold vdesc
  go_enter Tryd.func10, Tryd.ntmps10
  go_wp2_with fail
  rw [← HW0.out]
  refine (C.out _ (h.ext eA)).mono ?_; rintro _ w1 ⟨v1, ps, rfl, hps, ho1, he1⟩
  obtain ⟨A1, c1, rfl⟩ := ho1.shape
  have p1 := (HO0.out.ext he1).cell; have q1 := (HO0.out.ext he1).free
  have r1 := (HR0.out.ext he1).cell; have t1 := (HR0.out.ext he1).free
  have HP := Lib.hid hps; have HO1 := Lib.hid ho1
  have hs1 := he1.size
  clear hps ho1
  go_wp2
  have z0 := HSA.out
  refine bodyPost_ret (v := .agg #[.slice A1 ps.length c1]) (by simp [results, Tryd.results10, go_sem, p1, q1, r1, t1]) rfl ⟨_, ps, rfl, HP.out, ?_, ?_⟩
  · refine ((HO1.out.keep (grown_set _ ⟨w.heap.size + 1 + 1, 0, none⟩ _) ?_).keep (grown_set _ ⟨w.heap.size + 1, 0, none⟩ _) ?_).down (by omega)
    · intro u hu g hg he'; have := HO1.out.block u hu g hg; injection he' with he'; simp only at he'; omega
    · intro u hu g hg he'; have := HO1.out.block u hu g hg; injection he' with he'; simp only at he'; omega
  · exact ((eA.trans he1).setCell (by simp; omega) _).setCell (by simp) _
end Go.Proofs.YtdbbdoldndnbhaaDoor

/- Names of rules: FindRule, DescriptionNames, SharedNames. -/
namespace Go.Proofs.YtdbbdoldndnbhaaDoor
open Go.RowKit Go.Sort

/-- the first rule with this name, or -1 -/
def findR (ds : List DRule) (s : ByteArray) : Int := match ds.findIdx? (fun r => r.nm.toList == s.toList) with | some i => (i : Int) | none => -1
def nmsOf (ds : List DRule) : List ByteArray := ds.map DRule.nm
theorem findR_at {ds : List DRule} {s : ByteArray} {k : Nat} (hk : k < ds.length) (h : (ds[k].nm.toList == s.toList) = true) (hn : ∀ j (hj : j < ds.length), j < k → (ds[j].nm.toList == s.toList) = false) : findR ds s = (k : Int) := by
  unfold findR
  have : ds.findIdx? (fun r => r.nm.toList == s.toList) = some k := by
    rw [List.findIdx?_eq_some_iff_getElem]
    exact ⟨hk, h, fun j hj => by rw [hn j (by omega) hj]; simp⟩
  rw [this]
theorem findR_none {ds : List DRule} {s : ByteArray} (hn : ∀ j (hj : j < ds.length), (ds[j].nm.toList == s.toList) = false) : findR ds s = -1 := by
  unfold findR
  have : ds.findIdx? (fun r => r.nm.toList == s.toList) = none := by
    rw [List.findIdx?_eq_none_iff]
    intro x hx
    obtain ⟨j, hj, rfl⟩ := List.getElem_of_mem hx
    exact hn j hj
  rw [this]
theorem findR_has (ds : List DRule) (s : ByteArray) : decide (0 ≤ findR ds s) = hasNm (nmsOf ds) s := by
  unfold findR hasNm nmsOf
  cases h : ds.findIdx? (fun r => r.nm.toList == s.toList) with
  | none =>
    rw [List.findIdx?_eq_none_iff] at h
    have : (ds.map DRule.nm).any (fun x => x.toList == s.toList) = false := by
      rw [List.any_map, List.any_eq_false]
      intro x hx
      have := h x hx
      simp only [Function.comp_apply]
      rw [this]; simp
    rw [this]; simp
  | some i =>
    rw [List.findIdx?_eq_some_iff_getElem] at h
    obtain ⟨hi, h1, _⟩ := h
    have : (ds.map DRule.nm).any (fun x => x.toList == s.toList) = true := by
      rw [List.any_map, List.any_eq_true]
      exact ⟨ds[i], List.getElem_mem hi, h1⟩
    rw [this]; simp
theorem findR_lt (ds : List DRule) (s : ByteArray) : -1 ≤ findR ds s ∧ findR ds s < ds.length ∨ findR ds s = -1 := by
  unfold findR
  cases h : ds.findIdx? (fun r => r.nm.toList == s.toList) with
  | none => exact .inr rfl
  | some i =>
    rw [List.findIdx?_eq_some_iff_getElem] at h
    obtain ⟨hi, _, _⟩ := h
    left; simp only; omega
set_option maxRecDepth 100000 in
set_option maxHeartbeats 2000000 in
theorem sFind_c (A : Option Addr) (ds : List DRule) (c : Nat) (s : ByteArray) (w : World) (hd : RdD w A ds c) :
    Gives Tryd.prog 43 #[vdesc (.slice A ds.length c), .string s] w (.int .i64 (findR ds s)) := by
  have hl := hd.len
  have eb := Ext_alloc (.cells #[.slice A ds.length c] 30) (Ext.refl w)
  have BX := fun w' (e : Ext (w.alloc (.cells #[.slice A ds.length c] 30)) w') => boxed e
  unfold vdesc
  go_enter Tryd.func43, Tryd.ntmps43
  go_wp2
  go_loopw [5] (fun q wr => ∃ k : Nat, k ≤ ds.length ∧ q = .int .i64 k ∧ Hid (∀ j (hj : j < ds.length), j < k → (ds[j].nm.toList == s.toList) = false) ∧ Ext (w.alloc (.cells #[.slice A ds.length c] 30)) wr) (fun q _ => ds.length - (intOf q).toNat)
  case atStart => exact ⟨0, by omega, rfl, (fun j _ hj => by omega), Ext.refl _⟩
  case round =>
    obtain ⟨k, hk, rfl, ht, he⟩ := hrel
    by_cases hlt : k < ds.length
    · obtain ⟨b, off, Ab, cb, An, cn, At, ct, Ak, ck, rfl, hb, _, hR⟩ := hd.at k hlt
      have YES : Hid ((ds[k].nm.toList == s.toList) = true → findR ds s = (k : Int)) := fun h => findR_at hlt h ht.out
      have NO : Hid ((ds[k].nm.toList == s.toList) = false → ∀ j (hj : j < ds.length), j < k + 1 → (ds[j].nm.toList == s.toList) = false) := by
        intro hy j hj hjk
        rcases (by omega : j < k ∨ j = k) with hjk | rfl
        · exact ht.out j hj hjk
        · exact hy
      generalize ds[k] = p at *
      obtain ⟨m0, m1, m2, m3, m4, m5, m6, m7⟩ := hR.ext eb
      clear hd hR ht
      cases hq : (p.nm.toList == s.toList)
      · have HE := Lib.hid (NO.out hq); clear YES NO
        go_wp2
        go_roundw
        case rel => exact ⟨k+1, by omega, by go_num, HE.out, he⟩
        case measure => simp [intOf]; omega
      · have HE := Lib.hid (YES.out hq); clear YES NO
        go_wp2
        go_ret
        exact ⟨ret_i64 HE.out.symm, eb.trans he⟩
    · have HE : Hid (findR ds s = -1) := findR_none (fun j hj => ht.out j hj (by omega))
      go_wp2
      go_ret
      exact ⟨ret_i64 HE.out.symm, eb.trans he⟩

set_option maxRecDepth 100000 in
set_option maxHeartbeats 2000000 in
theorem iFind_c (A : Option Addr) (ds : List DRule) (c : Nat) (s : ByteArray) (w : World) (hd : RdD w A ds c) :
    Gives Tryd.prog 48 #[vdesc (.slice A ds.length c), .string s] w (.int .i64 (findR ds s)) := by
  have hl := hd.len
  have eb := Ext_alloc (.cells #[.slice A ds.length c] 30) (Ext.refl w)
  have BX := fun w' (e : Ext (w.alloc (.cells #[.slice A ds.length c] 30)) w') => boxed e
  unfold vdesc
  go_enter Tryd.func48, Tryd.ntmps48
  go_wp2
  go_loopw [10] (fun q wr => ∃ k : Nat, k ≤ ds.length ∧ q = .int .i64 k ∧ Hid (∀ j (hj : j < ds.length), j < k → (ds[j].nm.toList == s.toList) = false) ∧ Ext (w.alloc (.cells #[.slice A ds.length c] 30)) wr) (fun q _ => ds.length - (intOf q).toNat)
  case atStart => exact ⟨0, by omega, rfl, (fun j _ hj => by omega), Ext.refl _⟩
  case round =>
    obtain ⟨k, hk, rfl, ht, he⟩ := hrel
    by_cases hlt : k < ds.length
    · obtain ⟨b, off, Ab, cb, An, cn, At, ct, Ak, ck, rfl, hb, _, hR⟩ := hd.at k hlt
      have YES : Hid ((ds[k].nm.toList == s.toList) = true → findR ds s = (k : Int)) := fun h => findR_at hlt h ht.out
      have NO : Hid ((ds[k].nm.toList == s.toList) = false → ∀ j (hj : j < ds.length), j < k + 1 → (ds[j].nm.toList == s.toList) = false) := by
        intro hy j hj hjk
        rcases (by omega : j < k ∨ j = k) with hjk | rfl
        · exact ht.out j hj hjk
        · exact hy
      generalize ds[k] = p at *
      obtain ⟨m0, m1, m2, m3, m4, m5, m6, m7⟩ := hR.ext eb
      clear hd hR ht
      cases hq : (p.nm.toList == s.toList)
      · have HE := Lib.hid (NO.out hq); clear YES NO
        go_wp2
        go_roundw
        case rel => exact ⟨k+1, by omega, by go_num, HE.out, (Ext_alloc _ he)⟩
        case measure => simp [intOf]; omega
      · have HE := Lib.hid (YES.out hq); clear YES NO
        go_wp2
        go_ret
        exact ⟨ret_i64 HE.out.symm, eb.trans (Ext_alloc _ he)⟩
    · have HE : Hid (findR ds s = -1) := findR_none (fun j hj => ht.out j hj (by omega))
      go_wp2
      go_ret
      exact ⟨ret_i64 HE.out.symm, eb.trans he⟩
section
variable {P : Program} {ops : Array Oper} {rest : List Oper} {o : Oper} {a : Act} {Q : Exit → Act → World → Prop}
/-- append(s, y1, .., ym), with what becomes of the block -/
theorem wpList_appNB (hgd : o.guard = none) (s x : Operand) (t : TypeId) (ho : o.op = .call { callee := .builtin .append, args := #[s, x], argTypes := #[t, t] })
    {e : TypeId} {bytes : Nat} {z : Value} (hE : Elem P t e 1 bytes z) (hby : 1 ≤ bytes) (w0 w : World) {α : Type} (f : α → Value) (hf : ∀ x, (f x).oneCell' = true) (v : Value) (hs : a.eval s = v) (m c g : Nat) (hx : a.eval x = .slice (some ⟨g, 0, none⟩) m c) (hg : g = w.heap.size)
    (l ys : List α) (cs : Array Value) (hcs : cs = (ys.map f).toArray) (hown : OwnL f e w0 w v l) (he : Ext w0 w) (hm : m = ys.length)
    (hb : (l.length + ys.length) * bytes ≤ 140737488355328)
    (h : ∀ v' w', OwnL f e w0 w' v' (l ++ ys) → Ext w0 w' → (v'.ownBlock = v.ownBlock ∨ v'.ownBlock = some (w.alloc (.cells cs e)).heap.size) → (w.alloc (.cells cs e)).grownBy w' v.ownBlock → wpList P ops Q rest (a.put o.dst v') w') :
    wpList P ops Q (o :: rest) a (w.alloc (.cells cs e)) := by
  subst hcs; subst hg
  refine wpList_appL hgd s x t ho hE hby w0 _ f hf v hs (some ⟨w.heap.size, 0, none⟩) m c hx l ys (hown.ext (Ext_alloc _ (Ext.refl w))) (Ext_alloc _ he) hm (fun _ => ⟨_, rfl, fun j u hu => ?_⟩) hb h
  rw [World.cell?_alloc_at']; exact hu
end
theorem take_snoc' {α β : Type} (f : α → β) (l : List α) (k : Nat) (hk : k < l.length) : (l.take k).map f ++ [f l[k]] = (l.take (k+1)).map f := by
  rw [List.take_succ_eq_append_getElem hk, List.map_append]; rfl
/-- the names that both have, in the first one's order -/
def shared (a b : List DRule) : List ByteArray := (nmsOf a).filter (hasNm (nmsOf b))
def shr (a b : List DRule) (k : Nat) : List ByteArray := ((a.take k).map DRule.nm).filter (hasNm (nmsOf b))
theorem shr_yes {a b : List DRule} {k : Nat} (hk : k < a.length) (h : hasNm (nmsOf b) a[k].nm = true) : shr a b k ++ [a[k].nm] = shr a b (k+1) := by
  unfold shr; rw [List.take_succ_eq_append_getElem hk, List.map_append, List.filter_append]; simp [h]
theorem shr_no {a b : List DRule} {k : Nat} (hk : k < a.length) (h : hasNm (nmsOf b) a[k].nm = false) : shr a b k = shr a b (k+1) := by
  unfold shr; rw [List.take_succ_eq_append_getElem hk, List.map_append, List.filter_append]; simp [h]
theorem shr_len (a b : List DRule) (k : Nat) : (shr a b k).length ≤ k := by
  unfold shr; have h1 := List.length_filter_le (hasNm (nmsOf b)) ((a.take k).map DRule.nm); rw [List.length_map, List.length_take] at h1; omega
theorem shared_len {a b : List DRule} {n : Nat} (h : szD a ≤ n) : (shared a b).length ≤ n := by
  unfold shared; have h1 := List.length_filter_le (hasNm (nmsOf b)) (nmsOf a); unfold nmsOf at h1 ⊢; rw [List.length_map] at h1; unfold szD at h; omega
end Go.Proofs.YtdbbdoldndnbhaaDoor

/- HexLines: the lines, the reference's walk. -/
namespace Go.Proofs.YtdbbdoldndnbhaaDoor
open Go.RowKit Go.Sort

/-- the end of the line that begins at i -/
def mnH (n m i : Nat) : Nat := if i + m < n then i + m else n
def lineAt (l : List UInt8) (m i : Nat) : ByteArray := itoaB (i : Int) ++ ⟨#[58, 32]⟩ ++ hxB ((l.drop i).take (mnH l.length m i - i))
def nH (n m : Nat) : Nat := (n + m - 1) / m
def linesH (l : List UInt8) (m k : Nat) : List ByteArray := (List.range k).map fun j => lineAt l m (j * m)
def hexLs (l : List UInt8) (wd : Int) : List ByteArray := if 1 ≤ wd ∧ wd ≤ 64 then linesH l wd.toNat (nH l.length wd.toNat) else []
theorem nH_lt {n m j : Nat} (hm : 0 < m) : j < nH n m ↔ j * m < n := by
  unfold nH
  rw [← Nat.succ_le_iff, Nat.le_div_iff_mul_le hm, Nat.succ_mul]
  omega
theorem nH_le {n m : Nat} (hm : 0 < m) : nH n m ≤ n := by
  rcases Nat.lt_or_ge n (nH n m) with h | h
  · have := (nH_lt hm).1 h
    have := Nat.le_mul_of_pos_right n hm
    omega
  · exact h
theorem linesH_succ (l : List UInt8) (m k : Nat) : linesH l m (k + 1) = linesH l m k ++ [lineAt l m (k * m)] := by
  unfold linesH; rw [List.range_succ, List.map_append]; rfl
theorem linesH_len (l : List UInt8) (m k : Nat) : (linesH l m k).length = k := by unfold linesH; simp
theorem hexLs_len (l : List UInt8) (wd : Int) : (hexLs l wd).length ≤ l.length := by
  unfold hexLs; split
  · rw [linesH_len]; exact nH_le (by omega)
  · simp
theorem hxB_size (l : List UInt8) : (hxB l).size = 2 * l.length := by
  show (hxL l).toArray.size = _
  rw [List.size_toArray, hxL_len]
theorem rd_part {α : Type} {f : α → Value} {w : World} {b off : Nat} {l : List α} {c : Nat} (h : Rd f w (some ⟨b, off, none⟩) l c) {i k : Nat} (hi : i ≤ k) (hk : k ≤ l.length) : Rd f w (some ⟨b, off + i, none⟩) ((l.drop i).take (k - i)) (c - i) := by
  have hl : ((l.drop i).take (k - i)).length = k - i := by rw [List.length_take, List.length_drop]; omega
  refine ⟨⟨by have := h.cap; omega, by have := h.1.2.1; omega, fun hp => ?_⟩, by have := h.len; omega⟩
  obtain ⟨b', off', h1, h2, h3⟩ := h.base (by omega)
  injection h1 with h1; injection h1 with h1 h4; subst h1; subst h4
  refine ⟨b, off + i, rfl, h2, fun w' e j hj => ?_⟩
  have h5 := h3 w' e (i + j) (by omega)
  rw [show off + (i + j) = off + i + j by omega] at h5
  rw [h5]
  simp
set_option maxRecDepth 100000 in
set_option maxHeartbeats 2000000 in
theorem sHexLines_c (A : Option Addr) (l : List UInt8) (c : Nat) (wd : Int) (w : World) (h : Bs w A l c) (hL : l.length ≤ 1048576) :
    Calls Tryd.prog 26 #[.slice A l.length c, .int .i64 wd] w fun e w' => ∃ v, e = .returned v ∧ OwnL vstr 9 w w' v (hexLs l wd) ∧ Ext w w' := by
  have HO := Lib.hid (OwnL.empty (f := vstr) (e := 9) (Ext.refl w))
  have e0 := Ext_alloc (.cells #[] 9) (Ext.refl w)
  by_cases hw : 1 ≤ wd ∧ wd ≤ 64
  · obtain ⟨m, rfl⟩ : ∃ m : Nat, wd = (m : Int) := ⟨wd.toNat, by omega⟩
    have hm : 0 < m ∧ m ≤ 64 := by omega
    have HR : Hid (hexLs l (m : Int) = linesH l m (nH l.length m)) := by show _ = _; unfold hexLs; rw [if_pos hw]; simp
    rw [HR.out]
    have HI : Hid ((decide ((1 : Int) ≤ (m : Int)) && decide ((m : Int) ≤ 64)) = true) := by show _ = _; simp; omega
    have HN := Lib.hid (fun j => nH_lt (n := l.length) (j := j) hm.1)
    have HNL := nH_le (n := l.length) hm.1
    clear hw HR
    go_enter Tryd.func26, Tryd.ntmps26
    go_wp2
    go_loopw [5, 6] (fun t i wr => ∃ (j q : Nat), j ≤ nH l.length m ∧ i = .int .i64 q ∧ Hid (q = j * m) ∧ q ≤ l.length + 64 ∧ Hid (OwnL vstr 9 w wr t (linesH l m j)) ∧ Ext w wr) (fun _ i _ => l.length + 64 - (intOf i).toNat)
    case atStart => exact ⟨0, 0, by omega, rfl, (by simp [Hid]), by omega, HO, e0⟩
    case round =>
      clear HO e0
      obtain ⟨j, q, hj, rfl, hq, hql, ho, he⟩ := hrel
      have hnj := HN.out j
      rw [← hq.out] at hnj
      by_cases hlt : q < l.length
      · have hj2 : j < nH l.length m := hnj.2 hlt
        obtain ⟨b, off, rfl, hb, hc⟩ := h.at q hlt
        have hcap := h.cap
        have hmn1 : q ≤ mnH l.length m q := by unfold mnH; split <;> omega
        have hmn2 : mnH l.length m q ≤ l.length := by unfold mnH; split <;> omega
        have hmn3 : mnH l.length m q - q ≤ 64 := by unfold mnH; split <;> omega
        have CM : Hid (∀ w', Gives Tryd.prog 61 #[.int .i64 l.length, .int .i64 ((q : Int) + (m : Int))] w' (.int .i64 (mnH l.length m q : Nat))) := fun w' => by
          have := sMin_c (l.length : Int) ((q : Int) + (m : Int)) w'
          rw [show (if (q : Int) + (m : Int) < (l.length : Int) then (q : Int) + (m : Int) else (l.length : Int)) = ((mnH l.length m q : Nat) : Int) by unfold mnH; split <;> split <;> omega] at this
          exact this
        have hpl : ((l.drop q).take (mnH l.length m q - q)).length = mnH l.length m q - q := by rw [List.length_take, List.length_drop]; omega
        have CH : Hid (∀ w', Ext w w' → Gives Tryd.prog 55 #[.slice (some ⟨b, off + q, none⟩) (mnH l.length m q - q) (c - q)] w' (.string (hxB ((l.drop q).take (mnH l.length m q - q))))) := fun w' e => by
          have := sFormatHex_c _ _ _ w' ((rd_part h hmn1 hmn2).ext e) (by omega)
          rw [hpl] at this
          exact this
        have HS : Hid (linesH l m (j + 1) = linesH l m j ++ [itoaB (q : Int) ++ ⟨#[58, 32]⟩ ++ hxB ((l.drop q).take (mnH l.length m q - q))]) := by show _ = _; rw [linesH_succ, ← hq.out]; rfl
        have hz1 := itoa_size (q : Int) (by omega) (by omega)
        have hz2 : (hxB ((l.drop q).take (mnH l.length m q - q))).size ≤ 128 := by rw [hxB_size, hpl]; omega
        have HB : Hid (((linesH l m j).length + 1) * 16 ≤ 140737488355328) := by show _ ≤ _; rw [linesH_len]; omega
        have CF := Lib.hid (fun w' => sFormatInt_c (q : Int) w' (by omega) (by omega))
        have HQ := Lib.hid hq.out
        clear hc hpl hnj
        generalize hxB ((l.drop q).take (mnH l.length m q - q)) = hx at *
        generalize itoaB (q : Int) = it at *
        generalize mnH l.length m q = k at *
        go_wp2_with fail
        refine (l1In_c (m : Int) 1 64 wr).mono ?_; rintro _ w1 ⟨rfl, s1⟩; rw [HI.out]
        go_wp2_with fail
        refine (CF.out _).mono ?_; rintro _ w2 ⟨rfl, s2⟩
        go_wp2_with fail
        refine (CM.out _).mono ?_; rintro _ w3 ⟨rfl, s3⟩
        have e3 := ((he.trans s1).trans s2).trans s3
        have hcq : ¬ c = q := by omega
        have hqk : (q : Int) ≤ (k : Int) := by omega
        have hkc : (k : Int) ≤ (c : Int) := by omega
        have hq0 : (0 : Int) ≤ (q : Int) := by omega
        go_wp2_with fail
        refine (CH.out _ e3).mono ?_; rintro _ w4 ⟨rfl, s4⟩
        have e4 := e3.trans s4
        have ho4 := Lib.hid (OwnL.ext ho.out (((s1.trans s2).trans s3).trans s4))
        have h58 : (⟨#[58, 32]⟩ : ByteArray).size ≤ 2 := by decide
        clear ho
        go_wp2_with (at_builtin; refine wpList_appN rfl (.tmp 19) (.tmp 34) _ rfl E_str (by omega) w _ vstr (fun _ => rfl) _ rfl _ _ rfl (linesH l m j) [it ++ ⟨#[58, 32]⟩ ++ hx] _ rfl ho4.out e4 rfl HB.out ?_; intro v5 w5 ho5 he5)
        have HO5 : Hid (OwnL vstr 9 w w5 v5 (linesH l m (j + 1))) := by show OwnL _ _ _ _ _ _; rw [HS.out]; exact ho5
        clear ho5
        go_wp2
        go_roundw
        case rel => exact ⟨j + 1, q + m, by omega, by go_num, by show _ = _; rw [HQ.out, Nat.succ_mul], by omega, HO5, he5⟩
        case measure => simp [intOf]; omega
      · have hj2 : j = nH l.length m := by
          rcases Nat.lt_or_ge j (nH l.length m) with h1 | h1
          · exact absurd (hnj.1 h1) hlt
          · omega
        subst hj2
        clear hnj
        go_wp2
        go_ret
        exact ⟨_, rfl, ho.out, he⟩
  · have HR : Hid (hexLs l wd = []) := if_neg hw
    rw [HR.out]
    have HI : Hid ((decide ((1 : Int) ≤ wd) && decide (wd ≤ 64)) = false) := by show _ = _; rw [Bool.and_eq_false_iff]; simp; omega
    by_cases h0 : 0 < l.length
    · have hd : decide ((0 : Int) < (l.length : Int)) = true := by rw [decide_eq_true_eq]; omega
      clear hw HR
      go_enter Tryd.func26, Tryd.ntmps26
      go_wp2
      go_loopw [5, 6] (fun t i wr => t = .slice (some ⟨w.heap.size, 0, none⟩) 0 0 ∧ i = .int .i64 0 ∧ wr = w.alloc (.cells #[] 9)) (fun _ _ _ => 0)
      case atStart => exact ⟨rfl, rfl, rfl⟩
      case round =>
        obtain ⟨rfl, rfl, rfl⟩ := hrel
        go_wp2_with fail
        refine (l1In_c wd 1 64 _).mono ?_; rintro _ w1 ⟨rfl, s1⟩; rw [HI.out]
        have HO1 := Lib.hid (OwnL.ext HO.out s1)
        go_wp2
        go_ret
        exact ⟨_, rfl, HO1.out, e0.trans s1⟩
    · have hd : decide ((0 : Int) < (l.length : Int)) = false := by rw [decide_eq_false_iff_not]; omega
      clear hw HR
      go_enter Tryd.func26, Tryd.ntmps26
      go_wp2
      go_loopw [5, 6] (fun t i wr => t = .slice (some ⟨w.heap.size, 0, none⟩) 0 0 ∧ i = .int .i64 0 ∧ wr = w.alloc (.cells #[] 9)) (fun _ _ _ => 0)
      case atStart => exact ⟨rfl, rfl, rfl⟩
      case round =>
        obtain ⟨rfl, rfl, rfl⟩ := hrel
        go_wp2
        go_ret
        exact ⟨_, rfl, HO.out, e0⟩
end Go.Proofs.YtdbbdoldndnbhaaDoor

/- A region that draws its order, inside a fence: quiet operations, then a tail in the text's order (a call of yield). -/
namespace Go.Proofs.YtdbbdoldndnbhaaDoor
open Go Go.Sort Go.RowKit

section
variable {F : Fence} {n : Nat} {P : Program} {ops : Array Oper} {md : Region.Mode} {C : World → Prop}

/-- the quiet head of a region; behind its f operations: L -/
def headQ (F : Fence) (n : Nat) (P : Program) (md : Region.Mode) (ops : Array Oper) (C : World → Prop) (L : Array Bool → Act → Prop) : Nat → Array Bool → Act → Prop
  | 0, listed, a => L listed a
  | f + 1, listed, a => Region.ready md ops listed ≠ [] ∧ ∀ i ∈ Region.ready md ops listed, qOpIn F n P ops C i (headQ F n P md ops C L f (listed.setIfInBounds i true)) a

theorem headQ_to (hro : F.round = none) {L : Array Bool → Act → Prop} {g : Nat} {Q' : Exit → Act → World → Prop} (hL : ∀ listed a w, C w → L listed a → wpAnyIn F n P md ops Q' g listed a w) :
    ∀ (f : Nat) (listed : Array Bool) (a : Act) (w : World), C w → headQ F n P md ops C L f listed a → wpAnyIn F n P md ops Q' (f + g) listed a w := by
  intro f
  induction f with
  | zero => intro listed a w hw h; rw [Nat.zero_add]; exact hL _ _ _ hw h
  | succ f ih =>
    intro listed a w hw h
    rw [show f + 1 + g = (f + g) + 1 by omega]
    exact ⟨fun h0 => absurd h0 h.1, fun i hi => wpOpIn_of_qOpIn hro hw (fun a' w' hw' h' => ih _ a' w' hw' h') (h.2 i hi)⟩

theorem headQ_first {N i : Nat} {oi : Oper} {v : Value} {L : Array Bool → Act → Prop} (hi : ops[i]? = some oi) (hsel : ∀ (j : Nat) (o : Oper) cs b, ops[j]? = some o → o.op ≠ .select cs b)
    (hs : Region.sinkB md ops N = true) (hc : Region.chainB md ops N = true) (hn : N < ops.size) (hin : i < N) (hdone : ∀ listed a, L listed a → ∀ j ∈ Region.ready md ops listed, N ≤ j) :
    ∀ (f : Nat) (listed : Array Bool) (a : Act), HeadInv md ops N listed →
      (∀ j oj, ops[j]? = some oj → j ≠ i → listed.getD j true = false → (∀ e ∈ oj.after, Region.binds md e = true → e.on ≠ i) → oi.apart ops oj = true) →
      i ∈ Region.ready md ops listed → YieldsQuiet F n P ops C oi v a →
      headQ F n P md ops C L f (listed.setIfInBounds i true) (a.put oi.dst v) → headQ F n P md ops C L (f + 1) listed a := by
  intro f
  induction f with
  | zero =>
    intro listed a inv _ hr hy H
    have hun := (mem_ready.1 hr).1
    refine ⟨fun h => (by rw [h] at hr; cases hr), fun j hj => ?_⟩
    by_cases hji : j = i
    · subst hji; exact hy.qOpIn hi H
    · have h1 := hdone _ _ H j (ready_mono hj hji)
      exact absurd hj (tail_waits hs hc hn inv _ i rfl hin hun j h1)
  | succ f ih =>
    intro listed a inv hfree hr hy H
    have hun := (mem_ready.1 hr).1
    refine ⟨fun h => (by rw [h] at hr; cases hr), fun j hj => ?_⟩
    have hjn : j < N := by
      rcases Nat.lt_or_ge j N with h | h
      · exact h
      · exact absurd hj (tail_waits hs hc hn inv _ i rfl hin hun j h)
    by_cases hji : j = i
    · subst hji; exact hy.qOpIn hi H
    · have h1 := H.2 j (ready_mono hj hji)
      obtain ⟨hjun, oj, hoj, hall⟩ := mem_ready.1 hj
      have hnot : ∀ e ∈ oj.after, Region.binds md e = true → e.on ≠ i := fun e he hb heq => by
        have h1 := hall e he hb
        rw [heq, getD_both hun] at h1
        cases h1
      have h2 := qOpIn_put hoj (hfree j oj hoj hji hjun hnot) (fun cs b => hsel i oi cs b hi) (fun cs b => hsel j oj cs b hoj) hy h1
      refine qOpIn_mono (fun a' h3 => ih (listed.setIfInBounds j true) a' (inv.set hj hjn) ?_ (ready_mono hr (Ne.symm hji)) h3.1 ?_) h2
      · intro k ok hk hki hun' hno
        refine hfree k ok hk hki ?_ hno
        by_cases hjk : j = k
        · subst hjk; exact hjun
        · rw [getD_set_ne true hjk] at hun'; exact hun'
      · rw [Array.setIfInBounds_comm _ _ hji]
        exact h3.2

theorem headQ_lex {N g : Nat} {Lq : Act → Prop} (hsel : Region.noSelect ops = true) (hs : Region.sinkB md ops N = true) (hc : Region.chainB md ops N = true) (hn : N < ops.size) :
    ∀ (l : List Oper) (k : Nat) (listed : Array Bool) (a : Act), (∀ j, j < l.length → l[j]? = ops[k + j]?) → k + l.length = N → HeadInv md ops N listed →
    Region.lexHead md ops g l.length k listed = true → wpQuietIn F n P ops C Lq l a →
    headQ F n P md ops C (fun listed' a' => Region.seqB md ops g N listed' = true ∧ Lq a') l.length listed a := by
  intro l
  induction l with
  | nil =>
    intro k listed a _ hk _ hB h
    obtain rfl : k = N := by simpa using hk
    exact ⟨by simpa [Region.lexHead] using hB, h⟩
  | cons o l ih =>
    intro k listed a hl hk inv hB h
    have h0 : ops[k]? = some o := by simpa using (hl 0 (by simp)).symm
    simp only [List.length_cons, Region.lexHead, Bool.and_eq_true] at hB
    obtain ⟨⟨hr, hf⟩, hB'⟩ := hB
    have hkn : k < N := by simp only [List.length_cons] at hk; omega
    have hr' : k ∈ Region.ready md ops listed := by simpa using hr
    have hst : qOpIn F n P ops C k (wpQuietIn F n P ops C Lq l) a := by unfold qOpIn; simp only [h0]; exact h
    obtain ⟨v, hy, hK⟩ := yieldsQuiet_of_qOpIn h0 hst
    exact headQ_first h0 (Region.noSelect_spec hsel) hs hc hn hkn (fun listed' a' hL => seqB_ready hL.1) l.length listed a inv (Region.free_spec h0 hf) hr' hy
      (ih (k + 1) _ _ (fun j hj => by have := hl (j + 1) (by simp; omega); simpa [Nat.add_assoc, Nat.add_comm 1 j] using this) (by simp only [List.length_cons] at hk; omega) (inv.set hr' hkn) hB' hK)

theorem seqIn {Q' : Exit → Act → World → Prop} : ∀ (l : List Oper) (k : Nat) (listed : Array Bool) (a : Act) (w : World), (∀ j, l[j]? = ops[k + j]?) →
    Region.seqB md ops l.length k listed = true → wpListIn F n P ops Q' l a w → wpAnyIn F n P md ops Q' l.length listed a w := by
  intro l
  induction l with
  | nil => intro k listed a w _ hB h; exact ⟨by simpa [Region.seqB] using hB, h⟩
  | cons o l ih =>
    intro k listed a w hl hB h
    have h0 : ops[k]? = some o := by simpa using (hl 0).symm
    simp only [List.length_cons, Region.seqB, Bool.and_eq_true, decide_eq_true_eq] at hB
    refine ⟨fun h1 => (by rw [hB.1] at h1; cases h1), fun i hi => ?_⟩
    rw [hB.1] at hi
    obtain rfl : i = k := by simpa using hi
    have hw : wpOpIn F n P ops Q' i (wpListIn F n P ops Q' l) a w := by unfold wpOpIn; simp only [h0]; exact h
    exact wpOpIn_mono (fun a' w' h' => ih (i + 1) _ a' w' (fun j => by have := hl (j + 1); simpa [Nat.add_assoc, Nat.add_comm 1 j] using this) hB.2 h') hw

theorem region_quiet_tail {id : Nat} {Q : Exit → Act → World → Prop} {a : Act} {w : World} {l : List Oper} (N : Nat) (hro : F.round = none) (hm : P.follows .mixedOrders = true) (hB : Region.lexTailB .any l.toArray N = true) (hC : C { w with drawn := w.drawn + 1 })
    (h : wpQuietIn F n P l.toArray C (fun a' => ∀ w', C w' → wpListIn F n P l.toArray Q (l.drop N) a' w') (l.take N) a) : (Code.region id l.toArray true).wpIn F n P Q a w := by
  simp only [Region.lexTailB, Bool.and_eq_true, decide_eq_true_eq] at hB
  obtain ⟨⟨⟨⟨hsel, hn⟩, hs⟩, hc⟩, hlex⟩ := hB
  have hn' : N < l.length := by simpa using hn
  have htl : (l.take N).length = N := by simp; omega
  have hdl : (l.drop N).length = l.toArray.size - N := by simp
  have inv0 : HeadInv .any l.toArray N (Array.replicate l.toArray.size false) :=
    ⟨by simp, fun j oj _ hl => (by rw [getD_replicate_false] at hl; cases hl), fun t _ ht => getD_in (by simpa using ht) (getD_replicate_false _ _)⟩
  have H := headQ_lex (md := .any) (g := l.toArray.size - N) hsel hs hc hn (l.take N) 0 _ a (fun j hj => by
    have hj' : j < N := by rw [htl] at hj; exact hj
    simp [hj']) (by simpa using htl) inv0 (by rw [htl]; exact hlex) h
  refine wpIn_region_any hm ?_
  have := headQ_to (Q' := Q) (g := l.toArray.size - N) hro (fun listed a' w' hw' hL => by
    have := seqIn (md := .any) (Q' := Q) (l.drop N) N listed a' w' (fun j => by simp [List.getElem?_drop]) (by rw [hdl]; exact hL.1) (hL.2 w' hw')
    rwa [hdl] at this) _ _ _ _ hC H
  rw [htl, show N + (l.toArray.size - N) = l.toArray.size by omega] at this
  exact this
theorem region_quiet_tail_below {id : Nat} {Q : Exit → Act → World → Prop} {a : Act} {w : World} {l : List Oper} (N : Nat) (hro : F.round = none) (hm : P.follows .mixedOrders = true) (hB : Region.lexTailB .any l.toArray N = true)
    (h : wpQuietIn F n P l.toArray (fun w' => ∃ p : Regrown, w' = grow (redrawn w p.d) p.os) (fun a' => ∀ w', (∃ p : Regrown, w' = grow (redrawn w p.d) p.os) → wpListIn F n P l.toArray Q (l.drop N) a' w') (l.take N) a) : (Code.region id l.toArray true).wpIn F n P Q a w :=
  region_quiet_tail (C := fun w' => ∃ p : Regrown, w' = grow (redrawn w p.d) p.os) N hro hm hB ⟨⟨w.drawn + 1, #[]⟩, by rw [grow_empty]; rfl⟩ h
end
end Go.Proofs.YtdbbdoldndnbhaaDoor

/- HexLines of the program: the iterator (a closure that hands its lines to yield). -/
namespace Go.Proofs.YtdbbdoldndnbhaaDoor
open Go.RowKit Go.Sort Go.Shelf
attribute [local go_sem] Oper.semAt_some
theorem wide_fn (k : Nat) : Fence.wide.fn k = True := rfl
attribute [local go_sem] wide_fn
attribute [local simp] wide_fn

set_option maxRecDepth 100000 in
set_option maxHeartbeats 8000000 in
theorem hexIt_in (n : Nat) (hn : 1 ≤ n) (lp : Nat) (w1 W : World) (Bb Bw : Nat) (A : Option Addr) (l : List UInt8) (c m : Nat) (hm : 0 < m ∧ m ≤ 64) (hL : l.length ≤ 1048576) (h : Bs w1 A l c) (hT : Tab w1)
    (hbb : ∀ w', Ext w1 w' → w'.cell? ⟨Bb, 0, none⟩ = some (.slice A l.length c)) (hbw : ∀ w', Ext w1 w' → w'.cell? ⟨Bw, 0, none⟩ = some (.int .i64 m))
    (J Jx : List ByteArray → World → Prop) (hJ : AbidesFrom W.heap.size J)
    (hY : ∀ pre x W', J pre W' → pre.length < nH l.length m → YieldAt Fence.wide (n - 1) Tryd.prog lp #[.string x] W' fun e W'' =>
      (e = .returned (.bool true) ∧ J (pre ++ [x]) W'' ∧ Below w1.heap.size W' W'') ∨ (e = .returned (.bool false) ∧ Jx (pre ++ [x]) W''))
    (eW : Ext w1 W) (h0 : J [] W) :
    CallsIn Fence.wide n Tryd.prog 64 #[.func (.yield lp) #[] #[], .pointer (some ⟨Bb, 0, none⟩), .pointer (some ⟨Bw, 0, none⟩)] W fun e W' => (∃ v, e = .returned v) ∧
      ((∃ ys, ys = linesH l m (nH l.length m) ∧ J ys W') ∨ (∃ pre, True ∧ Jx pre W')) := by
  refine callsIn_of_wp Tryd.func64 rfl trivial ?_ rfl
  simp only [Tryd.ntmps64, List.size_toArray, List.length_cons, List.length_nil, Nat.reduceAdd, Nat.reduceSub, Array.replicate_succ, Array.replicate_zero, List.push_toArray, List.append_toArray, List.nil_append, List.cons_append]
  have HN := Lib.hid (fun j => nH_lt (n := l.length) (j := j) hm.1)
  have HNL := nH_le (n := l.length) hm.1
  gi_wp2
  gi_loopw [4] (fun i wr => ∃ (j q : Nat), j ≤ nH l.length m ∧ i = .int .i64 q ∧ Hid (q = j * m) ∧ q ≤ l.length + 64 ∧ Hid (J (linesH l m j) wr) ∧ Ext w1 wr) (fun i _ => l.length + 64 - (intOf i).toNat)
  case atStart => exact ⟨0, 0, by omega, rfl, (by simp [Hid]), by omega, h0, eW⟩
  case round =>
    obtain ⟨j, q, hj, rfl, hq, hql, hJs, he⟩ := hrel
    have hnj := HN.out j
    rw [← hq.out] at hnj
    have kb := fun w' (e : Ext wr w') => hbb w' (he.trans e); have kw := fun w' (e : Ext wr w') => hbw w' (he.trans e)
    have kb0 := kb wr (Ext.refl _)
    by_cases hlt : q < l.length
    · have hj2 : j < nH l.length m := hnj.2 hlt
      obtain ⟨b, off, rfl, hb, hc⟩ := h.at q hlt
      have hcap := h.cap
      have hmn1 : q ≤ mnH l.length m q := by unfold mnH; split <;> omega
      have hmn2 : mnH l.length m q ≤ l.length := by unfold mnH; split <;> omega
      have hmn3 : mnH l.length m q - q ≤ 64 := by unfold mnH; split <;> omega
      have CM : Hid (∀ w', Gives Tryd.prog 65 #[.int .i64 ((q : Int) + (m : Int)), .int .i64 l.length] w' (.int .i64 (mnH l.length m q : Nat))) := fun w' => by
        have := iMin_c ((q : Int) + (m : Int)) (l.length : Int) w'
        rw [show (if (l.length : Int) < (q : Int) + (m : Int) then (l.length : Int) else (q : Int) + (m : Int)) = ((mnH l.length m q : Nat) : Int) by unfold mnH; split <;> split <;> omega] at this
        exact this
      have hpl : ((l.drop q).take (mnH l.length m q - q)).length = mnH l.length m q - q := by rw [List.length_take, List.length_drop]; omega
      have CH : Hid (∀ w', Ext w1 w' → Gives Tryd.prog 58 #[.slice (some ⟨b, off + q, none⟩) (mnH l.length m q - q) (c - q)] w' (.string (hxB ((l.drop q).take (mnH l.length m q - q))))) := fun w' e => by
        have := iFormatHex_c _ _ _ w' ((rd_part h hmn1 hmn2).ext e) (by omega)
        rw [hpl] at this
        exact this
      have HS : Hid (linesH l m (j + 1) = linesH l m j ++ [itoaB (q : Int) ++ ⟨#[58, 32]⟩ ++ hxB ((l.drop q).take (mnH l.length m q - q))]) := by show _ = _; rw [linesH_succ, ← hq.out]; rfl
      have hz1 := itoa_size (q : Int) (by omega) (by omega)
      have hz2 : (hxB ((l.drop q).take (mnH l.length m q - q))).size ≤ 128 := by rw [hxB_size, hpl]; omega
      have CF := Lib.hid (fun w' hT => iFormatInt_c (q : Int) w' hT (by omega) (by omega))
      have HY : Hid (∀ x w5, Ext wr w5 → YieldAt Fence.wide (n - 1) Tryd.prog lp #[.string x] w5 fun e W'' => ∃ bb : Bool, e = .returned (.bool bb) ∧ Hid ((bb = true ∧ J (linesH l m j ++ [x]) W'' ∧ Below w1.heap.size w5 W'') ∨ (bb = false ∧ Jx (linesH l m j ++ [x]) W''))) := fun x w5 e5 =>
        (hY _ x w5 (hJ _ wr w5 none hJs.out (grown_ext e5 none) (fun r e => by cases e)) (by rw [linesH_len]; exact hj2)).mono fun e W'' hh => by
          rcases hh with ⟨rfl, h1, h2⟩ | ⟨rfl, h1⟩
          · exact ⟨true, rfl, .inl ⟨rfl, h1, h2⟩⟩
          · exact ⟨false, rfl, .inr ⟨rfl, h1⟩⟩
      have HQ := Lib.hid hq.out
      have HTb := Lib.hid hT
      have h58 : (⟨#[58, 32]⟩ : ByteArray).size ≤ 2 := by decide
      have hcq : ¬ c = q := by omega
      have hq0 : (0 : Int) ≤ (q : Int) := by omega
      clear hc hpl hnj hY hJ
      generalize hxB ((l.drop q).take (mnH l.length m q - q)) = hx at *
      generalize itoaB (q : Int) = it at *
      generalize mnH l.length m q = k at *
      have hqk : (q : Int) ≤ (k : Int) := by omega
      have hkc : (k : Int) ≤ (c : Int) := by omega
      have hwq : IntKind.i64.wrap ((q : Int) + (m : Int)) = (q : Int) + (m : Int) := IntWalk.i64_in _ (by omega)
      have kd := kb wr.drew (Ext_drew (Ext.refl _)); have kwd := kw wr.drew (Ext_drew (Ext.refl _))
      have xd := Ext_drew (Ext.refl wr)
      gi_wp2_with fail
      refine region_quiet_tail_below 15 rfl (by kernel_rfl) (by kernel_rfl) ?_
      simp only [List.take_succ_cons, List.take_zero, List.drop_succ_cons, List.drop_zero]
      repeat (gi_big_quiet_step (first
        | (gi_at_call 50; exact CallsIn.regrown_of (callsIn_wide.2 (CF.out _ (HTb.out.ext (he.trans (by first | assumption | exact Ext_regrown _ _ (Ext.refl _)))))))
        | (gi_at_call 65; exact CallsIn.regrown_of (callsIn_wide.2 (CM.out _)))
        | (gi_at_call 58; exact CallsIn.regrown_of (callsIn_wide.2 (CH.out _ (he.trans (by first | assumption | exact Ext_regrown _ _ (Ext.refl _))))))))
      refine wpQuietIn_nil ?_
      rintro w5 ⟨⟨nq, osq⟩, hq5⟩
      have e5 := ext_of_q hq5
      clear hq5 nq osq
      obtain ⟨fn, tmps, assign, body, hy, hR⟩ := HY.out (it ++ ⟨#[58, 32]⟩ ++ hx) w5 e5
      gi_wp2
      refine hR.mono ?_
      rintro _ w8 ⟨bb, rfl, hres⟩
      rcases hres with ⟨rfl, hJ8, hk8⟩ | ⟨rfl, hJx8⟩
      · have e8 : Ext w1 w8 := Below.trans (he.trans e5) hk8
        have kw8 := hbw w8 e8
        have HJ8 := Lib.hid hJ8
        clear hy hR kb kw kb0 kd kwd
        gi_wp2
        go_roundw
        case rel => exact ⟨j + 1, q + m, by omega, by go_num, (by show _ = _; rw [HQ.out, Nat.succ_mul]), by omega, (by rw [HS.out]; exact HJ8), e8⟩
        case measure => simp [intOf]; omega
      · gi_wp2
        refine bodyPost_ret (results_none rfl _ _ _) rfl ?_
        exact ⟨⟨_, rfl⟩, .inr ⟨_, trivial, hJx8⟩⟩
    · have hj2 : j = nH l.length m := by
        rcases Nat.lt_or_ge j (nH l.length m) with h1 | h1
        · exact absurd (hnj.1 h1) hlt
        · omega
      subst hj2
      clear hnj
      gi_wp2
      go_end0
      exact ⟨⟨_, rfl⟩, .inl ⟨_, rfl, hJs.out⟩⟩
end Go.Proofs.YtdbbdoldndnbhaaDoor

/- HexLines of the program: collect over the iterator; the whole. -/
namespace Go.Proofs.YtdbbdoldndnbhaaDoor
open Go.RowKit Go.Sort Go.Shelf
attribute [local go_sem] Oper.semAt_some
attribute [local go_sem] wide_fn
attribute [local simp] wide_fn

set_option maxRecDepth 100000 in
set_option maxHeartbeats 4000000 in
theorem collect_in (n : Nat) (hn : 4 ≤ n) (w : World) (Bb Bw : Nat) (A : Option Addr) (l : List UInt8) (c m : Nat) (hm : 0 < m ∧ m ≤ 64) (hL : l.length ≤ 1048576) (h : Bs w A l c) (hT : Tab w)
    (hbb : ∀ w', Ext w w' → w'.cell? ⟨Bb, 0, none⟩ = some (.slice A l.length c)) (hbw : ∀ w', Ext w w' → w'.cell? ⟨Bw, 0, none⟩ = some (.int .i64 m)) :
    CallsIn Fence.wide n Tryd.prog 63 #[.func (.func 64) #[] #[.pointer (some ⟨Bb, 0, none⟩), .pointer (some ⟨Bw, 0, none⟩)]] w fun e W' => ∃ v, e = .returned v ∧ OwnL vstr 9 w W' v (linesH l m (nH l.length m)) ∧ Ext w W' := by
  have h1 : 1 ≤ n := by omega
  have HNL := nH_le (n := l.length) hm.1
  obtain ⟨i0, hi, hz0, hz1, hz2⟩ := info_parts E_str.hi
  refine callsIn_of_wp_marks Tryd.func63 rfl trivial ?_ rfl
  simp only [Tryd.ntmps63, List.size_toArray, List.length_cons, List.length_nil, Nat.reduceAdd, Nat.reduceSub, Array.replicate_succ, Array.replicate_zero, List.push_toArray, List.append_toArray, List.nil_append, List.cons_append]
  gi_wp2
  have bO := Boxed.new (w.alloc (.cells #[] 9)) 26 (.slice (some ⟨w.heap.size, 0, none⟩) 0 0)
  have rO := Own.ext (Own.empty (e := 9) (size := 1) (Ext.refl w)) (Ext_alloc (.cells #[.slice (some ⟨w.heap.size, 0, none⟩) 0 0] 26) (Ext.refl _))
  rw [World.size_alloc] at bO
  have hB0 : Below w.heap.size w ((w.alloc (.cells #[] 9)).alloc (.cells #[.slice (some ⟨w.heap.size, 0, none⟩) 0 0] 26)) := ((Below.refl _ w).alloc (Nat.le_refl _) _).alloc (by simp) _
  have hnn : 26 ≠ 9 := by decide
  refine wpIn_rangeFunc_ownG (α := ByteArray) rfl h1 (gf := 64) (lb := #[.pointer (some ⟨Bb, 0, none⟩), .pointer (some ⟨Bw, 0, none⟩)]) rfl trivial (enters_of Tryd.func64 (by kernel_rfl) rfl)
    (encs := fun x => #[.string x]) (Kp := Below w.heap.size) (S := fun ys => ys = linesH l m (nH l.length m)) (Sp := fun _ => True) (N := nH l.length m)
    (fun lp J Jx W hW hJ _ hY h0 => hexIt_in (n - 1) (by omega) lp w W Bb Bw A l c m hm hL h hT hbb hbw J Jx hJ hY (hB0.trans (hW.mono (by simp; omega))) h0)
    belowK_t (belowK_b (by simp; omega)) (Below.refl _ _) (fun _ => rfl)
    (fun (pre : List ByteArray) W => (∃ v, Boxed W (w.heap.size + 1) 26 v ∧ W.ownsRow w.heap.size 9 1 v pre.length (pre.map vstr) ∧ True) ∧ Below w.heap.size w W)
    (fun _ _ _ => False)
    (OwnFrom.and (Go.Own.from (holdsRow_own w.heap.size (w.heap.size + 1) 26 9 1 (fun (pre : List ByteArray) => pre.length) (fun (pre : List ByteArray) => pre.map vstr) (fun _ _ => True)) _) (ownFrom_below (Nat.le_refl _) (by simp; omega)))
    (fun _ _ _ _ _ hs _ _ => hs)
    ⟨⟨_, bO, rO, trivial⟩, hB0⟩
    (fun x => { tmps := #[.func (.func 64) #[] #[.pointer (some ⟨Bb, 0, none⟩), .pointer (some ⟨Bw, 0, none⟩)], undef, .slice none 0 0, .pointer (some ⟨w.heap.size + 1, 0, none⟩), .string x, .slice (some ⟨w.heap.size, 0, none⟩) 0 0, .func (.func 64) #[] #[.pointer (some ⟨Bb, 0, none⟩), .pointer (some ⟨Bw, 0, none⟩)], .string x, undef, undef, undef, undef, undef], defers := [] }) ?assign ?body ?done ?stop
  case assign =>
    intro l x W K hK
    gi_wp2
    exact hK
  case body =>
    rintro lp pre x W ⟨⟨v, hv, hrow, _⟩, hB⟩ hlt
    have hc := hv.cell
    have hb1 : pre.length + 1 ≤ maxLen := by simp only [maxLen]; omega
    have hb2 : (pre.length + 1) * 16 ≤ 140737488355328 := by omega
    gi_wp2_with (gi_at_builtin; refine wpListIn_append_own _ rfl _ _ 26 rfl w.heap.size 9 i0 (.string ⟨#[]⟩) 1 16 Tryd.underlying26 hi hz0 hz1 hz2 rfl (by decide) _ _ _ rfl (hrow.alloc _) ⟨W.heap.size, 0, none⟩ 1 1 [.string x] rfl rfl (cell_one_new _ _ _) (by simp [Value.oneCell']) hb1 hb2 (by have := hB.size; simp; omega) ?_; intro v' w2 hown' hgrow _; obtain ⟨g', cap', rfl⟩ := ownsRow_succ hown'; obtain ⟨hv1, hv2, hr2, hk2, hb2'⟩ := hv.appended hnn hrow hB.size (by omega) hown' hgrow; have hc1 := hv1.cell; have hf1 := hv1.frozen)
    exact ⟨hk2.from _, hb2', ⟨_, hv2, by simpa [vstr] using hr2, trivial⟩, hB.trans hb2'⟩
  case done =>
    rintro D ys W hD rfl ⟨⟨v, hv, hrow, _⟩, hB⟩ hK
    have hc := hv.cell
    gi_wp2
    refine ⟨by simp, .inl ⟨_, _, rfl, run_takeDeferred hK, ?_⟩⟩
    exact ⟨_, results_tmp rfl _ _ _, v, rfl, ownsRow_putObj hrow _ hK rfl, hB.trans (belowK_b (w := w) (Nat.le_refl _) W D _ _ (by simp at hD; omega) hK rfl rfl)⟩
  case stop =>
    rintro D c pre W _ _ h _
    exact h.elim
end Go.Proofs.YtdbbdoldndnbhaaDoor

/- Worlds that differ in blocks of a stretch, and in new ones. -/
namespace Go.Proofs.YtdbbdoldndnbhaaDoor
open Go.RowKit Go.Sort

/-- w' is w with new blocks, and writes to blocks from lo on, below hi -/
structure Wrote (lo hi : Nat) (w w' : World) : Prop where
  os : w'.os = w.os
  tape : w'.tape = w.tape
  output : w'.output = w.output
  size : w.heap.size ≤ w'.heap.size
  block : ∀ k, k < w.heap.size → (k < lo ∨ hi ≤ k) → w'.heap[k]? = w.heap[k]?
theorem Wrote.refl (lo hi : Nat) (w : World) : Wrote lo hi w w := ⟨rfl, rfl, rfl, Nat.le_refl _, fun _ _ _ => rfl⟩
theorem Wrote.trans {lo hi : Nat} {a b c : World} (h : Wrote lo hi a b) (k : Wrote lo hi b c) : Wrote lo hi a c :=
  ⟨k.os.trans h.os, k.tape.trans h.tape, k.output.trans h.output, Nat.le_trans h.size k.size, fun i hi hb => (k.block i (Nat.lt_of_lt_of_le hi h.size) hb).trans (h.block i hi hb)⟩
theorem Wrote.mono {lo hi lo' hi' : Nat} {a b : World} (h : Wrote lo hi a b) (h1 : lo' ≤ lo) (h2 : hi ≤ hi') : Wrote lo' hi' a b :=
  ⟨h.os, h.tape, h.output, h.size, fun i hi hb => h.block i hi (by omega)⟩
theorem Wrote.ext {lo hi : Nat} {w w' : World} (e : Ext w w') : Wrote lo hi w w' := ⟨e.os, e.tape, e.output, e.size, fun i hi _ => Below.block e i hi⟩
theorem Wrote.grown {lo hi : Nat} {w w' : World} {row : Option Nat} (h : w.grownBy w' row) (hr : ∀ g, row = some g → lo ≤ g ∧ g < hi) : Wrote lo hi w w' :=
  ⟨h.os, h.tape, h.output, h.size, fun i hi hb => h.block i hi (fun e => by have := hr i e.symm; omega)⟩
theorem Wrote.set {lo hi : Nat} (w : World) (a : Addr) (u : Value) (h1 : lo ≤ a.block) (h2 : a.block < hi) : Wrote lo hi w (w.setCell a u) :=
  Wrote.grown (grown_set w a u) (fun g hg => by injection hg with hg; subst hg; exact ⟨h1, h2⟩)
/-- what was there before lo stays -/
theorem Wrote.below {lo hi : Nat} {w0 w w' : World} (h : Wrote lo hi w w') (e : Ext w0 w) (hlo : w0.heap.size ≤ lo) : Ext w0 w' :=
  Below.trans e ⟨h.os, h.tape, h.output, h.size, fun k hk => h.block k (Nat.lt_of_lt_of_le hk e.size) (.inl (Nat.lt_of_lt_of_le hk hlo))⟩
theorem Own.wrote {e : TypeId} {size : Nat} {w0 w w' : World} {v : Value} {n : Nat} {xs : List Value} (h : Own e size w0 w v n xs) {lo hi : Nat} (hw : Wrote lo hi w w') (hv : ∀ g, v.ownBlock = some g → g < lo ∨ hi ≤ g) : Own e size w0 w' v n xs := by
  refine ⟨h.1, ?_⟩
  rcases h.2 with h0 | ⟨g, cap, cur, rfl, hb, hg, r⟩
  · exact .inl h0
  · exact .inr ⟨g, cap, cur, rfl, hb, (hw.block g (Array.getElem?_eq_some_iff.1 hg).1 (hv g rfl)).trans hg, r⟩
theorem OwnL.wrote {α : Type} {f : α → Value} {e : TypeId} {w0 w w' : World} {v : Value} {l : List α} (h : OwnL f e w0 w v l) {lo hi : Nat} (hw : Wrote lo hi w w') (hv : ∀ g, v.ownBlock = some g → g < lo ∨ hi ≤ g) : OwnL f e w0 w' v l := Own.wrote h hw hv
/-- .. made behind the stretch -/
theorem OwnL.behind {α : Type} {f : α → Value} {e : TypeId} {w0 w w' : World} {v : Value} {l : List α} (h : OwnL f e w0 w v l) {lo hi : Nat} (hw : Wrote lo hi w w') (hb : hi ≤ w0.heap.size) : OwnL f e w0 w' v l :=
  h.wrote hw (fun g hg => .inr (Nat.le_trans hb (World.ownsRow.lt h g hg).1))
end Go.Proofs.YtdbbdoldndnbhaaDoor

/- The laws' marks on descriptions and registries: what they leave, and that no other block turns. -/
namespace Go.Proofs.YtdbbdoldndnbhaaDoor
open Go.RowKit Go.Sort

def mkT (k : Nat) (i : Nat) : Value := .string (markT (k + i))
set_option maxHeartbeats 1000000 in
theorem markStringS_c (A : Option Addr) (n c : Nat) (k : Nat) (xs : List Value) (w0 w : World) (ho : Own 9 1 w0 w (.slice A n c) n xs) (hk : 0 < k) (hk2 : k + n ≤ 1099511627776) :
    Calls Tryd.prog 15 #[.slice A n c, .int .i64 k] w fun e w' => e = .returned (.int .i64 ((k + n : Nat) : Int)) ∧ Own 9 1 w0 w' (.slice A n c) n ((List.range n).map (mkT k)) ∧ w.grownBy w' (Value.slice A n c).ownBlock := by
  have hxn : xs.length = n := by have := ho.1; omega
  go_enter Tryd.func15, Tryd.ntmps15
  go_wp2
  go_loopw [1, 5] (fun kk i wr => ∃ j : Nat, j ≤ n ∧ i = .int .i64 j ∧ kk = .int .i64 ((k + j : Nat) : Int) ∧ Own 9 1 w0 wr (.slice A n c) n ((List.range j).map (mkT k) ++ xs.drop j) ∧ w.grownBy wr (Value.slice A n c).ownBlock) (fun _ i _ => n - (intOf i).toNat)
  case atStart => exact ⟨0, by omega, rfl, by simp, by simpa using ho, World.grownBy.refl _ _⟩
  case round =>
    clear ho
    obtain ⟨j, hj, rfl, rfl, ho, hg⟩ := hrel
    by_cases hlt : j < n
    · obtain ⟨g, c', hv, hb, hs⟩ := World.ownsRow.form ho (by omega)
      injection hv with hA _ hc
      subst hA; subst hc
      have HO := Lib.hid ho; have HG := Lib.hid hg
      clear ho hg
      go_wp2_with fail
      refine (markText_c (k + j) _ (by omega) (by omega)).mono ?_; rintro _ w1 ⟨rfl, he1⟩
      have ho1 := Own.ext HO.out he1
      obtain ⟨⟨u0, hu⟩, hf⟩ := ho1.slot j (by simp; omega)
      have hg2 := (HG.out.trans (grown_ext he1 _)).trans (ho1.stored j (mkT k j)).2
      have ho' := (ho1.stored j (mkT k j)).1
      rw [mark_step (mkT k) xs j n hxn hlt] at ho'
      have H1 := Lib.hid ho'; have H3 := Lib.hid hg2
      clear ho1 ho' hg2 HO HG
      go_wp2
      go_roundw
      case rel => exact ⟨j+1, by omega, by go_num, by go_num, H1.out, H3.out⟩
      case measure => simp [intOf]; omega
    · obtain rfl : j = n := by omega
      have H1 := Lib.hid ho; have H3 := Lib.hid hg
      clear ho hg
      go_wp2
      go_ret
      exact ⟨rfl, by have := H1.out; rw [List.drop_of_length_le (by omega)] at this; simpa using this, H3.out⟩
/-- how many marks a rule takes -/
def mlen (r : DRule) : Nat := 4 + r.bytes.length + r.names.length + r.tags.length + r.kids.length
def mkCells (m : Nat × RV) : List Value := [.string (markT m.1), .int .i64 ((m.1 : Int) + 1), .int .i64 ((m.1 : Int) + 2), .bool (((m.1 : Int) + 3) % 3 == 0), m.2.vb, m.2.vn, m.2.vt, m.2.vk]
def msR : Nat → List RV → List (Nat × RV)
  | _, [] => []
  | k, p :: t => (k, p) :: msR (k + mlen p.r) t
def kEndR : Nat → List RV → Nat
  | k, [] => k
  | k, p :: t => kEndR (k + mlen p.r) t
theorem msR_append (k : Nat) (a b : List RV) : msR k (a ++ b) = msR k a ++ msR (kEndR k a) b := by
  induction a generalizing k with
  | nil => rfl
  | cons p t ih => simp [msR, kEndR, ih]
theorem kEndR_append (k : Nat) (a b : List RV) : kEndR k (a ++ b) = kEndR (kEndR k a) b := by
  induction a generalizing k with
  | nil => rfl
  | cons p t ih => simp [kEndR, ih]
theorem msR_length (k : Nat) (a : List RV) : (msR k a).length = a.length := by
  induction a generalizing k with
  | nil => rfl
  | cons p t ih => simp [msR, ih]
theorem mkCells_len (ms : List (Nat × RV)) : (ms.flatMap mkCells).length = ms.length * 8 := by
  induction ms with
  | nil => rfl
  | cons p t ih => rw [List.flatMap_cons, List.length_append, ih, List.length_cons]; simp [mkCells]; omega
theorem kEndR_ge (k : Nat) (a : List RV) : k ≤ kEndR k a := by
  induction a generalizing k with
  | nil => simp [kEndR]
  | cons p t ih => have := ih (k + mlen p.r); simp only [kEndR]; omega
theorem kEndR_mono (k : Nat) (a : List RV) (i : Nat) : kEndR k (a.take i) ≤ kEndR k a := by
  conv => rhs; rw [← List.take_append_drop i a, kEndR_append]
  exact kEndR_ge _ _
theorem kEndR_eq (k : Nat) (a : List RV) : kEndR k a = k + (a.map fun p => mlen p.r).sum := by
  induction a generalizing k with
  | nil => simp [kEndR]
  | cons p t ih => rw [kEndR, ih, List.map_cons, List.sum_cons]; omega
theorem mlen_le (r : DRule) : mlen r ≤ 4 + szRl r := by unfold mlen szRl; omega
theorem kEndR_sz (k : Nat) (a : List RV) : kEndR k a ≤ k + 4 * a.length + ((rulesOf a).map szRl).sum := by
  rw [kEndR_eq]
  induction a with
  | nil => simp [rulesOf]
  | cons p t ih => have := mlen_le p.r; simp only [List.map_cons, List.sum_cons, List.length_cons, rulesOf] at *; omega
/-- four cells of a rule are laid -/
theorem mark_rowR (ms : List (Nat × RV)) (p : RV) (rest : List RV) (k i : Nat) (hi : ms.length = i) :
    ((((ms.flatMap mkCells ++ (p :: rest).flatMap RV.cells).set (i * 8) (.string (markT k))).set (i * 8 + 1) (.int .i64 ((k : Int) + 1))).set (i * 8 + 2) (.int .i64 ((k : Int) + 2))).set (i * 8 + 3) (.bool (((k : Int) + 3) % 3 == 0)) = (ms ++ [(k, p)]).flatMap mkCells ++ rest.flatMap RV.cells := by
  have hl : (ms.flatMap mkCells).length = i * 8 := by rw [mkCells_len, hi]
  rw [List.set_append_right _ _ (by omega), List.set_append_right _ _ (by omega), List.set_append_right _ _ (by omega), List.set_append_right _ _ (by omega), hl]
  rw [show i * 8 - i * 8 = 0 by omega, show i * 8 + 1 - i * 8 = 1 by omega, show i * 8 + 2 - i * 8 = 2 by omega, show i * 8 + 3 - i * 8 = 3 by omega]
  simp [RV.cells, mkCells, List.flatMap_cons]
theorem mk_getR (ms : List (Nat × RV)) (k : Nat) (p : RV) (rest : List Value) (i m : Nat) (hi : ms.length = i) (hm : m < 8) :
    ((ms ++ [(k, p)]).flatMap mkCells ++ rest)[i * 8 + m]? = (mkCells (k, p))[m]? := by
  have hl : (ms.flatMap mkCells).length = i * 8 := by rw [mkCells_len, hi]
  rw [List.flatMap_append, List.flatMap_cons, List.flatMap_nil, List.append_nil, List.append_assoc, List.getElem?_append_right (by omega), hl, show i * 8 + m - i * 8 = m by omega, List.getElem?_append_left (by simp [mkCells]; omega)]
/-- a rule's slices, marked from k on -/
structure RuleMarked (w0 w : World) (k : Nat) (p : RV) : Prop where
  b : Own 5 1 w0 w p.vb p.r.bytes.length ((List.range p.r.bytes.length).map (mk8 ((k : Int) + 4)))
  n : Own 9 1 w0 w p.vn p.r.names.length ((List.range p.r.names.length).map (mkT (k + 4 + p.r.bytes.length)))
  t : Own 3 1 w0 w p.vt p.r.tags.length ((List.range p.r.tags.length).map (mkI ((k + 4 + p.r.bytes.length + p.r.names.length : Nat) : Int)))
  k : Own 3 1 w0 w p.vk p.r.kids.length ((List.range p.r.kids.length).map (mkI ((k + 4 + p.r.bytes.length + p.r.names.length + p.r.tags.length : Nat) : Int)))
theorem RuleMarked.keep {w0 w w' : World} {k : Nat} {p : RV} (h : RuleMarked w0 w k p) {row : Option Nat} (hg : w.grownBy w' row) (hne : ∀ v ∈ p.vals, ∀ g, v.ownBlock = some g → row ≠ some g) : RuleMarked w0 w' k p :=
  ⟨h.b.keep hg (hne _ (by simp [RV.vals])), h.n.keep hg (hne _ (by simp [RV.vals])), h.t.keep hg (hne _ (by simp [RV.vals])), h.k.keep hg (hne _ (by simp [RV.vals]))⟩
theorem RuleMarked.ext {w0 w w' : World} {k : Nat} {p : RV} (h : RuleMarked w0 w k p) (e : Ext w w') : RuleMarked w0 w' k p := ⟨h.b.ext e, h.n.ext e, h.t.ext e, h.k.ext e⟩
/-- marked rules that the call since w0 made: the first i of them are marked -/
structure MarkingR (w0 w : World) (g c : Nat) (ps : List RV) (k i : Nat) : Prop where
  row : Own 69 8 w0 w (.slice (some ⟨g, 0, none⟩) ps.length c) ps.length ((msR k (ps.take i)).flatMap mkCells ++ (ps.drop i).flatMap RV.cells)
  done : ∀ j (h : j < ps.length), j < i → RuleMarked w0 w (kEndR k (ps.take j)) ps[j]
  todo : ∀ j (h : j < ps.length), i ≤ j → RuleOwn w0 w ps[j]
theorem far_parts {v : Value} {ps : List RV} (h : Far (v :: ps.flatMap RV.vals)) :
    (∀ j (hj : j < ps.length), ∀ u ∈ ps[j].vals, ∀ g, v.ownBlock = some g → u.ownBlock ≠ some g) ∧ (∀ i j (hi : i < ps.length) (hj : j < ps.length), i ≠ j → ∀ u ∈ ps[i].vals, ∀ x ∈ ps[j].vals, ∀ g, u.ownBlock = some g → x.ownBlock ≠ some g) ∧ (∀ j (hj : j < ps.length), Far ps[j].vals) := by
  unfold Far at h
  rw [List.pairwise_cons] at h
  obtain ⟨h1, h2⟩ := h
  rw [List.pairwise_flatMap] at h2
  refine ⟨fun j hj u hu g hg => h1 u (List.mem_flatMap.2 ⟨_, List.getElem_mem hj, hu⟩) g hg, fun i j hi hj hne u hu x hx g hg hg' => ?_, fun j hj => h2.1 _ (List.getElem_mem hj)⟩
  have hp := List.pairwise_iff_getElem.1 h2.2
  rcases Nat.lt_or_ge i j with hlt | hge
  · exact hp i j hi hj hlt u hu x hx g hg hg'
  · exact hp j i hj hi (by omega) x hx u hu g hg' hg
theorem far4 {p : RV} (h : Far p.vals) : (∀ g, p.vb.ownBlock = some g → p.vn.ownBlock ≠ some g) ∧ (∀ g, p.vb.ownBlock = some g → p.vt.ownBlock ≠ some g) ∧ (∀ g, p.vb.ownBlock = some g → p.vk.ownBlock ≠ some g) ∧
    (∀ g, p.vn.ownBlock = some g → p.vt.ownBlock ≠ some g) ∧ (∀ g, p.vn.ownBlock = some g → p.vk.ownBlock ≠ some g) ∧ (∀ g, p.vt.ownBlock = some g → p.vk.ownBlock ≠ some g) := by
  unfold Far RV.vals at h
  rw [List.pairwise_cons, List.pairwise_cons, List.pairwise_cons] at h
  obtain ⟨h1, h2, h3, _⟩ := h
  exact ⟨fun g hg => h1 _ (by simp) g hg, fun g hg => h1 _ (by simp) g hg, fun g hg => h1 _ (by simp) g hg, fun g hg => h2 _ (by simp) g hg, fun g hg => h2 _ (by simp) g hg, fun g hg => h3 _ (by simp) g hg⟩
theorem len_mlen : ∀ ps : List RV, ps.length ≤ (ps.map fun p => mlen p.r).sum
  | [] => by simp
  | p :: t => by
    have := len_mlen t
    have h : 1 ≤ mlen p.r := by unfold mlen; omega
    simp only [List.map_cons, List.sum_cons, List.length_cons]; omega
theorem cells_getR (ms : List (Nat × RV)) (p : RV) (rest : List RV) (i m : Nat) (hi : ms.length = i) (hm : m < 8) :
    (ms.flatMap mkCells ++ (p :: rest).flatMap RV.cells)[i * 8 + m]? = p.cells[m]? := by
  have hl : (ms.flatMap mkCells).length = i * 8 := by rw [mkCells_len, hi]
  rw [List.getElem?_append_right (by omega), hl, show i * 8 + m - i * 8 = m by omega, List.flatMap_cons, List.getElem?_append_left (by simp [RV.cells]; omega)]
end Go.Proofs.YtdbbdoldndnbhaaDoor

/- The laws' marks laid over rules. -/
namespace Go.Proofs.YtdbbdoldndnbhaaDoor
open Go.RowKit Go.Sort

set_option maxRecDepth 100000 in
set_option maxHeartbeats 8000000 in
theorem markRuleS_c (g c : Nat) (ps : List RV) (k : Nat) (w0 w : World) (hi : Nat) (h : OwnD w0 w (.slice (some ⟨g, 0, none⟩) ps.length c) ps) (hB : ∀ u ∈ (Value.slice (some ⟨g, 0, none⟩) ps.length c) :: ps.flatMap RV.vals, ∀ b, u.ownBlock = some b → w0.heap.size ≤ b ∧ b < hi) (hk : 0 < k) (hk2 : kEndR k ps ≤ 1099511627776) (hs : ∀ p ∈ ps, ShortR p.r) :
    Calls Tryd.prog 52 #[.slice (some ⟨g, 0, none⟩) ps.length c, .int .i64 k] w fun e w' => e = .returned (.int .i64 (kEndR k ps : Nat)) ∧ MarkingR w0 w' g c ps k ps.length ∧ Wrote w0.heap.size hi w w' := by
  obtain ⟨f1, f2, f3⟩ := far_parts h.far
  have HF1 := Lib.hid (fun j hj u hu => f1 j hj u hu g rfl); have HF2 := Lib.hid f2; have HF3 := Lib.hid f3
  have hgB := hB _ (List.mem_cons_self ..) g rfl
  have HB : Hid (∀ p ∈ ps, ∀ v ∈ p.vals, ∀ b, v.ownBlock = some b → w0.heap.size ≤ b ∧ b < hi) := fun p hp v hv b hb => hB v (List.mem_cons_of_mem _ (List.mem_flatMap.2 ⟨p, hp, hv⟩)) b hb
  have HM : Hid (MarkingR w0 w g c ps k 0) := ⟨by simpa [msR] using h.row, fun j _ hj => by omega, fun j hj _ => h.each _ (List.getElem_mem hj)⟩
  have hn : ps.length ≤ 140737488351232 := by
    rw [kEndR_eq] at hk2
    have := len_mlen ps
    omega
  clear h f1 f2 f3 hB
  go_enter Tryd.func52, Tryd.ntmps52
  go_wp2
  go_loopw [1, 5] (fun kk i wr => ∃ j : Nat, j ≤ ps.length ∧ i = .int .i64 j ∧ kk = .int .i64 (kEndR k (ps.take j) : Nat) ∧ Hid (MarkingR w0 wr g c ps k j) ∧ Wrote w0.heap.size hi w wr) (fun _ i _ => ps.length - (intOf i).toNat)
  case atStart => exact ⟨0, by omega, rfl, rfl, HM, Wrote.refl _ _ _⟩
  case round =>
    clear HM
    obtain ⟨j, hj, rfl, rfl, hm, hw⟩ := hrel
    by_cases hlt : j < ps.length
    · have HKn : Hid (kEndR k (ps.take (j+1)) = kEndR k (ps.take j) + mlen ps[j].r) := by
        show _ = _; rw [List.take_succ_eq_append_getElem hlt, kEndR_append]; rfl
      have hKe := kEndR_mono k ps (j+1)
      rw [HKn.out] at hKe
      have hK0 := kEndR_ge k (ps.take j)
      have hsj := hs _ (List.getElem_mem hlt)
      have hbj := HB.out _ (List.getElem_mem hlt)
      obtain ⟨m1, m2, m3⟩ := hm.out
      have hrj := m3 j hlt (Nat.le_refl _)
      have hdrop : ps.drop j = ps[j] :: ps.drop (j+1) := List.drop_eq_getElem_cons hlt
      rw [hdrop] at m1
      have hml : (msR k (ps.take j)).length = j := by rw [msR_length, List.length_take]; omega
      have hrow := mark_rowR (msR k (ps.take j)) ps[j] (ps.drop (j+1)) (kEndR k (ps.take j)) j hml
      have hnext : msR k (ps.take j) ++ [(kEndR k (ps.take j), ps[j])] = msR k (ps.take (j+1)) := by
        rw [List.take_succ_eq_append_getElem hlt, msR_append]; rfl
      have hget := fun m hm => mk_getR (msR k (ps.take j)) (kEndR k (ps.take j)) ps[j] ((ps.drop (j+1)).flatMap RV.cells) j m hml hm
      have HF1j := Lib.hid (HF1.out j hlt)
      have HF2j : Hid (∀ i (hi : i < ps.length), i ≠ j → ∀ u ∈ ps[i].vals, ∀ x ∈ ps[j].vals, ∀ b, x.ownBlock = some b → u.ownBlock ≠ some b) := fun i hi hne u hu x hx b hb hb' => HF2.out i j hi hlt hne u hu x hx b hb' hb
      have HF3j := Lib.hid (HF3.out j hlt)
      have HNX : Hid (MarkingR w0 wr g c ps k j) := hm
      rw [hnext] at hrow hget
      obtain ⟨K, hK⟩ : ∃ K, kEndR k (ps.take j) = K := ⟨_, rfl⟩
      rw [hK] at hrow hget hKe hK0 HKn
      have HK := Lib.hid hK
      have hgx := cells_getR (msR k (ps.take j)) ps[j] (ps.drop (j+1)) j 4 hml (by omega)
      obtain ⟨xs, hxs⟩ : ∃ xs, (msR k (ps.take j)).flatMap mkCells ++ (ps[j] :: ps.drop (j+1)).flatMap RV.cells = xs := ⟨_, rfl⟩
      rw [hxs] at m1 hrow hgx
      simp only [RV.cells, List.getElem?_cons_succ, List.getElem?_cons_zero] at hgx
      obtain ⟨ys, hys⟩ : ∃ ys, (msR k (ps.take (j+1))).flatMap mkCells ++ (ps.drop (j+1)).flatMap RV.cells = ys := ⟨_, rfl⟩
      have HYS := Lib.hid hys
      rw [hys] at hrow hget
      have hxl : xs.length = ps.length * 8 := m1.1
      obtain ⟨Ab, cb, An, cn, At, ct, Ak, ck, v1, v2, v3, v4, _⟩ := hrj.rd hsj
      have HG4 := hget 4 (by omega); have HG5 := hget 5 (by omega); have HG6 := hget 6 (by omega); have HG7 := hget 7 (by omega)
      simp only [mkCells, List.getElem?_cons_succ, List.getElem?_cons_zero] at HG4 HG5 HG6 HG7
      rw [v1] at hgx
      have HGX := Lib.hid hgx
      rw [v1] at HG4; rw [v2] at HG5; rw [v3] at HG6; rw [v4] at HG7
      have L4 := Lib.hid HG4; have L5 := Lib.hid HG5; have L6 := Lib.hid HG6; have L7 := Lib.hid HG7
      have HR := Lib.hid hrow; have Hm1 := Lib.hid m1; have Hm2 := Lib.hid m2; have Hm3 := Lib.hid m3; have HXL := Lib.hid hxl; have V1 := Lib.hid v1; have V2 := Lib.hid v2; have V3 := Lib.hid v3; have V4 := Lib.hid v4
      have HBJ := Lib.hid hbj; have HRJ := Lib.hid hrj
      have hmlen : mlen ps[j].r = 4 + ps[j].r.bytes.length + ps[j].r.names.length + ps[j].r.tags.length + ps[j].r.kids.length := rfl
      have HML := Lib.hid hmlen
      rw [hmlen] at hKe
      have HSJ := Lib.hid hsj
      have MT : Hid (∀ w, Gives Tryd.prog 53 #[.int .i64 (K : Int)] w (.string (markT K))) := fun w => markText_c K w (by omega) (by omega)
      rw [hK]
      clear hgx hrow m1 m2 m3 hxs hys hget HG4 HG5 HG6 HG7 v1 v2 v3 v4 hdrop hml hnext hK hxl hbj hrj hmlen hsj hm
      have hr0 := Hm1.out
      have hxl := HXL.out
      go_wp2_with fail
      refine (MT.out _).mono ?_; rintro _ w1 ⟨rfl, he1⟩
      have hr1 := Own.ext Hm1.out he1
      obtain ⟨⟨u0, hu0⟩, hf0⟩ := hr1.slot (j * 8) (by rw [hxl]; omega)
      obtain ⟨⟨u1, hu1⟩, hf1⟩ := hr1.slot (j * 8 + 1) (by rw [hxl]; omega)
      obtain ⟨⟨u2, hu2⟩, hf2⟩ := hr1.slot (j * 8 + 2) (by rw [hxl]; omega)
      obtain ⟨⟨u3, hu3⟩, hf3⟩ := hr1.slot (j * 8 + 3) (by rw [hxl]; omega)
      have hu4 : w1.cell? ⟨g, j * 8 + 4, none⟩ = some (.slice Ab ps[j].r.bytes.length cb) := by rw [hr1.cellAt (j * 8 + 4) (by omega)]; exact HGX.out
      have HO1 : Hid (Own 69 8 w0 ((((w1.setCell ⟨g, j * 8, none⟩ (.string (markT K))).setCell ⟨g, j * 8 + 1, none⟩ (.int .i64 ((K : Int) + 1))).setCell ⟨g, j * 8 + 2, none⟩ (.int .i64 ((K : Int) + 2))).setCell ⟨g, j * 8 + 3, none⟩ (.bool (((K : Int) + 3) % 3 == 0))) (.slice (some ⟨g, 0, none⟩) ps.length c) ps.length ys) := by
        have := (((hr1.stored (j * 8) (.string (markT K))).1.stored (j * 8 + 1) (.int .i64 ((K : Int) + 1))).1.stored (j * 8 + 2) (.int .i64 ((K : Int) + 2))).1.stored (j * 8 + 3) (.bool (((K : Int) + 3) % 3 == 0))
        have := this.1
        rw [HR.out] at this
        exact this
      have G1 : Hid (wr.grownBy ((((w1.setCell ⟨g, j * 8, none⟩ (.string (markT K))).setCell ⟨g, j * 8 + 1, none⟩ (.int .i64 ((K : Int) + 1))).setCell ⟨g, j * 8 + 2, none⟩ (.int .i64 ((K : Int) + 2))).setCell ⟨g, j * 8 + 3, none⟩ (.bool (((K : Int) + 3) % 3 == 0))) (some g)) :=
        ((((grown_ext he1 (some g)).trans (grown_set _ ⟨g, j * 8, none⟩ _)).trans (grown_set _ ⟨g, j * 8 + 1, none⟩ _)).trans (grown_set _ ⟨g, j * 8 + 2, none⟩ _)).trans (grown_set _ ⟨g, j * 8 + 3, none⟩ _)
      clear hr1 hr0
      go_wp2_with fail
      rw [show (K : Int) + 1 + 1 + 1 + 1 = (K : Int) + 4 by omega, show (K : Int) + 1 + 1 + 1 = (K : Int) + 3 by omega, show (K : Int) + 1 + 1 = (K : Int) + 2 by omega]
      generalize ((((w1.setCell ⟨g, j * 8, none⟩ (.string (markT K))).setCell ⟨g, j * 8 + 1, none⟩ (.int .i64 ((K : Int) + 1))).setCell ⟨g, j * 8 + 2, none⟩ (.int .i64 ((K : Int) + 2))).setCell ⟨g, j * 8 + 3, none⟩ (.bool (((K : Int) + 3) % 3 == 0))) = W1 at *
      clear hu0 hu1 hu2 hu3 hf0 hf1 hf2 hf3 hu4
      have R1 := Lib.hid (HRJ.out.keep G1.out (fun v hv b hb he => HF1j.out v hv (hb.trans he.symm)))
      obtain ⟨d1, d2, d3, d4, d5, d6⟩ := far4 HF3j.out
      have D1 := Lib.hid d1; have D2 := Lib.hid d2; have D3 := Lib.hid d3; have D4 := Lib.hid d4; have D5 := Lib.hid d5; have D6 := Lib.hid d6
      clear d1 d2 d3 d4 d5 d6
      have ob := R1.out.b
      rw [V1.out] at ob
      refine (markByteS_c Ab _ cb ((K : Int) + 4) _ w0 _ ob (by omega) (by omega)).mono ?_; rintro _ w2 ⟨rfl, om1, g2⟩
      rw [← V1.out] at om1 g2
      have M1 := Lib.hid om1; have G2 := Lib.hid g2
      have HO2 := Lib.hid (HO1.out.keep g2 (fun b hb he => HF1j.out ps[j].vb (by simp [RV.vals]) (he.trans hb.symm)))
      have c5 : w2.cell? ⟨g, j * 8 + 5, none⟩ = some (.slice An ps[j].r.names.length cn) := by rw [HO2.out.cellAt (j * 8 + 5) (by omega)]; exact L5.out
      clear ob om1 g2
      go_wp2_with fail
      rw [show (K : Int) + 4 + (ps[j].r.bytes.length : Int) = ((K + 4 + ps[j].r.bytes.length : Nat) : Int) by omega]
      have on := R1.out.n.keep G2.out (fun b hb he => D1.out b he hb)
      rw [V2.out] at on
      refine (markStringS_c An _ cn (K + 4 + ps[j].r.bytes.length) _ w0 _ on (by omega) (by omega)).mono ?_; rintro _ w3 ⟨rfl, om2, g3⟩
      rw [← V2.out] at om2 g3
      have M2 := Lib.hid om2; have G3 := Lib.hid g3
      have HO3 := Lib.hid (HO2.out.keep g3 (fun b hb he => HF1j.out ps[j].vn (by simp [RV.vals]) (he.trans hb.symm)))
      have c6 : w3.cell? ⟨g, j * 8 + 6, none⟩ = some (.slice At ps[j].r.tags.length ct) := by rw [HO3.out.cellAt (j * 8 + 6) (by omega)]; exact L6.out
      clear on om2 g3 c5
      go_wp2_with fail
      have ot := (R1.out.t.keep G2.out (fun b hb he => D2.out b he hb)).keep G3.out (fun b hb he => D4.out b he hb)
      rw [V3.out] at ot
      refine (markIntS_c At _ ct ((K + 4 + ps[j].r.bytes.length + ps[j].r.names.length : Nat) : Int) _ w0 _ ot (by omega) (by omega)).mono ?_; rintro _ w4 ⟨rfl, om3, g4⟩
      rw [← V3.out] at om3 g4
      have M3 := Lib.hid om3; have G4 := Lib.hid g4
      have HO4 := Lib.hid (HO3.out.keep g4 (fun b hb he => HF1j.out ps[j].vt (by simp [RV.vals]) (he.trans hb.symm)))
      have c7 : w4.cell? ⟨g, j * 8 + 7, none⟩ = some (.slice Ak ps[j].r.kids.length ck) := by rw [HO4.out.cellAt (j * 8 + 7) (by omega)]; exact L7.out
      clear ot om3 g4 c6
      go_wp2_with fail
      first
        | rw [show ((K + 4 + ps[j].r.bytes.length + ps[j].r.names.length : Nat) : Int) + (ps[j].r.tags.length : Int) = ((K + 4 + ps[j].r.bytes.length + ps[j].r.names.length + ps[j].r.tags.length : Nat) : Int) by omega]
        | rw [show (K : Int) + 4 + (ps[j].r.bytes.length : Int) + (ps[j].r.names.length : Int) + (ps[j].r.tags.length : Int) = ((K + 4 + ps[j].r.bytes.length + ps[j].r.names.length + ps[j].r.tags.length : Nat) : Int) by omega]
        | trace_state
      have okk := ((R1.out.k.keep G2.out (fun b hb he => D3.out b he hb)).keep G3.out (fun b hb he => D5.out b he hb)).keep G4.out (fun b hb he => D6.out b he hb)
      rw [V4.out] at okk
      refine (markIntS_c Ak _ ck ((K + 4 + ps[j].r.bytes.length + ps[j].r.names.length + ps[j].r.tags.length : Nat) : Int) _ w0 _ okk (by omega) (by omega)).mono ?_; rintro _ w5 ⟨rfl, om4, g5⟩
      rw [← V4.out] at om4 g5
      have M4 := Lib.hid om4; have G5 := Lib.hid g5
      have HO5 := Lib.hid (HO4.out.keep g5 (fun b hb he => HF1j.out ps[j].vk (by simp [RV.vals]) (he.trans hb.symm)))
      clear okk om4 g5 c7
      have hfin : MarkingR w0 w5 g c ps k (j + 1) := by
        refine ⟨by rw [HYS.out]; exact HO5.out, fun i hi' hij => ?_, fun i hi' hij => ?_⟩
        · rcases Nat.lt_or_ge i j with hlt' | hge
          · have q := HF2j.out i hi' (by omega)
            exact ((((((Hm2.out i hi' hlt').keep G1.out (fun v hv b hb he => HF1.out i hi' v hv (hb.trans he.symm))).keep G2.out (fun v hv b hb he => q v hv _ (by simp [RV.vals]) b he hb)).keep G3.out (fun v hv b hb he => q v hv ps[j].vn (by simp [RV.vals]) b he hb)).keep G4.out (fun v hv b hb he => q v hv ps[j].vt (by simp [RV.vals]) b he hb)).keep G5.out (fun v hv b hb he => q v hv ps[j].vk (by simp [RV.vals]) b he hb))
          · obtain rfl : i = j := by omega
            rw [HK.out]
            exact ⟨((M1.out.keep G3.out D1.out).keep G4.out D2.out).keep G5.out D3.out, (M2.out.keep G4.out D4.out).keep G5.out D5.out, M3.out.keep G5.out D6.out, M4.out⟩
        · have q := HF2j.out i hi' (by omega)
          exact ((((((Hm3.out i hi' (by omega)).keep G1.out (fun v hv b hb he => HF1.out i hi' v hv (hb.trans he.symm))).keep G2.out (fun v hv b hb he => q v hv _ (by simp [RV.vals]) b he hb)).keep G3.out (fun v hv b hb he => q v hv ps[j].vn (by simp [RV.vals]) b he hb)).keep G4.out (fun v hv b hb he => q v hv ps[j].vt (by simp [RV.vals]) b he hb)).keep G5.out (fun v hv b hb he => q v hv ps[j].vk (by simp [RV.vals]) b he hb))
      have HFIN := Lib.hid hfin
      have HWR : Hid (Wrote w0.heap.size hi w w5) := (((((hw.trans (Wrote.grown G1.out (fun b hb => by injection hb with hb; subst hb; exact hgB))).trans (Wrote.grown G2.out (fun b hb => HBJ.out _ (by simp [RV.vals]) b hb))).trans (Wrote.grown G3.out (fun b hb => HBJ.out _ (by simp [RV.vals]) b hb))).trans (Wrote.grown G4.out (fun b hb => HBJ.out _ (by simp [RV.vals]) b hb))).trans (Wrote.grown G5.out (fun b hb => HBJ.out _ (by simp [RV.vals]) b hb)))
      clear hfin
      go_wp2
      go_roundw
      case rel => exact ⟨j + 1, by omega, by go_num, by rw [HKn.out, HML.out]; go_num, HFIN, HWR.out⟩
      case measure => simp [intOf]; omega
    · obtain rfl : j = ps.length := by omega
      go_wp2
      go_ret
      rw [List.take_length]
      exact ⟨rfl, hm.out, hw⟩
end Go.Proofs.YtdbbdoldndnbhaaDoor

/- The laws' copies of registries. -/
namespace Go.Proofs.YtdbbdoldndnbhaaDoor
open Go.RowKit Go.Sort

theorem descsOf_append (a b : List (Value × List RV)) : descsOf (a ++ b) = descsOf a ++ descsOf b := by simp [descsOf]
end Go.Proofs.YtdbbdoldndnbhaaDoor

/- MergeCoverage of the program and of the reference. -/
namespace Go.Proofs.YtdbbdoldndnbhaaDoor
open Go.RowKit Go.Sort

set_option maxHeartbeats 400000 in
theorem eqIntS_c (A A' : Option Addr) (l l' : List Int) (c c' : Nat) (w : World) (h : Is w A l c) (h' : Is w A' l' c') :
    Gives Tryd.prog 102 #[.slice A l.length c, .slice A' l'.length c'] w (.bool (l == l')) := by
  have hl := h.len; have hl' := h'.len
  by_cases hn : l.length = l'.length
  · have hb1 : ((l.length : Int) != (l'.length : Int)) = false := by simp [hn]
    have H := Lib.hid hn; clear hn
    go_enter Tryd.func102, Tryd.ntmps102
    go_wp2
    go_loopw [5, 4] (fun i v wr => ∃ k : Nat, k ≤ l.length ∧ i = .int .i64 k ∧ Hid (l.take k = l'.take k) ∧ Ext w wr) (fun i _ _ => l.length - (intOf i).toNat)
    case atStart => exact ⟨0, by omega, rfl, by simp [Hid], Ext.refl _⟩
    case round =>
      obtain ⟨k, hk, rfl, ht, he⟩ := hrel
      by_cases hlt : k < l.length
      · have hlt' : k < l'.length := by have := H.out; omega
        obtain ⟨b, off, rfl, hb, hc⟩ := h.at k hlt
        obtain ⟨b', off', rfl, hb', hc'⟩ := h'.at k hlt'
        clear h h'
        go_wp2
        refine wp_region_quiet_below (by kernel_rfl) (by kernel_rfl) ?_
        repeat (go_big_quiet_step (fail))
        refine wpQuiet_nil ?_
        rintro _ ⟨⟨nq, osq⟩, rfl⟩
        go_wp2
        · have hne : (l[k] != l'[k]) = true := by assumption
          go_ret
          refine ⟨ret_bool ?_, Ext_regrown _ _ he⟩
          symm; rw [beq_eq_false_iff_ne]; rintro rfl; simp at hne
        · have hne : (l[k] != l'[k]) = false := by assumption
          go_roundw
          case rel => exact ⟨k+1, by omega, by go_num, take_eq_succ hlt hlt' ht (by simpa using hne), Ext_regrown _ _ he⟩
          case measure => simp [intOf]; omega
      · go_wp2
        go_ret
        refine ⟨ret_bool ?_, he⟩
        have ht := ht.out; have H := H.out
        rw [List.take_of_length_le (by omega), List.take_of_length_le (by omega)] at ht
        simp [ht]
  · have hb1 : ((l.length : Int) != (l'.length : Int)) = true := by simp; omega
    go_enter Tryd.func102, Tryd.ntmps102
    go_wp2
    go_ret
    refine ⟨ret_bool ?_, Ext.refl _⟩
    symm; rw [beq_eq_false_iff_ne]; rintro rfl; exact hn rfl

def at0 (l : List Int) (i : Nat) : Int := l.getD i 0
theorem at0_in {l : List Int} {i : Nat} (h : i < l.length) : at0 l i = l[i] := by unfold at0; simp [h]
theorem at0_out {l : List Int} {i : Nat} (h : ¬ i < l.length) : at0 l i = 0 := by unfold at0; simp [List.getElem?_eq_none (Nat.le_of_not_lt h)]
def merged (a b : List Int) : List Int := (List.range (max a.length b.length)).map fun i => wrap64 (at0 a i + at0 b i)
theorem merged_len (l l' : List Int) : (merged l l').length = max l.length l'.length := by simp [merged]
theorem merged_take {l l' : List Int} {k : Nat} (hk : k < max l.length l'.length) : (merged l l').take k ++ [wrap64 (at0 l k + at0 l' k)] = (merged l l').take (k+1) := by
  have hk' : k < (merged l l').length := by rw [merged_len]; exact hk
  rw [List.take_succ_eq_append_getElem hk']
  simp [merged]
end Go.Proofs.YtdbbdoldndnbhaaDoor

/- Comparison of descriptions: the laws' helpers, the program's and the reference's. -/
namespace Go.Proofs.YtdbbdoldndnbhaaDoor
open Go.RowKit Go.Sort

def eqNm (a b : ByteArray) : Bool := a.toList == b.toList
def eqNms (l l' : List ByteArray) : Bool := l.map ByteArray.toList == l'.map ByteArray.toList
def eqR (r q : DRule) : Bool := r.nm.toList == q.nm.toList && r.kind == q.kind && r.size == q.size && r.little == q.little && r.bytes == q.bytes && eqNms r.names q.names && r.tags == q.tags && r.kids == q.kids
def eqAll {α : Type} (f : α → α → Bool) : List α → List α → Bool
  | [], [] => true
  | a :: s, b :: t => f a b && eqAll f s t
  | _, _ => false
theorem eqAll_len {α : Type} (f : α → α → Bool) : ∀ (s t : List α), s.length ≠ t.length → eqAll f s t = false
  | [], [], h => absurd rfl h
  | [], _ :: _, _ => rfl
  | _ :: _, [], _ => rfl
  | a :: s, b :: t, h => by rw [eqAll, eqAll_len f s t (by simpa using h), Bool.and_false]
theorem eqAll_take {α : Type} (f : α → α → Bool) : ∀ (s t : List α) (k : Nat) (h1 : k < s.length) (h2 : k < t.length), f s[k] t[k] = false → eqAll f s t = false
  | a :: s, b :: t, 0, _, _, h => by rw [eqAll]; simp at h; rw [h]; rfl
  | a :: s, b :: t, k + 1, h1, h2, h => by rw [eqAll, eqAll_take f s t k (by simpa using h1) (by simpa using h2) (by simpa using h), Bool.and_false]
theorem eqAll_all {α : Type} (f : α → α → Bool) : ∀ (s t : List α), s.length = t.length → (∀ k (h1 : k < s.length) (h2 : k < t.length), f s[k] t[k] = true) → eqAll f s t = true
  | [], [], _, _ => rfl
  | a :: s, b :: t, hl, h => by
    rw [eqAll, eqAll_all f s t (by simpa using hl) (fun k h1 h2 => by have := h (k+1) (by simpa using h1) (by simpa using h2); simpa using this)]
    have := h 0 (by simp) (by simp); simp at this; rw [this]; rfl
  | [], _ :: _, h, _ => by simp at h
  | _ :: _, [], h, _ => by simp at h
theorem eqAll_refl {α : Type} (f : α → α → Bool) (s : List α) (h : ∀ a ∈ s, f a a = true) : eqAll f s s = true := eqAll_all f s s rfl (fun k h1 _ => h _ (List.getElem_mem h1))
def eqD (s t : List DRule) : Bool := eqAll eqR s t
def eqG (s t : List (List DRule)) : Bool := eqAll eqD s t
theorem eqNms_refl (l : List ByteArray) : eqNms l l = true := by simp [eqNms]
theorem eqR_refl (r : DRule) : eqR r r = true := by simp [eqR, eqNms_refl]
theorem eqD_refl (s : List DRule) : eqD s s = true := eqAll_refl _ _ (fun a _ => eqR_refl a)
theorem eqG_refl (s : List (List DRule)) : eqG s s = true := eqAll_refl _ _ (fun a _ => eqD_refl a)
end Go.Proofs.YtdbbdoldndnbhaaDoor

/- Comparison of descriptions: the laws' helpers, the program's and the reference's. -/
namespace Go.Proofs.YtdbbdoldndnbhaaDoor
open Go.RowKit Go.Sort

theorem eqNms_take {l l' : List ByteArray} {k : Nat} (h1 : k < l.length) (h2 : k < l'.length) (h : (l.take k).map ByteArray.toList = (l'.take k).map ByteArray.toList) (e : (l[k].toList == l'[k].toList) = true) : (l.take (k+1)).map ByteArray.toList = (l'.take (k+1)).map ByteArray.toList := by
  rw [List.take_succ_eq_append_getElem h1, List.take_succ_eq_append_getElem h2, List.map_append, List.map_append, h]
  simp at e
  simp [e]
theorem eqNms_no {l l' : List ByteArray} {k : Nat} (h1 : k < l.length) (h2 : k < l'.length) (e : (l[k].toList == l'[k].toList) = false) : eqNms l l' = false := by
  unfold eqNms
  rw [beq_eq_false_iff_ne]
  intro h
  have h3 : (l.map ByteArray.toList)[k]? = (l'.map ByteArray.toList)[k]? := by rw [h]
  simp [h1, h2] at h3
  simp [h3] at e
set_option maxHeartbeats 400000 in
theorem eqStringS_c (A A' : Option Addr) (l l' : List ByteArray) (c c' : Nat) (w : World) (h : Rd0 vstr w A l c) (h' : Rd0 vstr w A' l' c') :
    Gives Tryd.prog 12 #[.slice A l.length c, .slice A' l'.length c'] w (.bool (eqNms l l')) := by
  have hl := h.len; have hl' := h'.len
  by_cases hn : l.length = l'.length
  · have hb1 : ((l.length : Int) != (l'.length : Int)) = false := by simp [hn]
    have H := Lib.hid hn; clear hn
    go_enter Tryd.func12, Tryd.ntmps12
    go_wp2
    go_loopw [5, 4] (fun i v wr => ∃ k : Nat, k ≤ l.length ∧ i = .int .i64 k ∧ Hid ((l.take k).map ByteArray.toList = (l'.take k).map ByteArray.toList) ∧ Ext w wr) (fun i _ _ => l.length - (intOf i).toNat)
    case atStart => exact ⟨0, by omega, rfl, by simp [Hid], Ext.refl _⟩
    case round =>
      obtain ⟨k, hk, rfl, ht, he⟩ := hrel
      by_cases hlt : k < l.length
      · have hlt' : k < l'.length := by have := H.out; omega
        obtain ⟨b, off, rfl, hb, hc⟩ := h.at k hlt
        obtain ⟨b', off', rfl, hb', hc'⟩ := h'.at k hlt'
        clear h h'
        go_wp2
        refine wp_region_quiet_below (by kernel_rfl) (by kernel_rfl) ?_
        repeat (go_big_quiet_step (fail))
        refine wpQuiet_nil ?_
        rintro _ ⟨⟨nq, osq⟩, rfl⟩
        go_wp2
        · have hne : (l[k].toList != l'[k].toList) = true := by assumption
          go_ret
          refine ⟨ret_bool ?_, Ext_regrown _ _ he⟩
          exact (eqNms_no hlt hlt' (by simpa using hne)).symm
        · have hne : (l[k].toList != l'[k].toList) = false := by assumption
          go_roundw
          case rel => exact ⟨k+1, by omega, by go_num, eqNms_take hlt hlt' ht.out (by simpa using hne), Ext_regrown _ _ he⟩
          case measure => simp [intOf]; omega
      · go_wp2
        go_ret
        refine ⟨ret_bool ?_, he⟩
        have ht := ht.out; have H := H.out
        rw [List.take_of_length_le (by omega), List.take_of_length_le (by omega)] at ht
        simp [eqNms, ht]
  · have hb1 : ((l.length : Int) != (l'.length : Int)) = true := by simp; omega
    go_enter Tryd.func12, Tryd.ntmps12
    go_wp2
    go_ret
    refine ⟨ret_bool ?_, Ext.refl _⟩
    symm; unfold eqNms; rw [beq_eq_false_iff_ne]; intro h2; exact hn (by have := congrArg List.length h2; simpa using this)


set_option maxRecDepth 100000 in
set_option maxHeartbeats 4000000 in
theorem eqRule_c (r q : DRule) (Ab : Option Addr) (cb : Nat) (An : Option Addr) (cn : Nat) (At : Option Addr) (ct : Nat) (Ak : Option Addr) (ck : Nat) (Ab' : Option Addr) (cb' : Nat) (An' : Option Addr) (cn' : Nat) (At' : Option Addr) (ct' : Nat) (Ak' : Option Addr) (ck' : Nat) (w : World) (h : RdS w r Ab cb An cn At ct Ak ck) (h' : RdS w q Ab' cb' An' cn' At' ct' Ak' ck') (hs : ShortR r) (hs' : ShortR q) :
    Gives Tryd.prog 81 #[vrule r (.slice Ab r.bytes.length cb) (.slice An r.names.length cn) (.slice At r.tags.length ct) (.slice Ak r.kids.length ck), vrule q (.slice Ab' q.bytes.length cb') (.slice An' q.names.length cn') (.slice At' q.tags.length ct') (.slice Ak' q.kids.length ck')] w (.bool (eqR r q)) := by
  have eb := Ext_alloc (.cells #[.string q.nm, .int .i64 q.kind, .int .i64 q.size, .bool q.little, .slice Ab' q.bytes.length cb', .slice An' q.names.length cn', .slice At' q.tags.length ct', .slice Ak' q.kids.length ck'] 69) (Ext_alloc (.cells #[.string r.nm, .int .i64 r.kind, .int .i64 r.size, .bool r.little, .slice Ab r.bytes.length cb, .slice An r.names.length cn, .slice At r.tags.length ct, .slice Ak r.kids.length ck] 69) (Ext.refl w))
  have BX := fun w' (e : Ext ((w.alloc (.cells #[.string r.nm, .int .i64 r.kind, .int .i64 r.size, .bool r.little, .slice Ab r.bytes.length cb, .slice An r.names.length cn, .slice At r.tags.length ct, .slice Ak r.kids.length ck] 69)).alloc (.cells #[.string q.nm, .int .i64 q.kind, .int .i64 q.size, .bool q.little, .slice Ab' q.bytes.length cb', .slice An' q.names.length cn', .slice At' q.tags.length ct', .slice Ak' q.kids.length ck'] 69)) w') => boxed2 e
  have B0 := fun w' e => (BX w' e).1
  have B1 := fun w' e => (BX w' e).2.1
  clear BX
  have C5 := Lib.hid (fun w h h' => eqByteS_c Ab Ab' r.bytes q.bytes cb cb' w h h')
  have C6 := Lib.hid (fun w h h' => eqStringS_c An An' r.names q.names cn cn' w h h')
  have C7 := Lib.hid (fun w h h' => eqIntS_c At At' r.tags q.tags ct ct' w h h')
  have C8 := Lib.hid (fun w h h' => eqIntS_c Ak Ak' r.kids q.kids ck ck' w h h')
  have K5 := Lib.hid (fun w' (e : Ext w w') => C5.out w' (⟨h.b.ext e, hs.1⟩) (⟨h'.b.ext e, hs'.1⟩))
  have K6 := Lib.hid (fun w' (e : Ext w w') => C6.out w' (h.n.ext e) (h'.n.ext e))
  have K7 := Lib.hid (fun w' (e : Ext w w') => C7.out w' ⟨h.t.ext e, hs.2.2.1⟩ ⟨h'.t.ext e, hs'.2.2.1⟩)
  have K8 := Lib.hid (fun w' (e : Ext w w') => C8.out w' ⟨h.k.ext e, hs.2.2.2⟩ ⟨h'.k.ext e, hs'.2.2.2⟩)
  clear C5 C6 C7 C8 h h' hs hs'
  unfold eqR
  generalize (r.bytes == q.bytes) = q5 at *
  generalize eqNms r.names q.names = q6 at *
  generalize (r.tags == q.tags) = q7 at *
  generalize (r.kids == q.kids) = q8 at *
  obtain ⟨nm, kind, size, little, bytes, names, tags, kids⟩ := r
  obtain ⟨nm', kind', size', little', bytes', names', tags', kids'⟩ := q
  unfold vrule
  dsimp only at *
  have HB0 := Lib.hid B0; have HB1 := Lib.hid B1; have b00 := B0 _ (Ext.refl _); have b10 := B1 _ (Ext.refl _); clear B0 B1
  cases g1 : (nm.toList == nm'.toList)
  · have h1 : (nm.toList != nm'.toList) = true := by rw [bne, g1]; rfl
    go_enter Tryd.func81, Tryd.ntmps81
    go_wp2
    go_ret
    exact ⟨ret_bool (by simp), eb⟩
  have h1 : (nm.toList != nm'.toList) = false := by rw [bne, g1]; rfl
  cases g2 : (kind == kind')
  · have h2 : (kind != kind') = true := by rw [bne, g2]; rfl
    go_enter Tryd.func81, Tryd.ntmps81
    go_wp2
    go_ret
    exact ⟨ret_bool (by simp), eb⟩
  have h2 : (kind != kind') = false := by rw [bne, g2]; rfl
  cases g3 : (size == size')
  · have h3 : (size != size') = true := by rw [bne, g3]; rfl
    go_enter Tryd.func81, Tryd.ntmps81
    go_wp2
    go_ret
    exact ⟨ret_bool (by simp), eb⟩
  have h3 : (size != size') = false := by rw [bne, g3]; rfl
  cases g4 : (little == little')
  · have h4 : (little != little') = true := by rw [bne, g4]; rfl
    go_enter Tryd.func81, Tryd.ntmps81
    go_wp2
    go_ret
    exact ⟨ret_bool (by simp), eb⟩
  have h4 : (little != little') = false := by rw [bne, g4]; rfl
  go_enter Tryd.func81, Tryd.ntmps81
  go_wp2_with fail
  refine (K5.out _ eb).mono ?_; rintro _ w5 ⟨rfl, he5⟩
  have e5 := he5
  have b05 := HB0.out _ e5; have b15 := HB1.out _ e5; clear he5 b00 b10 h1 h2 h3 h4 g1 g2 g3 g4
  cases q5
  · go_wp2
    go_ret
    exact ⟨ret_bool (by simp), eb.trans e5⟩
  go_wp2_with fail
  refine (K6.out _ (eb.trans e5)).mono ?_; rintro _ w6 ⟨rfl, he6⟩
  have e6 := e5.trans he6
  have b06 := HB0.out _ e6; have b16 := HB1.out _ e6; clear he6 b05 b15 e5
  cases q6
  · go_wp2
    go_ret
    exact ⟨ret_bool (by simp), eb.trans e6⟩
  go_wp2_with fail
  refine (K7.out _ (eb.trans e6)).mono ?_; rintro _ w7 ⟨rfl, he7⟩
  have e7 := e6.trans he7
  have b07 := HB0.out _ e7; have b17 := HB1.out _ e7; clear he7 b06 b16 e6
  cases q7
  · go_wp2
    go_ret
    exact ⟨ret_bool (by simp), eb.trans e7⟩
  go_wp2_with fail
  refine (K8.out _ (eb.trans e7)).mono ?_; rintro _ w8 ⟨rfl, he8⟩
  have e8 := e7.trans he8
  have b08 := HB0.out _ e8; have b18 := HB1.out _ e8; clear he8 b07 b17 e7
  cases q8
  · go_wp2
    go_ret
    exact ⟨ret_bool (by simp), eb.trans e8⟩
  go_wp2
  go_ret
  exact ⟨ret_bool (by simp), eb.trans e8⟩
end Go.Proofs.YtdbbdoldndnbhaaDoor

/- Comparison of rules: the reference's and the program's. -/
namespace Go.Proofs.YtdbbdoldndnbhaaDoor
open Go.RowKit Go.Sort

/-- rules, all short -/
def ShortD (ds : List DRule) : Prop := ∀ r ∈ ds, ShortR r
def ShortG (gs : List (List DRule)) : Prop := ∀ d ∈ gs, ShortD d
theorem shortD_of {ds : List DRule} (h : szD ds ≤ 1048576) : ShortD ds := fun _ hr => (szRl_short (szD_mem h hr)).1
theorem shortG_of {gs : List (List DRule)} (h : szG gs ≤ 1048576) : ShortG gs := fun _ hd => shortD_of (szG_mem h hd)
set_option maxRecDepth 100000 in
set_option maxHeartbeats 4000000 in
theorem eqRuleS_c (A A' : Option Addr) (ds es : List DRule) (c c' : Nat) (w : World) (h : RdD w A ds c) (h' : RdD w A' es c') (hs : ShortD ds) (hs' : ShortD es) :
    Gives Tryd.prog 51 #[.slice A ds.length c, .slice A' es.length c'] w (.bool (eqD ds es)) := by
  have hl := h.len; have hl' := h'.len
  have eb := Ext.refl w
  by_cases hn : ds.length = es.length
  · have hb1 : ((ds.length : Int) != (es.length : Int)) = false := by simp [hn]
    have H := Lib.hid hn; clear hn
    go_enter Tryd.func51, Tryd.ntmps51
    go_wp2
    go_loopw [5] (fun i wr => ∃ k : Nat, k ≤ ds.length ∧ i = .int .i64 k ∧ Hid (∀ j (h1 : j < ds.length) (h2 : j < es.length), j < k → eqR ds[j] es[j] = true) ∧ Ext w wr) (fun i _ => ds.length - (intOf i).toNat)
    case atStart => exact ⟨0, by omega, rfl, (fun j _ _ hj => by omega), Ext.refl _⟩
    case round =>
      obtain ⟨k, hk, rfl, ht, he⟩ := hrel
      by_cases hlt : k < ds.length
      · have hlt' : k < es.length := by have := H.out; omega
        obtain ⟨b, off, Ab, cb, An, cn, At, ct, Ak, ck, rfl, hb, hS, hR⟩ := h.at k hlt
        obtain ⟨b', off', Ab', cb', An', cn', At', ct', Ak', ck', rfl, hb', hS', hR'⟩ := h'.at k hlt'
        have s1 := hs _ (List.getElem_mem hlt); have s2 := hs' _ (List.getElem_mem hlt')
        have NO : Hid (eqR ds[k] es[k] = false → eqD ds es = false) := eqAll_take _ ds es k hlt hlt'
        have YES : Hid (eqR ds[k] es[k] = true → ∀ j (h1 : j < ds.length) (h2 : j < es.length), j < k + 1 → eqR ds[j] es[j] = true) := by
          intro hy j h1 h2 hj
          rcases (by omega : j < k ∨ j = k) with hj | rfl
          · exact ht.out j h1 h2 hj
          · exact hy
        generalize ds[k] = r at *
        generalize es[k] = q at *
        have CE := Lib.hid (fun w h h' => eqRule_c r q Ab cb An cn At ct Ak ck Ab' cb' An' cn' At' ct' Ak' ck' w h h' s1 s2)
        generalize eqR r q = z at *
        replace hR := hR.ext eb
        replace hR' := hR'.ext eb
        obtain ⟨k0, k1, k2, k3, k4, k5, k6, k7⟩ := hR
        obtain ⟨j0, j1, j2, j3, j4, j5, j6, j7⟩ := hR'
        unfold vrule at CE
        have H1 := Lib.hid (fun w' (e : Ext _ w') => hS.ext (eb.trans e)); have H2 := Lib.hid (fun w' (e : Ext _ w') => hS'.ext (eb.trans e))
        clear h h' s1 s2 hS hS' hs hs'
        have HT := ht; clear ht
        go_wp2_with fail
        refine wp_region_quiet_below (by kernel_rfl) (by kernel_rfl) ?_
        repeat (go_big_quiet_step ((go_at_call 81; exact Calls.regrown_of (CE.out _ (H1.out _ (by first | assumption | exact Ext_regrown _ _ he)) (H2.out _ (by first | assumption | exact Ext_regrown _ _ he))))))
        refine wpQuiet_nil ?_
        rintro w1 ⟨⟨nq, osq⟩, hq⟩
        have ew1 := ext_of_q hq
        clear hq nq osq
        have he1 := he.trans ew1
        cases z
        · have NO' := Lib.hid (NO.out rfl); clear NO YES
          go_wp2
          go_ret
          exact ⟨ret_bool NO'.out.symm, eb.trans he1⟩
        · have YES' := Lib.hid (YES.out rfl); clear NO YES
          go_wp2
          go_roundw
          case rel => exact ⟨k+1, by omega, by go_num, YES'.out, he1⟩
          case measure => simp [intOf]; omega
      · have hk' : k = ds.length := by omega
        have HE : Hid (eqD ds es = true) := eqAll_all _ _ _ H.out (fun j h1 h2 => ht.out j h1 h2 (by omega))
        go_wp2
        go_ret
        exact ⟨ret_bool HE.out.symm, eb.trans he⟩
  · have hb1 : ((ds.length : Int) != (es.length : Int)) = true := by simp; omega
    have HE : Hid (eqD ds es = false) := eqAll_len _ _ _ hn
    go_enter Tryd.func51, Tryd.ntmps51
    go_wp2
    go_ret
    exact ⟨ret_bool HE.out.symm, eb⟩
end Go.Proofs.YtdbbdoldndnbhaaDoor

/- Comparison of descriptions and registries. -/
namespace Go.Proofs.YtdbbdoldndnbhaaDoor
open Go.RowKit Go.Sort

end Go.Proofs.YtdbbdoldndnbhaaDoor

/- Comparison of registries. -/
namespace Go.Proofs.YtdbbdoldndnbhaaDoor
open Go.RowKit Go.Sort

set_option maxHeartbeats 400000 in
theorem eqDescription_c (A A' : Option Addr) (ds es : List DRule) (c c' : Nat) (w : World) (h : RdD w A ds c) (h' : RdD w A' es c') (hs : ShortD ds) (hs' : ShortD es) :
    Gives Tryd.prog 13 #[vdesc (.slice A ds.length c), vdesc (.slice A' es.length c')] w (.bool (eqD ds es)) := by
  have C := Lib.hid (fun w h h' => eqRuleS_c A A' ds es c c' w h h' hs hs')
  have eb := Ext_alloc (.cells #[.slice A' es.length c'] 30) (Ext_alloc (.cells #[.slice A ds.length c] 30) (Ext.refl w))
  unfold vdesc
  generalize eqD ds es = z at *
  cases z
  all_goals
    go_enter Tryd.func13, Tryd.ntmps13
    go_wp2_with fail
    refine (C.out _ (h.ext eb) (h'.ext eb)).mono ?_; rintro _ w1 ⟨rfl, he1⟩
    go_wp2
    go_ret
    exact ⟨rfl, eb.trans he1⟩
end Go.Proofs.YtdbbdoldndnbhaaDoor

/- The laws' sizes of descriptions and registries. -/
namespace Go.Proofs.YtdbbdoldndnbhaaDoor
open Go.RowKit Go.Sort

theorem szN_spec (n : Nat) (left : Int) : (left - n < 0 ∧ szN n left = -1) ∨ (0 ≤ left - n ∧ szN n left = left - n) := by
  unfold szN; split
  · exact .inl ⟨by assumption, rfl⟩
  · exact .inr ⟨by omega, rfl⟩
set_option maxHeartbeats 1000000 in
theorem szStringS_c (A : Option Addr) (l : List ByteArray) (c : Nat) (left : Int) (w : World) (h : Rd0 vstr w A l c) (hw : ∀ s ∈ l, s.size ≤ 9223372036854775807) (h0 : 0 ≤ left) (h1 : left ≤ 1048576) :
    Gives Tryd.prog 95 #[.slice A l.length c, .int .i64 left] w (.int .i64 (szN (l.length + szStrs l) left)) := by
  have hl := h.len
  have S := szN_spec (l.length + szStrs l) left
  obtain ⟨T, hT⟩ : ∃ T, szN (l.length + szStrs l) left = T := ⟨_, rfl⟩
  rw [hT] at S ⊢
  have HS := Lib.hid S
  clear S hT
  by_cases hd : left - (l.length : Int) < 0
  · obtain rfl : T = -1 := by have := HS.out; omega
    go_enter Tryd.func95, Tryd.ntmps95
    go_wp2
    go_ret
    exact ⟨rfl, Ext.refl _⟩
  · go_enter Tryd.func95, Tryd.ntmps95
    go_wp2
    go_loopw [1, 5] (fun t i wr => ∃ (k : Nat) (z : Int), k ≤ l.length ∧ i = .int .i64 k ∧ t = .int .i64 z ∧ 0 ≤ z ∧ z ≤ 1048576 ∧ Hid (z = left - l.length - szStrs (l.take k)) ∧ Ext w wr) (fun _ i _ => l.length - (intOf i).toNat)
    case atStart => exact ⟨0, _, by omega, rfl, rfl, by omega, by omega, by simp [Hid, szStrs], Ext.refl _⟩
    case round =>
      obtain ⟨k, z, hk, rfl, rfl, hz0, hz1, hz, he⟩ := hrel
      by_cases hlt : k < l.length
      · obtain ⟨b, off, rfl, hb, hc⟩ := h.at k hlt
        have hs := hw l[k] (List.getElem_mem hlt)
        have HT := Lib.hid (szStrs_take l k hlt)
        have HL := Lib.hid (szStrs_le l (k+1))
        by_cases hneg : z - (l[k].size : Int) < 0
        · obtain rfl : T = -1 := by have := HS.out; have := HT.out; have := HL.out; have := hz.out; omega
          clear h
          go_wp2
          go_ret
          exact ⟨rfl, he⟩
        · clear h
          go_wp2
          go_roundw
          case rel => exact ⟨k+1, _, by omega, by go_num, rfl, by omega, by omega, by have := HT.out; have := hz.out; show _ = _; omega, he⟩
          case measure => simp [intOf]; omega
      · have hk' : k = l.length := by omega
        have HZ : Hid (T = z) := by
          have := HS.out; have h2 := hz.out; rw [List.take_of_length_le (by omega)] at h2; show _ = _; omega
        go_wp2
        go_ret
        exact ⟨ret_i64 HZ.out.symm, he⟩
set_option maxRecDepth 100000 in
set_option maxHeartbeats 2000000 in
theorem szRule_c (r : DRule) (Ab : Option Addr) (cb : Nat) (An : Option Addr) (cn : Nat) (At : Option Addr) (ct : Nat) (Ak : Option Addr) (ck : Nat) (left : Int) (w : World) (h : RdS w r Ab cb An cn At ct Ak ck) (hw : WfR r) (h0 : 0 ≤ left) (h1 : left ≤ 1048576) :
    Gives Tryd.prog 74 #[vrule r (.slice Ab r.bytes.length cb) (.slice An r.names.length cn) (.slice At r.tags.length ct) (.slice Ak r.kids.length ck), .int .i64 left] w (.int .i64 (szN (szRl r) left)) := by
  obtain ⟨hb, hn, ht, hk⟩ := h
  have hwn := hw.nm
  have S := szN_spec (szRl r) left
  obtain ⟨T, hT⟩ : ∃ T, szN (szRl r) left = T := ⟨_, rfl⟩
  rw [hT] at S ⊢
  unfold szRl at S
  have C1 := Lib.hid (fun left w h h0 h1 => szByteS_c Ab r.bytes cb left w h h0 h1)
  have C2 := Lib.hid (fun left w h h0 h1 => szStringS_c An r.names cn left w h hw.names h0 h1)
  have C3 := Lib.hid (fun left w h h0 h1 => szIntS_c At r.tags ct left w h h0 h1)
  have C4 := Lib.hid (fun left w h h0 h1 => szIntS_c Ak r.kids ck left w h h0 h1)
  have HS := Lib.hid S
  clear S hT hw
  have eb := Ext_alloc (.cells #[.string r.nm, .int .i64 r.kind, .int .i64 r.size, .bool r.little, .slice Ab r.bytes.length cb, .slice An r.names.length cn, .slice At r.tags.length ct, .slice Ak r.kids.length ck] 90) (Ext.refl w)
  unfold vrule
  by_cases q1 : left - (r.nm.size : Int) < 0
  · obtain rfl : T = -1 := by have := HS.out; omega
    go_enter Tryd.func74, Tryd.ntmps74
    go_wp2
    go_ret
    exact ⟨rfl, eb⟩
  go_enter Tryd.func74, Tryd.ntmps74
  go_wp2_with fail
  refine (C1.out _ _ (hb.ext eb) (by omega) (by omega)).mono ?_; rintro _ w1 ⟨rfl, he1⟩
  have s1 := szN_spec r.bytes.length (left - r.nm.size)
  generalize szN r.bytes.length (left - r.nm.size) = z1 at *
  by_cases q2 : z1 < 0
  · obtain rfl : T = -1 := by have := HS.out; omega
    clear s1
    go_wp2
    go_ret
    exact ⟨rfl, eb.trans he1⟩
  have S1 : Hid (z1 = left - r.nm.size - r.bytes.length) := by show _ = _; omega
  have z1a : z1 ≤ 1048576 := by omega
  clear s1
  have D1 := fun w' (e : Ext _ w') => boxed (he1.trans e)
  go_wp2_with fail
  refine (C2.out _ _ (hn.ext (eb.trans he1)) (by omega) (by omega)).mono ?_; rintro _ w2 ⟨rfl, he2⟩
  have s2 := szN_spec (r.names.length + szStrs r.names) z1
  generalize szN (r.names.length + szStrs r.names) z1 = z2 at *
  have e2 := he1.trans he2
  by_cases q3 : z2 < 0
  · obtain rfl : T = -1 := by have := HS.out; have := S1.out; omega
    clear s2
    go_wp2
    go_ret
    exact ⟨rfl, eb.trans e2⟩
  have S2 : Hid (z2 = left - r.nm.size - r.bytes.length - (r.names.length + szStrs r.names)) := by have := S1.out; show _ = _; omega
  have z2a : z2 ≤ 1048576 := by omega
  clear s2 D1
  have D2 := fun w' (e : Ext _ w') => boxed (e2.trans e)
  go_wp2_with fail
  refine (C3.out _ _ (ht.ext (eb.trans e2)) (by omega) (by omega)).mono ?_; rintro _ w3 ⟨rfl, he3⟩
  have s3 := szN_spec r.tags.length z2
  generalize szN r.tags.length z2 = z3 at *
  have e3 := e2.trans he3
  by_cases q4 : z3 < 0
  · obtain rfl : T = -1 := by have := HS.out; have := S2.out; omega
    clear s3
    go_wp2
    go_ret
    exact ⟨rfl, eb.trans e3⟩
  have S3 : Hid (z3 = left - r.nm.size - r.bytes.length - (r.names.length + szStrs r.names) - r.tags.length) := by have := S2.out; show _ = _; omega
  have z3a : z3 ≤ 1048576 := by omega
  clear s3 D2
  have D3 := fun w' (e : Ext _ w') => boxed (e3.trans e)
  go_wp2_with fail
  refine (C4.out _ _ (hk.ext (eb.trans e3)) (by omega) (by omega)).mono ?_; rintro _ w4 ⟨rfl, he4⟩
  have s4 := szN_spec r.kids.length z3
  generalize szN r.kids.length z3 = z4 at *
  have HT : Hid (z4 = T) := by have := HS.out; have := S3.out; show _ = _; omega
  clear s4
  by_cases q5 : z4 < 0
  · obtain rfl : T = -1 := by have := HS.out; have := HT.out; omega
    go_wp2
    go_ret
    exact ⟨rfl, eb.trans (e3.trans he4)⟩
  go_wp2
  go_ret
  exact ⟨ret_i64 HT.out, eb.trans (e3.trans he4)⟩
set_option maxRecDepth 100000 in
set_option maxHeartbeats 2000000 in
theorem szRuleS_c (A : Option Addr) (ds : List DRule) (c : Nat) (left : Int) (w : World) (h : RdD w A ds c) (hw : WfD ds) (h0 : 0 ≤ left) (h1 : left ≤ 1048576) :
    Gives Tryd.prog 41 #[.slice A ds.length c, .int .i64 left] w (.int .i64 (szN (szD ds) left)) := by
  have hl := h.len
  have S := szN_spec (szD ds) left
  obtain ⟨T, hT⟩ : ∃ T, szN (szD ds) left = T := ⟨_, rfl⟩
  rw [hT] at S ⊢
  unfold szD at S
  have HS := Lib.hid S
  clear S hT
  by_cases hd : left - (ds.length : Int) < 0
  · obtain rfl : T = -1 := by have := HS.out; omega
    go_enter Tryd.func41, Tryd.ntmps41
    go_wp2
    go_ret
    exact ⟨rfl, Ext.refl _⟩
  · go_enter Tryd.func41, Tryd.ntmps41
    go_wp2
    go_loopw [1, 5] (fun t i wr => ∃ (k : Nat) (z : Int), k ≤ ds.length ∧ i = .int .i64 k ∧ t = .int .i64 z ∧ 0 ≤ z ∧ z ≤ 1048576 ∧ Hid (z = left - ds.length - ((ds.take k).map szRl).sum) ∧ Ext w wr) (fun _ i _ => ds.length - (intOf i).toNat)
    case atStart => exact ⟨0, _, by omega, rfl, rfl, by omega, by omega, by simp [Hid], Ext.refl _⟩
    case round =>
      obtain ⟨k, z, hk, rfl, rfl, hz0, hz1, hz, he⟩ := hrel
      by_cases hlt : k < ds.length
      · obtain ⟨b, off, Ab, cb, An, cn, At, ct, Ak, ck, rfl, hb, hs, hr⟩ := h.at k hlt
        have HT := Lib.hid (sum_take szRl ds k hlt)
        have HL := Lib.hid (sum_split szRl ds (k+1))
        have hwk := hw _ (List.getElem_mem hlt)
        have s1 := szN_spec (szRl ds[k]) z
        generalize ds[k] = r at *
        have C := Lib.hid (fun w hs => szRule_c r Ab cb An cn At ct Ak ck z w hs hwk hz0 hz1)
        generalize szN (szRl r) z = z1 at *
        obtain ⟨k0, k1, k2, k3, k4, k5, k6, k7⟩ := hr
        have S1 := Lib.hid s1
        unfold vrule at C
        clear s1 h
        go_wp2_with fail
        refine (C.out _ (hs.ext he)).mono ?_; rintro _ w1 ⟨rfl, he1⟩
        by_cases q : z1 < 0
        · obtain rfl : T = -1 := by have := HS.out; have := HT.out; have := HL.out; have := hz.out; have := S1.out; omega
          go_wp2
          go_ret
          exact ⟨rfl, he.trans he1⟩
        · have hz1' : z1 ≤ 1048576 := by have := S1.out; omega
          go_wp2
          go_roundw
          case rel => exact ⟨k+1, _, by omega, by go_num, rfl, by omega, by omega, by have := HT.out; have := hz.out; have := S1.out; show _ = _; omega, he.trans he1⟩
          case measure => simp [intOf]; omega
      · have hk' : k = ds.length := by omega
        have HZ : Hid (T = z) := by
          have := HS.out; have h2 := hz.out; rw [List.take_of_length_le (by omega)] at h2; show _ = _; omega
        go_wp2
        go_ret
        exact ⟨ret_i64 HZ.out.symm, he⟩
set_option maxHeartbeats 400000 in
theorem szDescription_c (A : Option Addr) (ds : List DRule) (c : Nat) (left : Int) (w : World) (h : RdD w A ds c) (hw : WfD ds) (h0 : 0 ≤ left) (h1 : left ≤ 1048576) :
    Gives Tryd.prog 8 #[vdesc (.slice A ds.length c), .int .i64 left] w (.int .i64 (szN (szD ds) left)) := by
  have C := Lib.hid (fun w h => szRuleS_c A ds c left w h hw h0 h1)
  have hz := szN_lo (szD ds) left h1 h0
  generalize szN (szD ds) left = z at *
  unfold vdesc
  by_cases hd : z < 0
  · obtain rfl : z = -1 := by omega
    go_enter Tryd.func8, Tryd.ntmps8
    go_wp2_with fail
    refine (C.out _ (h.ext (Ext_alloc _ (Ext.refl _)))).mono ?_; rintro _ w1 ⟨rfl, he⟩
    go_wp2
    go_ret
    exact ⟨rfl, (Ext_alloc _ (Ext.refl w)).trans he⟩
  · go_enter Tryd.func8, Tryd.ntmps8
    go_wp2_with fail
    refine (C.out _ (h.ext (Ext_alloc _ (Ext.refl _)))).mono ?_; rintro _ w1 ⟨rfl, he⟩
    go_wp2
    go_ret
    exact ⟨rfl, (Ext_alloc _ (Ext.refl w)).trans he⟩
end Go.Proofs.YtdbbdoldndnbhaaDoor

/- The laws' copies, as what they read as. -/
namespace Go.Proofs.YtdbbdoldndnbhaaDoor
open Go.RowKit Go.Sort

theorem rulesOf_len (ps : List RV) : (rulesOf ps).length = ps.length := by simp [rulesOf]
theorem OwnD.short {ps : List RV} (h : szD (rulesOf ps) ≤ 1048576) : ps.length ≤ 9223372036854775807 ∧ ∀ p ∈ ps, ShortR p.r := by
  refine ⟨by unfold szD at h; rw [rulesOf_len] at h; omega, fun p hp => ?_⟩
  exact shortD_of h p.r (List.mem_map_of_mem hp)
theorem toDesc_r (A : Option Addr) (ds : List DRule) (c : Nat) (w : World) (h : RdD w A ds c) (hz : szD ds ≤ 1048576) :
    Calls Tryd.prog 10 #[vdesc (.slice A ds.length c)] w fun e w' => ∃ A1 c1, e = .returned (vdesc (.slice A1 ds.length c1)) ∧ RdD w' A1 ds c1 ∧ Ext w w' := by
  refine (toDescription_c A ds c w h hz).mono ?_
  rintro e w' ⟨v, ps, he, rfl, ho, hx⟩
  obtain ⟨A1, c1, rfl, hr⟩ := ho.rd (OwnD.short hz).1 (OwnD.short hz).2
  exact ⟨A1, c1, he, hr, hx⟩
theorem szN_small {n : Nat} {left : Int} (h : ¬ szN n left < 0) (h1 : left ≤ 1048576) : n ≤ 1048576 := by have := (szN_ge h).1; omega
end Go.Proofs.YtdbbdoldndnbhaaDoor

/- The laws' marks on slices of strings, tested; marks on descriptions, as the laws use them. -/
namespace Go.Proofs.YtdbbdoldndnbhaaDoor
open Go.RowKit Go.Sort

set_option maxRecDepth 100000 in
set_option maxHeartbeats 1000000 in
theorem heldStringS_c (A : Option Addr) (n c : Nat) (k : Nat) (w : World) (h : Rd (mkT k) w A (List.range n) c) (hk : 0 < k) (hk2 : k + n ≤ 1099511627776) :
    Gives Tryd.prog 16 #[.slice A n c, .int .i64 k] w (.int .i64 ((k + n : Nat) : Int)) := by
  go_enter Tryd.func16, Tryd.ntmps16
  go_wp2
  go_loopw [1, 5] (fun kk i wr => ∃ j : Nat, j ≤ n ∧ i = .int .i64 j ∧ kk = .int .i64 ((k + j : Nat) : Int) ∧ Ext w wr) (fun _ i _ => n - (intOf i).toNat)
  case atStart => exact ⟨0, by omega, rfl, rfl, Ext.refl _⟩
  case round =>
    obtain ⟨j, hj, rfl, rfl, he⟩ := hrel
    by_cases hlt : j < n
    · obtain ⟨b, off, rfl, hb, hc⟩ := h.at j (by simpa using hlt)
      simp only [List.getElem_range, mkT] at hc
      have MT : Hid (∀ w, Gives Tryd.prog 53 #[.int .i64 ((k + j : Nat) : Int)] w (.string (markT (k + j)))) := fun w => markText_c (k + j) w (by omega) (by omega)
      obtain ⟨z, hz⟩ : ∃ z, k + j = z := ⟨_, rfl⟩
      have HZ : Hid (k + (j + 1) = z + 1) := by show _ = _; omega
      rw [hz] at hc MT ⊢
      have hzb : z ≤ 1099511627776 := by omega
      generalize markT z = s at *
      clear hz h
      have hs1 : (s.toList != s.toList) = false := by simp
      go_wp2_with fail
      refine wp_region_quiet_below (by kernel_rfl) (by kernel_rfl) ?_
      repeat (go_big_quiet_step ((go_at_call 53; exact Calls.regrown_of (MT.out _))))
      refine wpQuiet_nil ?_
      rintro w1 ⟨⟨nq, osq⟩, hq⟩
      have ew1 := ext_of_q hq
      clear hq nq osq
      go_wp2
      go_roundw
      case rel => exact ⟨j+1, by omega, by go_num, by rw [HZ.out]; go_num, he.trans ew1⟩
      case measure => simp [intOf]; omega
    · obtain rfl : j = n := by omega
      go_wp2
      go_ret
      exact ⟨rfl, he⟩
theorem Box.wrote {w w' : World} {g : Nat} {cs : Array Value} {T : TypeId} (h : Box w g cs T) {lo hi : Nat} (hw : Wrote lo hi w w') (hg : g < lo ∨ hi ≤ g) : Box w' g cs T := (hw.block g h.lt hg).trans h
theorem RuleOwn.wrote {w0 w w' : World} {p : RV} (h : RuleOwn w0 w p) {lo hi : Nat} (hw : Wrote lo hi w w') (hv : ∀ v ∈ p.vals, ∀ g, v.ownBlock = some g → g < lo ∨ hi ≤ g) : RuleOwn w0 w' p :=
  ⟨h.b.wrote hw (hv _ (by simp [RV.vals])), h.n.wrote hw (hv _ (by simp [RV.vals])), h.t.wrote hw (hv _ (by simp [RV.vals])), h.k.wrote hw (hv _ (by simp [RV.vals]))⟩
theorem OwnD.wrote {w0 w w' : World} {v : Value} {ps : List RV} (h : OwnD w0 w v ps) {lo hi : Nat} (hw : Wrote lo hi w w') (hv : ∀ u ∈ v :: ps.flatMap RV.vals, ∀ g, u.ownBlock = some g → g < lo ∨ hi ≤ g) : OwnD w0 w' v ps :=
  ⟨h.row.wrote hw (hv _ (by simp)), fun p hp => (h.each p hp).wrote hw (fun u hu => hv u (List.mem_cons_of_mem _ (List.mem_flatMap.2 ⟨p, hp, hu⟩))), h.far⟩
/-- a description copied by a law: its blocks lie from lo on, below hi -/
structure DMade (lo hi : Nat) (w : World) (v : Value) (ps : List RV) : Prop where
  own : ∃ w0 : World, w0.heap.size = lo ∧ OwnD w0 w v ps
  blk : ∀ u ∈ v :: ps.flatMap RV.vals, ∀ b, u.ownBlock = some b → lo ≤ b ∧ b < hi
theorem DMade.ext {lo hi : Nat} {w w' : World} {v : Value} {ps : List RV} (h : DMade lo hi w v ps) (e : Ext w w') : DMade lo hi w' v ps := ⟨let ⟨w0, h0, h1⟩ := h.own; ⟨w0, h0, h1.ext e⟩, h.blk⟩
theorem DMade.wrote {lo hi lo' hi' : Nat} {w w' : World} {v : Value} {ps : List RV} (h : DMade lo hi w v ps) (hw : Wrote lo' hi' w w') (hd : hi ≤ lo' ∨ hi' ≤ lo) : DMade lo hi w' v ps :=
  ⟨let ⟨w0, h0, h1⟩ := h.own; ⟨w0, h0, h1.wrote hw (fun u hu g hg => by have := h.blk u hu g hg; omega)⟩, h.blk⟩
theorem toDesc_o (A : Option Addr) (ds : List DRule) (c : Nat) (w : World) (h : RdD w A ds c) (hz : szD ds ≤ 1048576) :
    Calls Tryd.prog 10 #[vdesc (.slice A ds.length c)] w fun e w' => ∃ A1 c1 ps, e = .returned (vdesc (.slice A1 ds.length c1)) ∧ RdD w' A1 ds c1 ∧ rulesOf ps = ds ∧ DMade w.heap.size w'.heap.size w' (.slice A1 ds.length c1) ps ∧ Ext w w' := by
  refine (toDescription_c A ds c w h hz).mono ?_
  rintro e w' ⟨v, ps, he, rfl, ho, hx⟩
  obtain ⟨A1, c1, rfl, hr⟩ := ho.rd (OwnD.short hz).1 (OwnD.short hz).2
  exact ⟨A1, c1, ps, he, hr, rfl, ⟨⟨w, rfl, ho⟩, ho.block⟩, hx⟩
set_option maxHeartbeats 1000000 in
theorem markDesc_c (A : Option Addr) (n c : Nat) (ps : List RV) (k : Nat) (lo hi : Nat) (w : World) (h : DMade lo hi w (.slice A n c) ps) (hz : szD (rulesOf ps) ≤ 1048576) (hk : 0 < k) (hk2 : k ≤ 100000000) :
    Calls Tryd.prog 14 #[vdesc (.slice A n c), .int .i64 k] w fun e w' => ∃ k' : Nat, k ≤ k' ∧ k' ≤ k + 6000000 ∧ e = .returned (.int .i64 k') ∧ Wrote lo hi w w' := by
  obtain ⟨⟨w0, h0, h1⟩, hb⟩ := h
  subst h0
  have hkE : kEndR k ps ≤ k + 6000000 ∧ k ≤ kEndR k ps := by
    refine ⟨?_, kEndR_ge _ _⟩
    have := kEndR_sz k ps
    unfold szD at hz; rw [rulesOf_len] at hz; omega
  have hsh := (OwnD.short hz).2
  have eb := Ext_alloc (.cells #[.slice A n c] 30) (Ext.refl w)
  have h1' := h1.ext eb
  have C : Hid (Calls Tryd.prog 52 #[.slice A n c, .int .i64 k] (w.alloc (.cells #[.slice A n c] 30)) fun e w' => e = .returned (.int .i64 (kEndR k ps : Nat)) ∧ Wrote w0.heap.size hi (w.alloc (.cells #[.slice A n c] 30)) w') := by
    obtain ⟨A', c', hv⟩ := h1'.shape
    injection hv with q1 q2 q3
    subst q1; subst q2; subst q3
    rcases h1'.row.2 with ⟨hv, h0⟩ | ⟨g, cap, cur, hv, _⟩
    · injection hv with q1 q2 q3
      subst q1; subst q3
      obtain rfl : ps = [] := List.eq_nil_of_length_eq_zero h0
      have hk64 : (k : Int) ≤ 100000000 := by omega
      clear h1 h1' hb hkE hz hsh h0 eb
      show Calls _ _ _ _ _
      go_enter Tryd.func52, Tryd.ntmps52
      go_wp2
      go_loopw [1, 5] (fun kk i wr => i = .int .i64 0 ∧ kk = .int .i64 k ∧ Wrote w0.heap.size hi (w.alloc (.cells #[.slice none 0 0] 30)) wr) (fun _ _ _ => 0)
      case atStart => exact ⟨rfl, rfl, Wrote.refl _ _ _⟩
      case round =>
        obtain ⟨rfl, rfl, he'⟩ := hrel
        go_wp2
        go_ret
        exact ⟨rfl, he'⟩
    · injection hv with q1 q2 q3
      subst q1; subst q3
      exact (markRuleS_c g c ps k w0 _ hi h1' hb hk (by omega) hsh).mono fun e w' ⟨a, _, b⟩ => ⟨a, b⟩
  have HE := Lib.hid hkE
  have W0 : Hid (Wrote w0.heap.size hi w (w.alloc (.cells #[.slice A n c] 30))) := Wrote.ext eb
  clear h1 h1' hb hz hsh hkE
  unfold vdesc
  generalize kEndR k ps = K at *
  have hK1 : K ≤ 200000000 := by have := HE.out; omega
  go_enter Tryd.func14, Tryd.ntmps14
  go_wp2_with fail
  refine C.out.mono ?_; rintro _ w1 ⟨rfl, hw⟩
  have HW := Lib.hid hw; clear hw
  go_wp2
  go_ret
  exact ⟨K, HE.out.2, HE.out.1, rfl, W0.out.trans HW.out⟩
end Go.Proofs.YtdbbdoldndnbhaaDoor
