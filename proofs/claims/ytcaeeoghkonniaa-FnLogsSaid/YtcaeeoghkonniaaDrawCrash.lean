/- The drawn log and the number of bytes kept of it. -/
import Derived.Test.YtcaeeoghkonniaaDrawAny
import Derived.Deep.RegionHeld3
namespace Go.Proofs.Ytcaeeoghkonniaa
open Go.RowKit Go.Sort

theorem Cur.lower {wb0 wb w : World} {p : Nat} {A : Option Addr} {l : List UInt8} {c : Nat} (h : Cur wb w p A l c) (e : Ext wb0 wb) : Cur wb0 w p A l c := ⟨Nat.le_trans e.size h.1, e.trans h.2.1, h.2.2⟩
theorem Box.unset {w : World} {g i : Nat} {u : Value} {cs : Array Value} {T : TypeId} (h : Box (w.setCell ⟨g, i, none⟩ u) g cs T) : ∃ cs', Box w g cs' T ∧ cs = cs'.setIfInBounds i u := by
  unfold Box at h
  simp only [World.setCell, Array.getElem?_modify, if_true] at h
  rw [Option.map_eq_some_iff] at h
  obtain ⟨o, ho, he⟩ := h
  cases o with
  | cells c e f =>
    simp at he
    obtain ⟨rfl, rfl, rfl⟩ := he
    exact ⟨c, ho, rfl⟩
  | _ => cases he
theorem Cur.unalloc {wb w' : World} {p : Nat} {A : Option Addr} {l : List UInt8} {c : Nat} {cs : Array Value} (h : Cur wb (w'.alloc (.cells cs 3)) p A l c) : Cur wb w' p A l c := by
  obtain ⟨h1, h2, i, x, h3, h4⟩ := h
  have hlt : p < w'.heap.size := by
    have h5 := (Array.getElem?_eq_some_iff.1 h4).1
    rw [World.size_alloc] at h5
    rcases (by omega : p < w'.heap.size ∨ p = w'.heap.size) with h6 | rfl
    · exact h6
    · rw [heap_alloc_new] at h4
      injection h4 with h4
      injection h4 with _ h7
      exact absurd h7 (by decide)
  refine ⟨h1, ⟨h2.os, h2.tape, h2.output, by omega, fun k hk => ?_⟩, i, x, h3, ?_⟩
  · rw [← Below.block h2 k hk, Below.heap_alloc _ _ _ (by omega)]
  · rw [← h4, Below.heap_alloc _ _ _ hlt]
theorem l1IntLit2_c (ns : List Int) (hns : 0 < ns.length) (hns2 : ns.length ≤ 256) (n : Nat) (hn : n = ns.length) (cs : Array Value) (hcs : cs = (ns.map vint).toArray) (wb w : World) (p : Nat) (A : Option Addr) (l : List UInt8) (c : Nat) (hA : Bs wb A l c) (hC : Cur wb w p A l c) :
    Calls Try.prog 21 #[.pointer (some ⟨p, 0, none⟩), .slice (some ⟨w.heap.size, 0, none⟩) n n] (w.alloc (.cells cs 3)) fun e w' => ∃ x ∈ ns, e = .returned (.int .i64 x) ∧ Cur wb w' p A l c ∧ (w.alloc (.cells cs 3)).grownBy w' (some p) := by
  subst hn; subst hcs
  have hC' := hC.ext (Ext_alloc (.cells (ns.map vint).toArray 3) (Ext.refl w))
  have hlt := hC.lt
  refine (l1Int_c (some ⟨w.heap.size, 0, none⟩) ns ns.length hns hns2 wb _ p A l c hA hC' ?_).mono ?_
  · intro w' hg i hi
    refine ⟨w.heap.size, 0, rfl, ?_⟩
    have h0 := boxed (Ext.refl (w.alloc (.cells (ns.map vint).toArray 3))) (0 + i)
    refine hg.cell (a := ⟨w.heap.size, 0 + i, none⟩) (h0.trans ?_) (by intro hh; injection hh with hh; simp at hh; omega)
    rw [Nat.zero_add]
    simp [vint, hi]
  · rintro e w' ⟨x, hx, he, hC1, hg⟩
    exact ⟨x, hx, he, hC1, hg⟩
theorem Ext_drew' (w : World) : Ext w w.drew := Ext_drew (Ext.refl w)
/-- what the region's worlds keep -/
structure DC (wb : World) (p : Nat) (A : Option Addr) (l : List UInt8) (c g : Nat) (cs : Array Value) (v : Value) (d : List UInt8) (R : Nat) (w : World) : Prop where
  cur : Cur wb w p A l c
  box : Box w g cs 25
  own : OwnL vu8 5 wb w v d
  res : ∃ a b, Box w R #[a, b] 25
theorem DC.ext {wb : World} {p : Nat} {A : Option Addr} {l : List UInt8} {c g : Nat} {cs : Array Value} {v : Value} {d : List UInt8} {R : Nat} {w w' : World} (h : DC wb p A l c g cs v d R w) (e : Ext w w') : DC wb p A l c g cs v d R w' :=
  ⟨h.cur.ext e, h.box.ext e, h.own.ext e, let ⟨a, b, hb⟩ := h.res; ⟨a, b, hb.ext e⟩⟩
theorem DC.moved {wb : World} {p : Nat} {A : Option Addr} {l : List UInt8} {c g : Nat} {cs : Array Value} {v : Value} {d : List UInt8} {R : Nat} {w w' : World} (h : DC wb p A l c g cs v d R w) (hC : Cur wb w' p A l c) (hg : w.grownBy w' (some p)) (h1 : g ≠ p) (h2 : R ≠ p) (h3 : v.ownBlock ≠ some p) : DC wb p A l c g cs v d R w' :=
  ⟨hC, h.box.moved hg (some_ne h1.symm), OwnL.moved h.own hg h3, let ⟨a, b, hb⟩ := h.res; ⟨a, b, hb.moved hg (some_ne h2.symm)⟩⟩
theorem DC.stored {wb : World} {p : Nat} {A : Option Addr} {l : List UInt8} {c g : Nat} {cs : Array Value} {v : Value} {d : List UInt8} {R : Nat} {w : World} (h : DC wb p A l c g cs v d R w) (h1 : g ≠ R) (h2 : R ≠ p) (h3 : v.ownBlock ≠ some R) (h4 : wb.heap.size ≤ R) (x0 x1 : Value) : DC wb p A l c g cs v d R ((w.setCell ⟨R, 0, none⟩ x0).setCell ⟨R, 1, none⟩ x1) :=
  ⟨h.cur.set2 h2 h4 x0 x1, h.box.other2 h1 x0 x1, OwnL.set2 h.own h3 x0 x1, let ⟨_, _, hb⟩ := h.res; ⟨x0, x1, hb.stored2 x0 x1⟩⟩
/-- what a cell holds, unsaid -/
def cellOf (w : World) (a : Addr) : Value := (w.cell? a).getD undef
theorem cellOf_eq {w : World} {g i : Nat} {cs : Array Value} {T : TypeId} (h : Box w g cs T) (hi : i < cs.size) : w.cell? ⟨g, i, none⟩ = some (cellOf w ⟨g, i, none⟩) := by
  unfold cellOf; rw [h.cell i]; simp [hi]
set_option maxRecDepth 100000 in
set_option maxHeartbeats 4000000 in
theorem drawCrash_c (A : Option Addr) (l : List UInt8) (c : Nat) (w : World) (hA : Bs w A l c) :
    Calls Try.prog 5 #[.slice A l.length c] w fun e w' => ∃ d s v n, d.length ≤ 4001 ∧ e = .returned (.tuple #[vlog v s, .int .i64 n]) ∧ OwnL vu8 5 w w' v d ∧ Ext w w' := by
  have e0 := Ext_alloc (.cells #[.slice none 0 0, .int .i64 0] 25) (Ext.refl w)
  have HR := Lib.hid (Box.new w #[.slice none 0 0, .int .i64 0] 25)
  go_enter Try.func5, Try.ntmps5
  go_wp2_with fail
  refine (l1New_c A l c _ (hA.ext e0)).mono ?_; rintro _ w1 ⟨p, rfl, hC1⟩
  have HR1 := HR.out.ext hC1.2.1
  have hpR : w.heap.size ≠ p := by have := hC1.1; simp at this; omega
  have hC1 := hC1.lower e0
  have CAny := Lib.hid (l34Any_c w w1 p A l c hA hC1)
  have CBe := Lib.hid (fun n w' h hn => l1Below_c n w w' p A l c hA h hn)
  unfold vlog at CAny
  go_wp2_with fail
  refine CAny.out.mono ?_; rintro _ w2 ⟨d, st, v, hd, rfl, ho2, hn2, hC2, hg2⟩
  have HR2 := HR1.moved hg2 (some_ne hpR.symm)
  have hR2 : w.heap.size < w1.heap.size := HR1.lt
  have hn2 : ∀ k, v.ownBlock = some k → w.heap.size < k ∧ p < k := fun k hk => by have := hn2 k hk; have := hC1.lt; omega
  obtain ⟨A2, c2, rfl, _⟩ := OwnL.rd ho2 (by omega)
  have e2 := Ext_alloc (.cells #[.slice A2 d.length c2, .int .i64 st] 25) (Ext.refl w2)
  have hgR : w2.heap.size ≠ w.heap.size := by have := HR2.lt; omega
  have hgp : w2.heap.size ≠ p := by have := hC2.lt; omega
  have D2 : DC w p A l c w2.heap.size #[.slice A2 d.length c2, .int .i64 st] (.slice A2 d.length c2) d w.heap.size (w2.alloc (.cells #[.slice A2 d.length c2, .int .i64 st] 25)) :=
    ⟨hC2.ext e2, Box.new w2 _ _, ho2.ext e2, ⟨_, _, HR2.ext e2⟩⟩
  have hvR : (Value.slice A2 d.length c2).ownBlock ≠ some w.heap.size := fun hh => Nat.lt_irrefl _ (hn2 _ hh).1
  have hvp : (Value.slice A2 d.length c2).ownBlock ≠ some p := fun hh => Nat.lt_irrefl _ (hn2 _ hh).2
  have CI : Hid (∀ (w' : World) (x : Int), Cur w w' p A l c → Calls Try.prog 21 #[.pointer (some ⟨p, 0, none⟩), .slice (some ⟨w'.heap.size, 0, none⟩) 6 6] (w'.alloc (.cells #[.int .i64 (-1), .int .i64 0, .int .i64 st, .int .i64 x, .int .i64 d.length, .int .i64 ((d.length : Int) + 5)] 3)) fun e w'' => ∃ z ∈ [-1, 0, st, x, (d.length : Int), (d.length : Int) + 5], e = .returned (.int .i64 z) ∧ Cur w w'' p A l c ∧ (w'.alloc (.cells #[.int .i64 (-1), .int .i64 0, .int .i64 st, .int .i64 x, .int .i64 d.length, .int .i64 ((d.length : Int) + 5)] 3)).grownBy w'' (some p)) :=
    fun w' x h => l1IntLit2_c [-1, 0, st, x, (d.length : Int), (d.length : Int) + 5] (by simp) (by simp) 6 rfl _ rfl w w' p A l c hA h
  have hcapd : (d.length : Int) + 1 ≤ 16777216 := by omega
  obtain ⟨S, hS⟩ : ∃ S : World → Prop, S = fun w' => DC w p A l c w2.heap.size #[.slice A2 d.length c2, .int .i64 st] (.slice A2 d.length c2) d w.heap.size w' := ⟨_, rfl⟩
  have hS0 := Lib.hid (fun w' => iff_of_eq (congrFun hS w'))
  have s0 : S (w2.alloc (.cells #[.slice A2 d.length c2, .int .i64 st] 25)) := (hS0.out _).2 D2
  have sC : Hid (∀ w', S w' → Cur w w' p A l c) := fun w' h => ((hS0.out _).1 h).cur
  have sE : Hid (∀ w1 w', S w1 → Ext w1 w' → S w') := fun w1 w' h e => (hS0.out _).2 (((hS0.out _).1 h).ext e)
  have sM : Hid (∀ w1 w', S w1 → Cur w w' p A l c → w1.grownBy w' (some p) → S w') := fun w1 w' h hC hg => (hS0.out _).2 (((hS0.out _).1 h).moved hC hg hgp hpR hvp)
  have sT : Hid (∀ w1 x0 x1, S w1 → S ((w1.setCell ⟨w.heap.size, 0, none⟩ x0).setCell ⟨w.heap.size, 1, none⟩ x1)) := fun w1 x0 x1 h => (hS0.out _).2 (((hS0.out _).1 h).stored hgR hpR hvR (Nat.le_refl _) x0 x1)
  have full : Hid (∀ w', S w' → ((w'.cell? ⟨w2.heap.size, 0, none⟩ = some (.slice A2 d.length c2) ∧ w'.cell? ⟨w2.heap.size, 1, none⟩ = some (.int .i64 st) ∧ w'.frozen? ⟨w.heap.size, 0, none⟩ = false ∧ w'.frozen? ⟨w.heap.size, 1, none⟩ = false ∧ w'.cell? ⟨w.heap.size, 0, none⟩ = some (cellOf w' ⟨w.heap.size, 0, none⟩) ∧ w'.cell? ⟨w.heap.size, 1, none⟩ = some (cellOf w' ⟨w.heap.size, 1, none⟩)) ∧ S w')) := by
    intro w' h
    obtain ⟨x0, x1, hb⟩ := ((hS0.out _).1 h).res
    exact ⟨⟨((hS0.out _).1 h).box.cell 0, ((hS0.out _).1 h).box.cell 1, hb.free 0, hb.free 1, cellOf_eq hb (by simp), cellOf_eq hb (by simp)⟩, h⟩
  clear HR HR1 e0 CAny ho2 hn2 hg2 e2 hS D2 HR2 hC1 hC2 hvR hvp hgR hgp hR2 hpR
  have hcapd := Lib.hid hcapd
  have hw1 : IntKind.i64.wrap ((d.length : Int) + 1) = (d.length : Int) + 1 := IntWalk.i64_in _ (by omega)
  have hw5 : IntKind.i64.wrap ((d.length : Int) + 5) = (d.length : Int) + 5 := IntWalk.i64_in _ (by omega)
  have hd := Lib.hid hd
  go_wp2_with fail
  go_region_held3 (fun w' => (w'.cell? ⟨w2.heap.size, 0, none⟩ = some (.slice A2 d.length c2) ∧ w'.cell? ⟨w2.heap.size, 1, none⟩ = some (.int .i64 st) ∧ w'.frozen? ⟨w.heap.size, 0, none⟩ = false ∧ w'.frozen? ⟨w.heap.size, 1, none⟩ = false ∧ w'.cell? ⟨w.heap.size, 0, none⟩ = some (cellOf w' ⟨w.heap.size, 0, none⟩) ∧ w'.cell? ⟨w.heap.size, 1, none⟩ = some (cellOf w' ⟨w.heap.size, 1, none⟩)) ∧ S w') (first | exact full.out _ (sE.out _ _ s0 (Ext_drew (Ext.refl _))) | exact full.out _ (sM.out _ _ (And.right (by assumption)) (by assumption) (by assumption)) | exact full.out _ (sE.out _ _ (And.right (by assumption)) (Ext_alloc _ (Ext.refl _))) | exact full.out _ (sT.out _ _ _ (And.right (by assumption)))) (first
    | (go_at_call 22; refine (CBe.out _ _ (sC.out _ (And.right (by assumption))) hcapd.out).mono ?_; rintro _ w3 ⟨x, _, rfl, hC3, hg3⟩)
    | (go_at_call 21; refine (CI.out _ _ (Cur.unalloc (sC.out _ (And.right (by assumption))))).mono ?_; rintro _ w4 ⟨z, _, rfl, hC4, hg4⟩))
  rename_i hHd
  have hF := (hS0.out _).1 (And.right hHd)
  obtain ⟨a0, b0, hR⟩ := hF.res
  obtain ⟨cs1, hR1, e1⟩ := hR.unset
  obtain ⟨cs2, hR2, e2⟩ := hR1.unset
  have z0 : ∃ u, w4.cell? ⟨w.heap.size, 0, none⟩ = some u := by
    rw [hR2.cell 0]
    have : 2 = cs2.size := by have h1 := congrArg Array.size e1; have h2 := congrArg Array.size e2; simp at h1 h2; omega
    exact ⟨cs2[0], by simp [← this]⟩
  have z1 : ∃ u, w4.cell? ⟨w.heap.size, 1, none⟩ = some u := by
    rw [hR2.cell 1]
    have : 2 = cs2.size := by have h1 := congrArg Array.size e1; have h2 := congrArg Array.size e2; simp at h1 h2; omega
    exact ⟨cs2[1], by simp [← this]⟩
  obtain ⟨u0, z0⟩ := z0
  obtain ⟨u1, z1⟩ := z1
  have hO := Lib.hid hF.own; have hX := Lib.hid hF.cur.2.1
  clear hHd hF hR hR1 hR2 e1 e2 hw1 hw5
  go_wp2
  have y0 : ((w4.setCell ⟨w.heap.size, 0, none⟩ (.slice A2 d.length c2)).setCell ⟨w.heap.size, 1, none⟩ (.int .i64 st)).cell? ⟨w.heap.size, 0, none⟩ = some (.slice A2 d.length c2) := by
    rw [World.cell?_setCell_other _ _ _ _ (by simp)]; exact World.cell?_setCell_same _ _ _ z0
  have y1 : ((w4.setCell ⟨w.heap.size, 0, none⟩ (.slice A2 d.length c2)).setCell ⟨w.heap.size, 1, none⟩ (.int .i64 st)).cell? ⟨w.heap.size, 1, none⟩ = some (.int .i64 st) := by
    refine World.cell?_setCell_same (u := u1) _ _ _ ?_
    rw [World.cell?_setCell_other _ _ _ _ (by simp)]; exact z1
  exact bodyPost_ret (v := .tuple #[.agg #[.slice A2 d.length c2, .int .i64 st], .int .i64 z]) (by simp [results, Try.results5, go_sem, y0, y1]) rfl ⟨d, st, _, z, hd.out, rfl, hO.out, hX.out⟩
end Go.Proofs.Ytcaeeoghkonniaa
