/- A block of cells, known whole. -/
import Derived.Test.YtdbbdoldndnbhaaDoorZRc1
import Derived.Laws.BitsLemmas
import Derived.Laws.CopyOwn
import Derived.Laws.BytesArg
import Derived.Laws.BitsAllLaws
import Derived.Deep.RegionHeld3
import Derived.StillTailTactics
import Derived.Defers
import Derived.Recover
import Derived.Laws.Pointers
namespace Go.Proofs.YtdbbdoldndnbhaaDoor
open Go.RowKit Go.Sort

theorem heap_ext' {w w' : World} {g : Nat} {o : Obj} (h : w.heap[g]? = some o) (e : Ext w w') : w'.heap[g]? = some o := (Below.block e g (Array.getElem?_eq_some_iff.1 h).1).trans h
theorem grown_set (w : World) (a : Addr) (u : Value) : w.grownBy (w.setCell a u) (some a.block) :=
  ⟨rfl, rfl, rfl, by simp, fun k _ hk => heap_setCell_other w a k u (fun e => hk (by rw [e]))⟩
theorem grown_ext {w w' : World} (e : Ext w w') (row : Option Nat) : w.grownBy w' row := ⟨e.os, e.tape, e.output, e.size, fun i hi _ => Below.block e i hi⟩
/-- a row of cells -/
def Box (w : World) (g : Nat) (cs : Array Value) (T : TypeId) : Prop := w.heap[g]? = some (.cells cs T (0, 0))
theorem Box.lt {w : World} {g : Nat} {cs : Array Value} {T : TypeId} (h : Box w g cs T) : g < w.heap.size := (Array.getElem?_eq_some_iff.1 h).1
theorem Box.new (w : World) (cs : Array Value) (T : TypeId) : Box (w.alloc (.cells cs T)) w.heap.size cs T := heap_alloc_new w _
theorem Box.cell {w : World} {g : Nat} {cs : Array Value} {T : TypeId} (h : Box w g cs T) (i : Nat) : w.cell? ⟨g, i, none⟩ = cs[i]? := cell_of_row w g i cs T (0, 0) h
theorem Box.free {w : World} {g : Nat} {cs : Array Value} {T : TypeId} (h : Box w g cs T) (i : Nat) : w.frozen? ⟨g, i, none⟩ = false := frozen_of_row w g i cs T h
theorem Box.ext {w w' : World} {g : Nat} {cs : Array Value} {T : TypeId} (h : Box w g cs T) (e : Ext w w') : Box w' g cs T := heap_ext' h e
theorem Box.moved {w w' : World} {g : Nat} {cs : Array Value} {T : TypeId} (h : Box w g cs T) {r : Option Nat} (hg : w.grownBy w' r) (hne : r ≠ some g) : Box w' g cs T := (hg.block g h.lt (fun hh => hne hh.symm)).trans h
theorem Box.set {w : World} {g : Nat} {cs : Array Value} {T : TypeId} (h : Box w g cs T) (i : Nat) (u : Value) : Box (w.setCell ⟨g, i, none⟩ u) g (cs.setIfInBounds i u) T := heap_setCell_same w g i cs T u h
theorem Box.other {w : World} {g g' : Nat} {cs : Array Value} {T : TypeId} (h : Box w g cs T) (hne : g ≠ g') (i : Nat) (u : Value) : Box (w.setCell ⟨g', i, none⟩ u) g cs T := (heap_setCell_other w ⟨g', i, none⟩ g u hne).trans h
theorem Box.at {w : World} {g : Nat} {cs : Array Value} {T : TypeId} (h : Box w g cs T) (i : Nat) : ∀ w', Ext w w' → w'.cell? ⟨g, i, none⟩ = cs[i]? := fun _ e => (h.ext e).cell i
theorem Box.frees {w : World} {g : Nat} {cs : Array Value} {T : TypeId} (h : Box w g cs T) (i : Nat) : ∀ w', Ext w w' → w'.frozen? ⟨g, i, none⟩ = false := fun _ e => (h.ext e).free i
/-- three blocks, one behind the other -/
theorem boxes3 (w : World) (c0 c1 c2 : Array Value) (T0 T1 T2 : TypeId) :
    Box (((w.alloc (.cells c0 T0)).alloc (.cells c1 T1)).alloc (.cells c2 T2)) w.heap.size c0 T0 ∧ Box (((w.alloc (.cells c0 T0)).alloc (.cells c1 T1)).alloc (.cells c2 T2)) (w.heap.size + 1) c1 T1 ∧
    Box (((w.alloc (.cells c0 T0)).alloc (.cells c1 T1)).alloc (.cells c2 T2)) (w.heap.size + 1 + 1) c2 T2 ∧ Ext w (((w.alloc (.cells c0 T0)).alloc (.cells c1 T1)).alloc (.cells c2 T2)) ∧
    (((w.alloc (.cells c0 T0)).alloc (.cells c1 T1)).alloc (.cells c2 T2)).heap.size = w.heap.size + 3 := by
  have s1 : (w.alloc (.cells c0 T0)).heap.size = w.heap.size + 1 := by simp
  have s2 : ((w.alloc (.cells c0 T0)).alloc (.cells c1 T1)).heap.size = w.heap.size + 1 + 1 := by simp
  have h1 := Box.new (w.alloc (.cells c0 T0)) c1 T1
  have h2 := Box.new ((w.alloc (.cells c0 T0)).alloc (.cells c1 T1)) c2 T2
  rw [s1] at h1; rw [s2] at h2
  exact ⟨((Box.new w c0 T0).ext (Ext_alloc _ (Ext.refl _))).ext (Ext_alloc _ (Ext.refl _)), h1.ext (Ext_alloc _ (Ext.refl _)), h2, Ext_alloc _ (Ext_alloc _ (Ext_alloc _ (Ext.refl w))), by simp⟩
theorem boxes3' (w : World) (c0 c1 c2 : Array Value) (T0 T1 T2 : TypeId) :
    ∃ W, Hid (W = (((w.alloc (.cells c0 T0)).alloc (.cells c1 T1)).alloc (.cells c2 T2))) ∧ Box W w.heap.size c0 T0 ∧ Box W (w.heap.size + 1) c1 T1 ∧ Box W (w.heap.size + 1 + 1) c2 T2 ∧ Ext w W ∧ W.heap.size = w.heap.size + 3 :=
  ⟨_, rfl, boxes3 w c0 c1 c2 T0 T1 T2⟩
/-- a row of the call's own stays where another block is written -/
theorem Own.other {e : TypeId} {size : Nat} {w0 w : World} {v : Value} {n : Nat} {xs : List Value} (h : Own e size w0 w v n xs) (p : Addr) (u : Value) (hne : v.ownBlock ≠ some p.block) : Own e size w0 (w.setCell p u) v n xs := by
  refine World.ownsRow.kept h (grown_set w p u) ?_
  cases hb : v.ownBlock with
  | none => exact .inl rfl
  | some g => right; rw [hb] at hne; exact fun he => hne he
theorem OwnL.other {α : Type} {f : α → Value} {e : TypeId} {w0 w : World} {v : Value} {l : List α} (h : OwnL f e w0 w v l) (p : Addr) (u : Value) (hne : v.ownBlock ≠ some p.block) : OwnL f e w0 (w.setCell p u) v l := Own.other h p u hne
theorem OwnL.far {α : Type} {f : α → Value} {e : TypeId} {w0 w : World} {v : Value} {l : List α} (h : OwnL f e w0 w v l) {b : Nat} (hb : b < w0.heap.size ∨ w.heap.size ≤ b) : v.ownBlock ≠ some b := by
  intro hv
  have h1 := World.ownsRow.lt h b hv
  omega
theorem OwnL.down {α : Type} {f : α → Value} {e : TypeId} {w0 w1 w : World} {v : Value} {l : List α} (h : OwnL f e w1 w v l) (hb : w0.heap.size ≤ w1.heap.size) : OwnL f e w0 w v l := World.ownsRow.lower h hb
end Go.Proofs.YtdbbdoldndnbhaaDoor

/- The cursor of the draws: what it hands back is within its bounds; of memory only its own block turns. -/
namespace Go.Proofs.YtdbbdoldndnbhaaDoor
open Go.RowKit Go.Sort

theorem i64_and255 (n : Int) : bits .and .i64 n 255 = n % 256 := by
  have h255 : (BitVec.ofInt 64 255).toNat = 2 ^ 8 - 1 := by decide
  have key : (BitVec.ofInt 64 n &&& BitVec.ofInt 64 255).toNat = (n % ((2 ^ 64 : Nat) : Int)).toNat % 2 ^ 8 := by
    rw [BitVec.toNat_and, BitVec.toNat_ofInt, h255, Nat.and_two_pow_sub_one_eq_mod]
  show IntKind.i64.wrap ((BitVec.ofInt 64 n &&& BitVec.ofInt 64 255).toNat : Nat) = n % 256
  rw [key, IntKind.wrap_i64]
  omega
theorem i64_and30 (n : Int) : bits .and .i64 n 1073741823 = n % 1073741824 := by
  have h255 : (BitVec.ofInt 64 1073741823).toNat = 2 ^ 30 - 1 := by decide
  have key : (BitVec.ofInt 64 n &&& BitVec.ofInt 64 1073741823).toNat = (n % ((2 ^ 64 : Nat) : Int)).toNat % 2 ^ 30 := by
    rw [BitVec.toNat_and, BitVec.toNat_ofInt, h255, Nat.and_two_pow_sub_one_eq_mod]
  show IntKind.i64.wrap ((BitVec.ofInt 64 n &&& BitVec.ofInt 64 1073741823).toNat : Nat) = n % 1073741824
  rw [key, IntKind.wrap_i64]
  omega
/-- a cursor over bytes that were there in wb, its block laid since -/
def Cur (wb w : World) (p : Nat) (A : Option Addr) (l : List UInt8) (c : Nat) : Prop :=
  wb.heap.size ≤ p ∧ Ext wb w ∧ ∃ (i : Nat) (h : Int), i ≤ l.length ∧ w.heap[p]? = some (.cells #[.slice A l.length c, .int .i64 i, .int .i64 h] 117 (0, 0))
set_option maxRecDepth 100000 in
set_option maxHeartbeats 1000000 in
theorem l1New_c (A : Option Addr) (l : List UInt8) (c : Nat) (w : World) (hA : Bs w A l c) :
    Calls Tryd.prog 86 #[.slice A l.length c] w fun e w' => ∃ p, e = .returned (.pointer (some ⟨p, 0, none⟩)) ∧ Cur w w' p A l c := by
  have hl := hA.len
  have H30 : ∀ n : Int, bits .and .i64 n 1073741823 = n % 1073741824 := i64_and30
  go_enter Tryd.func86, Tryd.ntmps86
  go_wp2
  go_loopw [3, 4] (fun h i wr => ∃ (k : Nat) (x : Int), k ≤ l.length ∧ i = .int .i64 k ∧ h = .int .i64 x ∧ 0 ≤ x ∧ x ≤ 140737488551232 ∧ Ext w wr) (fun _ i _ => l.length - (intOf i).toNat)
  case atStart => exact ⟨0, _, by omega, rfl, rfl, by omega, by omega, Ext.refl _⟩
  case round =>
    obtain ⟨k, x, hk, rfl, rfl, hx1, hx2, he⟩ := hrel
    by_cases hlt : k < l.length ∧ k < 4000
    · obtain ⟨hlt, h4⟩ := hlt
      obtain ⟨b, off, rfl, hb, hc⟩ := hA.at k hlt
      have h8 := l[k].toNat_lt
      clear hA
      go_wp2
      go_roundw
      case rel => exact ⟨k + 1, _, by omega, by go_num, rfl, Int.emod_nonneg _ (by omega), by have := Int.emod_lt_of_pos (x * 137 + (l[k].toNat : Int) + 11) (show (0 : Int) < 1073741824 by omega); omega, he⟩
      case measure => simp [intOf]; omega
    · by_cases h1 : k < l.length
      all_goals
        go_wp2
        go_ret
        refine ⟨_, rfl, he.size, Ext_alloc _ he, 0, x, by omega, ?_⟩
        exact heap_alloc_new wr _

set_option maxRecDepth 100000 in
set_option maxHeartbeats 2000000 in
theorem l1Byte_c (wb w : World) (p : Nat) (A : Option Addr) (l : List UInt8) (c : Nat) (hA : Bs wb A l c) (hC : Cur wb w p A l c) :
    Calls Tryd.prog 126 #[.pointer (some ⟨p, 0, none⟩)] w fun e w' => ∃ x : Nat, x < 256 ∧ e = .returned (.int .i64 x) ∧ Cur wb w' p A l c ∧ w.grownBy w' (some p) := by
  have hl := hA.len
  obtain ⟨hp, he, i, h, hi, hh⟩ := hC
  have H255 : ∀ n : Int, bits .and .i64 n 255 = n % 256 := i64_and255
  have c0 := cell_of_row w p 0 _ _ (0, 0) hh
  have c1 := cell_of_row w p 1 _ _ (0, 0) hh
  have c2 := cell_of_row w p 2 _ _ (0, 0) hh
  have f2 := frozen_of_row w p 2 _ _ hh
  simp at c0 c1 c2
  have hu : ∀ u : Int, (w.setCell ⟨p, 2, none⟩ (.int .i64 u)).heap[p]? = some (.cells #[.slice A l.length c, .int .i64 i, .int .i64 u] 117 (0, 0)) := fun u => heap_setCell_same w p 2 _ _ (.int .i64 u) hh
  have HU := Lib.hid hu
  have HE : Hid (∀ u : Int, Ext wb (w.setCell ⟨p, 2, none⟩ (.int .i64 u))) := fun u => he.setCell hp _
  have HG : Hid (∀ u : Int, w.grownBy (w.setCell ⟨p, 2, none⟩ (.int .i64 u)) (some p)) := fun u => grown_set w ⟨p, 2, none⟩ _
  clear hu hh
  by_cases hlt : i < l.length
  · obtain ⟨b, off, rfl, hb, hc⟩ := hA.at i hlt
    have h8 := l[i].toNat_lt
    have g1 : (i : Int) < (l.length : Int) := by omega
    have HC := Lib.hid hc
    clear hc hA
    go_enter Tryd.func126, Tryd.ntmps126
    go_wp2_with fail
    generalize wrap64 (wrap64 (h * 6364136223846793005) + 1442695040888963407) = U
    have hU := HU.out U; have hE := HE.out U; have hG := HG.out U
    generalize w.setCell ⟨p, 2, none⟩ (.int .i64 U) = W at *
    have K0 : ∀ w', Ext W w' → w'.cell? ⟨p, 0, none⟩ = some (.slice (some ⟨b, off, none⟩) l.length c) := fun w' e => by simpa using cell_of_row w' p 0 _ _ (0, 0) (heap_ext' hU e)
    have K1 : ∀ w', Ext W w' → w'.cell? ⟨p, 1, none⟩ = some (.int .i64 i) := fun w' e => by simpa using cell_of_row w' p 1 _ _ (0, 0) (heap_ext' hU e)
    have K2 : ∀ w', Ext W w' → w'.cell? ⟨p, 2, none⟩ = some (.int .i64 U) := fun w' e => by simpa using cell_of_row w' p 2 _ _ (0, 0) (heap_ext' hU e)
    have F1 : ∀ w', Ext W w' → w'.frozen? ⟨p, 1, none⟩ = false := fun w' e => frozen_of_row w' p 1 _ _ (heap_ext' hU e)
    have KC : ∀ w', Ext W w' → w'.cell? ⟨b, off + i, none⟩ = some (.int .u8 (l[i].toNat : Int)) := fun w' e => by
      have := HC.out w' (hE.trans e); simpa [vu8] using this
    have HUU := Lib.hid hU; have HEE := Lib.hid hE; have HGG := Lib.hid hG
    clear hU hE hG c0 c1 c2 f2
    refine wp_region_quiet_below (by kernel_rfl) (by kernel_rfl) ?_
    repeat (go_big_quiet_step (fail))
    refine wpQuiet_nil ?_
    rintro w1 ⟨⟨nq, osq⟩, hq⟩
    have ew1 := ext_of_q hq
    clear hq nq osq
    go_wp2_with fail
    refine wp_region_quiet_below (by kernel_rfl) (by kernel_rfl) ?_
    repeat (go_big_quiet_step (fail))
    refine wpQuiet_nil ?_
    rintro w2 ⟨⟨nq, osq⟩, hq⟩
    have ew2 := ext_of_q hq
    clear hq nq osq
    have e12 := ew1.trans ew2
    go_wp2_with fail
    refine wp_region_quiet_below (by kernel_rfl) (by kernel_rfl) ?_
    repeat (go_big_quiet_step (fail))
    refine wpQuiet_nil ?_
    rintro w3 ⟨⟨nq, osq⟩, hq⟩
    have ew3 := ext_of_q hq
    clear hq nq osq
    have e13 := e12.trans ew3
    go_wp2_with fail
    have hbd : ∀ n : Int, ∃ x : Nat, x < 256 ∧ n % 256 = (x : Int) := fun n => ⟨(n % 256).toNat, by have := Int.emod_nonneg n (show (256 : Int) ≠ 0 by omega); have := Int.emod_lt_of_pos n (show (0 : Int) < 256 by omega); omega, by have := Int.emod_nonneg n (show (256 : Int) ≠ 0 by omega); omega⟩
    obtain ⟨x, hx1, hx2⟩ := hbd (bits BinOp.xor IntKind.i64 (U / 8589934592) (U / 140737488355328) + ↑l[i].toNat)
    go_ret
    refine ⟨x, hx1, ret_i64 hx2, ⟨hp, (HEE.out.trans e13).setCell hp _, i + 1, U, by omega, ?_⟩, (HGG.out.trans (grown_ext e13 _)).trans (grown_set _ _ _)⟩
    have := heap_setCell_same w3 p 1 _ _ (.int .i64 ((i : Int) + 1)) (heap_ext' HUU.out e13)
    rw [this]
    rfl
  · have g1 : ¬ (i : Int) < (l.length : Int) := by omega
    go_enter Tryd.func126, Tryd.ntmps126
    go_wp2_with fail
    generalize wrap64 (wrap64 (h * 6364136223846793005) + 1442695040888963407) = U
    have hU := HU.out U; have hE := HE.out U; have hG := HG.out U
    generalize w.setCell ⟨p, 2, none⟩ (.int .i64 U) = W at *
    have K0 : ∀ w', Ext W w' → w'.cell? ⟨p, 0, none⟩ = some (.slice A l.length c) := fun w' e => by simpa using cell_of_row w' p 0 _ _ (0, 0) (heap_ext' hU e)
    have K1 : ∀ w', Ext W w' → w'.cell? ⟨p, 1, none⟩ = some (.int .i64 i) := fun w' e => by simpa using cell_of_row w' p 1 _ _ (0, 0) (heap_ext' hU e)
    have K2 : ∀ w', Ext W w' → w'.cell? ⟨p, 2, none⟩ = some (.int .i64 U) := fun w' e => by simpa using cell_of_row w' p 2 _ _ (0, 0) (heap_ext' hU e)
    have HUU := Lib.hid hU; have HEE := Lib.hid hE; have HGG := Lib.hid hG
    clear hU hE hG c0 c1 c2 f2
    refine wp_region_quiet_below (by kernel_rfl) (by kernel_rfl) ?_
    repeat (go_big_quiet_step (fail))
    refine wpQuiet_nil ?_
    rintro w1 ⟨⟨nq, osq⟩, hq⟩
    have ew1 := ext_of_q hq
    clear hq nq osq
    go_wp2_with fail
    refine wp_region_quiet_below (by kernel_rfl) (by kernel_rfl) ?_
    repeat (go_big_quiet_step (fail))
    refine wpQuiet_nil ?_
    rintro w2 ⟨⟨nq, osq⟩, hq⟩
    have ew2 := ext_of_q hq
    clear hq nq osq
    have e12 := ew1.trans ew2
    go_wp2_with fail
    have hbd : ∀ n : Int, ∃ x : Nat, x < 256 ∧ n % 256 = (x : Int) := fun n => ⟨(n % 256).toNat, by have := Int.emod_nonneg n (show (256 : Int) ≠ 0 by omega); have := Int.emod_lt_of_pos n (show (0 : Int) < 256 by omega); omega, by have := Int.emod_nonneg n (show (256 : Int) ≠ 0 by omega); omega⟩
    obtain ⟨x, hx1, hx2⟩ := hbd (bits BinOp.xor IntKind.i64 (U / 8589934592) (U / 140737488355328))
    go_ret
    exact ⟨x, hx1, ret_i64 hx2, ⟨hp, HEE.out.trans e12, i, U, by omega, heap_ext' HUU.out e12⟩, HGG.out.trans (grown_ext e12 _)⟩
/-- a number of a draw: 0 where n is not above 0, else below n -/
def below (n : Int) (x : Nat) : Prop := if n ≤ 0 then x = 0 else (x : Int) < n
set_option maxRecDepth 100000 in
set_option maxHeartbeats 1000000 in
theorem l1Below_c (n : Int) (wb w : World) (p : Nat) (A : Option Addr) (l : List UInt8) (c : Nat) (hA : Bs wb A l c) (hC : Cur wb w p A l c) (hn : n ≤ 16777216) :
    Calls Tryd.prog 107 #[.pointer (some ⟨p, 0, none⟩), .int .i64 n] w fun e w' => ∃ x : Nat, below n x ∧ e = .returned (.int .i64 x) ∧ Cur wb w' p A l c ∧ w.grownBy w' (some p) := by
  have CB := Lib.hid (fun w h => l1Byte_c wb w p A l c hA h)
  by_cases h0 : n ≤ 0
  · go_enter Tryd.func107, Tryd.ntmps107
    go_wp2
    go_ret
    exact ⟨0, by unfold below; rw [if_pos h0], rfl, hC, World.grownBy.refl _ _⟩
  · by_cases h1 : n ≤ 256
    · go_enter Tryd.func107, Tryd.ntmps107
      go_wp2_with fail
      refine (CB.out _ hC).mono ?_; rintro _ w1 ⟨x, hx, rfl, hC1, hg1⟩
      go_wp2
      go_ret
      refine ⟨((x : Int) % n).toNat, ?_, ?_, hC1, hg1⟩
      · unfold below; rw [if_neg (by omega)]; have := Int.emod_lt_of_pos (x : Int) (show 0 < n by omega); have := Int.emod_nonneg (x : Int) (show n ≠ 0 by omega); omega
      · have := Int.emod_nonneg (x : Int) (show n ≠ 0 by omega)
        exact ret_i64 (Int.toNat_of_nonneg this).symm
    · go_enter Tryd.func107, Tryd.ntmps107
      go_wp2_with fail
      refine (CB.out _ hC).mono ?_; rintro _ w1 ⟨x, hx, rfl, hC1, hg1⟩
      go_wp2_with fail
      refine (CB.out _ hC1).mono ?_; rintro _ w2 ⟨y, hy, rfl, hC2, hg2⟩
      go_wp2_with fail
      refine (CB.out _ hC2).mono ?_; rintro _ w3 ⟨z, hz, rfl, hC3, hg3⟩
      go_wp2
      go_ret
      have hq := Int.emod_nonneg ((x : Int) * 65536 + (y : Int) * 256 + (z : Int)) (show n ≠ 0 by omega)
      refine ⟨(((x : Int) * 65536 + (y : Int) * 256 + (z : Int)) % n).toNat, ?_, ?_, hC3, (hg1.trans hg2).trans hg3⟩
      · unfold below; rw [if_neg (by omega)]; have := Int.emod_lt_of_pos ((x : Int) * 65536 + (y : Int) * 256 + (z : Int)) (show 0 < n by omega); omega
      · exact ret_i64 (Int.toNat_of_nonneg hq).symm
set_option maxHeartbeats 1000000 in
theorem l1Once_c (n : Int) (wb w : World) (p : Nat) (A : Option Addr) (l : List UInt8) (c : Nat) (hA : Bs wb A l c) (hC : Cur wb w p A l c) (hn : n ≤ 16777216) :
    Calls Tryd.prog 125 #[.pointer (some ⟨p, 0, none⟩), .int .i64 n] w fun e w' => ∃ x : Bool, e = .returned (.bool x) ∧ Cur wb w' p A l c ∧ w.grownBy w' (some p) := by
  go_enter Tryd.func125, Tryd.ntmps125
  go_wp2_with fail
  refine (l1Below_c n wb w p A l c hA hC hn).mono ?_; rintro _ w1 ⟨x, hx, rfl, hC1, hg1⟩
  go_wp2
  go_ret
  exact ⟨_, rfl, hC1, hg1⟩
set_option maxRecDepth 100000 in
set_option maxHeartbeats 1000000 in
theorem l1Int_c (B : Option Addr) (ns : List Int) (cb : Nat) (hns : 0 < ns.length) (hns2 : ns.length ≤ 256) (wb w : World) (p : Nat) (A : Option Addr) (l : List UInt8) (c : Nat) (hA : Bs wb A l c) (hC : Cur wb w p A l c)
    (hk : ∀ w', w.grownBy w' (some p) → ∀ i (h : i < ns.length), ∃ b off, B = some ⟨b, off, none⟩ ∧ w'.cell? ⟨b, off + i, none⟩ = some (.int .i64 ns[i])) :
    Calls Tryd.prog 108 #[.pointer (some ⟨p, 0, none⟩), .slice B ns.length cb] w fun e w' => ∃ x ∈ ns, e = .returned (.int .i64 x) ∧ Cur wb w' p A l c ∧ w.grownBy w' (some p) := by
  have CB := Lib.hid (fun w h => l1Below_c ns.length wb w p A l c hA h (by omega))
  go_enter Tryd.func108, Tryd.ntmps108
  go_wp2_with fail
  refine (CB.out _ hC).mono ?_; rintro _ w1 ⟨x, hx, rfl, hC1, hg1⟩
  have hx' : x < ns.length := by unfold below at hx; rw [if_neg (by omega)] at hx; omega
  obtain ⟨b, off, rfl, hc⟩ := hk w1 hg1 x hx'
  go_wp2
  go_ret
  exact ⟨_, List.getElem_mem hx', rfl, hC1, hg1⟩
end Go.Proofs.YtdbbdoldndnbhaaDoor

/- The drawn bytes of packing and of runs. -/
namespace Go.Proofs.YtdbbdoldndnbhaaDoor
open Go.RowKit Go.Sort

theorem Cur.kept {wb w w' : World} {p : Nat} {A : Option Addr} {l : List UInt8} {c : Nat} (h : Cur wb w p A l c) {row : Option Nat} (hg : w.grownBy w' row) (hne : row ≠ some p) (e : Ext wb w') : Cur wb w' p A l c := by
  obtain ⟨h1, _, i, x, h3, h4⟩ := h
  exact ⟨h1, e, i, x, h3, (hg.block p (Array.getElem?_eq_some_iff.1 h4).1 (fun he => hne he.symm)).trans h4⟩
theorem Cur.ext {wb w w' : World} {p : Nat} {A : Option Addr} {l : List UInt8} {c : Nat} (h : Cur wb w p A l c) (e : Ext w w') : Cur wb w' p A l c :=
  ⟨h.1, h.2.1.trans e, let ⟨i, x, h3, h4⟩ := h.2.2; ⟨i, x, h3, heap_ext' h4 e⟩⟩
theorem Cur.lt {wb w : World} {p : Nat} {A : Option Addr} {l : List UInt8} {c : Nat} (h : Cur wb w p A l c) : p < w.heap.size := let ⟨_, _, _, h4⟩ := h.2.2; (Array.getElem?_eq_some_iff.1 h4).1
/-- a row of the call's own stays while the cursor moves -/
theorem OwnL.moved {α : Type} {f : α → Value} {e : TypeId} {w0 w w' : World} {v : Value} {l : List α} (h : OwnL f e w0 w v l) {p : Nat} (hg : w.grownBy w' (some p)) (hne : v.ownBlock ≠ some p) : OwnL f e w0 w' v l := by
  refine World.ownsRow.kept h hg ?_
  cases hb : v.ownBlock with
  | none => exact .inl rfl
  | some g => right; rw [hb] at hne; exact fun he => hne he
section
variable {P : Program} {ops : Array Oper} {rest : List Oper} {o : Oper} {a : Act} {Q : Exit → Act → World → Prop}
/-- append(s, y1, .., ym) onto a row that is not the cursor's -/
theorem wpList_appC (hgd : o.guard = none) (s x : Operand) (t : TypeId) (ho : o.op = .call { callee := .builtin .append, args := #[s, x], argTypes := #[t, t] })
    {e : TypeId} {bytes : Nat} {z : Value} (hE : Elem P t e 1 bytes z) (hby : 1 ≤ bytes) (w0 w : World) {α : Type} (f : α → Value) (hf : ∀ x, (f x).oneCell' = true) (v : Value) (hs : a.eval s = v) (m c : Nat) (hx : a.eval x = .slice (some ⟨w.heap.size, 0, none⟩) m c)
    (l ys : List α) (cs : Array Value) (hcs : cs = (ys.map f).toArray) (hown : OwnL f e w0 w v l) (he : Ext w0 w) (hm : m = ys.length)
    (hb : (l.length + ys.length) * bytes ≤ 140737488355328) (p : Nat) (hp : p < w.heap.size) (hne : v.ownBlock ≠ some p)
    (h : ∀ v' w', OwnL f e w0 w' v' (l ++ ys) → Ext w0 w' → v'.ownBlock ≠ some p → w.grownBy w' v.ownBlock → (∀ B, B ≤ w.heap.size → (∀ g, v.ownBlock = some g → B ≤ g) → ∀ g, v'.ownBlock = some g → B ≤ g) → (v'.ownBlock = v.ownBlock ∨ v'.ownBlock = some (w.heap.size + 1)) → wpList P ops Q rest (a.put o.dst v') w') :
    wpList P ops Q (o :: rest) a (w.alloc (.cells cs e)) := by
  subst hcs
  refine wpList_appL hgd s x t ho hE hby w0 _ f hf v hs (some ⟨w.heap.size, 0, none⟩) m c hx l ys (hown.ext (Ext_alloc _ (Ext.refl w))) (Ext_alloc _ he) hm (fun _ => ⟨_, rfl, fun j u hu => ?_⟩) hb (fun v' w' h1 h2 h3 h4 => h v' w' h1 h2 ?_ ((World.grownBy_alloc w _ _).trans h4) ?_ (by simpa using h3))
  · rw [World.cell?_alloc_at']; exact hu
  · rcases h3 with h3 | h3
    · rw [h3]; exact hne
    · rw [h3]; intro hh; injection hh with hh; simp at hh; omega
  · intro B hB hv g hg
    rcases h3 with h3 | h3
    · exact hv g (h3 ▸ hg)
    · rw [h3] at hg; injection hg with hg; simp at hg; omega
end
theorem nb {B p : Nat} {v : Value} (hp : p < B) (h : ∀ g, v.ownBlock = some g → B ≤ g) : v.ownBlock ≠ some p := fun hh => by have := h p hh; omega
theorem grown_own {w wr w4 : World} {p : Nat} {v : Value} (h : w.grownBy wr (some p)) (hv : ∀ g, v.ownBlock = some g → w.heap.size ≤ g) (hg : wr.grownBy w4 v.ownBlock) : w.grownBy w4 (some p) :=
  ⟨hg.os.trans h.os, hg.tape.trans h.tape, hg.output.trans h.output, Nat.le_trans h.size hg.size, fun k hk hne => (hg.block k (Nat.lt_of_lt_of_le hk h.size) (fun he => by have := hv k he.symm; omega)).trans (h.block k hk hne)⟩
set_option maxRecDepth 100000 in
set_option maxHeartbeats 4000000 in
theorem l32Bytes_c (wb w : World) (p : Nat) (A : Option Addr) (l : List UInt8) (c : Nat) (hA : Bs wb A l c) (hC : Cur wb w p A l c) :
    Calls Tryd.prog 124 #[.pointer (some ⟨p, 0, none⟩)] w fun e w' => ∃ v q, q.length ≤ 790 ∧ e = .returned v ∧ OwnL vu8 5 wb w' v q ∧ (∀ g, v.ownBlock = some g → w.heap.size ≤ g) ∧ Cur wb w' p A l c ∧ w.grownBy w' (some p) := by
  have CBe := Lib.hid (fun n w h hn => l1Below_c n wb w p A l c hA h hn)
  have COn := Lib.hid (fun n w h hn => l1Once_c n wb w p A l c hA h hn)
  have CIn : Hid (∀ w, Cur wb w p A l c → Calls Tryd.prog 108 #[.pointer (some ⟨p, 0, none⟩), .slice (some ⟨w.heap.size, 0, none⟩) 6 6] (w.alloc (.cells #[.int .i64 1, .int .i64 1, .int .i64 2, .int .i64 3, .int .i64 5, .int .i64 130] 3)) fun e w' => ∃ x : Int, x ≤ 130 ∧ e = .returned (.int .i64 x) ∧ Cur wb w' p A l c ∧ w.grownBy w' (some p)) := by
    intro w hC
    have hC' := hC.ext (Ext_alloc (.cells #[.int .i64 1, .int .i64 1, .int .i64 2, .int .i64 3, .int .i64 5, .int .i64 130] 3) (Ext.refl w))
    have hlt := hC.lt
    refine (l1Int_c (some ⟨w.heap.size, 0, none⟩) [1, 1, 2, 3, 5, 130] 6 (by simp) (by simp) wb _ p A l c hA hC' ?_).mono ?_
    · intro w' hg i hi
      refine ⟨w.heap.size, 0, rfl, ?_⟩
      have h0 := boxed (Ext.refl (w.alloc (.cells #[.int .i64 1, .int .i64 1, .int .i64 2, .int .i64 3, .int .i64 5, .int .i64 130] 3))) (0 + i)
      refine hg.cell (a := ⟨w.heap.size, 0 + i, none⟩) (h0.trans ?_) (by intro hh; injection hh with hh; simp at hh; omega)
      have hi6 : i < 6 := by simpa using hi
      rcases (by omega : i = 0 ∨ i = 1 ∨ i = 2 ∨ i = 3 ∨ i = 4 ∨ i = 5) with rfl | rfl | rfl | rfl | rfl | rfl <;> rfl
    · rintro e w' ⟨x, hx, he, hC1, hg⟩
      refine ⟨x, ?_, he, hC1, (World.grownBy_alloc w _ _).trans hg⟩
      simp at hx; omega
  have hplt := hC.lt
  go_enter Tryd.func124, Tryd.ntmps124
  go_wp2_with fail
  refine (CBe.out 6 _ (hC.ext (Ext_alloc _ (Ext.refl w))) (by omega)).mono ?_; rintro _ w1 ⟨x, hx, rfl, hC1, hg1⟩
  have hx5 : x ≤ 5 := by unfold below at hx; rw [if_neg (by omega)] at hx; omega
  have ho1 : OwnL vu8 5 wb w1 (.slice (some ⟨w.heap.size, 0, none⟩) 0 0) [] := by
    refine OwnL.moved (OwnL.empty hC.2.1) hg1 ?_
    intro hh; injection hh with hh; have := hC.lt; simp at hh; omega
  have hn1 : Hid (∀ g, (Value.slice (some ⟨w.heap.size, 0, none⟩) 0 0).ownBlock = some g → w.heap.size ≤ g) := by
    intro g hh; injection hh with hh; simp at hh; omega
  have hw1 := (World.grownBy_alloc w (.cells #[] 5) (some p)).trans hg1
  go_wp2_with fail
  go_loopw [3, 4] (fun t i wr => ∃ (k : Nat) (q : List UInt8), k ≤ 5 ∧ i = .int .i64 k ∧ q.length + 130 * k ≤ 650 ∧ Hid (∀ g, t.ownBlock = some g → w.heap.size ≤ g) ∧ w.grownBy wr (some p) ∧ OwnL vu8 5 wb wr t q ∧ Cur wb wr p A l c) (fun _ i _ => (intOf i).toNat)
  case atStart => exact ⟨x, [], hx5, rfl, by simp; omega, hn1, hw1, ho1, hC1⟩
  case round =>
    clear hn1 ho1 hC1 hw1 hg1 hx hx5
    obtain ⟨k, q, hk, rfl, hq, hn, hgr, ho, hCr⟩ := hrel
    by_cases h0 : 0 < k
    · go_wp2_with fail
      refine (CBe.out 4 _ hCr (by omega)).mono ?_; rintro _ w2 ⟨y, hy, rfl, hC2, hg2⟩
      have hy3 : y ≤ 3 := by unfold below at hy; rw [if_neg (by omega)] at hy; omega
      have ho2 := OwnL.moved ho hg2 (nb hplt hn.out)
      have hgb := hgr.trans hg2
      clear hCr hg2 ho hgr
      go_wp2_with fail
      refine (CIn.out _ hC2).mono ?_; rintro _ w3 ⟨z, hz, rfl, hC3, hg3⟩
      have ho3 := OwnL.moved ho2 hg3 (nb hplt hn.out)
      have hgc := hgb.trans hg3
      clear hC2 hg3 ho2 hgb
      go_wp2_with fail
      go_loopw [3, 6] (fun t j wr => ∃ (m : Int) (q' : List UInt8), m ≤ 130 ∧ j = .int .i64 m ∧ (q'.length : Int) + max m 0 ≤ q.length + 130 ∧ Hid (∀ g, t.ownBlock = some g → w.heap.size ≤ g) ∧ w.grownBy wr (some p) ∧ OwnL vu8 5 wb wr t q' ∧ Cur wb wr p A l c) (fun _ j _ => (intOf j).toNat)
      case atStart => exact ⟨z, q, hz, rfl, by omega, hn, hgc, ho3, hC3⟩
      case round =>
        clear hn ho3 hC3 hgc
        obtain ⟨m, q', hm, rfl, hq', hn, hgr, ho, hCr⟩ := hrel
        by_cases hm0 : 0 < m
        · have HB : Hid ((q'.length + [UInt8.ofNat y].length) * 1 ≤ 140737488355328) := by show _ ≤ _; simp; omega
          have HCS : Hid (#[Value.int .u8 (y : Int)] = ([UInt8.ofNat y].map vu8).toArray) := by
            show _ = _
            have : (UInt8.ofNat y).toNat = y := by rw [UInt8.toNat_ofNat']; omega
            simp [vu8, this]
          go_wp2_with (first
            | (at_builtin; refine wpList_appC rfl (.tmp 25) (.tmp 27) _ rfl E_u8 (by omega) wb _ vu8 (fun _ => rfl) _ rfl _ _ rfl q' [UInt8.ofNat y] _ HCS.out ho hCr.2.1 rfl HB.out p hCr.lt (nb hplt hn.out) ?_; intro v4 w4 ho4 he4 hn4 hg4 hb4 _))
          have hC4 := Cur.kept hCr hg4 (nb hplt hn.out) he4
          have hg' := grown_own hgr hn.out hg4
          have hn' := Lib.hid (hb4 _ hgr.size hn.out)
          clear ho hCr hg4 hb4 hn4
          go_wp2_with fail
          go_roundw
          case rel => exact ⟨m - 1, q' ++ [UInt8.ofNat y], by omega, by go_num, by simp; omega, hn', hg', ho4, hC4⟩
          case measure => simp [intOf]; omega
        · go_wp2_with fail
          go_roundw
          case rel => exact ⟨k - 1, q', by omega, by go_num, by omega, hn, hgr, ho, hCr⟩
          case measure => simp [intOf]; omega
    · go_wp2_with fail
      refine (COn.out 6 _ hCr (by omega)).mono ?_; rintro _ w2 ⟨y, rfl, hC2, hg2⟩
      have ho2 := OwnL.moved ho hg2 (nb hplt hn.out)
      have hgb := hgr.trans hg2
      clear hCr hg2 ho hgr
      cases y
      · go_wp2_with fail
        go_ret
        exact ⟨_, q, by omega, rfl, ho2, hn.out, hC2, hgb⟩
      · go_wp2_with fail
        go_loopw [3, 7] (fun t j wr => ∃ (m : Nat) (q' : List UInt8), m ≤ 140 ∧ j = .int .i64 m ∧ q'.length ≤ 650 + m ∧ Hid (∀ g, t.ownBlock = some g → w.heap.size ≤ g) ∧ w.grownBy wr (some p) ∧ OwnL vu8 5 wb wr t q' ∧ Cur wb wr p A l c) (fun _ j _ => 140 - (intOf j).toNat)
        case atStart => exact ⟨0, q, by omega, rfl, by omega, hn, hgb, ho2, hC2⟩
        case round =>
          clear hn ho2 hC2 hgb
          obtain ⟨m, q', hm, rfl, hq', hn, hgr, ho, hCr⟩ := hrel
          by_cases hm0 : m < 140
          · have HB : Hid ((q'.length + [UInt8.ofNat m].length) * 1 ≤ 140737488355328) := by show _ ≤ _; simp; omega
            have HCS : Hid (#[Value.int .u8 (m : Int)] = ([UInt8.ofNat m].map vu8).toArray) := by
              show _ = _
              have : (UInt8.ofNat m).toNat = m := by rw [UInt8.toNat_ofNat']; omega
              simp [vu8, this]
            go_wp2_with (first
              | (at_builtin; refine wpList_appC rfl (.tmp 35) (.tmp 38) _ rfl E_u8 (by omega) wb _ vu8 (fun _ => rfl) _ rfl _ _ rfl q' [UInt8.ofNat m] _ HCS.out ho hCr.2.1 rfl HB.out p hCr.lt (nb hplt hn.out) ?_; intro v4 w4 ho4 he4 hn4 hg4 hb4 _))
            have hC4 := Cur.kept hCr hg4 (nb hplt hn.out) he4
            have hg' := grown_own hgr hn.out hg4
            have hn' := Lib.hid (hb4 _ hgr.size hn.out)
            clear ho hCr hg4 hb4 hn4
            go_wp2_with fail
            go_roundw
            case rel => exact ⟨m + 1, q' ++ [UInt8.ofNat m], by omega, by go_num, by simp; omega, hn', hg', ho4, hC4⟩
            case measure => simp [intOf]; omega
          · go_wp2_with fail
            go_ret
            exact ⟨_, q', by omega, rfl, ho, hn.out, hCr, hgr⟩
end Go.Proofs.YtdbbdoldndnbhaaDoor

/- The law on runs: the runs tile the drawn bytes, and their count is CountRuns. -/
namespace Go.Proofs.YtdbbdoldndnbhaaDoor
open Go.RowKit Go.Sort

set_option maxHeartbeats 400000 in
theorem big_c (A : Option Addr) (l : List UInt8) (c : Nat) (w : World) (h : Rd0 vu8 w A l c) :
    Gives Tryd.prog 31 #[.slice A l.length c] w (.bool (decide ((1048576 : Int) < (l.length : Int)))) := by
  have hl := h.len
  go_enter Tryd.func31, Tryd.ntmps31
  go_wp2
  go_ret
  exact ⟨rfl, Ext.refl _⟩
end Go.Proofs.YtdbbdoldndnbhaaDoor

/- EncodeRecord of the program and of the reference. -/
namespace Go.Proofs.YtdbbdoldndnbhaaDoor
open Go.RowKit Go.Sort

/-- a row of a literal is the call's own -/
theorem OwnL.lit {α : Type} {f : α → Value} {e : TypeId} {w0 w : World} (he : Ext w0 w) (ys : List α) (cs : Array Value) (hcs : cs = (ys.map f).toArray) (m : Nat) (hm : m = ys.length) (hl : m ≤ 1000) :
    OwnL f e w0 (w.alloc (.cells cs e)) (.slice (some ⟨w.heap.size, 0, none⟩) m m) ys := by
  subst hcs; subst hm
  exact ⟨by simp, .inr ⟨w.heap.size, ys.length, _, rfl, he.size, heap_alloc_new w _, by omega, by simp only [maxLen]; omega, by simp, by simp [List.take_of_length_le]⟩⟩

set_option maxRecDepth 100000 in
set_option maxHeartbeats 2000000 in
theorem iEncodeRecord_c (k : Int) (nm : ByteArray) (ver : Int) (A : Option Addr) (l : List UInt8) (c : Nat) (w : World) (h : Bs w A l c) (hn : nm.size ≤ 9223372036854775807) :
    Calls Tryd.prog 33 #[vrec k nm ver (.slice A l.length c)] w fun e w' => ∃ v, e = .returned v ∧ OwnL vu8 5 w w' v (encRec k nm ver l) ∧ Ext w w' := by
  have C1 := Lib.hid (fun w => iIsValidRecord_c k nm ver A l c w h.len hn)
  have B := fun w' (e : Ext (w.alloc (.cells #[.int .i64 k, .string nm, .int .i64 ver, .slice A l.length c] 49)) w') => boxed e
  have eb := Ext_alloc (.cells #[.int .i64 k, .string nm, .int .i64 ver, .slice A l.length c] 49) (Ext.refl w)
  unfold encRec
  cases hv : validRec k nm ver l.length
  · rw [hv] at C1
    unfold vrec at C1 ⊢
    go_enter Tryd.func33, Tryd.ntmps33
    go_wp2_with (first
      | (go_at_call 35; refine (C1.out _).mono ?_; rintro _ w1 ⟨rfl, he1⟩))
    go_ret
    exact ⟨_, rfl, OwnL.empty (eb.trans he1), Ext_alloc _ (eb.trans he1)⟩
  · rw [hv] at C1
    have C2 := Lib.hid (fun w' (e : Ext w w') => iPackBytes_c A l c w' (h.ext e) (by have := validRec_facts hv; omega))
    have HPL : Hid ((pack l).length ≤ 140737488351232) := by
      have hf := validRec_facts hv
      have hp := pack_le l
      show _ ≤ _; omega
    have hpl : (pack l).length ≤ 800 := by
      have hf := validRec_facts hv
      have hp := pack_le l
      omega
    have hf := validRec_facts hv
    have H0 : Hid (#[Value.int .u8 (k % 256), Value.int .u8 ((nm.size : Int) % 256)] = ([UInt8.ofNat k.toNat, UInt8.ofNat nm.size].map vu8).toArray) := by
      show _ = _
      simp [vu8, UInt8.toNat_ofNat']; omega
    have H1 : Hid (#[Value.int .u8 (ver % 256), Value.int .u8 (((pack l).length : Int) / 256), Value.int .u8 (((pack l).length : Int) % 256)] = ([UInt8.ofNat ver.toNat, UInt8.ofNat ((pack l).length / 256), UInt8.ofNat (pack l).length].map vu8).toArray) := by
      show _ = _
      simp [vu8, UInt8.toNat_ofNat']; omega
    have HN : Hid (([UInt8.ofNat k.toNat, UInt8.ofNat nm.size].length + nm.size) ≤ 140737488355328) := by
      show _ ≤ _
      simp; omega
    have HE : Hid (([UInt8.ofNat k.toNat, UInt8.ofNat nm.size] ++ nm.data.toList) ++ [UInt8.ofNat ver.toNat, UInt8.ofNat ((pack l).length / 256), UInt8.ofNat (pack l).length] ++ pack l = encBody k nm ver l) := by
      show _ = _; unfold encBody be2; simp
    have HBL : Hid ((encBody k nm ver l).length = nm.size + 5 + (pack l).length) := encBody_length k nm ver l
    have HS : Hid (#[Value.int .u8 ((sumB (encBody k nm ver l) : Int) % 256)] = ([UInt8.ofNat (sumB (encBody k nm ver l))].map vu8).toArray) := by
      show _ = _
      simp [vu8, UInt8.toNat_ofNat']
    generalize hP : pack l = P at *
    have HP := Lib.hid hP; clear hP
    have HN1 : Hid (((([UInt8.ofNat k.toNat, UInt8.ofNat nm.size] ++ nm.data.toList).length + [UInt8.ofNat ver.toNat, UInt8.ofNat (P.length / 256), UInt8.ofNat P.length].length) * 1) ≤ 140737488355328) := by
      show _ ≤ _
      simp; omega
    have HN2 : Hid ((((([UInt8.ofNat k.toNat, UInt8.ofNat nm.size] ++ nm.data.toList) ++ [UInt8.ofNat ver.toNat, UInt8.ofNat (P.length / 256), UInt8.ofNat P.length]).length + P.length) * 1) ≤ 140737488355328) := by
      show _ ≤ _
      simp; omega
    have HN3 : Hid (((encBody k nm ver l).length + [UInt8.ofNat (sumB (encBody k nm ver l))].length) * 1 ≤ 140737488355328) := by
      show _ ≤ _
      rw [HBL.out]; simp; omega
    have HN4 : Hid ((encBody k nm ver l).length ≤ 1099511627776) := by
      show _ ≤ _
      rw [HBL.out]; omega
    generalize encBody k nm ver l = EB at *
    clear HBL hf
    unfold vrec at C1 ⊢
    go_enter Tryd.func33, Tryd.ntmps33
    go_wp2_with (first
      | (go_at_call 35; refine (C1.out _).mono ?_; rintro _ w1 ⟨rfl, he1⟩)
      | (go_at_call 67; refine (C2.out _ (eb.trans (by assumption))).mono ?_; rintro _ w2 ⟨v2, rfl, ho2, he2⟩; have he12 := he1.trans he2; obtain ⟨A2, c2, rfl, hr2⟩ := OwnL.rd ho2 HPL.out)
      | (at_builtin; refine wpList_appS rfl (.tmp 20) (.tmp 22) _ _ rfl E_u8 rfl w2 _ _ rfl nm rfl [UInt8.ofNat k.toNat, UInt8.ofNat nm.size] (OwnL.lit (Ext.refl w2) _ _ H0.out 2 rfl (by omega)) (Ext_alloc _ (Ext.refl w2)) HN.out ?_; intro v3 w3 ho3 he3; have he13 := he12.trans he3)
      | (at_builtin; refine wpList_appN rfl (.tmp 24) (.tmp 35) _ rfl E_u8 (by omega) w2 _ vu8 (fun _ => rfl) _ rfl _ _ rfl ([UInt8.ofNat k.toNat, UInt8.ofNat nm.size] ++ nm.data.toList) [UInt8.ofNat ver.toNat, UInt8.ofNat (P.length / 256), UInt8.ofNat P.length] _ H1.out ho3 he3 rfl HN1.out ?_; intro v4 w4 ho4 he4; have he14 := he12.trans he4)
      | (at_builtin; refine wpList_appL rfl (.tmp 37) (.tmp 38) _ rfl E_u8 (by omega) w2 _ vu8 (fun _ => rfl) _ rfl _ _ _ rfl (([UInt8.ofNat k.toNat, UInt8.ofNat nm.size] ++ nm.data.toList) ++ [UInt8.ofNat ver.toNat, UInt8.ofNat (P.length / 256), UInt8.ofNat P.length]) P ho4 he4 rfl (hr2.src he4) HN2.out ?_; intro v5 w5 ho5 he5 _ _; rw [HE.out] at ho5; obtain ⟨A5, c5, hv5, hr5⟩ := ho5.rd (by have := HN4.out; omega); subst hv5; have he15 := he12.trans he5)
      | (go_at_call 68; refine (iSumOfBytes_c _ _ _ _ hr5 HN4.out).mono ?_; rintro _ w6 ⟨rfl, he6⟩; have ho6 := ho5.ext he6; have he56 := he5.trans he6)
      | (at_builtin; refine wpList_appN rfl (.tmp 40) (.tmp 44) _ rfl E_u8 (by omega) w2 _ vu8 (fun _ => rfl) _ rfl _ _ rfl EB [UInt8.ofNat (sumB EB)] _ HS.out ho6 he56 rfl HN3.out ?_; intro v7 w7 ho7 he7)
      | (at_builtin; trace_state; fail))
    go_ret
    exact ⟨_, rfl, ho7.lower (eb.trans he12), (eb.trans he12).trans he7⟩

set_option maxRecDepth 100000 in
set_option maxHeartbeats 2000000 in
theorem sEncodeRecord_c (k : Int) (nm : ByteArray) (ver : Int) (A : Option Addr) (l : List UInt8) (c : Nat) (w : World) (h : Bs w A l c) (hn : nm.size ≤ 9223372036854775807) :
    Calls Tryd.prog 93 #[vrec k nm ver (.slice A l.length c)] w fun e w' => ∃ v, e = .returned v ∧ OwnL vu8 5 w w' v (encRec k nm ver l) ∧ Ext w w' := by
  have C1 := Lib.hid (fun w => sIsValidRecord_c k nm ver A l c w h.len hn)
  have B := fun w' (e : Ext (w.alloc (.cells #[.int .i64 k, .string nm, .int .i64 ver, .slice A l.length c] 49)) w') => boxed e
  have eb := Ext_alloc (.cells #[.int .i64 k, .string nm, .int .i64 ver, .slice A l.length c] 49) (Ext.refl w)
  unfold encRec
  cases hv : validRec k nm ver l.length
  · rw [hv] at C1
    unfold vrec at C1 ⊢
    go_enter Tryd.func93, Tryd.ntmps93
    go_wp2_with (first
      | (go_at_call 34; refine (C1.out _).mono ?_; rintro _ w1 ⟨rfl, he1⟩))
    go_ret
    exact ⟨_, rfl, OwnL.empty (eb.trans he1), Ext_alloc _ (eb.trans he1)⟩
  · rw [hv] at C1
    have C2 := Lib.hid (fun w' (e : Ext w w') => sPackBytes_c A l c w' (h.ext e) (by have := validRec_facts hv; omega))
    have hf := validRec_facts hv
    have hpl : (pack l).length ≤ 800 := by
      have hp := pack_le l
      omega
    have HPL : Hid ((pack l).length ≤ 140737488351232) := by
      show _ ≤ _; omega
    have H0 : Hid (#[Value.int .u8 (k % 256), Value.int .u8 ((nm.size : Int) % 256)] = ([UInt8.ofNat k.toNat, UInt8.ofNat nm.size].map vu8).toArray) := by
      show _ = _
      simp [vu8, UInt8.toNat_ofNat']; omega
    have H1 : Hid (#[Value.int .u8 (ver % 256)] = ([UInt8.ofNat ver.toNat].map vu8).toArray) := by
      show _ = _
      simp [vu8, UInt8.toNat_ofNat']; omega
    have HNS : Hid (nm.size ≤ 140737488351232) := by show _ ≤ _; omega
    have HNL : Hid (nm.size = nm.data.toList.length) := by show _ = _; simp
    have HN : Hid (([UInt8.ofNat k.toNat, UInt8.ofNat nm.size].length + nm.data.toList.length) * 1 ≤ 140737488355328) := by
      show _ ≤ _
      simp; omega
    have HN1 : Hid (((([UInt8.ofNat k.toNat, UInt8.ofNat nm.size] ++ nm.data.toList).length + [UInt8.ofNat ver.toNat].length) * 1) ≤ 140737488355328) := by
      show _ ≤ _
      simp; omega
    have HE : Hid (([UInt8.ofNat k.toNat, UInt8.ofNat nm.size] ++ nm.data.toList) ++ [UInt8.ofNat ver.toNat] ++ be2 (pack l).length ++ pack l = encBody k nm ver l) := rfl
    have HBL : Hid ((encBody k nm ver l).length = nm.size + 5 + (pack l).length) := encBody_length k nm ver l
    have HS : Hid (#[Value.int .u8 ((sumB (encBody k nm ver l) : Int) % 256)] = ([UInt8.ofNat (sumB (encBody k nm ver l))].map vu8).toArray) := by
      show _ = _
      simp [vu8, UInt8.toNat_ofNat']
    generalize hP : pack l = P at *
    have HP := Lib.hid hP; clear hP
    have HBE : Hid (P.length ≤ 65535) := by show _ ≤ _; omega
    have hbe : (be2 P.length).length = 2 := rfl
    have HN2 : Hid ((((([UInt8.ofNat k.toNat, UInt8.ofNat nm.size] ++ nm.data.toList) ++ [UInt8.ofNat ver.toNat]).length + (be2 P.length).length) * 1) ≤ 140737488355328) := by
      show _ ≤ _
      simp; omega
    have HN2b : Hid ((((([UInt8.ofNat k.toNat, UInt8.ofNat nm.size] ++ nm.data.toList) ++ [UInt8.ofNat ver.toNat] ++ be2 P.length).length + P.length) * 1) ≤ 140737488355328) := by
      show _ ≤ _
      simp; omega
    have HB2 := Lib.hid hbe; clear hbe
    generalize hBE : be2 P.length = BE at *
    have HBQ := Lib.hid hBE; clear hBE
    have CB := Lib.hid (fun w => BigEndian2_c P.length w HBE.out)
    rw [HBQ.out] at CB
    have HN3 : Hid (((encBody k nm ver l).length + [UInt8.ofNat (sumB (encBody k nm ver l))].length) * 1 ≤ 140737488355328) := by
      show _ ≤ _
      rw [HBL.out]; simp; omega
    have HN4 : Hid ((encBody k nm ver l).length ≤ 140737488351232) := by
      show _ ≤ _
      rw [HBL.out]; omega
    generalize encBody k nm ver l = EB at *
    clear HBL hf
    unfold vrec at C1 ⊢
    go_enter Tryd.func93, Tryd.ntmps93
    go_wp2_with (first
      | (go_at_call 34; refine (C1.out _).mono ?_; rintro _ w1 ⟨rfl, he1⟩)
      | (go_at_call 110; refine (C2.out _ (eb.trans (by assumption))).mono ?_; rintro _ w2 ⟨v2, rfl, ho2, he2⟩; have he12 := he1.trans he2; obtain ⟨A2, c2, rfl, hr2⟩ := OwnL.rd ho2 HPL.out)
      | (refine wpList_bytesOf rfl (.tmp 21) 9 44 rfl rfl rfl rfl _ nm rfl HNS.out ?_; intro c3 w3 hr3 he3; have hl3 := (OwnL.lit (Ext.refl w2) _ _ H0.out 2 rfl (by omega)).ext he3; have he23 := (Ext_alloc _ (Ext.refl w2)).trans he3; have he13 := he12.trans he23)
      | (at_builtin; refine wpList_appL rfl (.tmp 19) (.tmp 22) _ rfl E_u8 (by omega) w2 _ vu8 (fun _ => rfl) _ rfl _ _ _ rfl [UInt8.ofNat k.toNat, UInt8.ofNat nm.size] nm.data.toList hl3 he23 HNL.out (hr3.src (Ext.refl _)) HN.out ?_; intro v4 w4 ho4 he4 _ _; have he14 := he12.trans he4)
      | (at_builtin; refine wpList_appN rfl (.tmp 24) (.tmp 28) _ rfl E_u8 (by omega) w2 _ vu8 (fun _ => rfl) _ rfl _ _ rfl ([UInt8.ofNat k.toNat, UInt8.ofNat nm.size] ++ nm.data.toList) [UInt8.ofNat ver.toNat] _ H1.out ho4 he4 rfl HN1.out ?_; intro v5 w5 ho5 he5; have he15 := he12.trans he5)
      | (go_at_call 111; refine (CB.out _).mono ?_; rintro _ w6 ⟨v6, rfl, ho6, he6⟩; obtain ⟨A6, c6, hv6, hr6⟩ := OwnL.rd ho6 (by rw [HB2.out]; omega); subst hv6; have hp5 := ho5.ext he6; have he26 := he5.trans he6; have he16 := he12.trans he26)
      | (at_builtin; refine wpList_appL rfl (.tmp 29) (.tmp 32) _ rfl E_u8 (by omega) w2 _ vu8 (fun _ => rfl) _ rfl _ _ _ rfl (([UInt8.ofNat k.toNat, UInt8.ofNat nm.size] ++ nm.data.toList) ++ [UInt8.ofNat ver.toNat]) BE hp5 he26 rfl (hr6.src (Ext.refl _)) HN2.out ?_; intro v7 w7 ho7 he7 _ _; have he17 := he12.trans he7)
      | (at_builtin; refine wpList_appL rfl (.tmp 33) (.tmp 34) _ rfl E_u8 (by omega) w2 _ vu8 (fun _ => rfl) _ rfl _ _ _ rfl (([UInt8.ofNat k.toNat, UInt8.ofNat nm.size] ++ nm.data.toList) ++ [UInt8.ofNat ver.toNat] ++ BE) P ho7 he7 rfl (hr2.src he7) HN2b.out ?_; intro v8 w8 ho8 he8 _ _; rw [HE.out] at ho8; obtain ⟨A8, c8, hv8, hr8⟩ := ho8.rd HN4.out; subst hv8; have he18 := he12.trans he8)
      | (go_at_call 112; refine (sSumOfBytes_c _ _ _ _ hr8).mono ?_; rintro _ w9 ⟨rfl, he9⟩; have ho9 := ho8.ext he9; have he29 := he8.trans he9)
      | (at_builtin; refine wpList_appN rfl (.tmp 36) (.tmp 40) _ rfl E_u8 (by omega) w2 _ vu8 (fun _ => rfl) _ rfl _ _ rfl EB [UInt8.ofNat (sumB EB)] _ HS.out ho9 he29 rfl HN3.out ?_; intro v10 w10 ho10 he10))
    go_ret
    exact ⟨_, rfl, ho10.lower (eb.trans he12), (eb.trans he12).trans he10⟩
set_option maxHeartbeats 400000 in
theorem iRecordSize_c (k : Int) (nm : ByteArray) (ver : Int) (A : Option Addr) (l : List UInt8) (c : Nat) (w : World) (h : Bs w A l c) (hn : nm.size ≤ 9223372036854775807) :
    Gives Tryd.prog 36 #[vrec k nm ver (.slice A l.length c)] w (.int .i64 (encRec k nm ver l).length) := by
  have C := Lib.hid (fun w h => iEncodeRecord_c k nm ver A l c w h hn)
  have hle := encRec_le k nm ver l
  have eb := Ext_alloc (.cells #[.int .i64 k, .string nm, .int .i64 ver, .slice A l.length c] 49) (Ext.refl w)
  generalize encRec k nm ver l = R at *
  unfold vrec at *
  go_enter Tryd.func36, Tryd.ntmps36
  go_wp2_with fail
  refine (C.out _ (h.ext eb)).mono ?_; rintro _ w1 ⟨v1, rfl, ho1, he1⟩; obtain ⟨A1, c1, rfl, _⟩ := OwnL.rd ho1 (by omega)
  go_wp2
  go_ret
  exact ⟨rfl, eb.trans he1⟩

end Go.Proofs.YtdbbdoldndnbhaaDoor

/- UnpackBytes and IsPacked of the program and of the reference. -/
namespace Go.Proofs.YtdbbdoldndnbhaaDoor
open Go.RowKit Go.Sort

set_option maxRecDepth 100000 in
set_option maxHeartbeats 1000000 in
theorem iUnpackBytes_c (A : Option Addr) (l : List UInt8) (c : Nat) (w : World) (h : Bs w A l c) :
    Calls Tryd.prog 71 #[.slice A l.length c] w fun e w' => ∃ v, e = .returned (.tuple #[v, .bool (unpack l).isSome]) ∧ OwnL vu8 5 w w' v ((unpack l).getD []) ∧ Ext w w' := by
  have hl := h.len
  go_enter Tryd.func71, Tryd.ntmps71
  go_wp2
  go_loopw [4, 5] (fun t i wr => ∃ (a : Nat) (out : List UInt8), a ≤ l.length ∧ i = .int .i64 a ∧ OwnL vu8 5 w wr t out ∧ out.length ≤ 1000 ∧ Hid (unpackAt l a out = unpack l) ∧ Ext w wr) (fun _ i _ => l.length - (intOf i).toNat)
  case atStart => exact ⟨0, [], by omega, rfl, OwnL.empty (Ext.refl _), by simp, by simp [Hid, unpackAt, unpack], Ext_alloc _ (Ext.refl _)⟩
  case round =>
    obtain ⟨a, out, ha, rfl, ho, hout, hs, he⟩ := hrel
    by_cases hlt : a < l.length
    · obtain ⟨b, off, rfl, hb, hcs⟩ := h.base (by omega)
      have hc := fun w' e => hcs w' e a hlt
      have hstep := Lib.hid (unpackAt_step l a out hlt)
      have hx : (l[a].toNat : Int) ≤ 255 := by have := l[a].toNat_lt; omega
      have e0 : (l[a] = 0) ↔ l[a].toNat = 0 := by rw [← UInt8.toNat_inj]; simp
      have e128 : (l[a] = 128) ↔ l[a].toNat = 128 := by rw [← UInt8.toNat_inj]; simp
      have elt : (l[a] < 128) ↔ l[a].toNat < 128 := by rw [UInt8.lt_iff_toNat_lt]; simp
      by_cases c1 : l[a] = 0 ∨ l[a] = 128 ∨ l.length = a + 1
      · have HN : Hid (unpack l = none) := by have := hs.out; rw [hstep.out, if_pos c1] at this; exact this.symm
        rw [e0, e128] at c1
        clear hs hstep e0 e128 elt ho
        cases d1 : ((l[a].toNat : Int) == 0) <;> cases d2 : ((l[a].toNat : Int) == 128) <;> cases d3 : ((a:Int) + 1 == (l.length:Int))
        all_goals first
          | (exfalso; simp at d1 d2 d3; omega)
          | (clear c1; go_wp2; go_ret2; rw [HN.out]; exact ⟨_, rfl, OwnL.empty he, Ext_alloc _ he⟩)
      · have c1' : ¬ (l[a].toNat = 0 ∨ l[a].toNat = 128 ∨ l.length = a + 1) := by rw [← e0, ← e128]; exact c1
        have d1 : ((l[a].toNat : Int) == 0) = false := beq_eq_false_iff_ne.2 (by omega)
        have d2 : ((l[a].toNat : Int) == 128) = false := beq_eq_false_iff_ne.2 (by omega)
        have d3 : ((a:Int) + 1 == (l.length:Int)) = false := beq_eq_false_iff_ne.2 (by omega)
        have hs := Lib.hid (hs.out.symm.trans (hstep.out.trans (if_neg c1)))
        by_cases c2 : l[a] < 128
        · have hs := Lib.hid (hs.out.trans (if_pos c2))
          rw [elt] at c2
          clear hstep e0 e128 elt c1
          by_cases c3 : l.length < a + 1 + l[a].toNat
          · have HN : Hid (unpack l = none) := hs.out.trans (if_pos c3)
            clear hs ho
            go_wp2
            go_ret2; rw [HN.out]; exact ⟨_, rfl, OwnL.empty he, Ext_alloc _ he⟩
          · have hs := Lib.hid (hs.out.trans (if_neg c3))
            have hcap := h.cap
            have hcells := part_cells (hcs wr he) (a + 1) l[a].toNat
            have hln : a + 1 + l[a].toNat - (a + 1) = ((l.drop (a+1)).take l[a].toNat).length := by simp; omega
            have hlen : ((l.drop (a+1)).take l[a].toNat).length = l[a].toNat := by simp; omega
            have HC := Lib.hid hcells; have HL := Lib.hid hln; have HN := Lib.hid hlen
            have HB : (out.length + ((l.drop (a+1)).take l[a].toNat).length) * 1 ≤ 140737488355328 := by omega
            have HB := Lib.hid HB; clear hcells hln hlen hcs
            go_wp2_with (first
              | (at_builtin; go_must (refine wpList_appL rfl (.tmp 57) (.tmp 63) _ rfl E_u8 (by omega) w wr vu8 (fun _ => rfl) u4 rfl _ _ _ rfl out ((l.drop (a+1)).take l[a].toNat) ho he HL.out (fun _ => ⟨_, rfl, HC.out⟩) HB.out ?_); intro v1 w1 ho1 he1 _ _; obtain ⟨A1, c1, hv1, _⟩ := ho1.rd (by rw [List.length_append, HN.out]; omega); subst hv1))
            · have hbig : ((1000 : Int) < (out.length : Int) + (min l[a].toNat (l.length - (a + 1)) : Nat)) := by assumption
              have HN2 : Hid (unpack l = none) := hs.out.trans (if_pos (by omega))
              go_ret2; rw [HN2.out]; exact ⟨_, rfl, OwnL.empty he1, Ext_alloc _ he1⟩
            · have hsm : (out.length : Int) + (min l[a].toNat (l.length - (a + 1)) : Nat) ≤ 1000 := by assumption
              have hs2 := hs.out.trans (if_neg (by omega))
              go_roundw
              case rel => exact ⟨a + 1 + l[a].toNat, out ++ (l.drop (a+1)).take l[a].toNat, by omega, by go_num, by simpa using ho1, by simp; omega, hs2.symm, he1⟩
              case measure => simp [intOf]; omega
        · have hs := Lib.hid (hs.out.trans (if_neg c2))
          rw [elt] at c2
          clear hstep e0 e128 elt c1
          have ha1 : a + 1 < l.length := by omega
          have hhd : (l.drop (a+1)).headD 0 = l[a+1] := by rw [List.drop_eq_getElem_cons ha1]; rfl
          have HD := Lib.hid hhd; clear hhd
          have hc' := fun w' e => hcs w' e (a+1) ha1
          have d5 : decide ((128 : Int) < (l[a].toNat : Int)) = true := by simp; omega
          go_wp2
          go_loopw [4, 21] (fun t i wq => ∃ j : Nat, j ≤ l[a].toNat - 128 ∧ i = .int .i64 j ∧ OwnL vu8 5 w wq t (out ++ List.replicate j l[a+1]) ∧ Ext w wq) (fun _ i _ => l[a].toNat - 128 - (intOf i).toNat)
          case atStart => exact ⟨0, by omega, rfl, by simpa using ho, he⟩
          case round =>
            clear ho he
            obtain ⟨j, hj, rfl, ho, he⟩ := hrel
            by_cases hjn : j < l[a].toNat - 128
            · have HR : Hid (out ++ List.replicate j l[a+1] ++ [l[a+1]] = out ++ List.replicate (j+1) l[a+1]) := by rw [List.append_assoc, ← List.replicate_succ']; rfl
              have HB : ((out ++ List.replicate j l[a+1]).length + [l[a+1]].length) * 1 ≤ 140737488355328 := by simp; omega
              have HB := Lib.hid HB
              go_wp2_with (first
                | (at_builtin; go_must (refine wpList_appN rfl (.tmp 23) (.tmp 28) _ rfl E_u8 (by omega) w _ vu8 (fun _ => rfl) _ rfl _ _ rfl (out ++ List.replicate j l[a+1]) [l[a+1]] _ rfl ho he rfl HB.out ?_); intro v1 w1 ho1 he1; rw [HR.out] at ho1))
              go_roundw
              case rel => exact ⟨j+1, by omega, by go_num, ho1, he1⟩
              case measure => simp [intOf]; omega
            · obtain rfl : j = l[a].toNat - 128 := by omega
              obtain ⟨A1, c1, rfl, _⟩ := ho.rd (by simp; omega)
              go_wp2
              · have hbig : ((1000 : Int) < (out.length : Int) + ((l[a].toNat - 128 : Nat) : Int)) := by assumption
                have HN2 : Hid (unpack l = none) := hs.out.trans (if_pos (by omega))
                go_ret2; rw [HN2.out]; exact ⟨_, rfl, OwnL.empty he, Ext_alloc _ he⟩
              · have hsm : (out.length : Int) + ((l[a].toNat - 128 : Nat) : Int) ≤ 1000 := by assumption
                have hs2 := hs.out.trans (if_neg (by omega))
                rw [HD.out] at hs2
                go_roundw
                case rel => exact ⟨a + 2, out ++ List.replicate (l[a].toNat - 128) l[a+1], by omega, by go_num, by simpa using ho, by simp; omega, hs2.symm, he⟩
                case measure => simp [intOf]; omega
    · go_wp2
      go_ret2
      have hn := hs.out.symm.trans (unpackAt_end l a out (by omega))
      rw [hn]
      exact ⟨_, rfl, ho, he⟩

set_option maxRecDepth 100000 in
set_option maxHeartbeats 1000000 in
theorem sUnpackBytes_c (A : Option Addr) (l : List UInt8) (c : Nat) (w : World) (h : Bs w A l c) :
    Calls Tryd.prog 92 #[.slice A l.length c] w fun e w' => ∃ v, e = .returned (.tuple #[v, .bool (unpack l).isSome]) ∧ OwnL vu8 5 w w' v ((unpack l).getD []) ∧ Ext w w' := by
  have hl := h.len
  go_enter Tryd.func92, Tryd.ntmps92
  go_wp2
  go_loopw [4, 5] (fun t i wr => ∃ (a : Nat) (out : List UInt8), a ≤ l.length ∧ i = .int .i64 a ∧ OwnL vu8 5 w wr t out ∧ out.length ≤ 1000 ∧ Hid (unpackAt l a out = unpack l) ∧ Ext w wr) (fun _ i _ => l.length - (intOf i).toNat)
  case atStart => exact ⟨0, [], by omega, rfl, OwnL.empty (Ext.refl _), by simp, by simp [Hid, unpackAt, unpack], Ext_alloc _ (Ext.refl _)⟩
  case round =>
    obtain ⟨a, out, ha, rfl, ho, hout, hs, he⟩ := hrel
    by_cases hlt : a < l.length
    · obtain ⟨b, off, rfl, hb, hcs⟩ := h.base (by omega)
      have hc := fun w' e => hcs w' e a hlt
      have hstep := Lib.hid (unpackAt_step l a out hlt)
      have hx : (l[a].toNat : Int) ≤ 255 := by have := l[a].toNat_lt; omega
      have e0 : (l[a] = 0) ↔ l[a].toNat = 0 := by rw [← UInt8.toNat_inj]; simp
      have e128 : (l[a] = 128) ↔ l[a].toNat = 128 := by rw [← UInt8.toNat_inj]; simp
      have elt : (l[a] < 128) ↔ l[a].toNat < 128 := by rw [UInt8.lt_iff_toNat_lt]; simp
      by_cases c1 : l[a] = 0 ∨ l[a] = 128 ∨ l.length = a + 1
      · have HN : Hid (unpack l = none) := by have := hs.out; rw [hstep.out, if_pos c1] at this; exact this.symm
        rw [e0, e128] at c1
        clear hs hstep e0 e128 elt ho
        cases d1 : ((l[a].toNat : Int) == 0) <;> cases d2 : ((l[a].toNat : Int) == 128) <;> cases d3 : (decide ((l.length:Int) ≤ (a:Int) + 1))
        all_goals first
          | (exfalso; simp at d1 d2 d3; omega)
          | (clear c1; go_wp2; go_ret2; rw [HN.out]; exact ⟨_, rfl, OwnL.empty he, Ext_alloc _ he⟩)
      · have c1' : ¬ (l[a].toNat = 0 ∨ l[a].toNat = 128 ∨ l.length = a + 1) := by rw [← e0, ← e128]; exact c1
        have d1 : ((l[a].toNat : Int) == 0) = false := beq_eq_false_iff_ne.2 (by omega)
        have d2 : ((l[a].toNat : Int) == 128) = false := beq_eq_false_iff_ne.2 (by omega)
        have d3 : (decide ((l.length:Int) ≤ (a:Int) + 1)) = false := decide_eq_false (by omega)
        have hs := Lib.hid (hs.out.symm.trans (hstep.out.trans (if_neg c1)))
        by_cases c2 : l[a] < 128
        · have hs := Lib.hid (hs.out.trans (if_pos c2))
          rw [elt] at c2
          clear hstep e0 e128 elt c1
          by_cases c3 : l.length < a + 1 + l[a].toNat
          · have HN : Hid (unpack l = none) := hs.out.trans (if_pos c3)
            clear hs ho
            go_wp2
            go_ret2; rw [HN.out]; exact ⟨_, rfl, OwnL.empty he, Ext_alloc _ he⟩
          · have hs := Lib.hid (hs.out.trans (if_neg c3))
            have hcap := h.cap
            have hcells := part_cells (hcs wr he) (a + 1) l[a].toNat
            have hln : a + 1 + l[a].toNat - (a + 1) = ((l.drop (a+1)).take l[a].toNat).length := by simp; omega
            have hlen : ((l.drop (a+1)).take l[a].toNat).length = l[a].toNat := by simp; omega
            have HC := Lib.hid hcells; have HL := Lib.hid hln; have HN := Lib.hid hlen
            have HB : (out.length + ((l.drop (a+1)).take l[a].toNat).length) * 1 ≤ 140737488355328 := by omega
            have HB := Lib.hid HB; clear hcells hln hlen hcs
            go_wp2_with (first
              | (at_builtin; go_must (refine wpList_appL rfl (.tmp 26) (.tmp 34) _ rfl E_u8 (by omega) w wr vu8 (fun _ => rfl) u4 rfl _ _ _ rfl out ((l.drop (a+1)).take l[a].toNat) ho he HL.out (fun _ => ⟨_, rfl, HC.out⟩) HB.out ?_); intro v1 w1 ho1 he1 _ _; obtain ⟨A1, c1, hv1, _⟩ := ho1.rd (by rw [List.length_append, HN.out]; omega); subst hv1))
            · have hbig : ((1000 : Int) < (out.length : Int) + (min l[a].toNat (l.length - (a + 1)) : Nat)) := by assumption
              have HN2 : Hid (unpack l = none) := hs.out.trans (if_pos (by omega))
              go_ret2; rw [HN2.out]; exact ⟨_, rfl, OwnL.empty he1, Ext_alloc _ he1⟩
            · have hsm : (out.length : Int) + (min l[a].toNat (l.length - (a + 1)) : Nat) ≤ 1000 := by assumption
              have hs2 := hs.out.trans (if_neg (by omega))
              go_roundw
              case rel => exact ⟨a + 1 + l[a].toNat, out ++ (l.drop (a+1)).take l[a].toNat, by omega, by go_num, by simpa using ho1, by simp; omega, hs2.symm, he1⟩
              case measure => simp [intOf]; omega
        · have hs := Lib.hid (hs.out.trans (if_neg c2))
          rw [elt] at c2
          clear hstep e0 e128 elt c1
          have ha1 : a + 1 < l.length := by omega
          have hhd : (l.drop (a+1)).headD 0 = l[a+1] := by rw [List.drop_eq_getElem_cons ha1]; rfl
          have HD := Lib.hid hhd; clear hhd
          have hc' := fun w' e => hcs w' e (a+1) ha1
          have d5 : decide ((128 : Int) < (l[a].toNat : Int)) = true := by simp; omega
          go_wp2
          go_loopw [4, 7] (fun t i wq => ∃ j : Nat, j ≤ l[a].toNat - 128 ∧ i = .int .i64 j ∧ OwnL vu8 5 w wq t (out ++ List.replicate j l[a+1]) ∧ Ext w wq) (fun _ i _ => l[a].toNat - 128 - (intOf i).toNat)
          case atStart => exact ⟨0, by omega, rfl, by simpa using ho, he⟩
          case round =>
            clear ho he
            obtain ⟨j, hj, rfl, ho, he⟩ := hrel
            by_cases hjn : j < l[a].toNat - 128
            · have HR : Hid (out ++ List.replicate j l[a+1] ++ [l[a+1]] = out ++ List.replicate (j+1) l[a+1]) := by rw [List.append_assoc, ← List.replicate_succ']; rfl
              have HB : ((out ++ List.replicate j l[a+1]).length + [l[a+1]].length) * 1 ≤ 140737488355328 := by simp; omega
              have HB := Lib.hid HB
              go_wp2_with (first
                | (at_builtin; go_must (refine wpList_appN rfl (.tmp 64) (.tmp 70) _ rfl E_u8 (by omega) w _ vu8 (fun _ => rfl) _ rfl _ _ rfl (out ++ List.replicate j l[a+1]) [l[a+1]] _ rfl ho he rfl HB.out ?_); intro v1 w1 ho1 he1; rw [HR.out] at ho1))
              go_roundw
              case rel => exact ⟨j+1, by omega, by go_num, ho1, he1⟩
              case measure => simp [intOf]; omega
            · obtain rfl : j = l[a].toNat - 128 := by omega
              obtain ⟨A1, c1, rfl, _⟩ := ho.rd (by simp; omega)
              go_wp2
              · have hbig : ((1000 : Int) < (out.length : Int) + ((l[a].toNat - 128 : Nat) : Int)) := by assumption
                have HN2 : Hid (unpack l = none) := hs.out.trans (if_pos (by omega))
                go_ret2; rw [HN2.out]; exact ⟨_, rfl, OwnL.empty he, Ext_alloc _ he⟩
              · have hsm : (out.length : Int) + ((l[a].toNat - 128 : Nat) : Int) ≤ 1000 := by assumption
                have hs2 := hs.out.trans (if_neg (by omega))
                rw [HD.out] at hs2
                go_roundw
                case rel => exact ⟨a + 2, out ++ List.replicate (l[a].toNat - 128) l[a+1], by omega, by go_num, by simpa using ho, by simp; omega, hs2.symm, he⟩
                case measure => simp [intOf]; omega
    · go_wp2
      go_ret2
      have hn := hs.out.symm.trans (unpackAt_end l a out (by omega))
      rw [hn]
      exact ⟨_, rfl, ho, he⟩


end Go.Proofs.YtdbbdoldndnbhaaDoor

/- The walk of the law on UnpackBytes. -/
namespace Go.Proofs.YtdbbdoldndnbhaaDoor
open Go.RowKit Go.Sort

theorem unpackF_le : ∀ f b out o, unpackF f b out = some o → out.length ≤ 1000 → o.length ≤ 1000 := by
  intro f
  induction f with
  | zero => intro b out o h hl; cases b with
    | nil => simp only [unpackF, Option.some.injEq] at h; subst h; exact hl
    | cons => simp [unpackF] at h
  | succ f ih =>
    intro b out o h hl
    cases b with
    | nil => simp only [unpackF, Option.some.injEq] at h; subst h; exact hl
    | cons x t =>
      simp only [unpackF] at h
      split at h
      · cases h
      · split at h
        · split at h
          · cases h
          · split at h
            · cases h
            · exact ih _ _ _ h (by omega)
        · split at h
          · cases h
          · exact ih _ _ _ h (by omega)
theorem unpack_le (l : List UInt8) : ((unpack l).getD []).length ≤ 1000 := by
  cases h : unpack l with
  | none => simp
  | some o => exact unpackF_le _ _ _ _ h (by simp)

end Go.Proofs.YtdbbdoldndnbhaaDoor

/- DecodeRecord of the program and of the reference. -/
namespace Go.Proofs.YtdbbdoldndnbhaaDoor
open Go.RowKit Go.Sort

/-- what a call of DecodeRecord hands back -/
def DecOut (r : Option DRec) (j : Int) (w : World) (e : Ending) (w' : World) : Prop :=
  ∃ v, e = .returned (.tuple #[vrec (r.getD .zero).k (r.getD .zero).nm (r.getD .zero).ver v, .int .i64 j, .bool r.isSome]) ∧ OwnL vu8 5 w w' v (r.getD .zero).l ∧ Ext w w'
theorem DecOut.no {j : Int} {w w' : World} (he : Ext w w') : DecOut none j w (.returned (.tuple #[.agg #[.int .i64 0, .string ⟨#[]⟩, .int .i64 0, .slice none 0 0], .int .i64 j, .bool false])) w' := ⟨_, rfl, OwnL.nil _ _, he⟩

theorem dec_neg {b : List UInt8} {a : Int} (h : a < 0) : dec b a = none ∧ decEnd b a = a := by
  have h1 : dec b a = none := by unfold dec; rw [if_pos h]
  exact ⟨h1, by unfold decEnd; rw [h1]; rfl⟩
theorem dec_nat (b : List UInt8) (n : Nat) : dec b (n : Int) = decN b n := by
  unfold dec; rw [if_neg (by omega)]; rfl
theorem dec_no {b : List UInt8} {n : Nat} (h : decN b n = none) : dec b (n : Int) = none ∧ decEnd b (n : Int) = n := by
  have h1 : dec b (n : Int) = none := by rw [dec_nat]; exact h
  exact ⟨h1, by unfold decEnd; rw [h1]; rfl⟩
theorem dec_yes {b : List UInt8} {n : Nat} {r : DRec} (h : decN b n = some r) : dec b (n : Int) = some r ∧ decEnd b (n : Int) = ((n + nmAt b n + 6 + szAt b n : Nat) : Int) := by
  have h1 : dec b (n : Int) = some r := by rw [dec_nat]; exact h
  refine ⟨h1, ?_⟩
  unfold decEnd
  rw [h1, Int.toNat_natCast]
  simp
theorem getD_of_lt {l : List UInt8} {i : Nat} (h : i < l.length) : l.getD i 0 = l[i] := by simp [h]

section
variable {P : Program} {ops : Array Oper} {rest : List Oper} {o : Oper} {a : Act} {Q : Exit → Act → World → Prop}
/-- copy onto the whole of a row of the call's own -/
theorem wpList_copyL (hgd : o.guard = none) (d s : Operand) (dT sT : TypeId) (ho : o.op = .call { callee := .builtin .copy, args := #[d, s], argTypes := #[dT, sT] })
    {e : TypeId} {bytes : Nat} {z : Value} (hE : Elem P dT e 1 bytes z) {α : Type} (f : α → Value) (hf : ∀ x, (f x).oneCell' = true) (w0 w : World) (A : Option Addr) (n c : Nat) (hd : a.eval d = .slice A n c)
    (xs : List Value) (hown : Own e 1 w0 w (.slice A n c) n xs) (he : Ext w0 w) (sp : Option Addr) (sLen sCap : Nat) (hs : a.eval s = .slice sp sLen sCap)
    (ys : List α) (hy : ys.length = n) (hn : n ≤ sLen) (hA : 0 < ys.length → ∃ ad, sp = some ad ∧ ∀ j u, (ys.map f)[j]? = some u → w.cell? (ad.add j) = some u)
    (h : ∀ w', OwnL f e w0 w' (.slice A n c) ys → Ext w0 w' → wpList P ops Q rest (a.put o.dst (goInt n)) w') :
    wpList P ops Q (o :: rest) a w := by
  obtain ⟨i0, hi0, hz0, hz1, hz2⟩ := info_parts hE.hi
  have hsz : (P.info? e).map (·.size) = some 1 := by rw [hi0]; simp [hz1]
  rcases hown.2 with ⟨hv, rfl⟩ | ⟨g, cap, cur, hv, hb, hg, hnc, hcm, hcs, htake⟩
  · obtain rfl : ys = [] := List.eq_nil_of_length_eq_zero hy
    refine wpList_copy_nothing hgd d s dT sT ho e hE.ht hsz A sp 0 c sLen sCap hd hs (by simp) ?_
    exact h w (by rw [hv]; exact OwnL.nil _ _) he
  · injection hv with h1 _ h3
    subst h1; subst h3
    have hlen : (ys.map f).length = n := by simpa using hy
    refine wpList_copy_splice hgd d s dT sT ho e hE.ht hsz (some ⟨g, 0, none⟩) sp n c sLen sCap hd hs g 0 cur.toList e hg (ys.map f) (by rw [hlen]; exact (Nat.min_eq_right hn).symm)
      (fun hp => ⟨rfl, hA (by simpa using hp)⟩) (by simp; omega) (fun u hu => by obtain ⟨x, _, rfl⟩ := List.mem_map.1 hu; exact hf x) w0.heap.size w0 he hb ?_
    intro w' hg' hb'
    have hl' : (ys.map f).length = n * 1 := by rw [hlen]; omega
    have hnn : (goInt (ys.map f).length) = goInt n := by rw [hlen]
    rw [hnn]
    refine h w' ?_ hb'
    have hg'' := hg'.out
    unfold OwnL
    rw [hy]
    refine ⟨hl', .inr ⟨g, c, _, rfl, hb, hg'', hnc, hcm, ?_, ?_⟩⟩
    · rw [← hcs]
      have := length_splice cur.toList 0 (ys.map f) (by rw [hlen]; simp; omega)
      simpa using this
    · unfold splice
      rw [List.take_zero, List.nil_append, List.take_append_of_le_length (by omega), List.take_of_length_le (by omega)]
end
/-- a block of four cells, written one by one -/
theorem stored4 {w1 : World} {g : Nat} {x0 x1 x2 x3 : Value} (h : ∀ i, w1.cell? ⟨g, i, none⟩ = #[x0, x1, x2, x3][i]?) :
    (∀ y0, (w1.setCell ⟨g, 0, none⟩ y0).cell? ⟨g, 0, none⟩ = some y0) ∧ (∀ y0 y1, ((w1.setCell ⟨g, 0, none⟩ y0).setCell ⟨g, 1, none⟩ y1).cell? ⟨g, 1, none⟩ = some y1) ∧
    (∀ y0 y1 y2, (((w1.setCell ⟨g, 0, none⟩ y0).setCell ⟨g, 1, none⟩ y1).setCell ⟨g, 2, none⟩ y2).cell? ⟨g, 2, none⟩ = some y2) ∧
    (∀ y0 y1 y2 y3, ((((w1.setCell ⟨g, 0, none⟩ y0).setCell ⟨g, 1, none⟩ y1).setCell ⟨g, 2, none⟩ y2).setCell ⟨g, 3, none⟩ y3).cell? ⟨g, 3, none⟩ = some y3) := by
  have h0 := h 0; have h1 := h 1; have h2 := h 2; have h3 := h 3
  simp at h0 h1 h2 h3
  refine ⟨fun y0 => ?_, fun y0 y1 => ?_, fun y0 y1 y2 => ?_, fun y0 y1 y2 y3 => ?_⟩
  · apply World.cell?_setCell_same; exact h0
  · apply World.cell?_setCell_same (u := x1); simp [World.cell?_setCell_other, h1]
  · apply World.cell?_setCell_same (u := x2); simp [World.cell?_setCell_other, h2]
  · apply World.cell?_setCell_same (u := x3); simp [World.cell?_setCell_other, h3]
theorem strOfNums_bytes (p : List UInt8) : strOfNums (p.map fun x => (x.toNat : Int)) = ⟨p.toArray⟩ := by
  unfold strOfNums
  have : (p.map fun x => (x.toNat : Int)).map (fun n => UInt8.ofNat n.toNat) = p := by
    rw [List.map_map]
    conv => rhs; rw [← List.map_id p]
    apply List.map_congr_left
    intro x _
    simp
  rw [this]
/-- two bytes joined -/
theorem or_join {x y : Nat} (hx : x < 256) (hy : y < 256) : bits .or .i64 ((x : Int) * 256) (y : Int) = ((256 * x + y : Nat) : Int) := by
  rw [show (x : Int) * 256 = ((x * 256 : Nat) : Int) by omega]
  show IntKind.i64.wrap ((BitVec.ofInt 64 ((x * 256 : Nat) : Int) ||| BitVec.ofInt 64 (y : Int)).toNat : Int) = _
  rw [BitVec.toNat_or, ofInt_u64 _ (by omega), ofInt_u64 _ (by omega), nat_join8 _ _ (by omega) hy, IntKind.wrap_i64]
  omega
/-- string(b[i:i+n]) of a row that reads as l -/
theorem run_str {w : World} {b off : Nat} {l : List UInt8} (h : ∀ i (h : i < l.length), w.cell? ⟨b, off + i, none⟩ = some (vu8 l[i])) (lo n cap : Nat) (hn : lo + n ≤ l.length) :
    (convert 44 9 (.slice (some ⟨b, off + lo, none⟩) n cap)).run Tryd.prog w = .ok (.string ⟨((l.drop lo).take n).toArray⟩) w := by
  have hw : ((l.drop lo).take n).length = n := by simp; omega
  have h1 := run_convert_bytes_arg (P := Tryd.prog) w 44 5 Tryd.underlying44 Tryd.underlying5 b (off + lo) n cap (((l.drop lo).take n).map fun x => (x.toNat : Int)) (by rw [List.length_map]; exact hw) (fun i hi => by
    rw [Nat.add_assoc, h (lo + i) (by omega)]
    have e1 : ((l.drop lo).take n)[i]? = some l[lo + i] := by
      rw [List.getElem?_take_of_lt hi, List.getElem?_drop, List.getElem?_eq_getElem (by omega)]
    simp only [List.getD, List.getElem?_map, e1, Option.map_some, Option.getD_some, vu8]) 9 Tryd.underlying9
  rw [h1, strOfNums_bytes]

set_option maxRecDepth 100000 in
set_option maxHeartbeats 4000000 in
theorem iDecodeRecord_c (A : Option Addr) (l : List UInt8) (c : Nat) (a : Int) (w : World) (h : Bs w A l c) (ha : (Lit.int .i64 a).wf = true) :
    Calls Tryd.prog 37 #[.slice A l.length c, .int .i64 a] w (DecOut (dec l a) (decEnd l a) w) := by
  have hl := h.len
  have hcap := h.cap
  have ez := Ext_alloc (.cells #[.int .i64 0, .string ⟨#[]⟩, .int .i64 0, .slice none 0 0] 49) (Ext.refl w)
  by_cases h0 : a < 0
  · obtain ⟨q1, q2⟩ := dec_neg (b := l) h0
    rw [q1, q2]; clear q1 q2
    go_enter Tryd.func37, Tryd.ntmps37
    go_wp2
    refine bodyPost_ret (v := .tuple #[.agg #[.int .i64 0, .string ⟨#[]⟩, .int .i64 0, .slice none 0 0], .int .i64 a, .bool false]) (by simp [results, Tryd.results37, go_sem]) rfl (DecOut.no ez)
  · obtain ⟨n, rfl⟩ := Int.eq_ofNat_of_zero_le (show 0 ≤ a by omega)
    clear h0 ha
    by_cases h1 : l.length < n + 2
    · have hd : decN l n = none := by unfold decN; rw [if_pos (by omega)]
      obtain ⟨q1, q2⟩ := dec_no hd
      rw [q1, q2]; clear q1 q2 hd
      by_cases h2 : l.length < n
      all_goals
        go_enter Tryd.func37, Tryd.ntmps37
        go_wp2
        refine bodyPost_ret (v := .tuple #[.agg #[.int .i64 0, .string ⟨#[]⟩, .int .i64 0, .slice none 0 0], .int .i64 n, .bool false]) (by simp [results, Tryd.results37, go_sem]) rfl (DecOut.no ez)
    · obtain ⟨b, off, rfl, hb, hcs⟩ := h.base (by omega)
      obtain ⟨nm, hnm⟩ : ∃ nm, l[n+1].toNat = nm := ⟨_, rfl⟩
      have hnm8 : nm < 256 := by rw [← hnm]; exact UInt8.toNat_lt _
      have HNM : Hid (nmAt l n = nm) := by show _ = _; unfold nmAt; rw [getD_of_lt (by omega)]; exact hnm
      have hc1 : ∀ w', Ext w w' → w'.cell? ⟨b, off + n + 1, none⟩ = some (.int .u8 (nm : Int)) := by
        intro w' e; have := hcs w' e (n+1) (by omega); rw [← Nat.add_assoc] at this; rw [this, vu8, hnm]
      clear hnm
      by_cases h2 : l.length < n + nm + 6
      · have hd : decN l n = none := by unfold decN; rw [HNM.out, if_pos (by omega)]
        obtain ⟨q1, q2⟩ := dec_no hd
        rw [q1, q2]; clear q1 q2 hd hcs h
        go_enter Tryd.func37, Tryd.ntmps37
        go_wp2
        refine bodyPost_ret (v := .tuple #[.agg #[.int .i64 0, .string ⟨#[]⟩, .int .i64 0, .slice none 0 0], .int .i64 n, .bool false]) (by simp [results, Tryd.results37, go_sem]) rfl (DecOut.no ez)
      · obtain ⟨x3, hx3⟩ : ∃ x, l[n + nm + 3].toNat = x := ⟨_, rfl⟩
        obtain ⟨x4, hx4⟩ : ∃ x, l[n + nm + 4].toNat = x := ⟨_, rfl⟩
        have hx38 : x3 < 256 := by rw [← hx3]; exact UInt8.toNat_lt _
        have hx48 : x4 < 256 := by rw [← hx4]; exact UInt8.toNat_lt _
        have HSZ : Hid (szAt l n = 256 * x3 + x4) := by show _ = _; unfold szAt; rw [HNM.out, getD_of_lt (by omega), getD_of_lt (by omega), hx3, hx4]
        have hc3 : ∀ w', Ext w w' → w'.cell? ⟨b, off + n + (nm + 3), none⟩ = some (.int .u8 (x3 : Int)) := by
          intro w' e; have := hcs w' e (n+nm+3) (by omega); rw [show off + (n + nm + 3) = off + n + (nm + 3) by omega] at this; rw [this, vu8, hx3]
        have hc4 : ∀ w', Ext w w' → w'.cell? ⟨b, off + n + (nm + 4), none⟩ = some (.int .u8 (x4 : Int)) := by
          intro w' e; have := hcs w' e (n+nm+4) (by omega); rw [show off + (n + nm + 4) = off + n + (nm + 4) by omega] at this; rw [this, vu8, hx4]
        clear hx3 hx4
        have hor := or_join hx38 hx48
        obtain ⟨sz, hsz⟩ : ∃ sz, 256 * x3 + x4 = sz := ⟨_, rfl⟩
        have hsz8 : sz < 65536 := by omega
        rw [hsz] at hor HSZ
        clear hsz
        have B := fun w' (e : Ext (w.alloc (.cells #[.int .i64 0, .string ⟨#[]⟩, .int .i64 0, .slice none 0 0] 49)) w') => boxed e
        have F := fun w' (e : Ext (w.alloc (.cells #[.int .i64 0, .string ⟨#[]⟩, .int .i64 0, .slice none 0 0] 49)) w') => boxed_free e
        by_cases h3 : l.length < n + nm + 6 + sz
        · have hd : decN l n = none := by unfold decN; rw [HNM.out, HSZ.out, if_pos (by omega)]
          obtain ⟨q1, q2⟩ := dec_no hd
          rw [q1, q2]; clear q1 q2 hd hcs h
          go_enter Tryd.func37, Tryd.ntmps37
          go_wp2
          refine wp_region_quiet_below (by kernel_rfl) (by kernel_rfl) ?_
          repeat (go_big_quiet_step (fail))
          refine wpQuiet_nil ?_
          rintro w1 ⟨⟨nq, osq⟩, hq⟩
          have ew1 := ext_of_q hq
          clear hq nq osq
          go_wp2
          obtain ⟨s0, s1, s2, s3⟩ := stored4 (B _ ew1)
          refine bodyPost_ret (v := .tuple #[.agg #[.int .i64 0, .string ⟨#[]⟩, .int .i64 0, .slice none 0 0], .int .i64 n, .bool false]) (by simp [results, Tryd.results37, go_sem, s0, s1, s2, s3]) rfl (DecOut.no ?_)
          exact ((((ez.trans ew1).setCell (Nat.le_refl _) _).setCell (Nat.le_refl _) _).setCell (Nat.le_refl _) _).setCell (Nat.le_refl _) _
        · obtain ⟨p, hp⟩ : ∃ p, (l.drop (n + nm + 5)).take sz = p := ⟨_, rfl⟩
          have hpl : p.length = sz := by rw [← hp]; simp; omega
          subst hpl
          have HP := Lib.hid hp; clear hp
          have HPC : Hid (∀ w', Ext w w' → ∀ j u, (p.map vu8)[j]? = some u → w'.cell? ((⟨b, off + n + (nm + 5), none⟩ : Addr).add j) = some u) := by
            intro w' e j u hu
            rw [← HP.out] at hu
            have := part_cells (hcs w' e) (n + nm + 5) p.length j u hu
            rwa [show off + (n + nm + 5) = off + n + (nm + 5) by omega] at this
          have HPL : Hid (p.length ≤ 140737488351232) := by show _ ≤ _; omega
          have H := Lib.hid h; have HCS := Lib.hid hcs; clear h hcs
          obtain ⟨d, hdd⟩ : ∃ d, (unpack p).getD [] = d := ⟨_, rfl⟩
          obtain ⟨ok, hok⟩ : ∃ ok, (unpack p).isSome = ok := ⟨_, rfl⟩
          have hd1 : d.length ≤ 1000 := by have := unpack_le p; rw [hdd] at this; exact this
          have HDL : Hid (d.length ≤ 140737488351232) := by show _ ≤ _; omega
          obtain ⟨x0, hx0⟩ : ∃ x, l[n].toNat = x := ⟨_, rfl⟩
          obtain ⟨x2, hx2⟩ : ∃ x, l[n + nm + 2].toNat = x := ⟨_, rfl⟩
          have hx08 : x0 < 256 := by rw [← hx0]; exact UInt8.toNat_lt _
          have hx28 : x2 < 256 := by rw [← hx2]; exact UInt8.toNat_lt _
          have hc0 : ∀ w', Ext w w' → w'.cell? ⟨b, off + n, none⟩ = some (.int .u8 (x0 : Int)) := by
            intro w' e; have := HCS.out w' e n (by omega); rw [this, vu8, hx0]
          have hc2 : ∀ w', Ext w w' → w'.cell? ⟨b, off + n + (nm + 2), none⟩ = some (.int .u8 (x2 : Int)) := by
            intro w' e; have := HCS.out w' e (n+nm+2) (by omega); rw [show off + (n + nm + 2) = off + n + (nm + 2) by omega] at this; rw [this, vu8, hx2]
          obtain ⟨NM, hNM⟩ : ∃ NM : ByteArray, ⟨((l.drop (n + 2)).take nm).toArray⟩ = NM := ⟨_, rfl⟩
          have hcv : ∀ w' cap, Ext w w' → (convert 44 9 (.slice (some ⟨b, off + n + 2, none⟩) nm cap)).run Tryd.prog w' = .ok (.string NM) w' := by
            intro w' cap e
            have := run_str (HCS.out w' e) (n + 2) nm cap (by omega)
            rwa [← Nat.add_assoc, hNM] at this
          have HREC : Hid (recAt l n d = ⟨x0, NM, x2, d⟩) := by
            show _ = _; unfold recAt; rw [HNM.out, getD_of_lt (by omega), getD_of_lt (by omega), hx0, hx2, hNM]
          have hNMs : NM.size ≤ 9223372036854775807 := by
            have : NM.size = nm := by rw [← hNM]; show ((l.drop (n+2)).take nm).toArray.size = _; simp; omega
            omega
          clear hx0 hx2 hNM
          have CU := Lib.hid (fun A c w h => iUnpackBytes_c A p c w h)
          rw [hdd, hok] at CU
          have HDEC0 : ok = false → decN l n = none := by
            intro hf
            have : unpack p = none := by
              cases hu : unpack p with
              | none => rfl
              | some x => rw [hu] at hok; rw [hf] at hok; cases hok
            unfold decN
            rw [HNM.out, HSZ.out, if_neg (by omega), HP.out, this]
          have HDEC1 : ok = true → decN l n = if validRec x0 NM x2 d.length && (encRec x0 NM x2 d == (l.drop n).take (nm + 6 + p.length)) then some ⟨x0, NM, x2, d⟩ else none := by
            intro ht
            have : unpack p = some d := by
              cases hu : unpack p with
              | none => rw [hu] at hok; rw [ht] at hok; cases hok
              | some x => rw [hu] at hdd; rw [← hdd]; rfl
            unfold decN
            rw [HNM.out, HSZ.out, if_neg (by omega), HP.out, this]
            simp only [HREC.out, DRec.ok, DRec.enc]
          have HDEC0 := Lib.hid HDEC0; have HDEC1 := Lib.hid HDEC1
          clear hok hdd
          go_enter Tryd.func37, Tryd.ntmps37
          go_wp2
          refine wp_region_quiet_below (by kernel_rfl) (by kernel_rfl) ?_
          repeat (go_big_quiet_step (fail))
          refine wpQuiet_nil ?_
          rintro w1 ⟨⟨nq, osq⟩, hq⟩
          have ew1 := ext_of_q hq
          clear hq nq osq
          have e1 := ew1
          have e1' := ez.trans e1
          go_wp2_with (first
            | (at_make; refine wpList_mk rfl _ _ _ rfl E_u8 _ _ e1 p.length rfl rfl (by omega) (by simp [maxLen]; omega) ?_; intro w2 ho2 he2 _; have he2' := ez.trans he2)
            | (refine wpList_copyL rfl (.tmp 70) (.tmp 74) _ _ rfl E_u8 vu8 (fun _ => rfl) _ _ _ p.length _ rfl _ ho2 he2 _ _ _ rfl p rfl (by omega) (fun _ => ⟨_, rfl, HPC.out _ he2'⟩) ?_; intro w3 ho3 he3; have he3' := ez.trans he3; obtain ⟨A3, c3, hv3, hr3⟩ := ho3.rd HPL.out; injection hv3 with q1 _ q2; subst q1; subst q2)
            | (go_at_call 71; refine (CU.out _ _ _ hr3).mono ?_; rintro _ w4 ⟨v4, rfl, ho4, he4⟩; have he34 := he3.trans he4; have he34' := ez.trans he34; obtain ⟨A4, c4, hv4, hr4⟩ := OwnL.rd ho4 HDL.out; subst hv4))
          have hcv' := fun w' cap (e : Ext w4 w') => hcv w' cap (he34'.trans e)
          have hc0' := fun w' (e : Ext w4 w') => hc0 w' (he34'.trans e)
          have hc2' := fun w' (e : Ext w4 w') => hc2 w' (he34'.trans e)
          clear hcv hc0 hc2 hc1 hc3 hc4
          have g1 : (0 : Int) < ((l.length - n : Nat) : Int) := by omega
          have g1' : 0 < l.length - n := by omega
          have g2 : IntKind.i64.wrap (2 + (nm : Int)) = 2 + (nm : Int) := IntWalk.i64_in _ (by omega)
          have g3 : (0 : Int) ≤ 2 + (nm : Int) := by omega
          have g4 : (2 + (nm : Int)).toNat = 2 + nm := by omega
          have g5 : (2 : Int) ≤ 2 + (nm : Int) := by omega
          have g6 : 2 + (nm : Int) ≤ ((c - n : Nat) : Int) := by omega
          have g6' : 2 + nm ≤ c - n := by omega
          have g6'' : ¬ c - n = 2 := by omega
          have g7 : IntKind.i64.wrap ((nm : Int) + 2) = (nm : Int) + 2 := IntWalk.i64_in _ (by omega)
          have g8 : (nm : Int) + 2 < ((l.length - n : Nat) : Int) := by omega
          have g8' : nm + 2 < l.length - n := by omega
          have g9 : ((nm : Int) + 2).toNat = nm + 2 := by omega
          have g9' : (0 : Int) ≤ (nm : Int) + 2 := by omega
          have g10 : IntKind.i64.wrap (x0 : Int) = (x0 : Int) := IntWalk.i64_in _ (by omega)
          have g11 : IntKind.i64.wrap (x2 : Int) = (x2 : Int) := IntWalk.i64_in _ (by omega)
          go_region_held3 (fun w' => Ext w4 w') (first | assumption | exact Ext_drew (Ext.refl _) | exact Ext_drew (Ext_alloc _ (Ext.refl _)) | exact Ext_alloc _ (Ext_drew (Ext.refl _)) | exact Ext.trans (by assumption) (by assumption)) (first | fail)
          have ebx := Ext_alloc (.cells #[.int .i64 x0, .string NM, .int .i64 x2, .slice A4 d.length c4] 49) (Ext.refl w4)
          generalize hw5 : (w4.alloc (.cells #[.int .i64 x0, .string NM, .int .i64 x2, .slice A4 d.length c4] 49)).drew = w5
          have e5 : Ext (w4.alloc (.cells #[.int .i64 x0, .string NM, .int .i64 x2, .slice A4 d.length c4] 49)) w5 := by rw [← hw5]; exact Ext_drew (Ext.refl _)
          clear hw5
          have D := fun w' (e : Ext w5 w') => boxed (e5.trans e)
          have e45 := ebx.trans e5
          have r5 := hr4.ext e45
          have o5 := OwnL.ext ho4 e45
          have z5 := he34.trans e45
          have hs3 : w.heap.size < w3.heap.size := by have := he3.size; simp at this; omega
          have HEE : Hid (Ext w w3) := he3'
          have B5 := fun w' (e : Ext w5 w') => B w' (z5.trans e)
          have F5 := fun w' (e : Ext w5 w') => F w' (z5.trans e)
          clear hcv' hc0' hc2' ho3 hr3 he2 he2' ho2 e1 e1' ew1 he3 ho4 hr4 B F
          have keyno : ∀ w6, Ext w5 w6 → decN l n = none → DecOut (dec l (n : Int)) (decEnd l (n : Int)) w (.returned (.tuple #[.agg #[.int .i64 0, .string ⟨#[]⟩, .int .i64 0, .slice none 0 0], .int .i64 n, .bool false]))
              ((((w6.setCell ⟨w.heap.size, 0, none⟩ (.int .i64 0)).setCell ⟨w.heap.size, 1, none⟩ (.string ⟨#[]⟩)).setCell ⟨w.heap.size, 2, none⟩ (.int .i64 0)).setCell ⟨w.heap.size, 3, none⟩ (.slice none 0 0)) := by
            intro w6 e6 hd
            obtain ⟨q1, q2⟩ := dec_no hd
            rw [q1, q2]
            exact DecOut.no (((((ez.trans (z5.trans e6)).setCell (Nat.le_refl _) _).setCell (Nat.le_refl _) _).setCell (Nat.le_refl _) _).setCell (Nat.le_refl _) _)
          have KN := Lib.hid keyno; clear keyno
          cases ok
          · have HD0 : Hid (decN l n = none) := HDEC0.out rfl
            clear HDEC0 HDEC1
            go_wp2_with fail
            refine wp_region_quiet_below (by kernel_rfl) (by kernel_rfl) ?_
            repeat (go_big_quiet_step (fail))
            refine wpQuiet_nil ?_
            rintro w6 ⟨⟨nq, osq⟩, hq⟩
            have ew6 := ext_of_q hq
            clear hq nq osq
            go_wp2
            obtain ⟨s0, s1, s2, s3⟩ := stored4 (B5 _ ew6)
            exact bodyPost_ret (v := .tuple #[.agg #[.int .i64 0, .string ⟨#[]⟩, .int .i64 0, .slice none 0 0], .int .i64 n, .bool false]) (by simp [results, Tryd.results37, go_sem, s0, s1, s2, s3]) rfl (KN.out _ ew6 HD0.out)
          · have C1 := Lib.hid (fun w => iIsValidRecord_c x0 NM x2 A4 d c4 w HDL.out hNMs)
            have HD1 := Lib.hid (HDEC1.out rfl)
            clear HDEC0 HDEC1
            cases hV : validRec x0 NM x2 d.length
            · rw [hV] at C1 HD1
              have HD2 : Hid (decN l n = none) := HD1.out
              unfold vrec at C1
              clear HD1
              go_wp2_with fail
              refine wp_region_quiet_below (by kernel_rfl) (by kernel_rfl) ?_
              repeat (go_big_quiet_step ((go_at_call 35; exact Calls.regrown_of (C1.out _))))
              refine wpQuiet_nil ?_
              rintro w6 ⟨⟨nq, osq⟩, hq⟩
              have ew6 := ext_of_q hq
              clear hq nq osq
              have e6 := ew6
              go_wp2
              obtain ⟨s0, s1, s2, s3⟩ := stored4 (B5 _ e6)
              exact bodyPost_ret (v := .tuple #[.agg #[.int .i64 0, .string ⟨#[]⟩, .int .i64 0, .slice none 0 0], .int .i64 n, .bool false]) (by simp [results, Tryd.results37, go_sem, s0, s1, s2, s3]) rfl (KN.out _ e6 HD2.out)
            · rw [hV] at C1 HD1
              have C2 := Lib.hid (fun w h => iEncodeRecord_c x0 NM x2 A4 d c4 w h hNMs)
              have hEl := encRec_le x0 NM x2 d
              obtain ⟨E, hE⟩ : ∃ E, encRec x0 NM x2 d = E := ⟨_, rfl⟩
              rw [hE] at HD1 C2 hEl
              have HEL : Hid (E.length ≤ 140737488351232) := by show _ ≤ _; omega
              obtain ⟨q, hq⟩ : ∃ q, (l.drop n).take (nm + 6 + p.length) = q := ⟨_, rfl⟩
              have hql : q.length = nm + 6 + p.length := by rw [← hq]; simp; omega
              have rq : ∀ w', Ext w w' → Bs w' (some ⟨b, off + n, none⟩) q (c - n) := by
                intro w' e
                refine ⟨⟨by omega, by omega, fun _ => ⟨b, off + n, rfl, Nat.lt_of_lt_of_le hb e.size, fun w2 e2 i hi => ?_⟩⟩, by omega⟩
                have h5 := HCS.out w2 (e.trans e2) (n + i) (by omega)
                rw [← Nat.add_assoc] at h5
                rw [h5]
                simp only [← hq, List.getElem_take, List.getElem_drop]
              rw [hq] at HD1
              have CE := Lib.hid (fun A' c' w' (h : Bs w' A' E c') (e : Ext w w') => iEqualBytes_c A' (some ⟨b, off + n, none⟩) E q c' (c - n) w' h (rq w' e))
              rw [hql] at CE
              obtain ⟨r, hr⟩ : ∃ r, (E == q) = r := ⟨_, rfl⟩
              rw [hr] at CE HD1
              clear rq hq hE hql hr
              have k1 : IntKind.i64.wrap ((nm : Int) + 6) = (nm : Int) + 6 := IntWalk.i64_in _ (by omega)
              have k2 : IntKind.i64.wrap ((nm : Int) + 6 + (p.length : Int)) = (nm : Int) + 6 + (p.length : Int) := IntWalk.i64_in _ (by omega)
              have k3 : (0 : Int) ≤ (nm : Int) + 6 + (p.length : Int) := by omega
              have k4 : ((nm : Int) + 6 + (p.length : Int)).toNat = nm + 6 + p.length := by omega
              have k5 : (nm : Int) + 6 + (p.length : Int) ≤ ((c - n : Nat) : Int) := by omega
              have k5' : nm + 6 + p.length ≤ c - n := by omega
              have EW : Hid (Ext w w5) := ez.trans z5
              unfold vrec at C1 C2
              go_wp2_with fail
              go_region_held3 (fun w' => Ext w5 w') (first | assumption | exact Ext_drew (Ext.refl _) | exact Ext.trans (by assumption) (by assumption)) (first
                | (go_at_call 35; refine (C1.out _).mono ?_; rintro _ w6 ⟨rfl, he6⟩)
                | (go_at_call 33; refine (C2.out _ (r5.ext (by assumption))).mono ?_; rintro _ w7 ⟨v7, rfl, ho7, he7⟩; obtain ⟨A7, c7, rfl, r7⟩ := OwnL.rd ho7 HEL.out)
                | (go_at_call 72; refine (CE.out _ _ _ r7 (EW.out.trans (by assumption))).mono ?_; rintro _ w8 ⟨rfl, he8⟩))
              have e8 : Ext w5 w8 := by assumption
              clear he8 he7 r7 ho7 he6
              cases r
              · have HD2 : Hid (decN l n = none) := HD1.out
                go_wp2
                obtain ⟨s0, s1, s2, s3⟩ := stored4 (B5 _ e8)
                exact bodyPost_ret (v := .tuple #[.agg #[.int .i64 0, .string ⟨#[]⟩, .int .i64 0, .slice none 0 0], .int .i64 n, .bool false]) (by simp [results, Tryd.results37, go_sem, s0, s1, s2, s3]) rfl (KN.out _ e8 HD2.out)
              · have HD2 : Hid (decN l n = some ⟨x0, NM, x2, d⟩) := HD1.out
                clear HD1
                go_wp2
                obtain ⟨s0, s1, s2, s3⟩ := stored4 (B5 _ e8)
                refine bodyPost_ret (v := .tuple #[.agg #[.int .i64 x0, .string NM, .int .i64 x2, .slice A4 d.length c4], .int .i64 ((n : Int) + (nm : Int) + 6 + (p.length : Int)), .bool true]) (by simp [results, Tryd.results37, go_sem, s0, s1, s2, s3]) rfl ?_
                obtain ⟨q1, q2⟩ := dec_yes HD2.out
                rw [q1, q2, HNM.out, HSZ.out]
                refine ⟨.slice A4 d.length c4, ?_, ?_, ?_⟩
                · rw [show ((n + nm + 6 + p.length : Nat) : Int) = (n : Int) + (nm : Int) + 6 + (p.length : Int) by omega]
                  rfl
                · exact OwnL.lower (ownsRow_setCell_below (ownsRow_setCell_below (ownsRow_setCell_below (ownsRow_setCell_below (OwnL.ext o5 e8) hs3 _) hs3 _) hs3 _) hs3 _) HEE.out
                · exact ((((EW.out.trans e8).setCell (Nat.le_refl _) _).setCell (Nat.le_refl _) _).setCell (Nat.le_refl _) _).setCell (Nat.le_refl _) _
end Go.Proofs.YtdbbdoldndnbhaaDoor

/- DecodeRecord of the reference. -/
namespace Go.Proofs.YtdbbdoldndnbhaaDoor
open Go.RowKit Go.Sort

/-- the number of bytes, the greatest first -/
def beN (l : List UInt8) : Nat := l.foldl (fun n x => 256 * n + x.toNat) 0
theorem beN_take {l : List UInt8} {k : Nat} (h : k < l.length) : beN (l.take (k+1)) = 256 * beN (l.take k) + l[k].toNat := by
  rw [List.take_succ_eq_append_getElem h]; unfold beN; rw [List.foldl_append]; rfl
theorem beN_lt : ∀ (l : List UInt8), l.length ≤ 4 → beN l < 4294967296 := by
  intro l h
  have h8 := fun (x : UInt8) => x.toNat_lt
  match l, h with
  | [], _ => decide
  | [a], _ => have := h8 a; simp [beN]; omega
  | [a, b], _ => have := h8 a; have := h8 b; simp [beN]; omega
  | [a, b, c], _ => have := h8 a; have := h8 b; have := h8 c; simp [beN]; omega
  | [a, b, c, d], _ => have := h8 a; have := h8 b; have := h8 c; have := h8 d; simp [beN]; omega
set_option maxHeartbeats 1000000 in
theorem ReadInteger_c (A : Option Addr) (l : List UInt8) (c : Nat) (w : World) (h : Bs w A l c) (hl : l.length ≤ 4) :
    Gives Tryd.prog 91 #[.slice A l.length c, .bool false] w (.int .i64 (beN l : Nat)) := by
  go_enter Tryd.func91, Tryd.ntmps91
  go_wp2
  go_loopw [5, 6, 7] (fun n i _ wr => ∃ k : Nat, k ≤ l.length ∧ i = .int .i64 k ∧ n = .int .i64 (beN (l.take k) : Nat) ∧ Ext w wr) (fun _ i _ _ => l.length - (intOf i).toNat)
  case atStart => exact ⟨0, by omega, rfl, by simp [beN], Ext.refl _⟩
  case round =>
    obtain ⟨k, hk, rfl, rfl, he⟩ := hrel
    by_cases hlt : k < l.length
    · obtain ⟨b, off, rfl, hb, hc⟩ := h.at k hlt
      have hst := Lib.hid (beN_take hlt)
      have h1 := beN_lt (l.take k) (by simp; omega)
      have h3 := l[k].toNat_lt
      generalize hs : beN (l.take k) = s at *
      clear hs
      go_wp2
      go_roundw
      case rel => exact ⟨k+1, by omega, by go_num, by rw [hst.out]; go_num, he⟩
      case measure => simp [intOf]; omega
    · obtain rfl : k = l.length := by omega
      have ht : beN (l.take l.length) = beN l := by rw [List.take_of_length_le (by omega)]
      have HT := Lib.hid ht; clear ht
      go_wp2
      go_ret
      exact ⟨ret_i64 (by rw [HT.out]), he⟩

set_option maxRecDepth 100000 in
set_option maxHeartbeats 4000000 in
theorem sDecodeRecord_c (A : Option Addr) (l : List UInt8) (c : Nat) (a : Int) (w : World) (h : Bs w A l c) (ha : (Lit.int .i64 a).wf = true) :
    Calls Tryd.prog 73 #[.slice A l.length c, .int .i64 a] w (DecOut (dec l a) (decEnd l a) w) := by
  have hl := h.len
  have hcap := h.cap
  have ez := Ext_alloc (.cells #[.int .i64 0, .string ⟨#[]⟩, .int .i64 0, .slice none 0 0] 49) (Ext.refl w)
  have B := fun w' (e : Ext (w.alloc (.cells #[.int .i64 0, .string ⟨#[]⟩, .int .i64 0, .slice none 0 0] 49)) w') => boxed e
  have F := fun w' (e : Ext (w.alloc (.cells #[.int .i64 0, .string ⟨#[]⟩, .int .i64 0, .slice none 0 0] 49)) w') => boxed_free e
  by_cases h1 : a < 0 ∨ (l.length : Int) < a + 2
  · have hd : dec l a = none ∧ decEnd l a = a := by
      by_cases h0 : a < 0
      · exact dec_neg h0
      · obtain ⟨n, rfl⟩ := Int.eq_ofNat_of_zero_le (show 0 ≤ a by omega)
        exact dec_no (by unfold decN; rw [if_pos (by omega)])
    obtain ⟨q1, q2⟩ := hd
    have HI : Hid ((decide (0 ≤ a) && decide (a ≤ (l.length : Int) - 2)) = false) := by
      show _ = _; rw [Bool.and_eq_false_iff]; simp; omega
    rw [q1, q2]; clear q1 q2 h1
    go_enter Tryd.func73, Tryd.ntmps73
    go_wp2_with (go_at_call 54; refine (l1In_c _ _ _ _).mono ?_; rintro _ w1 ⟨rfl, he1⟩; rw [HI.out])
    obtain ⟨s0, s1, s2, s3⟩ := stored4 (B _ he1)
    refine bodyPost_ret (v := .tuple #[.agg #[.int .i64 0, .string ⟨#[]⟩, .int .i64 0, .slice none 0 0], .int .i64 a, .bool false]) (by simp [results, Tryd.results73, go_sem, s0, s1, s2, s3]) rfl (DecOut.no ?_)
    exact ((((ez.trans he1).setCell (Nat.le_refl _) _).setCell (Nat.le_refl _) _).setCell (Nat.le_refl _) _).setCell (Nat.le_refl _) _
  · obtain ⟨n, rfl⟩ := Int.eq_ofNat_of_zero_le (show 0 ≤ a by omega)
    have hn2 : n + 2 ≤ l.length := by omega
    have HI : Hid ((decide ((0 : Int) ≤ (n : Int)) && decide ((n : Int) ≤ (l.length : Int) - 2)) = true) := by
      show _ = _; simp; omega
    clear ha h1
    obtain ⟨b, off, rfl, hb, hcs⟩ := h.base (by omega)
    obtain ⟨nm, hnm⟩ : ∃ nm, l[n+1].toNat = nm := ⟨_, rfl⟩
    have hnm8 : nm < 256 := by rw [← hnm]; exact UInt8.toNat_lt _
    have HNM : Hid (nmAt l n = nm) := by show _ = _; unfold nmAt; rw [getD_of_lt (by omega)]; exact hnm
    have hc1 : ∀ w', Ext w w' → w'.cell? ⟨b, off + (n + 1), none⟩ = some (.int .u8 (nm : Int)) := by
      intro w' e; have := hcs w' e (n+1) (by omega); rw [this, vu8, hnm]
    clear hnm
    have keyno : ∀ w6, Ext (w.alloc (.cells #[.int .i64 0, .string ⟨#[]⟩, .int .i64 0, .slice none 0 0] 49)) w6 → decN l n = none → DecOut (dec l (n : Int)) (decEnd l (n : Int)) w (.returned (.tuple #[.agg #[.int .i64 0, .string ⟨#[]⟩, .int .i64 0, .slice none 0 0], .int .i64 n, .bool false]))
        ((((w6.setCell ⟨w.heap.size, 0, none⟩ (.int .i64 0)).setCell ⟨w.heap.size, 1, none⟩ (.string ⟨#[]⟩)).setCell ⟨w.heap.size, 2, none⟩ (.int .i64 0)).setCell ⟨w.heap.size, 3, none⟩ (.slice none 0 0)) := by
      intro w6 e6 hd
      obtain ⟨q1, q2⟩ := dec_no hd
      rw [q1, q2]
      exact DecOut.no (((((ez.trans e6).setCell (Nat.le_refl _) _).setCell (Nat.le_refl _) _).setCell (Nat.le_refl _) _).setCell (Nat.le_refl _) _)
    have KN := Lib.hid keyno; clear keyno
    by_cases h2 : l.length < n + nm + 5
    · have HD : Hid (decN l n = none) := by show _ = _; unfold decN; rw [HNM.out, if_pos (by omega)]
      clear hcs h
      go_enter Tryd.func73, Tryd.ntmps73
      go_wp2_with (go_at_call 54; refine (l1In_c _ _ _ _).mono ?_; rintro _ w1 ⟨rfl, he1⟩; rw [HI.out]; have he1' := ez.trans he1)
      obtain ⟨s0, s1, s2, s3⟩ := stored4 (B _ he1)
      exact bodyPost_ret (v := .tuple #[.agg #[.int .i64 0, .string ⟨#[]⟩, .int .i64 0, .slice none 0 0], .int .i64 n, .bool false]) (by simp [results, Tryd.results73, go_sem, s0, s1, s2, s3]) rfl (KN.out _ he1 HD.out)
    · obtain ⟨sz, hsz⟩ : ∃ sz, szAt l n = sz := ⟨_, rfl⟩
      have hszv : beN [l[n + nm + 3], l[n + nm + 4]] = sz := by
        rw [← hsz]; unfold szAt; rw [HNM.out, getD_of_lt (by omega), getD_of_lt (by omega)]; simp [beN]
      have hsz8 : sz < 65536 := by
        rw [← hszv]; have := (l[n+nm+3]).toNat_lt; have := (l[n+nm+4]).toNat_lt; simp [beN]; omega
      have HSZ := Lib.hid hsz; clear hsz
      have CR : Hid (∀ w' o len cap, o = off + (n + nm + 3) → len = 2 → 2 ≤ cap → Ext w w' → Gives Tryd.prog 91 #[.slice (some ⟨b, o, none⟩) len cap, .bool false] w' (.int .i64 (sz : Nat))) := by
        intro w' o len cap ho hlen hcap' e
        subst ho; subst hlen
        have hb2 : Bs w' (some ⟨b, off + (n + nm + 3), none⟩) [l[n + nm + 3], l[n + nm + 4]] cap := by
          refine ⟨⟨by simpa using hcap', by simp, fun _ => ⟨b, off + (n + nm + 3), rfl, Nat.lt_of_lt_of_le hb e.size, fun w2 e2 i hi => ?_⟩⟩, by simp⟩
          have hi2 : i < 2 := by simpa using hi
          rcases (by omega : i = 0 ∨ i = 1) with rfl | rfl
          · simpa using hcs w2 (e.trans e2) (n + nm + 3) (by omega)
          · have := hcs w2 (e.trans e2) (n + nm + 4) (by omega)
            rw [show off + (n + nm + 4) = off + (n + nm + 3) + 1 by omega] at this
            simpa using this
        have := ReadInteger_c _ _ cap w' hb2 (by simp)
        rw [hszv] at this
        exact this
      clear hszv
      by_cases h3 : l.length < n + nm + 6 + sz
      · have HD : Hid (decN l n = none) := by show _ = _; unfold decN; rw [HNM.out, HSZ.out, if_pos (by omega)]
        have H := Lib.hid h; have HCS := Lib.hid hcs; clear h hcs
        go_enter Tryd.func73, Tryd.ntmps73
        go_wp2_with (first
          | (go_at_call 54; refine (l1In_c _ _ _ _).mono ?_; rintro _ w1 ⟨rfl, he1⟩; rw [HI.out]; have he1' := ez.trans he1)
          | (go_at_call 91; refine (CR.out _ _ _ _ (by omega) (by omega) (by omega) he1').mono ?_; rintro _ w2 ⟨rfl, he2⟩; have he12 := he1.trans he2))
        obtain ⟨s0, s1, s2, s3⟩ := stored4 (B _ he12)
        exact bodyPost_ret (v := .tuple #[.agg #[.int .i64 0, .string ⟨#[]⟩, .int .i64 0, .slice none 0 0], .int .i64 n, .bool false]) (by simp [results, Tryd.results73, go_sem, s0, s1, s2, s3]) rfl (KN.out _ he12 HD.out)
      · obtain ⟨p, hp⟩ : ∃ p, (l.drop (n + nm + 5)).take sz = p := ⟨_, rfl⟩
        have hpl : p.length = sz := by rw [← hp]; simp; omega
        have rp : ∀ w' o len cap, o = off + (n + nm + 5) → len = p.length → p.length ≤ cap → Ext w w' → Bs w' (some ⟨b, o, none⟩) p cap ∧ len = p.length := by
          intro w' o len cap ho hlen hcap' e
          subst ho
          refine ⟨⟨⟨hcap', by omega, fun _ => ⟨b, off + (n + nm + 5), rfl, Nat.lt_of_lt_of_le hb e.size, fun w2 e2 i hi => ?_⟩⟩, by omega⟩, hlen⟩
          have h5 := hcs w2 (e.trans e2) (n + nm + 5 + i) (by omega)
          rw [← Nat.add_assoc] at h5
          rw [h5]
          simp only [← hp, List.getElem_take, List.getElem_drop]
        subst hpl
        have HP := Lib.hid hp; clear hp
        obtain ⟨d, hdd⟩ : ∃ d, (unpack p).getD [] = d := ⟨_, rfl⟩
        obtain ⟨ok, hok⟩ : ∃ ok, (unpack p).isSome = ok := ⟨_, rfl⟩
        have hd1 : d.length ≤ 1000 := by have := unpack_le p; rw [hdd] at this; exact this
        have HDL : Hid (d.length ≤ 140737488351232) := by show _ ≤ _; omega
        have CU : Hid (∀ w' o len cap, o = off + (n + nm + 5) → len = p.length → p.length ≤ cap → Ext w w' →
            Calls Tryd.prog 92 #[.slice (some ⟨b, o, none⟩) len cap] w' fun e w'' => ∃ v, e = .returned (.tuple #[v, .bool ok]) ∧ OwnL vu8 5 w' w'' v d ∧ Ext w' w'') := by
          intro w' o len cap ho hlen hcap' e
          obtain ⟨r1, r2⟩ := rp w' o len cap ho hlen hcap' e
          subst r2
          have := sUnpackBytes_c _ _ _ _ r1
          rw [hdd, hok] at this
          exact this
        clear hok rp
        obtain ⟨x0, hx0⟩ : ∃ x, l[n].toNat = x := ⟨_, rfl⟩
        obtain ⟨x2, hx2⟩ : ∃ x, l[n + nm + 2].toNat = x := ⟨_, rfl⟩
        have hx08 : x0 < 256 := by rw [← hx0]; exact UInt8.toNat_lt _
        have hx28 : x2 < 256 := by rw [← hx2]; exact UInt8.toNat_lt _
        have hc0 : ∀ w', Ext w w' → w'.cell? ⟨b, off + n, none⟩ = some (.int .u8 (x0 : Int)) := by
          intro w' e; have := hcs w' e n (by omega); rw [this, vu8, hx0]
        have hc2 : ∀ w', Ext w w' → w'.cell? ⟨b, off + (n + 2 + nm), none⟩ = some (.int .u8 (x2 : Int)) := by
          intro w' e; have := hcs w' e (n+nm+2) (by omega); rw [show off + (n + nm + 2) = off + (n + 2 + nm) by omega] at this; rw [this, vu8, hx2]
        obtain ⟨NM, hNM⟩ : ∃ NM : ByteArray, ⟨((l.drop (n + 2)).take nm).toArray⟩ = NM := ⟨_, rfl⟩
        have hcv : ∀ w' len cap, len = nm → Ext w w' → (convert 44 9 (.slice (some ⟨b, off + (n + 2), none⟩) len cap)).run Tryd.prog w' = .ok (.string NM) w' := by
          intro w' len cap hlen e
          subst hlen
          have := run_str (hcs w' e) (n + 2) len cap (by omega)
          rwa [hNM] at this
        have HREC : Hid (recAt l n d = ⟨x0, NM, x2, d⟩) := by
          show _ = _; unfold recAt; rw [HNM.out, getD_of_lt (by omega), getD_of_lt (by omega), hx0, hx2, hNM]
        have hNMs : NM.size ≤ 9223372036854775807 := by
          have : NM.size = nm := by rw [← hNM]; show ((l.drop (n+2)).take nm).toArray.size = _; simp; omega
          omega
        clear hx0 hx2 hNM
        obtain ⟨V, hV⟩ : ∃ V, validRec x0 NM x2 d.length = V := ⟨_, rfl⟩
        obtain ⟨E, hE⟩ : ∃ E, encRec x0 NM x2 d = E := ⟨_, rfl⟩
        obtain ⟨q, hq⟩ : ∃ q, (l.drop n).take (nm + 6 + p.length) = q := ⟨_, rfl⟩
        have hVE : V = false → E.length = 0 := by intro hf; rw [← hE, encRec_no (by rw [hV]; exact hf)]; rfl
        have hVE2 : V = true → E.length ≠ 0 := by intro hf; rw [← hE, encRec_length (by rw [hV]; exact hf)]; omega
        have HDEC : Hid (decN l n = if V && (E == q) then some ⟨x0, NM, x2, d⟩ else none) := by
          show _ = _
          rw [decN_spec (by rw [HNM.out, HSZ.out]; omega), HNM.out, HSZ.out, HP.out, hdd, HREC.out]
          have e1 : (⟨x0, NM, x2, d⟩ : DRec).ok = V := hV
          have e2 : (⟨x0, NM, x2, d⟩ : DRec).enc = E := hE
          rw [e1, e2, hq]
        clear hdd
        have hEl := encRec_le x0 NM x2 d
        rw [hE] at hEl
        have HEL : Hid (E.length ≤ 140737488351232) := by show _ ≤ _; omega
        have CN := Lib.hid (fun A4 c4 w h => sEncodeRecord_c x0 NM x2 A4 d c4 w h hNMs)
        rw [hE] at CN
        have CE : Hid (∀ A' c' w' len, len = nm + 6 + p.length → Bs w' A' E c' → Ext w w' → Gives Tryd.prog 94 #[.slice A' E.length c', .slice (some ⟨b, off + n, none⟩) len (c - n)] w' (.bool (E == q))) := by
          intro A' c' w' len hlen h e
          have hql : q.length = nm + 6 + p.length := by rw [← hq]; simp; omega
          have rq : Bs w' (some ⟨b, off + n, none⟩) q (c - n) := by
            refine ⟨⟨by omega, by omega, fun _ => ⟨b, off + n, rfl, Nat.lt_of_lt_of_le hb e.size, fun w2 e2 i hi => ?_⟩⟩, by omega⟩
            have h5 := hcs w2 (e.trans e2) (n + i) (by omega)
            rw [← Nat.add_assoc] at h5
            rw [h5]
            simp only [← hq, List.getElem_take, List.getElem_drop]
          have := sEqualBytes_c A' (some ⟨b, off + n, none⟩) E q c' (c - n) w' h rq
          rw [hql, ← hlen] at this
          exact this
        have H := Lib.hid h; have HCS := Lib.hid hcs; clear h hcs hV hE hq
        have HH := Lib.hid hVE; have HH2 := Lib.hid hVE2; clear hVE hVE2
        generalize (E == q) = r at *
        go_enter Tryd.func73, Tryd.ntmps73
        go_wp2_with (first
          | (go_at_call 54; refine (l1In_c _ _ _ _).mono ?_; rintro _ w1 ⟨rfl, he1⟩; rw [HI.out]; have he1' := ez.trans he1)
          | (go_at_call 91; refine (CR.out _ _ _ _ (by omega) (by omega) (by omega) he1').mono ?_; rintro _ w2 ⟨rfl, he2⟩; have he12 := he1.trans he2; have he12' := ez.trans he12)
          | (go_at_call 92; refine (CU.out _ _ _ _ (by omega) (by omega) (by omega) he12').mono ?_; rintro _ w4 ⟨v4, rfl, ho4, he4⟩; have he34 := he12.trans he4; have he34' := ez.trans he34; obtain ⟨A4, c4, hv4, hr4⟩ := OwnL.rd ho4 HDL.out; subst hv4))
        have hcv' := fun w' len cap hlen (e : Ext w4 w') => hcv w' len cap hlen (he34'.trans e)
        have hc0' := fun w' (e : Ext w4 w') => hc0 w' (he34'.trans e)
        have hc2' := fun w' (e : Ext w4 w') => hc2 w' (he34'.trans e)
        clear hcv hc0 hc2 hc1
        have g1 : (n : Int) < (l.length : Int) := by omega
        have g1' : n < l.length := by omega
        have g3 : (0 : Int) ≤ (n : Int) + 2 := by omega
        have g4 : ((n : Int) + 2).toNat = n + 2 := by omega
        have g5 : (n : Int) + 2 ≤ (n : Int) + 2 + (nm : Int) := by omega
        have g6 : (n : Int) + 2 + (nm : Int) ≤ (c : Int) := by omega
        have g6' : n + 2 + nm ≤ c := by omega
        have g6'' : ¬ c = n + 2 := by omega
        have g8 : (n : Int) + 2 + (nm : Int) < (l.length : Int) := by omega
        have g8' : n + 2 + nm < l.length := by omega
        have g9 : ((n : Int) + 2 + (nm : Int)).toNat = n + 2 + nm := by omega
        have g9' : (0 : Int) ≤ (n : Int) + 2 + (nm : Int) := by omega
        have g10 : IntKind.i64.wrap (x0 : Int) = (x0 : Int) := IntWalk.i64_in _ (by omega)
        have g11 : IntKind.i64.wrap (x2 : Int) = (x2 : Int) := IntWalk.i64_in _ (by omega)
        go_region_held3 (fun w' => Ext w4 w') (first | assumption | exact Ext_drew (Ext.refl _) | exact Ext_drew (Ext_alloc _ (Ext.refl _)) | exact Ext_alloc _ (Ext_drew (Ext.refl _)) | exact Ext.trans (by assumption) (by assumption)) (first | fail)
        have ebx := Ext_alloc (.cells #[.int .i64 x0, .string NM, .int .i64 x2, .slice A4 d.length c4] 49) (Ext.refl w4)
        generalize hw5 : (w4.alloc (.cells #[.int .i64 x0, .string NM, .int .i64 x2, .slice A4 d.length c4] 49)).drew = w5
        have e5 : Ext (w4.alloc (.cells #[.int .i64 x0, .string NM, .int .i64 x2, .slice A4 d.length c4] 49)) w5 := by rw [← hw5]; exact Ext_drew (Ext.refl _)
        clear hw5
        have D := fun w' (e : Ext w5 w') => boxed (e5.trans e)
        have e45 := ebx.trans e5
        have r5 := hr4.ext e45
        have o5 := OwnL.ext ho4 e45
        have z5 := he34.trans e45
        have hs3 : w.heap.size < w2.heap.size := by have := he12.size; simp at this; omega
        have HEE : Hid (Ext w w2) := he12'
        have EW : Hid (Ext w w5) := ez.trans z5
        have B5 := fun w' (e : Ext w5 w') => B w' (z5.trans e)
        have F5 := fun w' (e : Ext w5 w') => F w' (z5.trans e)
        have KN5 := Lib.hid (fun w6 (e : Ext w5 w6) => KN.out w6 (z5.trans e))
        clear hcv' hc0' hc2' ho4 hr4 B F KN he1 he2
        unfold vrec at CN
        cases V
        · have HD2 : Hid (decN l n = none) := HDEC.out
          have HE0 : E.length = 0 := HH.out rfl
          have HE0' := Lib.hid HE0; clear HE0 HDEC HH HH2
          go_wp2_with (first
            | (go_at_call 93; refine (CN.out _ _ _ (r5.ext (by first | exact Ext.refl _ | assumption))).mono ?_; rintro _ w7 ⟨v7, rfl, ho7, he7⟩; obtain ⟨A7, c7, hv7, r7⟩ := OwnL.rd ho7 HEL.out; rw [HE0'.out] at hv7; subst hv7))
          obtain ⟨s0, s1, s2, s3⟩ := stored4 (B5 _ he7)
          exact bodyPost_ret (v := .tuple #[.agg #[.int .i64 0, .string ⟨#[]⟩, .int .i64 0, .slice none 0 0], .int .i64 n, .bool false]) (by simp [results, Tryd.results73, go_sem, s0, s1, s2, s3]) rfl (KN5.out _ he7 HD2.out)
        · have HE0 : ((E.length : Int) == 0) = false := beq_eq_false_iff_ne.2 (by have := HH2.out rfl; omega)
          have HE0b : ¬ E.length = 0 := HH2.out rfl
          clear HH HH2
          cases r
          · have HD2 : Hid (decN l n = none) := HDEC.out
            clear HDEC
            go_wp2_with (first
              | (go_at_call 93; refine (CN.out _ _ _ (r5.ext (by first | exact Ext.refl _ | assumption))).mono ?_; rintro _ w7 ⟨v7, rfl, ho7, he7⟩; obtain ⟨A7, c7, hv7, r7⟩ := OwnL.rd ho7 HEL.out; subst hv7)
              | (go_at_call 94; refine (CE.out _ _ _ _ (by omega) r7 (EW.out.trans he7)).mono ?_; rintro _ w8 ⟨rfl, he8⟩; have e8 := he7.trans he8))
            obtain ⟨s0, s1, s2, s3⟩ := stored4 (B5 _ e8)
            exact bodyPost_ret (v := .tuple #[.agg #[.int .i64 0, .string ⟨#[]⟩, .int .i64 0, .slice none 0 0], .int .i64 n, .bool false]) (by simp [results, Tryd.results73, go_sem, s0, s1, s2, s3]) rfl (KN5.out _ e8 HD2.out)
          · have HD2 : Hid (decN l n = some ⟨x0, NM, x2, d⟩) := HDEC.out
            clear HDEC
            go_wp2_with (first
              | (go_at_call 93; refine (CN.out _ _ _ (r5.ext (by first | exact Ext.refl _ | assumption))).mono ?_; rintro _ w7 ⟨v7, rfl, ho7, he7⟩; obtain ⟨A7, c7, hv7, r7⟩ := OwnL.rd ho7 HEL.out; subst hv7)
              | (go_at_call 94; refine (CE.out _ _ _ _ (by omega) r7 (EW.out.trans he7)).mono ?_; rintro _ w8 ⟨rfl, he8⟩; have e8 := he7.trans he8))
            obtain ⟨s0, s1, s2, s3⟩ := stored4 (B5 _ e8)
            refine bodyPost_ret (v := .tuple #[.agg #[.int .i64 x0, .string NM, .int .i64 x2, .slice A4 d.length c4], .int .i64 ((n : Int) + 2 + (nm : Int) + 3 + (p.length : Int) + 1), .bool true]) (by simp [results, Tryd.results73, go_sem, s0, s1, s2, s3]) rfl ?_
            obtain ⟨q1, q2⟩ := dec_yes HD2.out
            rw [q1, q2, HNM.out, HSZ.out]
            refine ⟨.slice A4 d.length c4, ?_, ?_, ?_⟩
            · rw [show ((n + nm + 6 + p.length : Nat) : Int) = (n : Int) + 2 + (nm : Int) + 3 + (p.length : Int) + 1 by omega]
              rfl
            · exact OwnL.lower (ownsRow_setCell_below (ownsRow_setCell_below (ownsRow_setCell_below (ownsRow_setCell_below (OwnL.ext o5 e8) hs3 _) hs3 _) hs3 _) hs3 _) HEE.out
            · exact ((((EW.out.trans e8).setCell (Nat.le_refl _) _).setCell (Nat.le_refl _) _).setCell (Nat.le_refl _) _).setCell (Nat.le_refl _) _
end Go.Proofs.YtdbbdoldndnbhaaDoor

/- Plain laws of reading records one behind the other: no program in sight. -/
namespace Go.Proofs.YtdbbdoldndnbhaaDoor

/-- the length of the encoding that begins at an index -/
def sizeAt (b : List UInt8) (a : Nat) : Nat := nmAt b a + 6 + szAt b a
def readF : Nat → List UInt8 → Nat → List DRec × Nat
  | 0, _, a => ([], a)
  | f + 1, b, a => match decN b a with
    | none => ([], a)
    | some r => (r :: (readF f b (a + sizeAt b a)).1, (readF f b (a + sizeAt b a)).2)
theorem decN_out {b : List UInt8} {a : Nat} (h : b.length < a + 6) : decN b a = none := by
  cases hd : decN b a with
  | none => rfl
  | some r => have := (decN_some hd).1; omega
theorem decN_fits {b : List UInt8} {a : Nat} {r : DRec} (h : decN b a = some r) : a + sizeAt b a ≤ b.length ∧ 6 ≤ sizeAt b a := by
  have := (decN_some h).1; unfold sizeAt; omega
theorem readF_fuel (b : List UInt8) : ∀ f g a, b.length - a ≤ f → b.length - a ≤ g → readF f b a = readF g b a := by
  intro f
  induction f with
  | zero =>
    intro g a h _
    cases g with
    | zero => rfl
    | succ g => rw [readF, readF, decN_out (by omega)]
  | succ f ih =>
    intro g a h1 h2
    cases g with
    | zero => rw [readF, readF, decN_out (by omega)]
    | succ g =>
      rw [readF, readF]
      cases hd : decN b a with
      | none => rfl
      | some r =>
        have := decN_fits hd
        simp only
        rw [ih g (a + sizeAt b a) (by omega) (by omega)]
/-- the records from an index on; where the reading stops -/
def recs (b : List UInt8) (a : Nat) : List DRec := (readF b.length b a).1
def stop (b : List UInt8) (a : Nat) : Nat := (readF b.length b a).2
theorem read_none {b : List UInt8} {a : Nat} (h : decN b a = none) : recs b a = [] ∧ stop b a = a := by
  unfold recs stop
  cases b.length with
  | zero => exact ⟨rfl, rfl⟩
  | succ n => rw [readF, h]; exact ⟨rfl, rfl⟩
theorem read_some {b : List UInt8} {a : Nat} {r : DRec} (h : decN b a = some r) : recs b a = r :: recs b (a + sizeAt b a) ∧ stop b a = stop b (a + sizeAt b a) := by
  have hf := decN_fits h
  unfold recs stop
  rw [readF_fuel b b.length (b.length + 1) a (by omega) (by omega), readF, h]
  exact ⟨rfl, rfl⟩
theorem readF_le (b : List UInt8) : ∀ f a, a ≤ b.length → (readF f b a).2 ≤ b.length ∧ a ≤ (readF f b a).2 ∧ 6 * (readF f b a).1.length + a ≤ (readF f b a).2 := by
  intro f
  induction f with
  | zero => intro a h; exact ⟨h, Nat.le_refl _, by simp [readF]⟩
  | succ f ih =>
    intro a h
    rw [readF]
    cases hd : decN b a with
    | none => exact ⟨h, Nat.le_refl _, by simp⟩
    | some r =>
      have hf := decN_fits hd
      have := ih (a + sizeAt b a) (by omega)
      simp only [List.length_cons]
      omega
theorem stop_le {b : List UInt8} {a : Nat} (h : a ≤ b.length) : stop b a ≤ b.length ∧ a ≤ stop b a := ⟨(readF_le b _ a h).1, (readF_le b _ a h).2.1⟩
theorem recs_le {b : List UInt8} {a : Nat} (h : a ≤ b.length) : 6 * (recs b a).length + a ≤ b.length := by
  have := readF_le b b.length a h; unfold recs; omega

theorem take_drop_take {α : Type} (b : List α) {s k m : Nat} (h : k + m ≤ s) : ((b.take s).drop k).take m = (b.drop k).take m := by
  rw [List.drop_take, List.take_take, Nat.min_eq_left (by omega)]
theorem getD_take {b : List UInt8} {s i : Nat} (h : i < s) : (b.take s).getD i 0 = b.getD i 0 := by
  simp [List.getD, List.getElem?_take, h]
theorem nmAt_take {b : List UInt8} {s a : Nat} (h : a + 1 < s) : nmAt (b.take s) a = nmAt b a := by unfold nmAt; rw [getD_take h]
theorem szAt_take {b : List UInt8} {s a : Nat} (h : a + nmAt b a + 4 < s) : szAt (b.take s) a = szAt b a := by
  unfold szAt; rw [nmAt_take (by omega), getD_take (by omega), getD_take (by omega)]
theorem decN_take_eq {b : List UInt8} {s a : Nat} (hs : s ≤ b.length) (h : a + sizeAt b a ≤ s) : decN (b.take s) a = decN b a := by
  unfold sizeAt at h
  have hl : (b.take s).length = s := by rw [List.length_take]; omega
  have e1 : nmAt (b.take s) a = nmAt b a := nmAt_take (by omega)
  have e2 : szAt (b.take s) a = szAt b a := szAt_take (by omega)
  have e3 : ∀ d, recAt (b.take s) a d = recAt b a d := by
    intro d; unfold recAt
    rw [e1, getD_take (by omega), getD_take (by omega), take_drop_take b (by omega)]
  unfold decN
  rw [e1, e2, hl, if_neg (by omega), if_neg (by omega), take_drop_take b (by omega), take_drop_take b (by omega)]
  simp only [e3]
theorem decN_take_some {b : List UInt8} {s a : Nat} {r : DRec} (hs : s ≤ b.length) (h : decN (b.take s) a = some r) : decN b a = some r ∧ a + sizeAt b a ≤ s := by
  have hf := (decN_some h).1
  have hl : (b.take s).length = s := by rw [List.length_take]; omega
  rw [hl] at hf
  have e1 : nmAt (b.take s) a = nmAt b a := nmAt_take (by omega)
  rw [e1] at hf
  have e2 : szAt (b.take s) a = szAt b a := szAt_take (by omega)
  rw [e2] at hf
  have hz : a + sizeAt b a ≤ s := by unfold sizeAt; omega
  exact ⟨(decN_take_eq hs hz).symm.trans h, hz⟩
theorem decN_take_none {b : List UInt8} {s a : Nat} (hs : s ≤ b.length) (h : decN b a = none ∨ s < a + sizeAt b a) : decN (b.take s) a = none := by
  cases hd : decN (b.take s) a with
  | none => rfl
  | some r =>
    obtain ⟨h1, h2⟩ := decN_take_some hs hd
    rcases h with h | h
    · rw [h] at h1; cases h1
    · omega

/-- a log is valid -/
def validLog (b : List UInt8) (s : Int) : Bool := decide (0 ≤ s) && decide (s ≤ b.length) && (stop b 0 == b.length) && (stop (b.take s.toNat) 0 == s.toNat)
/-- the bytes that are stored end with a record -/
def endsAt (b : List UInt8) (s : Nat) : Bool := stop (b.take s) 0 == s
/-- what the scan of a log knows at an index -/
def Scan (b : List UInt8) (s a : Nat) (e : Bool) : Prop :=
  (e = true ∧ endsAt b s = true) ∨ (e = false ∧ a < s ∧ stop (b.take s) a = stop (b.take s) 0) ∨ (e = false ∧ s < a ∧ endsAt b s = false)
theorem Scan.start (b : List UInt8) (s : Nat) : Scan b s 0 (s == 0) := by
  by_cases h : s = 0
  · subst h
    refine .inl ⟨rfl, ?_⟩
    unfold endsAt
    rw [List.take_zero, (read_none (decN_out (by simp))).2]; rfl
  · exact .inr (.inl ⟨by simpa using h, by omega, rfl⟩)
theorem Scan.step {b : List UInt8} {s a : Nat} {e : Bool} {r : DRec} (hs : s ≤ b.length) (hd : decN b a = some r) (h : Scan b s a e) : Scan b s (a + sizeAt b a) (e || (a + sizeAt b a == s)) := by
  have hf := decN_fits hd
  rcases h with ⟨rfl, h⟩ | ⟨rfl, h1, h2⟩ | ⟨rfl, h1, h2⟩
  · exact .inl ⟨rfl, h⟩
  · by_cases hle : a + sizeAt b a ≤ s
    · have hd' := (decN_take_eq hs hle).trans hd
      have hz : sizeAt (b.take s) a = sizeAt b a := by
        unfold sizeAt at hle ⊢
        rw [nmAt_take (by omega), szAt_take (by omega)]
      have h3 := (read_some hd').2
      rw [hz] at h3
      by_cases he : a + sizeAt b a = s
      · rw [he]
        refine .inl ⟨by simp, ?_⟩
        unfold endsAt
        rw [← h2, h3, he, (read_none (decN_out (by rw [List.length_take]; omega))).2]
        simp
      · exact .inr (.inl ⟨by simpa using he, by omega, by rw [← h3]; exact h2⟩)
    · refine .inr (.inr ⟨by simp; omega, by omega, ?_⟩)
      unfold endsAt
      rw [← h2, (read_none (decN_take_none hs (.inr (by omega)))).2]
      simp; omega
  · exact .inr (.inr ⟨by simp; omega, by omega, h2⟩)
theorem Scan.done {b : List UInt8} {s : Nat} {e : Bool} (hs : s ≤ b.length) (h : Scan b s b.length e) : e = endsAt b s := by
  rcases h with ⟨rfl, h⟩ | ⟨rfl, h1, _⟩ | ⟨rfl, _, h⟩
  · exact h.symm
  · omega
  · exact h.symm
theorem validLog_eq {b : List UInt8} {s : Nat} (hs : s ≤ b.length) : validLog b (s : Int) = ((stop b 0 == b.length) && endsAt b s) := by
  unfold validLog endsAt
  rw [Int.toNat_natCast]
  have h1 : decide ((0 : Int) ≤ (s : Int)) = true := by simp
  have h2 : decide ((s : Int) ≤ (b.length : Int)) = true := by simp; omega
  rw [h1, h2]; simp
theorem validLog_out {b : List UInt8} {s : Int} (h : s < 0 ∨ (b.length : Int) < s) : validLog b s = false := by
  unfold validLog
  rcases h with h | h
  · have h1 : decide ((0 : Int) ≤ s) = false := by simp; omega
    rw [h1]; rfl
  · have h1 : decide (s ≤ (b.length : Int)) = false := by simp; omega
    rw [h1]; simp
theorem validLog_facts {b : List UInt8} {s : Int} (h : validLog b s = true) : 0 ≤ s ∧ s ≤ b.length ∧ stop b 0 = b.length ∧ stop (b.take s.toNat) 0 = s.toNat := by
  unfold validLog at h
  simp only [Bool.and_eq_true, decide_eq_true_eq, beq_iff_eq] at h
  exact ⟨h.1.1.1, h.1.1.2, h.1.2, h.2⟩
end Go.Proofs.YtdbbdoldndnbhaaDoor

/- The laws' marks on records and logs by value. -/
namespace Go.Proofs.YtdbbdoldndnbhaaDoor
open Go.RowKit Go.Sort

theorem Own.alloc' {e : TypeId} {size : Nat} {w0 w : World} {v : Value} {n : Nat} {xs : List Value} (h : Own e size w0 w v n xs) (o : Obj) : Own e size w0 (w.alloc o) v n xs := World.ownsRow.alloc h o


end Go.Proofs.YtdbbdoldndnbhaaDoor

/- The walk of the law on DecodeRecord. -/
namespace Go.Proofs.YtdbbdoldndnbhaaDoor
open Go.RowKit Go.Sort

theorem heap_lt {w : World} {g : Nat} {o : Obj} (h : w.heap[g]? = some o) : g < w.heap.size := (Array.getElem?_eq_some_iff.1 h).1
theorem heap_ext {w w' : World} {g : Nat} {o : Obj} (h : w.heap[g]? = some o) (e : Ext w w') : w'.heap[g]? = some o := (Below.block e g (heap_lt h)).trans h
theorem heap_grown {w w' : World} {g : Nat} {o : Obj} {row : Option Nat} (h : w.heap[g]? = some o) (hg : w.grownBy w' row) (hne : some g ≠ row) : w'.heap[g]? = some o := (hg.block g (heap_lt h) hne).trans h
theorem heap_new (w : World) (o : Obj) : (w.alloc o).heap[w.heap.size]? = some o := heap_alloc_new w o
theorem boxed_at {w w' : World} {g : Nat} {cs : Array Value} {T : TypeId} (h : w.heap[g]? = some (.cells cs T (0, 0))) (e : Ext w w') (i : Nat) : w'.cell? ⟨g, i, none⟩ = cs[i]? := cell_of_row w' g i cs T (0, 0) (heap_ext h e)
theorem OwnL.ne {α : Type} {f : α → Value} {e : TypeId} {w0 w : World} {v : Value} {l : List α} (h : OwnL f e w0 w v l) {g : Nat} (hg : w.heap.size ≤ g) : some g ≠ v.ownBlock := by
  intro he; have := (World.ownsRow.lt h g he.symm).2; omega

theorem dec_len (b : List UInt8) (a : Int) : ((dec b a).getD .zero).l.length ≤ 400 := by
  unfold dec
  split
  · simp [DRec.zero]
  · cases hd : decN b a.toNat with
    | none => simp [DRec.zero]
    | some r => have := validRec_facts (decN_some hd).2.1; simp only [Option.getD_some]; omega

end Go.Proofs.YtdbbdoldndnbhaaDoor

/- ReadRecords and CountRecords of the program and of the reference. -/
namespace Go.Proofs.YtdbbdoldndnbhaaDoor
open Go.RowKit Go.Sort

/-- the cells of records, each with its data's slice -/
def rcells (p : DRec × Value) : List Value := [.int .i64 p.1.k, .string p.1.nm, .int .i64 p.1.ver, p.2]
theorem rcells_len (ps : List (DRec × Value)) : (ps.flatMap rcells).length = ps.length * 4 := by
  induction ps with
  | nil => rfl
  | cons p t ih => rw [List.flatMap_cons, List.length_append, ih, List.length_cons]; simp [rcells]; omega
/-- no two of the values lie in one block -/
def Apart (vs : List Value) : Prop := vs.Pairwise fun a b => ∀ g, a.ownBlock = some g → b.ownBlock ≠ some g
/-- records that the call since w0 made, each with data of its own -/
def OwnR (w0 w : World) (v : Value) (ps : List (DRec × Value)) : Prop :=
  Own 49 4 w0 w v ps.length (ps.flatMap rcells) ∧ (∀ p ∈ ps, OwnL vu8 5 w0 w p.2 p.1.l) ∧ Apart (v :: ps.map Prod.snd)
theorem OwnR.ext {w0 w w' : World} {v : Value} {ps : List (DRec × Value)} (h : OwnR w0 w v ps) (e : Ext w w') : OwnR w0 w' v ps :=
  ⟨Own.ext h.1 e, fun p hp => OwnL.ext (h.2.1 p hp) e, h.2.2⟩
theorem OwnR.lower {w0 w1 w : World} {v : Value} {ps : List (DRec × Value)} (h : OwnR w1 w v ps) (e : Ext w0 w1) : OwnR w0 w v ps :=
  ⟨World.ownsRow.lower h.1 e.size, fun p hp => OwnL.lower (h.2.1 p hp) e, h.2.2⟩
theorem OwnR.shape {w0 w : World} {v : Value} {ps : List (DRec × Value)} (h : OwnR w0 w v ps) : ∃ A c, v = .slice A ps.length c := by
  rcases h.1.2 with ⟨rfl, hn⟩ | ⟨g, cap, _, rfl, _⟩
  · exact ⟨none, 0, by rw [hn]⟩
  · exact ⟨_, _, rfl⟩
/-- a row behind an append: the same block, or the newest -/
theorem OwnR.push {w0 w1 w2 : World} {v v' : Value} {ps : List (DRec × Value)} {p : DRec × Value} (h : OwnR w0 w1 v ps) (hp : OwnL vu8 5 w0 w1 p.2 p.1.l)
    (hnew : ∀ q ∈ ps, ∀ g, q.2.ownBlock = some g → p.2.ownBlock ≠ some g) (hv : ∀ g, v.ownBlock = some g → p.2.ownBlock ≠ some g)
    (ho : Own 49 4 w0 w2 v' (ps.length + 1) (ps.flatMap rcells ++ rcells p)) (hb : v'.ownBlock = v.ownBlock ∨ v'.ownBlock = some w1.heap.size) (hg : w1.grownBy w2 v.ownBlock) : OwnR w0 w2 v' (ps ++ [p]) := by
  have hap := h.2.2
  unfold Apart at hap
  rw [List.pairwise_cons] at hap
  refine ⟨by simpa [List.flatMap_append, List.flatMap_cons] using ho, ?_, ?_⟩
  · intro q hq
    have hlast : ∀ q : DRec × Value, OwnL vu8 5 w0 w1 q.2 q.1.l → (∀ g, v.ownBlock = some g → q.2.ownBlock ≠ some g) → OwnL vu8 5 w0 w2 q.2 q.1.l := by
      intro q hq hne
      refine World.ownsRow.kept hq hg ?_
      cases hb' : q.2.ownBlock with
      | none => exact .inl rfl
      | some g => right; intro hvv; exact hne g hvv.symm hb'
    rcases List.mem_append.1 hq with hq | hq
    · exact hlast q (h.2.1 q hq) (fun g hg => hap.1 q.2 (List.mem_map_of_mem hq) g hg)
    · rw [List.mem_singleton.1 hq]; exact hlast p hp hv
  · have hlt : ∀ q ∈ ps ++ [p], ∀ g, q.2.ownBlock = some g → g < w1.heap.size := by
      intro q hq g hg'
      rcases List.mem_append.1 hq with hq | hq
      · exact OwnL.block (h.2.1 q hq) g hg'
      · rw [List.mem_singleton.1 hq] at hg'; exact OwnL.block hp g hg'
    have hne : ∀ q ∈ ps ++ [p], ∀ g, v.ownBlock = some g → q.2.ownBlock ≠ some g := by
      intro q hq g hg'
      rcases List.mem_append.1 hq with hq | hq
      · exact hap.1 q.2 (List.mem_map_of_mem hq) g hg'
      · rw [List.mem_singleton.1 hq]; exact hv g hg'
    unfold Apart
    rw [List.pairwise_cons, List.map_append, List.pairwise_append]
    refine ⟨?_, hap.2, by simp, ?_⟩
    · intro u hu g hg' hu'
      rw [← List.map_append] at hu
      obtain ⟨q, hq, rfl⟩ := List.mem_map.1 hu
      rcases hb with hb | hb
      · rw [hb] at hg'; exact hne q hq g hg' hu'
      · rw [hb] at hg'; injection hg' with hg'; subst hg'; exact absurd (hlt q hq _ hu') (Nat.lt_irrefl _)
    · intro u hu u' hu' g hg' hg''
      obtain ⟨q, hq, rfl⟩ := List.mem_map.1 hu
      have : u' = p.2 := by simpa using hu'
      subst this
      exact hnew q hq g hg' hg''

section
variable {P : Program} {ops : Array Oper} {rest : List Oper} {o : Oper} {a : Act} {Q : Exit → Act → World → Prop}
/-- append(s, x1, .., xm), with what becomes of the block -/
theorem wpList_appB (hgd : o.guard = none) (s x : Operand) (t : TypeId) (ho : o.op = .call { callee := .builtin .append, args := #[s, x], argTypes := #[t, t] })
    {e : TypeId} {size bytes : Nat} {z : Value} (hE : Elem P t e size bytes z) (w0 w : World) (v : Value) (n : Nat) (xs : List Value) (hs : a.eval s = v) (hown : Own e size w0 w v n xs)
    (he : Ext w0 w) (news : List Value) (cs : Array Value) (hcs : cs = news.toArray) (m c g : Nat) (hx : a.eval x = .slice (some ⟨g, 0, none⟩) m c) (hgw : g = w.heap.size) (hl : news.length = m * size) (h1 : ∀ u ∈ news, u.oneCell' = true)
    (hm : n + m ≤ maxLen) (hb : (n + m) * bytes ≤ 140737488355328)
    (h : ∀ v' w', Own e size w0 w' v' (n + m) (xs ++ news) → Ext w0 w' → (v'.ownBlock = v.ownBlock ∨ v'.ownBlock = some (w.alloc (.cells cs e)).heap.size) → (w.alloc (.cells cs e)).grownBy w' v.ownBlock → wpList P ops Q rest (a.put o.dst v') w') :
    wpList P ops Q (o :: rest) a (w.alloc (.cells cs e)) := by
  subst hcs; subst hgw
  refine wpList_app_any hgd s x t ho hE w0 _ v n xs hs (World.ownsRow.alloc hown _) (Ext_alloc _ he) news (some ⟨w.heap.size, 0, none⟩) m c hx hl (fun _ => ⟨_, rfl, fun j u hj => ?_⟩) h1 hm hb h
  rw [World.cell?_alloc_at']; exact hj
end


end Go.Proofs.YtdbbdoldndnbhaaDoor

/- Logs: CountRecords, IsValidLog of the reference, copies. -/
namespace Go.Proofs.YtdbbdoldndnbhaaDoor
open Go.RowKit Go.Sort



/-- a block of two cells, written one by one -/
theorem stored2 {w1 : World} {g : Nat} {x0 x1 : Value} (h : ∀ i, w1.cell? ⟨g, i, none⟩ = #[x0, x1][i]?) :
    (∀ y0, (w1.setCell ⟨g, 0, none⟩ y0).cell? ⟨g, 0, none⟩ = some y0) ∧ (∀ y0 y1, ((w1.setCell ⟨g, 0, none⟩ y0).setCell ⟨g, 1, none⟩ y1).cell? ⟨g, 1, none⟩ = some y1) := by
  have h0 := h 0; have h1 := h 1
  simp at h0 h1
  refine ⟨fun y0 => ?_, fun y0 y1 => ?_⟩
  · apply World.cell?_setCell_same; exact h0
  · apply World.cell?_setCell_same (u := x1); simp [World.cell?_setCell_other, h1]


theorem Rd.take {α : Type} {f : α → Value} {w : World} {A : Option Addr} {l : List α} {c : Nat} (h : Rd f w A l c) (n : Nat) : Rd f w A (l.take n) c := by
  have hn : (l.take n).length ≤ l.length := by simp; omega
  refine ⟨⟨by have := h.cap; omega, by have := h.1.2.1; omega, fun hp => ?_⟩, by have := h.len; omega⟩
  obtain ⟨b, off, h1, h2, h3⟩ := h.base (by omega)
  refine ⟨b, off, h1, h2, fun w' e i hi => ?_⟩
  rw [h3 w' e i (by omega)]
  simp
theorem Rd.none {α : Type} {f : α → Value} {l : List α} (hl : l.length = 0) (w : World) (A : Option Addr) (c : Nat) : Rd f w A l c := ⟨⟨by omega, by omega, fun h => by omega⟩, by omega⟩
end Go.Proofs.YtdbbdoldndnbhaaDoor

/- IsValidLog of the program: the scan that panics, and the deferred closure that recovers. -/
namespace Go.Proofs.YtdbbdoldndnbhaaDoor
open Go.RowKit Go.Sort

section
variable {P : Program}
theorem run_ta_hit (w : World) (t xT : TypeId) (fs : Array Field) (v : Value) (h : P.underlying t = some (.struct fs)) : (Instr.typeAssert (.iface t v) xT t true).run P w = .ok (.tuple #[v, .bool true]) w := by
  simp [Instr.typeAssert, run_underlying h, go_sem, Result.andThen]
theorem run_ta_nil (w : World) (t xT : TypeId) (fs : Array Field) (z : Value) (h : P.underlying t = some (.struct fs)) (hz : (P.info? t).map (·.zero) = some (some z)) : (Instr.typeAssert .nilIface xT t true).run P w = .ok (.tuple #[z, .bool false]) w := by
  obtain ⟨j, hj, hz'⟩ := Option.map_eq_some_iff.1 hz
  simp [Instr.typeAssert, run_underlying h, zeroValue, typeInfo, hj, hz']
end
end Go.Proofs.YtdbbdoldndnbhaaDoor

/- StoreLog, CrashLog and AppendRecord of the program and of the reference. -/
namespace Go.Proofs.YtdbbdoldndnbhaaDoor
open Go.RowKit Go.Sort

theorem grown_setCell (w : World) (a : Addr) (u : Value) : w.grownBy (w.setCell a u) (some a.block) :=
  ⟨rfl, rfl, rfl, by simp, fun k _ hk => heap_setCell_other w a k u (fun e => hk (by rw [e]))⟩
/-- a row of the call's own stays where another block is written -/
theorem OwnL.set {α : Type} {f : α → Value} {e : TypeId} {w0 w : World} {v : Value} {l : List α} (h : OwnL f e w0 w v l) (p : Addr) (u : Value) (hne : v.ownBlock ≠ some p.block) : OwnL f e w0 (w.setCell p u) v l := by
  refine World.ownsRow.kept h (grown_setCell w p u) ?_
  cases hb : v.ownBlock with
  | none => exact .inl rfl
  | some g => right; rw [hb] at hne; exact fun he => hne he
theorem OwnL.lt_ne {α : Type} {f : α → Value} {e : TypeId} {w0 w : World} {v : Value} {l : List α} (h : OwnL f e w0 w v l) {b : Nat} (hb : b < w0.heap.size ∨ w.heap.size ≤ b) : v.ownBlock ≠ some b := by
  intro hv
  have h1 := World.ownsRow.lt h b hv
  omega
theorem OwnL.take {α : Type} {f : α → Value} {e : TypeId} {w0 w : World} {A : Option Addr} {n c : Nat} {l : List α} (h : OwnL f e w0 w (.slice A l.length c) l) (hn : n ≤ l.length) : OwnL f e w0 w (.slice A n c) (l.take n) := by
  have hl : (l.take n).length = n := by simp; omega
  unfold OwnL
  rw [hl]
  refine ⟨by simpa using hl, ?_⟩
  rcases h.2 with ⟨hv, h0⟩ | ⟨g, cap, cur, hv, hb, hg, hnc, hcm, hcs, htake⟩
  · injection hv with h1 _ h3
    subst h1; subst h3
    exact .inl ⟨by rw [show n = 0 by omega], by omega⟩
  · injection hv with h1 _ h3
    subst h1; subst h3
    refine .inr ⟨g, c, cur, rfl, hb, hg, by omega, hcm, hcs, ?_⟩
    have : (cur.toList.take (l.length * 1)).take n = (l.map f).take n := by rw [htake]
    rw [List.take_take, Nat.min_eq_left (by omega)] at this
    rw [Nat.mul_one, this, List.map_take]
/-- what is stored behind StoreLog -/
def storeAt (l : List UInt8) (s : Int) : Int := if validLog l s then l.length else s


/-- where a crashed log is cut, what is stored of it -/
def keptOf (l : List UInt8) (s k : Int) : Nat := (min (max k s) (l.length : Int)).toNat
def crashEnd (l : List UInt8) (s k : Int) : Nat := if validLog l s then stop (l.take (keptOf l s k)) 0 else l.length
def crashAt (l : List UInt8) (s k : Int) : Int := if validLog l s then stop (l.take (keptOf l s k)) 0 else s
theorem keptOf_facts {l : List UInt8} {s k : Int} (h : validLog l s = true) : keptOf l s k ≤ l.length ∧ (if (l.length : Int) < (if k < s then s else k) then (l.length : Int) else (if k < s then s else k)) = (keptOf l s k : Int) ∧
    (if s < (if (l.length : Int) < k then (l.length : Int) else k) then (if (l.length : Int) < k then (l.length : Int) else k) else s) = (keptOf l s k : Int) := by
  have hf := validLog_facts h
  unfold keptOf
  refine ⟨by omega, ?_, ?_⟩
  · split <;> split <;> omega
  · split <;> split <;> omega
theorem crashEnd_le {l : List UInt8} {s k : Int} (h : validLog l s = true) : stop (l.take (keptOf l s k)) 0 ≤ l.length := by
  have h1 := (stop_le (b := l.take (keptOf l s k)) (a := 0) (by omega)).1
  rw [List.length_take] at h1; omega


end Go.Proofs.YtdbbdoldndnbhaaDoor

/- Plain laws: packed bytes are unpacked, and are never much longer. No program in sight. -/
namespace Go.Proofs.YtdbbdoldndnbhaaDoor

theorem take_replicate_of {l : List UInt8} {a M : Nat} (ha : a < l.length) (h : ∀ j, j < M → l[a+j]? = l[a]?) : (l.drop a).take M = List.replicate M l[a] := by
  have hx : l[a]? = some l[a] := by simp [ha]
  rw [hx] at h
  have hM : ∀ j, j < M → a + j < l.length := fun j hj => by
    have := h j hj
    rcases Nat.lt_or_ge (a + j) l.length with h' | h'
    · exact h'
    · rw [List.getElem?_eq_none h'] at this; cases this
  have hMl : M ≤ l.length - a := by
    rcases Nat.eq_zero_or_pos M with h0 | h0
    · omega
    · have := hM (M - 1) (by omega); omega
  apply List.ext_getElem?
  intro j
  rw [List.getElem?_take, List.getElem?_replicate]
  by_cases hj : j < M
  · rw [if_pos hj, if_pos hj, List.getElem?_drop, h j hj]
  · rw [if_neg hj, if_neg hj]
theorem ofNat_toNat_lt {n : Nat} (h : n < 256) : (UInt8.ofNat n).toNat = n := by rw [UInt8.toNat_ofNat']; omega
theorem unpackF_run {f : Nat} {x y : UInt8} {t out : List UInt8} (h : 128 < x.toNat) (hl : out.length + (x.toNat - 128) ≤ 1000) :
    unpackF (f + 1) (x :: y :: t) out = unpackF f t (out ++ List.replicate (x.toNat - 128) y) := by
  have h0 : ¬ (x = 0 ∨ x = 128 ∨ (y :: t) = []) := by
    rintro (h0 | h0 | h0)
    · subst h0; simp at h
    · subst h0; simp at h
    · cases h0
  have h1 : ¬ x < 128 := by rw [UInt8.lt_iff_toNat_lt]; simp; omega
  rw [unpackF, if_neg h0, if_neg h1, if_neg (by rw [List.length_append, List.length_replicate]; simpa using hl)]
  rfl
theorem unpackF_lit {f : Nat} {x : UInt8} {p t out : List UInt8} (h0 : 0 < x.toNat) (h : x.toNat < 128) (hp : p.length = x.toNat) (hl : out.length + x.toNat ≤ 1000) :
    unpackF (f + 1) (x :: (p ++ t)) out = unpackF f t (out ++ p) := by
  have h1 : ¬ (x = 0 ∨ x = 128 ∨ (p ++ t) = []) := by
    rintro (h1 | h1 | h1)
    · subst h1; simp at h0
    · subst h1; simp at h
    · have := congrArg List.length h1; simp only [List.length_append, List.length_nil] at this; omega
  have h2 : x < 128 := by rw [UInt8.lt_iff_toNat_lt]; simpa using h
  have e1 : (p ++ t).take x.toNat = p := by rw [← hp]; simp
  have e2 : (p ++ t).drop x.toNat = t := by rw [← hp]; simp
  have h3 : ¬ (p ++ t).length < x.toNat := by rw [List.length_append]; omega
  have h4 : ¬ 1000 < (out ++ p).length := by rw [List.length_append]; omega
  rw [unpackF, if_neg h1, if_pos h2, if_neg h3, e1, e2, if_neg h4]
theorem unpackF_pack (l : List UInt8) (hl : l.length ≤ 1000) : ∀ n a f, l.length - a ≤ n → a ≤ l.length → (packAt l a).length ≤ f → unpackF f (packAt l a) (l.take a) = some l := by
  intro n
  induction n with
  | zero =>
    intro a f h1 h2 _
    obtain rfl : a = l.length := by omega
    rw [packAt_end (Nat.le_refl _), List.take_length]
    cases f <;> rfl
  | succ n ih =>
    intro a f h1 h2 hf
    by_cases ha : a < l.length
    · obtain ⟨r1, r2, r3, _⟩ := runAt_spec l a ha
      by_cases hr : 3 ≤ runAt l a
      · rw [packAt_run ha hr] at hf ⊢
        generalize hM : min (runAt l a) 127 = M at *
        have hx : (UInt8.ofNat (128 + M)).toNat = 128 + M := ofNat_toNat_lt (by omega)
        obtain ⟨f, rfl⟩ : ∃ g, f = g + 1 := ⟨f - 1, by simp at hf; omega⟩
        have e1 : 128 + M - 128 = M := by omega
        rw [unpackF_run (by rw [hx]; omega) (by rw [hx, List.length_take]; omega), hx, e1]
        rw [← take_replicate_of ha (fun j hj => r3 j (by omega)), ← List.take_add]
        exact ih (a + M) f (by omega) (by omega) (by simp at hf; omega)
      · rw [packAt_lit ha hr] at hf ⊢
        have h3 := litEnd_ge l a (a+1)
        have h4 := litEnd_le (l := l) (a := a) (k := a+1) (by omega) (by omega)
        rw [← litEnd_gt ha (by omega)] at h3 h4
        generalize litEnd l a a = E at *
        have hx : (UInt8.ofNat (E - a)).toNat = E - a := ofNat_toNat_lt (by omega)
        obtain ⟨f, rfl⟩ : ∃ g, f = g + 1 := ⟨f - 1, by simp at hf; omega⟩
        rw [unpackF_lit (by rw [hx]; omega) (by rw [hx]; omega) (by rw [hx, List.length_take, List.length_drop]; omega) (by rw [hx, List.length_take]; omega)]
        rw [← List.take_add, show a + (E - a) = E by omega]
        exact ih E f (by omega) (by omega) (by simp at hf; omega)
    · obtain rfl : a = l.length := by omega
      rw [packAt_end (Nat.le_refl _), List.take_length]
      cases f <;> rfl
/-- packed bytes are unpacked -/
theorem unpack_pack (l : List UInt8) (hl : l.length ≤ 1000) : unpack (pack l) = some l := by
  have := unpackF_pack l hl l.length 0 (pack l).length (by omega) (by omega) (Nat.le_refl _)
  simpa [unpack, pack] using this
theorem packAt_short (l : List UInt8) : ∀ n a, l.length - a ≤ n → a ≤ l.length → (packAt l a).length ≤ (l.length - a) + (l.length - a) / 127 + 1 := by
  intro n
  induction n using Nat.strongRecOn with
  | _ n ih =>
    intro a h1 h2
    by_cases ha : a < l.length
    · obtain ⟨r1, r2, r3, _⟩ := runAt_spec l a ha
      by_cases hr : 3 ≤ runAt l a
      · rw [packAt_run ha hr]
        generalize hM : min (runAt l a) 127 = M at *
        have := ih (l.length - (a + M)) (by omega) (a + M) (by omega) (by omega)
        simp only [List.length_cons]
        omega
      · rw [packAt_lit ha hr]
        have h3 := litEnd_ge l a (a+1)
        have h4 := litEnd_le (l := l) (a := a) (k := a+1) (by omega) (by omega)
        rw [← litEnd_gt ha (by omega)] at h3 h4
        have hstop := litEnd_final l a
        generalize litEnd l a a = E at *
        simp only [List.length_cons, List.length_append, List.length_take, List.length_drop]
        by_cases hE : E < l.length
        · by_cases hE2 : E - a < 127
          · have hr2 : 3 ≤ runAt l E := by
              rcases Nat.lt_or_ge (runAt l E) 3 with h | h
              · exact absurd ⟨hE, hE2, h⟩ (hstop ha (by omega))
              · exact h
            obtain ⟨q1, q2, _, _⟩ := runAt_spec l E hE
            rw [packAt_run hE hr2]
            generalize hM : min (runAt l E) 127 = M at *
            have := ih (l.length - (E + M)) (by omega) (E + M) (by omega) (by omega)
            simp only [List.length_cons]
            omega
          · have := ih (l.length - E) (by omega) E (by omega) (by omega)
            omega
        · obtain rfl : E = l.length := by omega
          rw [packAt_end (Nat.le_refl _)]
          simp
    · rw [packAt_end (by omega)]; simp
where
  litEnd_final (l : List UInt8) (a : Nat) : a < l.length → runAt l a < 3 → ¬ (litEnd l a a < l.length ∧ litEnd l a a - a < 127 ∧ runAt l (litEnd l a a) < 3) := by
    intro ha _
    have key : ∀ f k, l.length - k ≤ f → k ≤ l.length → ¬ (litF l a f k < l.length ∧ litF l a f k - a < 127 ∧ runAt l (litF l a f k) < 3) := by
      intro f
      induction f with
      | zero => intro k h1 h2; rw [litF]; omega
      | succ f ih =>
        intro k h1 h2
        rw [litF]
        by_cases hc : k < l.length ∧ k - a < 127 ∧ runAt l k < 3
        · rw [if_pos hc]; exact ih (k+1) (by omega) (by omega)
        · rw [if_neg hc]; exact hc
    exact key (l.length - a) a (Nat.le_refl _) (by omega)
theorem pack_short (l : List UInt8) : (pack l).length ≤ l.length + l.length / 127 + 1 := packAt_short l l.length 0 (by omega) (by omega)
end Go.Proofs.YtdbbdoldndnbhaaDoor

/- The drawn bytes of unpacking. -/
namespace Go.Proofs.YtdbbdoldndnbhaaDoor
open Go.RowKit Go.Sort

theorem grown_new {w w1 : World} {p : Nat} (h : w.grownBy w1 (some p)) {a : Addr} (hb : w.heap.size ≤ a.block) (u : Value) : w.grownBy (w1.setCell a u) (some p) :=
  ⟨h.os, h.tape, h.output, by simpa using h.size, fun k hk hne => (heap_setCell_other w1 a k u (by omega)).trans (h.block k hk hne)⟩
theorem ownBlock_len (A : Option Addr) (m n c : Nat) : (Value.slice A m c).ownBlock = (Value.slice A n c).ownBlock := by cases A <;> rfl
theorem Cur.set {wb w : World} {p : Nat} {A : Option Addr} {l : List UInt8} {c : Nat} (h : Cur wb w p A l c) {a : Addr} (hne : a.block ≠ p) (hb : wb.heap.size ≤ a.block) (u : Value) : Cur wb (w.setCell a u) p A l c :=
  h.kept (grown_set w a u) (by intro hh; injection hh with hh; exact hne hh) (h.2.1.setCell hb u)
set_option maxHeartbeats 1000000 in
theorem l1IntLit_c (ns : List Int) (hns : 0 < ns.length) (hns2 : ns.length ≤ 256) (n : Nat) (hn : n = ns.length) (cs : Array Value) (hcs : cs = (ns.map vint).toArray) (wb w : World) (p : Nat) (A : Option Addr) (l : List UInt8) (c : Nat) (hA : Bs wb A l c) (hC : Cur wb w p A l c) :
    Calls Tryd.prog 108 #[.pointer (some ⟨p, 0, none⟩), .slice (some ⟨w.heap.size, 0, none⟩) n n] (w.alloc (.cells cs 3)) fun e w' => ∃ x ∈ ns, e = .returned (.int .i64 x) ∧ Cur wb w' p A l c ∧ w.grownBy w' (some p) := by
  subst hn; subst hcs
  have hC' := hC.ext (Ext_alloc (.cells (ns.map vint).toArray 3) (Ext.refl w))
  have hlt := hC.lt
  refine (l1Int_c (some ⟨w.heap.size, 0, none⟩) ns ns.length hns hns2 wb _ p A l c hA hC' ?_).mono ?_
  · intro w' hg i hi
    refine ⟨w.heap.size, 0, rfl, ?_⟩
    have h0 := boxed (Ext.refl (w.alloc (.cells (ns.map vint).toArray 3))) (0 + i)
    refine hg.cell (a := ⟨w.heap.size, 0 + i, none⟩) (h0.trans ?_) (by intro hh; injection hh with hh; simp at hh; omega)
    rw [Nat.zero_add]
    simp [vint, hi]
  · rintro e w' ⟨x, hx, he, hC1, hg⟩
    exact ⟨x, hx, he, hC1, (World.grownBy_alloc w _ _).trans hg⟩
end Go.Proofs.YtdbbdoldndnbhaaDoor
