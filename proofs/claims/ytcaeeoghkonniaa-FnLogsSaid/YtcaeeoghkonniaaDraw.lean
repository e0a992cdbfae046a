/- The cursor of the draws: what it hands back is within its bounds; of memory only its own block turns. -/
import Derived.Test.YtcaeeoghkonniaaEnc
import Derived.Test.YtcaeeoghkonniaaBox
import Derived.Laws.BitsLemmas
namespace Go.Proofs.Ytcaeeoghkonniaa
open Go.RowKit Go.Sort

theorem i64_and255 (n : Int) : bits .and .i64 n 255 = n % 256 := by
  have h255 : (BitVec.ofInt 64 255).toNat = 2 ^ 8 - 1 := by decide
  have key : (BitVec.ofInt 64 n &&& BitVec.ofInt 64 255).toNat = (n % ((2 ^ 64 : Nat) : Int)).toNat % 2 ^ 8 := by
    rw [BitVec.toNat_and, BitVec.toNat_ofInt, h255, Nat.and_two_pow_sub_one_eq_mod]
  show IntKind.i64.wrap ((BitVec.ofInt 64 n &&& BitVec.ofInt 64 255).toNat : Nat) = n % 256
  rw [key, IntKind.wrap_i64]
  omega
theorem i64_and30 (n : Int) : bits .and .i64 n 1073741823 = n % 1073741824 := by
  have h255 : (BitVec.ofInt 64 1073741823).toNat = 2 ^ 30 - 1 := by decide
  have key : (BitVec.ofInt 64 n &&& BitVec.ofInt 64 1073741823).toNat = (n % ((2 ^ 64 : Nat) : Int)).toNat % 2 ^ 30 := by
    rw [BitVec.toNat_and, BitVec.toNat_ofInt, h255, Nat.and_two_pow_sub_one_eq_mod]
  show IntKind.i64.wrap ((BitVec.ofInt 64 n &&& BitVec.ofInt 64 1073741823).toNat : Nat) = n % 1073741824
  rw [key, IntKind.wrap_i64]
  omega
/-- a cursor over bytes that were there in wb, its block laid since -/
def Cur (wb w : World) (p : Nat) (A : Option Addr) (l : List UInt8) (c : Nat) : Prop :=
  wb.heap.size ≤ p ∧ Ext wb w ∧ ∃ (i : Nat) (h : Int), i ≤ l.length ∧ w.heap[p]? = some (.cells #[.slice A l.length c, .int .i64 i, .int .i64 h] 63 (0, 0))
set_option maxRecDepth 100000 in
set_option maxHeartbeats 1000000 in
theorem l1New_c (A : Option Addr) (l : List UInt8) (c : Nat) (w : World) (hA : Bs w A l c) :
    Calls Try.prog 19 #[.slice A l.length c] w fun e w' => ∃ p, e = .returned (.pointer (some ⟨p, 0, none⟩)) ∧ Cur w w' p A l c := by
  have hl := hA.len
  have H30 : ∀ n : Int, bits .and .i64 n 1073741823 = n % 1073741824 := i64_and30
  go_enter Try.func19, Try.ntmps19
  go_wp2
  go_loopw [3, 4] (fun h i wr => ∃ (k : Nat) (x : Int), k ≤ l.length ∧ i = .int .i64 k ∧ h = .int .i64 x ∧ 0 ≤ x ∧ x ≤ 140737488551232 ∧ Ext w wr) (fun _ i _ => l.length - (intOf i).toNat)
  case atStart => exact ⟨0, _, by omega, rfl, rfl, by omega, by omega, Ext.refl _⟩
  case round =>
    obtain ⟨k, x, hk, rfl, rfl, hx1, hx2, he⟩ := hrel
    by_cases hlt : k < l.length ∧ k < 4000
    · obtain ⟨hlt, h4⟩ := hlt
      obtain ⟨b, off, rfl, hb, hc⟩ := hA.at k hlt
      have h8 := l[k].toNat_lt
      clear hA
      go_wp2
      go_roundw
      case rel => exact ⟨k + 1, _, by omega, by go_num, rfl, Int.emod_nonneg _ (by omega), by have := Int.emod_lt_of_pos (x * 137 + (l[k].toNat : Int) + 11) (show (0 : Int) < 1073741824 by omega); omega, he⟩
      case measure => simp [intOf]; omega
    · by_cases h1 : k < l.length
      all_goals
        go_wp2
        go_ret
        refine ⟨_, rfl, he.size, Ext_alloc _ he, 0, x, by omega, ?_⟩
        exact heap_alloc_new wr _

set_option maxRecDepth 100000 in
set_option maxHeartbeats 2000000 in
theorem l1Byte_c (wb w : World) (p : Nat) (A : Option Addr) (l : List UInt8) (c : Nat) (hA : Bs wb A l c) (hC : Cur wb w p A l c) :
    Calls Try.prog 39 #[.pointer (some ⟨p, 0, none⟩)] w fun e w' => ∃ x : Nat, x < 256 ∧ e = .returned (.int .i64 x) ∧ Cur wb w' p A l c ∧ w.grownBy w' (some p) := by
  have hl := hA.len
  obtain ⟨hp, he, i, h, hi, hh⟩ := hC
  have H255 : ∀ n : Int, bits .and .i64 n 255 = n % 256 := i64_and255
  have c0 := cell_of_row w p 0 _ _ (0, 0) hh
  have c1 := cell_of_row w p 1 _ _ (0, 0) hh
  have c2 := cell_of_row w p 2 _ _ (0, 0) hh
  have f2 := frozen_of_row w p 2 _ _ hh
  simp at c0 c1 c2
  have hu : ∀ u : Int, (w.setCell ⟨p, 2, none⟩ (.int .i64 u)).heap[p]? = some (.cells #[.slice A l.length c, .int .i64 i, .int .i64 u] 63 (0, 0)) := fun u => heap_setCell_same w p 2 _ _ (.int .i64 u) hh
  have HU := Lib.hid hu
  have HE : Hid (∀ u : Int, Ext wb (w.setCell ⟨p, 2, none⟩ (.int .i64 u))) := fun u => he.setCell hp _
  have HG : Hid (∀ u : Int, w.grownBy (w.setCell ⟨p, 2, none⟩ (.int .i64 u)) (some p)) := fun u => grown_set w ⟨p, 2, none⟩ _
  clear hu hh
  by_cases hlt : i < l.length
  · obtain ⟨b, off, rfl, hb, hc⟩ := hA.at i hlt
    have h8 := l[i].toNat_lt
    have g1 : (i : Int) < (l.length : Int) := by omega
    have HC := Lib.hid hc
    clear hc hA
    go_enter Try.func39, Try.ntmps39
    go_wp2_with fail
    generalize wrap64 (wrap64 (h * 6364136223846793005) + 1442695040888963407) = U
    have hU := HU.out U; have hE := HE.out U; have hG := HG.out U
    generalize w.setCell ⟨p, 2, none⟩ (.int .i64 U) = W at *
    have K0 : ∀ w', Ext W w' → w'.cell? ⟨p, 0, none⟩ = some (.slice (some ⟨b, off, none⟩) l.length c) := fun w' e => by simpa using cell_of_row w' p 0 _ _ (0, 0) (heap_ext' hU e)
    have K1 : ∀ w', Ext W w' → w'.cell? ⟨p, 1, none⟩ = some (.int .i64 i) := fun w' e => by simpa using cell_of_row w' p 1 _ _ (0, 0) (heap_ext' hU e)
    have K2 : ∀ w', Ext W w' → w'.cell? ⟨p, 2, none⟩ = some (.int .i64 U) := fun w' e => by simpa using cell_of_row w' p 2 _ _ (0, 0) (heap_ext' hU e)
    have F1 : ∀ w', Ext W w' → w'.frozen? ⟨p, 1, none⟩ = false := fun w' e => frozen_of_row w' p 1 _ _ (heap_ext' hU e)
    have KC : ∀ w', Ext W w' → w'.cell? ⟨b, off + i, none⟩ = some (.int .u8 (l[i].toNat : Int)) := fun w' e => by
      have := HC.out w' (hE.trans e); simpa [vu8] using this
    have HUU := Lib.hid hU; have HEE := Lib.hid hE; have HGG := Lib.hid hG
    clear hU hE hG c0 c1 c2 f2
    refine wp_region_quiet_below (by kernel_rfl) (by kernel_rfl) ?_
    repeat (go_big_quiet_step (fail))
    refine wpQuiet_nil ?_
    rintro w1 ⟨⟨nq, osq⟩, hq⟩
    have ew1 := ext_of_q hq
    clear hq nq osq
    go_wp2_with fail
    refine wp_region_quiet_below (by kernel_rfl) (by kernel_rfl) ?_
    repeat (go_big_quiet_step (fail))
    refine wpQuiet_nil ?_
    rintro w2 ⟨⟨nq, osq⟩, hq⟩
    have ew2 := ext_of_q hq
    clear hq nq osq
    have e12 := ew1.trans ew2
    go_wp2_with fail
    refine wp_region_quiet_below (by kernel_rfl) (by kernel_rfl) ?_
    repeat (go_big_quiet_step (fail))
    refine wpQuiet_nil ?_
    rintro w3 ⟨⟨nq, osq⟩, hq⟩
    have ew3 := ext_of_q hq
    clear hq nq osq
    have e13 := e12.trans ew3
    go_wp2_with fail
    have hbd : ∀ n : Int, ∃ x : Nat, x < 256 ∧ n % 256 = (x : Int) := fun n => ⟨(n % 256).toNat, by have := Int.emod_nonneg n (show (256 : Int) ≠ 0 by omega); have := Int.emod_lt_of_pos n (show (0 : Int) < 256 by omega); omega, by have := Int.emod_nonneg n (show (256 : Int) ≠ 0 by omega); omega⟩
    obtain ⟨x, hx1, hx2⟩ := hbd (bits BinOp.xor IntKind.i64 (U / 8589934592) (U / 140737488355328) + ↑l[i].toNat)
    go_ret
    refine ⟨x, hx1, ret_i64 hx2, ⟨hp, (HEE.out.trans e13).setCell hp _, i + 1, U, by omega, ?_⟩, (HGG.out.trans (grown_ext e13 _)).trans (grown_set _ _ _)⟩
    have := heap_setCell_same w3 p 1 _ _ (.int .i64 ((i : Int) + 1)) (heap_ext' HUU.out e13)
    rw [this]
    rfl
  · have g1 : ¬ (i : Int) < (l.length : Int) := by omega
    go_enter Try.func39, Try.ntmps39
    go_wp2_with fail
    generalize wrap64 (wrap64 (h * 6364136223846793005) + 1442695040888963407) = U
    have hU := HU.out U; have hE := HE.out U; have hG := HG.out U
    generalize w.setCell ⟨p, 2, none⟩ (.int .i64 U) = W at *
    have K0 : ∀ w', Ext W w' → w'.cell? ⟨p, 0, none⟩ = some (.slice A l.length c) := fun w' e => by simpa using cell_of_row w' p 0 _ _ (0, 0) (heap_ext' hU e)
    have K1 : ∀ w', Ext W w' → w'.cell? ⟨p, 1, none⟩ = some (.int .i64 i) := fun w' e => by simpa using cell_of_row w' p 1 _ _ (0, 0) (heap_ext' hU e)
    have K2 : ∀ w', Ext W w' → w'.cell? ⟨p, 2, none⟩ = some (.int .i64 U) := fun w' e => by simpa using cell_of_row w' p 2 _ _ (0, 0) (heap_ext' hU e)
    have HUU := Lib.hid hU; have HEE := Lib.hid hE; have HGG := Lib.hid hG
    clear hU hE hG c0 c1 c2 f2
    refine wp_region_quiet_below (by kernel_rfl) (by kernel_rfl) ?_
    repeat (go_big_quiet_step (fail))
    refine wpQuiet_nil ?_
    rintro w1 ⟨⟨nq, osq⟩, hq⟩
    have ew1 := ext_of_q hq
    clear hq nq osq
    go_wp2_with fail
    refine wp_region_quiet_below (by kernel_rfl) (by kernel_rfl) ?_
    repeat (go_big_quiet_step (fail))
    refine wpQuiet_nil ?_
    rintro w2 ⟨⟨nq, osq⟩, hq⟩
    have ew2 := ext_of_q hq
    clear hq nq osq
    have e12 := ew1.trans ew2
    go_wp2_with fail
    have hbd : ∀ n : Int, ∃ x : Nat, x < 256 ∧ n % 256 = (x : Int) := fun n => ⟨(n % 256).toNat, by have := Int.emod_nonneg n (show (256 : Int) ≠ 0 by omega); have := Int.emod_lt_of_pos n (show (0 : Int) < 256 by omega); omega, by have := Int.emod_nonneg n (show (256 : Int) ≠ 0 by omega); omega⟩
    obtain ⟨x, hx1, hx2⟩ := hbd (bits BinOp.xor IntKind.i64 (U / 8589934592) (U / 140737488355328))
    go_ret
    exact ⟨x, hx1, ret_i64 hx2, ⟨hp, HEE.out.trans e12, i, U, by omega, heap_ext' HUU.out e12⟩, HGG.out.trans (grown_ext e12 _)⟩
/-- a number of a draw: 0 where n is not above 0, else below n -/
def below (n : Int) (x : Nat) : Prop := if n ≤ 0 then x = 0 else (x : Int) < n
set_option maxRecDepth 100000 in
set_option maxHeartbeats 1000000 in
theorem l1Below_c (n : Int) (wb w : World) (p : Nat) (A : Option Addr) (l : List UInt8) (c : Nat) (hA : Bs wb A l c) (hC : Cur wb w p A l c) (hn : n ≤ 16777216) :
    Calls Try.prog 22 #[.pointer (some ⟨p, 0, none⟩), .int .i64 n] w fun e w' => ∃ x : Nat, below n x ∧ e = .returned (.int .i64 x) ∧ Cur wb w' p A l c ∧ w.grownBy w' (some p) := by
  have CB := Lib.hid (fun w h => l1Byte_c wb w p A l c hA h)
  by_cases h0 : n ≤ 0
  · go_enter Try.func22, Try.ntmps22
    go_wp2
    go_ret
    exact ⟨0, by unfold below; rw [if_pos h0], rfl, hC, World.grownBy.refl _ _⟩
  · by_cases h1 : n ≤ 256
    · go_enter Try.func22, Try.ntmps22
      go_wp2_with fail
      refine (CB.out _ hC).mono ?_; rintro _ w1 ⟨x, hx, rfl, hC1, hg1⟩
      go_wp2
      go_ret
      refine ⟨((x : Int) % n).toNat, ?_, ?_, hC1, hg1⟩
      · unfold below; rw [if_neg (by omega)]; have := Int.emod_lt_of_pos (x : Int) (show 0 < n by omega); have := Int.emod_nonneg (x : Int) (show n ≠ 0 by omega); omega
      · have := Int.emod_nonneg (x : Int) (show n ≠ 0 by omega)
        exact ret_i64 (Int.toNat_of_nonneg this).symm
    · go_enter Try.func22, Try.ntmps22
      go_wp2_with fail
      refine (CB.out _ hC).mono ?_; rintro _ w1 ⟨x, hx, rfl, hC1, hg1⟩
      go_wp2_with fail
      refine (CB.out _ hC1).mono ?_; rintro _ w2 ⟨y, hy, rfl, hC2, hg2⟩
      go_wp2_with fail
      refine (CB.out _ hC2).mono ?_; rintro _ w3 ⟨z, hz, rfl, hC3, hg3⟩
      go_wp2
      go_ret
      have hq := Int.emod_nonneg ((x : Int) * 65536 + (y : Int) * 256 + (z : Int)) (show n ≠ 0 by omega)
      refine ⟨(((x : Int) * 65536 + (y : Int) * 256 + (z : Int)) % n).toNat, ?_, ?_, hC3, (hg1.trans hg2).trans hg3⟩
      · unfold below; rw [if_neg (by omega)]; have := Int.emod_lt_of_pos ((x : Int) * 65536 + (y : Int) * 256 + (z : Int)) (show 0 < n by omega); omega
      · exact ret_i64 (Int.toNat_of_nonneg hq).symm
set_option maxHeartbeats 1000000 in
theorem l1Once_c (n : Int) (wb w : World) (p : Nat) (A : Option Addr) (l : List UInt8) (c : Nat) (hA : Bs wb A l c) (hC : Cur wb w p A l c) (hn : n ≤ 16777216) :
    Calls Try.prog 54 #[.pointer (some ⟨p, 0, none⟩), .int .i64 n] w fun e w' => ∃ x : Bool, e = .returned (.bool x) ∧ Cur wb w' p A l c ∧ w.grownBy w' (some p) := by
  go_enter Try.func54, Try.ntmps54
  go_wp2_with fail
  refine (l1Below_c n wb w p A l c hA hC hn).mono ?_; rintro _ w1 ⟨x, hx, rfl, hC1, hg1⟩
  go_wp2
  go_ret
  exact ⟨_, rfl, hC1, hg1⟩
set_option maxRecDepth 100000 in
set_option maxHeartbeats 1000000 in
theorem l1Int_c (B : Option Addr) (ns : List Int) (cb : Nat) (hns : 0 < ns.length) (hns2 : ns.length ≤ 256) (wb w : World) (p : Nat) (A : Option Addr) (l : List UInt8) (c : Nat) (hA : Bs wb A l c) (hC : Cur wb w p A l c)
    (hk : ∀ w', w.grownBy w' (some p) → ∀ i (h : i < ns.length), ∃ b off, B = some ⟨b, off, none⟩ ∧ w'.cell? ⟨b, off + i, none⟩ = some (.int .i64 ns[i])) :
    Calls Try.prog 21 #[.pointer (some ⟨p, 0, none⟩), .slice B ns.length cb] w fun e w' => ∃ x ∈ ns, e = .returned (.int .i64 x) ∧ Cur wb w' p A l c ∧ w.grownBy w' (some p) := by
  have CB := Lib.hid (fun w h => l1Below_c ns.length wb w p A l c hA h (by omega))
  go_enter Try.func21, Try.ntmps21
  go_wp2_with fail
  refine (CB.out _ hC).mono ?_; rintro _ w1 ⟨x, hx, rfl, hC1, hg1⟩
  have hx' : x < ns.length := by unfold below at hx; rw [if_neg (by omega)] at hx; omega
  obtain ⟨b, off, rfl, hc⟩ := hk w1 hg1 x hx'
  go_wp2
  go_ret
  exact ⟨_, List.getElem_mem hx', rfl, hC1, hg1⟩
end Go.Proofs.Ytcaeeoghkonniaa
