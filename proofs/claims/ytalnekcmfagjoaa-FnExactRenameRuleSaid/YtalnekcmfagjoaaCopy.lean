/- Contracts of the laws' small functions over slices of bytes and ints: the copy, the comparison, the marks. -/
import Derived.Test.YtalnekcmfagjoaaBase
namespace Go.Proofs.Ytalnekcmfagjoaa
open Go.RowKit Go.Sort

theorem E_u8 : Elem Try.prog 48 5 1 1 (.int .u8 0) := ⟨Try.underlying48, by kernel_rfl, rfl, by omega⟩
theorem E_int : Elem Try.prog 68 3 1 8 (.int .i64 0) := ⟨Try.underlying68, by kernel_rfl, rfl, by omega⟩

theorem fill_step {α : Type} (f : α → Value) (l : List α) (z : Value) (k : Nat) (hk : k < l.length) :
    ((l.take k).map f ++ List.replicate (l.length - k) z).set k (f l[k]) = (l.take (k+1)).map f ++ List.replicate (l.length - (k+1)) z := by
  rw [List.take_succ_eq_append_getElem hk, List.map_append, List.set_append_right _ _ (by simp; omega)]
  have : l.length - k = (l.length - (k+1)) + 1 := by omega
  rw [this, List.replicate_succ]
  simp [Nat.min_eq_left (Nat.le_of_lt hk)]

set_option maxHeartbeats 400000 in
theorem toByteS_c (A : Option Addr) (l : List _) (c : Nat) (w : World) (h : Rd0 vu8 w A l c) (hL : l.length ≤ 1048576) :
    Calls Try.prog 80 #[.slice A l.length c] w fun e w' => ∃ v, e = .returned v ∧ Own 5 1 w w' v l.length (l.map vu8) ∧ Ext w w' := by
  go_enter Try.func80, Try.ntmps80
  go_wp2_with (first
    | (at_make; refine wpList_mk rfl _ _ _ rfl E_u8 w w (Ext.refl w) l.length rfl rfl (by omega) (by simp [maxLen]; omega) ?_; intro w1 ho he _))
  go_loopw [4] (fun i wr => ∃ k : Nat, k ≤ l.length ∧ i = .int .i64 k ∧ Own 5 1 w wr (.slice (some ⟨w.heap.size, 0, none⟩) l.length l.length) l.length ((l.take k).map vu8 ++ List.replicate (l.length - k) (.int .u8 0)) ∧ Ext w wr) (fun i _ => l.length - (intOf i).toNat)
  case atStart => exact ⟨0, by omega, rfl, by rw [made_one _ rfl] at ho; simpa using ho, he⟩
  case round =>
    clear ho he
    obtain ⟨k, hk, rfl, ho, he⟩ := hrel
    by_cases hlt : k < l.length
    · obtain ⟨b, off, rfl, hb, hc⟩ := h.at k hlt
      obtain ⟨⟨u0, hu⟩, hf⟩ := ho.slot k (by simp; omega)
      obtain ⟨ho', he'⟩ := ho.store he k (vu8 l[k])
      rw [fill_step vu8 l _ k hlt] at ho'
      clear h ho
      go_wp2
      go_roundw
      case rel => exact ⟨k+1, by omega, by go_num, ho', he'⟩
      case measure => simp [intOf]; omega
    · obtain rfl : k = l.length := by omega
      go_wp2
      go_ret
      exact ⟨_, rfl, by simpa using ho, he⟩

set_option maxHeartbeats 400000 in
theorem toIntS_c (A : Option Addr) (l : List _) (c : Nat) (w : World) (h : Rd0 vint w A l c) (hL : l.length ≤ 1048576) :
    Calls Try.prog 95 #[.slice A l.length c] w fun e w' => ∃ v, e = .returned v ∧ Own 3 1 w w' v l.length (l.map vint) ∧ Ext w w' := by
  go_enter Try.func95, Try.ntmps95
  go_wp2_with (first
    | (at_make; refine wpList_mk rfl _ _ _ rfl E_int w w (Ext.refl w) l.length rfl rfl (by omega) (by simp [maxLen]; omega) ?_; intro w1 ho he _))
  go_loopw [4] (fun i wr => ∃ k : Nat, k ≤ l.length ∧ i = .int .i64 k ∧ Own 3 1 w wr (.slice (some ⟨w.heap.size, 0, none⟩) l.length l.length) l.length ((l.take k).map vint ++ List.replicate (l.length - k) (.int .i64 0)) ∧ Ext w wr) (fun i _ => l.length - (intOf i).toNat)
  case atStart => exact ⟨0, by omega, rfl, by rw [made_one _ rfl] at ho; simpa using ho, he⟩
  case round =>
    clear ho he
    obtain ⟨k, hk, rfl, ho, he⟩ := hrel
    by_cases hlt : k < l.length
    · obtain ⟨b, off, rfl, hb, hc⟩ := h.at k hlt
      obtain ⟨⟨u0, hu⟩, hf⟩ := ho.slot k (by simp; omega)
      obtain ⟨ho', he'⟩ := ho.store he k (vint l[k])
      rw [fill_step vint l _ k hlt] at ho'
      clear h ho
      go_wp2
      go_roundw
      case rel => exact ⟨k+1, by omega, by go_num, ho', he'⟩
      case measure => simp [intOf]; omega
    · obtain rfl : k = l.length := by omega
      go_wp2
      go_ret
      exact ⟨_, rfl, by simpa using ho, he⟩

/-- the values that a marker lays from k on -/
def mk8 (k : Int) (i : Nat) : Value := .int .u8 (IntKind.u8.wrap (k + i))
def mkI (k : Int) (i : Nat) : Value := .int .i64 (k + i)
theorem mark_step (f : Nat → Value) (xs : List Value) (j n : Nat) (hn : xs.length = n) (hj : j < n) :
    ((List.range j).map f ++ xs.drop j).set j (f j) = (List.range (j+1)).map f ++ xs.drop (j+1) := by
  rw [List.set_append_right _ _ (by simp), List.range_succ, List.map_append, List.append_assoc]
  congr 1
  have e : xs.drop j = xs[j] :: xs.drop (j+1) := List.drop_eq_getElem_cons (by omega)
  rw [e]
  simp only [List.length_map, List.length_range, Nat.sub_self, List.set_cons_zero, List.map_cons, List.map_nil, List.cons_append, List.nil_append]
set_option maxHeartbeats 400000 in
theorem markByteS_c (A : Option Addr) (n c : Nat) (k : Int) (xs : List Value) (w0 w : World) (ho : Own 5 1 w0 w (.slice A n c) n xs) (hk : 0 ≤ k) (hk2 : k + n ≤ 1099511627776) :
    Calls Try.prog 71 #[.slice A n c, .int .i64 k] w fun e w' => e = .returned (.int .i64 (k + n)) ∧ Own 5 1 w0 w' (.slice A n c) n ((List.range n).map (mk8 k)) ∧ w.grownBy w' (Value.slice A n c).ownBlock := by
  have hxn : xs.length = n := by have := ho.1; omega
  go_enter Try.func71, Try.ntmps71
  go_wp2
  go_loopw [1, 5] (fun kk i wr => ∃ j : Nat, j ≤ n ∧ i = .int .i64 j ∧ kk = .int .i64 (k + j) ∧ Own 5 1 w0 wr (.slice A n c) n ((List.range j).map (mk8 k) ++ xs.drop j) ∧ w.grownBy wr (Value.slice A n c).ownBlock) (fun _ i _ => n - (intOf i).toNat)
  case atStart => exact ⟨0, by omega, rfl, by simp, by simpa using ho, World.grownBy.refl _ _⟩
  case round =>
    clear ho
    obtain ⟨j, hj, rfl, rfl, ho, hg⟩ := hrel
    by_cases hlt : j < n
    · obtain ⟨g, c', hv, hb, hs⟩ := World.ownsRow.form ho (by omega)
      injection hv with hA _ hc
      subst hA; subst hc
      obtain ⟨⟨u0, hu⟩, hf⟩ := ho.slot j (by simp; omega)
      have hg2 := hg.trans (ho.stored j (mk8 k j)).2
      have ho' := (ho.stored j (mk8 k j)).1
      rw [mark_step (mk8 k) xs j n hxn hlt] at ho'
      have H1 := Lib.hid ho'; have H3 := Lib.hid hg2
      clear ho ho' hg2 hg
      go_wp2
      go_roundw
      case rel => exact ⟨j+1, by omega, by go_num, by go_num, H1.out, H3.out⟩
      case measure => simp [intOf]; omega
    · obtain rfl : j = n := by omega
      have H1 := Lib.hid ho; have H3 := Lib.hid hg
      clear ho hg
      go_wp2
      go_ret
      exact ⟨rfl, by have := H1.out; rw [List.drop_of_length_le (by omega)] at this; simpa using this, H3.out⟩

set_option maxHeartbeats 400000 in
theorem markIntS_c (A : Option Addr) (n c : Nat) (k : Int) (xs : List Value) (w0 w : World) (ho : Own 3 1 w0 w (.slice A n c) n xs) (hk : 0 ≤ k) (hk2 : k + n ≤ 1099511627776) :
    Calls Try.prog 73 #[.slice A n c, .int .i64 k] w fun e w' => e = .returned (.int .i64 (k + n)) ∧ Own 3 1 w0 w' (.slice A n c) n ((List.range n).map (mkI k)) ∧ w.grownBy w' (Value.slice A n c).ownBlock := by
  have hxn : xs.length = n := by have := ho.1; omega
  go_enter Try.func73, Try.ntmps73
  go_wp2
  go_loopw [1, 5] (fun kk i wr => ∃ j : Nat, j ≤ n ∧ i = .int .i64 j ∧ kk = .int .i64 (k + j) ∧ Own 3 1 w0 wr (.slice A n c) n ((List.range j).map (mkI k) ++ xs.drop j) ∧ w.grownBy wr (Value.slice A n c).ownBlock) (fun _ i _ => n - (intOf i).toNat)
  case atStart => exact ⟨0, by omega, rfl, by simp, by simpa using ho, World.grownBy.refl _ _⟩
  case round =>
    clear ho
    obtain ⟨j, hj, rfl, rfl, ho, hg⟩ := hrel
    by_cases hlt : j < n
    · obtain ⟨g, c', hv, hb, hs⟩ := World.ownsRow.form ho (by omega)
      injection hv with hA _ hc
      subst hA; subst hc
      obtain ⟨⟨u0, hu⟩, hf⟩ := ho.slot j (by simp; omega)
      have hg2 := hg.trans (ho.stored j (mkI k j)).2
      have ho' := (ho.stored j (mkI k j)).1
      rw [mark_step (mkI k) xs j n hxn hlt] at ho'
      have H1 := Lib.hid ho'; have H3 := Lib.hid hg2
      clear ho ho' hg2 hg
      go_wp2
      go_roundw
      case rel => exact ⟨j+1, by omega, by go_num, by go_num, H1.out, H3.out⟩
      case measure => simp [intOf]; omega
    · obtain rfl : j = n := by omega
      have H1 := Lib.hid ho; have H3 := Lib.hid hg
      clear ho hg
      go_wp2
      go_ret
      exact ⟨rfl, by have := H1.out; rw [List.drop_of_length_le (by omega)] at this; simpa using this, H3.out⟩
set_option maxHeartbeats 400000 in
theorem heldByteS_c (A : Option Addr) (n c : Nat) (k : Int) (w : World) (h : Rd (mk8 k) w A (List.range n) c) (hk : 0 ≤ k) (hk2 : k + n ≤ 1099511627776) :
    Gives Try.prog 74 #[.slice A n c, .int .i64 k] w (.int .i64 (k + n)) := by
  go_enter Try.func74, Try.ntmps74
  go_wp2
  go_loopw [1, 5, 4] (fun kk i _ wr => ∃ j : Nat, j ≤ n ∧ i = .int .i64 j ∧ kk = .int .i64 (k + j) ∧ Ext w wr) (fun _ i _ _ => n - (intOf i).toNat)
  case atStart => exact ⟨0, by omega, rfl, by simp, Ext.refl _⟩
  case round =>
    obtain ⟨j, hj, rfl, rfl, he⟩ := hrel
    by_cases hlt : j < n
    · obtain ⟨b, off, rfl, hb, hc⟩ := h.at j (by simpa using hlt)
      simp only [List.getElem_range, mk8] at hc
      go_wp2
      go_roundw
      case rel => exact ⟨j+1, by omega, by go_num, by go_num, he⟩
      case measure => simp [intOf]; omega
    · obtain rfl : j = n := by omega
      go_wp2
      go_ret
      exact ⟨rfl, he⟩

set_option maxHeartbeats 400000 in
theorem heldIntS_c (A : Option Addr) (n c : Nat) (k : Int) (w : World) (h : Rd (mkI k) w A (List.range n) c) (hk : 0 ≤ k) (hk2 : k + n ≤ 1099511627776) :
    Gives Try.prog 76 #[.slice A n c, .int .i64 k] w (.int .i64 (k + n)) := by
  go_enter Try.func76, Try.ntmps76
  go_wp2
  go_loopw [1, 5, 4] (fun kk i _ wr => ∃ j : Nat, j ≤ n ∧ i = .int .i64 j ∧ kk = .int .i64 (k + j) ∧ Ext w wr) (fun _ i _ _ => n - (intOf i).toNat)
  case atStart => exact ⟨0, by omega, rfl, by simp, Ext.refl _⟩
  case round =>
    obtain ⟨j, hj, rfl, rfl, he⟩ := hrel
    by_cases hlt : j < n
    · obtain ⟨b, off, rfl, hb, hc⟩ := h.at j (by simpa using hlt)
      simp only [List.getElem_range, mkI] at hc
      go_wp2
      go_roundw
      case rel => exact ⟨j+1, by omega, by go_num, by go_num, he⟩
      case measure => simp [intOf]; omega
    · obtain rfl : j = n := by omega
      go_wp2
      go_ret
      exact ⟨rfl, he⟩
end Go.Proofs.Ytalnekcmfagjoaa
