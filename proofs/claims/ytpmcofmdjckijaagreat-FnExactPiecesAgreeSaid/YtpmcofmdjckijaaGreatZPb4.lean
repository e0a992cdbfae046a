/- Texts, laid into one. -/
import Derived.Test.YtpmcofmdjckijaaGreatZPb1
set_option linter.unusedVariables false
set_option linter.unusedSimpArgs false
set_option maxRecDepth 100000
set_option maxHeartbeats 16000000
namespace Go.Proofs.YtpmcofmdjckijaaGreat
open Go.RowKit Go.Sort
theorem E_u8 : Elem Tryz.prog 22 5 1 1 (.int .u8 0) := ⟨Tryz.underlying22, by kernel_rfl, rfl, by omega⟩
theorem E_int : Elem Tryz.prog 53 3 1 8 (.int .i64 0) := ⟨Tryz.underlying53, by kernel_rfl, rfl, by omega⟩
theorem fill_step {α : Type} (f : α → Value) (l : List α) (z : Value) (k : Nat) (hk : k < l.length) :
 ((l.take k).map f ++ List.replicate (l.length - k) z).set k (f l[k]) = (l.take (k+1)).map f ++ List.replicate (l.length - (k+1)) z := by
 rw [List.take_succ_eq_append_getElem hk, List.map_append, List.set_append_right _ _ (by simp; omega)]
 have : l.length - k = (l.length - (k+1)) + 1 := by omega
 rw [this, List.replicate_succ]
 simp [Nat.min_eq_left (Nat.le_of_lt hk)]
theorem toByteS_c (A : Option Addr) (l : List _) (c : Nat) (w : World) (h : Rd0 vu8 w A l c) (hL : l.length ≤ 1048576) :
 Calls Tryz.prog 13 #[.slice A l.length c] w fun e w' => ∃ v, e = .returned v ∧ Own 5 1 w w' v l.length (l.map vu8) ∧ Ext w w' := by
 go_enter Tryz.func13, Tryz.ntmps13
 go_wp2_with (first
  | (at_make; refine wpList_mk rfl _ _ _ rfl E_u8 w w (Ext.refl w) l.length rfl rfl (by omega) (by simp [maxLen]; omega) ?_; intro w1 ho he _))
 go_loopw [4] (fun i wr => ∃ k : Nat, k ≤ l.length ∧ i = .int .i64 k ∧ Own 5 1 w wr (.slice (some ⟨w.heap.size, 0, none⟩) l.length l.length) l.length ((l.take k).map vu8 ++ List.replicate (l.length - k) (.int .u8 0)) ∧ Ext w wr) (fun i _ => l.length - (intOf i).toNat)
 case atStart => exact ⟨0, by omega, rfl, by rw [made_one _ rfl] at ho; simpa using ho, he⟩
 case round =>
  clear ho he
  obtain ⟨k, hk, rfl, ho, he⟩ := hrel
  by_cases hlt : k < l.length
  ·obtain ⟨b, off, rfl, hb, hc⟩ := h.at k hlt
   obtain ⟨⟨u0, hu⟩, hf⟩ := ho.slot k (by simp; omega)
   obtain ⟨ho', he'⟩ := ho.store he k (vu8 l[k])
   rw [fill_step vu8 l _ k hlt] at ho'
   clear h ho
   go_wp2
   go_roundw
   case rel => exact ⟨k+1, by omega, by go_num, ho', he'⟩
   case measure => simp [intOf]; omega
  ·obtain rfl : k = l.length := by omega
   go_wp2
   go_ret
   exact ⟨_, rfl, by simpa using ho, he⟩
theorem toIntS_c (A : Option Addr) (l : List _) (c : Nat) (w : World) (h : Rd0 vint w A l c) (hL : l.length ≤ 1048576) :
 Calls Tryz.prog 96 #[.slice A l.length c] w fun e w' => ∃ v, e = .returned v ∧ Own 3 1 w w' v l.length (l.map vint) ∧ Ext w w' := by
 go_enter Tryz.func96, Tryz.ntmps96
 go_wp2_with (first
  | (at_make; refine wpList_mk rfl _ _ _ rfl E_int w w (Ext.refl w) l.length rfl rfl (by omega) (by simp [maxLen]; omega) ?_; intro w1 ho he _))
 go_loopw [4] (fun i wr => ∃ k : Nat, k ≤ l.length ∧ i = .int .i64 k ∧ Own 3 1 w wr (.slice (some ⟨w.heap.size, 0, none⟩) l.length l.length) l.length ((l.take k).map vint ++ List.replicate (l.length - k) (.int .i64 0)) ∧ Ext w wr) (fun i _ => l.length - (intOf i).toNat)
 case atStart => exact ⟨0, by omega, rfl, by rw [made_one _ rfl] at ho; simpa using ho, he⟩
 case round =>
  clear ho he
  obtain ⟨k, hk, rfl, ho, he⟩ := hrel
  by_cases hlt : k < l.length
  ·obtain ⟨b, off, rfl, hb, hc⟩ := h.at k hlt
   obtain ⟨⟨u0, hu⟩, hf⟩ := ho.slot k (by simp; omega)
   obtain ⟨ho', he'⟩ := ho.store he k (vint l[k])
   rw [fill_step vint l _ k hlt] at ho'
   clear h ho
   go_wp2
   go_roundw
   case rel => exact ⟨k+1, by omega, by go_num, ho', he'⟩
   case measure => simp [intOf]; omega
  ·obtain rfl : k = l.length := by omega
   go_wp2
   go_ret
   exact ⟨_, rfl, by simpa using ho, he⟩
def mk8 (k : Int) (i : Nat) : Value := .int .u8 (IntKind.u8.wrap (k + i))
def mkI (k : Int) (i : Nat) : Value := .int .i64 (k + i)
end Go.Proofs.YtpmcofmdjckijaaGreat
