/- MergeCoverage of the program and of the reference. -/
import Derived.Test.YtalnekcmfagjoaaCopy
import Derived.Test.YtalnekcmfagjoaaMinMax
namespace Go.Proofs.Ytalnekcmfagjoaa
open Go.RowKit Go.Sort

set_option maxHeartbeats 400000 in
theorem eqIntS_c (A A' : Option Addr) (l l' : List Int) (c c' : Nat) (w : World) (h : Is w A l c) (h' : Is w A' l' c') :
    Gives Try.prog 100 #[.slice A l.length c, .slice A' l'.length c'] w (.bool (l == l')) := by
  have hl := h.len; have hl' := h'.len
  by_cases hn : l.length = l'.length
  · have hb1 : ((l.length : Int) != (l'.length : Int)) = false := by simp [hn]
    have H := Lib.hid hn; clear hn
    go_enter Try.func100, Try.ntmps100
    go_wp2
    go_loopw [5, 4] (fun i v wr => ∃ k : Nat, k ≤ l.length ∧ i = .int .i64 k ∧ Hid (l.take k = l'.take k) ∧ Ext w wr) (fun i _ _ => l.length - (intOf i).toNat)
    case atStart => exact ⟨0, by omega, rfl, by simp [Hid], Ext.refl _⟩
    case round =>
      obtain ⟨k, hk, rfl, ht, he⟩ := hrel
      by_cases hlt : k < l.length
      · have hlt' : k < l'.length := by have := H.out; omega
        obtain ⟨b, off, rfl, hb, hc⟩ := h.at k hlt
        obtain ⟨b', off', rfl, hb', hc'⟩ := h'.at k hlt'
        clear h h'
        go_wp2
        refine wp_region_quiet_below (by kernel_rfl) (by kernel_rfl) ?_
        repeat (go_big_quiet_step (fail))
        refine wpQuiet_nil ?_
        rintro _ ⟨⟨nq, osq⟩, rfl⟩
        go_wp2
        · have hne : (l[k] != l'[k]) = true := by assumption
          go_ret
          refine ⟨ret_bool ?_, Ext_regrown _ _ he⟩
          symm; rw [beq_eq_false_iff_ne]; rintro rfl; simp at hne
        · have hne : (l[k] != l'[k]) = false := by assumption
          go_roundw
          case rel => exact ⟨k+1, by omega, by go_num, take_eq_succ hlt hlt' ht (by simpa using hne), Ext_regrown _ _ he⟩
          case measure => simp [intOf]; omega
      · go_wp2
        go_ret
        refine ⟨ret_bool ?_, he⟩
        have ht := ht.out; have H := H.out
        rw [List.take_of_length_le (by omega), List.take_of_length_le (by omega)] at ht
        simp [ht]
  · have hb1 : ((l.length : Int) != (l'.length : Int)) = true := by simp; omega
    go_enter Try.func100, Try.ntmps100
    go_wp2
    go_ret
    refine ⟨ret_bool ?_, Ext.refl _⟩
    symm; rw [beq_eq_false_iff_ne]; rintro rfl; exact hn rfl

def at0 (l : List Int) (i : Nat) : Int := l.getD i 0
theorem at0_in {l : List Int} {i : Nat} (h : i < l.length) : at0 l i = l[i] := by unfold at0; simp [h]
theorem at0_out {l : List Int} {i : Nat} (h : ¬ i < l.length) : at0 l i = 0 := by unfold at0; simp [List.getElem?_eq_none (Nat.le_of_not_lt h)]
def merged (a b : List Int) : List Int := (List.range (max a.length b.length)).map fun i => wrap64 (at0 a i + at0 b i)
theorem merged_len (l l' : List Int) : (merged l l').length = max l.length l'.length := by simp [merged]
theorem merged_take {l l' : List Int} {k : Nat} (hk : k < max l.length l'.length) : (merged l l').take k ++ [wrap64 (at0 l k + at0 l' k)] = (merged l l').take (k+1) := by
  have hk' : k < (merged l l').length := by rw [merged_len]; exact hk
  rw [List.take_succ_eq_append_getElem hk']
  simp [merged]
end Go.Proofs.Ytalnekcmfagjoaa
