/- MergeCoverage of the program and of the reference. -/
import Derived.Test.YtdhagklecmbckaaCopy
import Derived.Test.YtdhagklecmbckaaMinMax
namespace Go.Proofs.Ytdhagklecmbckaa
open Go.RowKit Go.Sort

set_option maxHeartbeats 400000 in
theorem eqIntS_c (A A' : Option Addr) (l l' : List Int) (c c' : Nat) (w : World) (h : Is w A l c) (h' : Is w A' l' c') :
    Gives Try.prog 46 #[.slice A l.length c, .slice A' l'.length c'] w (.bool (l == l')) := by
  have hl := h.len; have hl' := h'.len
  by_cases hn : l.length = l'.length
  · have hb1 : ((l.length : Int) != (l'.length : Int)) = false := by simp [hn]
    have H := Lib.hid hn; clear hn
    go_enter Try.func46, Try.ntmps46
    go_wp2
    go_loopw [5, 4] (fun i v wr => ∃ k : Nat, k ≤ l.length ∧ i = .int .i64 k ∧ Hid (l.take k = l'.take k) ∧ Ext w wr) (fun i _ _ => l.length - (intOf i).toNat)
    case atStart => exact ⟨0, by omega, rfl, by simp [Hid], Ext.refl _⟩
    case round =>
      obtain ⟨k, hk, rfl, ht, he⟩ := hrel
      by_cases hlt : k < l.length
      · have hlt' : k < l'.length := by have := H.out; omega
        obtain ⟨b, off, rfl, hb, hc⟩ := h.at k hlt
        obtain ⟨b', off', rfl, hb', hc'⟩ := h'.at k hlt'
        clear h h'
        go_wp2
        refine wp_region_quiet_below (by kernel_rfl) (by kernel_rfl) ?_
        repeat (go_big_quiet_step (fail))
        refine wpQuiet_nil ?_
        rintro _ ⟨⟨nq, osq⟩, rfl⟩
        go_wp2
        · have hne : (l[k] != l'[k]) = true := by assumption
          go_ret
          refine ⟨ret_bool ?_, Ext_regrown _ _ he⟩
          symm; rw [beq_eq_false_iff_ne]; rintro rfl; simp at hne
        · have hne : (l[k] != l'[k]) = false := by assumption
          go_roundw
          case rel => exact ⟨k+1, by omega, by go_num, take_eq_succ hlt hlt' ht (by simpa using hne), Ext_regrown _ _ he⟩
          case measure => simp [intOf]; omega
      · go_wp2
        go_ret
        refine ⟨ret_bool ?_, he⟩
        have ht := ht.out; have H := H.out
        rw [List.take_of_length_le (by omega), List.take_of_length_le (by omega)] at ht
        simp [ht]
  · have hb1 : ((l.length : Int) != (l'.length : Int)) = true := by simp; omega
    go_enter Try.func46, Try.ntmps46
    go_wp2
    go_ret
    refine ⟨ret_bool ?_, Ext.refl _⟩
    symm; rw [beq_eq_false_iff_ne]; rintro rfl; exact hn rfl

def at0 (l : List Int) (i : Nat) : Int := l.getD i 0
theorem at0_in {l : List Int} {i : Nat} (h : i < l.length) : at0 l i = l[i] := by unfold at0; simp [h]
theorem at0_out {l : List Int} {i : Nat} (h : ¬ i < l.length) : at0 l i = 0 := by unfold at0; simp [List.getElem?_eq_none (Nat.le_of_not_lt h)]
def merged (a b : List Int) : List Int := (List.range (max a.length b.length)).map fun i => wrap64 (at0 a i + at0 b i)
set_option maxHeartbeats 400000 in
theorem elementAt_c (A : Option Addr) (l : List Int) (c : Nat) (i : Nat) (w : World) (h : Is w A l c) (hi : (i : Int) ≤ 140737488351232) :
    Gives Try.prog 104 #[.slice A l.length c, .int .i64 i] w (.int .i64 (at0 l i)) := by
  have hl := h.len
  by_cases hlt : i < l.length
  · obtain ⟨b, off, rfl, hb, hc⟩ := h.at i hlt
    have hv := Lib.hid (at0_in hlt)
    rw [hv.out]
    have d : decide ((l.length : Int) ≤ (i : Int)) = false := by simp; omega
    have d' : decide (l.length ≤ i) = false := by simp; omega
    go_enter Try.func104, Try.ntmps104
    go_wp2
    go_ret
    exact ⟨rfl, Ext.refl _⟩
  · have hv := Lib.hid (at0_out hlt)
    rw [hv.out]
    have d : decide (l.length ≤ i) = true := by simp; omega
    go_enter Try.func104, Try.ntmps104
    go_wp2
    go_ret
    exact ⟨rfl, Ext.refl _⟩
set_option maxRecDepth 100000 in
set_option maxHeartbeats 1000000 in
theorem iMerge_c (A A' : Option Addr) (l l' : List Int) (c c' : Nat) (w : World) (h : Is w A l c) (h' : Is w A' l' c') (hL : l.length ≤ 1048576) (hL' : l'.length ≤ 1048576) :
    Calls Try.prog 45 #[.slice A l.length c, .slice A' l'.length c'] w fun e w' => ∃ v, e = .returned v ∧ OwnL vint 3 w w' v (merged l l') ∧ Ext w w' := by
  have HM : Hid ((if (l.length : Int) < (l'.length : Int) then (l'.length : Int) else (l.length : Int)) = ((max l.length l'.length : Nat) : Int)) := by show _ = _; split <;> omega
  have hml : (merged l l').length = max l.length l'.length := by simp [merged]
  have hmap : (merged l l').map vint = (List.range (max l.length l'.length)).map (fun i => Value.int .i64 (wrap64 (at0 l i + at0 l' i))) := by simp [merged, vint, Function.comp_def]
  have HL := Lib.hid hml; have HP := Lib.hid hmap; clear hml hmap
  generalize hn : max l.length l'.length = n at *
  have hn1 : n ≤ 1048576 := by omega
  clear hn
  go_enter Try.func45, Try.ntmps45
  go_wp2_with fail
  refine (iMax_c _ _ _).mono ?_; rintro _ w1 ⟨rfl, he1⟩; rw [HM.out]
  go_wp2_with (first
    | (at_make; refine wpList_mk rfl _ _ _ rfl E_int w w1 he1 n rfl rfl (by omega) (by simp [maxLen]; omega) ?_; intro w2 ho he _))
  go_loopw [15, 6] (fun i _ wr => ∃ k : Nat, k ≤ n ∧ i = .int .i64 k ∧ Own 3 1 w wr (.slice (some ⟨w1.heap.size, 0, none⟩) n n) n ((List.range k).map (fun i => Value.int .i64 (wrap64 (at0 l i + at0 l' i))) ++ (List.replicate n (Value.int .i64 0)).drop k) ∧ Ext w wr) (fun i _ _ => n - (intOf i).toNat)
  case atStart => exact ⟨0, by omega, rfl, by rw [made_one _ rfl] at ho; simpa using ho, he⟩
  case round =>
    clear ho he he1
    obtain ⟨k, hk, rfl, ho, he⟩ := hrel
    by_cases hlt : k < n
    · go_wp2_with fail
      refine (elementAt_c _ l c k _ (h.ext he) (by omega)).mono ?_; rintro _ w3 ⟨rfl, he3⟩
      go_wp2_with fail
      refine (elementAt_c _ l' c' k _ ((h'.ext he).ext he3) (by omega)).mono ?_; rintro _ w4 ⟨rfl, he4⟩
      have ho4 := (Own.ext ho he3).ext he4; have e4 := (he.trans he3).trans he4
      clear ho he he3 he4
      obtain ⟨⟨u0, hu⟩, hf⟩ := ho4.slot k (by simp; omega)
      obtain ⟨ho', he'⟩ := ho4.store e4 k (Value.int .i64 (wrap64 (at0 l k + at0 l' k)))
      rw [mark_step (fun i => Value.int .i64 (wrap64 (at0 l i + at0 l' i))) _ k n (by simp) hlt] at ho'
      have H1 := Lib.hid ho'; have H2 := Lib.hid he'
      clear ho' he' ho4 e4
      go_wp2
      go_roundw
      case rel => exact ⟨k+1, by omega, by go_num, H1.out, H2.out⟩
      case measure => simp [intOf]; omega
    · obtain rfl : k = n := by omega
      have H1 := Lib.hid ho; clear ho
      go_wp2
      go_ret
      refine ⟨_, rfl, ?_, he⟩
      have := H1.out
      unfold OwnL
      rw [HL.out, HP.out]
      rw [List.drop_of_length_le (by simp), List.append_nil] at this
      exact this

theorem merged_len (l l' : List Int) : (merged l l').length = max l.length l'.length := by simp [merged]
theorem merged_take {l l' : List Int} {k : Nat} (hk : k < max l.length l'.length) : (merged l l').take k ++ [wrap64 (at0 l k + at0 l' k)] = (merged l l').take (k+1) := by
  have hk' : k < (merged l l').length := by rw [merged_len]; exact hk
  rw [List.take_succ_eq_append_getElem hk']
  simp [merged]
set_option maxRecDepth 100000 in
set_option maxHeartbeats 1000000 in
theorem sMerge_c (A A' : Option Addr) (l l' : List Int) (c c' : Nat) (w : World) (h : Is w A l c) (h' : Is w A' l' c') (hL : l.length ≤ 1048576) (hL' : l'.length ≤ 1048576) (hw : ∀ i, wrap64 (at0 l i) = at0 l i) :
    Calls Try.prog 43 #[.slice A l.length c, .slice A' l'.length c'] w fun e w' => ∃ v, e = .returned v ∧ OwnL vint 3 w w' v (merged l l') ∧ Ext w w' := by
  have hwH := Lib.hid hw; clear hw
  have HL := Lib.hid (merged_len l l')
  go_enter Try.func43, Try.ntmps43
  go_wp2
  go_loopw [5, 6] (fun t i wr => ∃ k : Nat, k ≤ max l.length l'.length ∧ i = .int .i64 k ∧ OwnL vint 3 w wr t ((merged l l').take k) ∧ Ext w wr) (fun _ i _ => max l.length l'.length - (intOf i).toNat)
  case atStart => exact ⟨0, by omega, rfl, OwnL.empty (Ext.refl _), Ext_alloc _ (Ext.refl _)⟩
  case round =>
    obtain ⟨k, hk, rfl, ho, he⟩ := hrel
    have hlen : ((merged l l').take k).length = k := by rw [List.length_take, merged_len]; omega
    by_cases hlt : k < max l.length l'.length
    · have HT := Lib.hid (merged_take hlt)
      have HB : Hid ((((merged l l').take k).length + [wrap64 (at0 l k + at0 l' k)].length) * 8 ≤ 140737488355328) := by show _ ≤ _; rw [hlen]; simp only [List.length_cons, List.length_nil]; omega
      clear hlen
      rcases (by omega : (k < l.length ∧ k < l'.length) ∨ (k < l.length ∧ ¬ k < l'.length) ∨ (¬ k < l.length ∧ k < l'.length)) with ⟨q1, q2⟩ | ⟨q1, q2⟩ | ⟨q1, q2⟩
      · obtain ⟨b, off, rfl, hb, hc⟩ := h.at k q1
        obtain ⟨b', off', rfl, hb', hc'⟩ := h'.at k q2
        have V : Hid (wrap64 (at0 l k + at0 l' k) = wrap64 (l[k] + l'[k])) := by show _ = _; rw [at0_in q1, at0_in q2]
        have d1 : decide (k < l.length) = true := by simp [q1]
        have d2 : decide (k < l'.length) = true := by simp [q2]
        go_wp2_with (first
          | (at_builtin; go_must (refine wpList_appN rfl (.tmp 39) (.tmp 41) _ rfl E_int (by omega) w _ vint (fun _ => rfl) _ rfl _ _ rfl ((merged l l').take k) [wrap64 (at0 l k + at0 l' k)] _ (by rw [V.out]; rfl) ho he rfl HB.out ?_); intro v1 w1 ho1 he1; rw [HT.out] at ho1))
        go_roundw
        case rel => exact ⟨k+1, by omega, by go_num, ho1, he1⟩
        case measure => simp [intOf]; omega
      · obtain ⟨b, off, rfl, hb, hc⟩ := h.at k q1
        have V : Hid (wrap64 (at0 l k + at0 l' k) = l[k]) := by show _ = _; rw [at0_out q2, Int.add_zero, hwH.out, at0_in q1]
        have d1 : decide (k < l.length) = true := by simp [q1]
        have d2 : decide (k < l'.length) = false := by simp; omega
        go_wp2_with (first
          | (at_builtin; go_must (refine wpList_appN rfl (.tmp 39) (.tmp 41) _ rfl E_int (by omega) w _ vint (fun _ => rfl) _ rfl _ _ rfl ((merged l l').take k) [wrap64 (at0 l k + at0 l' k)] _ (by rw [V.out]; rfl) ho he rfl HB.out ?_); intro v1 w1 ho1 he1; rw [HT.out] at ho1))
        go_roundw
        case rel => exact ⟨k+1, by omega, by go_num, ho1, he1⟩
        case measure => simp [intOf]; omega
      · obtain ⟨b', off', rfl, hb', hc'⟩ := h'.at k q2
        have V : Hid (wrap64 (at0 l k + at0 l' k) = wrap64 l'[k]) := by show _ = _; rw [at0_out q1, at0_in q2, Int.zero_add]
        have d1 : decide (k < l.length) = false := by simp; omega
        have d2 : decide (k < l'.length) = true := by simp [q2]
        go_wp2_with (first
          | (at_builtin; go_must (refine wpList_appN rfl (.tmp 39) (.tmp 41) _ rfl E_int (by omega) w _ vint (fun _ => rfl) _ rfl _ _ rfl ((merged l l').take k) [wrap64 (at0 l k + at0 l' k)] _ (by rw [V.out]; first | rfl | (simp [vint])) ho he rfl HB.out ?_); intro v1 w1 ho1 he1; rw [HT.out] at ho1))
        go_roundw
        case rel => exact ⟨k+1, by omega, by go_num, ho1, he1⟩
        case measure => simp [intOf]; omega
    · have d1 : decide (k < l.length) = false := by simp; omega
      have d2 : decide (k < l'.length) = false := by simp; omega
      have HT : Hid ((merged l l').take k = merged l l') := by show _ = _; rw [List.take_of_length_le (by rw [merged_len]; omega)]
      go_wp2
      go_ret
      exact ⟨_, rfl, by rw [HT.out] at ho; exact ho, he⟩
end Go.Proofs.Ytdhagklecmbckaa
