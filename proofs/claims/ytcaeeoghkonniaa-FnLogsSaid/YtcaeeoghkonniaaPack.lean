/- PackBytes and PackedSize of the program and of the reference. -/
import Derived.Test.YtcaeeoghkonniaaRun
import Derived.Test.YtcaeeoghkonniaaMinMax
import Derived.Test.YtcaeeoghkonniaaPackPure
namespace Go.Proofs.Ytcaeeoghkonniaa
open Go.RowKit Go.Sort

theorem get_some {l : List UInt8} {i : Nat} (h : i < l.length) : l[i]? = some l[i] := List.getElem?_eq_getElem h
set_option maxRecDepth 100000 in
set_option maxHeartbeats 1000000 in
theorem iStartsRun_c (A : Option Addr) (l : List UInt8) (c : Nat) (a : Nat) (w : World) (h : Bs w A l c) (ha : a ≤ l.length) :
    Gives Try.prog 61 #[.slice A l.length c, .int .i64 a] w (.bool (decide (3 ≤ runAt l a))) := by
  have hl := h.len
  by_cases h2 : a + 2 < l.length
  · obtain ⟨b, off, rfl, hb, hcs⟩ := h.base (by omega)
    have hc0 := fun w' e => hcs w' e a (by omega)
    have hc1 := fun w' e => hcs w' e (a+1) (by omega)
    have hc2 := fun w' e => hcs w' e (a+2) (by omega)
    have hd : decide ((a : Int) + 2 < (l.length : Int)) = true := by simp; omega
    have hr : Hid (decide (3 ≤ runAt l a) = ((l[a].toNat : Int) == (l[a+1].toNat : Int) && ((l[a].toNat : Int) == (l[a+2].toNat : Int)))) := by
      show _ = _
      have e1 : (l[a].toNat : Int) = (l[a+1].toNat : Int) ↔ l[a] = l[a+1] := ⟨fun e => u8_inj e, fun e => by rw [e]⟩
      have e2 : (l[a].toNat : Int) = (l[a+2].toNat : Int) ↔ l[a] = l[a+2] := ⟨fun e => u8_inj e, fun e => by rw [e]⟩
      rw [Bool.eq_iff_iff]
      simp only [decide_eq_true_eq, Bool.and_eq_true, beq_iff_eq, e1, e2, run3, get_some (show a < l.length by omega), get_some (show a + 1 < l.length by omega), get_some h2, Option.some.injEq, h2, true_and]
    clear hcs
    cases d1 : ((l[a].toNat : Int) == (l[a+1].toNat : Int))
    all_goals
      go_enter Try.func61, Try.ntmps61
      go_wp2
      refine wp_region_quiet_below (by kernel_rfl) (by kernel_rfl) ?_
      repeat (go_big_quiet_step (fail))
      refine wpQuiet_nil ?_
      rintro _ ⟨⟨nq, osq⟩, rfl⟩
      go_wp2
      go_ret
      exact ⟨ret_bool (by rw [hr.out, d1]; simp), Ext_regrown _ _ (Ext.refl w)⟩
  · have hd : decide ((a : Int) + 2 < (l.length : Int)) = false := by simp; omega
    have hr : Hid (decide (3 ≤ runAt l a) = false) := by
      show _ = _
      rw [decide_eq_false_iff_not, run3]; omega
    go_enter Try.func61, Try.ntmps61
    go_wp2
    refine wp_region_quiet_below (by kernel_rfl) (by kernel_rfl) ?_
    repeat (go_big_quiet_step (fail))
    refine wpQuiet_nil ?_
    rintro _ ⟨⟨nq, osq⟩, rfl⟩
    go_wp2
    go_ret
    exact ⟨ret_bool hr.out.symm, Ext_regrown _ _ (Ext.refl w)⟩

theorem vu8_ofNat {n : Nat} (h : n < 256) : vu8 (UInt8.ofNat n) = .int .u8 (n : Int) := by
  have : (UInt8.ofNat n).toNat = n := by simp; omega
  simp only [vu8, this]
theorem wrapByte {n : Nat} (h : n < 256) : Value.int .u8 (IntKind.u8.wrap (n : Int)) = vu8 (UInt8.ofNat n) := by
  have : (UInt8.ofNat n).toNat = n := by simp; omega
  simp only [vu8, this]
  congr 1
  unfold IntKind.wrap
  simp [IntKind.bits, IntKind.signed]
  omega

set_option maxRecDepth 100000 in
set_option maxHeartbeats 2000000 in
theorem iPackBytes_c (A : Option Addr) (l : List UInt8) (c : Nat) (w : World) (h : Bs w A l c) (hL : l.length ≤ 1073741824) :
    Calls Try.prog 52 #[.slice A l.length c] w fun e w' => ∃ v, e = .returned v ∧ OwnL vu8 5 w w' v (pack l) ∧ Ext w w' := by
  have hl := h.len
  have hcap := h.cap
  go_enter Try.func52, Try.ntmps52
  go_wp2
  go_loopw [3, 4] (fun t i wr => ∃ (a : Nat) (out : List UInt8), a ≤ l.length ∧ i = .int .i64 a ∧ OwnL vu8 5 w wr t out ∧ Hid (out ++ packAt l a = pack l) ∧ Ext w wr) (fun _ i _ => l.length - (intOf i).toNat)
  case atStart => exact ⟨0, [], by omega, rfl, OwnL.empty (Ext.refl _), by simp [Hid, pack], Ext_alloc _ (Ext.refl _)⟩
  case round =>
    obtain ⟨a, out, ha, rfl, ho, hs, he⟩ := hrel
    have hout : out.length ≤ 2 * l.length := by have h1 := congrArg List.length hs.out; have h2 := pack_le l; rw [List.length_append] at h1; omega
    by_cases hlt : a < l.length
    · obtain ⟨b, off, rfl, hb, hcs⟩ := h.base (by omega)
      obtain ⟨r1, r2, _⟩ := runAt_spec l a hlt
      by_cases hr : 3 ≤ runAt l a
      · have hc := fun w' e => hcs w' e a hlt
        have hd : decide (3 ≤ runAt l a) = true := by simp [hr]
        have HD := Lib.hid hd; clear hd
        have HS : Hid (out ++ [UInt8.ofNat (128 + min (runAt l a) 127), l[a]] ++ packAt l (a + min (runAt l a) 127) = pack l) := by
          have := hs.out; rw [packAt_run hlt hr] at this; show _ = _; rw [← this]; simp
        have HM : Hid ((if (127 : Int) < (runAt l a : Int) then 127 else (runAt l a : Int)) = ((min (runAt l a) 127 : Nat) : Int)) := by
          show _ = _; split <;> omega
        generalize hM : min (runAt l a) 127 = M at *
        have hM1 : 3 ≤ M := by omega
        have hM2 : M ≤ 127 := by omega
        have hM3 : a + M ≤ l.length := by omega
        clear hM hs hcs
        have HCS : Hid (#[Value.int .u8 (128 + (M : Int)), Value.int .u8 (l[a].toNat : Int)] = ([UInt8.ofNat (128 + M), l[a]].map vu8).toArray) := by
          show _ = _
          simp only [List.map_cons, List.map_nil, vu8_ofNat (n := 128 + M) (by omega)]
          simp [vu8]
        have HB : Hid ((out.length + [UInt8.ofNat (128 + M), l[a]].length) * 1 ≤ 140737488355328) := by show _ ≤ _; simp only [List.length_cons, List.length_nil]; omega
        go_wp2_with fail
        refine (iStartsRun_c _ l c a _ (h.ext he) ha).mono ?_; rintro _ w1 ⟨rfl, he1⟩; rw [HD.out]
        go_wp2_with fail
        refine (iRunAt_c _ l c a _ ((h.ext he).ext he1)).mono ?_; rintro _ w2 ⟨rfl, he2⟩
        go_wp2_with fail
        refine (iMin_c _ _ _).mono ?_; rintro _ w3 ⟨rfl, he3⟩; rw [HM.out]
        have e3 := (he1.trans he2).trans he3
        have ho3 := ho.ext e3; have eb := he.trans e3
        clear he1 he2 he3 e3 ho he
        go_wp2_with (first
          | (at_builtin; go_must (refine wpList_appN rfl (.tmp 19) (.tmp 27) _ rfl E_u8 (by omega) w _ vu8 (fun _ => rfl) _ rfl _ _ rfl out [UInt8.ofNat (128 + M), l[a]] _ HCS.out ho3 eb rfl HB.out ?_); intro v4 w4 ho4 he4))
        go_roundw
        case rel => exact ⟨a + M, out ++ [UInt8.ofNat (128 + M), l[a]], by omega, by go_num, ho4, HS, he4⟩
        case measure => simp [intOf]; omega
      · have hd : decide (3 ≤ runAt l a) = false := by simp; omega
        have HD := Lib.hid hd; clear hd
        have HS : Hid (out ++ UInt8.ofNat (litEnd l a (a+1) - a) :: ((l.drop a).take (litEnd l a (a+1) - a) ++ packAt l (litEnd l a (a+1))) = pack l) := by
          have := hs.out; rw [packAt_lit hlt hr, litEnd_gt hlt (by omega)] at this; exact this
        have hE1 := litEnd_ge l a (a+1)
        have hE2 := (litEnd_le (l := l) (a := a) (k := a+1) (by omega) (by omega)).1
        have hE3 := (litEnd_le (l := l) (a := a) (k := a+1) (by omega) (by omega)).2
        generalize hE : litEnd l a (a+1) = E at *
        have HE := Lib.hid hE; clear hE hs
        go_wp2_with fail
        refine (iStartsRun_c _ l c a _ (h.ext he) ha).mono ?_; rintro _ w1 ⟨rfl, he1⟩; rw [HD.out]
        have ho1 := ho.ext he1; have eb := he.trans he1
        clear ho he he1
        go_wp2
        go_loopw [6] (fun i wq => ∃ k : Nat, a + 1 ≤ k ∧ k ≤ l.length ∧ k - a ≤ 127 ∧ i = .int .i64 k ∧ Hid (litEnd l a k = E) ∧ Ext w1 wq) (fun i _ => l.length - (intOf i).toNat)
        case atStart => exact ⟨a + 1, by omega, by omega, by omega, by go_num, HE, Ext.refl _⟩
        case round =>
          obtain ⟨k, hk1, hk2, hk3, rfl, hk, he⟩ := hrel
          by_cases hc : k < l.length ∧ k - a < 127 ∧ runAt l k < 3
          · obtain ⟨c1, c2, c3⟩ := hc
            have d1 : decide ((k : Int) < (l.length : Int)) = true := by simp; omega
            have d2 : decide ((k : Int) - (a : Int) < 127) = true := by simp; omega
            have d3 : decide (3 ≤ runAt l k) = false := by simp; omega
            have D3 := Lib.hid d3; clear d3
            have HK := Lib.hid ((litEnd_step ⟨c1, c2, c3⟩).symm.trans hk.out)
            go_wp2_with (go_at_call 61; refine (iStartsRun_c _ l c k _ ((h.ext eb).ext he) (by omega)).mono ?_; rintro _ w2 ⟨rfl, he2⟩; rw [D3.out])
            go_roundw
            case rel => exact ⟨k + 1, by omega, by omega, by omega, by go_num, HK, he.trans he2⟩
            case measure => simp [intOf]; omega
          · obtain rfl : k = E := (litEnd_stop hc).symm.trans hk.out
            clear hk HE
            have HCS : Hid (#[Value.int .u8 ((k : Int) - (a : Int))] = ([UInt8.ofNat (k - a)].map vu8).toArray) := by
              show _ = _
              simp only [List.map_cons, List.map_nil, vu8_ofNat (n := k - a) (by omega)]
              rw [show (((k - a : Nat) : Int)) = (k : Int) - (a : Int) by omega]
            have HB : Hid ((out.length + [UInt8.ofNat (k - a)].length) * 1 ≤ 140737488355328) := by show _ ≤ _; simp only [List.length_cons, List.length_nil]; omega
            have HL : Hid (k - a = ((l.drop a).take (k - a)).length) := by show _ = _; simp; omega
            have HB2 : Hid (((out ++ [UInt8.ofNat (k - a)]).length + ((l.drop a).take (k - a)).length) * 1 ≤ 140737488355328) := by show _ ≤ _; rw [← HL.out]; simp; omega
            have HS2 : Hid ((out ++ [UInt8.ofNat (k - a)]) ++ (l.drop a).take (k - a) ++ packAt l k = pack l) := by show _ = _; rw [← HS.out]; simp
            have HP := Lib.hid (fun w' e => part_cells (hcs w' e) a (k - a))
            clear hcs HS
            rcases (by omega : ¬ k < l.length ∨ (k < l.length ∧ ¬ k - a < 127) ∨ (k < l.length ∧ k - a < 127 ∧ ¬ runAt l k < 3)) with c1 | ⟨c1, c2⟩ | ⟨c1, c2, c3⟩
            · have d1 : decide (k < l.length) = false := by simp; omega
              clear c1 hc
              go_wp2_with (first
                | (go_at_call 61; go_must (refine (iStartsRun_c _ l c k _ ((h.ext eb).ext he) (by omega)).mono ?_); rintro _ w2 ⟨rfl, he2⟩; rw [D3.out]; have he := he.trans he2)
                | (at_builtin; refine wpList_appN rfl (.tmp 52) (.tmp 57) _ rfl E_u8 (by omega) w _ vu8 (fun _ => rfl) _ rfl _ _ rfl out [UInt8.ofNat (k - a)] _ HCS.out (ho1.ext (by assumption)) (eb.trans (by assumption)) rfl HB.out ?_; intro v4 w4 ho4 he4)
                | (at_builtin; refine wpList_appL rfl (.tmp 59) (.tmp 63) _ rfl E_u8 (by omega) w _ vu8 (fun _ => rfl) v4 rfl _ _ _ rfl (out ++ [UInt8.ofNat (k - a)]) ((l.drop a).take (k - a)) ho4 he4 HL.out (fun _ => ⟨_, rfl, HP.out _ he4⟩) HB2.out ?_; intro v5 w5 ho5 he5 _ _))
              go_roundw
              case rel => exact ⟨k, (out ++ [UInt8.ofNat (k - a)]) ++ (l.drop a).take (k - a), by omega, rfl, ho5, HS2, he5⟩
              case measure => simp [intOf]; omega
            · have d1 : decide ((k : Int) < (l.length : Int)) = true := by simp; omega
              have d2 : decide ((k : Int) - (a : Int) < 127) = false := by simp; omega
              clear hc
              go_wp2_with (first
                | (go_at_call 61; go_must (refine (iStartsRun_c _ l c k _ ((h.ext eb).ext he) (by omega)).mono ?_); rintro _ w2 ⟨rfl, he2⟩; rw [D3.out]; have he := he.trans he2)
                | (at_builtin; refine wpList_appN rfl (.tmp 52) (.tmp 57) _ rfl E_u8 (by omega) w _ vu8 (fun _ => rfl) _ rfl _ _ rfl out [UInt8.ofNat (k - a)] _ HCS.out (ho1.ext (by assumption)) (eb.trans (by assumption)) rfl HB.out ?_; intro v4 w4 ho4 he4)
                | (at_builtin; refine wpList_appL rfl (.tmp 59) (.tmp 63) _ rfl E_u8 (by omega) w _ vu8 (fun _ => rfl) v4 rfl _ _ _ rfl (out ++ [UInt8.ofNat (k - a)]) ((l.drop a).take (k - a)) ho4 he4 HL.out (fun _ => ⟨_, rfl, HP.out _ he4⟩) HB2.out ?_; intro v5 w5 ho5 he5 _ _))
              go_roundw
              case rel => exact ⟨k, (out ++ [UInt8.ofNat (k - a)]) ++ (l.drop a).take (k - a), by omega, rfl, ho5, HS2, he5⟩
              case measure => simp [intOf]; omega
            · have d1 : decide ((k : Int) < (l.length : Int)) = true := by simp; omega
              have d2 : decide ((k : Int) - (a : Int) < 127) = true := by simp; omega
              have d3 : decide (3 ≤ runAt l k) = true := by simp; omega
              have D3 := Lib.hid d3; clear d3
              clear hc
              go_wp2_with (first
                | (go_at_call 61; go_must (refine (iStartsRun_c _ l c k _ ((h.ext eb).ext he) (by omega)).mono ?_); rintro _ w2 ⟨rfl, he2⟩; rw [D3.out]; have he := he.trans he2)
                | (at_builtin; refine wpList_appN rfl (.tmp 52) (.tmp 57) _ rfl E_u8 (by omega) w _ vu8 (fun _ => rfl) _ rfl _ _ rfl out [UInt8.ofNat (k - a)] _ HCS.out (ho1.ext (by assumption)) (eb.trans (by assumption)) rfl HB.out ?_; intro v4 w4 ho4 he4)
                | (at_builtin; refine wpList_appL rfl (.tmp 59) (.tmp 63) _ rfl E_u8 (by omega) w _ vu8 (fun _ => rfl) v4 rfl _ _ _ rfl (out ++ [UInt8.ofNat (k - a)]) ((l.drop a).take (k - a)) ho4 he4 HL.out (fun _ => ⟨_, rfl, HP.out _ he4⟩) HB2.out ?_; intro v5 w5 ho5 he5 _ _))
              go_roundw
              case rel => exact ⟨k, (out ++ [UInt8.ofNat (k - a)]) ++ (l.drop a).take (k - a), by omega, rfl, ho5, HS2, he5⟩
              case measure => simp [intOf]; omega
    · go_wp2
      go_ret
      have := hs.out; rw [packAt_end (by omega)] at this
      exact ⟨_, rfl, by simpa [← this] using ho, he⟩

set_option maxRecDepth 100000 in
set_option maxHeartbeats 2000000 in
theorem sPackBytes_c (A : Option Addr) (l : List UInt8) (c : Nat) (w : World) (h : Bs w A l c) (hL : l.length ≤ 1073741824) :
    Calls Try.prog 57 #[.slice A l.length c] w fun e w' => ∃ v, e = .returned v ∧ OwnL vu8 5 w w' v (pack l) ∧ Ext w w' := by
  have hl := h.len
  have hcap := h.cap
  go_enter Try.func57, Try.ntmps57
  go_wp2
  go_loopw [3, 4] (fun t i wr => ∃ (a : Nat) (out : List UInt8), a ≤ l.length ∧ i = .int .i64 a ∧ OwnL vu8 5 w wr t out ∧ Hid (out ++ packAt l a = pack l) ∧ Ext w wr) (fun _ i _ => l.length - (intOf i).toNat)
  case atStart => exact ⟨0, [], by omega, rfl, OwnL.empty (Ext.refl _), by simp [Hid, pack], Ext_alloc _ (Ext.refl _)⟩
  case round =>
    obtain ⟨a, out, ha, rfl, ho, hs, he⟩ := hrel
    have hout : out.length ≤ 2 * l.length := by have h1 := congrArg List.length hs.out; have h2 := pack_le l; rw [List.length_append] at h1; omega
    by_cases hlt : a < l.length
    · obtain ⟨b, off, rfl, hb, hcs⟩ := h.base (by omega)
      obtain ⟨r1, r2, _⟩ := runAt_spec l a hlt
      by_cases hr : 3 ≤ runAt l a
      · have hc := fun w' e => hcs w' e a hlt
        have hw : (Lit.int .i64 (a : Int)).wf = true := WalkArith.wf_i64 (by omega)
        have HS : Hid (out ++ [UInt8.ofNat (128 + min (runAt l a) 127), l[a]] ++ packAt l (a + min (runAt l a) 127) = pack l) := by
          have := hs.out; rw [packAt_run hlt hr] at this; show _ = _; rw [← this]; simp
        have HM : Hid ((if (127 : Int) < (runAt l a : Int) then 127 else (runAt l a : Int)) = ((min (runAt l a) 127 : Nat) : Int)) := by
          show _ = _; split <;> omega
        generalize hM : min (runAt l a) 127 = M at *
        have hM1 : 3 ≤ M := by omega
        have hM2 : M ≤ 127 := by omega
        have hM3 : a + M ≤ l.length := by omega
        clear hM hs hcs
        have HCS : Hid (#[Value.int .u8 (128 + (M : Int)), Value.int .u8 (l[a].toNat : Int)] = ([UInt8.ofNat (128 + M), l[a]].map vu8).toArray) := by
          show _ = _
          simp only [List.map_cons, List.map_nil, vu8_ofNat (n := 128 + M) (by omega)]
          simp [vu8]
        have HB : Hid ((out.length + [UInt8.ofNat (128 + M), l[a]].length) * 1 ≤ 140737488355328) := by show _ ≤ _; simp only [List.length_cons, List.length_nil]; omega
        go_wp2_with fail
        refine (sRunAt_c _ l c a _ (h.ext he) hw).mono ?_; rintro _ w2 ⟨rfl, he2⟩
        go_wp2_with fail
        refine (sMin_c _ _ _).mono ?_; rintro _ w3 ⟨rfl, he3⟩; rw [HM.out]
        have e3 := he2.trans he3
        have ho3 := ho.ext e3; have eb := he.trans e3
        clear he2 he3 e3 ho he
        go_wp2_with (first
          | (at_builtin; go_must (refine wpList_appN rfl (.tmp 18) (.tmp 26) _ rfl E_u8 (by omega) w _ vu8 (fun _ => rfl) _ rfl _ _ rfl out [UInt8.ofNat (128 + M), l[a]] _ HCS.out ho3 eb rfl HB.out ?_); intro v4 w4 ho4 he4))
        go_roundw
        case rel => exact ⟨a + M, out ++ [UInt8.ofNat (128 + M), l[a]], by omega, by go_num, ho4, HS, he4⟩
        case measure => simp [intOf]; omega
      · have hw : (Lit.int .i64 (a : Int)).wf = true := WalkArith.wf_i64 (by omega)
        have HM : Hid ((if (127 : Int) < (runAt l a : Int) then 127 else (runAt l a : Int)) = (runAt l a : Int)) := by
          show _ = _; split <;> omega
        have HS : Hid (out ++ UInt8.ofNat (litEnd l a (a+1) - a) :: ((l.drop a).take (litEnd l a (a+1) - a) ++ packAt l (litEnd l a (a+1))) = pack l) := by
          have := hs.out; rw [packAt_lit hlt hr, litEnd_gt hlt (by omega)] at this; exact this
        have hE1 := litEnd_ge l a (a+1)
        have hE2 := (litEnd_le (l := l) (a := a) (k := a+1) (by omega) (by omega)).1
        have hE3 := (litEnd_le (l := l) (a := a) (k := a+1) (by omega) (by omega)).2
        generalize hE : litEnd l a (a+1) = E at *
        have HE := Lib.hid hE; clear hE hs
        have HE0 : Hid (litEnd l a a = E) := (litEnd_gt hlt (by omega)).trans HE.out
        go_wp2_with fail
        refine (sRunAt_c _ l c a _ (h.ext he) hw).mono ?_; rintro _ w2 ⟨rfl, he2⟩
        go_wp2_with fail
        refine (sMin_c _ _ _).mono ?_; rintro _ w1 ⟨rfl, he3⟩; rw [HM.out]
        have ho1 := (ho.ext he2).ext he3; have eb := (he.trans he2).trans he3
        have hr2 : (runAt l a : Int) < 3 := by omega
        clear ho he he2 he3
        go_wp2
        go_loopw [6] (fun i wq => ∃ k : Nat, a ≤ k ∧ k ≤ l.length ∧ k - a ≤ 127 ∧ i = .int .i64 k ∧ Hid (litEnd l a k = E) ∧ Ext w1 wq) (fun i _ => l.length - (intOf i).toNat)
        case atStart => exact ⟨a, by omega, by omega, by omega, rfl, HE0, Ext.refl _⟩
        case round =>
          obtain ⟨k, hk1, hk2, hk3, rfl, hk, he⟩ := hrel
          by_cases hc : k < l.length ∧ k - a < 127 ∧ runAt l k < 3
          · obtain ⟨c1, c2, c3⟩ := hc
            have d1 : decide ((k : Int) < (l.length : Int)) = true := by simp; omega
            have d2 : decide ((k : Int) - (a : Int) < 127) = true := by simp; omega
            have d3 : (runAt l k : Int) < 3 := by omega
            have hwk : (Lit.int .i64 (k : Int)).wf = true := WalkArith.wf_i64 (by omega)
            have HK := Lib.hid ((litEnd_step ⟨c1, c2, c3⟩).symm.trans hk.out)
            go_wp2_with (go_at_call 65; refine (sRunAt_c _ l c k _ ((h.ext eb).ext he) hwk).mono ?_; rintro _ w2 ⟨rfl, he2⟩)
            go_roundw
            case rel => exact ⟨k + 1, by omega, by omega, by omega, by go_num, HK, he.trans he2⟩
            case measure => simp [intOf]; omega
          · obtain rfl : k = E := (litEnd_stop hc).symm.trans hk.out
            clear hk HE HE0
            have HCS : Hid (#[Value.int .u8 (IntKind.u8.wrap (IntKind.i64.wrap ((k : Int) - (a : Int))))] = ([UInt8.ofNat (k - a)].map vu8).toArray) := by
              show _ = _
              rw [IntWalk.i64_in _ (by omega), show (k : Int) - (a : Int) = ((k - a : Nat) : Int) by omega, wrapByte (by omega)]
              rfl
            have HB : Hid ((out.length + [UInt8.ofNat (k - a)].length) * 1 ≤ 140737488355328) := by show _ ≤ _; simp only [List.length_cons, List.length_nil]; omega
            have HL : Hid (k - a = ((l.drop a).take (k - a)).length) := by show _ = _; simp; omega
            have HB2 : Hid (((out ++ [UInt8.ofNat (k - a)]).length + ((l.drop a).take (k - a)).length) * 1 ≤ 140737488355328) := by show _ ≤ _; rw [← HL.out]; simp; omega
            have HS2 : Hid ((out ++ [UInt8.ofNat (k - a)]) ++ (l.drop a).take (k - a) ++ packAt l k = pack l) := by show _ = _; rw [← HS.out]; simp
            have HP := Lib.hid (fun w' e => part_cells (hcs w' e) a (k - a))
            clear hcs HS
            rcases (by omega : ¬ k < l.length ∨ (k < l.length ∧ ¬ k - a < 127) ∨ (k < l.length ∧ k - a < 127 ∧ ¬ runAt l k < 3)) with c1 | ⟨c1, c2⟩ | ⟨c1, c2, c3⟩
            · have d1 : decide (k < l.length) = false := by simp; omega
              clear c1 hc
              go_wp2_with (first
                | (go_at_call 65; go_must (refine (sRunAt_c _ l c k _ ((h.ext eb).ext he) hwk).mono ?_); rintro _ w2 ⟨rfl, he2⟩; have he := he.trans he2))
              have hkc : k ≤ c := by omega
              have hca : ¬ c = a := by omega
              go_region_law (first
                | (refine step_appN rfl (.tmp 50) (.tmp 55) _ rfl E_u8 (by omega) w wr.drew _ vu8 (fun _ => rfl) _ rfl _ _ rfl out [UInt8.ofNat (k - a)] _ HCS.out rfl ((ho1.ext he).ext (Ext_drew (Ext.refl _))) (Ext_drew (eb.trans he)) rfl HB.out ?_; intro v4 w4 ho4 he4)
                | (refine step_appN rfl (.tmp 50) (.tmp 55) _ rfl E_u8 (by omega) w w2.drew _ vu8 (fun _ => rfl) _ rfl _ _ rfl out [UInt8.ofNat (k - a)] _ HCS.out rfl ((ho1.ext he).ext (Ext_drew (Ext.refl _))) (Ext_drew (eb.trans he)) rfl HB.out ?_; intro v4 w4 ho4 he4)
                | (refine step_appL rfl (.tmp 56) (.tmp 60) _ rfl E_u8 (by omega) w _ vu8 (fun _ => rfl) v4 rfl _ _ _ rfl (out ++ [UInt8.ofNat (k - a)]) ((l.drop a).take (k - a)) ho4 he4 HL.out (fun _ => ⟨_, rfl, HP.out _ he4⟩) HB2.out ?_; intro v5 w5 ho5 he5))
              go_wp2
              go_roundw
              case rel => exact ⟨k, (out ++ [UInt8.ofNat (k - a)]) ++ (l.drop a).take (k - a), by omega, rfl, ho5, HS2, he5⟩
              case measure => simp [intOf]; omega
            · have d1 : decide ((k : Int) < (l.length : Int)) = true := by simp; omega
              have d2 : decide ((k : Int) - (a : Int) < 127) = false := by simp; omega
              clear hc
              go_wp2_with (first
                | (go_at_call 65; go_must (refine (sRunAt_c _ l c k _ ((h.ext eb).ext he) hwk).mono ?_); rintro _ w2 ⟨rfl, he2⟩; have he := he.trans he2))
              have hkc : k ≤ c := by omega
              have hca : ¬ c = a := by omega
              go_region_law (first
                | (refine step_appN rfl (.tmp 50) (.tmp 55) _ rfl E_u8 (by omega) w wr.drew _ vu8 (fun _ => rfl) _ rfl _ _ rfl out [UInt8.ofNat (k - a)] _ HCS.out rfl ((ho1.ext he).ext (Ext_drew (Ext.refl _))) (Ext_drew (eb.trans he)) rfl HB.out ?_; intro v4 w4 ho4 he4)
                | (refine step_appN rfl (.tmp 50) (.tmp 55) _ rfl E_u8 (by omega) w w2.drew _ vu8 (fun _ => rfl) _ rfl _ _ rfl out [UInt8.ofNat (k - a)] _ HCS.out rfl ((ho1.ext he).ext (Ext_drew (Ext.refl _))) (Ext_drew (eb.trans he)) rfl HB.out ?_; intro v4 w4 ho4 he4)
                | (refine step_appL rfl (.tmp 56) (.tmp 60) _ rfl E_u8 (by omega) w _ vu8 (fun _ => rfl) v4 rfl _ _ _ rfl (out ++ [UInt8.ofNat (k - a)]) ((l.drop a).take (k - a)) ho4 he4 HL.out (fun _ => ⟨_, rfl, HP.out _ he4⟩) HB2.out ?_; intro v5 w5 ho5 he5))
              go_wp2
              go_roundw
              case rel => exact ⟨k, (out ++ [UInt8.ofNat (k - a)]) ++ (l.drop a).take (k - a), by omega, rfl, ho5, HS2, he5⟩
              case measure => simp [intOf]; omega
            · have d1 : decide ((k : Int) < (l.length : Int)) = true := by simp; omega
              have d2 : decide ((k : Int) - (a : Int) < 127) = true := by simp; omega
              have d3 : ¬ (runAt l k : Int) < 3 := by omega
              have hwk : (Lit.int .i64 (k : Int)).wf = true := WalkArith.wf_i64 (by omega)
              clear hc
              go_wp2_with (first
                | (go_at_call 65; go_must (refine (sRunAt_c _ l c k _ ((h.ext eb).ext he) hwk).mono ?_); rintro _ w2 ⟨rfl, he2⟩; have he := he.trans he2))
              have hkc : k ≤ c := by omega
              have hca : ¬ c = a := by omega
              go_region_law (first
                | (refine step_appN rfl (.tmp 50) (.tmp 55) _ rfl E_u8 (by omega) w wr.drew _ vu8 (fun _ => rfl) _ rfl _ _ rfl out [UInt8.ofNat (k - a)] _ HCS.out rfl ((ho1.ext he).ext (Ext_drew (Ext.refl _))) (Ext_drew (eb.trans he)) rfl HB.out ?_; intro v4 w4 ho4 he4)
                | (refine step_appN rfl (.tmp 50) (.tmp 55) _ rfl E_u8 (by omega) w w2.drew _ vu8 (fun _ => rfl) _ rfl _ _ rfl out [UInt8.ofNat (k - a)] _ HCS.out rfl ((ho1.ext he).ext (Ext_drew (Ext.refl _))) (Ext_drew (eb.trans he)) rfl HB.out ?_; intro v4 w4 ho4 he4)
                | (refine step_appL rfl (.tmp 56) (.tmp 60) _ rfl E_u8 (by omega) w _ vu8 (fun _ => rfl) v4 rfl _ _ _ rfl (out ++ [UInt8.ofNat (k - a)]) ((l.drop a).take (k - a)) ho4 he4 HL.out (fun _ => ⟨_, rfl, HP.out _ he4⟩) HB2.out ?_; intro v5 w5 ho5 he5))
              go_wp2
              go_roundw
              case rel => exact ⟨k, (out ++ [UInt8.ofNat (k - a)]) ++ (l.drop a).take (k - a), by omega, rfl, ho5, HS2, he5⟩
              case measure => simp [intOf]; omega
    · go_wp2
      go_ret
      have := hs.out; rw [packAt_end (by omega)] at this
      exact ⟨_, rfl, by simpa [← this] using ho, he⟩


end Go.Proofs.Ytcaeeoghkonniaa
